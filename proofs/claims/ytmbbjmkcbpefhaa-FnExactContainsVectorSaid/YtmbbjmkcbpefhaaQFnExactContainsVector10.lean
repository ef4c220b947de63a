-- Texts of this claim, merged by packw.py (a program of this session's).
import Derived.Test.YtmbbjmkcbpefhaaQFnExactContainsVector2
import Derived.Test.YtmbbjmkcbpefhaaQFnExactContainsVector9
import Derived.Test.YtmbbjmkcbpefhaaQFnExactContainsVector3
import Derived.Test.YtmbbjmkcbpefhaaQFnExactContainsVector5

section
namespace Go.Proofs.Ytmbbjmkcbpefhaa.F
open Go.RowKit Go.Proofs.YtmbbjmkcbpefhaaW.PrintWords Go.Proofs.YtmbbjmkcbpefhaaW.PrintLast Go.Proofs.YtmbbjmkcbpefhaaW.PrintMore
attribute [local go_sem] max2_int min2_int max_two min_two max_three min_three max_four min_four   -- for this text's walks alone
set_option linter.unusedVariables false
set_option linter.unusedSimpArgs false
/-! ### laws_eqSpace: function 21 -/
def laws_eqSpace.f (k : Nat) (a0_0 : Int) (a0_1 : Int) (l0_2 : List (List Int)) (a1_0 : Int) (a1_1 : Int) (l1_2 : List (List Int)) : Option (Bool) := if a0_0 = a1_0 then (if a0_1 = a1_1 then ((laws_eqInt64SS.f k l0_2 l1_2).bind fun t103 => (if t103 = true then (some true) else (some false))) else (some false)) else (some false)
theorem Z21.bb {w0 w w1 : World} {g : Nat} {o : Obj} (_B : Aside0 (w0.heap[g]? = some o)) (h : w.heap[g]? = some o) (hb : Below w.heap.size w w1) : w1.heap[g]? = some o := blk_below h hb
theorem Z21.bl {w0 w : World} {g : Nat} {o : Obj} (_B : Aside0 (w0.heap[g]? = some o)) (h : w.heap[g]? = some o) : g < w.heap.size := blk_lt h
theorem Z21.k {p : Prop} (h : p) : Aside0 p := ⟨h⟩
theorem Z21.z9 {P : Prop} (h : P := by (try simp only [List.map_toArray, List.map_cons, List.map_nil]); first | done | rfl | (simp only [List.length_drop, List.length_take]; rfl)) : P := h
theorem Z21.z8 {P : Prop} (h : P := by rw [hg]; exact (below_size Z21.z0)) : P := h
theorem Z21.z7 {P : Prop} (h : P := by rw [hg]; exact (below_size Z21.z1)) : P := h
theorem Z21.z6 {P : Prop} (h : P := by repeat (first | exact (Kd.C_below HR0_2.out HB.out) | (with_reducible refine Kd.C_alloc ?_ _) | (with_reducible refine Kd.C_drewN ?_ _) | (with_reducible refine Kd.C_drew ?_))) : P := h
theorem Z21.z5 {P : Prop} (h : P := by repeat (first | exact (Kd.C_below HR1_2.out HB.out) | (with_reducible refine Kd.C_alloc ?_ _) | (with_reducible refine Kd.C_drewN ?_ _) | (with_reducible refine Kd.C_drew ?_))) : P := h
theorem Z21.z4 {P : Prop} (h : P := by first | rfl | (simp [errW_none, errW_some] <;> rfl) | (simp [*, errW_none, errW_some] <;> rfl)) : P := h
theorem Z21.z3 {P : Prop} (h : P := by repeat (first | (with_reducible first | exact HB.out | apply below_alloc | apply pw_below_drewN | apply below_drew1 | refine below_set ?_ GE101.out | refine below_set ?_ GE102.out) | exact HB.out)) : P := h
theorem Z21.z2 {P : Prop} (h : P := by (with_reducible repeat (first | refine blk_drewN ?_ _ | refine blk_drew ?_ | refine blk_alloc ?_ _)); exact BK101.out) : P := h
theorem Z21.z1 {P : Prop} (h : P := by repeat (first | (with_reducible first | exact HB.out | apply below_alloc | apply pw_below_drewN | apply below_drew1) | exact HB.out)) : P := h
theorem Z21.z0 {P : Prop} (h : P := by repeat (first | (with_reducible first | exact HB.out | apply below_alloc | apply pw_below_drewN | apply below_drew1 | refine below_set ?_ GE101.out) | exact HB.out)) : P := h
set_option maxHeartbeats 8000000 in
set_option maxRecDepth 100000 in
theorem laws_eqSpace.calls (k : Nat) (a0_0 : Int) (a0_1 : Int) (A0_2 : Option Addr) (c0_2 : Nat) (l0_2 : List (List Int)) (a1_0 : Int) (a1_1 : Int) (A1_2 : Option Addr) (c1_2 : Nat) (l1_2 : List (List Int)) (r : Bool) (w : World) (hr0_2 : Kd.C (Kd.slice 2 (Kd.int .i64)) w A0_2 l0_2.length l0_2) (hc0_2 : l0_2.length ≤ c0_2) (hr1_2 : Kd.C (Kd.slice 2 (Kd.int .i64)) w A1_2 l1_2.length l1_2) (hc1_2 : l1_2.length ≤ c1_2) (h : laws_eqSpace.f k a0_0 a0_1 l0_2 a1_0 a1_1 l1_2 = some r) :
  Calls Try.prog 21 #[.agg #[.int .i64 a0_0, .int .i64 a0_1, .slice A0_2 l0_2.length c0_2], .agg #[.int .i64 a1_0, .int .i64 a1_1, .slice A1_2 l1_2.length c1_2]] w fun e w' => e = .returned (.bool r) ∧ Below w.heap.size w w' := by
 have hu41 := Try.underlying41
 have HR0_2 := Z21.k hr0_2
 have HC0_2 := Z21.k hc0_2
 clear hr0_2 hc0_2
 have HR1_2 := Z21.k hr1_2
 have HC1_2 := Z21.k hc1_2
 clear hr1_2 hc1_2
 have HB := Z21.k (Below.refl w.heap.size w)
 have H : (if a0_0 = a1_0 then (if a0_1 = a1_1 then ((laws_eqInt64SS.f k l0_2 l1_2).bind fun t103 => (if t103 = true then (some true) else (some false))) else (some false)) else (some false)) = some r := h
 clear h
 by_cases c3 : a0_0 = a1_0
 ·rw [if_pos c3] at H
  have c3b0 : (a0_0 == a1_0) = true := beq_iff_eq.mpr c3
  have c3b1 : (a0_0 != a1_0) = false := bne_eq_false_iff_eq.mpr c3
  clear c3
  by_cases c4 : a0_1 = a1_1
  ·rw [if_pos c4] at H
   have c4b0 : (a0_1 == a1_1) = true := beq_iff_eq.mpr c4
   have c4b1 : (a0_1 != a1_1) = false := bne_eq_false_iff_eq.mpr c4
   clear c4
   replace H := Option.bind_eq_some_iff.mp H
   obtain ⟨t103, A50, H⟩ := H
   replace H : (if t103 = true then (some true) else (some false)) = some r := H
   have A5 := Z21.k A50
   clear A50
   by_cases c6 : t103 = true
   ·subst c6
    have H1 : (some true) = some r := by rw [if_pos rfl] at H; exact H
    clear H
    have H := H1
    clear H1
    obtain rfl := Option.some.inj H
    go_enter Try.func21, Try.ntmps21
    go_wp2_with (first | ((with_reducible refine gate_dst (N := 2) rfl ?_); refine box_event ?hg (N := 2) ?hd (cs := #[.int .i64 a0_0, .int .i64 a0_1, .slice A0_2 l0_2.length c0_2]) (t := 41) ?hr ?_; (case hd => rfl); (case hg => rfl); (case hr => first | (go_simp; done) | (go_simp; rfl)); intro gb101 hg w7 hbox hb; have n0_ := Z21.k (below_step Z21.z1 hb); have n1_ := Z21.k (hbox); have n2_ := Z21.k (show w.heap.size ≤ gb101 from Z21.z7); have n3_ := Z21.k (show w.heap.size ≤ gb101 from Z21.z7); clear HB; have HB := n0_; have BK101 := n1_; have GW101 := n2_; have GE101 := n3_; clear n0_ n1_ n2_ n3_; clear hb hbox hg) | ((with_reducible refine gate_dst (N := 3) rfl ?_); refine box_event ?hg (N := 3) ?hd (cs := #[.int .i64 a1_0, .int .i64 a1_1, .slice A1_2 l1_2.length c1_2]) (t := 41) ?hr ?_; (case hd => rfl); (case hg => rfl); (case hr => first | (go_simp; done) | (go_simp; rfl)); intro gb102 hg w8 hbox hb; have n0_ := Z21.k (Z21.bb BK101 Z21.z2 hb); have n1_ := Z21.k (below_step Z21.z0 hb); have n2_ := Z21.k (hbox); have n3_ := Z21.k (show w.heap.size ≤ gb102 from Z21.z8); have n4_ := Z21.k (show w.heap.size ≤ gb102 from Z21.z8); have n5_ := Z21.k (show gb101 ≠ gb102 from (by rw [hg]; exact Nat.ne_of_lt (Z21.bl BK101 Z21.z2))); have n6_ := Z21.k (show gb102 ≠ gb101 from (by rw [hg]; exact Nat.ne_of_gt (Z21.bl BK101 Z21.z2))); clear BK101 HB; have BK101 := n0_; have HB := n1_; have BK102 := n2_; have GW102 := n3_; have GE102 := n4_; have NB101_102 := n5_; have NB102_101 := n6_; clear n0_ n1_ n2_ n3_ n4_ n5_ n6_; clear hb hbox hg; have hnb9 := NB101_102.out; have hnc9 := NB102_101.out; have hcz10_0 : w8.cell? ⟨gb101, 0, none⟩ = some (.int .i64 a0_0) := (blk_cell BK101.out 0).trans rfl; have hcz10_1 : w8.cell? ⟨gb101, 1, none⟩ = some (.int .i64 a0_1) := (blk_cell BK101.out 1).trans rfl; have hcz10_2 : w8.cell? ⟨gb101, 2, none⟩ = some (.slice A0_2 l0_2.length c0_2) := (blk_cell BK101.out 2).trans rfl; have hfz10_0 := blk_frozen BK101.out 0; have hfz10_1 := blk_frozen BK101.out 1; have hfz10_2 := blk_frozen BK101.out 2; have hcz11_0 : w8.cell? ⟨gb102, 0, none⟩ = some (.int .i64 a1_0) := (blk_cell BK102.out 0).trans rfl; have hcz11_1 : w8.cell? ⟨gb102, 1, none⟩ = some (.int .i64 a1_1) := (blk_cell BK102.out 1).trans rfl; have hcz11_2 : w8.cell? ⟨gb102, 2, none⟩ = some (.slice A1_2 l1_2.length c1_2) := (blk_cell BK102.out 2).trans rfl; have hfz11_0 := blk_frozen BK102.out 0; have hfz11_1 := blk_frozen BK102.out 1; have hfz11_2 := blk_frozen BK102.out 2) | ((with_reducible refine gate_callee (f := 45) rfl ?_); refine goesL_ (some 19) rfl rfl Try.func45 (by kernel_rfl) rfl #[.slice A0_2 l0_2.length c0_2, .slice A1_2 l1_2.length c1_2] rfl Z21.z9 ?_; (with_reducible refine (laws_eqInt64SS.calls k _ _ l0_2 _ _ l1_2 true _ ?side1 ?side2 ?side3 ?side4 A5.out).mono ?_); (case side1 => exact Z21.z6); (case side2 => exact HC0_2.out); (case side3 => exact Z21.z5); (case side4 => exact HC1_2.out); rintro e w' ⟨rfl, ⟨nd, rfl⟩⟩; refine ⟨_, rfl, ?_⟩))
    go_ret
    exact ⟨Z21.z4, Z21.z3⟩
   replace c6 := Bool.eq_false_iff.mpr c6
   subst c6
   have H1 : (some false) = some r := by rw [if_neg (show ¬ (false = true) by decide)] at H; exact H
   clear H
   have H := H1
   clear H1
   obtain rfl := Option.some.inj H
   go_enter Try.func21, Try.ntmps21
   go_wp2_with (first | ((with_reducible refine gate_dst (N := 2) rfl ?_); refine box_event ?hg (N := 2) ?hd (cs := #[.int .i64 a0_0, .int .i64 a0_1, .slice A0_2 l0_2.length c0_2]) (t := 41) ?hr ?_; (case hd => rfl); (case hg => rfl); (case hr => first | (go_simp; done) | (go_simp; rfl)); intro gb101 hg w12 hbox hb; have n0_ := Z21.k (below_step Z21.z1 hb); have n1_ := Z21.k (hbox); have n2_ := Z21.k (show w.heap.size ≤ gb101 from Z21.z7); have n3_ := Z21.k (show w.heap.size ≤ gb101 from Z21.z7); clear HB; have HB := n0_; have BK101 := n1_; have GW101 := n2_; have GE101 := n3_; clear n0_ n1_ n2_ n3_; clear hb hbox hg) | ((with_reducible refine gate_dst (N := 3) rfl ?_); refine box_event ?hg (N := 3) ?hd (cs := #[.int .i64 a1_0, .int .i64 a1_1, .slice A1_2 l1_2.length c1_2]) (t := 41) ?hr ?_; (case hd => rfl); (case hg => rfl); (case hr => first | (go_simp; done) | (go_simp; rfl)); intro gb102 hg w13 hbox hb; have n0_ := Z21.k (Z21.bb BK101 Z21.z2 hb); have n1_ := Z21.k (below_step Z21.z0 hb); have n2_ := Z21.k (hbox); have n3_ := Z21.k (show w.heap.size ≤ gb102 from Z21.z8); have n4_ := Z21.k (show w.heap.size ≤ gb102 from Z21.z8); have n5_ := Z21.k (show gb101 ≠ gb102 from (by rw [hg]; exact Nat.ne_of_lt (Z21.bl BK101 Z21.z2))); have n6_ := Z21.k (show gb102 ≠ gb101 from (by rw [hg]; exact Nat.ne_of_gt (Z21.bl BK101 Z21.z2))); clear BK101 HB; have BK101 := n0_; have HB := n1_; have BK102 := n2_; have GW102 := n3_; have GE102 := n4_; have NB101_102 := n5_; have NB102_101 := n6_; clear n0_ n1_ n2_ n3_ n4_ n5_ n6_; clear hb hbox hg; have hnb14 := NB101_102.out; have hnc14 := NB102_101.out; have hcz15_0 : w13.cell? ⟨gb101, 0, none⟩ = some (.int .i64 a0_0) := (blk_cell BK101.out 0).trans rfl; have hcz15_1 : w13.cell? ⟨gb101, 1, none⟩ = some (.int .i64 a0_1) := (blk_cell BK101.out 1).trans rfl; have hcz15_2 : w13.cell? ⟨gb101, 2, none⟩ = some (.slice A0_2 l0_2.length c0_2) := (blk_cell BK101.out 2).trans rfl; have hfz15_0 := blk_frozen BK101.out 0; have hfz15_1 := blk_frozen BK101.out 1; have hfz15_2 := blk_frozen BK101.out 2; have hcz16_0 : w13.cell? ⟨gb102, 0, none⟩ = some (.int .i64 a1_0) := (blk_cell BK102.out 0).trans rfl; have hcz16_1 : w13.cell? ⟨gb102, 1, none⟩ = some (.int .i64 a1_1) := (blk_cell BK102.out 1).trans rfl; have hcz16_2 : w13.cell? ⟨gb102, 2, none⟩ = some (.slice A1_2 l1_2.length c1_2) := (blk_cell BK102.out 2).trans rfl; have hfz16_0 := blk_frozen BK102.out 0; have hfz16_1 := blk_frozen BK102.out 1; have hfz16_2 := blk_frozen BK102.out 2) | ((with_reducible refine gate_callee (f := 45) rfl ?_); refine goesL_ (some 19) rfl rfl Try.func45 (by kernel_rfl) rfl #[.slice A0_2 l0_2.length c0_2, .slice A1_2 l1_2.length c1_2] rfl Z21.z9 ?_; (with_reducible refine (laws_eqInt64SS.calls k _ _ l0_2 _ _ l1_2 false _ ?side1 ?side2 ?side3 ?side4 A5.out).mono ?_); (case side1 => exact Z21.z6); (case side2 => exact HC0_2.out); (case side3 => exact Z21.z5); (case side4 => exact HC1_2.out); rintro e w' ⟨rfl, ⟨nd, rfl⟩⟩; refine ⟨_, rfl, ?_⟩))
   go_ret
   exact ⟨Z21.z4, Z21.z3⟩
  rw [if_neg c4] at H
  have c4b0 : (a0_1 == a1_1) = false := beq_eq_false_iff_ne.mpr c4
  have c4b1 : (a0_1 != a1_1) = true := bne_iff_ne.mpr c4
  obtain rfl := Option.some.inj H
  go_enter Try.func21, Try.ntmps21
  go_wp2_with (first | ((with_reducible refine gate_dst (N := 2) rfl ?_); refine box_event ?hg (N := 2) ?hd (cs := #[.int .i64 a0_0, .int .i64 a0_1, .slice A0_2 l0_2.length c0_2]) (t := 41) ?hr ?_; (case hd => rfl); (case hg => rfl); (case hr => first | (go_simp; done) | (go_simp; rfl)); intro gb101 hg w17 hbox hb; have n0_ := Z21.k (below_step Z21.z1 hb); have n1_ := Z21.k (hbox); have n2_ := Z21.k (show w.heap.size ≤ gb101 from Z21.z7); have n3_ := Z21.k (show w.heap.size ≤ gb101 from Z21.z7); clear HB; have HB := n0_; have BK101 := n1_; have GW101 := n2_; have GE101 := n3_; clear n0_ n1_ n2_ n3_; clear hb hbox hg) | ((with_reducible refine gate_dst (N := 3) rfl ?_); refine box_event ?hg (N := 3) ?hd (cs := #[.int .i64 a1_0, .int .i64 a1_1, .slice A1_2 l1_2.length c1_2]) (t := 41) ?hr ?_; (case hd => rfl); (case hg => rfl); (case hr => first | (go_simp; done) | (go_simp; rfl)); intro gb102 hg w18 hbox hb; have n0_ := Z21.k (Z21.bb BK101 Z21.z2 hb); have n1_ := Z21.k (below_step Z21.z0 hb); have n2_ := Z21.k (hbox); have n3_ := Z21.k (show w.heap.size ≤ gb102 from Z21.z8); have n4_ := Z21.k (show w.heap.size ≤ gb102 from Z21.z8); have n5_ := Z21.k (show gb101 ≠ gb102 from (by rw [hg]; exact Nat.ne_of_lt (Z21.bl BK101 Z21.z2))); have n6_ := Z21.k (show gb102 ≠ gb101 from (by rw [hg]; exact Nat.ne_of_gt (Z21.bl BK101 Z21.z2))); clear BK101 HB; have BK101 := n0_; have HB := n1_; have BK102 := n2_; have GW102 := n3_; have GE102 := n4_; have NB101_102 := n5_; have NB102_101 := n6_; clear n0_ n1_ n2_ n3_ n4_ n5_ n6_; clear hb hbox hg; have hnb19 := NB101_102.out; have hnc19 := NB102_101.out; have hcz20_0 : w18.cell? ⟨gb101, 0, none⟩ = some (.int .i64 a0_0) := (blk_cell BK101.out 0).trans rfl; have hcz20_1 : w18.cell? ⟨gb101, 1, none⟩ = some (.int .i64 a0_1) := (blk_cell BK101.out 1).trans rfl; have hcz20_2 : w18.cell? ⟨gb101, 2, none⟩ = some (.slice A0_2 l0_2.length c0_2) := (blk_cell BK101.out 2).trans rfl; have hfz20_0 := blk_frozen BK101.out 0; have hfz20_1 := blk_frozen BK101.out 1; have hfz20_2 := blk_frozen BK101.out 2; have hcz21_0 : w18.cell? ⟨gb102, 0, none⟩ = some (.int .i64 a1_0) := (blk_cell BK102.out 0).trans rfl; have hcz21_1 : w18.cell? ⟨gb102, 1, none⟩ = some (.int .i64 a1_1) := (blk_cell BK102.out 1).trans rfl; have hcz21_2 : w18.cell? ⟨gb102, 2, none⟩ = some (.slice A1_2 l1_2.length c1_2) := (blk_cell BK102.out 2).trans rfl; have hfz21_0 := blk_frozen BK102.out 0; have hfz21_1 := blk_frozen BK102.out 1; have hfz21_2 := blk_frozen BK102.out 2))
  go_ret
  exact ⟨Z21.z4, Z21.z3⟩
 rw [if_neg c3] at H
 have c3b0 : (a0_0 == a1_0) = false := beq_eq_false_iff_ne.mpr c3
 have c3b1 : (a0_0 != a1_0) = true := bne_iff_ne.mpr c3
 obtain rfl := Option.some.inj H
 go_enter Try.func21, Try.ntmps21
 go_wp2_with (first | ((with_reducible refine gate_dst (N := 2) rfl ?_); refine box_event ?hg (N := 2) ?hd (cs := #[.int .i64 a0_0, .int .i64 a0_1, .slice A0_2 l0_2.length c0_2]) (t := 41) ?hr ?_; (case hd => rfl); (case hg => rfl); (case hr => first | (go_simp; done) | (go_simp; rfl)); intro gb101 hg w22 hbox hb; have n0_ := Z21.k (below_step Z21.z1 hb); have n1_ := Z21.k (hbox); have n2_ := Z21.k (show w.heap.size ≤ gb101 from Z21.z7); have n3_ := Z21.k (show w.heap.size ≤ gb101 from Z21.z7); clear HB; have HB := n0_; have BK101 := n1_; have GW101 := n2_; have GE101 := n3_; clear n0_ n1_ n2_ n3_; clear hb hbox hg) | ((with_reducible refine gate_dst (N := 3) rfl ?_); refine box_event ?hg (N := 3) ?hd (cs := #[.int .i64 a1_0, .int .i64 a1_1, .slice A1_2 l1_2.length c1_2]) (t := 41) ?hr ?_; (case hd => rfl); (case hg => rfl); (case hr => first | (go_simp; done) | (go_simp; rfl)); intro gb102 hg w23 hbox hb; have n0_ := Z21.k (Z21.bb BK101 Z21.z2 hb); have n1_ := Z21.k (below_step Z21.z0 hb); have n2_ := Z21.k (hbox); have n3_ := Z21.k (show w.heap.size ≤ gb102 from Z21.z8); have n4_ := Z21.k (show w.heap.size ≤ gb102 from Z21.z8); have n5_ := Z21.k (show gb101 ≠ gb102 from (by rw [hg]; exact Nat.ne_of_lt (Z21.bl BK101 Z21.z2))); have n6_ := Z21.k (show gb102 ≠ gb101 from (by rw [hg]; exact Nat.ne_of_gt (Z21.bl BK101 Z21.z2))); clear BK101 HB; have BK101 := n0_; have HB := n1_; have BK102 := n2_; have GW102 := n3_; have GE102 := n4_; have NB101_102 := n5_; have NB102_101 := n6_; clear n0_ n1_ n2_ n3_ n4_ n5_ n6_; clear hb hbox hg; have hnb24 := NB101_102.out; have hnc24 := NB102_101.out; have hcz25_0 : w23.cell? ⟨gb101, 0, none⟩ = some (.int .i64 a0_0) := (blk_cell BK101.out 0).trans rfl; have hcz25_1 : w23.cell? ⟨gb101, 1, none⟩ = some (.int .i64 a0_1) := (blk_cell BK101.out 1).trans rfl; have hcz25_2 : w23.cell? ⟨gb101, 2, none⟩ = some (.slice A0_2 l0_2.length c0_2) := (blk_cell BK101.out 2).trans rfl; have hfz25_0 := blk_frozen BK101.out 0; have hfz25_1 := blk_frozen BK101.out 1; have hfz25_2 := blk_frozen BK101.out 2; have hcz26_0 : w23.cell? ⟨gb102, 0, none⟩ = some (.int .i64 a1_0) := (blk_cell BK102.out 0).trans rfl; have hcz26_1 : w23.cell? ⟨gb102, 1, none⟩ = some (.int .i64 a1_1) := (blk_cell BK102.out 1).trans rfl; have hcz26_2 : w23.cell? ⟨gb102, 2, none⟩ = some (.slice A1_2 l1_2.length c1_2) := (blk_cell BK102.out 2).trans rfl; have hfz26_0 := blk_frozen BK102.out 0; have hfz26_1 := blk_frozen BK102.out 1; have hfz26_2 := blk_frozen BK102.out 2))
 go_ret
 exact ⟨Z21.z4, Z21.z3⟩
/-! ### laws_FnExactContainsVector: function 4 -/
def laws_FnExactContainsVector.f (k : Nat) (a0_0 : Int) (a0_1 : Int) (l0_2 : List (List Int)) (l1 : List Int) : Option (Bool) := if (l1.length : Int) > 1048576 then (some true) else ((laws_szSpace.f k a0_0 a0_1 l0_2 1048576).bind fun t102 => (if t102 < 0 then (some true) else ((laws_toSpace.f k a0_0 a0_1 l0_2).bind fun bt103 => ((laws_toInt64S.f k l1).bind fun t108 => ((spec_ContainsVector.f k bt103.1 bt103.2.1 bt103.2.2 t108).bind fun t111 => ((laws_toSpace.f k a0_0 a0_1 l0_2).bind fun bt112 => ((laws_toInt64S.f k l1).bind fun t118 => ((impl_ContainsVector.f k bt112.1 bt112.2.1 bt112.2.2 t118).bind fun t121 => (if (t121 != t111) = true then (some false) else ((laws_toSpace.f k a0_0 a0_1 l0_2).bind fun bt122 => ((laws_eqSpace.f k bt112.1 bt112.2.1 bt112.2.2 bt122.1 bt122.2.1 bt122.2.2).bind fun t127 => (if t127 = true then ((laws_toInt64S.f k l1).bind fun t128 => ((laws_eqInt64S.f k t118 t128).bind fun t131 => (if t131 = true then (some true) else (some false)))) else (some false)))))))))))))
def Z4.b (n x : Nat) : Array Bool := ((List.range n).map (fun i => x.testBit i)).toArray
theorem Z4.pP {P : Program} {ops : Array Oper} {Q : Exit → Act → World → Prop} {md : Region.Mode} {S : World → Prop} {ds : List Nat} (i N : Nat) {oi : Oper} {v : Value} {fuel : Nat} {l : Array Bool} {a : Act} {w : World} (l' : Array Bool) (hc : anyB md ops l l' i = true) {a' : Act} (h : wpAnyLast P md ops Q S ds fuel l' a' w) (hi : ops[i]? = some oi := by rfl) (hN : oi.dst = some N := by rfl) (hQ : ∀ c a w, Q (.panic c) (a.put oi.dst v) w → Q (.panic c) a w := by exact fun _ _ _ h => h) (hy : Yields P ops oi v a := by exact Or.inl ⟨(by rfl), by intro w'; go_simp; with_reducible rfl⟩) (ha : a.put (some N) v = a' := by simp only [Act.put, List.setIfInBounds_toArray, List.set_cons_zero, List.set_cons_succ, i64_w, i32_w]; rfl) : wpAnyLast P md ops Q S ds (fuel + 1) l a w := pure_ l' hi hN hc hQ hy ha h
theorem Z4.pT6 {P : Program} {ops : Array Oper} {Q : Exit → Act → World → Prop} {md : Region.Mode} {S : World → Prop} {ds : List Nat} (i N : Nat) {oi : Oper} {v : Value} {fuel : Nat} {l : Array Bool} {a : Act} {w : World} (l' : Array Bool) (hc : takeB md ops ds l l' i = true) (hS : S w) {a' : Act} (h : wpAnyLast P md ops Q S ds fuel l' a' w) (hi : ops[i]? = some oi := by rfl) (hN : oi.dst = some N := by rfl) (hQ : ∀ c a w, Q (.panic c) (a.put oi.dst v) w → Q (.panic c) a w := by exact fun _ _ _ h => h) (hy : YieldsIf P ops S oi v a := by exact Or.inl ⟨(by rfl), by rintro w' ⟨s0, s1, s2, s3, s4, s5⟩; go_simp; with_reducible rfl⟩) (ha : a.put (some N) v = a' := by simp only [Act.put, List.setIfInBounds_toArray, List.set_cons_zero, List.set_cons_succ, i64_w, i32_w]; rfl) : wpAnyLast P md ops Q S ds (fuel + 1) l a w := take_ l' hi hN hc hQ hy hS ha h
theorem Z4.bb {w0 w w1 : World} {g : Nat} {o : Obj} (_B : Aside0 (w0.heap[g]? = some o)) (h : w.heap[g]? = some o) (hb : Below w.heap.size w w1) : w1.heap[g]? = some o := blk_below h hb
theorem Z4.bl {w0 w : World} {g : Nat} {o : Obj} (_B : Aside0 (w0.heap[g]? = some o)) (h : w.heap[g]? = some o) : g < w.heap.size := blk_lt h
theorem Z4.k {p : Prop} (h : p) : Aside0 p := ⟨h⟩
theorem Z4.z27 {P : Prop} (h : P := by repeat (first | exact (Kd.R_reads' HO130.out).2.2 | (with_reducible refine Kd.C_alloc ?_ _) | (with_reducible refine Kd.C_drewN ?_ _) | (with_reducible refine Kd.C_drew ?_))) : P := h
theorem Z4.z26 {P : Prop} (h : P := by repeat (first | exact (Kd.S_reads' HO126.out).2.2 | (with_reducible refine Kd.C_alloc ?_ _) | (with_reducible refine Kd.C_drewN ?_ _) | (with_reducible refine Kd.C_drew ?_))) : P := h
theorem Z4.z25 {P : Prop} (h : P := by (with_reducible repeat (first | apply Kd.S_alloc | apply Kd.S_drewN | apply Kd.S_drew)); exact HO126.out) : P := h
theorem Z4.z24 {P : Prop} (h : P := by first | rfl | (simp [errW_none, errW_some] <;> rfl) | (simp [*, errW_none, errW_some] <;> rfl)) : P := h
theorem Z4.z23 {P : Prop} (h : P := by (with_reducible repeat (first | apply Kd.R_alloc | apply Kd.R_drewN | apply Kd.R_drew)); exact (Kd.R_mono (Kd.R_far (p := ⟨gb117, 2, none⟩) (Kd.R_far (p := ⟨gb117, 1, none⟩) (Kd.R_far (p := ⟨gb117, 0, none⟩) (Kd.R_types HO110.out BK117.out (by decide)) (fun _ hk => hk.2) (.int .i64 t112)) (fun _ hk => hk.2) (.int .i64 t113)) (fun _ hk => hk.2) (.slice Ao31 t114.length co31)) (fun _ h_ => h_.1))) : P := h
theorem Z4.z22 {P : Prop} (h : P := by (with_reducible repeat (first | apply Kd.R_alloc | apply Kd.R_drewN | apply Kd.R_drew)); exact (Kd.R_mono (Kd.R_far (p := ⟨gb117, 2, none⟩) (Kd.R_far (p := ⟨gb117, 1, none⟩) (Kd.R_far (p := ⟨gb117, 0, none⟩) (Kd.R_types HO110.out BK117.out (by decide)) (fun _ hk => hk.2) (.int .i64 t112)) (fun _ hk => hk.2) (.int .i64 t113)) (fun _ hk => hk.2) (.slice Ao56 t114.length co56)) (fun _ h_ => h_.1))) : P := h
theorem Z4.z21 {P : Prop} (h : P := by (with_reducible repeat (first | apply Kd.R_alloc | apply Kd.R_drewN | apply Kd.R_drew)); exact (Kd.R_mono (Kd.R_far (p := ⟨gb117, 2, none⟩) (Kd.R_far (p := ⟨gb117, 1, none⟩) (Kd.R_far (p := ⟨gb117, 0, none⟩) (Kd.R_types HO110.out BK117.out (by decide)) (fun _ hk => hk.2) (.int .i64 t112)) (fun _ hk => hk.2) (.int .i64 t113)) (fun _ hk => hk.2) (.slice Ao81 t114.length co81)) (fun _ h_ => h_.1))) : P := h
theorem Z4.z20 {P : Prop} (h : P := by (with_reducible repeat (first | apply Kd.R_alloc | apply Kd.R_drewN | apply Kd.R_drew)); exact (Kd.R_mono (Kd.R_far (p := ⟨gb117, 2, none⟩) (Kd.R_far (p := ⟨gb117, 1, none⟩) (Kd.R_far (p := ⟨gb117, 0, none⟩) (Kd.R_types HO110.out BK117.out (by decide)) (fun _ hk => hk.2) (.int .i64 t112)) (fun _ hk => hk.2) (.int .i64 t113)) (fun _ hk => hk.2) (.slice Ao106 t114.length co106)) (fun _ h_ => h_.1))) : P := h
theorem Z4.z19 {P : Prop} (h : P := by (repeat (first | (with_reducible first | refine blk_drewN ?_ _ | refine blk_drew ?_ | refine blk_alloc ?_ _) | refine blk_far ?_ NB101_117.out _)); exact BK101.out) : P := h
theorem Z4.z18 {P : Prop} (h : P := by repeat (first | exact (Kd.R_reads' HO110.out).2.2 | (with_reducible refine Kd.C_alloc ?_ _) | (with_reducible refine Kd.C_drewN ?_ _) | (with_reducible refine Kd.C_drew ?_))) : P := h
theorem Z4.z17 {P : Prop} (h : P := by repeat (first | exact (Kd.S_reads' HO107.out).2.2 | (with_reducible refine Kd.C_alloc ?_ _) | (with_reducible refine Kd.C_drewN ?_ _) | (with_reducible refine Kd.C_drew ?_))) : P := h
theorem Z4.z16 {P : Prop} (h : P := by simp only [Act.put, List.setIfInBounds_toArray, List.set_cons_zero, List.set_cons_succ, i64_w, i32_w]; rfl) : P := h
theorem Z4.z15 {P : Prop} (h : P := by repeat (first | exact (Kd.C_below HR1.out HB.out) | (with_reducible refine Kd.C_alloc ?_ _) | (with_reducible refine Kd.C_drewN ?_ _) | (with_reducible refine Kd.C_drew ?_))) : P := h
theorem Z4.z14 {P : Prop} (h : P := by repeat (first | exact (Kd.R_reads' HO120.out).2.2 | (with_reducible refine Kd.C_alloc ?_ _) | (with_reducible refine Kd.C_drewN ?_ _) | (with_reducible refine Kd.C_drew ?_))) : P := h
theorem Z4.z13 {P : Prop} (h : P := by repeat (first | exact (Kd.S_reads' HO116.out).2.2 | (with_reducible refine Kd.C_alloc ?_ _) | (with_reducible refine Kd.C_drewN ?_ _) | (with_reducible refine Kd.C_drew ?_))) : P := h
theorem Z4.z12 {P : Prop} (h : P := by (with_reducible repeat (first | refine blk_drewN ?_ _ | refine blk_drew ?_ | refine blk_alloc ?_ _)); exact BK117.out) : P := h
theorem Z4.z11 {P : Prop} (h : P := by (with_reducible repeat (first | apply Kd.R_alloc | apply Kd.R_drewN | apply Kd.R_drew)); exact HO120.out) : P := h
theorem Z4.z10 {P : Prop} (h : P := by (with_reducible repeat (first | apply Kd.S_alloc | apply Kd.S_drewN | apply Kd.S_drew)); exact HO116.out) : P := h
theorem Z4.z9 {P : Prop} (h : P := by exact ⟨(blk_cell BK117.out 0).trans rfl, (blk_cell BK117.out 1).trans rfl, (blk_cell BK117.out 2).trans rfl, (blk_cell BK101.out 0).trans rfl, (blk_cell BK101.out 1).trans rfl, (blk_cell BK101.out 2).trans rfl⟩) : P := h
theorem Z4.z8 {P : Prop} (h : P := by repeat (first | (with_reducible first | exact HB.out | apply below_alloc | apply pw_below_drewN | apply below_drew1) | exact HB.out)) : P := h
theorem Z4.z7 {P : Prop} (h : P := by (with_reducible repeat (first | refine blk_drewN ?_ _ | refine blk_drew ?_ | refine blk_alloc ?_ _)); refine blk_put (cs := #[.int .i64 t112, .int .i64 t113, .slice none 0 0]) ?_ 2 _ rfl; (with_reducible repeat (first | refine blk_drewN ?_ _ | refine blk_drew ?_ | refine blk_alloc ?_ _)); refine blk_put (cs := #[.int .i64 t112, .int .i64 0, .slice none 0 0]) ?_ 1 _ rfl; (with_reducible repeat (first | refine blk_drewN ?_ _ | refine blk_drew ?_ | refine blk_alloc ?_ _)); refine blk_put (cs := #[.int .i64 0, .int .i64 0, .slice none 0 0]) ?_ 0 _ rfl; (with_reducible repeat (first | refine blk_drewN ?_ _ | refine blk_drew ?_ | refine blk_alloc ?_ _)); exact BK117.out) : P := h
theorem Z4.z6 {P : Prop} (h : P := by repeat (first | exact (Kd.C_below HR0_2.out HB.out) | (with_reducible refine Kd.C_alloc ?_ _) | (with_reducible refine Kd.C_drewN ?_ _) | (with_reducible refine Kd.C_drew ?_))) : P := h
theorem Z4.z5 {P : Prop} (h : P := by (with_reducible repeat (first | apply Kd.R_alloc | apply Kd.R_drewN | apply Kd.R_drew)); exact HO110.out) : P := h
theorem Z4.z4 {P : Prop} (h : P := by (with_reducible repeat (first | apply Kd.S_alloc | apply Kd.S_drewN | apply Kd.S_drew)); exact HO107.out) : P := h
theorem Z4.z3 {P : Prop} (h : P := by (with_reducible repeat (first | refine blk_drewN ?_ _ | refine blk_drew ?_ | refine blk_alloc ?_ _)); exact BK101.out) : P := h
theorem Z4.z2 {P : Prop} (h : P := by (try simp only [List.map_toArray, List.map_cons, List.map_nil]); first | done | rfl | (simp only [List.length_drop, List.length_take]; rfl)) : P := h
theorem Z4.z1 {P : Prop} (h : P := by repeat (first | (with_reducible first | exact HB.out | apply below_alloc | apply pw_below_drewN | apply below_drew1 | refine below_set ?_ GE101.out | refine below_set ?_ GE117.out) | exact HB.out)) : P := h
theorem Z4.z0 {P : Prop} (h : P := by repeat (first | (with_reducible first | exact HB.out | apply below_alloc | apply pw_below_drewN | apply below_drew1 | refine below_set ?_ GE101.out) | exact HB.out)) : P := h
set_option maxHeartbeats 8000000 in
set_option maxRecDepth 100000 in
theorem laws_FnExactContainsVector.calls (k : Nat) (a0_0 : Int) (a0_1 : Int) (A0_2 : Option Addr) (c0_2 : Nat) (l0_2 : List (List Int)) (A1 : Option Addr) (c1 : Nat) (l1 : List Int) (r : Bool) (w : World) (hr0_2 : Kd.C (Kd.slice 2 (Kd.int .i64)) w A0_2 l0_2.length l0_2) (hc0_2 : l0_2.length ≤ c0_2) (hr1 : Kd.C (Kd.int .i64) w A1 l1.length l1) (hc1 : l1.length ≤ c1) (h : laws_FnExactContainsVector.f k a0_0 a0_1 l0_2 l1 = some r) :
  Calls Try.prog 4 #[.agg #[.int .i64 a0_0, .int .i64 a0_1, .slice A0_2 l0_2.length c0_2], .slice A1 l1.length c1] w fun e w' => e = .returned (.bool r) ∧ Below w.heap.size w w' := by
 have hu38 := Try.underlying38
 have hu41 := Try.underlying41
 have HR0_2 := Z4.k hr0_2
 have HC0_2 := Z4.k hc0_2
 clear hr0_2 hc0_2
 have HR1 := Z4.k hr1
 have HC1 := Z4.k hc1
 clear hr1 hc1
 have HB := Z4.k (Below.refl w.heap.size w)
 have H : (if (l1.length : Int) > 1048576 then (some true) else ((laws_szSpace.f k a0_0 a0_1 l0_2 1048576).bind fun t102 => (if t102 < 0 then (some true) else ((laws_toSpace.f k a0_0 a0_1 l0_2).bind fun bt103 => ((laws_toInt64S.f k l1).bind fun t108 => ((spec_ContainsVector.f k bt103.1 bt103.2.1 bt103.2.2 t108).bind fun t111 => ((laws_toSpace.f k a0_0 a0_1 l0_2).bind fun bt112 => ((laws_toInt64S.f k l1).bind fun t118 => ((impl_ContainsVector.f k bt112.1 bt112.2.1 bt112.2.2 t118).bind fun t121 => (if (t121 != t111) = true then (some false) else ((laws_toSpace.f k a0_0 a0_1 l0_2).bind fun bt122 => ((laws_eqSpace.f k bt112.1 bt112.2.1 bt112.2.2 bt122.1 bt122.2.1 bt122.2.2).bind fun t127 => (if t127 = true then ((laws_toInt64S.f k l1).bind fun t128 => ((laws_eqInt64S.f k t118 t128).bind fun t131 => (if t131 = true then (some true) else (some false)))) else (some false)))))))))))))) = some r := h
 clear h
 by_cases c3 : (l1.length : Int) > 1048576
 ·rw [if_pos c3] at H
  have c3b0 : decide (1048576 < (l1.length : Int)) = true := decide_eq_true c3
  have c3b1 : decide (1048576 < l1.length) = true := decide_eq_true (by omega)
  clear c3
  obtain rfl := Option.some.inj H
  go_enter Try.func4, Try.ntmps4
  go_wp2_with (first | ((with_reducible refine gate_dst (N := 2) rfl ?_); refine box_event ?hg (N := 2) ?hd (cs := #[.int .i64 a0_0, .int .i64 a0_1, .slice A0_2 l0_2.length c0_2]) (t := 38) ?hr ?_; (case hd => rfl); (case hg => rfl); (case hr => first | (go_simp; done) | (go_simp; rfl)); intro gb101 hg w4 hbox hb; have n0_ := Z4.k (below_step Z4.z8 hb); have n1_ := Z4.k (hbox); have n2_ := Z4.k (show w.heap.size ≤ gb101 from (by rw [hg]; exact (below_size Z4.z8))); have n3_ := Z4.k (show w.heap.size ≤ gb101 from (by rw [hg]; exact (below_size Z4.z8))); clear HB; have HB := n0_; have BK101 := n1_; have GW101 := n2_; have GE101 := n3_; clear n0_ n1_ n2_ n3_; clear hb hbox hg))
  go_ret
  exact ⟨Z4.z24, Z4.z0⟩
 rw [if_neg c3] at H
 have c3b0 : decide (1048576 < (l1.length : Int)) = false := decide_eq_false c3
 have c3b1 : decide (1048576 < l1.length) = false := decide_eq_false (by omega)
 clear c3
 replace H := Option.bind_eq_some_iff.mp H
 obtain ⟨t102, A50, H⟩ := H
 replace H : (if t102 < 0 then (some true) else ((laws_toSpace.f k a0_0 a0_1 l0_2).bind fun bt103 => ((laws_toInt64S.f k l1).bind fun t108 => ((spec_ContainsVector.f k bt103.1 bt103.2.1 bt103.2.2 t108).bind fun t111 => ((laws_toSpace.f k a0_0 a0_1 l0_2).bind fun bt112 => ((laws_toInt64S.f k l1).bind fun t118 => ((impl_ContainsVector.f k bt112.1 bt112.2.1 bt112.2.2 t118).bind fun t121 => (if (t121 != t111) = true then (some false) else ((laws_toSpace.f k a0_0 a0_1 l0_2).bind fun bt122 => ((laws_eqSpace.f k bt112.1 bt112.2.1 bt112.2.2 bt122.1 bt122.2.1 bt122.2.2).bind fun t127 => (if t127 = true then ((laws_toInt64S.f k l1).bind fun t128 => ((laws_eqInt64S.f k t118 t128).bind fun t131 => (if t131 = true then (some true) else (some false)))) else (some false)))))))))))) = some r := H
 have A5 := Z4.k A50
 clear A50
 by_cases c6 : t102 < 0
 ·rw [if_pos c6] at H
  have c6b0 : decide (t102 < 0) = true := decide_eq_true c6
  clear c6
  obtain rfl := Option.some.inj H
  go_enter Try.func4, Try.ntmps4
  go_wp2_with (first | ((with_reducible refine gate_dst (N := 2) rfl ?_); refine box_event ?hg (N := 2) ?hd (cs := #[.int .i64 a0_0, .int .i64 a0_1, .slice A0_2 l0_2.length c0_2]) (t := 38) ?hr ?_; (case hd => rfl); (case hg => rfl); (case hr => first | (go_simp; done) | (go_simp; rfl)); intro gb101 hg w7 hbox hb; have n0_ := Z4.k (below_step Z4.z8 hb); have n1_ := Z4.k (hbox); have n2_ := Z4.k (show w.heap.size ≤ gb101 from (by rw [hg]; exact (below_size Z4.z8))); have n3_ := Z4.k (show w.heap.size ≤ gb101 from (by rw [hg]; exact (below_size Z4.z8))); clear HB; have HB := n0_; have BK101 := n1_; have GW101 := n2_; have GE101 := n3_; clear n0_ n1_ n2_ n3_; clear hb hbox hg; have hcz8_0 : w7.cell? ⟨gb101, 0, none⟩ = some (.int .i64 a0_0) := (blk_cell BK101.out 0).trans rfl; have hcz8_1 : w7.cell? ⟨gb101, 1, none⟩ = some (.int .i64 a0_1) := (blk_cell BK101.out 1).trans rfl; have hcz8_2 : w7.cell? ⟨gb101, 2, none⟩ = some (.slice A0_2 l0_2.length c0_2) := (blk_cell BK101.out 2).trans rfl; have hfz8_0 := blk_frozen BK101.out 0; have hfz8_1 := blk_frozen BK101.out 1; have hfz8_2 := blk_frozen BK101.out 2) | ((with_reducible refine gate_callee (f := 17) rfl ?_); refine goesL_ (some 15) rfl rfl Try.func17 (by kernel_rfl) rfl #[.agg #[.int .i64 a0_0, .int .i64 a0_1, .slice A0_2 l0_2.length c0_2], .int .i64 1048576] rfl Z4.z2 ?_; (with_reducible refine (laws_szSpace.calls k a0_0 a0_1 _ _ l0_2 1048576 t102 _ ?side1 ?side2 A5.out).mono ?_); (case side1 => exact Z4.z6); (case side2 => exact HC0_2.out); rintro e w9 ⟨rfl, hb⟩; refine ⟨_, rfl, ?_⟩; have n0_ := Z4.k (Z4.bb BK101 Z4.z3 hb); have n1_ := Z4.k (below_step Z4.z0 hb); clear BK101 HB; have BK101 := n0_; have HB := n1_; clear n0_ n1_; (try clear hb); (try clear hb2); (try clear hk); (try clear hi)))
  go_ret
  exact ⟨Z4.z24, Z4.z0⟩
 rw [if_neg c6] at H
 have c6b0 : decide (t102 < 0) = false := decide_eq_false c6
 clear c6
 replace H := Option.bind_eq_some_iff.mp H
 obtain ⟨⟨t103, t104, t105⟩, A100, H⟩ := H
 replace H : ((laws_toInt64S.f k l1).bind fun t108 => ((spec_ContainsVector.f k t103 t104 t105 t108).bind fun t111 => ((laws_toSpace.f k a0_0 a0_1 l0_2).bind fun bt112 => ((laws_toInt64S.f k l1).bind fun t118 => ((impl_ContainsVector.f k bt112.1 bt112.2.1 bt112.2.2 t118).bind fun t121 => (if (t121 != t111) = true then (some false) else ((laws_toSpace.f k a0_0 a0_1 l0_2).bind fun bt122 => ((laws_eqSpace.f k bt112.1 bt112.2.1 bt112.2.2 bt122.1 bt122.2.1 bt122.2.2).bind fun t127 => (if t127 = true then ((laws_toInt64S.f k l1).bind fun t128 => ((laws_eqInt64S.f k t118 t128).bind fun t131 => (if t131 = true then (some true) else (some false)))) else (some false)))))))))) = some r := H
 have A10 := Z4.k A100
 clear A100
 replace H := Option.bind_eq_some_iff.mp H
 obtain ⟨t108, A110, H⟩ := H
 replace H : ((spec_ContainsVector.f k t103 t104 t105 t108).bind fun t111 => ((laws_toSpace.f k a0_0 a0_1 l0_2).bind fun bt112 => ((laws_toInt64S.f k l1).bind fun t118 => ((impl_ContainsVector.f k bt112.1 bt112.2.1 bt112.2.2 t118).bind fun t121 => (if (t121 != t111) = true then (some false) else ((laws_toSpace.f k a0_0 a0_1 l0_2).bind fun bt122 => ((laws_eqSpace.f k bt112.1 bt112.2.1 bt112.2.2 bt122.1 bt122.2.1 bt122.2.2).bind fun t127 => (if t127 = true then ((laws_toInt64S.f k l1).bind fun t128 => ((laws_eqInt64S.f k t118 t128).bind fun t131 => (if t131 = true then (some true) else (some false)))) else (some false))))))))) = some r := H
 have A11 := Z4.k A110
 clear A110
 replace H := Option.bind_eq_some_iff.mp H
 obtain ⟨t111, A120, H⟩ := H
 replace H : ((laws_toSpace.f k a0_0 a0_1 l0_2).bind fun bt112 => ((laws_toInt64S.f k l1).bind fun t118 => ((impl_ContainsVector.f k bt112.1 bt112.2.1 bt112.2.2 t118).bind fun t121 => (if (t121 != t111) = true then (some false) else ((laws_toSpace.f k a0_0 a0_1 l0_2).bind fun bt122 => ((laws_eqSpace.f k bt112.1 bt112.2.1 bt112.2.2 bt122.1 bt122.2.1 bt122.2.2).bind fun t127 => (if t127 = true then ((laws_toInt64S.f k l1).bind fun t128 => ((laws_eqInt64S.f k t118 t128).bind fun t131 => (if t131 = true then (some true) else (some false)))) else (some false)))))))) = some r := H
 have A12 := Z4.k A120
 clear A120
 replace H := Option.bind_eq_some_iff.mp H
 obtain ⟨⟨t112, t113, t114⟩, A130, H⟩ := H
 replace H : ((laws_toInt64S.f k l1).bind fun t118 => ((impl_ContainsVector.f k t112 t113 t114 t118).bind fun t121 => (if (t121 != t111) = true then (some false) else ((laws_toSpace.f k a0_0 a0_1 l0_2).bind fun bt122 => ((laws_eqSpace.f k t112 t113 t114 bt122.1 bt122.2.1 bt122.2.2).bind fun t127 => (if t127 = true then ((laws_toInt64S.f k l1).bind fun t128 => ((laws_eqInt64S.f k t118 t128).bind fun t131 => (if t131 = true then (some true) else (some false)))) else (some false))))))) = some r := H
 have A13 := Z4.k A130
 clear A130
 replace H := Option.bind_eq_some_iff.mp H
 obtain ⟨t118, A140, H⟩ := H
 replace H : ((impl_ContainsVector.f k t112 t113 t114 t118).bind fun t121 => (if (t121 != t111) = true then (some false) else ((laws_toSpace.f k a0_0 a0_1 l0_2).bind fun bt122 => ((laws_eqSpace.f k t112 t113 t114 bt122.1 bt122.2.1 bt122.2.2).bind fun t127 => (if t127 = true then ((laws_toInt64S.f k l1).bind fun t128 => ((laws_eqInt64S.f k t118 t128).bind fun t131 => (if t131 = true then (some true) else (some false)))) else (some false)))))) = some r := H
 have A14 := Z4.k A140
 clear A140
 replace H := Option.bind_eq_some_iff.mp H
 obtain ⟨t121, A150, H⟩ := H
 replace H : (if (t121 != t111) = true then (some false) else ((laws_toSpace.f k a0_0 a0_1 l0_2).bind fun bt122 => ((laws_eqSpace.f k t112 t113 t114 bt122.1 bt122.2.1 bt122.2.2).bind fun t127 => (if t127 = true then ((laws_toInt64S.f k l1).bind fun t128 => ((laws_eqInt64S.f k t118 t128).bind fun t131 => (if t131 = true then (some true) else (some false)))) else (some false))))) = some r := H
 have A15 := Z4.k A150
 clear A150
 by_cases c16 : (t121 != t111) = true
 ·rw [if_pos c16] at H
  have c16b0 : (t121 != t111) = true := c16
  (try (have c16b1 : decide (t121 = t111) = false := by simpa using c16))
  (try (have c16b2 : (t121 == t111) = false := by simpa using c16))
  (try (have c16b3 : ¬ (t121 = t111) := by simpa using c16))
  clear c16
  obtain rfl := Option.some.inj H
  go_enter Try.func4, Try.ntmps4
  go_wp2_with (first | ((with_reducible refine gate_dst (N := 2) rfl ?_); refine box_event ?hg (N := 2) ?hd (cs := #[.int .i64 a0_0, .int .i64 a0_1, .slice A0_2 l0_2.length c0_2]) (t := 38) ?hr ?_; (case hd => rfl); (case hg => rfl); (case hr => first | (go_simp; done) | (go_simp; rfl)); intro gb101 hg w17 hbox hb; have n0_ := Z4.k (below_step Z4.z8 hb); have n1_ := Z4.k (hbox); have n2_ := Z4.k (show w.heap.size ≤ gb101 from (by rw [hg]; exact (below_size Z4.z8))); have n3_ := Z4.k (show w.heap.size ≤ gb101 from (by rw [hg]; exact (below_size Z4.z8))); clear HB; have HB := n0_; have BK101 := n1_; have GW101 := n2_; have GE101 := n3_; clear n0_ n1_ n2_ n3_; clear hb hbox hg; have hcz18_0 : w17.cell? ⟨gb101, 0, none⟩ = some (.int .i64 a0_0) := (blk_cell BK101.out 0).trans rfl; have hcz18_1 : w17.cell? ⟨gb101, 1, none⟩ = some (.int .i64 a0_1) := (blk_cell BK101.out 1).trans rfl; have hcz18_2 : w17.cell? ⟨gb101, 2, none⟩ = some (.slice A0_2 l0_2.length c0_2) := (blk_cell BK101.out 2).trans rfl; have hfz18_0 := blk_frozen BK101.out 0; have hfz18_1 := blk_frozen BK101.out 1; have hfz18_2 := blk_frozen BK101.out 2) | ((with_reducible refine gate_callee (f := 17) rfl ?_); refine goesL_ (some 15) rfl rfl Try.func17 (by kernel_rfl) rfl #[.agg #[.int .i64 a0_0, .int .i64 a0_1, .slice A0_2 l0_2.length c0_2], .int .i64 1048576] rfl Z4.z2 ?_; (with_reducible refine (laws_szSpace.calls k a0_0 a0_1 _ _ l0_2 1048576 t102 _ ?side1 ?side2 A5.out).mono ?_); (case side1 => exact Z4.z6); (case side2 => exact HC0_2.out); rintro e w19 ⟨rfl, hb⟩; refine ⟨_, rfl, ?_⟩; have n0_ := Z4.k (Z4.bb BK101 Z4.z3 hb); have n1_ := Z4.k (below_step Z4.z0 hb); clear BK101 HB; have BK101 := n0_; have HB := n1_; clear n0_ n1_; (try clear hb); (try clear hb2); (try clear hk); (try clear hi); have hcz20_0 : w19.cell? ⟨gb101, 0, none⟩ = some (.int .i64 a0_0) := (blk_cell BK101.out 0).trans rfl; have hcz20_1 : w19.cell? ⟨gb101, 1, none⟩ = some (.int .i64 a0_1) := (blk_cell BK101.out 1).trans rfl; have hcz20_2 : w19.cell? ⟨gb101, 2, none⟩ = some (.slice A0_2 l0_2.length c0_2) := (blk_cell BK101.out 2).trans rfl; have hfz20_0 := blk_frozen BK101.out 0; have hfz20_1 := blk_frozen BK101.out 1; have hfz20_2 := blk_frozen BK101.out 2) | ((with_reducible refine gate_callee (f := 19) rfl ?_); refine goesL_ (some 19) rfl rfl Try.func19 (by kernel_rfl) rfl #[.agg #[.int .i64 a0_0, .int .i64 a0_1, .slice A0_2 l0_2.length c0_2]] rfl Z4.z2 ?_; (with_reducible refine (laws_toSpace.calls k a0_0 a0_1 _ _ l0_2 t103 t104 t105 _ ?side1 ?side2 A10.out).mono ?_); (case side1 => exact Z4.z6); (case side2 => exact HC0_2.out); rintro e w21 ⟨v106, rfl, ho0, hb⟩; refine ⟨_, rfl, ?_⟩; have n0_ := Z4.k (Kd.S_lower ho0 (below_size Z4.z0)); have n1_ := Z4.k (Z4.bb BK101 Z4.z3 hb); have n2_ := Z4.k (below_step Z4.z0 hb); clear BK101 HB; have HO107 := n0_; have BK101 := n1_; have HB := n2_; clear n0_ n1_ n2_; (try clear hb); (try clear hb2); (try clear hk); (try clear hi); (try clear ho0)) | ((with_reducible refine gate_callee (f := 10) rfl ?_); refine goesL_ (some 21) rfl rfl Try.func10 (by kernel_rfl) rfl #[.slice A1 l1.length c1] rfl Z4.z2 ?_; (with_reducible refine (laws_toInt64S.calls k _ _ l1 t108 _ ?side1 ?side2 A11.out).mono ?_); (case side1 => exact Z4.z15); (case side2 => exact HC1.out); rintro e w22 ⟨v109, rfl, ho0, hb⟩; refine ⟨_, rfl, ?_⟩; have n0_ := Z4.k (Kd.S_elder' Z4.z4 (Kd.R_base ho0) hb); have n1_ := Z4.k (Kd.R_lower ho0 (below_size Z4.z0)); have n2_ := Z4.k (Z4.bb BK101 Z4.z3 hb); have n3_ := Z4.k (below_step Z4.z0 hb); clear HO107 BK101 HB; have HO107 := n0_; have HO110 := n1_; have BK101 := n2_; have HB := n3_; clear n0_ n1_ n2_ n3_; (try clear hb); (try clear hb2); (try clear hk); (try clear hi); (try clear ho0); obtain ⟨Ao23, co23, eo23⟩ := Kd.S_slice HO107.out; subst eo23; obtain ⟨Ao24, co24, eo24⟩ := Kd.R_slice HO110.out; subst eo24) | ((with_reducible refine gate_callee (f := 18) rfl ?_); refine goesL_ (some 22) rfl rfl Try.func18 (by kernel_rfl) rfl #[.agg #[.int .i64 t103, .int .i64 t104, .slice Ao23 t105.length co23], .slice Ao24 t108.length co24] rfl Z4.z2 ?_; (with_reducible refine (spec_ContainsVector.calls k t103 t104 _ _ t105 _ _ t108 t111 _ ?side1 ?side2 ?side3 ?side4 A12.out).mono ?_); (case side1 => exact Z4.z17); (case side2 => exact (Kd.S_reads' HO107.out).2.1); (case side3 => exact Z4.z18); (case side4 => exact (Kd.R_reads' HO110.out).2.1); rintro e w25 ⟨rfl, hb⟩; refine ⟨_, rfl, ?_⟩; have n0_ := Z4.k (Kd.S_below Z4.z4 hb); have n1_ := Z4.k (Kd.R_below Z4.z5 hb); have n2_ := Z4.k (Z4.bb BK101 Z4.z3 hb); have n3_ := Z4.k (below_step Z4.z0 hb); clear HO107 HO110 BK101 HB; have HO107 := n0_; have HO110 := n1_; have BK101 := n2_; have HB := n3_; clear n0_ n1_ n2_ n3_; (try clear hb); (try clear hb2); (try clear hk); (try clear hi); have hcz26_0 : w25.cell? ⟨gb101, 0, none⟩ = some (.int .i64 a0_0) := (blk_cell BK101.out 0).trans rfl; have hcz26_1 : w25.cell? ⟨gb101, 1, none⟩ = some (.int .i64 a0_1) := (blk_cell BK101.out 1).trans rfl; have hcz26_2 : w25.cell? ⟨gb101, 2, none⟩ = some (.slice A0_2 l0_2.length c0_2) := (blk_cell BK101.out 2).trans rfl; have hfz26_0 := blk_frozen BK101.out 0; have hfz26_1 := blk_frozen BK101.out 1; have hfz26_2 := blk_frozen BK101.out 2) | ((with_reducible refine gate_callee (f := 19) rfl ?_); refine goesL_ (some 24) rfl rfl Try.func19 (by kernel_rfl) rfl #[.agg #[.int .i64 a0_0, .int .i64 a0_1, .slice A0_2 l0_2.length c0_2]] rfl Z4.z2 ?_; (with_reducible refine (laws_toSpace.calls k a0_0 a0_1 _ _ l0_2 t112 t113 t114 _ ?side1 ?side2 A13.out).mono ?_); (case side1 => exact Z4.z6); (case side2 => exact HC0_2.out); rintro e w27 ⟨v115, rfl, ho0, hb⟩; refine ⟨_, rfl, ?_⟩; have n0_ := Z4.k (Kd.S_elder' Z4.z4 (Kd.S_base ho0) hb); have n1_ := Z4.k (Kd.R_below Z4.z5 hb); have n2_ := Z4.k (Kd.S_lower (Kd.S_new' (Kd.S_new' ho0 (Kd.S_lt Z4.z4)) (Kd.R_lt Z4.z5)) (below_size Z4.z0)); have n3_ := Z4.k (Z4.bb BK101 Z4.z3 hb); have n4_ := Z4.k (below_step Z4.z0 hb); clear HO107 HO110 BK101 HB; have HO107 := n0_; have HO110 := n1_; have HO116 := n2_; have BK101 := n3_; have HB := n4_; clear n0_ n1_ n2_ n3_ n4_; (try clear hb); (try clear hb2); (try clear hk); (try clear hi); (try clear ho0)) | ((with_reducible refine gate_dst (N := 7) rfl ?_); refine box_event ?hg (N := 7) ?hd (cs := #[.int .i64 0, .int .i64 0, .slice none 0 0]) (t := 41) ?hr ?_; (case hd => rfl); (case hg => rfl); (case hr => first | (go_simp; done) | (go_simp; rfl)); intro gb117 hg w28 hbox hb; have n0_ := Z4.k (Kd.S_below Z4.z4 hb); have n1_ := Z4.k (Kd.R_below Z4.z5 hb); have n2_ := Z4.k (Kd.S_below Z4.z10 hb); have n3_ := Z4.k (Z4.bb BK101 Z4.z3 hb); have n4_ := Z4.k (below_step Z4.z0 hb); have n5_ := Z4.k (hbox); have n6_ := Z4.k (show w.heap.size ≤ gb117 from (by rw [hg]; exact (below_size Z4.z0))); have n7_ := Z4.k (show w.heap.size ≤ gb117 from (by rw [hg]; exact (below_size Z4.z0))); have n8_ := Z4.k (show gb101 ≠ gb117 from (by rw [hg]; exact Nat.ne_of_lt (Z4.bl BK101 Z4.z3))); have n9_ := Z4.k (show gb117 ≠ gb101 from (by rw [hg]; exact Nat.ne_of_gt (Z4.bl BK101 Z4.z3))); clear HO107 HO110 HO116 BK101 HB; have HO107 := n0_; have HO110 := n1_; have HO116 := n2_; have BK101 := n3_; have HB := n4_; have BK117 := n5_; have GW117 := n6_; have GE117 := n7_; have NB101_117 := n8_; have NB117_101 := n9_; clear n0_ n1_ n2_ n3_ n4_ n5_ n6_ n7_ n8_ n9_; clear hb hbox hg; have hnb29 := NB117_101.out; have hnc29 := NB101_117.out; have hcz30_0 : w28.cell? ⟨gb117, 0, none⟩ = some (.int .i64 0) := (blk_cell BK117.out 0).trans rfl; have hcz30_1 : w28.cell? ⟨gb117, 1, none⟩ = some (.int .i64 0) := (blk_cell BK117.out 1).trans rfl; have hcz30_2 : w28.cell? ⟨gb117, 2, none⟩ = some (.slice none 0 0) := (blk_cell BK117.out 2).trans rfl; have hfz30_0 := blk_frozen BK117.out 0; have hfz30_1 := blk_frozen BK117.out 1; have hfz30_2 := blk_frozen BK117.out 2; obtain ⟨Ao31, co31, eo31⟩ := Kd.S_slice HO116.out; subst eo31) | ((with_reducible refine gate_callee (f := 10) rfl ?_); refine goesL_ (some 26) rfl rfl Try.func10 (by kernel_rfl) rfl #[.slice A1 l1.length c1] rfl Z4.z2 ?_; (with_reducible refine (laws_toInt64S.calls k _ _ l1 t118 _ ?side1 ?side2 A14.out).mono ?_); (case side1 => exact (by exact Kd.C_below HR1.out Z4.z1)); (case side2 => exact HC1.out); rintro e w32 ⟨v119, rfl, ho0, hb⟩; refine ⟨_, rfl, ?_⟩; have n0_ := Z4.k (Kd.S_elder' (by (with_reducible repeat (first | apply Kd.S_alloc | apply Kd.S_drewN | apply Kd.S_drew)); exact (Kd.S_mono (Kd.S_far (p := ⟨gb117, 2, none⟩) (Kd.S_far (p := ⟨gb117, 1, none⟩) (Kd.S_far (p := ⟨gb117, 0, none⟩) (Kd.S_types HO107.out BK117.out (by decide)) (fun _ hk => hk.2) (.int .i64 t112)) (fun _ hk => hk.2) (.int .i64 t113)) (fun _ hk => hk.2) (.slice Ao31 t114.length co31)) (fun _ h_ => h_.1))) (Kd.R_base ho0) hb); have n1_ := Z4.k (Kd.R_elder' Z4.z23 (Kd.R_base ho0) hb); have n2_ := Z4.k (Kd.S_elder' (by (with_reducible repeat (first | apply Kd.S_alloc | apply Kd.S_drewN | apply Kd.S_drew)); exact (Kd.S_mono (Kd.S_far (p := ⟨gb117, 2, none⟩) (Kd.S_far (p := ⟨gb117, 1, none⟩) (Kd.S_far (p := ⟨gb117, 0, none⟩) (Kd.S_types HO116.out BK117.out (by decide)) (fun _ hk => hk.2) (.int .i64 t112)) (fun _ hk => hk.2) (.int .i64 t113)) (fun _ hk => hk.2) (.slice Ao31 t114.length co31)) (fun _ h_ => h_.1))) (Kd.R_base ho0) hb); have n3_ := Z4.k (Kd.R_lower (Kd.R_new' ho0 (Kd.R_lt Z4.z23)) (below_size Z4.z1)); have n4_ := Z4.k (Z4.bb BK101 Z4.z19 hb); have n5_ := Z4.k (blk_below (g := gb117) (o := .cells #[.int .i64 t112, .int .i64 t113, .slice Ao31 t114.length co31] 41 (0, 0)) Z4.z7 hb); have n6_ := Z4.k (below_step Z4.z1 hb); clear HO107 HO110 HO116 BK101 BK117 HB; have HO107 := n0_; have HO110 := n1_; have HO116 := n2_; have HO120 := n3_; have BK101 := n4_; have BK117 := n5_; have HB := n6_; clear n0_ n1_ n2_ n3_ n4_ n5_ n6_; (try clear hb); (try clear hb2); (try clear hk); (try clear hi); (try clear ho0); have hcz33_0 : w32.cell? ⟨gb117, 0, none⟩ = some (.int .i64 t112) := (blk_cell BK117.out 0).trans rfl; have hcz33_1 : w32.cell? ⟨gb117, 1, none⟩ = some (.int .i64 t113) := (blk_cell BK117.out 1).trans rfl; have hcz33_2 : w32.cell? ⟨gb117, 2, none⟩ = some (.slice Ao31 t114.length co31) := (blk_cell BK117.out 2).trans rfl; have hfz33_0 := blk_frozen BK117.out 0; have hfz33_1 := blk_frozen BK117.out 1; have hfz33_2 := blk_frozen BK117.out 2; obtain ⟨Ao34, co34, eo34⟩ := Kd.R_slice HO120.out; subst eo34) | ((with_reducible refine gate_callee (f := 20) rfl ?_); refine goesL_ (some 29) rfl rfl Try.func20 (by kernel_rfl) rfl #[.agg #[.int .i64 t112, .int .i64 t113, .slice Ao31 t114.length co31], .slice Ao34 t118.length co34] rfl Z4.z2 ?_; (with_reducible refine (impl_ContainsVector.calls k t112 t113 _ _ t114 _ _ t118 t121 _ ?side1 ?side2 ?side3 ?side4 A15.out).mono ?_); (case side1 => exact Z4.z13); (case side2 => exact (Kd.S_reads' HO116.out).2.1); (case side3 => exact Z4.z14); (case side4 => exact (Kd.R_reads' HO120.out).2.1); rintro e w35 ⟨rfl, hb⟩; refine ⟨_, rfl, ?_⟩; have n0_ := Z4.k (Kd.S_below Z4.z4 hb); have n1_ := Z4.k (Kd.R_below Z4.z5 hb); have n2_ := Z4.k (Kd.S_below Z4.z10 hb); have n3_ := Z4.k (Kd.R_below Z4.z11 hb); have n4_ := Z4.k (Z4.bb BK101 Z4.z3 hb); have n5_ := Z4.k (Z4.bb BK117 Z4.z12 hb); have n6_ := Z4.k (below_step Z4.z1 hb); clear HO107 HO110 HO116 HO120 BK101 BK117 HB; have HO107 := n0_; have HO110 := n1_; have HO116 := n2_; have HO120 := n3_; have BK101 := n4_; have BK117 := n5_; have HB := n6_; clear n0_ n1_ n2_ n3_ n4_ n5_ n6_; (try clear hb); (try clear hb2); (try clear hk); (try clear hi)))
  go_ret
  exact ⟨Z4.z24, Z4.z1⟩
 rw [if_neg c16] at H
 have c16b0 : (t121 != t111) = false := by simpa using c16
 (try (have c16b1 : decide (t121 = t111) = true := by simpa using c16))
 (try (have c16b2 : (t121 == t111) = true := by simpa using c16))
 clear c16
 replace H := Option.bind_eq_some_iff.mp H
 obtain ⟨⟨t122, t123, t124⟩, A360, H⟩ := H
 replace H : ((laws_eqSpace.f k t112 t113 t114 t122 t123 t124).bind fun t127 => (if t127 = true then ((laws_toInt64S.f k l1).bind fun t128 => ((laws_eqInt64S.f k t118 t128).bind fun t131 => (if t131 = true then (some true) else (some false)))) else (some false))) = some r := H
 have A36 := Z4.k A360
 clear A360
 replace H := Option.bind_eq_some_iff.mp H
 obtain ⟨t127, A370, H⟩ := H
 replace H : (if t127 = true then ((laws_toInt64S.f k l1).bind fun t128 => ((laws_eqInt64S.f k t118 t128).bind fun t131 => (if t131 = true then (some true) else (some false)))) else (some false)) = some r := H
 have A37 := Z4.k A370
 clear A370
 by_cases c38 : t127 = true
 ·subst c38
  have H1 : ((laws_toInt64S.f k l1).bind fun t128 => ((laws_eqInt64S.f k t118 t128).bind fun t131 => (if t131 = true then (some true) else (some false)))) = some r := by rw [if_pos rfl] at H; exact H
  clear H
  have H := H1
  clear H1
  replace H := Option.bind_eq_some_iff.mp H
  obtain ⟨t128, A390, H⟩ := H
  replace H : ((laws_eqInt64S.f k t118 t128).bind fun t131 => (if t131 = true then (some true) else (some false))) = some r := H
  have A39 := Z4.k A390
  clear A390
  replace H := Option.bind_eq_some_iff.mp H
  obtain ⟨t131, A400, H⟩ := H
  replace H : (if t131 = true then (some true) else (some false)) = some r := H
  have A40 := Z4.k A400
  clear A400
  by_cases c41 : t131 = true
  ·subst c41
   have H1 : (some true) = some r := by rw [if_pos rfl] at H; exact H
   clear H
   have H := H1
   clear H1
   obtain rfl := Option.some.inj H
   go_enter Try.func4, Try.ntmps4
   try go_wp2_with (first | ((with_reducible refine gate_dst (N := 2) rfl ?_); refine box_event ?hg (N := 2) ?hd (cs := #[.int .i64 a0_0, .int .i64 a0_1, .slice A0_2 l0_2.length c0_2]) (t := 38) ?hr ?_; (case hd => rfl); (case hg => rfl); (case hr => first | (go_simp; done) | (go_simp; rfl)); intro gb101 hg w42 hbox hb; have n0_ := Z4.k (below_step Z4.z8 hb); have n1_ := Z4.k (hbox); have n2_ := Z4.k (show w.heap.size ≤ gb101 from (by rw [hg]; exact (below_size Z4.z8))); have n3_ := Z4.k (show w.heap.size ≤ gb101 from (by rw [hg]; exact (below_size Z4.z8))); clear HB; have HB := n0_; have BK101 := n1_; have GW101 := n2_; have GE101 := n3_; clear n0_ n1_ n2_ n3_; clear hb hbox hg; have hcz43_0 : w42.cell? ⟨gb101, 0, none⟩ = some (.int .i64 a0_0) := (blk_cell BK101.out 0).trans rfl; have hcz43_1 : w42.cell? ⟨gb101, 1, none⟩ = some (.int .i64 a0_1) := (blk_cell BK101.out 1).trans rfl; have hcz43_2 : w42.cell? ⟨gb101, 2, none⟩ = some (.slice A0_2 l0_2.length c0_2) := (blk_cell BK101.out 2).trans rfl; have hfz43_0 := blk_frozen BK101.out 0; have hfz43_1 := blk_frozen BK101.out 1; have hfz43_2 := blk_frozen BK101.out 2) | ((with_reducible refine gate_callee (f := 17) rfl ?_); refine goesL_ (some 15) rfl rfl Try.func17 (by kernel_rfl) rfl #[.agg #[.int .i64 a0_0, .int .i64 a0_1, .slice A0_2 l0_2.length c0_2], .int .i64 1048576] rfl Z4.z2 ?_; (with_reducible refine (laws_szSpace.calls k a0_0 a0_1 _ _ l0_2 1048576 t102 _ ?side1 ?side2 A5.out).mono ?_); (case side1 => exact Z4.z6); (case side2 => exact HC0_2.out); rintro e w44 ⟨rfl, hb⟩; refine ⟨_, rfl, ?_⟩; have n0_ := Z4.k (Z4.bb BK101 Z4.z3 hb); have n1_ := Z4.k (below_step Z4.z0 hb); clear BK101 HB; have BK101 := n0_; have HB := n1_; clear n0_ n1_; (try clear hb); (try clear hb2); (try clear hk); (try clear hi); have hcz45_0 : w44.cell? ⟨gb101, 0, none⟩ = some (.int .i64 a0_0) := (blk_cell BK101.out 0).trans rfl; have hcz45_1 : w44.cell? ⟨gb101, 1, none⟩ = some (.int .i64 a0_1) := (blk_cell BK101.out 1).trans rfl; have hcz45_2 : w44.cell? ⟨gb101, 2, none⟩ = some (.slice A0_2 l0_2.length c0_2) := (blk_cell BK101.out 2).trans rfl; have hfz45_0 := blk_frozen BK101.out 0; have hfz45_1 := blk_frozen BK101.out 1; have hfz45_2 := blk_frozen BK101.out 2) | ((with_reducible refine gate_callee (f := 19) rfl ?_); refine goesL_ (some 19) rfl rfl Try.func19 (by kernel_rfl) rfl #[.agg #[.int .i64 a0_0, .int .i64 a0_1, .slice A0_2 l0_2.length c0_2]] rfl Z4.z2 ?_; (with_reducible refine (laws_toSpace.calls k a0_0 a0_1 _ _ l0_2 t103 t104 t105 _ ?side1 ?side2 A10.out).mono ?_); (case side1 => exact Z4.z6); (case side2 => exact HC0_2.out); rintro e w46 ⟨v106, rfl, ho0, hb⟩; refine ⟨_, rfl, ?_⟩; have n0_ := Z4.k (Kd.S_lower ho0 (below_size Z4.z0)); have n1_ := Z4.k (Z4.bb BK101 Z4.z3 hb); have n2_ := Z4.k (below_step Z4.z0 hb); clear BK101 HB; have HO107 := n0_; have BK101 := n1_; have HB := n2_; clear n0_ n1_ n2_; (try clear hb); (try clear hb2); (try clear hk); (try clear hi); (try clear ho0)) | ((with_reducible refine gate_callee (f := 10) rfl ?_); refine goesL_ (some 21) rfl rfl Try.func10 (by kernel_rfl) rfl #[.slice A1 l1.length c1] rfl Z4.z2 ?_; (with_reducible refine (laws_toInt64S.calls k _ _ l1 t108 _ ?side1 ?side2 A11.out).mono ?_); (case side1 => exact Z4.z15); (case side2 => exact HC1.out); rintro e w47 ⟨v109, rfl, ho0, hb⟩; refine ⟨_, rfl, ?_⟩; have n0_ := Z4.k (Kd.S_elder' Z4.z4 (Kd.R_base ho0) hb); have n1_ := Z4.k (Kd.R_lower ho0 (below_size Z4.z0)); have n2_ := Z4.k (Z4.bb BK101 Z4.z3 hb); have n3_ := Z4.k (below_step Z4.z0 hb); clear HO107 BK101 HB; have HO107 := n0_; have HO110 := n1_; have BK101 := n2_; have HB := n3_; clear n0_ n1_ n2_ n3_; (try clear hb); (try clear hb2); (try clear hk); (try clear hi); (try clear ho0); obtain ⟨Ao48, co48, eo48⟩ := Kd.S_slice HO107.out; subst eo48; obtain ⟨Ao49, co49, eo49⟩ := Kd.R_slice HO110.out; subst eo49) | ((with_reducible refine gate_callee (f := 18) rfl ?_); refine goesL_ (some 22) rfl rfl Try.func18 (by kernel_rfl) rfl #[.agg #[.int .i64 t103, .int .i64 t104, .slice Ao48 t105.length co48], .slice Ao49 t108.length co49] rfl Z4.z2 ?_; (with_reducible refine (spec_ContainsVector.calls k t103 t104 _ _ t105 _ _ t108 t111 _ ?side1 ?side2 ?side3 ?side4 A12.out).mono ?_); (case side1 => exact Z4.z17); (case side2 => exact (Kd.S_reads' HO107.out).2.1); (case side3 => exact Z4.z18); (case side4 => exact (Kd.R_reads' HO110.out).2.1); rintro e w50 ⟨rfl, hb⟩; refine ⟨_, rfl, ?_⟩; have n0_ := Z4.k (Kd.S_below Z4.z4 hb); have n1_ := Z4.k (Kd.R_below Z4.z5 hb); have n2_ := Z4.k (Z4.bb BK101 Z4.z3 hb); have n3_ := Z4.k (below_step Z4.z0 hb); clear HO107 HO110 BK101 HB; have HO107 := n0_; have HO110 := n1_; have BK101 := n2_; have HB := n3_; clear n0_ n1_ n2_ n3_; (try clear hb); (try clear hb2); (try clear hk); (try clear hi); have hcz51_0 : w50.cell? ⟨gb101, 0, none⟩ = some (.int .i64 a0_0) := (blk_cell BK101.out 0).trans rfl; have hcz51_1 : w50.cell? ⟨gb101, 1, none⟩ = some (.int .i64 a0_1) := (blk_cell BK101.out 1).trans rfl; have hcz51_2 : w50.cell? ⟨gb101, 2, none⟩ = some (.slice A0_2 l0_2.length c0_2) := (blk_cell BK101.out 2).trans rfl; have hfz51_0 := blk_frozen BK101.out 0; have hfz51_1 := blk_frozen BK101.out 1; have hfz51_2 := blk_frozen BK101.out 2) | ((with_reducible refine gate_callee (f := 19) rfl ?_); refine goesL_ (some 24) rfl rfl Try.func19 (by kernel_rfl) rfl #[.agg #[.int .i64 a0_0, .int .i64 a0_1, .slice A0_2 l0_2.length c0_2]] rfl Z4.z2 ?_; (with_reducible refine (laws_toSpace.calls k a0_0 a0_1 _ _ l0_2 t112 t113 t114 _ ?side1 ?side2 A13.out).mono ?_); (case side1 => exact Z4.z6); (case side2 => exact HC0_2.out); rintro e w52 ⟨v115, rfl, ho0, hb⟩; refine ⟨_, rfl, ?_⟩; have n0_ := Z4.k (Kd.S_elder' Z4.z4 (Kd.S_base ho0) hb); have n1_ := Z4.k (Kd.R_below Z4.z5 hb); have n2_ := Z4.k (Kd.S_lower (Kd.S_new' (Kd.S_new' ho0 (Kd.S_lt Z4.z4)) (Kd.R_lt Z4.z5)) (below_size Z4.z0)); have n3_ := Z4.k (Z4.bb BK101 Z4.z3 hb); have n4_ := Z4.k (below_step Z4.z0 hb); clear HO107 HO110 BK101 HB; have HO107 := n0_; have HO110 := n1_; have HO116 := n2_; have BK101 := n3_; have HB := n4_; clear n0_ n1_ n2_ n3_ n4_; (try clear hb); (try clear hb2); (try clear hk); (try clear hi); (try clear ho0)) | ((with_reducible refine gate_dst (N := 7) rfl ?_); refine box_event ?hg (N := 7) ?hd (cs := #[.int .i64 0, .int .i64 0, .slice none 0 0]) (t := 41) ?hr ?_; (case hd => rfl); (case hg => rfl); (case hr => first | (go_simp; done) | (go_simp; rfl)); intro gb117 hg w53 hbox hb; have n0_ := Z4.k (Kd.S_below Z4.z4 hb); have n1_ := Z4.k (Kd.R_below Z4.z5 hb); have n2_ := Z4.k (Kd.S_below Z4.z10 hb); have n3_ := Z4.k (Z4.bb BK101 Z4.z3 hb); have n4_ := Z4.k (below_step Z4.z0 hb); have n5_ := Z4.k (hbox); have n6_ := Z4.k (show w.heap.size ≤ gb117 from (by rw [hg]; exact (below_size Z4.z0))); have n7_ := Z4.k (show w.heap.size ≤ gb117 from (by rw [hg]; exact (below_size Z4.z0))); have n8_ := Z4.k (show gb101 ≠ gb117 from (by rw [hg]; exact Nat.ne_of_lt (Z4.bl BK101 Z4.z3))); have n9_ := Z4.k (show gb117 ≠ gb101 from (by rw [hg]; exact Nat.ne_of_gt (Z4.bl BK101 Z4.z3))); clear HO107 HO110 HO116 BK101 HB; have HO107 := n0_; have HO110 := n1_; have HO116 := n2_; have BK101 := n3_; have HB := n4_; have BK117 := n5_; have GW117 := n6_; have GE117 := n7_; have NB101_117 := n8_; have NB117_101 := n9_; clear n0_ n1_ n2_ n3_ n4_ n5_ n6_ n7_ n8_ n9_; clear hb hbox hg; have hnb54 := NB117_101.out; have hnc54 := NB101_117.out; have hcz55_0 : w53.cell? ⟨gb117, 0, none⟩ = some (.int .i64 0) := (blk_cell BK117.out 0).trans rfl; have hcz55_1 : w53.cell? ⟨gb117, 1, none⟩ = some (.int .i64 0) := (blk_cell BK117.out 1).trans rfl; have hcz55_2 : w53.cell? ⟨gb117, 2, none⟩ = some (.slice none 0 0) := (blk_cell BK117.out 2).trans rfl; have hfz55_0 := blk_frozen BK117.out 0; have hfz55_1 := blk_frozen BK117.out 1; have hfz55_2 := blk_frozen BK117.out 2; obtain ⟨Ao56, co56, eo56⟩ := Kd.S_slice HO116.out; subst eo56) | ((with_reducible refine gate_callee (f := 10) rfl ?_); refine goesL_ (some 26) rfl rfl Try.func10 (by kernel_rfl) rfl #[.slice A1 l1.length c1] rfl Z4.z2 ?_; (with_reducible refine (laws_toInt64S.calls k _ _ l1 t118 _ ?side1 ?side2 A14.out).mono ?_); (case side1 => exact (by exact Kd.C_below HR1.out Z4.z1)); (case side2 => exact HC1.out); rintro e w57 ⟨v119, rfl, ho0, hb⟩; refine ⟨_, rfl, ?_⟩; have n0_ := Z4.k (Kd.S_elder' (by (with_reducible repeat (first | apply Kd.S_alloc | apply Kd.S_drewN | apply Kd.S_drew)); exact (Kd.S_mono (Kd.S_far (p := ⟨gb117, 2, none⟩) (Kd.S_far (p := ⟨gb117, 1, none⟩) (Kd.S_far (p := ⟨gb117, 0, none⟩) (Kd.S_types HO107.out BK117.out (by decide)) (fun _ hk => hk.2) (.int .i64 t112)) (fun _ hk => hk.2) (.int .i64 t113)) (fun _ hk => hk.2) (.slice Ao56 t114.length co56)) (fun _ h_ => h_.1))) (Kd.R_base ho0) hb); have n1_ := Z4.k (Kd.R_elder' Z4.z22 (Kd.R_base ho0) hb); have n2_ := Z4.k (Kd.S_elder' (by (with_reducible repeat (first | apply Kd.S_alloc | apply Kd.S_drewN | apply Kd.S_drew)); exact (Kd.S_mono (Kd.S_far (p := ⟨gb117, 2, none⟩) (Kd.S_far (p := ⟨gb117, 1, none⟩) (Kd.S_far (p := ⟨gb117, 0, none⟩) (Kd.S_types HO116.out BK117.out (by decide)) (fun _ hk => hk.2) (.int .i64 t112)) (fun _ hk => hk.2) (.int .i64 t113)) (fun _ hk => hk.2) (.slice Ao56 t114.length co56)) (fun _ h_ => h_.1))) (Kd.R_base ho0) hb); have n3_ := Z4.k (Kd.R_lower (Kd.R_new' ho0 (Kd.R_lt Z4.z22)) (below_size Z4.z1)); have n4_ := Z4.k (Z4.bb BK101 Z4.z19 hb); have n5_ := Z4.k (blk_below (g := gb117) (o := .cells #[.int .i64 t112, .int .i64 t113, .slice Ao56 t114.length co56] 41 (0, 0)) Z4.z7 hb); have n6_ := Z4.k (below_step Z4.z1 hb); clear HO107 HO110 HO116 BK101 BK117 HB; have HO107 := n0_; have HO110 := n1_; have HO116 := n2_; have HO120 := n3_; have BK101 := n4_; have BK117 := n5_; have HB := n6_; clear n0_ n1_ n2_ n3_ n4_ n5_ n6_; (try clear hb); (try clear hb2); (try clear hk); (try clear hi); (try clear ho0); have hcz58_0 : w57.cell? ⟨gb117, 0, none⟩ = some (.int .i64 t112) := (blk_cell BK117.out 0).trans rfl; have hcz58_1 : w57.cell? ⟨gb117, 1, none⟩ = some (.int .i64 t113) := (blk_cell BK117.out 1).trans rfl; have hcz58_2 : w57.cell? ⟨gb117, 2, none⟩ = some (.slice Ao56 t114.length co56) := (blk_cell BK117.out 2).trans rfl; have hfz58_0 := blk_frozen BK117.out 0; have hfz58_1 := blk_frozen BK117.out 1; have hfz58_2 := blk_frozen BK117.out 2; obtain ⟨Ao59, co59, eo59⟩ := Kd.R_slice HO120.out; subst eo59) | ((with_reducible refine gate_callee (f := 20) rfl ?_); refine goesL_ (some 29) rfl rfl Try.func20 (by kernel_rfl) rfl #[.agg #[.int .i64 t112, .int .i64 t113, .slice Ao56 t114.length co56], .slice Ao59 t118.length co59] rfl Z4.z2 ?_; (with_reducible refine (impl_ContainsVector.calls k t112 t113 _ _ t114 _ _ t118 t121 _ ?side1 ?side2 ?side3 ?side4 A15.out).mono ?_); (case side1 => exact Z4.z13); (case side2 => exact (Kd.S_reads' HO116.out).2.1); (case side3 => exact Z4.z14); (case side4 => exact (Kd.R_reads' HO120.out).2.1); rintro e w60 ⟨rfl, hb⟩; refine ⟨_, rfl, ?_⟩; have n0_ := Z4.k (Kd.S_below Z4.z4 hb); have n1_ := Z4.k (Kd.R_below Z4.z5 hb); have n2_ := Z4.k (Kd.S_below Z4.z10 hb); have n3_ := Z4.k (Kd.R_below Z4.z11 hb); have n4_ := Z4.k (Z4.bb BK101 Z4.z3 hb); have n5_ := Z4.k (Z4.bb BK117 Z4.z12 hb); have n6_ := Z4.k (below_step Z4.z1 hb); clear HO107 HO110 HO116 HO120 BK101 BK117 HB; have HO107 := n0_; have HO110 := n1_; have HO116 := n2_; have HO120 := n3_; have BK101 := n4_; have BK117 := n5_; have HB := n6_; clear n0_ n1_ n2_ n3_ n4_ n5_ n6_; (try clear hb); (try clear hb2); (try clear hk); (try clear hi)))
   have n0_ := Z4.k (Kd.S_drew HO107.out)
   have n1_ := Z4.k (Kd.R_drew HO110.out)
   have n2_ := Z4.k (Kd.S_drew HO116.out)
   have n3_ := Z4.k (Kd.R_drew HO120.out)
   have n4_ := Z4.k (blk_drew BK101.out)
   have n5_ := Z4.k (blk_drew BK117.out)
   have n6_ := Z4.k (below_drew1 HB.out)
   clear HO107 HO110 HO116 HO120 BK101 BK117 HB
   have HO107 := n0_
   have HO110 := n1_
   have HO116 := n2_
   have HO120 := n3_
   have BK101 := n4_
   have BK117 := n5_
   have HB := n6_
   clear n0_ n1_ n2_ n3_ n4_ n5_ n6_
   refine start_ (n := 5) (S := fun w' => w'.cell? ⟨gb117, 0, none⟩ = some (.int .i64 t112) ∧ w'.cell? ⟨gb117, 1, none⟩ = some (.int .i64 t113) ∧ w'.cell? ⟨gb117, 2, none⟩ = some (.slice Ao56 t114.length co56) ∧ w'.cell? ⟨gb101, 0, none⟩ = some (.int .i64 a0_0) ∧ w'.cell? ⟨gb101, 1, none⟩ = some (.int .i64 a0_1) ∧ w'.cell? ⟨gb101, 2, none⟩ = some (.slice A0_2 l0_2.length c0_2)) (ds := []) #[false, false, false, false, false] (by kernel_rfl) rfl rfl Z4.z9 (fun hHeld => ?_)
   generalize w60.drew = w61 at HO107 HO110 HO116 HO120 BK101 BK117 HB hHeld ⊢
   refine Z4.pT6 0 33 (Z4.b 5 1) (by kernel_rfl) hHeld ?_
   refine Z4.pT6 1 34 (Z4.b 5 3) (by kernel_rfl) hHeld ?_
   refine one_ (i := 2) (N := some 35) (Z4.b 5 7) rfl rfl (by kernel_rfl) (by decide) (fun K hK => ?_)
   refine goes_ Try.func19 (by kernel_rfl) rfl #[.agg #[.int .i64 a0_0, .int .i64 a0_1, .slice A0_2 l0_2.length c0_2]] (by rfl) rfl rfl Z4.z2 ?_
   with_reducible refine (laws_toSpace.calls k a0_0 a0_1 _ _ l0_2 t122 t123 t124 _ ?side1 ?side2 A36.out).mono ?_
   (case side1 => exact Z4.z6)
   (case side2 => exact HC0_2.out)
   rintro e w62 ⟨v125, rfl, ho0, hb⟩
   refine ⟨_, rfl, ?_⟩
   have n0_ := Z4.k (Kd.S_elder' Z4.z4 (Kd.S_base ho0) hb)
   have n1_ := Z4.k (Kd.R_below Z4.z5 hb)
   have n2_ := Z4.k (Kd.S_elder' Z4.z10 (Kd.S_base ho0) hb)
   have n3_ := Z4.k (Kd.R_below Z4.z11 hb)
   have n4_ := Z4.k (Kd.S_lower (Kd.S_new' (Kd.S_new' (Kd.S_new' (Kd.S_new' ho0 (Kd.S_lt Z4.z4)) (Kd.R_lt Z4.z5)) (Kd.S_lt Z4.z10)) (Kd.R_lt Z4.z11)) (below_size Z4.z1))
   have n5_ := Z4.k (Z4.bb BK101 Z4.z3 hb)
   have n6_ := Z4.k (Z4.bb BK117 Z4.z12 hb)
   have n7_ := Z4.k (below_step Z4.z1 hb)
   clear HO107 HO110 HO116 HO120 BK101 BK117 HB
   have HO107 := n0_
   have HO110 := n1_
   have HO116 := n2_
   have HO120 := n3_
   have HO126 := n4_
   have BK101 := n5_
   have BK117 := n6_
   have HB := n7_
   clear n0_ n1_ n2_ n3_ n4_ n5_ n6_ n7_
   (try clear hb)
   (try clear hb2)
   (try clear hk)
   (try clear hi)
   (try clear ho0)
   obtain ⟨Ao63, co63, eo63⟩ := Kd.S_slice HO126.out
   (first | subst eo63 | (injection eo63 with f1_ f2_ f3_; have f4_ := f1_.symm; have f5_ := f3_.symm; clear f1_ f2_ f3_; subst f4_; subst f5_))
   refine hK.out _ _ Z4.z9 (fun hHeld => ?_)
   clear hK K
   refine norm_ (a' := ?_) ?_ ?_
   rotate_left
   ·show Act.put _ (some 35) _ = _
    simp only [Act.put, List.setIfInBounds_toArray, List.set_cons_zero, List.set_cons_succ, i64_w, i32_w]
    rfl
   refine one_ (i := 3) (N := some 36) (Z4.b 5 15) rfl rfl (by kernel_rfl) (by decide) (fun K hK => ?_)
   refine goes_ Try.func21 (by kernel_rfl) rfl #[.agg #[.int .i64 t112, .int .i64 t113, .slice Ao56 t114.length co56], .agg #[.int .i64 t122, .int .i64 t123, .slice Ao63 t124.length co63]] (by rfl) rfl rfl Z4.z2 ?_
   with_reducible refine (laws_eqSpace.calls k t112 t113 _ _ t114 t122 t123 _ _ t124 true _ ?side1 ?side2 ?side3 ?side4 A37.out).mono ?_
   (case side1 => exact Z4.z13)
   (case side2 => exact (Kd.S_reads' HO116.out).2.1)
   (case side3 => exact Z4.z26)
   (case side4 => exact (Kd.S_reads' HO126.out).2.1)
   rintro e w64 ⟨rfl, hb⟩
   refine ⟨_, rfl, ?_⟩
   have n0_ := Z4.k (Kd.S_below Z4.z4 hb)
   have n1_ := Z4.k (Kd.R_below Z4.z5 hb)
   have n2_ := Z4.k (Kd.S_below Z4.z10 hb)
   have n3_ := Z4.k (Kd.R_below Z4.z11 hb)
   have n4_ := Z4.k (Kd.S_below Z4.z25 hb)
   have n5_ := Z4.k (Z4.bb BK101 Z4.z3 hb)
   have n6_ := Z4.k (Z4.bb BK117 Z4.z12 hb)
   have n7_ := Z4.k (below_step Z4.z1 hb)
   clear HO107 HO110 HO116 HO120 HO126 BK101 BK117 HB
   have HO107 := n0_
   have HO110 := n1_
   have HO116 := n2_
   have HO120 := n3_
   have HO126 := n4_
   have BK101 := n5_
   have BK117 := n6_
   have HB := n7_
   clear n0_ n1_ n2_ n3_ n4_ n5_ n6_ n7_
   (try clear hb)
   (try clear hb2)
   (try clear hk)
   (try clear hi)
   refine hK.out _ _ Z4.z9 (fun hHeld => ?_)
   clear hK K
   refine norm_ (a' := ?_) ?_ ?_
   rotate_left
   ·show Act.put _ (some 36) _ = _
    simp only [Act.put, List.setIfInBounds_toArray, List.set_cons_zero, List.set_cons_succ, i64_w, i32_w]
    rfl
   refine Z4.pP 4 37 (Z4.b 5 31) (by kernel_rfl) ?_
   refine done_ (by kernel_rfl) ?_
   try go_wp2_with (first | ((with_reducible refine gate_callee (f := 10) rfl ?_); refine goesL_ (some 40) rfl rfl Try.func10 (by kernel_rfl) rfl #[.slice A1 l1.length c1] rfl Z4.z2 ?_; (with_reducible refine (laws_toInt64S.calls k _ _ l1 t128 _ ?side1 ?side2 A39.out).mono ?_); (case side1 => exact Z4.z15); (case side2 => exact HC1.out); rintro e w65 ⟨v129, rfl, ho0, hb⟩; refine ⟨_, rfl, ?_⟩; have n0_ := Z4.k (Kd.S_elder' Z4.z4 (Kd.R_base ho0) hb); have n1_ := Z4.k (Kd.R_elder' Z4.z5 (Kd.R_base ho0) hb); have n2_ := Z4.k (Kd.S_elder' Z4.z10 (Kd.R_base ho0) hb); have n3_ := Z4.k (Kd.R_elder' Z4.z11 (Kd.R_base ho0) hb); have n4_ := Z4.k (Kd.S_elder' Z4.z25 (Kd.R_base ho0) hb); have n5_ := Z4.k (Kd.R_lower (Kd.R_new' (Kd.R_new' ho0 (Kd.R_lt Z4.z5)) (Kd.R_lt Z4.z11)) (below_size Z4.z1)); have n6_ := Z4.k (Z4.bb BK101 Z4.z3 hb); have n7_ := Z4.k (Z4.bb BK117 Z4.z12 hb); have n8_ := Z4.k (below_step Z4.z1 hb); clear HO107 HO110 HO116 HO120 HO126 BK101 BK117 HB; have HO107 := n0_; have HO110 := n1_; have HO116 := n2_; have HO120 := n3_; have HO126 := n4_; have HO130 := n5_; have BK101 := n6_; have BK117 := n7_; have HB := n8_; clear n0_ n1_ n2_ n3_ n4_ n5_ n6_ n7_ n8_; (try clear hb); (try clear hb2); (try clear hk); (try clear hi); (try clear ho0); obtain ⟨Ao66, co66, eo66⟩ := Kd.R_slice HO130.out; subst eo66) | ((with_reducible refine gate_callee (f := 12) rfl ?_); refine goesL_ (some 41) rfl rfl Try.func12 (by kernel_rfl) rfl #[.slice Ao59 t118.length co59, .slice Ao66 t128.length co66] rfl Z4.z2 ?_; (with_reducible refine (laws_eqInt64S.calls k _ _ t118 _ _ t128 true _ ?side1 ?side2 ?side3 ?side4 A40.out).mono ?_); (case side1 => exact Z4.z14); (case side2 => exact (Kd.R_reads' HO120.out).2.1); (case side3 => exact Z4.z27); (case side4 => exact (Kd.R_reads' HO130.out).2.1); rintro e w' ⟨rfl, ⟨nd, rfl⟩⟩; refine ⟨_, rfl, ?_⟩))
   go_ret
   exact ⟨Z4.z24, Z4.z1⟩
  replace c41 := Bool.eq_false_iff.mpr c41
  subst c41
  have H1 : (some false) = some r := by rw [if_neg (show ¬ (false = true) by decide)] at H; exact H
  clear H
  have H := H1
  clear H1
  obtain rfl := Option.some.inj H
  go_enter Try.func4, Try.ntmps4
  try go_wp2_with (first | ((with_reducible refine gate_dst (N := 2) rfl ?_); refine box_event ?hg (N := 2) ?hd (cs := #[.int .i64 a0_0, .int .i64 a0_1, .slice A0_2 l0_2.length c0_2]) (t := 38) ?hr ?_; (case hd => rfl); (case hg => rfl); (case hr => first | (go_simp; done) | (go_simp; rfl)); intro gb101 hg w67 hbox hb; have n0_ := Z4.k (below_step Z4.z8 hb); have n1_ := Z4.k (hbox); have n2_ := Z4.k (show w.heap.size ≤ gb101 from (by rw [hg]; exact (below_size Z4.z8))); have n3_ := Z4.k (show w.heap.size ≤ gb101 from (by rw [hg]; exact (below_size Z4.z8))); clear HB; have HB := n0_; have BK101 := n1_; have GW101 := n2_; have GE101 := n3_; clear n0_ n1_ n2_ n3_; clear hb hbox hg; have hcz68_0 : w67.cell? ⟨gb101, 0, none⟩ = some (.int .i64 a0_0) := (blk_cell BK101.out 0).trans rfl; have hcz68_1 : w67.cell? ⟨gb101, 1, none⟩ = some (.int .i64 a0_1) := (blk_cell BK101.out 1).trans rfl; have hcz68_2 : w67.cell? ⟨gb101, 2, none⟩ = some (.slice A0_2 l0_2.length c0_2) := (blk_cell BK101.out 2).trans rfl; have hfz68_0 := blk_frozen BK101.out 0; have hfz68_1 := blk_frozen BK101.out 1; have hfz68_2 := blk_frozen BK101.out 2) | ((with_reducible refine gate_callee (f := 17) rfl ?_); refine goesL_ (some 15) rfl rfl Try.func17 (by kernel_rfl) rfl #[.agg #[.int .i64 a0_0, .int .i64 a0_1, .slice A0_2 l0_2.length c0_2], .int .i64 1048576] rfl Z4.z2 ?_; (with_reducible refine (laws_szSpace.calls k a0_0 a0_1 _ _ l0_2 1048576 t102 _ ?side1 ?side2 A5.out).mono ?_); (case side1 => exact Z4.z6); (case side2 => exact HC0_2.out); rintro e w69 ⟨rfl, hb⟩; refine ⟨_, rfl, ?_⟩; have n0_ := Z4.k (Z4.bb BK101 Z4.z3 hb); have n1_ := Z4.k (below_step Z4.z0 hb); clear BK101 HB; have BK101 := n0_; have HB := n1_; clear n0_ n1_; (try clear hb); (try clear hb2); (try clear hk); (try clear hi); have hcz70_0 : w69.cell? ⟨gb101, 0, none⟩ = some (.int .i64 a0_0) := (blk_cell BK101.out 0).trans rfl; have hcz70_1 : w69.cell? ⟨gb101, 1, none⟩ = some (.int .i64 a0_1) := (blk_cell BK101.out 1).trans rfl; have hcz70_2 : w69.cell? ⟨gb101, 2, none⟩ = some (.slice A0_2 l0_2.length c0_2) := (blk_cell BK101.out 2).trans rfl; have hfz70_0 := blk_frozen BK101.out 0; have hfz70_1 := blk_frozen BK101.out 1; have hfz70_2 := blk_frozen BK101.out 2) | ((with_reducible refine gate_callee (f := 19) rfl ?_); refine goesL_ (some 19) rfl rfl Try.func19 (by kernel_rfl) rfl #[.agg #[.int .i64 a0_0, .int .i64 a0_1, .slice A0_2 l0_2.length c0_2]] rfl Z4.z2 ?_; (with_reducible refine (laws_toSpace.calls k a0_0 a0_1 _ _ l0_2 t103 t104 t105 _ ?side1 ?side2 A10.out).mono ?_); (case side1 => exact Z4.z6); (case side2 => exact HC0_2.out); rintro e w71 ⟨v106, rfl, ho0, hb⟩; refine ⟨_, rfl, ?_⟩; have n0_ := Z4.k (Kd.S_lower ho0 (below_size Z4.z0)); have n1_ := Z4.k (Z4.bb BK101 Z4.z3 hb); have n2_ := Z4.k (below_step Z4.z0 hb); clear BK101 HB; have HO107 := n0_; have BK101 := n1_; have HB := n2_; clear n0_ n1_ n2_; (try clear hb); (try clear hb2); (try clear hk); (try clear hi); (try clear ho0)) | ((with_reducible refine gate_callee (f := 10) rfl ?_); refine goesL_ (some 21) rfl rfl Try.func10 (by kernel_rfl) rfl #[.slice A1 l1.length c1] rfl Z4.z2 ?_; (with_reducible refine (laws_toInt64S.calls k _ _ l1 t108 _ ?side1 ?side2 A11.out).mono ?_); (case side1 => exact Z4.z15); (case side2 => exact HC1.out); rintro e w72 ⟨v109, rfl, ho0, hb⟩; refine ⟨_, rfl, ?_⟩; have n0_ := Z4.k (Kd.S_elder' Z4.z4 (Kd.R_base ho0) hb); have n1_ := Z4.k (Kd.R_lower ho0 (below_size Z4.z0)); have n2_ := Z4.k (Z4.bb BK101 Z4.z3 hb); have n3_ := Z4.k (below_step Z4.z0 hb); clear HO107 BK101 HB; have HO107 := n0_; have HO110 := n1_; have BK101 := n2_; have HB := n3_; clear n0_ n1_ n2_ n3_; (try clear hb); (try clear hb2); (try clear hk); (try clear hi); (try clear ho0); obtain ⟨Ao73, co73, eo73⟩ := Kd.S_slice HO107.out; subst eo73; obtain ⟨Ao74, co74, eo74⟩ := Kd.R_slice HO110.out; subst eo74) | ((with_reducible refine gate_callee (f := 18) rfl ?_); refine goesL_ (some 22) rfl rfl Try.func18 (by kernel_rfl) rfl #[.agg #[.int .i64 t103, .int .i64 t104, .slice Ao73 t105.length co73], .slice Ao74 t108.length co74] rfl Z4.z2 ?_; (with_reducible refine (spec_ContainsVector.calls k t103 t104 _ _ t105 _ _ t108 t111 _ ?side1 ?side2 ?side3 ?side4 A12.out).mono ?_); (case side1 => exact Z4.z17); (case side2 => exact (Kd.S_reads' HO107.out).2.1); (case side3 => exact Z4.z18); (case side4 => exact (Kd.R_reads' HO110.out).2.1); rintro e w75 ⟨rfl, hb⟩; refine ⟨_, rfl, ?_⟩; have n0_ := Z4.k (Kd.S_below Z4.z4 hb); have n1_ := Z4.k (Kd.R_below Z4.z5 hb); have n2_ := Z4.k (Z4.bb BK101 Z4.z3 hb); have n3_ := Z4.k (below_step Z4.z0 hb); clear HO107 HO110 BK101 HB; have HO107 := n0_; have HO110 := n1_; have BK101 := n2_; have HB := n3_; clear n0_ n1_ n2_ n3_; (try clear hb); (try clear hb2); (try clear hk); (try clear hi); have hcz76_0 : w75.cell? ⟨gb101, 0, none⟩ = some (.int .i64 a0_0) := (blk_cell BK101.out 0).trans rfl; have hcz76_1 : w75.cell? ⟨gb101, 1, none⟩ = some (.int .i64 a0_1) := (blk_cell BK101.out 1).trans rfl; have hcz76_2 : w75.cell? ⟨gb101, 2, none⟩ = some (.slice A0_2 l0_2.length c0_2) := (blk_cell BK101.out 2).trans rfl; have hfz76_0 := blk_frozen BK101.out 0; have hfz76_1 := blk_frozen BK101.out 1; have hfz76_2 := blk_frozen BK101.out 2) | ((with_reducible refine gate_callee (f := 19) rfl ?_); refine goesL_ (some 24) rfl rfl Try.func19 (by kernel_rfl) rfl #[.agg #[.int .i64 a0_0, .int .i64 a0_1, .slice A0_2 l0_2.length c0_2]] rfl Z4.z2 ?_; (with_reducible refine (laws_toSpace.calls k a0_0 a0_1 _ _ l0_2 t112 t113 t114 _ ?side1 ?side2 A13.out).mono ?_); (case side1 => exact Z4.z6); (case side2 => exact HC0_2.out); rintro e w77 ⟨v115, rfl, ho0, hb⟩; refine ⟨_, rfl, ?_⟩; have n0_ := Z4.k (Kd.S_elder' Z4.z4 (Kd.S_base ho0) hb); have n1_ := Z4.k (Kd.R_below Z4.z5 hb); have n2_ := Z4.k (Kd.S_lower (Kd.S_new' (Kd.S_new' ho0 (Kd.S_lt Z4.z4)) (Kd.R_lt Z4.z5)) (below_size Z4.z0)); have n3_ := Z4.k (Z4.bb BK101 Z4.z3 hb); have n4_ := Z4.k (below_step Z4.z0 hb); clear HO107 HO110 BK101 HB; have HO107 := n0_; have HO110 := n1_; have HO116 := n2_; have BK101 := n3_; have HB := n4_; clear n0_ n1_ n2_ n3_ n4_; (try clear hb); (try clear hb2); (try clear hk); (try clear hi); (try clear ho0)) | ((with_reducible refine gate_dst (N := 7) rfl ?_); refine box_event ?hg (N := 7) ?hd (cs := #[.int .i64 0, .int .i64 0, .slice none 0 0]) (t := 41) ?hr ?_; (case hd => rfl); (case hg => rfl); (case hr => first | (go_simp; done) | (go_simp; rfl)); intro gb117 hg w78 hbox hb; have n0_ := Z4.k (Kd.S_below Z4.z4 hb); have n1_ := Z4.k (Kd.R_below Z4.z5 hb); have n2_ := Z4.k (Kd.S_below Z4.z10 hb); have n3_ := Z4.k (Z4.bb BK101 Z4.z3 hb); have n4_ := Z4.k (below_step Z4.z0 hb); have n5_ := Z4.k (hbox); have n6_ := Z4.k (show w.heap.size ≤ gb117 from (by rw [hg]; exact (below_size Z4.z0))); have n7_ := Z4.k (show w.heap.size ≤ gb117 from (by rw [hg]; exact (below_size Z4.z0))); have n8_ := Z4.k (show gb101 ≠ gb117 from (by rw [hg]; exact Nat.ne_of_lt (Z4.bl BK101 Z4.z3))); have n9_ := Z4.k (show gb117 ≠ gb101 from (by rw [hg]; exact Nat.ne_of_gt (Z4.bl BK101 Z4.z3))); clear HO107 HO110 HO116 BK101 HB; have HO107 := n0_; have HO110 := n1_; have HO116 := n2_; have BK101 := n3_; have HB := n4_; have BK117 := n5_; have GW117 := n6_; have GE117 := n7_; have NB101_117 := n8_; have NB117_101 := n9_; clear n0_ n1_ n2_ n3_ n4_ n5_ n6_ n7_ n8_ n9_; clear hb hbox hg; have hnb79 := NB117_101.out; have hnc79 := NB101_117.out; have hcz80_0 : w78.cell? ⟨gb117, 0, none⟩ = some (.int .i64 0) := (blk_cell BK117.out 0).trans rfl; have hcz80_1 : w78.cell? ⟨gb117, 1, none⟩ = some (.int .i64 0) := (blk_cell BK117.out 1).trans rfl; have hcz80_2 : w78.cell? ⟨gb117, 2, none⟩ = some (.slice none 0 0) := (blk_cell BK117.out 2).trans rfl; have hfz80_0 := blk_frozen BK117.out 0; have hfz80_1 := blk_frozen BK117.out 1; have hfz80_2 := blk_frozen BK117.out 2; obtain ⟨Ao81, co81, eo81⟩ := Kd.S_slice HO116.out; subst eo81) | ((with_reducible refine gate_callee (f := 10) rfl ?_); refine goesL_ (some 26) rfl rfl Try.func10 (by kernel_rfl) rfl #[.slice A1 l1.length c1] rfl Z4.z2 ?_; (with_reducible refine (laws_toInt64S.calls k _ _ l1 t118 _ ?side1 ?side2 A14.out).mono ?_); (case side1 => exact (by exact Kd.C_below HR1.out Z4.z1)); (case side2 => exact HC1.out); rintro e w82 ⟨v119, rfl, ho0, hb⟩; refine ⟨_, rfl, ?_⟩; have n0_ := Z4.k (Kd.S_elder' (by (with_reducible repeat (first | apply Kd.S_alloc | apply Kd.S_drewN | apply Kd.S_drew)); exact (Kd.S_mono (Kd.S_far (p := ⟨gb117, 2, none⟩) (Kd.S_far (p := ⟨gb117, 1, none⟩) (Kd.S_far (p := ⟨gb117, 0, none⟩) (Kd.S_types HO107.out BK117.out (by decide)) (fun _ hk => hk.2) (.int .i64 t112)) (fun _ hk => hk.2) (.int .i64 t113)) (fun _ hk => hk.2) (.slice Ao81 t114.length co81)) (fun _ h_ => h_.1))) (Kd.R_base ho0) hb); have n1_ := Z4.k (Kd.R_elder' Z4.z21 (Kd.R_base ho0) hb); have n2_ := Z4.k (Kd.S_elder' (by (with_reducible repeat (first | apply Kd.S_alloc | apply Kd.S_drewN | apply Kd.S_drew)); exact (Kd.S_mono (Kd.S_far (p := ⟨gb117, 2, none⟩) (Kd.S_far (p := ⟨gb117, 1, none⟩) (Kd.S_far (p := ⟨gb117, 0, none⟩) (Kd.S_types HO116.out BK117.out (by decide)) (fun _ hk => hk.2) (.int .i64 t112)) (fun _ hk => hk.2) (.int .i64 t113)) (fun _ hk => hk.2) (.slice Ao81 t114.length co81)) (fun _ h_ => h_.1))) (Kd.R_base ho0) hb); have n3_ := Z4.k (Kd.R_lower (Kd.R_new' ho0 (Kd.R_lt Z4.z21)) (below_size Z4.z1)); have n4_ := Z4.k (Z4.bb BK101 Z4.z19 hb); have n5_ := Z4.k (blk_below (g := gb117) (o := .cells #[.int .i64 t112, .int .i64 t113, .slice Ao81 t114.length co81] 41 (0, 0)) Z4.z7 hb); have n6_ := Z4.k (below_step Z4.z1 hb); clear HO107 HO110 HO116 BK101 BK117 HB; have HO107 := n0_; have HO110 := n1_; have HO116 := n2_; have HO120 := n3_; have BK101 := n4_; have BK117 := n5_; have HB := n6_; clear n0_ n1_ n2_ n3_ n4_ n5_ n6_; (try clear hb); (try clear hb2); (try clear hk); (try clear hi); (try clear ho0); have hcz83_0 : w82.cell? ⟨gb117, 0, none⟩ = some (.int .i64 t112) := (blk_cell BK117.out 0).trans rfl; have hcz83_1 : w82.cell? ⟨gb117, 1, none⟩ = some (.int .i64 t113) := (blk_cell BK117.out 1).trans rfl; have hcz83_2 : w82.cell? ⟨gb117, 2, none⟩ = some (.slice Ao81 t114.length co81) := (blk_cell BK117.out 2).trans rfl; have hfz83_0 := blk_frozen BK117.out 0; have hfz83_1 := blk_frozen BK117.out 1; have hfz83_2 := blk_frozen BK117.out 2; obtain ⟨Ao84, co84, eo84⟩ := Kd.R_slice HO120.out; subst eo84) | ((with_reducible refine gate_callee (f := 20) rfl ?_); refine goesL_ (some 29) rfl rfl Try.func20 (by kernel_rfl) rfl #[.agg #[.int .i64 t112, .int .i64 t113, .slice Ao81 t114.length co81], .slice Ao84 t118.length co84] rfl Z4.z2 ?_; (with_reducible refine (impl_ContainsVector.calls k t112 t113 _ _ t114 _ _ t118 t121 _ ?side1 ?side2 ?side3 ?side4 A15.out).mono ?_); (case side1 => exact Z4.z13); (case side2 => exact (Kd.S_reads' HO116.out).2.1); (case side3 => exact Z4.z14); (case side4 => exact (Kd.R_reads' HO120.out).2.1); rintro e w85 ⟨rfl, hb⟩; refine ⟨_, rfl, ?_⟩; have n0_ := Z4.k (Kd.S_below Z4.z4 hb); have n1_ := Z4.k (Kd.R_below Z4.z5 hb); have n2_ := Z4.k (Kd.S_below Z4.z10 hb); have n3_ := Z4.k (Kd.R_below Z4.z11 hb); have n4_ := Z4.k (Z4.bb BK101 Z4.z3 hb); have n5_ := Z4.k (Z4.bb BK117 Z4.z12 hb); have n6_ := Z4.k (below_step Z4.z1 hb); clear HO107 HO110 HO116 HO120 BK101 BK117 HB; have HO107 := n0_; have HO110 := n1_; have HO116 := n2_; have HO120 := n3_; have BK101 := n4_; have BK117 := n5_; have HB := n6_; clear n0_ n1_ n2_ n3_ n4_ n5_ n6_; (try clear hb); (try clear hb2); (try clear hk); (try clear hi)))
  have n0_ := Z4.k (Kd.S_drew HO107.out)
  have n1_ := Z4.k (Kd.R_drew HO110.out)
  have n2_ := Z4.k (Kd.S_drew HO116.out)
  have n3_ := Z4.k (Kd.R_drew HO120.out)
  have n4_ := Z4.k (blk_drew BK101.out)
  have n5_ := Z4.k (blk_drew BK117.out)
  have n6_ := Z4.k (below_drew1 HB.out)
  clear HO107 HO110 HO116 HO120 BK101 BK117 HB
  have HO107 := n0_
  have HO110 := n1_
  have HO116 := n2_
  have HO120 := n3_
  have BK101 := n4_
  have BK117 := n5_
  have HB := n6_
  clear n0_ n1_ n2_ n3_ n4_ n5_ n6_
  refine start_ (n := 5) (S := fun w' => w'.cell? ⟨gb117, 0, none⟩ = some (.int .i64 t112) ∧ w'.cell? ⟨gb117, 1, none⟩ = some (.int .i64 t113) ∧ w'.cell? ⟨gb117, 2, none⟩ = some (.slice Ao81 t114.length co81) ∧ w'.cell? ⟨gb101, 0, none⟩ = some (.int .i64 a0_0) ∧ w'.cell? ⟨gb101, 1, none⟩ = some (.int .i64 a0_1) ∧ w'.cell? ⟨gb101, 2, none⟩ = some (.slice A0_2 l0_2.length c0_2)) (ds := []) #[false, false, false, false, false] (by kernel_rfl) rfl rfl Z4.z9 (fun hHeld => ?_)
  generalize w85.drew = w86 at HO107 HO110 HO116 HO120 BK101 BK117 HB hHeld ⊢
  refine Z4.pT6 0 33 (Z4.b 5 1) (by kernel_rfl) hHeld ?_
  refine Z4.pT6 1 34 (Z4.b 5 3) (by kernel_rfl) hHeld ?_
  refine one_ (i := 2) (N := some 35) (Z4.b 5 7) rfl rfl (by kernel_rfl) (by decide) (fun K hK => ?_)
  refine goes_ Try.func19 (by kernel_rfl) rfl #[.agg #[.int .i64 a0_0, .int .i64 a0_1, .slice A0_2 l0_2.length c0_2]] (by rfl) rfl rfl Z4.z2 ?_
  with_reducible refine (laws_toSpace.calls k a0_0 a0_1 _ _ l0_2 t122 t123 t124 _ ?side1 ?side2 A36.out).mono ?_
  (case side1 => exact Z4.z6)
  (case side2 => exact HC0_2.out)
  rintro e w87 ⟨v125, rfl, ho0, hb⟩
  refine ⟨_, rfl, ?_⟩
  have n0_ := Z4.k (Kd.S_elder' Z4.z4 (Kd.S_base ho0) hb)
  have n1_ := Z4.k (Kd.R_below Z4.z5 hb)
  have n2_ := Z4.k (Kd.S_elder' Z4.z10 (Kd.S_base ho0) hb)
  have n3_ := Z4.k (Kd.R_below Z4.z11 hb)
  have n4_ := Z4.k (Kd.S_lower (Kd.S_new' (Kd.S_new' (Kd.S_new' (Kd.S_new' ho0 (Kd.S_lt Z4.z4)) (Kd.R_lt Z4.z5)) (Kd.S_lt Z4.z10)) (Kd.R_lt Z4.z11)) (below_size Z4.z1))
  have n5_ := Z4.k (Z4.bb BK101 Z4.z3 hb)
  have n6_ := Z4.k (Z4.bb BK117 Z4.z12 hb)
  have n7_ := Z4.k (below_step Z4.z1 hb)
  clear HO107 HO110 HO116 HO120 BK101 BK117 HB
  have HO107 := n0_
  have HO110 := n1_
  have HO116 := n2_
  have HO120 := n3_
  have HO126 := n4_
  have BK101 := n5_
  have BK117 := n6_
  have HB := n7_
  clear n0_ n1_ n2_ n3_ n4_ n5_ n6_ n7_
  (try clear hb)
  (try clear hb2)
  (try clear hk)
  (try clear hi)
  (try clear ho0)
  obtain ⟨Ao88, co88, eo88⟩ := Kd.S_slice HO126.out
  (first | subst eo88 | (injection eo88 with f1_ f2_ f3_; have f4_ := f1_.symm; have f5_ := f3_.symm; clear f1_ f2_ f3_; subst f4_; subst f5_))
  refine hK.out _ _ Z4.z9 (fun hHeld => ?_)
  clear hK K
  refine norm_ (a' := ?_) ?_ ?_
  rotate_left
  ·show Act.put _ (some 35) _ = _
   simp only [Act.put, List.setIfInBounds_toArray, List.set_cons_zero, List.set_cons_succ, i64_w, i32_w]
   rfl
  refine one_ (i := 3) (N := some 36) (Z4.b 5 15) rfl rfl (by kernel_rfl) (by decide) (fun K hK => ?_)
  refine goes_ Try.func21 (by kernel_rfl) rfl #[.agg #[.int .i64 t112, .int .i64 t113, .slice Ao81 t114.length co81], .agg #[.int .i64 t122, .int .i64 t123, .slice Ao88 t124.length co88]] (by rfl) rfl rfl Z4.z2 ?_
  with_reducible refine (laws_eqSpace.calls k t112 t113 _ _ t114 t122 t123 _ _ t124 true _ ?side1 ?side2 ?side3 ?side4 A37.out).mono ?_
  (case side1 => exact Z4.z13)
  (case side2 => exact (Kd.S_reads' HO116.out).2.1)
  (case side3 => exact Z4.z26)
  (case side4 => exact (Kd.S_reads' HO126.out).2.1)
  rintro e w89 ⟨rfl, hb⟩
  refine ⟨_, rfl, ?_⟩
  have n0_ := Z4.k (Kd.S_below Z4.z4 hb)
  have n1_ := Z4.k (Kd.R_below Z4.z5 hb)
  have n2_ := Z4.k (Kd.S_below Z4.z10 hb)
  have n3_ := Z4.k (Kd.R_below Z4.z11 hb)
  have n4_ := Z4.k (Kd.S_below Z4.z25 hb)
  have n5_ := Z4.k (Z4.bb BK101 Z4.z3 hb)
  have n6_ := Z4.k (Z4.bb BK117 Z4.z12 hb)
  have n7_ := Z4.k (below_step Z4.z1 hb)
  clear HO107 HO110 HO116 HO120 HO126 BK101 BK117 HB
  have HO107 := n0_
  have HO110 := n1_
  have HO116 := n2_
  have HO120 := n3_
  have HO126 := n4_
  have BK101 := n5_
  have BK117 := n6_
  have HB := n7_
  clear n0_ n1_ n2_ n3_ n4_ n5_ n6_ n7_
  (try clear hb)
  (try clear hb2)
  (try clear hk)
  (try clear hi)
  refine hK.out _ _ Z4.z9 (fun hHeld => ?_)
  clear hK K
  refine norm_ (a' := ?_) ?_ ?_
  rotate_left
  ·show Act.put _ (some 36) _ = _
   simp only [Act.put, List.setIfInBounds_toArray, List.set_cons_zero, List.set_cons_succ, i64_w, i32_w]
   rfl
  refine Z4.pP 4 37 (Z4.b 5 31) (by kernel_rfl) ?_
  refine done_ (by kernel_rfl) ?_
  try go_wp2_with (first | ((with_reducible refine gate_callee (f := 10) rfl ?_); refine goesL_ (some 40) rfl rfl Try.func10 (by kernel_rfl) rfl #[.slice A1 l1.length c1] rfl Z4.z2 ?_; (with_reducible refine (laws_toInt64S.calls k _ _ l1 t128 _ ?side1 ?side2 A39.out).mono ?_); (case side1 => exact Z4.z15); (case side2 => exact HC1.out); rintro e w90 ⟨v129, rfl, ho0, hb⟩; refine ⟨_, rfl, ?_⟩; have n0_ := Z4.k (Kd.S_elder' Z4.z4 (Kd.R_base ho0) hb); have n1_ := Z4.k (Kd.R_elder' Z4.z5 (Kd.R_base ho0) hb); have n2_ := Z4.k (Kd.S_elder' Z4.z10 (Kd.R_base ho0) hb); have n3_ := Z4.k (Kd.R_elder' Z4.z11 (Kd.R_base ho0) hb); have n4_ := Z4.k (Kd.S_elder' Z4.z25 (Kd.R_base ho0) hb); have n5_ := Z4.k (Kd.R_lower (Kd.R_new' (Kd.R_new' ho0 (Kd.R_lt Z4.z5)) (Kd.R_lt Z4.z11)) (below_size Z4.z1)); have n6_ := Z4.k (Z4.bb BK101 Z4.z3 hb); have n7_ := Z4.k (Z4.bb BK117 Z4.z12 hb); have n8_ := Z4.k (below_step Z4.z1 hb); clear HO107 HO110 HO116 HO120 HO126 BK101 BK117 HB; have HO107 := n0_; have HO110 := n1_; have HO116 := n2_; have HO120 := n3_; have HO126 := n4_; have HO130 := n5_; have BK101 := n6_; have BK117 := n7_; have HB := n8_; clear n0_ n1_ n2_ n3_ n4_ n5_ n6_ n7_ n8_; (try clear hb); (try clear hb2); (try clear hk); (try clear hi); (try clear ho0); obtain ⟨Ao91, co91, eo91⟩ := Kd.R_slice HO130.out; subst eo91) | ((with_reducible refine gate_callee (f := 12) rfl ?_); refine goesL_ (some 41) rfl rfl Try.func12 (by kernel_rfl) rfl #[.slice Ao84 t118.length co84, .slice Ao91 t128.length co91] rfl Z4.z2 ?_; (with_reducible refine (laws_eqInt64S.calls k _ _ t118 _ _ t128 false _ ?side1 ?side2 ?side3 ?side4 A40.out).mono ?_); (case side1 => exact Z4.z14); (case side2 => exact (Kd.R_reads' HO120.out).2.1); (case side3 => exact Z4.z27); (case side4 => exact (Kd.R_reads' HO130.out).2.1); rintro e w' ⟨rfl, ⟨nd, rfl⟩⟩; refine ⟨_, rfl, ?_⟩))
  go_ret
  exact ⟨Z4.z24, Z4.z1⟩
 replace c38 := Bool.eq_false_iff.mpr c38
 subst c38
 have H1 : (some false) = some r := by rw [if_neg (show ¬ (false = true) by decide)] at H; exact H
 clear H
 have H := H1
 clear H1
 obtain rfl := Option.some.inj H
 go_enter Try.func4, Try.ntmps4
 try go_wp2_with (first | ((with_reducible refine gate_dst (N := 2) rfl ?_); refine box_event ?hg (N := 2) ?hd (cs := #[.int .i64 a0_0, .int .i64 a0_1, .slice A0_2 l0_2.length c0_2]) (t := 38) ?hr ?_; (case hd => rfl); (case hg => rfl); (case hr => first | (go_simp; done) | (go_simp; rfl)); intro gb101 hg w92 hbox hb; have n0_ := Z4.k (below_step Z4.z8 hb); have n1_ := Z4.k (hbox); have n2_ := Z4.k (show w.heap.size ≤ gb101 from (by rw [hg]; exact (below_size Z4.z8))); have n3_ := Z4.k (show w.heap.size ≤ gb101 from (by rw [hg]; exact (below_size Z4.z8))); clear HB; have HB := n0_; have BK101 := n1_; have GW101 := n2_; have GE101 := n3_; clear n0_ n1_ n2_ n3_; clear hb hbox hg; have hcz93_0 : w92.cell? ⟨gb101, 0, none⟩ = some (.int .i64 a0_0) := (blk_cell BK101.out 0).trans rfl; have hcz93_1 : w92.cell? ⟨gb101, 1, none⟩ = some (.int .i64 a0_1) := (blk_cell BK101.out 1).trans rfl; have hcz93_2 : w92.cell? ⟨gb101, 2, none⟩ = some (.slice A0_2 l0_2.length c0_2) := (blk_cell BK101.out 2).trans rfl; have hfz93_0 := blk_frozen BK101.out 0; have hfz93_1 := blk_frozen BK101.out 1; have hfz93_2 := blk_frozen BK101.out 2) | ((with_reducible refine gate_callee (f := 17) rfl ?_); refine goesL_ (some 15) rfl rfl Try.func17 (by kernel_rfl) rfl #[.agg #[.int .i64 a0_0, .int .i64 a0_1, .slice A0_2 l0_2.length c0_2], .int .i64 1048576] rfl Z4.z2 ?_; (with_reducible refine (laws_szSpace.calls k a0_0 a0_1 _ _ l0_2 1048576 t102 _ ?side1 ?side2 A5.out).mono ?_); (case side1 => exact Z4.z6); (case side2 => exact HC0_2.out); rintro e w94 ⟨rfl, hb⟩; refine ⟨_, rfl, ?_⟩; have n0_ := Z4.k (Z4.bb BK101 Z4.z3 hb); have n1_ := Z4.k (below_step Z4.z0 hb); clear BK101 HB; have BK101 := n0_; have HB := n1_; clear n0_ n1_; (try clear hb); (try clear hb2); (try clear hk); (try clear hi); have hcz95_0 : w94.cell? ⟨gb101, 0, none⟩ = some (.int .i64 a0_0) := (blk_cell BK101.out 0).trans rfl; have hcz95_1 : w94.cell? ⟨gb101, 1, none⟩ = some (.int .i64 a0_1) := (blk_cell BK101.out 1).trans rfl; have hcz95_2 : w94.cell? ⟨gb101, 2, none⟩ = some (.slice A0_2 l0_2.length c0_2) := (blk_cell BK101.out 2).trans rfl; have hfz95_0 := blk_frozen BK101.out 0; have hfz95_1 := blk_frozen BK101.out 1; have hfz95_2 := blk_frozen BK101.out 2) | ((with_reducible refine gate_callee (f := 19) rfl ?_); refine goesL_ (some 19) rfl rfl Try.func19 (by kernel_rfl) rfl #[.agg #[.int .i64 a0_0, .int .i64 a0_1, .slice A0_2 l0_2.length c0_2]] rfl Z4.z2 ?_; (with_reducible refine (laws_toSpace.calls k a0_0 a0_1 _ _ l0_2 t103 t104 t105 _ ?side1 ?side2 A10.out).mono ?_); (case side1 => exact Z4.z6); (case side2 => exact HC0_2.out); rintro e w96 ⟨v106, rfl, ho0, hb⟩; refine ⟨_, rfl, ?_⟩; have n0_ := Z4.k (Kd.S_lower ho0 (below_size Z4.z0)); have n1_ := Z4.k (Z4.bb BK101 Z4.z3 hb); have n2_ := Z4.k (below_step Z4.z0 hb); clear BK101 HB; have HO107 := n0_; have BK101 := n1_; have HB := n2_; clear n0_ n1_ n2_; (try clear hb); (try clear hb2); (try clear hk); (try clear hi); (try clear ho0)) | ((with_reducible refine gate_callee (f := 10) rfl ?_); refine goesL_ (some 21) rfl rfl Try.func10 (by kernel_rfl) rfl #[.slice A1 l1.length c1] rfl Z4.z2 ?_; (with_reducible refine (laws_toInt64S.calls k _ _ l1 t108 _ ?side1 ?side2 A11.out).mono ?_); (case side1 => exact Z4.z15); (case side2 => exact HC1.out); rintro e w97 ⟨v109, rfl, ho0, hb⟩; refine ⟨_, rfl, ?_⟩; have n0_ := Z4.k (Kd.S_elder' Z4.z4 (Kd.R_base ho0) hb); have n1_ := Z4.k (Kd.R_lower ho0 (below_size Z4.z0)); have n2_ := Z4.k (Z4.bb BK101 Z4.z3 hb); have n3_ := Z4.k (below_step Z4.z0 hb); clear HO107 BK101 HB; have HO107 := n0_; have HO110 := n1_; have BK101 := n2_; have HB := n3_; clear n0_ n1_ n2_ n3_; (try clear hb); (try clear hb2); (try clear hk); (try clear hi); (try clear ho0); obtain ⟨Ao98, co98, eo98⟩ := Kd.S_slice HO107.out; subst eo98; obtain ⟨Ao99, co99, eo99⟩ := Kd.R_slice HO110.out; subst eo99) | ((with_reducible refine gate_callee (f := 18) rfl ?_); refine goesL_ (some 22) rfl rfl Try.func18 (by kernel_rfl) rfl #[.agg #[.int .i64 t103, .int .i64 t104, .slice Ao98 t105.length co98], .slice Ao99 t108.length co99] rfl Z4.z2 ?_; (with_reducible refine (spec_ContainsVector.calls k t103 t104 _ _ t105 _ _ t108 t111 _ ?side1 ?side2 ?side3 ?side4 A12.out).mono ?_); (case side1 => exact Z4.z17); (case side2 => exact (Kd.S_reads' HO107.out).2.1); (case side3 => exact Z4.z18); (case side4 => exact (Kd.R_reads' HO110.out).2.1); rintro e w100 ⟨rfl, hb⟩; refine ⟨_, rfl, ?_⟩; have n0_ := Z4.k (Kd.S_below Z4.z4 hb); have n1_ := Z4.k (Kd.R_below Z4.z5 hb); have n2_ := Z4.k (Z4.bb BK101 Z4.z3 hb); have n3_ := Z4.k (below_step Z4.z0 hb); clear HO107 HO110 BK101 HB; have HO107 := n0_; have HO110 := n1_; have BK101 := n2_; have HB := n3_; clear n0_ n1_ n2_ n3_; (try clear hb); (try clear hb2); (try clear hk); (try clear hi); have hcz101_0 : w100.cell? ⟨gb101, 0, none⟩ = some (.int .i64 a0_0) := (blk_cell BK101.out 0).trans rfl; have hcz101_1 : w100.cell? ⟨gb101, 1, none⟩ = some (.int .i64 a0_1) := (blk_cell BK101.out 1).trans rfl; have hcz101_2 : w100.cell? ⟨gb101, 2, none⟩ = some (.slice A0_2 l0_2.length c0_2) := (blk_cell BK101.out 2).trans rfl; have hfz101_0 := blk_frozen BK101.out 0; have hfz101_1 := blk_frozen BK101.out 1; have hfz101_2 := blk_frozen BK101.out 2) | ((with_reducible refine gate_callee (f := 19) rfl ?_); refine goesL_ (some 24) rfl rfl Try.func19 (by kernel_rfl) rfl #[.agg #[.int .i64 a0_0, .int .i64 a0_1, .slice A0_2 l0_2.length c0_2]] rfl Z4.z2 ?_; (with_reducible refine (laws_toSpace.calls k a0_0 a0_1 _ _ l0_2 t112 t113 t114 _ ?side1 ?side2 A13.out).mono ?_); (case side1 => exact Z4.z6); (case side2 => exact HC0_2.out); rintro e w102 ⟨v115, rfl, ho0, hb⟩; refine ⟨_, rfl, ?_⟩; have n0_ := Z4.k (Kd.S_elder' Z4.z4 (Kd.S_base ho0) hb); have n1_ := Z4.k (Kd.R_below Z4.z5 hb); have n2_ := Z4.k (Kd.S_lower (Kd.S_new' (Kd.S_new' ho0 (Kd.S_lt Z4.z4)) (Kd.R_lt Z4.z5)) (below_size Z4.z0)); have n3_ := Z4.k (Z4.bb BK101 Z4.z3 hb); have n4_ := Z4.k (below_step Z4.z0 hb); clear HO107 HO110 BK101 HB; have HO107 := n0_; have HO110 := n1_; have HO116 := n2_; have BK101 := n3_; have HB := n4_; clear n0_ n1_ n2_ n3_ n4_; (try clear hb); (try clear hb2); (try clear hk); (try clear hi); (try clear ho0)) | ((with_reducible refine gate_dst (N := 7) rfl ?_); refine box_event ?hg (N := 7) ?hd (cs := #[.int .i64 0, .int .i64 0, .slice none 0 0]) (t := 41) ?hr ?_; (case hd => rfl); (case hg => rfl); (case hr => first | (go_simp; done) | (go_simp; rfl)); intro gb117 hg w103 hbox hb; have n0_ := Z4.k (Kd.S_below Z4.z4 hb); have n1_ := Z4.k (Kd.R_below Z4.z5 hb); have n2_ := Z4.k (Kd.S_below Z4.z10 hb); have n3_ := Z4.k (Z4.bb BK101 Z4.z3 hb); have n4_ := Z4.k (below_step Z4.z0 hb); have n5_ := Z4.k (hbox); have n6_ := Z4.k (show w.heap.size ≤ gb117 from (by rw [hg]; exact (below_size Z4.z0))); have n7_ := Z4.k (show w.heap.size ≤ gb117 from (by rw [hg]; exact (below_size Z4.z0))); have n8_ := Z4.k (show gb101 ≠ gb117 from (by rw [hg]; exact Nat.ne_of_lt (Z4.bl BK101 Z4.z3))); have n9_ := Z4.k (show gb117 ≠ gb101 from (by rw [hg]; exact Nat.ne_of_gt (Z4.bl BK101 Z4.z3))); clear HO107 HO110 HO116 BK101 HB; have HO107 := n0_; have HO110 := n1_; have HO116 := n2_; have BK101 := n3_; have HB := n4_; have BK117 := n5_; have GW117 := n6_; have GE117 := n7_; have NB101_117 := n8_; have NB117_101 := n9_; clear n0_ n1_ n2_ n3_ n4_ n5_ n6_ n7_ n8_ n9_; clear hb hbox hg; have hnb104 := NB117_101.out; have hnc104 := NB101_117.out; have hcz105_0 : w103.cell? ⟨gb117, 0, none⟩ = some (.int .i64 0) := (blk_cell BK117.out 0).trans rfl; have hcz105_1 : w103.cell? ⟨gb117, 1, none⟩ = some (.int .i64 0) := (blk_cell BK117.out 1).trans rfl; have hcz105_2 : w103.cell? ⟨gb117, 2, none⟩ = some (.slice none 0 0) := (blk_cell BK117.out 2).trans rfl; have hfz105_0 := blk_frozen BK117.out 0; have hfz105_1 := blk_frozen BK117.out 1; have hfz105_2 := blk_frozen BK117.out 2; obtain ⟨Ao106, co106, eo106⟩ := Kd.S_slice HO116.out; subst eo106) | ((with_reducible refine gate_callee (f := 10) rfl ?_); refine goesL_ (some 26) rfl rfl Try.func10 (by kernel_rfl) rfl #[.slice A1 l1.length c1] rfl Z4.z2 ?_; (with_reducible refine (laws_toInt64S.calls k _ _ l1 t118 _ ?side1 ?side2 A14.out).mono ?_); (case side1 => exact (by exact Kd.C_below HR1.out Z4.z1)); (case side2 => exact HC1.out); rintro e w107 ⟨v119, rfl, ho0, hb⟩; refine ⟨_, rfl, ?_⟩; have n0_ := Z4.k (Kd.S_elder' (by (with_reducible repeat (first | apply Kd.S_alloc | apply Kd.S_drewN | apply Kd.S_drew)); exact (Kd.S_mono (Kd.S_far (p := ⟨gb117, 2, none⟩) (Kd.S_far (p := ⟨gb117, 1, none⟩) (Kd.S_far (p := ⟨gb117, 0, none⟩) (Kd.S_types HO107.out BK117.out (by decide)) (fun _ hk => hk.2) (.int .i64 t112)) (fun _ hk => hk.2) (.int .i64 t113)) (fun _ hk => hk.2) (.slice Ao106 t114.length co106)) (fun _ h_ => h_.1))) (Kd.R_base ho0) hb); have n1_ := Z4.k (Kd.R_elder' Z4.z20 (Kd.R_base ho0) hb); have n2_ := Z4.k (Kd.S_elder' (by (with_reducible repeat (first | apply Kd.S_alloc | apply Kd.S_drewN | apply Kd.S_drew)); exact (Kd.S_mono (Kd.S_far (p := ⟨gb117, 2, none⟩) (Kd.S_far (p := ⟨gb117, 1, none⟩) (Kd.S_far (p := ⟨gb117, 0, none⟩) (Kd.S_types HO116.out BK117.out (by decide)) (fun _ hk => hk.2) (.int .i64 t112)) (fun _ hk => hk.2) (.int .i64 t113)) (fun _ hk => hk.2) (.slice Ao106 t114.length co106)) (fun _ h_ => h_.1))) (Kd.R_base ho0) hb); have n3_ := Z4.k (Kd.R_lower (Kd.R_new' ho0 (Kd.R_lt Z4.z20)) (below_size Z4.z1)); have n4_ := Z4.k (Z4.bb BK101 Z4.z19 hb); have n5_ := Z4.k (blk_below (g := gb117) (o := .cells #[.int .i64 t112, .int .i64 t113, .slice Ao106 t114.length co106] 41 (0, 0)) Z4.z7 hb); have n6_ := Z4.k (below_step Z4.z1 hb); clear HO107 HO110 HO116 BK101 BK117 HB; have HO107 := n0_; have HO110 := n1_; have HO116 := n2_; have HO120 := n3_; have BK101 := n4_; have BK117 := n5_; have HB := n6_; clear n0_ n1_ n2_ n3_ n4_ n5_ n6_; (try clear hb); (try clear hb2); (try clear hk); (try clear hi); (try clear ho0); have hcz108_0 : w107.cell? ⟨gb117, 0, none⟩ = some (.int .i64 t112) := (blk_cell BK117.out 0).trans rfl; have hcz108_1 : w107.cell? ⟨gb117, 1, none⟩ = some (.int .i64 t113) := (blk_cell BK117.out 1).trans rfl; have hcz108_2 : w107.cell? ⟨gb117, 2, none⟩ = some (.slice Ao106 t114.length co106) := (blk_cell BK117.out 2).trans rfl; have hfz108_0 := blk_frozen BK117.out 0; have hfz108_1 := blk_frozen BK117.out 1; have hfz108_2 := blk_frozen BK117.out 2; obtain ⟨Ao109, co109, eo109⟩ := Kd.R_slice HO120.out; subst eo109) | ((with_reducible refine gate_callee (f := 20) rfl ?_); refine goesL_ (some 29) rfl rfl Try.func20 (by kernel_rfl) rfl #[.agg #[.int .i64 t112, .int .i64 t113, .slice Ao106 t114.length co106], .slice Ao109 t118.length co109] rfl Z4.z2 ?_; (with_reducible refine (impl_ContainsVector.calls k t112 t113 _ _ t114 _ _ t118 t121 _ ?side1 ?side2 ?side3 ?side4 A15.out).mono ?_); (case side1 => exact Z4.z13); (case side2 => exact (Kd.S_reads' HO116.out).2.1); (case side3 => exact Z4.z14); (case side4 => exact (Kd.R_reads' HO120.out).2.1); rintro e w110 ⟨rfl, hb⟩; refine ⟨_, rfl, ?_⟩; have n0_ := Z4.k (Kd.S_below Z4.z4 hb); have n1_ := Z4.k (Kd.R_below Z4.z5 hb); have n2_ := Z4.k (Kd.S_below Z4.z10 hb); have n3_ := Z4.k (Kd.R_below Z4.z11 hb); have n4_ := Z4.k (Z4.bb BK101 Z4.z3 hb); have n5_ := Z4.k (Z4.bb BK117 Z4.z12 hb); have n6_ := Z4.k (below_step Z4.z1 hb); clear HO107 HO110 HO116 HO120 BK101 BK117 HB; have HO107 := n0_; have HO110 := n1_; have HO116 := n2_; have HO120 := n3_; have BK101 := n4_; have BK117 := n5_; have HB := n6_; clear n0_ n1_ n2_ n3_ n4_ n5_ n6_; (try clear hb); (try clear hb2); (try clear hk); (try clear hi)))
 have n0_ := Z4.k (Kd.S_drew HO107.out)
 have n1_ := Z4.k (Kd.R_drew HO110.out)
 have n2_ := Z4.k (Kd.S_drew HO116.out)
 have n3_ := Z4.k (Kd.R_drew HO120.out)
 have n4_ := Z4.k (blk_drew BK101.out)
 have n5_ := Z4.k (blk_drew BK117.out)
 have n6_ := Z4.k (below_drew1 HB.out)
 clear HO107 HO110 HO116 HO120 BK101 BK117 HB
 have HO107 := n0_
 have HO110 := n1_
 have HO116 := n2_
 have HO120 := n3_
 have BK101 := n4_
 have BK117 := n5_
 have HB := n6_
 clear n0_ n1_ n2_ n3_ n4_ n5_ n6_
 refine start_ (n := 5) (S := fun w' => w'.cell? ⟨gb117, 0, none⟩ = some (.int .i64 t112) ∧ w'.cell? ⟨gb117, 1, none⟩ = some (.int .i64 t113) ∧ w'.cell? ⟨gb117, 2, none⟩ = some (.slice Ao106 t114.length co106) ∧ w'.cell? ⟨gb101, 0, none⟩ = some (.int .i64 a0_0) ∧ w'.cell? ⟨gb101, 1, none⟩ = some (.int .i64 a0_1) ∧ w'.cell? ⟨gb101, 2, none⟩ = some (.slice A0_2 l0_2.length c0_2)) (ds := []) #[false, false, false, false, false] (by kernel_rfl) rfl rfl Z4.z9 (fun hHeld => ?_)
 generalize w110.drew = w111 at HO107 HO110 HO116 HO120 BK101 BK117 HB hHeld ⊢
 refine Z4.pT6 0 33 (Z4.b 5 1) (by kernel_rfl) hHeld ?_
 refine Z4.pT6 1 34 (Z4.b 5 3) (by kernel_rfl) hHeld ?_
 refine one_ (i := 2) (N := some 35) (Z4.b 5 7) rfl rfl (by kernel_rfl) (by decide) (fun K hK => ?_)
 refine goes_ Try.func19 (by kernel_rfl) rfl #[.agg #[.int .i64 a0_0, .int .i64 a0_1, .slice A0_2 l0_2.length c0_2]] (by rfl) rfl rfl Z4.z2 ?_
 with_reducible refine (laws_toSpace.calls k a0_0 a0_1 _ _ l0_2 t122 t123 t124 _ ?side1 ?side2 A36.out).mono ?_
 (case side1 => exact Z4.z6)
 (case side2 => exact HC0_2.out)
 rintro e w112 ⟨v125, rfl, ho0, hb⟩
 refine ⟨_, rfl, ?_⟩
 have n0_ := Z4.k (Kd.S_elder' Z4.z4 (Kd.S_base ho0) hb)
 have n1_ := Z4.k (Kd.R_below Z4.z5 hb)
 have n2_ := Z4.k (Kd.S_elder' Z4.z10 (Kd.S_base ho0) hb)
 have n3_ := Z4.k (Kd.R_below Z4.z11 hb)
 have n4_ := Z4.k (Kd.S_lower (Kd.S_new' (Kd.S_new' (Kd.S_new' (Kd.S_new' ho0 (Kd.S_lt Z4.z4)) (Kd.R_lt Z4.z5)) (Kd.S_lt Z4.z10)) (Kd.R_lt Z4.z11)) (below_size Z4.z1))
 have n5_ := Z4.k (Z4.bb BK101 Z4.z3 hb)
 have n6_ := Z4.k (Z4.bb BK117 Z4.z12 hb)
 have n7_ := Z4.k (below_step Z4.z1 hb)
 clear HO107 HO110 HO116 HO120 BK101 BK117 HB
 have HO107 := n0_
 have HO110 := n1_
 have HO116 := n2_
 have HO120 := n3_
 have HO126 := n4_
 have BK101 := n5_
 have BK117 := n6_
 have HB := n7_
 clear n0_ n1_ n2_ n3_ n4_ n5_ n6_ n7_
 (try clear hb)
 (try clear hb2)
 (try clear hk)
 (try clear hi)
 (try clear ho0)
 obtain ⟨Ao113, co113, eo113⟩ := Kd.S_slice HO126.out
 (first | subst eo113 | (injection eo113 with f1_ f2_ f3_; have f4_ := f1_.symm; have f5_ := f3_.symm; clear f1_ f2_ f3_; subst f4_; subst f5_))
 refine hK.out _ _ Z4.z9 (fun hHeld => ?_)
 clear hK K
 refine norm_ (a' := ?_) ?_ ?_
 rotate_left
 ·show Act.put _ (some 35) _ = _
  simp only [Act.put, List.setIfInBounds_toArray, List.set_cons_zero, List.set_cons_succ, i64_w, i32_w]
  rfl
 refine one_ (i := 3) (N := some 36) (Z4.b 5 15) rfl rfl (by kernel_rfl) (by decide) (fun K hK => ?_)
 refine goes_ Try.func21 (by kernel_rfl) rfl #[.agg #[.int .i64 t112, .int .i64 t113, .slice Ao106 t114.length co106], .agg #[.int .i64 t122, .int .i64 t123, .slice Ao113 t124.length co113]] (by rfl) rfl rfl Z4.z2 ?_
 with_reducible refine (laws_eqSpace.calls k t112 t113 _ _ t114 t122 t123 _ _ t124 false _ ?side1 ?side2 ?side3 ?side4 A37.out).mono ?_
 (case side1 => exact Z4.z13)
 (case side2 => exact (Kd.S_reads' HO116.out).2.1)
 (case side3 => exact Z4.z26)
 (case side4 => exact (Kd.S_reads' HO126.out).2.1)
 rintro e w114 ⟨rfl, hb⟩
 refine ⟨_, rfl, ?_⟩
 have n0_ := Z4.k (Kd.S_below Z4.z4 hb)
 have n1_ := Z4.k (Kd.R_below Z4.z5 hb)
 have n2_ := Z4.k (Kd.S_below Z4.z10 hb)
 have n3_ := Z4.k (Kd.R_below Z4.z11 hb)
 have n4_ := Z4.k (Kd.S_below Z4.z25 hb)
 have n5_ := Z4.k (Z4.bb BK101 Z4.z3 hb)
 have n6_ := Z4.k (Z4.bb BK117 Z4.z12 hb)
 have n7_ := Z4.k (below_step Z4.z1 hb)
 clear HO107 HO110 HO116 HO120 HO126 BK101 BK117 HB
 have HO107 := n0_
 have HO110 := n1_
 have HO116 := n2_
 have HO120 := n3_
 have HO126 := n4_
 have BK101 := n5_
 have BK117 := n6_
 have HB := n7_
 clear n0_ n1_ n2_ n3_ n4_ n5_ n6_ n7_
 (try clear hb)
 (try clear hb2)
 (try clear hk)
 (try clear hi)
 refine hK.out _ _ Z4.z9 (fun hHeld => ?_)
 clear hK K
 refine norm_ (a' := ?_) ?_ ?_
 rotate_left
 ·show Act.put _ (some 36) _ = _
  simp only [Act.put, List.setIfInBounds_toArray, List.set_cons_zero, List.set_cons_succ, i64_w, i32_w]
  rfl
 refine Z4.pP 4 37 (Z4.b 5 31) (by kernel_rfl) ?_
 refine done_ (by kernel_rfl) ?_
 try go_wp2
 go_ret
 exact ⟨Z4.z24, Z4.z1⟩
def laws_FnExactContainsVector.Pure : Prop := ∀ (a0_0 : Int) (a0_1 : Int) (l0_2 : List (List Int)) (l1 : List Int), (Lit.int .i64 a0_0).wf = true → (Lit.int .i64 a0_1).wf = true → l0_2.length ≤ maxLen → (∀ r ∈ l0_2, r.length ≤ maxLen ∧ ∀ x ∈ r, (Lit.int .i64 x).wf = true) → l1.length ≤ maxLen → l1.length * 8 ≤ 140737488351232 → (∀ x ∈ l1, (Lit.int .i64 x).wf = true) → ∃ k, laws_FnExactContainsVector.f k a0_0 a0_1 l0_2 l1 = some true
theorem laws_FnExactContainsVector.walk (P : laws_FnExactContainsVector.Pure) (a0_0 : Int) (a0_1 : Int) (a0_2 : Option Addr) (cap0_2 : Nat) (l0_2 : List (List Int)) (a1 : Option Addr) (len1 cap1 : Nat) (z1 : List Int) (w : World) (w0_0 : (Lit.int .i64 a0_0).wf = true) (w0_1 : (Lit.int .i64 a0_1).wf = true) (hr0_2 : Kd.C (Kd.slice 2 (Kd.int .i64)) w a0_2 l0_2.length l0_2) (hc0_2 : l0_2.length ≤ cap0_2) (hm0_2 : l0_2.length ≤ maxLen) (hw0_2 : ∀ r ∈ l0_2, r.length ≤ maxLen ∧ ∀ x ∈ r, (Lit.int .i64 x).wf = true) (w1 : (a1 = none ∧ len1 = 0 ∧ cap1 = 0 ∧ z1 = []) ∨ ∃ x, a1 = some x ∧ len1 ≤ cap1 ∧ cap1 ≤ maxLen ∧ z1.length = cap1 ∧ (∀ i, i < z1.length → w.cell? (x.add i) = some (.int .i64 (z1.getD i 0))) ∧ ∀ n ∈ z1, (Lit.int .i64 n).wf = true) (y1 : len1 * 8 ≤ 140737488351232) :
    Calls Try.prog 4 #[.agg #[.int .i64 a0_0, .int .i64 a0_1, .slice a0_2 l0_2.length cap0_2], .slice a1 len1 cap1] w fun e w' => e = .returned (.bool true) ∧ Below w.heap.size w w' := by
  obtain ⟨l1, rfl, hr1, hm1, hw1, hc1⟩ := ReadsInt.ofRowC w1
  obtain ⟨k, h⟩ := P a0_0 a0_1 l0_2 l1 w0_0 w0_1 hm0_2 hw0_2 hm1 y1 hw1
  refine (laws_FnExactContainsVector.calls k a0_0 a0_1 _ _ l0_2 _ _ l1 true w hr0_2 hc0_2 (Kd.C_of_reads (d := (0 : Int)) (h1 := fun _ => rfl) hr1) hc1 h).mono ?_
  rintro e w' ⟨rfl, hd⟩
  exact ⟨rfl, hd⟩
end Go.Proofs.Ytmbbjmkcbpefhaa.F
end
