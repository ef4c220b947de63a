-- Texts of this claim, merged by pack.py (a program of this session's).
import Derived.Test.YthnijchgjfmgaaaQFnExactStackRows0
import Derived.Test.YthnijchgjfmgaaaQFnExactStackRows1
import Derived.Test.YthnijchgjfmgaaaQFnExactStackRows2
import Derived.Test.YthnijchgjfmgaaaQFnExactStackRows4
import Derived.Test.YthnijchgjfmgaaaQFnExactStackRows5

section
namespace Go.Proofs.Ythnijchgjfmgaaa.F
open Go.RowKit Go.Proofs.YthnijchgjfmgaaaW.PrintWords Go.Proofs.YthnijchgjfmgaaaW.PrintLast Go.Proofs.YthnijchgjfmgaaaW.PrintMore
attribute [local go_sem] max2_int min2_int max_two min_two max_three min_three max_four min_four   -- for this text's walks alone
set_option linter.unusedVariables false
set_option linter.unusedSimpArgs false

set_option maxHeartbeats 8000000 in
set_option maxRecDepth 100000 in
theorem laws_FnExactStackRows.calls (k : Nat) (a0_0 : Int) (a0_1 : Int) (a0_2 : Int) (A0_3 : Option Addr) (c0_3 : Nat) (l0_3 : List Int) (a1_0 : Int) (a1_1 : Int) (a1_2 : Int) (A1_3 : Option Addr) (c1_3 : Nat) (l1_3 : List Int) (r : Bool) (w : World) (hr0_3 : Kd.C (Kd.int .i64) w A0_3 l0_3.length l0_3) (hc0_3 : l0_3.length ≤ c0_3) (hr1_3 : Kd.C (Kd.int .i64) w A1_3 l1_3.length l1_3) (hc1_3 : l1_3.length ≤ c1_3) (h : laws_FnExactStackRows.f k a0_0 a0_1 a0_2 l0_3 a1_0 a1_1 a1_2 l1_3 = some r) :
  Calls Try.prog 6 #[.agg #[.int .i64 a0_0, .int .i64 a0_1, .int .i64 a0_2, .slice A0_3 l0_3.length c0_3], .agg #[.int .i64 a1_0, .int .i64 a1_1, .int .i64 a1_2, .slice A1_3 l1_3.length c1_3]] w fun e w' => e = .returned (.bool r) ∧ Below w.heap.size w w' := by
 have hu24 := Try.underlying24
 have hu28 := Try.underlying28
 have HR0_3 := Z6.k hr0_3
 have HC0_3 := Z6.k hc0_3
 clear hr0_3 hc0_3
 have HR1_3 := Z6.k hr1_3
 have HC1_3 := Z6.k hc1_3
 clear hr1_3 hc1_3
 have HB := Z6.k (Below.refl w.heap.size w)
 have H : ((laws_szMatrix.f a0_0 a0_1 a0_2 l0_3 1048576).bind fun t103 => (if t103 < 0 then (some true) else ((laws_szMatrix.f a1_0 a1_1 a1_2 l1_3 t103).bind fun t104 => (if t104 < 0 then (some true) else ((laws_toMatrix.f k a0_0 a0_1 a0_2 l0_3).bind fun bt105 => ((laws_toMatrix.f k a1_0 a1_1 a1_2 l1_3).bind fun bt111 => ((spec_StackRows.f k bt105.1 bt105.2.1 bt105.2.2.1 bt105.2.2.2 bt111.1 bt111.2.1 bt111.2.2.1 bt111.2.2.2).bind fun bt117 => ((laws_toMatrix.f k a0_0 a0_1 a0_2 l0_3).bind fun bt125 => ((laws_toMatrix.f k a1_0 a1_1 a1_2 l1_3).bind fun bt132 => ((impl_StackRows.f k bt125.1 bt125.2.1 bt125.2.2.1 bt125.2.2.2 bt132.1 bt132.2.1 bt132.2.2.1 bt132.2.2.2).bind fun bt139 => ((laws_eqMatrix.f k bt139.1 bt139.2.1 bt139.2.2.1 bt139.2.2.2.1 bt117.1 bt117.2.1 bt117.2.2.1 bt117.2.2.2.1).bind fun t147 => (if t147 = true then (laws_FnExactStackRows.j0 k bt117.2.2.2.2 bt139.2.2.2.2 (bt139.2.2.2.2 != bt117.2.2.2.2) a0_0 a0_1 a0_2 l0_3 a1_0 a1_1 a1_2 l1_3 bt117.1 bt117.2.1 bt117.2.2.1 bt117.2.2.2.1 bt125.1 bt125.2.1 bt125.2.2.1 bt125.2.2.2 bt132.1 bt132.2.1 bt132.2.2.1 bt132.2.2.2 bt139.1 bt139.2.1 bt139.2.2.1 bt139.2.2.2.1) else (laws_FnExactStackRows.j0 k bt117.2.2.2.2 bt139.2.2.2.2 true a0_0 a0_1 a0_2 l0_3 a1_0 a1_1 a1_2 l1_3 bt117.1 bt117.2.1 bt117.2.2.1 bt117.2.2.2.1 bt125.1 bt125.2.1 bt125.2.2.1 bt125.2.2.2 bt132.1 bt132.2.1 bt132.2.2.1 bt132.2.2.2 bt139.1 bt139.2.1 bt139.2.2.1 bt139.2.2.2.1))))))))))))) = some r := h
 clear h
 replace H := Option.bind_eq_some_iff.mp H
 obtain ⟨t103, A30, H⟩ := H
 replace H : (if t103 < 0 then (some true) else ((laws_szMatrix.f a1_0 a1_1 a1_2 l1_3 t103).bind fun t104 => (if t104 < 0 then (some true) else ((laws_toMatrix.f k a0_0 a0_1 a0_2 l0_3).bind fun bt105 => ((laws_toMatrix.f k a1_0 a1_1 a1_2 l1_3).bind fun bt111 => ((spec_StackRows.f k bt105.1 bt105.2.1 bt105.2.2.1 bt105.2.2.2 bt111.1 bt111.2.1 bt111.2.2.1 bt111.2.2.2).bind fun bt117 => ((laws_toMatrix.f k a0_0 a0_1 a0_2 l0_3).bind fun bt125 => ((laws_toMatrix.f k a1_0 a1_1 a1_2 l1_3).bind fun bt132 => ((impl_StackRows.f k bt125.1 bt125.2.1 bt125.2.2.1 bt125.2.2.2 bt132.1 bt132.2.1 bt132.2.2.1 bt132.2.2.2).bind fun bt139 => ((laws_eqMatrix.f k bt139.1 bt139.2.1 bt139.2.2.1 bt139.2.2.2.1 bt117.1 bt117.2.1 bt117.2.2.1 bt117.2.2.2.1).bind fun t147 => (if t147 = true then (laws_FnExactStackRows.j0 k bt117.2.2.2.2 bt139.2.2.2.2 (bt139.2.2.2.2 != bt117.2.2.2.2) a0_0 a0_1 a0_2 l0_3 a1_0 a1_1 a1_2 l1_3 bt117.1 bt117.2.1 bt117.2.2.1 bt117.2.2.2.1 bt125.1 bt125.2.1 bt125.2.2.1 bt125.2.2.2 bt132.1 bt132.2.1 bt132.2.2.1 bt132.2.2.2 bt139.1 bt139.2.1 bt139.2.2.1 bt139.2.2.2.1) else (laws_FnExactStackRows.j0 k bt117.2.2.2.2 bt139.2.2.2.2 true a0_0 a0_1 a0_2 l0_3 a1_0 a1_1 a1_2 l1_3 bt117.1 bt117.2.1 bt117.2.2.1 bt117.2.2.2.1 bt125.1 bt125.2.1 bt125.2.2.1 bt125.2.2.2 bt132.1 bt132.2.1 bt132.2.2.1 bt132.2.2.2 bt139.1 bt139.2.1 bt139.2.2.1 bt139.2.2.2.1)))))))))))) = some r := H
 have A3 := Z6.k A30
 clear A30
 by_cases c4 : t103 < 0
 ·rw [if_pos c4] at H
  have c4b0 : decide (t103 < 0) = true := decide_eq_true c4
  clear c4
  obtain rfl := Option.some.inj H
  go_enter Try.func6, Try.ntmps6
  go_wp2_with (first | ((with_reducible refine gate_dst (N := 2) rfl ?_); refine box_event ?hg (N := 2) ?hd (cs := #[.int .i64 a0_0, .int .i64 a0_1, .int .i64 a0_2, .slice A0_3 l0_3.length c0_3]) (t := 24) ?hr ?_; (case hd => rfl); (case hg => rfl); (case hr => first | (go_simp; done) | (go_simp; rfl)); intro gb101 hg w5 hbox hb; have n0_ := Z6.k (below_step Z6.z35 hb); have n1_ := Z6.k (hbox); have n2_ := Z6.k (show w.heap.size ≤ gb101 from (by rw [hg]; exact (below_size Z6.z35))); have n3_ := Z6.k (show w.heap.size ≤ gb101 from (by rw [hg]; exact (below_size Z6.z35))); clear HB; have HB := n0_; have BK101 := n1_; have GW101 := n2_; have GE101 := n3_; clear n0_ n1_ n2_ n3_; clear hb hbox hg) | ((with_reducible refine gate_dst (N := 3) rfl ?_); refine box_event ?hg (N := 3) ?hd (cs := #[.int .i64 a1_0, .int .i64 a1_1, .int .i64 a1_2, .slice A1_3 l1_3.length c1_3]) (t := 24) ?hr ?_; (case hd => rfl); (case hg => rfl); (case hr => first | (go_simp; done) | (go_simp; rfl)); intro gb102 hg w6 hbox hb; have n0_ := Z6.k (Z6.bb BK101 Z6.z1 hb); have n1_ := Z6.k (below_step Z6.z31 hb); have n2_ := Z6.k (hbox); have n3_ := Z6.k (show w.heap.size ≤ gb102 from (by rw [hg]; exact (below_size Z6.z31))); have n4_ := Z6.k (show w.heap.size ≤ gb102 from (by rw [hg]; exact (below_size Z6.z31))); have n5_ := Z6.k (show gb101 ≠ gb102 from Z6.z76); have n6_ := Z6.k (show gb102 ≠ gb101 from Z6.z77); clear BK101 HB; have BK101 := n0_; have HB := n1_; have BK102 := n2_; have GW102 := n3_; have GE102 := n4_; have NB101_102 := n5_; have NB102_101 := n6_; clear n0_ n1_ n2_ n3_ n4_ n5_ n6_; clear hb hbox hg; have hnb7 := NB101_102.out; have hnc7 := NB102_101.out; have hcz8_0 : w6.cell? ⟨gb101, 0, none⟩ = some (.int .i64 a0_0) := (blk_cell BK101.out 0).trans rfl; have hcz8_1 : w6.cell? ⟨gb101, 1, none⟩ = some (.int .i64 a0_1) := (blk_cell BK101.out 1).trans rfl; have hcz8_2 : w6.cell? ⟨gb101, 2, none⟩ = some (.int .i64 a0_2) := (blk_cell BK101.out 2).trans rfl; have hcz8_3 : w6.cell? ⟨gb101, 3, none⟩ = some (.slice A0_3 l0_3.length c0_3) := (blk_cell BK101.out 3).trans rfl; have hfz8_0 := blk_frozen BK101.out 0; have hfz8_1 := blk_frozen BK101.out 1; have hfz8_2 := blk_frozen BK101.out 2; have hfz8_3 := blk_frozen BK101.out 3) | ((with_reducible refine gate_callee (f := 8) rfl ?_); refine goesL_ (some 19) rfl rfl Try.func8 (by kernel_rfl) rfl #[.agg #[.int .i64 a0_0, .int .i64 a0_1, .int .i64 a0_2, .slice A0_3 l0_3.length c0_3], .int .i64 1048576] rfl Z6.z7 ?_; (with_reducible refine (laws_szMatrix.calls a0_0 a0_1 a0_2 _ _ l0_3 1048576 t103 _ ?side1 ?side2 A3.out).mono ?_); (case side1 => exact Z6.z20); (case side2 => exact HC0_3.out); rintro e w9 ⟨rfl, hb⟩; refine ⟨_, rfl, ?_⟩; have n0_ := Z6.k (Z6.bb BK101 Z6.z1 hb); have n1_ := Z6.k (Z6.bb BK102 Z6.z2 hb); have n2_ := Z6.k (below_step Z6.z11 hb); clear BK101 BK102 HB; have BK101 := n0_; have BK102 := n1_; have HB := n2_; clear n0_ n1_ n2_; (try clear hb); (try clear hb2); (try clear hk); (try clear hi)))
  go_ret
  exact ⟨Z6.z37, Z6.z11⟩
 rw [if_neg c4] at H
 have c4b0 : decide (t103 < 0) = false := decide_eq_false c4
 clear c4
 replace H := Option.bind_eq_some_iff.mp H
 obtain ⟨t104, A100, H⟩ := H
 replace H : (if t104 < 0 then (some true) else ((laws_toMatrix.f k a0_0 a0_1 a0_2 l0_3).bind fun bt105 => ((laws_toMatrix.f k a1_0 a1_1 a1_2 l1_3).bind fun bt111 => ((spec_StackRows.f k bt105.1 bt105.2.1 bt105.2.2.1 bt105.2.2.2 bt111.1 bt111.2.1 bt111.2.2.1 bt111.2.2.2).bind fun bt117 => ((laws_toMatrix.f k a0_0 a0_1 a0_2 l0_3).bind fun bt125 => ((laws_toMatrix.f k a1_0 a1_1 a1_2 l1_3).bind fun bt132 => ((impl_StackRows.f k bt125.1 bt125.2.1 bt125.2.2.1 bt125.2.2.2 bt132.1 bt132.2.1 bt132.2.2.1 bt132.2.2.2).bind fun bt139 => ((laws_eqMatrix.f k bt139.1 bt139.2.1 bt139.2.2.1 bt139.2.2.2.1 bt117.1 bt117.2.1 bt117.2.2.1 bt117.2.2.2.1).bind fun t147 => (if t147 = true then (laws_FnExactStackRows.j0 k bt117.2.2.2.2 bt139.2.2.2.2 (bt139.2.2.2.2 != bt117.2.2.2.2) a0_0 a0_1 a0_2 l0_3 a1_0 a1_1 a1_2 l1_3 bt117.1 bt117.2.1 bt117.2.2.1 bt117.2.2.2.1 bt125.1 bt125.2.1 bt125.2.2.1 bt125.2.2.2 bt132.1 bt132.2.1 bt132.2.2.1 bt132.2.2.2 bt139.1 bt139.2.1 bt139.2.2.1 bt139.2.2.2.1) else (laws_FnExactStackRows.j0 k bt117.2.2.2.2 bt139.2.2.2.2 true a0_0 a0_1 a0_2 l0_3 a1_0 a1_1 a1_2 l1_3 bt117.1 bt117.2.1 bt117.2.2.1 bt117.2.2.2.1 bt125.1 bt125.2.1 bt125.2.2.1 bt125.2.2.2 bt132.1 bt132.2.1 bt132.2.2.1 bt132.2.2.2 bt139.1 bt139.2.1 bt139.2.2.1 bt139.2.2.2.1)))))))))) = some r := H
 have A10 := Z6.k A100
 clear A100
 by_cases c11 : t104 < 0
 ·rw [if_pos c11] at H
  have c11b0 : decide (t104 < 0) = true := decide_eq_true c11
  clear c11
  obtain rfl := Option.some.inj H
  go_enter Try.func6, Try.ntmps6
  go_wp2_with (first | ((with_reducible refine gate_dst (N := 2) rfl ?_); refine box_event ?hg (N := 2) ?hd (cs := #[.int .i64 a0_0, .int .i64 a0_1, .int .i64 a0_2, .slice A0_3 l0_3.length c0_3]) (t := 24) ?hr ?_; (case hd => rfl); (case hg => rfl); (case hr => first | (go_simp; done) | (go_simp; rfl)); intro gb101 hg w12 hbox hb; have n0_ := Z6.k (below_step Z6.z35 hb); have n1_ := Z6.k (hbox); have n2_ := Z6.k (show w.heap.size ≤ gb101 from (by rw [hg]; exact (below_size Z6.z35))); have n3_ := Z6.k (show w.heap.size ≤ gb101 from (by rw [hg]; exact (below_size Z6.z35))); clear HB; have HB := n0_; have BK101 := n1_; have GW101 := n2_; have GE101 := n3_; clear n0_ n1_ n2_ n3_; clear hb hbox hg) | ((with_reducible refine gate_dst (N := 3) rfl ?_); refine box_event ?hg (N := 3) ?hd (cs := #[.int .i64 a1_0, .int .i64 a1_1, .int .i64 a1_2, .slice A1_3 l1_3.length c1_3]) (t := 24) ?hr ?_; (case hd => rfl); (case hg => rfl); (case hr => first | (go_simp; done) | (go_simp; rfl)); intro gb102 hg w13 hbox hb; have n0_ := Z6.k (Z6.bb BK101 Z6.z1 hb); have n1_ := Z6.k (below_step Z6.z31 hb); have n2_ := Z6.k (hbox); have n3_ := Z6.k (show w.heap.size ≤ gb102 from (by rw [hg]; exact (below_size Z6.z31))); have n4_ := Z6.k (show w.heap.size ≤ gb102 from (by rw [hg]; exact (below_size Z6.z31))); have n5_ := Z6.k (show gb101 ≠ gb102 from Z6.z76); have n6_ := Z6.k (show gb102 ≠ gb101 from Z6.z77); clear BK101 HB; have BK101 := n0_; have HB := n1_; have BK102 := n2_; have GW102 := n3_; have GE102 := n4_; have NB101_102 := n5_; have NB102_101 := n6_; clear n0_ n1_ n2_ n3_ n4_ n5_ n6_; clear hb hbox hg; have hnb14 := NB101_102.out; have hnc14 := NB102_101.out; have hcz15_0 : w13.cell? ⟨gb101, 0, none⟩ = some (.int .i64 a0_0) := (blk_cell BK101.out 0).trans rfl; have hcz15_1 : w13.cell? ⟨gb101, 1, none⟩ = some (.int .i64 a0_1) := (blk_cell BK101.out 1).trans rfl; have hcz15_2 : w13.cell? ⟨gb101, 2, none⟩ = some (.int .i64 a0_2) := (blk_cell BK101.out 2).trans rfl; have hcz15_3 : w13.cell? ⟨gb101, 3, none⟩ = some (.slice A0_3 l0_3.length c0_3) := (blk_cell BK101.out 3).trans rfl; have hfz15_0 := blk_frozen BK101.out 0; have hfz15_1 := blk_frozen BK101.out 1; have hfz15_2 := blk_frozen BK101.out 2; have hfz15_3 := blk_frozen BK101.out 3) | ((with_reducible refine gate_callee (f := 8) rfl ?_); refine goesL_ (some 19) rfl rfl Try.func8 (by kernel_rfl) rfl #[.agg #[.int .i64 a0_0, .int .i64 a0_1, .int .i64 a0_2, .slice A0_3 l0_3.length c0_3], .int .i64 1048576] rfl Z6.z7 ?_; (with_reducible refine (laws_szMatrix.calls a0_0 a0_1 a0_2 _ _ l0_3 1048576 t103 _ ?side1 ?side2 A3.out).mono ?_); (case side1 => exact Z6.z20); (case side2 => exact HC0_3.out); rintro e w16 ⟨rfl, hb⟩; refine ⟨_, rfl, ?_⟩; have n0_ := Z6.k (Z6.bb BK101 Z6.z1 hb); have n1_ := Z6.k (Z6.bb BK102 Z6.z2 hb); have n2_ := Z6.k (below_step Z6.z11 hb); clear BK101 BK102 HB; have BK101 := n0_; have BK102 := n1_; have HB := n2_; clear n0_ n1_ n2_; (try clear hb); (try clear hb2); (try clear hk); (try clear hi); have hcz17_0 : w16.cell? ⟨gb102, 0, none⟩ = some (.int .i64 a1_0) := (blk_cell BK102.out 0).trans rfl; have hcz17_1 : w16.cell? ⟨gb102, 1, none⟩ = some (.int .i64 a1_1) := (blk_cell BK102.out 1).trans rfl; have hcz17_2 : w16.cell? ⟨gb102, 2, none⟩ = some (.int .i64 a1_2) := (blk_cell BK102.out 2).trans rfl; have hcz17_3 : w16.cell? ⟨gb102, 3, none⟩ = some (.slice A1_3 l1_3.length c1_3) := (blk_cell BK102.out 3).trans rfl; have hfz17_0 := blk_frozen BK102.out 0; have hfz17_1 := blk_frozen BK102.out 1; have hfz17_2 := blk_frozen BK102.out 2; have hfz17_3 := blk_frozen BK102.out 3) | ((with_reducible refine gate_callee (f := 8) rfl ?_); refine goesL_ (some 24) rfl rfl Try.func8 (by kernel_rfl) rfl #[.agg #[.int .i64 a1_0, .int .i64 a1_1, .int .i64 a1_2, .slice A1_3 l1_3.length c1_3], .int .i64 t103] rfl Z6.z7 ?_; (with_reducible refine (laws_szMatrix.calls a1_0 a1_1 a1_2 _ _ l1_3 t103 t104 _ ?side1 ?side2 A10.out).mono ?_); (case side1 => exact Z6.z19); (case side2 => exact HC1_3.out); rintro e w18 ⟨rfl, hb⟩; refine ⟨_, rfl, ?_⟩; have n0_ := Z6.k (Z6.bb BK101 Z6.z1 hb); have n1_ := Z6.k (Z6.bb BK102 Z6.z2 hb); have n2_ := Z6.k (below_step Z6.z11 hb); clear BK101 BK102 HB; have BK101 := n0_; have BK102 := n1_; have HB := n2_; clear n0_ n1_ n2_; (try clear hb); (try clear hb2); (try clear hk); (try clear hi)))
  go_ret
  exact ⟨Z6.z37, Z6.z11⟩
 rw [if_neg c11] at H
 have c11b0 : decide (t104 < 0) = false := decide_eq_false c11
 clear c11
 replace H := Option.bind_eq_some_iff.mp H
 obtain ⟨⟨t105, t106, t107, t108⟩, A190, H⟩ := H
 replace H : ((laws_toMatrix.f k a1_0 a1_1 a1_2 l1_3).bind fun bt111 => ((spec_StackRows.f k t105 t106 t107 t108 bt111.1 bt111.2.1 bt111.2.2.1 bt111.2.2.2).bind fun bt117 => ((laws_toMatrix.f k a0_0 a0_1 a0_2 l0_3).bind fun bt125 => ((laws_toMatrix.f k a1_0 a1_1 a1_2 l1_3).bind fun bt132 => ((impl_StackRows.f k bt125.1 bt125.2.1 bt125.2.2.1 bt125.2.2.2 bt132.1 bt132.2.1 bt132.2.2.1 bt132.2.2.2).bind fun bt139 => ((laws_eqMatrix.f k bt139.1 bt139.2.1 bt139.2.2.1 bt139.2.2.2.1 bt117.1 bt117.2.1 bt117.2.2.1 bt117.2.2.2.1).bind fun t147 => (if t147 = true then (laws_FnExactStackRows.j0 k bt117.2.2.2.2 bt139.2.2.2.2 (bt139.2.2.2.2 != bt117.2.2.2.2) a0_0 a0_1 a0_2 l0_3 a1_0 a1_1 a1_2 l1_3 bt117.1 bt117.2.1 bt117.2.2.1 bt117.2.2.2.1 bt125.1 bt125.2.1 bt125.2.2.1 bt125.2.2.2 bt132.1 bt132.2.1 bt132.2.2.1 bt132.2.2.2 bt139.1 bt139.2.1 bt139.2.2.1 bt139.2.2.2.1) else (laws_FnExactStackRows.j0 k bt117.2.2.2.2 bt139.2.2.2.2 true a0_0 a0_1 a0_2 l0_3 a1_0 a1_1 a1_2 l1_3 bt117.1 bt117.2.1 bt117.2.2.1 bt117.2.2.2.1 bt125.1 bt125.2.1 bt125.2.2.1 bt125.2.2.2 bt132.1 bt132.2.1 bt132.2.2.1 bt132.2.2.2 bt139.1 bt139.2.1 bt139.2.2.1 bt139.2.2.2.1)))))))) = some r := H
 have A19 := Z6.k A190
 clear A190
 replace H := Option.bind_eq_some_iff.mp H
 obtain ⟨⟨t111, t112, t113, t114⟩, A200, H⟩ := H
 replace H : ((spec_StackRows.f k t105 t106 t107 t108 t111 t112 t113 t114).bind fun bt117 => ((laws_toMatrix.f k a0_0 a0_1 a0_2 l0_3).bind fun bt125 => ((laws_toMatrix.f k a1_0 a1_1 a1_2 l1_3).bind fun bt132 => ((impl_StackRows.f k bt125.1 bt125.2.1 bt125.2.2.1 bt125.2.2.2 bt132.1 bt132.2.1 bt132.2.2.1 bt132.2.2.2).bind fun bt139 => ((laws_eqMatrix.f k bt139.1 bt139.2.1 bt139.2.2.1 bt139.2.2.2.1 bt117.1 bt117.2.1 bt117.2.2.1 bt117.2.2.2.1).bind fun t147 => (if t147 = true then (laws_FnExactStackRows.j0 k bt117.2.2.2.2 bt139.2.2.2.2 (bt139.2.2.2.2 != bt117.2.2.2.2) a0_0 a0_1 a0_2 l0_3 a1_0 a1_1 a1_2 l1_3 bt117.1 bt117.2.1 bt117.2.2.1 bt117.2.2.2.1 bt125.1 bt125.2.1 bt125.2.2.1 bt125.2.2.2 bt132.1 bt132.2.1 bt132.2.2.1 bt132.2.2.2 bt139.1 bt139.2.1 bt139.2.2.1 bt139.2.2.2.1) else (laws_FnExactStackRows.j0 k bt117.2.2.2.2 bt139.2.2.2.2 true a0_0 a0_1 a0_2 l0_3 a1_0 a1_1 a1_2 l1_3 bt117.1 bt117.2.1 bt117.2.2.1 bt117.2.2.2.1 bt125.1 bt125.2.1 bt125.2.2.1 bt125.2.2.2 bt132.1 bt132.2.1 bt132.2.2.1 bt132.2.2.2 bt139.1 bt139.2.1 bt139.2.2.1 bt139.2.2.2.1))))))) = some r := H
 have A20 := Z6.k A200
 clear A200
 replace H := Option.bind_eq_some_iff.mp H
 obtain ⟨⟨t117, t118, t119, t120, t123⟩, A210, H⟩ := H
 replace H : ((laws_toMatrix.f k a0_0 a0_1 a0_2 l0_3).bind fun bt125 => ((laws_toMatrix.f k a1_0 a1_1 a1_2 l1_3).bind fun bt132 => ((impl_StackRows.f k bt125.1 bt125.2.1 bt125.2.2.1 bt125.2.2.2 bt132.1 bt132.2.1 bt132.2.2.1 bt132.2.2.2).bind fun bt139 => ((laws_eqMatrix.f k bt139.1 bt139.2.1 bt139.2.2.1 bt139.2.2.2.1 t117 t118 t119 t120).bind fun t147 => (if t147 = true then (laws_FnExactStackRows.j0 k t123 bt139.2.2.2.2 (bt139.2.2.2.2 != t123) a0_0 a0_1 a0_2 l0_3 a1_0 a1_1 a1_2 l1_3 t117 t118 t119 t120 bt125.1 bt125.2.1 bt125.2.2.1 bt125.2.2.2 bt132.1 bt132.2.1 bt132.2.2.1 bt132.2.2.2 bt139.1 bt139.2.1 bt139.2.2.1 bt139.2.2.2.1) else (laws_FnExactStackRows.j0 k t123 bt139.2.2.2.2 true a0_0 a0_1 a0_2 l0_3 a1_0 a1_1 a1_2 l1_3 t117 t118 t119 t120 bt125.1 bt125.2.1 bt125.2.2.1 bt125.2.2.2 bt132.1 bt132.2.1 bt132.2.2.1 bt132.2.2.2 bt139.1 bt139.2.1 bt139.2.2.1 bt139.2.2.2.1)))))) = some r := H
 have A21 := Z6.k A210
 clear A210
 replace H := Option.bind_eq_some_iff.mp H
 obtain ⟨⟨t125, t126, t127, t128⟩, A220, H⟩ := H
 replace H : ((laws_toMatrix.f k a1_0 a1_1 a1_2 l1_3).bind fun bt132 => ((impl_StackRows.f k t125 t126 t127 t128 bt132.1 bt132.2.1 bt132.2.2.1 bt132.2.2.2).bind fun bt139 => ((laws_eqMatrix.f k bt139.1 bt139.2.1 bt139.2.2.1 bt139.2.2.2.1 t117 t118 t119 t120).bind fun t147 => (if t147 = true then (laws_FnExactStackRows.j0 k t123 bt139.2.2.2.2 (bt139.2.2.2.2 != t123) a0_0 a0_1 a0_2 l0_3 a1_0 a1_1 a1_2 l1_3 t117 t118 t119 t120 t125 t126 t127 t128 bt132.1 bt132.2.1 bt132.2.2.1 bt132.2.2.2 bt139.1 bt139.2.1 bt139.2.2.1 bt139.2.2.2.1) else (laws_FnExactStackRows.j0 k t123 bt139.2.2.2.2 true a0_0 a0_1 a0_2 l0_3 a1_0 a1_1 a1_2 l1_3 t117 t118 t119 t120 t125 t126 t127 t128 bt132.1 bt132.2.1 bt132.2.2.1 bt132.2.2.2 bt139.1 bt139.2.1 bt139.2.2.1 bt139.2.2.2.1))))) = some r := H
 have A22 := Z6.k A220
 clear A220
 replace H := Option.bind_eq_some_iff.mp H
 obtain ⟨⟨t132, t133, t134, t135⟩, A230, H⟩ := H
 replace H : ((impl_StackRows.f k t125 t126 t127 t128 t132 t133 t134 t135).bind fun bt139 => ((laws_eqMatrix.f k bt139.1 bt139.2.1 bt139.2.2.1 bt139.2.2.2.1 t117 t118 t119 t120).bind fun t147 => (if t147 = true then (laws_FnExactStackRows.j0 k t123 bt139.2.2.2.2 (bt139.2.2.2.2 != t123) a0_0 a0_1 a0_2 l0_3 a1_0 a1_1 a1_2 l1_3 t117 t118 t119 t120 t125 t126 t127 t128 t132 t133 t134 t135 bt139.1 bt139.2.1 bt139.2.2.1 bt139.2.2.2.1) else (laws_FnExactStackRows.j0 k t123 bt139.2.2.2.2 true a0_0 a0_1 a0_2 l0_3 a1_0 a1_1 a1_2 l1_3 t117 t118 t119 t120 t125 t126 t127 t128 t132 t133 t134 t135 bt139.1 bt139.2.1 bt139.2.2.1 bt139.2.2.2.1)))) = some r := H
 have A23 := Z6.k A230
 clear A230
 replace H := Option.bind_eq_some_iff.mp H
 obtain ⟨⟨t139, t140, t141, t142, t145⟩, A240, H⟩ := H
 replace H : ((laws_eqMatrix.f k t139 t140 t141 t142 t117 t118 t119 t120).bind fun t147 => (if t147 = true then (laws_FnExactStackRows.j0 k t123 t145 (t145 != t123) a0_0 a0_1 a0_2 l0_3 a1_0 a1_1 a1_2 l1_3 t117 t118 t119 t120 t125 t126 t127 t128 t132 t133 t134 t135 t139 t140 t141 t142) else (laws_FnExactStackRows.j0 k t123 t145 true a0_0 a0_1 a0_2 l0_3 a1_0 a1_1 a1_2 l1_3 t117 t118 t119 t120 t125 t126 t127 t128 t132 t133 t134 t135 t139 t140 t141 t142))) = some r := H
 have A24 := Z6.k A240
 clear A240
 have HC25 := Z6.k H
 clear H
 go_enter Try.func6, Try.ntmps6
 try go_wp2_with (first | ((with_reducible refine gate_dst (N := 2) rfl ?_); refine box_event ?hg (N := 2) ?hd (cs := #[.int .i64 a0_0, .int .i64 a0_1, .int .i64 a0_2, .slice A0_3 l0_3.length c0_3]) (t := 24) ?hr ?_; (case hd => rfl); (case hg => rfl); (case hr => first | (go_simp; done) | (go_simp; rfl)); intro gb101 hg w26 hbox hb; have n0_ := Z6.k (below_step Z6.z35 hb); have n1_ := Z6.k (hbox); have n2_ := Z6.k (show w.heap.size ≤ gb101 from (by rw [hg]; exact (below_size Z6.z35))); have n3_ := Z6.k (show w.heap.size ≤ gb101 from (by rw [hg]; exact (below_size Z6.z35))); clear HB; have HB := n0_; have BK101 := n1_; have GW101 := n2_; have GE101 := n3_; clear n0_ n1_ n2_ n3_; clear hb hbox hg) | ((with_reducible refine gate_dst (N := 3) rfl ?_); refine box_event ?hg (N := 3) ?hd (cs := #[.int .i64 a1_0, .int .i64 a1_1, .int .i64 a1_2, .slice A1_3 l1_3.length c1_3]) (t := 24) ?hr ?_; (case hd => rfl); (case hg => rfl); (case hr => first | (go_simp; done) | (go_simp; rfl)); intro gb102 hg w27 hbox hb; have n0_ := Z6.k (Z6.bb BK101 Z6.z1 hb); have n1_ := Z6.k (below_step Z6.z31 hb); have n2_ := Z6.k (hbox); have n3_ := Z6.k (show w.heap.size ≤ gb102 from (by rw [hg]; exact (below_size Z6.z31))); have n4_ := Z6.k (show w.heap.size ≤ gb102 from (by rw [hg]; exact (below_size Z6.z31))); have n5_ := Z6.k (show gb101 ≠ gb102 from Z6.z76); have n6_ := Z6.k (show gb102 ≠ gb101 from Z6.z77); clear BK101 HB; have BK101 := n0_; have HB := n1_; have BK102 := n2_; have GW102 := n3_; have GE102 := n4_; have NB101_102 := n5_; have NB102_101 := n6_; clear n0_ n1_ n2_ n3_ n4_ n5_ n6_; clear hb hbox hg; have hnb28 := NB101_102.out; have hnc28 := NB102_101.out; have hcz29_0 : w27.cell? ⟨gb101, 0, none⟩ = some (.int .i64 a0_0) := (blk_cell BK101.out 0).trans rfl; have hcz29_1 : w27.cell? ⟨gb101, 1, none⟩ = some (.int .i64 a0_1) := (blk_cell BK101.out 1).trans rfl; have hcz29_2 : w27.cell? ⟨gb101, 2, none⟩ = some (.int .i64 a0_2) := (blk_cell BK101.out 2).trans rfl; have hcz29_3 : w27.cell? ⟨gb101, 3, none⟩ = some (.slice A0_3 l0_3.length c0_3) := (blk_cell BK101.out 3).trans rfl; have hfz29_0 := blk_frozen BK101.out 0; have hfz29_1 := blk_frozen BK101.out 1; have hfz29_2 := blk_frozen BK101.out 2; have hfz29_3 := blk_frozen BK101.out 3) | ((with_reducible refine gate_callee (f := 8) rfl ?_); refine goesL_ (some 19) rfl rfl Try.func8 (by kernel_rfl) rfl #[.agg #[.int .i64 a0_0, .int .i64 a0_1, .int .i64 a0_2, .slice A0_3 l0_3.length c0_3], .int .i64 1048576] rfl Z6.z7 ?_; (with_reducible refine (laws_szMatrix.calls a0_0 a0_1 a0_2 _ _ l0_3 1048576 t103 _ ?side1 ?side2 A3.out).mono ?_); (case side1 => exact Z6.z20); (case side2 => exact HC0_3.out); rintro e w30 ⟨rfl, hb⟩; refine ⟨_, rfl, ?_⟩; have n0_ := Z6.k (Z6.bb BK101 Z6.z1 hb); have n1_ := Z6.k (Z6.bb BK102 Z6.z2 hb); have n2_ := Z6.k (below_step Z6.z11 hb); clear BK101 BK102 HB; have BK101 := n0_; have BK102 := n1_; have HB := n2_; clear n0_ n1_ n2_; (try clear hb); (try clear hb2); (try clear hk); (try clear hi); have hcz31_0 : w30.cell? ⟨gb102, 0, none⟩ = some (.int .i64 a1_0) := (blk_cell BK102.out 0).trans rfl; have hcz31_1 : w30.cell? ⟨gb102, 1, none⟩ = some (.int .i64 a1_1) := (blk_cell BK102.out 1).trans rfl; have hcz31_2 : w30.cell? ⟨gb102, 2, none⟩ = some (.int .i64 a1_2) := (blk_cell BK102.out 2).trans rfl; have hcz31_3 : w30.cell? ⟨gb102, 3, none⟩ = some (.slice A1_3 l1_3.length c1_3) := (blk_cell BK102.out 3).trans rfl; have hfz31_0 := blk_frozen BK102.out 0; have hfz31_1 := blk_frozen BK102.out 1; have hfz31_2 := blk_frozen BK102.out 2; have hfz31_3 := blk_frozen BK102.out 3) | ((with_reducible refine gate_callee (f := 8) rfl ?_); refine goesL_ (some 24) rfl rfl Try.func8 (by kernel_rfl) rfl #[.agg #[.int .i64 a1_0, .int .i64 a1_1, .int .i64 a1_2, .slice A1_3 l1_3.length c1_3], .int .i64 t103] rfl Z6.z7 ?_; (with_reducible refine (laws_szMatrix.calls a1_0 a1_1 a1_2 _ _ l1_3 t103 t104 _ ?side1 ?side2 A10.out).mono ?_); (case side1 => exact Z6.z19); (case side2 => exact HC1_3.out); rintro e w32 ⟨rfl, hb⟩; refine ⟨_, rfl, ?_⟩; have n0_ := Z6.k (Z6.bb BK101 Z6.z1 hb); have n1_ := Z6.k (Z6.bb BK102 Z6.z2 hb); have n2_ := Z6.k (below_step Z6.z11 hb); clear BK101 BK102 HB; have BK101 := n0_; have BK102 := n1_; have HB := n2_; clear n0_ n1_ n2_; (try clear hb); (try clear hb2); (try clear hk); (try clear hi)))
 have n0_ := Z6.k (blk_drew BK101.out)
 have n1_ := Z6.k (blk_drew BK102.out)
 have n2_ := Z6.k (below_drew1 HB.out)
 clear BK101 BK102 HB
 have BK101 := n0_
 have BK102 := n1_
 have HB := n2_
 clear n0_ n1_ n2_
 refine start_ (n := 11) (S := fun w' => w'.cell? ⟨gb101, 0, none⟩ = some (.int .i64 a0_0) ∧ w'.cell? ⟨gb101, 1, none⟩ = some (.int .i64 a0_1) ∧ w'.cell? ⟨gb101, 2, none⟩ = some (.int .i64 a0_2) ∧ w'.cell? ⟨gb101, 3, none⟩ = some (.slice A0_3 l0_3.length c0_3) ∧ w'.cell? ⟨gb102, 0, none⟩ = some (.int .i64 a1_0) ∧ w'.cell? ⟨gb102, 1, none⟩ = some (.int .i64 a1_1) ∧ w'.cell? ⟨gb102, 2, none⟩ = some (.int .i64 a1_2) ∧ w'.cell? ⟨gb102, 3, none⟩ = some (.slice A1_3 l1_3.length c1_3)) (ds := []) #[false, false, false, false, false, false, false, false, false, false, false] (by kernel_rfl) rfl rfl Z6.z4 (fun hHeld => ?_); refine with_tabW laws_FnExactStackRows.tab8 laws_FnExactStackRows.bits8 (fun HT_ HW_ => ?_)
 generalize w32.drew = w33 at BK101 BK102 HB hHeld ⊢
 refine take_ (i := 0) (N := some 28) (v := ?_) (a' := ?_) #[true, false, false, false, false, false, false, false, false, false, false] rfl rfl (take_ofW HT_.out HW_.out (by kernel_rfl)) (fun _ _ _ h => h) (Or.inl ⟨(by rfl), ?_⟩) hHeld ?_ ?_
 rotate_left
 ·rintro w' ⟨s0, s1, s2, s3, s4, s5, s6, s7⟩
  go_simp
  with_reducible rfl
 rotate_left
 ·exact Z6.z16
 refine take_ (i := 2) (N := some 30) (v := ?_) (a' := ?_) #[true, false, true, false, false, false, false, false, false, false, false] rfl rfl (take_ofW HT_.out HW_.out (by kernel_rfl)) (fun _ _ _ h => h) (Or.inl ⟨(by rfl), ?_⟩) hHeld ?_ ?_
 rotate_left
 ·rintro w' ⟨s0, s1, s2, s3, s4, s5, s6, s7⟩
  go_simp
  with_reducible rfl
 rotate_left
 ·exact Z6.z16
 refine join_ (σ := Value × Value × Value × Nat) 2 #[true, true, true, true, true, true, true, true, true, false, false] (fun s_ => [(29, .agg #[.int .i64 t105, .int .i64 t106, .int .i64 t107, s_.1]), (31, .agg #[.int .i64 t111, .int .i64 t112, .int .i64 t113, s_.2.1]), (32, .tuple #[.agg #[.int .i64 t117, .int .i64 t118, .int .i64 t119, s_.2.2.1], .int .i64 t123]), (6, .pointer (some ⟨s_.2.2.2, 0, none⟩)), (27, .tuple #[.agg #[.int .i64 t117, .int .i64 t118, .int .i64 t119, s_.2.2.1], .int .i64 t123]), (33, .agg #[.int .i64 t117, .int .i64 t118, .int .i64 t119, s_.2.2.1]), (34, .int .i64 t123)]) (fun s_ w' => (w'.cell? ⟨gb101, 0, none⟩ = some (.int .i64 a0_0) ∧ w'.cell? ⟨gb101, 1, none⟩ = some (.int .i64 a0_1) ∧ w'.cell? ⟨gb101, 2, none⟩ = some (.int .i64 a0_2) ∧ w'.cell? ⟨gb101, 3, none⟩ = some (.slice A0_3 l0_3.length c0_3) ∧ w'.cell? ⟨gb102, 0, none⟩ = some (.int .i64 a1_0) ∧ w'.cell? ⟨gb102, 1, none⟩ = some (.int .i64 a1_1) ∧ w'.cell? ⟨gb102, 2, none⟩ = some (.int .i64 a1_2) ∧ w'.cell? ⟨gb102, 3, none⟩ = some (.slice A1_3 l1_3.length c1_3)) ∧ (Kd.R (Kd.int .i64) 2 w' w.heap.size (fun k_ => some k_ ≠ (s_.2.1 : Value).ownBlock ∧ some k_ ≠ (s_.2.2.1 : Value).ownBlock) s_.1 t108) ∧ (Kd.R (Kd.int .i64) 2 w' w.heap.size (fun k_ => some k_ ≠ (s_.1 : Value).ownBlock ∧ some k_ ≠ (s_.2.2.1 : Value).ownBlock) s_.2.1 t114) ∧ (Kd.R (Kd.int .i64) 2 w' w.heap.size (fun k_ => some k_ ≠ (s_.1 : Value).ownBlock ∧ some k_ ≠ (s_.2.1 : Value).ownBlock) s_.2.2.1 t120) ∧ (w'.heap[gb101]? = some (.cells #[.int .i64 a0_0, .int .i64 a0_1, .int .i64 a0_2, .slice A0_3 l0_3.length c0_3] 24 (0, 0))) ∧ (w'.heap[gb102]? = some (.cells #[.int .i64 a1_0, .int .i64 a1_1, .int .i64 a1_2, .slice A1_3 l1_3.length c1_3] 24 (0, 0))) ∧ (w'.heap[s_.2.2.2]? = some (.cells #[.int .i64 0, .int .i64 0, .int .i64 0, .slice none 0 0] 28 (0, 0))) ∧ (w.heap.size ≤ s_.2.2.2) ∧ (w.heap.size ≤ s_.2.2.2) ∧ (gb101 ≠ s_.2.2.2) ∧ (s_.2.2.2 ≠ gb101) ∧ (gb102 ≠ s_.2.2.2) ∧ (s_.2.2.2 ≠ gb102) ∧ (Below w.heap.size w w')) ?_ ?_
 rotate_left
 ·intro hCont
  refine two_ (i := 1) (j := 8) (Ni := some 29) (Nj := some 6) #[true, true, true, false, false, false, false, false, false, false, false] #[true, false, true, false, false, false, false, false, true, false, false] rfl rfl rfl rfl (two_of HT_.out (by kernel_rfl)) (by decide) (by decide) (fun K hK => ?_) (fun K hK => ?_)
  ·skip
   refine goes_ Try.func10 (by kernel_rfl) rfl #[.agg #[.int .i64 a0_0, .int .i64 a0_1, .int .i64 a0_2, .slice A0_3 l0_3.length c0_3]] (by rfl) rfl rfl Z6.z7 ?_
   with_reducible refine (laws_toMatrix.calls k a0_0 a0_1 a0_2 _ _ l0_3 t105 t106 t107 t108 _ ?side1 ?side2 A19.out).mono ?_
   (case side1 => exact Z6.z20)
   (case side2 => exact HC0_3.out)
   rintro e w34 ⟨v109, rfl, ho0, hb⟩
   refine ⟨_, rfl, ?_⟩
   have n0_ := Z6.k (Kd.R_lower ho0 (below_size Z6.z11))
   have n1_ := Z6.k (Z6.bb BK101 Z6.z1 hb)
   have n2_ := Z6.k (Z6.bb BK102 Z6.z2 hb)
   have n3_ := Z6.k (below_step Z6.z11 hb)
   clear BK101 BK102 HB
   have HO110 := n0_
   have BK101 := n1_
   have BK102 := n2_
   have HB := n3_
   clear n0_ n1_ n2_ n3_
   (try clear hb)
   (try clear hb2)
   (try clear hk)
   (try clear hi)
   (try clear ho0)
   refine hK.out _ _ Z6.z4 (fun hHeld => ?_)
   clear hK K
   refine norm_ (a' := ?_) ?_ ?_
   rotate_left
   ·show Act.put _ (some 29) _ = _
    simp only [Act.put, List.setIfInBounds_toArray, List.set_cons_zero, List.set_cons_succ, i64_w, i32_w]
    rfl
   refine two_ (i := 3) (j := 8) (Ni := some 31) (Nj := some 6) #[true, true, true, true, false, false, false, false, false, false, false] #[true, true, true, false, false, false, false, false, true, false, false] rfl rfl rfl rfl (two_of HT_.out (by kernel_rfl)) (by decide) (by decide) (fun K hK => ?_) (fun K hK => ?_)
   ·skip
    refine goes_ Try.func10 (by kernel_rfl) rfl #[.agg #[.int .i64 a1_0, .int .i64 a1_1, .int .i64 a1_2, .slice A1_3 l1_3.length c1_3]] (by rfl) rfl rfl Z6.z7 ?_
    with_reducible refine (laws_toMatrix.calls k a1_0 a1_1 a1_2 _ _ l1_3 t111 t112 t113 t114 _ ?side1 ?side2 A20.out).mono ?_
    (case side1 => exact Z6.z19)
    (case side2 => exact HC1_3.out)
    rintro e w35 ⟨v115, rfl, ho0, hb⟩
    refine ⟨_, rfl, ?_⟩
    have n0_ := Z6.k (Kd.R_elder' Z6.z18 (Kd.R_base ho0) hb)
    have n1_ := Z6.k (Kd.R_lower (Kd.R_new' ho0 (Kd.R_lt Z6.z18)) (below_size Z6.z11))
    have n2_ := Z6.k (Z6.bb BK101 Z6.z1 hb)
    have n3_ := Z6.k (Z6.bb BK102 Z6.z2 hb)
    have n4_ := Z6.k (below_step Z6.z11 hb)
    clear HO110 BK101 BK102 HB
    have HO110 := n0_
    have HO116 := n1_
    have BK101 := n2_
    have BK102 := n3_
    have HB := n4_
    clear n0_ n1_ n2_ n3_ n4_
    (try clear hb)
    (try clear hb2)
    (try clear hk)
    (try clear hi)
    (try clear ho0)
    obtain ⟨Ao36, co36, eo36⟩ := Kd.R_slice HO110.out
    (first | subst eo36 | (injection eo36 with f1_ f2_ f3_; have f4_ := f1_.symm; have f5_ := f3_.symm; clear f1_ f2_ f3_; subst f4_; subst f5_))
    obtain ⟨Ao37, co37, eo37⟩ := Kd.R_slice HO116.out
    (first | subst eo37 | (injection eo37 with f1_ f2_ f3_; have f4_ := f1_.symm; have f5_ := f3_.symm; clear f1_ f2_ f3_; subst f4_; subst f5_))
    refine hK.out _ _ Z6.z4 (fun hHeld => ?_)
    clear hK K
    refine norm_ (a' := ?_) ?_ ?_
    rotate_left
    ·show Act.put _ (some 31) _ = _
     simp only [Act.put, List.setIfInBounds_toArray, List.set_cons_zero, List.set_cons_succ, i64_w, i32_w]
     rfl
    refine two_ (i := 4) (j := 8) (Ni := some 32) (Nj := some 6) #[true, true, true, true, true, false, false, false, false, false, false] #[true, true, true, true, false, false, false, false, true, false, false] rfl rfl rfl rfl (two_of HT_.out (by kernel_rfl)) (by decide) (by decide) (fun K hK => ?_) (fun K hK => ?_)
    ·skip
     refine goes_ Try.func19 (by kernel_rfl) rfl #[.agg #[.int .i64 t105, .int .i64 t106, .int .i64 t107, .slice Ao36 t108.length co36], .agg #[.int .i64 t111, .int .i64 t112, .int .i64 t113, .slice Ao37 t114.length co37]] (by rfl) rfl rfl Z6.z7 ?_
     with_reducible refine (spec_StackRows.calls k t105 t106 t107 _ _ t108 t111 t112 t113 _ _ t114 t117 t118 t119 t120 t123 _ ?side1 ?side2 ?side3 ?side4 A21.out).mono ?_
     (case side1 => exact Z6.z50)
     (case side2 => exact (Kd.R_reads' HO110.out).2.1)
     (case side3 => exact Z6.z49)
     (case side4 => exact (Kd.R_reads' HO116.out).2.1)
     rintro e w38 ⟨v121, rfl, ho0, hb⟩
     refine ⟨_, rfl, ?_⟩
     have n0_ := Z6.k (Kd.R_elder' Z6.z18 (Kd.R_base ho0) hb)
     have n1_ := Z6.k (Kd.R_elder' Z6.z29 (Kd.R_base ho0) hb)
     have n2_ := Z6.k (Kd.R_lower (Kd.R_new' (Kd.R_new' ho0 (Kd.R_lt Z6.z18)) (Kd.R_lt Z6.z29)) (below_size Z6.z11))
     have n3_ := Z6.k (Z6.bb BK101 Z6.z1 hb)
     have n4_ := Z6.k (Z6.bb BK102 Z6.z2 hb)
     have n5_ := Z6.k (below_step Z6.z11 hb)
     clear HO110 HO116 BK101 BK102 HB
     have HO110 := n0_
     have HO116 := n1_
     have HO122 := n2_
     have BK101 := n3_
     have BK102 := n4_
     have HB := n5_
     clear n0_ n1_ n2_ n3_ n4_ n5_
     (try clear hb)
     (try clear hb2)
     (try clear hk)
     (try clear hi)
     (try clear ho0)
     refine hK.out _ _ Z6.z4 (fun hHeld => ?_)
     clear hK K
     refine norm_ (a' := ?_) ?_ ?_
     rotate_left
     ·show Act.put _ (some 32) _ = _
      simp only [Act.put, List.setIfInBounds_toArray, List.set_cons_zero, List.set_cons_succ, i64_w, i32_w]
      rfl
     refine pure_ (i := 5) (N := some 27) (v := ?_) (a' := ?_) #[true, true, true, true, true, true, false, false, false, false, false] rfl rfl (any_of HT_.out (by kernel_rfl)) (fun _ _ _ h => h) (Or.inl ⟨(by rfl), ?_⟩) ?_ ?_
     rotate_left
     ·intro w'
      go_simp
      with_reducible rfl
     rotate_left
     ·exact Z6.z16
     refine pure_ (i := 6) (N := some 33) (v := ?_) (a' := ?_) #[true, true, true, true, true, true, true, false, false, false, false] rfl rfl (any_of HT_.out (by kernel_rfl)) (fun _ _ _ h => h) (Or.inl ⟨(by rfl), ?_⟩) ?_ ?_
     rotate_left
     ·intro w'
      go_simp
      with_reducible rfl
     rotate_left
     ·exact Z6.z16
     refine pure_ (i := 7) (N := some 34) (v := ?_) (a' := ?_) #[true, true, true, true, true, true, true, true, false, false, false] rfl rfl (any_of HT_.out (by kernel_rfl)) (fun _ _ _ h => h) (Or.inl ⟨(by rfl), ?_⟩) ?_ ?_
     rotate_left
     ·intro w'
      go_simp
      with_reducible rfl
     rotate_left
     ·exact Z6.z16
     refine one_ (i := 8) (N := some 6) #[true, true, true, true, true, true, true, true, true, false, false] rfl rfl (one_of HT_.out (by kernel_rfl)) (by decide) (fun K hK => ?_)
     refine box_step ?hg (N := 6) ?hd (cs := #[.int .i64 0, .int .i64 0, .int .i64 0, .slice none 0 0]) (t := 28) ?hr ?_; (case hd => rfl); (case hg => rfl); (case hr => first | (go_simp; done) | (go_simp; rfl))
     intro gb124 hg w39 hbox hb
     have n0_ := Z6.k (Kd.R_below Z6.z18 hb)
     have n1_ := Z6.k (Kd.R_below Z6.z29 hb)
     have n2_ := Z6.k (Kd.R_below Z6.z69 hb)
     have n3_ := Z6.k (Z6.bb BK101 Z6.z1 hb)
     have n4_ := Z6.k (Z6.bb BK102 Z6.z2 hb)
     have n5_ := Z6.k (below_step Z6.z11 hb)
     have n6_ := Z6.k (hbox)
     have n7_ := Z6.k (show w.heap.size ≤ gb124 from (by rw [hg]; exact (below_size Z6.z11)))
     have n8_ := Z6.k (show w.heap.size ≤ gb124 from (by rw [hg]; exact (below_size Z6.z11)))
     have n9_ := Z6.k (show gb101 ≠ gb124 from Z6.z76)
     have n10_ := Z6.k (show gb124 ≠ gb101 from Z6.z77)
     have n11_ := Z6.k (show gb102 ≠ gb124 from Z6.z85)
     have n12_ := Z6.k (show gb124 ≠ gb102 from Z6.z86)
     clear HO110 HO116 HO122 BK101 BK102 HB
     have HO110 := n0_
     have HO116 := n1_
     have HO122 := n2_
     have BK101 := n3_
     have BK102 := n4_
     have HB := n5_
     have BK124 := n6_
     have GW124 := n7_
     have GE124 := n8_
     have NB101_124 := n9_
     have NB124_101 := n10_
     have NB102_124 := n11_
     have NB124_102 := n12_
     clear n0_ n1_ n2_ n3_ n4_ n5_ n6_ n7_ n8_ n9_ n10_ n11_ n12_ hb hbox hg
     refine hK.out _ _ Z6.z4 (fun hHeld => ?_)
     clear hK K
     refine norm_ (a' := ?_) ?_ ?_
     rotate_left
     ·show Act.put _ (some 6) _ = _
      simp only [Act.put, List.setIfInBounds_toArray, List.set_cons_zero, List.set_cons_succ, i64_w, i32_w]
      rfl
     exact norm_ Z6.z48 (hCont (.slice Ao36 t108.length co36, .slice Ao37 t114.length co37, v121, gb124) _ ⟨hHeld, Z6.z74, Z6.z73, Z6.z72, Z6.z1, Z6.z2, Z6.z5, GW124.out, GE124.out, NB101_124.out, NB124_101.out, NB102_124.out, NB124_102.out, Z6.z10⟩)
    skip
    refine box_step ?hg (N := 6) ?hd (cs := #[.int .i64 0, .int .i64 0, .int .i64 0, .slice none 0 0]) (t := 28) ?hr ?_; (case hd => rfl); (case hg => rfl); (case hr => first | (go_simp; done) | (go_simp; rfl))
    intro gb124 hg w36 hbox hb
    have n0_ := Z6.k (Kd.R_below Z6.z18 hb)
    have n1_ := Z6.k (Kd.R_below Z6.z29 hb)
    have n2_ := Z6.k (Z6.bb BK101 Z6.z1 hb)
    have n3_ := Z6.k (Z6.bb BK102 Z6.z2 hb)
    have n4_ := Z6.k (below_step Z6.z11 hb)
    have n5_ := Z6.k (hbox)
    have n6_ := Z6.k (show w.heap.size ≤ gb124 from (by rw [hg]; exact (below_size Z6.z11)))
    have n7_ := Z6.k (show w.heap.size ≤ gb124 from (by rw [hg]; exact (below_size Z6.z11)))
    have n8_ := Z6.k (show gb101 ≠ gb124 from Z6.z76)
    have n9_ := Z6.k (show gb124 ≠ gb101 from Z6.z77)
    have n10_ := Z6.k (show gb102 ≠ gb124 from Z6.z85)
    have n11_ := Z6.k (show gb124 ≠ gb102 from Z6.z86)
    clear HO110 HO116 BK101 BK102 HB
    have HO110 := n0_
    have HO116 := n1_
    have BK101 := n2_
    have BK102 := n3_
    have HB := n4_
    have BK124 := n5_
    have GW124 := n6_
    have GE124 := n7_
    have NB101_124 := n8_
    have NB124_101 := n9_
    have NB102_124 := n10_
    have NB124_102 := n11_
    clear n0_ n1_ n2_ n3_ n4_ n5_ n6_ n7_ n8_ n9_ n10_ n11_ hb hbox hg
    obtain ⟨Ao37, co37, eo37⟩ := Kd.R_slice HO110.out
    (first | subst eo37 | (injection eo37 with f1_ f2_ f3_; have f4_ := f1_.symm; have f5_ := f3_.symm; clear f1_ f2_ f3_; subst f4_; subst f5_))
    obtain ⟨Ao38, co38, eo38⟩ := Kd.R_slice HO116.out
    (first | subst eo38 | (injection eo38 with f1_ f2_ f3_; have f4_ := f1_.symm; have f5_ := f3_.symm; clear f1_ f2_ f3_; subst f4_; subst f5_))
    refine hK.out _ _ Z6.z4 (fun hHeld => ?_)
    clear hK K
    refine norm_ (a' := ?_) ?_ ?_
    rotate_left
    ·show Act.put _ (some 6) _ = _
     simp only [Act.put, List.setIfInBounds_toArray, List.set_cons_zero, List.set_cons_succ, i64_w, i32_w]
     rfl
    refine one_ (i := 4) (N := some 32) #[true, true, true, true, true, false, false, false, true, false, false] rfl rfl (one_of HT_.out (by kernel_rfl)) (by decide) (fun K hK => ?_)
    refine goes_ Try.func19 (by kernel_rfl) rfl #[.agg #[.int .i64 t105, .int .i64 t106, .int .i64 t107, .slice Ao37 t108.length co37], .agg #[.int .i64 t111, .int .i64 t112, .int .i64 t113, .slice Ao38 t114.length co38]] (by rfl) rfl rfl Z6.z7 ?_
    with_reducible refine (spec_StackRows.calls k t105 t106 t107 _ _ t108 t111 t112 t113 _ _ t114 t117 t118 t119 t120 t123 _ ?side1 ?side2 ?side3 ?side4 A21.out).mono ?_
    (case side1 => exact Z6.z50)
    (case side2 => exact (Kd.R_reads' HO110.out).2.1)
    (case side3 => exact Z6.z49)
    (case side4 => exact (Kd.R_reads' HO116.out).2.1)
    rintro e w39 ⟨v121, rfl, ho0, hb⟩
    refine ⟨_, rfl, ?_⟩
    have n0_ := Z6.k (Kd.R_elder' Z6.z18 (Kd.R_base ho0) hb)
    have n1_ := Z6.k (Kd.R_elder' Z6.z29 (Kd.R_base ho0) hb)
    have n2_ := Z6.k (Kd.R_lower (Kd.R_new' (Kd.R_new' ho0 (Kd.R_lt Z6.z18)) (Kd.R_lt Z6.z29)) (below_size Z6.z10))
    have n3_ := Z6.k (Z6.bb BK101 Z6.z1 hb)
    have n4_ := Z6.k (Z6.bb BK102 Z6.z2 hb)
    have n5_ := Z6.k (Z6.bb BK124 Z6.z5 hb)
    have n6_ := Z6.k (below_step Z6.z10 hb)
    clear HO110 HO116 BK101 BK102 BK124 HB
    have HO110 := n0_
    have HO116 := n1_
    have HO122 := n2_
    have BK101 := n3_
    have BK102 := n4_
    have BK124 := n5_
    have HB := n6_
    clear n0_ n1_ n2_ n3_ n4_ n5_ n6_
    (try clear hb)
    (try clear hb2)
    (try clear hk)
    (try clear hi)
    (try clear ho0)
    refine hK.out _ _ Z6.z4 (fun hHeld => ?_)
    clear hK K
    refine norm_ (a' := ?_) ?_ ?_
    rotate_left
    ·show Act.put _ (some 32) _ = _
     simp only [Act.put, List.setIfInBounds_toArray, List.set_cons_zero, List.set_cons_succ, i64_w, i32_w]
     rfl
    refine pure_ (i := 5) (N := some 27) (v := ?_) (a' := ?_) #[true, true, true, true, true, true, false, false, true, false, false] rfl rfl (any_of HT_.out (by kernel_rfl)) (fun _ _ _ h => h) (Or.inl ⟨(by rfl), ?_⟩) ?_ ?_
    rotate_left
    ·intro w'
     go_simp
     with_reducible rfl
    rotate_left
    ·exact Z6.z16
    refine pure_ (i := 6) (N := some 33) (v := ?_) (a' := ?_) #[true, true, true, true, true, true, true, false, true, false, false] rfl rfl (any_of HT_.out (by kernel_rfl)) (fun _ _ _ h => h) (Or.inl ⟨(by rfl), ?_⟩) ?_ ?_
    rotate_left
    ·intro w'
     go_simp
     with_reducible rfl
    rotate_left
    ·exact Z6.z16
    refine pure_ (i := 7) (N := some 34) (v := ?_) (a' := ?_) #[true, true, true, true, true, true, true, true, true, false, false] rfl rfl (any_of HT_.out (by kernel_rfl)) (fun _ _ _ h => h) (Or.inl ⟨(by rfl), ?_⟩) ?_ ?_
    rotate_left
    ·intro w'
     go_simp
     with_reducible rfl
    rotate_left
    ·exact Z6.z16
    exact norm_ Z6.z48 (hCont (.slice Ao37 t108.length co37, .slice Ao38 t114.length co38, v121, gb124) _ ⟨hHeld, Z6.z74, Z6.z73, Z6.z72, Z6.z1, Z6.z2, Z6.z5, GW124.out, GE124.out, NB101_124.out, NB124_101.out, NB102_124.out, NB124_102.out, Z6.z10⟩)
   skip
   refine box_step ?hg (N := 6) ?hd (cs := #[.int .i64 0, .int .i64 0, .int .i64 0, .slice none 0 0]) (t := 28) ?hr ?_; (case hd => rfl); (case hg => rfl); (case hr => first | (go_simp; done) | (go_simp; rfl))
   intro gb124 hg w35 hbox hb
   have n0_ := Z6.k (Kd.R_below Z6.z18 hb)
   have n1_ := Z6.k (Z6.bb BK101 Z6.z1 hb)
   have n2_ := Z6.k (Z6.bb BK102 Z6.z2 hb)
   have n3_ := Z6.k (below_step Z6.z11 hb)
   have n4_ := Z6.k (hbox)
   have n5_ := Z6.k (show w.heap.size ≤ gb124 from (by rw [hg]; exact (below_size Z6.z11)))
   have n6_ := Z6.k (show w.heap.size ≤ gb124 from (by rw [hg]; exact (below_size Z6.z11)))
   have n7_ := Z6.k (show gb101 ≠ gb124 from Z6.z76)
   have n8_ := Z6.k (show gb124 ≠ gb101 from Z6.z77)
   have n9_ := Z6.k (show gb102 ≠ gb124 from Z6.z85)
   have n10_ := Z6.k (show gb124 ≠ gb102 from Z6.z86)
   clear HO110 BK101 BK102 HB
   have HO110 := n0_
   have BK101 := n1_
   have BK102 := n2_
   have HB := n3_
   have BK124 := n4_
   have GW124 := n5_
   have GE124 := n6_
   have NB101_124 := n7_
   have NB124_101 := n8_
   have NB102_124 := n9_
   have NB124_102 := n10_
   clear n0_ n1_ n2_ n3_ n4_ n5_ n6_ n7_ n8_ n9_ n10_ hb hbox hg
   refine hK.out _ _ Z6.z4 (fun hHeld => ?_)
   clear hK K
   refine norm_ (a' := ?_) ?_ ?_
   rotate_left
   ·show Act.put _ (some 6) _ = _
    simp only [Act.put, List.setIfInBounds_toArray, List.set_cons_zero, List.set_cons_succ, i64_w, i32_w]
    rfl
   refine one_ (i := 3) (N := some 31) #[true, true, true, true, false, false, false, false, true, false, false] rfl rfl (one_of HT_.out (by kernel_rfl)) (by decide) (fun K hK => ?_)
   refine goes_ Try.func10 (by kernel_rfl) rfl #[.agg #[.int .i64 a1_0, .int .i64 a1_1, .int .i64 a1_2, .slice A1_3 l1_3.length c1_3]] (by rfl) rfl rfl Z6.z7 ?_
   with_reducible refine (laws_toMatrix.calls k a1_0 a1_1 a1_2 _ _ l1_3 t111 t112 t113 t114 _ ?side1 ?side2 A20.out).mono ?_
   (case side1 => exact Z6.z19)
   (case side2 => exact HC1_3.out)
   rintro e w36 ⟨v115, rfl, ho0, hb⟩
   refine ⟨_, rfl, ?_⟩
   have n0_ := Z6.k (Kd.R_elder' Z6.z18 (Kd.R_base ho0) hb)
   have n1_ := Z6.k (Kd.R_lower (Kd.R_new' ho0 (Kd.R_lt Z6.z18)) (below_size Z6.z10))
   have n2_ := Z6.k (Z6.bb BK101 Z6.z1 hb)
   have n3_ := Z6.k (Z6.bb BK102 Z6.z2 hb)
   have n4_ := Z6.k (Z6.bb BK124 Z6.z5 hb)
   have n5_ := Z6.k (below_step Z6.z10 hb)
   clear HO110 BK101 BK102 BK124 HB
   have HO110 := n0_
   have HO116 := n1_
   have BK101 := n2_
   have BK102 := n3_
   have BK124 := n4_
   have HB := n5_
   clear n0_ n1_ n2_ n3_ n4_ n5_
   (try clear hb)
   (try clear hb2)
   (try clear hk)
   (try clear hi)
   (try clear ho0)
   obtain ⟨Ao37, co37, eo37⟩ := Kd.R_slice HO110.out
   (first | subst eo37 | (injection eo37 with f1_ f2_ f3_; have f4_ := f1_.symm; have f5_ := f3_.symm; clear f1_ f2_ f3_; subst f4_; subst f5_))
   obtain ⟨Ao38, co38, eo38⟩ := Kd.R_slice HO116.out
   (first | subst eo38 | (injection eo38 with f1_ f2_ f3_; have f4_ := f1_.symm; have f5_ := f3_.symm; clear f1_ f2_ f3_; subst f4_; subst f5_))
   refine hK.out _ _ Z6.z4 (fun hHeld => ?_)
   clear hK K
   refine norm_ (a' := ?_) ?_ ?_
   rotate_left
   ·show Act.put _ (some 31) _ = _
    simp only [Act.put, List.setIfInBounds_toArray, List.set_cons_zero, List.set_cons_succ, i64_w, i32_w]
    rfl
   refine one_ (i := 4) (N := some 32) #[true, true, true, true, true, false, false, false, true, false, false] rfl rfl (one_of HT_.out (by kernel_rfl)) (by decide) (fun K hK => ?_)
   refine goes_ Try.func19 (by kernel_rfl) rfl #[.agg #[.int .i64 t105, .int .i64 t106, .int .i64 t107, .slice Ao37 t108.length co37], .agg #[.int .i64 t111, .int .i64 t112, .int .i64 t113, .slice Ao38 t114.length co38]] (by rfl) rfl rfl Z6.z7 ?_
   with_reducible refine (spec_StackRows.calls k t105 t106 t107 _ _ t108 t111 t112 t113 _ _ t114 t117 t118 t119 t120 t123 _ ?side1 ?side2 ?side3 ?side4 A21.out).mono ?_
   (case side1 => exact Z6.z50)
   (case side2 => exact (Kd.R_reads' HO110.out).2.1)
   (case side3 => exact Z6.z49)
   (case side4 => exact (Kd.R_reads' HO116.out).2.1)
   rintro e w39 ⟨v121, rfl, ho0, hb⟩
   refine ⟨_, rfl, ?_⟩
   have n0_ := Z6.k (Kd.R_elder' Z6.z18 (Kd.R_base ho0) hb)
   have n1_ := Z6.k (Kd.R_elder' Z6.z29 (Kd.R_base ho0) hb)
   have n2_ := Z6.k (Kd.R_lower (Kd.R_new' (Kd.R_new' ho0 (Kd.R_lt Z6.z18)) (Kd.R_lt Z6.z29)) (below_size Z6.z10))
   have n3_ := Z6.k (Z6.bb BK101 Z6.z1 hb)
   have n4_ := Z6.k (Z6.bb BK102 Z6.z2 hb)
   have n5_ := Z6.k (Z6.bb BK124 Z6.z5 hb)
   have n6_ := Z6.k (below_step Z6.z10 hb)
   clear HO110 HO116 BK101 BK102 BK124 HB
   have HO110 := n0_
   have HO116 := n1_
   have HO122 := n2_
   have BK101 := n3_
   have BK102 := n4_
   have BK124 := n5_
   have HB := n6_
   clear n0_ n1_ n2_ n3_ n4_ n5_ n6_
   (try clear hb)
   (try clear hb2)
   (try clear hk)
   (try clear hi)
   (try clear ho0)
   refine hK.out _ _ Z6.z4 (fun hHeld => ?_)
   clear hK K
   refine norm_ (a' := ?_) ?_ ?_
   rotate_left
   ·show Act.put _ (some 32) _ = _
    simp only [Act.put, List.setIfInBounds_toArray, List.set_cons_zero, List.set_cons_succ, i64_w, i32_w]
    rfl
   refine pure_ (i := 5) (N := some 27) (v := ?_) (a' := ?_) #[true, true, true, true, true, true, false, false, true, false, false] rfl rfl (any_of HT_.out (by kernel_rfl)) (fun _ _ _ h => h) (Or.inl ⟨(by rfl), ?_⟩) ?_ ?_
   rotate_left
   ·intro w'
    go_simp
    with_reducible rfl
   rotate_left
   ·exact Z6.z16
   refine pure_ (i := 6) (N := some 33) (v := ?_) (a' := ?_) #[true, true, true, true, true, true, true, false, true, false, false] rfl rfl (any_of HT_.out (by kernel_rfl)) (fun _ _ _ h => h) (Or.inl ⟨(by rfl), ?_⟩) ?_ ?_
   rotate_left
   ·intro w'
    go_simp
    with_reducible rfl
   rotate_left
   ·exact Z6.z16
   refine pure_ (i := 7) (N := some 34) (v := ?_) (a' := ?_) #[true, true, true, true, true, true, true, true, true, false, false] rfl rfl (any_of HT_.out (by kernel_rfl)) (fun _ _ _ h => h) (Or.inl ⟨(by rfl), ?_⟩) ?_ ?_
   rotate_left
   ·intro w'
    go_simp
    with_reducible rfl
   rotate_left
   ·exact Z6.z16
   exact norm_ Z6.z48 (hCont (.slice Ao37 t108.length co37, .slice Ao38 t114.length co38, v121, gb124) _ ⟨hHeld, Z6.z74, Z6.z73, Z6.z72, Z6.z1, Z6.z2, Z6.z5, GW124.out, GE124.out, NB101_124.out, NB124_101.out, NB102_124.out, NB124_102.out, Z6.z10⟩)
  skip
  refine box_step ?hg (N := 6) ?hd (cs := #[.int .i64 0, .int .i64 0, .int .i64 0, .slice none 0 0]) (t := 28) ?hr ?_; (case hd => rfl); (case hg => rfl); (case hr => first | (go_simp; done) | (go_simp; rfl))
  intro gb124 hg w34 hbox hb
  have n0_ := Z6.k (Z6.bb BK101 Z6.z1 hb)
  have n1_ := Z6.k (Z6.bb BK102 Z6.z2 hb)
  have n2_ := Z6.k (below_step Z6.z11 hb)
  have n3_ := Z6.k (hbox)
  have n4_ := Z6.k (show w.heap.size ≤ gb124 from (by rw [hg]; exact (below_size Z6.z11)))
  have n5_ := Z6.k (show w.heap.size ≤ gb124 from (by rw [hg]; exact (below_size Z6.z11)))
  have n6_ := Z6.k (show gb101 ≠ gb124 from Z6.z76)
  have n7_ := Z6.k (show gb124 ≠ gb101 from Z6.z77)
  have n8_ := Z6.k (show gb102 ≠ gb124 from Z6.z85)
  have n9_ := Z6.k (show gb124 ≠ gb102 from Z6.z86)
  clear BK101 BK102 HB
  have BK101 := n0_
  have BK102 := n1_
  have HB := n2_
  have BK124 := n3_
  have GW124 := n4_
  have GE124 := n5_
  have NB101_124 := n6_
  have NB124_101 := n7_
  have NB102_124 := n8_
  have NB124_102 := n9_
  clear n0_ n1_ n2_ n3_ n4_ n5_ n6_ n7_ n8_ n9_ hb hbox hg
  refine hK.out _ _ Z6.z4 (fun hHeld => ?_)
  clear hK K
  refine norm_ (a' := ?_) ?_ ?_
  rotate_left
  ·show Act.put _ (some 6) _ = _
   simp only [Act.put, List.setIfInBounds_toArray, List.set_cons_zero, List.set_cons_succ, i64_w, i32_w]
   rfl
  refine one_ (i := 1) (N := some 29) #[true, true, true, false, false, false, false, false, true, false, false] rfl rfl (one_of HT_.out (by kernel_rfl)) (by decide) (fun K hK => ?_)
  refine goes_ Try.func10 (by kernel_rfl) rfl #[.agg #[.int .i64 a0_0, .int .i64 a0_1, .int .i64 a0_2, .slice A0_3 l0_3.length c0_3]] (by rfl) rfl rfl Z6.z7 ?_
  with_reducible refine (laws_toMatrix.calls k a0_0 a0_1 a0_2 _ _ l0_3 t105 t106 t107 t108 _ ?side1 ?side2 A19.out).mono ?_
  (case side1 => exact Z6.z20)
  (case side2 => exact HC0_3.out)
  rintro e w35 ⟨v109, rfl, ho0, hb⟩
  refine ⟨_, rfl, ?_⟩
  have n0_ := Z6.k (Kd.R_lower ho0 (below_size Z6.z10))
  have n1_ := Z6.k (Z6.bb BK101 Z6.z1 hb)
  have n2_ := Z6.k (Z6.bb BK102 Z6.z2 hb)
  have n3_ := Z6.k (Z6.bb BK124 Z6.z5 hb)
  have n4_ := Z6.k (below_step Z6.z10 hb)
  clear BK101 BK102 BK124 HB
  have HO110 := n0_
  have BK101 := n1_
  have BK102 := n2_
  have BK124 := n3_
  have HB := n4_
  clear n0_ n1_ n2_ n3_ n4_
  (try clear hb)
  (try clear hb2)
  (try clear hk)
  (try clear hi)
  (try clear ho0)
  refine hK.out _ _ Z6.z4 (fun hHeld => ?_)
  clear hK K
  refine norm_ (a' := ?_) ?_ ?_
  rotate_left
  ·show Act.put _ (some 29) _ = _
   simp only [Act.put, List.setIfInBounds_toArray, List.set_cons_zero, List.set_cons_succ, i64_w, i32_w]
   rfl
  refine one_ (i := 3) (N := some 31) #[true, true, true, true, false, false, false, false, true, false, false] rfl rfl (one_of HT_.out (by kernel_rfl)) (by decide) (fun K hK => ?_)
  refine goes_ Try.func10 (by kernel_rfl) rfl #[.agg #[.int .i64 a1_0, .int .i64 a1_1, .int .i64 a1_2, .slice A1_3 l1_3.length c1_3]] (by rfl) rfl rfl Z6.z7 ?_
  with_reducible refine (laws_toMatrix.calls k a1_0 a1_1 a1_2 _ _ l1_3 t111 t112 t113 t114 _ ?side1 ?side2 A20.out).mono ?_
  (case side1 => exact Z6.z19)
  (case side2 => exact HC1_3.out)
  rintro e w36 ⟨v115, rfl, ho0, hb⟩
  refine ⟨_, rfl, ?_⟩
  have n0_ := Z6.k (Kd.R_elder' Z6.z18 (Kd.R_base ho0) hb)
  have n1_ := Z6.k (Kd.R_lower (Kd.R_new' ho0 (Kd.R_lt Z6.z18)) (below_size Z6.z10))
  have n2_ := Z6.k (Z6.bb BK101 Z6.z1 hb)
  have n3_ := Z6.k (Z6.bb BK102 Z6.z2 hb)
  have n4_ := Z6.k (Z6.bb BK124 Z6.z5 hb)
  have n5_ := Z6.k (below_step Z6.z10 hb)
  clear HO110 BK101 BK102 BK124 HB
  have HO110 := n0_
  have HO116 := n1_
  have BK101 := n2_
  have BK102 := n3_
  have BK124 := n4_
  have HB := n5_
  clear n0_ n1_ n2_ n3_ n4_ n5_
  (try clear hb)
  (try clear hb2)
  (try clear hk)
  (try clear hi)
  (try clear ho0)
  obtain ⟨Ao37, co37, eo37⟩ := Kd.R_slice HO110.out
  (first | subst eo37 | (injection eo37 with f1_ f2_ f3_; have f4_ := f1_.symm; have f5_ := f3_.symm; clear f1_ f2_ f3_; subst f4_; subst f5_))
  obtain ⟨Ao38, co38, eo38⟩ := Kd.R_slice HO116.out
  (first | subst eo38 | (injection eo38 with f1_ f2_ f3_; have f4_ := f1_.symm; have f5_ := f3_.symm; clear f1_ f2_ f3_; subst f4_; subst f5_))
  refine hK.out _ _ Z6.z4 (fun hHeld => ?_)
  clear hK K
  refine norm_ (a' := ?_) ?_ ?_
  rotate_left
  ·show Act.put _ (some 31) _ = _
   simp only [Act.put, List.setIfInBounds_toArray, List.set_cons_zero, List.set_cons_succ, i64_w, i32_w]
   rfl
  refine one_ (i := 4) (N := some 32) #[true, true, true, true, true, false, false, false, true, false, false] rfl rfl (one_of HT_.out (by kernel_rfl)) (by decide) (fun K hK => ?_)
  refine goes_ Try.func19 (by kernel_rfl) rfl #[.agg #[.int .i64 t105, .int .i64 t106, .int .i64 t107, .slice Ao37 t108.length co37], .agg #[.int .i64 t111, .int .i64 t112, .int .i64 t113, .slice Ao38 t114.length co38]] (by rfl) rfl rfl Z6.z7 ?_
  with_reducible refine (spec_StackRows.calls k t105 t106 t107 _ _ t108 t111 t112 t113 _ _ t114 t117 t118 t119 t120 t123 _ ?side1 ?side2 ?side3 ?side4 A21.out).mono ?_
  (case side1 => exact Z6.z50)
  (case side2 => exact (Kd.R_reads' HO110.out).2.1)
  (case side3 => exact Z6.z49)
  (case side4 => exact (Kd.R_reads' HO116.out).2.1)
  rintro e w39 ⟨v121, rfl, ho0, hb⟩
  refine ⟨_, rfl, ?_⟩
  have n0_ := Z6.k (Kd.R_elder' Z6.z18 (Kd.R_base ho0) hb)
  have n1_ := Z6.k (Kd.R_elder' Z6.z29 (Kd.R_base ho0) hb)
  have n2_ := Z6.k (Kd.R_lower (Kd.R_new' (Kd.R_new' ho0 (Kd.R_lt Z6.z18)) (Kd.R_lt Z6.z29)) (below_size Z6.z10))
  have n3_ := Z6.k (Z6.bb BK101 Z6.z1 hb)
  have n4_ := Z6.k (Z6.bb BK102 Z6.z2 hb)
  have n5_ := Z6.k (Z6.bb BK124 Z6.z5 hb)
  have n6_ := Z6.k (below_step Z6.z10 hb)
  clear HO110 HO116 BK101 BK102 BK124 HB
  have HO110 := n0_
  have HO116 := n1_
  have HO122 := n2_
  have BK101 := n3_
  have BK102 := n4_
  have BK124 := n5_
  have HB := n6_
  clear n0_ n1_ n2_ n3_ n4_ n5_ n6_
  (try clear hb)
  (try clear hb2)
  (try clear hk)
  (try clear hi)
  (try clear ho0)
  refine hK.out _ _ Z6.z4 (fun hHeld => ?_)
  clear hK K
  refine norm_ (a' := ?_) ?_ ?_
  rotate_left
  ·show Act.put _ (some 32) _ = _
   simp only [Act.put, List.setIfInBounds_toArray, List.set_cons_zero, List.set_cons_succ, i64_w, i32_w]
   rfl
  refine pure_ (i := 5) (N := some 27) (v := ?_) (a' := ?_) #[true, true, true, true, true, true, false, false, true, false, false] rfl rfl (any_of HT_.out (by kernel_rfl)) (fun _ _ _ h => h) (Or.inl ⟨(by rfl), ?_⟩) ?_ ?_
  rotate_left
  ·intro w'
   go_simp
   with_reducible rfl
  rotate_left
  ·exact Z6.z16
  refine pure_ (i := 6) (N := some 33) (v := ?_) (a' := ?_) #[true, true, true, true, true, true, true, false, true, false, false] rfl rfl (any_of HT_.out (by kernel_rfl)) (fun _ _ _ h => h) (Or.inl ⟨(by rfl), ?_⟩) ?_ ?_
  rotate_left
  ·intro w'
   go_simp
   with_reducible rfl
  rotate_left
  ·exact Z6.z16
  refine pure_ (i := 7) (N := some 34) (v := ?_) (a' := ?_) #[true, true, true, true, true, true, true, true, true, false, false] rfl rfl (any_of HT_.out (by kernel_rfl)) (fun _ _ _ h => h) (Or.inl ⟨(by rfl), ?_⟩) ?_ ?_
  rotate_left
  ·intro w'
   go_simp
   with_reducible rfl
  rotate_left
  ·exact Z6.z16
  exact norm_ Z6.z48 (hCont (.slice Ao37 t108.length co37, .slice Ao38 t114.length co38, v121, gb124) _ ⟨hHeld, Z6.z74, Z6.z73, Z6.z72, Z6.z1, Z6.z2, Z6.z5, GW124.out, GE124.out, NB101_124.out, NB124_101.out, NB102_124.out, NB124_102.out, Z6.z10⟩)
 rintro ⟨v109, v115, v121, gb124⟩ w40 ⟨hS_, h0_, h1_, h2_, h3_, h4_, h5_, h6_, h7_, h8_, h9_, h10_, h11_, h12_⟩
 have n0_ : Aside0 (Kd.R (Kd.int .i64) 2 w40 w.heap.size (fun k_ => some k_ ≠ (v115 : Value).ownBlock ∧ some k_ ≠ (v121 : Value).ownBlock) v109 t108) := ⟨h0_⟩
 have n1_ : Aside0 (Kd.R (Kd.int .i64) 2 w40 w.heap.size (fun k_ => some k_ ≠ (v109 : Value).ownBlock ∧ some k_ ≠ (v121 : Value).ownBlock) v115 t114) := ⟨h1_⟩
 have n2_ : Aside0 (Kd.R (Kd.int .i64) 2 w40 w.heap.size (fun k_ => some k_ ≠ (v109 : Value).ownBlock ∧ some k_ ≠ (v115 : Value).ownBlock) v121 t120) := ⟨h2_⟩
 have n3_ : Aside0 (w40.heap[gb101]? = some (.cells #[.int .i64 a0_0, .int .i64 a0_1, .int .i64 a0_2, .slice A0_3 l0_3.length c0_3] 24 (0, 0))) := ⟨h3_⟩
 have n4_ : Aside0 (w40.heap[gb102]? = some (.cells #[.int .i64 a1_0, .int .i64 a1_1, .int .i64 a1_2, .slice A1_3 l1_3.length c1_3] 24 (0, 0))) := ⟨h4_⟩
 have n5_ : Aside0 (w40.heap[gb124]? = some (.cells #[.int .i64 0, .int .i64 0, .int .i64 0, .slice none 0 0] 28 (0, 0))) := ⟨h5_⟩
 have n6_ : Aside0 (w.heap.size ≤ gb124) := ⟨h6_⟩
 have n7_ : Aside0 (w.heap.size ≤ gb124) := ⟨h7_⟩
 have n8_ : Aside0 (gb101 ≠ gb124) := ⟨h8_⟩
 have n9_ : Aside0 (gb124 ≠ gb101) := ⟨h9_⟩
 have n10_ : Aside0 (gb102 ≠ gb124) := ⟨h10_⟩
 have n11_ : Aside0 (gb124 ≠ gb102) := ⟨h11_⟩
 have n12_ : Aside0 (Below w.heap.size w w40) := ⟨h12_⟩
 clear BK101 BK102 HB h0_ h1_ h2_ h3_ h4_ h5_ h6_ h7_ h8_ h9_ h10_ h11_ h12_
 have HO110 := n0_
 have HO116 := n1_
 have HO122 := n2_
 have BK101 := n3_
 have BK102 := n4_
 have BK124 := n5_
 have GW124 := n6_
 have GE124 := n7_
 have NB101_124 := n8_
 have NB124_101 := n9_
 have NB102_124 := n10_
 have NB124_102 := n11_
 have HB := n12_
 clear n0_ n1_ n2_ n3_ n4_ n5_ n6_ n7_ n8_ n9_ n10_ n11_ n12_
 have hHeld : w40.cell? ⟨gb101, 0, none⟩ = some (.int .i64 a0_0) ∧ w40.cell? ⟨gb101, 1, none⟩ = some (.int .i64 a0_1) ∧ w40.cell? ⟨gb101, 2, none⟩ = some (.int .i64 a0_2) ∧ w40.cell? ⟨gb101, 3, none⟩ = some (.slice A0_3 l0_3.length c0_3) ∧ w40.cell? ⟨gb102, 0, none⟩ = some (.int .i64 a1_0) ∧ w40.cell? ⟨gb102, 1, none⟩ = some (.int .i64 a1_1) ∧ w40.cell? ⟨gb102, 2, none⟩ = some (.int .i64 a1_2) ∧ w40.cell? ⟨gb102, 3, none⟩ = some (.slice A1_3 l1_3.length c1_3) := hS_
 obtain ⟨Ao44, co44, eo44⟩ := Kd.R_slice HO122.out
 (first | subst eo44 | (injection eo44 with f1_ f2_ f3_; have f4_ := f1_.symm; have f5_ := f3_.symm; clear f1_ f2_ f3_; subst f4_; subst f5_))
 refine norm_ (a' := ?_) ?_ ?_
 rotate_left
 ·simp only [putAll, Act.put, List.setIfInBounds_toArray, List.set_cons_zero, List.set_cons_succ]
  rfl
 refine one_ (i := 9) (N := none) #[true, true, true, true, true, true, true, true, true, true, false] rfl rfl (one_of HT_.out (by kernel_rfl)) (by decide) (fun K hK => ?_)
 have hs41 : w40.cell? ⟨gb124, 0, none⟩ = some (.int .i64 0) := (blk_cell BK124.out 0).trans rfl
 have hfs41 := blk_frozen BK124.out 0
 have hns41_0 := NB101_124.out
 have hns41_1 := NB102_124.out
 have hms41_0 := NB124_101.out
 have hms41_1 := NB124_102.out
 have hs42 : w40.cell? ⟨gb124, 1, none⟩ = some (.int .i64 0) := (blk_cell BK124.out 1).trans rfl
 have hfs42 := blk_frozen BK124.out 1
 have hns42_0 := NB101_124.out
 have hns42_1 := NB102_124.out
 have hms42_0 := NB124_101.out
 have hms42_1 := NB124_102.out
 have hs43 : w40.cell? ⟨gb124, 2, none⟩ = some (.int .i64 0) := (blk_cell BK124.out 2).trans rfl
 have hfs43 := blk_frozen BK124.out 2
 have hns43_0 := NB101_124.out
 have hns43_1 := NB102_124.out
 have hms43_0 := NB124_101.out
 have hms43_1 := NB124_102.out
 have hs45 : w40.cell? ⟨gb124, 3, none⟩ = some (.slice none 0 0) := (blk_cell BK124.out 3).trans rfl
 have hfs45 := blk_frozen BK124.out 3
 have hns45_0 := NB101_124.out
 have hns45_1 := NB102_124.out
 have hms45_0 := NB124_101.out
 have hms45_1 := NB124_102.out
 refine skip_ (w1 := ?_) (by rfl) rfl ?_ ?_
 rotate_left
 ·go_simp
  rfl
 refine hK.out _ _ ⟨((cell_far (p := ⟨gb124, _, none⟩) NB101_124.out _).trans (((cell_far (p := ⟨gb124, _, none⟩) NB101_124.out _).trans (((cell_far (p := ⟨gb124, _, none⟩) NB101_124.out _).trans (((cell_far (p := ⟨gb124, _, none⟩) NB101_124.out _).trans (hHeld.1)))))))), ((cell_far (p := ⟨gb124, _, none⟩) NB101_124.out _).trans (((cell_far (p := ⟨gb124, _, none⟩) NB101_124.out _).trans (((cell_far (p := ⟨gb124, _, none⟩) NB101_124.out _).trans (((cell_far (p := ⟨gb124, _, none⟩) NB101_124.out _).trans (hHeld.2.1)))))))), ((cell_far (p := ⟨gb124, _, none⟩) NB101_124.out _).trans (((cell_far (p := ⟨gb124, _, none⟩) NB101_124.out _).trans (((cell_far (p := ⟨gb124, _, none⟩) NB101_124.out _).trans (((cell_far (p := ⟨gb124, _, none⟩) NB101_124.out _).trans (hHeld.2.2.1)))))))), ((cell_far (p := ⟨gb124, _, none⟩) NB101_124.out _).trans (((cell_far (p := ⟨gb124, _, none⟩) NB101_124.out _).trans (((cell_far (p := ⟨gb124, _, none⟩) NB101_124.out _).trans (((cell_far (p := ⟨gb124, _, none⟩) NB101_124.out _).trans (hHeld.2.2.2.1)))))))), ((cell_far (p := ⟨gb124, _, none⟩) NB102_124.out _).trans (((cell_far (p := ⟨gb124, _, none⟩) NB102_124.out _).trans (((cell_far (p := ⟨gb124, _, none⟩) NB102_124.out _).trans (((cell_far (p := ⟨gb124, _, none⟩) NB102_124.out _).trans (hHeld.2.2.2.2.1)))))))), ((cell_far (p := ⟨gb124, _, none⟩) NB102_124.out _).trans (((cell_far (p := ⟨gb124, _, none⟩) NB102_124.out _).trans (((cell_far (p := ⟨gb124, _, none⟩) NB102_124.out _).trans (((cell_far (p := ⟨gb124, _, none⟩) NB102_124.out _).trans (hHeld.2.2.2.2.2.1)))))))), ((cell_far (p := ⟨gb124, _, none⟩) NB102_124.out _).trans (((cell_far (p := ⟨gb124, _, none⟩) NB102_124.out _).trans (((cell_far (p := ⟨gb124, _, none⟩) NB102_124.out _).trans (((cell_far (p := ⟨gb124, _, none⟩) NB102_124.out _).trans (hHeld.2.2.2.2.2.2.1)))))))), ((cell_far (p := ⟨gb124, _, none⟩) NB102_124.out _).trans (((cell_far (p := ⟨gb124, _, none⟩) NB102_124.out _).trans (((cell_far (p := ⟨gb124, _, none⟩) NB102_124.out _).trans (((cell_far (p := ⟨gb124, _, none⟩) NB102_124.out _).trans (hHeld.2.2.2.2.2.2.2))))))))⟩ (fun hHeld => ?_)
 clear hK K
 refine pure_ (i := 10) (N := some 7) (v := ?_) (a' := ?_) #[true, true, true, true, true, true, true, true, true, true, true] rfl rfl (any_of HT_.out (by kernel_rfl)) (fun _ _ _ h => h) (Or.inl ⟨(by rfl), ?_⟩) ?_ ?_
 rotate_left
 ·intro w'
  go_simp
  with_reducible rfl
 rotate_left
 ·exact Z6.z16
 refine done_ (done_of HT_.out (by kernel_rfl)) ?_
 have hnb46 := NB101_124.out
 have hnc46 := NB124_101.out
 have hcz47_0 : w40.cell? ⟨gb101, 0, none⟩ = some (.int .i64 a0_0) := (blk_cell BK101.out 0).trans rfl
 have hcz47_1 : w40.cell? ⟨gb101, 1, none⟩ = some (.int .i64 a0_1) := (blk_cell BK101.out 1).trans rfl
 have hcz47_2 : w40.cell? ⟨gb101, 2, none⟩ = some (.int .i64 a0_2) := (blk_cell BK101.out 2).trans rfl
 have hcz47_3 : w40.cell? ⟨gb101, 3, none⟩ = some (.slice A0_3 l0_3.length c0_3) := (blk_cell BK101.out 3).trans rfl
 have hfz47_0 := blk_frozen BK101.out 0
 have hfz47_1 := blk_frozen BK101.out 1
 have hfz47_2 := blk_frozen BK101.out 2
 have hfz47_3 := blk_frozen BK101.out 3
 go_upto_region 12 with (first | ((with_reducible refine gate_callee (f := 10) rfl ?_); refine goesL_ (some 36) rfl rfl Try.func10 (by kernel_rfl) rfl #[.agg #[.int .i64 a0_0, .int .i64 a0_1, .int .i64 a0_2, .slice A0_3 l0_3.length c0_3]] rfl Z6.z7 ?_; (with_reducible refine (laws_toMatrix.calls k a0_0 a0_1 a0_2 _ _ l0_3 t125 t126 t127 t128 _ ?side1 ?side2 A22.out).mono ?_); (case side1 => exact (by exact Kd.C_below HR0_3.out Z6.z10)); (case side2 => exact HC0_3.out); rintro e w48 ⟨v129, rfl, ho0, hb⟩; refine ⟨_, rfl, ?_⟩; have n0_ := Z6.k (Kd.R_elder' Z6.z66 (Kd.R_base ho0) hb); have n1_ := Z6.k (Kd.R_elder' Z6.z65 (Kd.R_base ho0) hb); have n2_ := Z6.k (Kd.R_elder' Z6.z64 (Kd.R_base ho0) hb); have n3_ := Z6.k (Kd.R_lower (Kd.R_new' (Kd.R_new' (Kd.R_new' ho0 (Kd.R_lt Z6.z66)) (Kd.R_lt Z6.z65)) (Kd.R_lt Z6.z64)) (below_size Z6.z10)); have n4_ := Z6.k (Z6.bb BK101 (by (repeat (first | (with_reducible first | refine blk_drewN ?_ _ | refine blk_drew ?_ | refine blk_alloc ?_ _) | refine blk_far ?_ NB101_124.out _)); exact BK101.out) hb); have n5_ := Z6.k (Z6.bb BK102 (by (repeat (first | (with_reducible first | refine blk_drewN ?_ _ | refine blk_drew ?_ | refine blk_alloc ?_ _) | refine blk_far ?_ NB102_124.out _)); exact BK102.out) hb); have n6_ := Z6.k (blk_below (g := gb124) (o := .cells #[.int .i64 t117, .int .i64 t118, .int .i64 t119, .slice Ao44 t120.length co44] 28 (0, 0)) (by (with_reducible repeat (first | refine blk_drewN ?_ _ | refine blk_drew ?_ | refine blk_alloc ?_ _)); refine blk_put (cs := #[.int .i64 t117, .int .i64 t118, .int .i64 t119, .slice none 0 0]) ?_ 3 _ rfl; (with_reducible repeat (first | refine blk_drewN ?_ _ | refine blk_drew ?_ | refine blk_alloc ?_ _)); refine blk_put (cs := #[.int .i64 t117, .int .i64 t118, .int .i64 0, .slice none 0 0]) ?_ 2 _ rfl; (with_reducible repeat (first | refine blk_drewN ?_ _ | refine blk_drew ?_ | refine blk_alloc ?_ _)); refine blk_put (cs := #[.int .i64 t117, .int .i64 0, .int .i64 0, .slice none 0 0]) ?_ 1 _ rfl; (with_reducible repeat (first | refine blk_drewN ?_ _ | refine blk_drew ?_ | refine blk_alloc ?_ _)); refine blk_put (cs := #[.int .i64 0, .int .i64 0, .int .i64 0, .slice none 0 0]) ?_ 0 _ rfl; (with_reducible repeat (first | refine blk_drewN ?_ _ | refine blk_drew ?_ | refine blk_alloc ?_ _)); exact BK124.out) hb); have n7_ := Z6.k (below_step Z6.z10 hb); clear HO110 HO116 HO122 BK101 BK102 BK124 HB; have HO110 := n0_; have HO116 := n1_; have HO122 := n2_; have HO130 := n3_; have BK101 := n4_; have BK102 := n5_; have BK124 := n6_; have HB := n7_; clear n0_ n1_ n2_ n3_ n4_ n5_ n6_ n7_; (try clear hb); (try clear hb2); (try clear hk); (try clear hi); (try clear ho0)) | ((with_reducible refine gate_dst (N := 8) rfl ?_); refine box_event ?hg (N := 8) ?hd (cs := #[.int .i64 0, .int .i64 0, .int .i64 0, .slice none 0 0]) (t := 28) ?hr ?_; (case hd => rfl); (case hg => rfl); (case hr => first | (go_simp; done) | (go_simp; rfl)); intro gb131 hg w49 hbox hb; have n0_ := Z6.k (Kd.R_below Z6.z18 hb); have n1_ := Z6.k (Kd.R_below Z6.z29 hb); have n2_ := Z6.k (Kd.R_below Z6.z69 hb); have n3_ := Z6.k (Kd.R_below Z6.z78 hb); have n4_ := Z6.k (Z6.bb BK101 Z6.z1 hb); have n5_ := Z6.k (Z6.bb BK102 Z6.z2 hb); have n6_ := Z6.k (Z6.bb BK124 Z6.z5 hb); have n7_ := Z6.k (below_step Z6.z10 hb); have n8_ := Z6.k (hbox); have n9_ := Z6.k (show w.heap.size ≤ gb131 from (by rw [hg]; exact (below_size Z6.z10))); have n10_ := Z6.k (show w.heap.size ≤ gb131 from (by rw [hg]; exact (below_size Z6.z10))); have n11_ := Z6.k (show gb101 ≠ gb131 from Z6.z76); have n12_ := Z6.k (show gb131 ≠ gb101 from Z6.z77); have n13_ := Z6.k (show gb102 ≠ gb131 from Z6.z85); have n14_ := Z6.k (show gb131 ≠ gb102 from Z6.z86); have n15_ := Z6.k (show gb124 ≠ gb131 from Z6.z103); have n16_ := Z6.k (show gb131 ≠ gb124 from Z6.z104); clear HO110 HO116 HO122 HO130 BK101 BK102 BK124 HB; have HO110 := n0_; have HO116 := n1_; have HO122 := n2_; have HO130 := n3_; have BK101 := n4_; have BK102 := n5_; have BK124 := n6_; have HB := n7_; have BK131 := n8_; have GW131 := n9_; have GE131 := n10_; have NB101_131 := n11_; have NB131_101 := n12_; have NB102_131 := n13_; have NB131_102 := n14_; have NB124_131 := n15_; have NB131_124 := n16_; clear n0_ n1_ n2_ n3_ n4_ n5_ n6_ n7_ n8_ n9_ n10_ n11_ n12_ n13_ n14_ n15_ n16_; clear hb hbox hg; have hnb50 := NB131_101.out; have hnc50 := NB101_131.out; have hnb51 := NB131_102.out; have hnc51 := NB102_131.out; have hnb52 := NB131_124.out; have hnc52 := NB124_131.out; have hcz53_0 : w49.cell? ⟨gb131, 0, none⟩ = some (.int .i64 0) := (blk_cell BK131.out 0).trans rfl; have hcz53_1 : w49.cell? ⟨gb131, 1, none⟩ = some (.int .i64 0) := (blk_cell BK131.out 1).trans rfl; have hcz53_2 : w49.cell? ⟨gb131, 2, none⟩ = some (.int .i64 0) := (blk_cell BK131.out 2).trans rfl; have hcz53_3 : w49.cell? ⟨gb131, 3, none⟩ = some (.slice none 0 0) := (blk_cell BK131.out 3).trans rfl; have hfz53_0 := blk_frozen BK131.out 0; have hfz53_1 := blk_frozen BK131.out 1; have hfz53_2 := blk_frozen BK131.out 2; have hfz53_3 := blk_frozen BK131.out 3; obtain ⟨Ao54, co54, eo54⟩ := Kd.R_slice HO130.out; subst eo54; have hnb55 := NB102_124.out; have hnc55 := NB124_102.out; have hcz56_0 : w49.cell? ⟨gb102, 0, none⟩ = some (.int .i64 a1_0) := (blk_cell BK102.out 0).trans rfl; have hcz56_1 : w49.cell? ⟨gb102, 1, none⟩ = some (.int .i64 a1_1) := (blk_cell BK102.out 1).trans rfl; have hcz56_2 : w49.cell? ⟨gb102, 2, none⟩ = some (.int .i64 a1_2) := (blk_cell BK102.out 2).trans rfl; have hcz56_3 : w49.cell? ⟨gb102, 3, none⟩ = some (.slice A1_3 l1_3.length c1_3) := (blk_cell BK102.out 3).trans rfl; have hfz56_0 := blk_frozen BK102.out 0; have hfz56_1 := blk_frozen BK102.out 1; have hfz56_2 := blk_frozen BK102.out 2; have hfz56_3 := blk_frozen BK102.out 3) | ((with_reducible refine gate_callee (f := 10) rfl ?_); refine goesL_ (some 38) rfl rfl Try.func10 (by kernel_rfl) rfl #[.agg #[.int .i64 a1_0, .int .i64 a1_1, .int .i64 a1_2, .slice A1_3 l1_3.length c1_3]] rfl Z6.z7 ?_; (with_reducible refine (laws_toMatrix.calls k a1_0 a1_1 a1_2 _ _ l1_3 t132 t133 t134 t135 _ ?side1 ?side2 A23.out).mono ?_); (case side1 => exact (by exact Kd.C_below HR1_3.out Z6.z28)); (case side2 => exact HC1_3.out); rintro e w57 ⟨v136, rfl, ho0, hb⟩; refine ⟨_, rfl, ?_⟩; have n0_ := Z6.k (Kd.R_elder' Z6.z63 (Kd.R_base ho0) hb); have n1_ := Z6.k (Kd.R_elder' Z6.z62 (Kd.R_base ho0) hb); have n2_ := Z6.k (Kd.R_elder' Z6.z61 (Kd.R_base ho0) hb); have n3_ := Z6.k (Kd.R_elder' Z6.z60 (Kd.R_base ho0) hb); have n4_ := Z6.k (Kd.R_lower (Kd.R_new' (Kd.R_new' (Kd.R_new' (Kd.R_new' ho0 (Kd.R_lt Z6.z63)) (Kd.R_lt Z6.z62)) (Kd.R_lt Z6.z61)) (Kd.R_lt Z6.z60)) (below_size Z6.z28)); have n5_ := Z6.k (Z6.bb BK101 (by (repeat (first | (with_reducible first | refine blk_drewN ?_ _ | refine blk_drew ?_ | refine blk_alloc ?_ _) | refine blk_far ?_ NB101_131.out _)); exact BK101.out) hb); have n6_ := Z6.k (Z6.bb BK102 (by (repeat (first | (with_reducible first | refine blk_drewN ?_ _ | refine blk_drew ?_ | refine blk_alloc ?_ _) | refine blk_far ?_ NB102_131.out _)); exact BK102.out) hb); have n7_ := Z6.k (Z6.bb BK124 (by (repeat (first | (with_reducible first | refine blk_drewN ?_ _ | refine blk_drew ?_ | refine blk_alloc ?_ _) | refine blk_far ?_ NB124_131.out _)); exact BK124.out) hb); have n8_ := Z6.k (blk_below (g := gb131) (o := .cells #[.int .i64 t125, .int .i64 t126, .int .i64 t127, .slice Ao54 t128.length co54] 28 (0, 0)) (by (with_reducible repeat (first | refine blk_drewN ?_ _ | refine blk_drew ?_ | refine blk_alloc ?_ _)); refine blk_put (cs := #[.int .i64 t125, .int .i64 t126, .int .i64 t127, .slice none 0 0]) ?_ 3 _ rfl; (with_reducible repeat (first | refine blk_drewN ?_ _ | refine blk_drew ?_ | refine blk_alloc ?_ _)); refine blk_put (cs := #[.int .i64 t125, .int .i64 t126, .int .i64 0, .slice none 0 0]) ?_ 2 _ rfl; (with_reducible repeat (first | refine blk_drewN ?_ _ | refine blk_drew ?_ | refine blk_alloc ?_ _)); refine blk_put (cs := #[.int .i64 t125, .int .i64 0, .int .i64 0, .slice none 0 0]) ?_ 1 _ rfl; (with_reducible repeat (first | refine blk_drewN ?_ _ | refine blk_drew ?_ | refine blk_alloc ?_ _)); refine blk_put (cs := #[.int .i64 0, .int .i64 0, .int .i64 0, .slice none 0 0]) ?_ 0 _ rfl; (with_reducible repeat (first | refine blk_drewN ?_ _ | refine blk_drew ?_ | refine blk_alloc ?_ _)); exact BK131.out) hb); have n9_ := Z6.k (below_step Z6.z28 hb); clear HO110 HO116 HO122 HO130 BK101 BK102 BK124 BK131 HB; have HO110 := n0_; have HO116 := n1_; have HO122 := n2_; have HO130 := n3_; have HO137 := n4_; have BK101 := n5_; have BK102 := n6_; have BK124 := n7_; have BK131 := n8_; have HB := n9_; clear n0_ n1_ n2_ n3_ n4_ n5_ n6_ n7_ n8_ n9_; (try clear hb); (try clear hb2); (try clear hk); (try clear hi); (try clear ho0)) | ((with_reducible refine gate_dst (N := 9) rfl ?_); refine box_event ?hg (N := 9) ?hd (cs := #[.int .i64 0, .int .i64 0, .int .i64 0, .slice none 0 0]) (t := 28) ?hr ?_; (case hd => rfl); (case hg => rfl); (case hr => first | (go_simp; done) | (go_simp; rfl)); intro gb138 hg w58 hbox hb; have n0_ := Z6.k (Kd.R_below Z6.z18 hb); have n1_ := Z6.k (Kd.R_below Z6.z29 hb); have n2_ := Z6.k (Kd.R_below Z6.z69 hb); have n3_ := Z6.k (Kd.R_below Z6.z78 hb); have n4_ := Z6.k (Kd.R_below Z6.z88 hb); have n5_ := Z6.k (Z6.bb BK101 Z6.z1 hb); have n6_ := Z6.k (Z6.bb BK102 Z6.z2 hb); have n7_ := Z6.k (Z6.bb BK124 Z6.z5 hb); have n8_ := Z6.k (Z6.bb BK131 Z6.z6 hb); have n9_ := Z6.k (below_step Z6.z28 hb); have n10_ := Z6.k (hbox); have n11_ := Z6.k (show w.heap.size ≤ gb138 from (by rw [hg]; exact (below_size Z6.z28))); have n12_ := Z6.k (show w.heap.size ≤ gb138 from (by rw [hg]; exact (below_size Z6.z28))); have n13_ := Z6.k (show gb101 ≠ gb138 from Z6.z76); have n14_ := Z6.k (show gb138 ≠ gb101 from Z6.z77); have n15_ := Z6.k (show gb102 ≠ gb138 from Z6.z85); have n16_ := Z6.k (show gb138 ≠ gb102 from Z6.z86); have n17_ := Z6.k (show gb124 ≠ gb138 from Z6.z103); have n18_ := Z6.k (show gb138 ≠ gb124 from Z6.z104); have n19_ := Z6.k (show gb131 ≠ gb138 from Z6.z124); have n20_ := Z6.k (show gb138 ≠ gb131 from Z6.z125); clear HO110 HO116 HO122 HO130 HO137 BK101 BK102 BK124 BK131 HB; have HO110 := n0_; have HO116 := n1_; have HO122 := n2_; have HO130 := n3_; have HO137 := n4_; have BK101 := n5_; have BK102 := n6_; have BK124 := n7_; have BK131 := n8_; have HB := n9_; have BK138 := n10_; have GW138 := n11_; have GE138 := n12_; have NB101_138 := n13_; have NB138_101 := n14_; have NB102_138 := n15_; have NB138_102 := n16_; have NB124_138 := n17_; have NB138_124 := n18_; have NB131_138 := n19_; have NB138_131 := n20_; clear n0_ n1_ n2_ n3_ n4_ n5_ n6_ n7_ n8_ n9_ n10_ n11_ n12_ n13_ n14_ n15_ n16_ n17_ n18_ n19_ n20_; clear hb hbox hg; have hnb59 := NB138_101.out; have hnc59 := NB101_138.out; have hnb60 := NB138_102.out; have hnc60 := NB102_138.out; have hnb61 := NB138_124.out; have hnc61 := NB124_138.out; have hnb62 := NB138_131.out; have hnc62 := NB131_138.out; have hcz63_0 : w58.cell? ⟨gb138, 0, none⟩ = some (.int .i64 0) := (blk_cell BK138.out 0).trans rfl; have hcz63_1 : w58.cell? ⟨gb138, 1, none⟩ = some (.int .i64 0) := (blk_cell BK138.out 1).trans rfl; have hcz63_2 : w58.cell? ⟨gb138, 2, none⟩ = some (.int .i64 0) := (blk_cell BK138.out 2).trans rfl; have hcz63_3 : w58.cell? ⟨gb138, 3, none⟩ = some (.slice none 0 0) := (blk_cell BK138.out 3).trans rfl; have hfz63_0 := blk_frozen BK138.out 0; have hfz63_1 := blk_frozen BK138.out 1; have hfz63_2 := blk_frozen BK138.out 2; have hfz63_3 := blk_frozen BK138.out 3; obtain ⟨Ao64, co64, eo64⟩ := Kd.R_slice HO137.out; subst eo64) | ((with_reducible refine gate_store (t := 28) (p := 9) rfl ?_); refine store_event (t := 28) (p := 9) (v := ?vo_w65) (w1 := ((((w58.setCell ⟨gb138, 0, none⟩ (.int .i64 t132)).setCell ⟨gb138, 1, none⟩ (.int .i64 t133)).setCell ⟨gb138, 2, none⟩ (.int .i64 t134)).setCell ⟨gb138, 3, none⟩ (.slice Ao64 t135.length co64))) ?hg ?ho ?hn ?hr ?_; (case ho => rfl); (case hg => rfl); (case hn => rfl); (case hr => first | (go_simp; done) | (go_simp; rfl)); intro w65 hw; have n0_ : Aside0 (Kd.R (Kd.int .i64) 2 w65 w.heap.size (fun k_ => some k_ ≠ (v115 : Value).ownBlock ∧ some k_ ≠ (.slice Ao44 t120.length co44 : Value).ownBlock ∧ some k_ ≠ (.slice Ao54 t128.length co54 : Value).ownBlock ∧ some k_ ≠ (.slice Ao64 t135.length co64 : Value).ownBlock) v109 t108) := ⟨(by rw [hw]; exact (by (with_reducible repeat (first | apply Kd.R_alloc | apply Kd.R_drewN | apply Kd.R_drew)); exact Kd.R_mono (Kd.R_far (p := ⟨gb138, 3, none⟩) (Kd.R_far (p := ⟨gb138, 2, none⟩) (Kd.R_far (p := ⟨gb138, 1, none⟩) (Kd.R_far (p := ⟨gb138, 0, none⟩) (Kd.R_types HO110.out BK138.out (by decide)) (fun _ hk => hk.2) (.int .i64 t132)) (fun _ hk => hk.2) (.int .i64 t133)) (fun _ hk => hk.2) (.int .i64 t134)) (fun _ hk => hk.2) (.slice Ao64 t135.length co64)) (fun _ hk => ⟨hk.1.1.1.1, ⟨hk.1.1.1.2, ⟨hk.1.1.2, hk.1.2⟩⟩⟩)))⟩; have n1_ : Aside0 (Kd.R (Kd.int .i64) 2 w65 w.heap.size (fun k_ => some k_ ≠ (v109 : Value).ownBlock ∧ some k_ ≠ (.slice Ao44 t120.length co44 : Value).ownBlock ∧ some k_ ≠ (.slice Ao54 t128.length co54 : Value).ownBlock ∧ some k_ ≠ (.slice Ao64 t135.length co64 : Value).ownBlock) v115 t114) := ⟨(by rw [hw]; exact (by (with_reducible repeat (first | apply Kd.R_alloc | apply Kd.R_drewN | apply Kd.R_drew)); exact Kd.R_mono (Kd.R_far (p := ⟨gb138, 3, none⟩) (Kd.R_far (p := ⟨gb138, 2, none⟩) (Kd.R_far (p := ⟨gb138, 1, none⟩) (Kd.R_far (p := ⟨gb138, 0, none⟩) (Kd.R_types HO116.out BK138.out (by decide)) (fun _ hk => hk.2) (.int .i64 t132)) (fun _ hk => hk.2) (.int .i64 t133)) (fun _ hk => hk.2) (.int .i64 t134)) (fun _ hk => hk.2) (.slice Ao64 t135.length co64)) (fun _ hk => ⟨hk.1.1.1.1, ⟨hk.1.1.1.2, ⟨hk.1.1.2, hk.1.2⟩⟩⟩)))⟩; have n2_ : Aside0 (Kd.R (Kd.int .i64) 2 w65 w.heap.size (fun k_ => some k_ ≠ (v109 : Value).ownBlock ∧ some k_ ≠ (v115 : Value).ownBlock ∧ some k_ ≠ (.slice Ao54 t128.length co54 : Value).ownBlock ∧ some k_ ≠ (.slice Ao64 t135.length co64 : Value).ownBlock) (.slice Ao44 t120.length co44) t120) := ⟨(by rw [hw]; exact (by (with_reducible repeat (first | apply Kd.R_alloc | apply Kd.R_drewN | apply Kd.R_drew)); exact Kd.R_mono (Kd.R_far (p := ⟨gb138, 3, none⟩) (Kd.R_far (p := ⟨gb138, 2, none⟩) (Kd.R_far (p := ⟨gb138, 1, none⟩) (Kd.R_far (p := ⟨gb138, 0, none⟩) (Kd.R_types HO122.out BK138.out (by decide)) (fun _ hk => hk.2) (.int .i64 t132)) (fun _ hk => hk.2) (.int .i64 t133)) (fun _ hk => hk.2) (.int .i64 t134)) (fun _ hk => hk.2) (.slice Ao64 t135.length co64)) (fun _ hk => ⟨hk.1.1.1.1, ⟨hk.1.1.1.2, ⟨hk.1.1.2, hk.1.2⟩⟩⟩)))⟩; have n3_ : Aside0 (Kd.R (Kd.int .i64) 2 w65 w.heap.size (fun k_ => some k_ ≠ (v109 : Value).ownBlock ∧ some k_ ≠ (v115 : Value).ownBlock ∧ some k_ ≠ (.slice Ao44 t120.length co44 : Value).ownBlock ∧ some k_ ≠ (.slice Ao64 t135.length co64 : Value).ownBlock) (.slice Ao54 t128.length co54) t128) := ⟨(by rw [hw]; exact (by (with_reducible repeat (first | apply Kd.R_alloc | apply Kd.R_drewN | apply Kd.R_drew)); exact Kd.R_mono (Kd.R_far (p := ⟨gb138, 3, none⟩) (Kd.R_far (p := ⟨gb138, 2, none⟩) (Kd.R_far (p := ⟨gb138, 1, none⟩) (Kd.R_far (p := ⟨gb138, 0, none⟩) (Kd.R_types HO130.out BK138.out (by decide)) (fun _ hk => hk.2) (.int .i64 t132)) (fun _ hk => hk.2) (.int .i64 t133)) (fun _ hk => hk.2) (.int .i64 t134)) (fun _ hk => hk.2) (.slice Ao64 t135.length co64)) (fun _ hk => ⟨hk.1.1.1.1.2, ⟨hk.1.1.1.2, ⟨hk.1.1.2, hk.1.2⟩⟩⟩)))⟩; have n4_ : Aside0 (Kd.R (Kd.int .i64) 2 w65 w.heap.size (fun k_ => some k_ ≠ (v109 : Value).ownBlock ∧ some k_ ≠ (v115 : Value).ownBlock ∧ some k_ ≠ (.slice Ao44 t120.length co44 : Value).ownBlock ∧ some k_ ≠ (.slice Ao54 t128.length co54 : Value).ownBlock) (.slice Ao64 t135.length co64) t135) := ⟨(by rw [hw]; exact (by (with_reducible repeat (first | apply Kd.R_alloc | apply Kd.R_drewN | apply Kd.R_drew)); exact Kd.R_mono (Kd.R_far (p := ⟨gb138, 3, none⟩) (Kd.R_far (p := ⟨gb138, 2, none⟩) (Kd.R_far (p := ⟨gb138, 1, none⟩) (Kd.R_far (p := ⟨gb138, 0, none⟩) (Kd.R_types HO137.out BK138.out (by decide)) (fun _ hk => hk.2) (.int .i64 t132)) (fun _ hk => hk.2) (.int .i64 t133)) (fun _ hk => hk.2) (.int .i64 t134)) (fun _ hk => hk.2) (.slice Ao64 t135.length co64)) (fun _ hk => ⟨hk.1.1.1.1.2, ⟨hk.1.1.1.2, ⟨hk.1.1.2, hk.1.2⟩⟩⟩)))⟩; have n5_ : Aside0 (w65.heap[gb101]? = some (.cells #[.int .i64 a0_0, .int .i64 a0_1, .int .i64 a0_2, .slice A0_3 l0_3.length c0_3] 24 (0, 0))) := ⟨(by rw [hw]; exact (by (repeat (first | (with_reducible first | refine blk_drewN ?_ _ | refine blk_drew ?_ | refine blk_alloc ?_ _) | refine blk_far ?_ NB101_138.out _)); exact BK101.out))⟩; have n6_ : Aside0 (w65.heap[gb102]? = some (.cells #[.int .i64 a1_0, .int .i64 a1_1, .int .i64 a1_2, .slice A1_3 l1_3.length c1_3] 24 (0, 0))) := ⟨(by rw [hw]; exact (by (repeat (first | (with_reducible first | refine blk_drewN ?_ _ | refine blk_drew ?_ | refine blk_alloc ?_ _) | refine blk_far ?_ NB102_138.out _)); exact BK102.out))⟩; have n7_ : Aside0 (w65.heap[gb124]? = some (.cells #[.int .i64 t117, .int .i64 t118, .int .i64 t119, .slice Ao44 t120.length co44] 28 (0, 0))) := ⟨(by rw [hw]; exact (by (repeat (first | (with_reducible first | refine blk_drewN ?_ _ | refine blk_drew ?_ | refine blk_alloc ?_ _) | refine blk_far ?_ NB124_138.out _)); exact BK124.out))⟩; have n8_ : Aside0 (w65.heap[gb131]? = some (.cells #[.int .i64 t125, .int .i64 t126, .int .i64 t127, .slice Ao54 t128.length co54] 28 (0, 0))) := ⟨(by rw [hw]; exact (by (repeat (first | (with_reducible first | refine blk_drewN ?_ _ | refine blk_drew ?_ | refine blk_alloc ?_ _) | refine blk_far ?_ NB131_138.out _)); exact BK131.out))⟩; have n9_ : Aside0 (w65.heap[gb138]? = some (.cells #[.int .i64 t132, .int .i64 t133, .int .i64 t134, .slice Ao64 t135.length co64] 28 (0, 0))) := ⟨(by rw [hw]; exact (by (with_reducible repeat (first | refine blk_drewN ?_ _ | refine blk_drew ?_ | refine blk_alloc ?_ _)); refine blk_put (cs := #[.int .i64 t132, .int .i64 t133, .int .i64 t134, .slice none 0 0]) ?_ 3 _ rfl; (with_reducible repeat (first | refine blk_drewN ?_ _ | refine blk_drew ?_ | refine blk_alloc ?_ _)); refine blk_put (cs := #[.int .i64 t132, .int .i64 t133, .int .i64 0, .slice none 0 0]) ?_ 2 _ rfl; (with_reducible repeat (first | refine blk_drewN ?_ _ | refine blk_drew ?_ | refine blk_alloc ?_ _)); refine blk_put (cs := #[.int .i64 t132, .int .i64 0, .int .i64 0, .slice none 0 0]) ?_ 1 _ rfl; (with_reducible repeat (first | refine blk_drewN ?_ _ | refine blk_drew ?_ | refine blk_alloc ?_ _)); refine blk_put (cs := #[.int .i64 0, .int .i64 0, .int .i64 0, .slice none 0 0]) ?_ 0 _ rfl; (with_reducible repeat (first | refine blk_drewN ?_ _ | refine blk_drew ?_ | refine blk_alloc ?_ _)); exact BK138.out))⟩; have n10_ : Aside0 (Below w.heap.size w w65) := ⟨(by rw [hw]; exact Z6.z22)⟩; clear hw HO110 HO116 HO122 HO130 HO137 BK101 BK102 BK124 BK131 BK138 HB; have HO110 := n0_; have HO116 := n1_; have HO122 := n2_; have HO130 := n3_; have HO137 := n4_; have BK101 := n5_; have BK102 := n6_; have BK124 := n7_; have BK131 := n8_; have BK138 := n9_; have HB := n10_; clear n0_ n1_ n2_ n3_ n4_ n5_ n6_ n7_ n8_ n9_ n10_; have hcz66_0 : w65.cell? ⟨gb131, 0, none⟩ = some (.int .i64 t125) := (blk_cell BK131.out 0).trans rfl; have hcz66_1 : w65.cell? ⟨gb131, 1, none⟩ = some (.int .i64 t126) := (blk_cell BK131.out 1).trans rfl; have hcz66_2 : w65.cell? ⟨gb131, 2, none⟩ = some (.int .i64 t127) := (blk_cell BK131.out 2).trans rfl; have hcz66_3 : w65.cell? ⟨gb131, 3, none⟩ = some (.slice Ao54 t128.length co54) := (blk_cell BK131.out 3).trans rfl; have hfz66_0 := blk_frozen BK131.out 0; have hfz66_1 := blk_frozen BK131.out 1; have hfz66_2 := blk_frozen BK131.out 2; have hfz66_3 := blk_frozen BK131.out 3; have hcz67_0 : w65.cell? ⟨gb138, 0, none⟩ = some (.int .i64 t132) := (blk_cell BK138.out 0).trans rfl; have hcz67_1 : w65.cell? ⟨gb138, 1, none⟩ = some (.int .i64 t133) := (blk_cell BK138.out 1).trans rfl; have hcz67_2 : w65.cell? ⟨gb138, 2, none⟩ = some (.int .i64 t134) := (blk_cell BK138.out 2).trans rfl; have hcz67_3 : w65.cell? ⟨gb138, 3, none⟩ = some (.slice Ao64 t135.length co64) := (blk_cell BK138.out 3).trans rfl; have hfz67_0 := blk_frozen BK138.out 0; have hfz67_1 := blk_frozen BK138.out 1; have hfz67_2 := blk_frozen BK138.out 2; have hfz67_3 := blk_frozen BK138.out 3) | ((with_reducible refine gate_callee (f := 20) rfl ?_); refine goesL_ (some 42) rfl rfl Try.func20 (by kernel_rfl) rfl #[.agg #[.int .i64 t125, .int .i64 t126, .int .i64 t127, .slice Ao54 t128.length co54], .agg #[.int .i64 t132, .int .i64 t133, .int .i64 t134, .slice Ao64 t135.length co64]] rfl Z6.z7 ?_; (with_reducible refine (impl_StackRows.calls k t125 t126 t127 (fun k_ => some k_ = (.slice Ao54 t128.length co54 : Value).ownBlock) _ _ t128 t132 t133 t134 (fun k_ => some k_ = (.slice Ao64 t135.length co64 : Value).ownBlock) _ _ t135 t139 t140 t141 t142 t145 _ ?side1 ?side2 A24.out).mono ?_); (case side1 => exact (by exact Kd.R_V (Kd.R_tight rfl (Kd.R_types (Kd.R_types (Kd.R_types (Kd.R_types (Kd.R_types (HO130.out) BK101.out (by decide)) BK102.out (by decide)) BK124.out (by decide)) BK131.out (by decide)) BK138.out (by decide))))); (case side2 => exact (by exact Kd.R_V (Kd.R_tight rfl (Kd.R_types (Kd.R_types (Kd.R_types (Kd.R_types (Kd.R_types (HO137.out) BK101.out (by decide)) BK102.out (by decide)) BK124.out (by decide)) BK131.out (by decide)) BK138.out (by decide))))); rintro e w68 ⟨v143, rfl, ho0, hb⟩; refine ⟨_, rfl, ?_⟩; have n0_ := Z6.k (Kd.R_elder' Z6.z18 (Kd.R_base ho0) hb); have n1_ := Z6.k (Kd.R_elder' Z6.z29 (Kd.R_base ho0) hb); have n2_ := Z6.k (Kd.R_elder' Z6.z69 (Kd.R_base ho0) hb); have n3_ := Z6.k (Kd.R_elder' Z6.z78 (Kd.R_base ho0) hb); have n4_ := Z6.k (Kd.R_elder' Z6.z88 (Kd.R_base ho0) hb); have n5_ := Z6.k (Kd.R_lower (Kd.R_new' (Kd.R_new' (Kd.R_new' (Kd.R_new' (Kd.R_new' (Kd.R_mono (ok' := fun k_ => True) ho0 (fun _ hk_ => trivial)) (Kd.R_lt Z6.z18)) (Kd.R_lt Z6.z29)) (Kd.R_lt Z6.z69)) (Kd.R_lt Z6.z78)) (Kd.R_lt Z6.z88)) (below_size Z6.z22)); have n6_ := Z6.k (Z6.bb BK101 Z6.z1 hb); have n7_ := Z6.k (Z6.bb BK102 Z6.z2 hb); have n8_ := Z6.k (Z6.bb BK124 Z6.z5 hb); have n9_ := Z6.k (Z6.bb BK131 Z6.z6 hb); have n10_ := Z6.k (Z6.bb BK138 Z6.z8 hb); have n11_ := Z6.k (below_step Z6.z22 hb); clear HO110 HO116 HO122 HO130 HO137 BK101 BK102 BK124 BK131 BK138 HB; have HO110 := n0_; have HO116 := n1_; have HO122 := n2_; have HO130 := n3_; have HO137 := n4_; have HO144 := n5_; have BK101 := n6_; have BK102 := n7_; have BK124 := n8_; have BK131 := n9_; have BK138 := n10_; have HB := n11_; clear n0_ n1_ n2_ n3_ n4_ n5_ n6_ n7_ n8_ n9_ n10_ n11_; (try clear hb); (try clear hb2); (try clear hk); (try clear hi); (try clear ho0)) | ((with_reducible refine gate_dst (N := 10) rfl ?_); refine box_event ?hg (N := 10) ?hd (cs := #[.int .i64 0, .int .i64 0, .int .i64 0, .slice none 0 0]) (t := 28) ?hr ?_; (case hd => rfl); (case hg => rfl); (case hr => first | (go_simp; done) | (go_simp; rfl)); intro gb146 hg w69 hbox hb; have n0_ := Z6.k (Kd.R_below Z6.z18 hb); have n1_ := Z6.k (Kd.R_below Z6.z29 hb); have n2_ := Z6.k (Kd.R_below Z6.z69 hb); have n3_ := Z6.k (Kd.R_below Z6.z78 hb); have n4_ := Z6.k (Kd.R_below Z6.z88 hb); have n5_ := Z6.k (Kd.R_below (by (with_reducible repeat (first | apply Kd.R_alloc | apply Kd.R_drewN | apply Kd.R_drew)); exact HO144.out) hb); have n6_ := Z6.k (Z6.bb BK101 Z6.z1 hb); have n7_ := Z6.k (Z6.bb BK102 Z6.z2 hb); have n8_ := Z6.k (Z6.bb BK124 Z6.z5 hb); have n9_ := Z6.k (Z6.bb BK131 Z6.z6 hb); have n10_ := Z6.k (Z6.bb BK138 Z6.z8 hb); have n11_ := Z6.k (below_step Z6.z22 hb); have n12_ := Z6.k (hbox); have n13_ := Z6.k (show w.heap.size ≤ gb146 from (by rw [hg]; exact (below_size Z6.z22))); have n14_ := Z6.k (show w.heap.size ≤ gb146 from (by rw [hg]; exact (below_size Z6.z22))); have n15_ := Z6.k (show gb101 ≠ gb146 from Z6.z76); have n16_ := Z6.k (show gb146 ≠ gb101 from Z6.z77); have n17_ := Z6.k (show gb102 ≠ gb146 from Z6.z85); have n18_ := Z6.k (show gb146 ≠ gb102 from Z6.z86); have n19_ := Z6.k (show gb124 ≠ gb146 from Z6.z103); have n20_ := Z6.k (show gb146 ≠ gb124 from Z6.z104); have n21_ := Z6.k (show gb131 ≠ gb146 from Z6.z124); have n22_ := Z6.k (show gb146 ≠ gb131 from Z6.z125); have n23_ := Z6.k (show gb138 ≠ gb146 from (by rw [hg]; exact Nat.ne_of_lt (Z6.bl BK138 Z6.z8))); have n24_ := Z6.k (show gb146 ≠ gb138 from (by rw [hg]; exact Nat.ne_of_gt (Z6.bl BK138 Z6.z8))); clear HO110 HO116 HO122 HO130 HO137 HO144 BK101 BK102 BK124 BK131 BK138 HB; have HO110 := n0_; have HO116 := n1_; have HO122 := n2_; have HO130 := n3_; have HO137 := n4_; have HO144 := n5_; have BK101 := n6_; have BK102 := n7_; have BK124 := n8_; have BK131 := n9_; have BK138 := n10_; have HB := n11_; have BK146 := n12_; have GW146 := n13_; have GE146 := n14_; have NB101_146 := n15_; have NB146_101 := n16_; have NB102_146 := n17_; have NB146_102 := n18_; have NB124_146 := n19_; have NB146_124 := n20_; have NB131_146 := n21_; have NB146_131 := n22_; have NB138_146 := n23_; have NB146_138 := n24_; clear n0_ n1_ n2_ n3_ n4_ n5_ n6_ n7_ n8_ n9_ n10_ n11_ n12_ n13_ n14_ n15_ n16_ n17_ n18_ n19_ n20_ n21_ n22_ n23_ n24_; clear hb hbox hg; have hnb70 := NB146_101.out; have hnc70 := NB101_146.out; have hnb71 := NB146_102.out; have hnc71 := NB102_146.out; have hnb72 := NB146_124.out; have hnc72 := NB124_146.out; have hnb73 := NB146_131.out; have hnc73 := NB131_146.out; have hnb74 := NB146_138.out; have hnc74 := NB138_146.out; have hcz75_0 : w69.cell? ⟨gb146, 0, none⟩ = some (.int .i64 0) := (blk_cell BK146.out 0).trans rfl; have hcz75_1 : w69.cell? ⟨gb146, 1, none⟩ = some (.int .i64 0) := (blk_cell BK146.out 1).trans rfl; have hcz75_2 : w69.cell? ⟨gb146, 2, none⟩ = some (.int .i64 0) := (blk_cell BK146.out 2).trans rfl; have hcz75_3 : w69.cell? ⟨gb146, 3, none⟩ = some (.slice none 0 0) := (blk_cell BK146.out 3).trans rfl; have hfz75_0 := blk_frozen BK146.out 0; have hfz75_1 := blk_frozen BK146.out 1; have hfz75_2 := blk_frozen BK146.out 2; have hfz75_3 := blk_frozen BK146.out 3; obtain ⟨Ao76, co76, eo76⟩ := Kd.R_slice HO144.out; subst eo76))
 (try simp only [Act.put, List.setIfInBounds_toArray, List.set_cons_zero, List.set_cons_succ])
 go_cut [53] (fun v53 wc => ∃ (kq : Nat) (x53_24 : Bool), v53 = .bool x53_24 ∧ Aside0 (laws_FnExactStackRows.j0 kq t123 t145 x53_24 a0_0 a0_1 a0_2 l0_3 a1_0 a1_1 a1_2 l1_3 t117 t118 t119 t120 t125 t126 t127 t128 t132 t133 t134 t135 t139 t140 t141 t142 = some r) ∧ Aside0 (kq ≤ k) ∧ Aside0 (Kd.R (Kd.int .i64) 2 wc w.heap.size (fun k_ => some k_ ≠ ((.slice Ao54 t128.length co54) : Value).ownBlock ∧ some k_ ≠ ((.slice Ao64 t135.length co64) : Value).ownBlock ∧ some k_ ≠ ((.slice Ao76 t142.length co76) : Value).ownBlock) (.slice Ao44 t120.length co44) t120) ∧ Aside0 (Kd.R (Kd.int .i64) 2 wc w.heap.size (fun k_ => some k_ ≠ ((.slice Ao44 t120.length co44) : Value).ownBlock ∧ some k_ ≠ ((.slice Ao64 t135.length co64) : Value).ownBlock ∧ some k_ ≠ ((.slice Ao76 t142.length co76) : Value).ownBlock) (.slice Ao54 t128.length co54) t128) ∧ Aside0 (Kd.R (Kd.int .i64) 2 wc w.heap.size (fun k_ => some k_ ≠ ((.slice Ao44 t120.length co44) : Value).ownBlock ∧ some k_ ≠ ((.slice Ao54 t128.length co54) : Value).ownBlock ∧ some k_ ≠ ((.slice Ao76 t142.length co76) : Value).ownBlock) (.slice Ao64 t135.length co64) t135) ∧ Aside0 (Kd.R (Kd.int .i64) 2 wc w.heap.size (fun k_ => some k_ ≠ ((.slice Ao44 t120.length co44) : Value).ownBlock ∧ some k_ ≠ ((.slice Ao54 t128.length co54) : Value).ownBlock ∧ some k_ ≠ ((.slice Ao64 t135.length co64) : Value).ownBlock) (.slice Ao76 t142.length co76) t142) ∧ Aside0 (wc.heap[gb101]? = some (.cells #[.int .i64 a0_0, .int .i64 a0_1, .int .i64 a0_2, (.slice A0_3 l0_3.length c0_3)] 24 (0, 0))) ∧ Aside0 (wc.heap[gb102]? = some (.cells #[.int .i64 a1_0, .int .i64 a1_1, .int .i64 a1_2, (.slice A1_3 l1_3.length c1_3)] 24 (0, 0))) ∧ Aside0 (wc.heap[gb124]? = some (.cells #[.int .i64 t117, .int .i64 t118, .int .i64 t119, (.slice Ao44 t120.length co44)] 28 (0, 0))) ∧ Aside0 (wc.heap[gb131]? = some (.cells #[.int .i64 t125, .int .i64 t126, .int .i64 t127, (.slice Ao54 t128.length co54)] 28 (0, 0))) ∧ Aside0 (wc.heap[gb138]? = some (.cells #[.int .i64 t132, .int .i64 t133, .int .i64 t134, (.slice Ao64 t135.length co64)] 28 (0, 0))) ∧ Aside0 (wc.heap[gb146]? = some (.cells #[.int .i64 t139, .int .i64 t140, .int .i64 t141, (.slice Ao76 t142.length co76)] 28 (0, 0))) ∧ Aside0 (Below w.heap.size w wc))
 case first =>
  have H := HC25.out
  clear HC25
  replace H := Option.bind_eq_some_iff.mp H
  obtain ⟨t147, A770, H⟩ := H
  replace H : (if t147 = true then (laws_FnExactStackRows.j0 k t123 t145 (t145 != t123) a0_0 a0_1 a0_2 l0_3 a1_0 a1_1 a1_2 l1_3 t117 t118 t119 t120 t125 t126 t127 t128 t132 t133 t134 t135 t139 t140 t141 t142) else (laws_FnExactStackRows.j0 k t123 t145 true a0_0 a0_1 a0_2 l0_3 a1_0 a1_1 a1_2 l1_3 t117 t118 t119 t120 t125 t126 t127 t128 t132 t133 t134 t135 t139 t140 t141 t142)) = some r := H
  have A77 := Z6.k A770
  clear A770
  by_cases c78 : t147 = true
  ·subst c78
   have H1 : (laws_FnExactStackRows.j0 k t123 t145 (t145 != t123) a0_0 a0_1 a0_2 l0_3 a1_0 a1_1 a1_2 l1_3 t117 t118 t119 t120 t125 t126 t127 t128 t132 t133 t134 t135 t139 t140 t141 t142) = some r := by rw [if_pos rfl] at H; exact H
   clear H
   have H := H1
   clear H1
   have H' := Z6.k H
   clear H
   have hnb79 := NB146_101.out
   have hnc79 := NB101_146.out
   have hnb80 := NB146_102.out
   have hnc80 := NB102_146.out
   have hnb81 := NB146_124.out
   have hnc81 := NB124_146.out
   have hnb82 := NB146_131.out
   have hnc82 := NB131_146.out
   have hnb83 := NB146_138.out
   have hnc83 := NB138_146.out
   have hcz84_0 : w69.cell? ⟨gb146, 0, none⟩ = some (.int .i64 0) := (blk_cell BK146.out 0).trans rfl
   have hcz84_1 : w69.cell? ⟨gb146, 1, none⟩ = some (.int .i64 0) := (blk_cell BK146.out 1).trans rfl
   have hcz84_2 : w69.cell? ⟨gb146, 2, none⟩ = some (.int .i64 0) := (blk_cell BK146.out 2).trans rfl
   have hcz84_3 : w69.cell? ⟨gb146, 3, none⟩ = some (.slice none 0 0) := (blk_cell BK146.out 3).trans rfl
   have hfz84_0 := blk_frozen BK146.out 0
   have hfz84_1 := blk_frozen BK146.out 1
   have hfz84_2 := blk_frozen BK146.out 2
   have hfz84_3 := blk_frozen BK146.out 3
   have hnb85 := NB124_101.out
   have hnc85 := NB101_124.out
   have hnb86 := NB124_102.out
   have hnc86 := NB102_124.out
   have hnb87 := NB124_131.out
   have hnc87 := NB131_124.out
   have hnb88 := NB124_138.out
   have hnc88 := NB138_124.out
   have hcz89_0 : w69.cell? ⟨gb124, 0, none⟩ = some (.int .i64 t117) := (blk_cell BK124.out 0).trans rfl
   have hcz89_1 : w69.cell? ⟨gb124, 1, none⟩ = some (.int .i64 t118) := (blk_cell BK124.out 1).trans rfl
   have hcz89_2 : w69.cell? ⟨gb124, 2, none⟩ = some (.int .i64 t119) := (blk_cell BK124.out 2).trans rfl
   have hcz89_3 : w69.cell? ⟨gb124, 3, none⟩ = some (.slice Ao44 t120.length co44) := (blk_cell BK124.out 3).trans rfl
   have hfz89_0 := blk_frozen BK124.out 0
   have hfz89_1 := blk_frozen BK124.out 1
   have hfz89_2 := blk_frozen BK124.out 2
   have hfz89_3 := blk_frozen BK124.out 3
   go_wp2_with (first | ((with_reducible refine gate_callee (f := 12) rfl ?_); refine goesL_ (some 47) rfl rfl Try.func12 (by kernel_rfl) rfl #[.agg #[.int .i64 t139, .int .i64 t140, .int .i64 t141, .slice Ao76 t142.length co76], .agg #[.int .i64 t117, .int .i64 t118, .int .i64 t119, .slice Ao44 t120.length co44]] rfl Z6.z7 ?_; (with_reducible refine (laws_eqMatrix.calls k t139 t140 t141 _ _ t142 t117 t118 t119 _ _ t120 true _ ?side1 ?side2 ?side3 ?side4 A77.out).mono ?_); (case side1 => exact Z6.z71); (case side2 => exact (Kd.R_reads' HO144.out).2.1); (case side3 => exact Z6.z75); (case side4 => exact (Kd.R_reads' HO122.out).2.1); rintro e w90 ⟨rfl, hb⟩; refine ⟨_, rfl, ?_⟩; have n0_ := Z6.k (Kd.R_below Z6.z59 hb); have n1_ := Z6.k (Kd.R_below Z6.z58 hb); have n2_ := Z6.k (Kd.R_below Z6.z25 hb); have n3_ := Z6.k (Kd.R_below Z6.z57 hb); have n4_ := Z6.k (Kd.R_below Z6.z56 hb); have n5_ := Z6.k (Kd.R_below Z6.z24 hb); have n6_ := Z6.k (Z6.bb BK101 Z6.z118 hb); have n7_ := Z6.k (Z6.bb BK102 Z6.z116 hb); have n8_ := Z6.k (Z6.bb BK124 Z6.z114 hb); have n9_ := Z6.k (Z6.bb BK131 Z6.z112 hb); have n10_ := Z6.k (Z6.bb BK138 Z6.z110 hb); have n11_ := Z6.k (blk_below (g := gb146) (o := .cells #[.int .i64 t139, .int .i64 t140, .int .i64 t141, .slice Ao76 t142.length co76] 28 (0, 0)) Z6.z34 hb); have n12_ := Z6.k (below_step Z6.z0 hb); clear HO110 HO116 HO122 HO130 HO137 HO144 BK101 BK102 BK124 BK131 BK138 BK146 HB; have HO110 := n0_; have HO116 := n1_; have HO122 := n2_; have HO130 := n3_; have HO137 := n4_; have HO144 := n5_; have BK101 := n6_; have BK102 := n7_; have BK124 := n8_; have BK131 := n9_; have BK138 := n10_; have BK146 := n11_; have HB := n12_; clear n0_ n1_ n2_ n3_ n4_ n5_ n6_ n7_ n8_ n9_ n10_ n11_ n12_; (try clear hb); (try clear hb2); (try clear hk); (try clear hi)))
   go_meet
   case rel => exact ⟨_, ((t145 != t123)), Z6.z122, H', ⟨(by first | omega | exact Nat.le_refl _)⟩, ⟨Z6.z121⟩, ⟨Z6.z120⟩, ⟨Z6.z119⟩, ⟨Z6.z123⟩, ⟨Z6.z1⟩, ⟨Z6.z2⟩, ⟨Z6.z5⟩, ⟨Z6.z6⟩, ⟨Z6.z8⟩, ⟨Z6.z9⟩, ⟨Z6.z0⟩⟩
  replace c78 := Bool.eq_false_iff.mpr c78
  subst c78
  have H1 : (laws_FnExactStackRows.j0 k t123 t145 true a0_0 a0_1 a0_2 l0_3 a1_0 a1_1 a1_2 l1_3 t117 t118 t119 t120 t125 t126 t127 t128 t132 t133 t134 t135 t139 t140 t141 t142) = some r := by rw [if_neg (show ¬ (false = true) by decide)] at H; exact H
  clear H
  have H := H1
  clear H1
  have H' := Z6.k H
  clear H
  have hnb91 := NB146_101.out
  have hnc91 := NB101_146.out
  have hnb92 := NB146_102.out
  have hnc92 := NB102_146.out
  have hnb93 := NB146_124.out
  have hnc93 := NB124_146.out
  have hnb94 := NB146_131.out
  have hnc94 := NB131_146.out
  have hnb95 := NB146_138.out
  have hnc95 := NB138_146.out
  have hcz96_0 : w69.cell? ⟨gb146, 0, none⟩ = some (.int .i64 0) := (blk_cell BK146.out 0).trans rfl
  have hcz96_1 : w69.cell? ⟨gb146, 1, none⟩ = some (.int .i64 0) := (blk_cell BK146.out 1).trans rfl
  have hcz96_2 : w69.cell? ⟨gb146, 2, none⟩ = some (.int .i64 0) := (blk_cell BK146.out 2).trans rfl
  have hcz96_3 : w69.cell? ⟨gb146, 3, none⟩ = some (.slice none 0 0) := (blk_cell BK146.out 3).trans rfl
  have hfz96_0 := blk_frozen BK146.out 0
  have hfz96_1 := blk_frozen BK146.out 1
  have hfz96_2 := blk_frozen BK146.out 2
  have hfz96_3 := blk_frozen BK146.out 3
  have hnb97 := NB124_101.out
  have hnc97 := NB101_124.out
  have hnb98 := NB124_102.out
  have hnc98 := NB102_124.out
  have hnb99 := NB124_131.out
  have hnc99 := NB131_124.out
  have hnb100 := NB124_138.out
  have hnc100 := NB138_124.out
  have hcz101_0 : w69.cell? ⟨gb124, 0, none⟩ = some (.int .i64 t117) := (blk_cell BK124.out 0).trans rfl
  have hcz101_1 : w69.cell? ⟨gb124, 1, none⟩ = some (.int .i64 t118) := (blk_cell BK124.out 1).trans rfl
  have hcz101_2 : w69.cell? ⟨gb124, 2, none⟩ = some (.int .i64 t119) := (blk_cell BK124.out 2).trans rfl
  have hcz101_3 : w69.cell? ⟨gb124, 3, none⟩ = some (.slice Ao44 t120.length co44) := (blk_cell BK124.out 3).trans rfl
  have hfz101_0 := blk_frozen BK124.out 0
  have hfz101_1 := blk_frozen BK124.out 1
  have hfz101_2 := blk_frozen BK124.out 2
  have hfz101_3 := blk_frozen BK124.out 3
  go_wp2_with (first | ((with_reducible refine gate_callee (f := 12) rfl ?_); refine goesL_ (some 47) rfl rfl Try.func12 (by kernel_rfl) rfl #[.agg #[.int .i64 t139, .int .i64 t140, .int .i64 t141, .slice Ao76 t142.length co76], .agg #[.int .i64 t117, .int .i64 t118, .int .i64 t119, .slice Ao44 t120.length co44]] rfl Z6.z7 ?_; (with_reducible refine (laws_eqMatrix.calls k t139 t140 t141 _ _ t142 t117 t118 t119 _ _ t120 false _ ?side1 ?side2 ?side3 ?side4 A77.out).mono ?_); (case side1 => exact Z6.z71); (case side2 => exact (Kd.R_reads' HO144.out).2.1); (case side3 => exact Z6.z75); (case side4 => exact (Kd.R_reads' HO122.out).2.1); rintro e w102 ⟨rfl, hb⟩; refine ⟨_, rfl, ?_⟩; have n0_ := Z6.k (Kd.R_below Z6.z59 hb); have n1_ := Z6.k (Kd.R_below Z6.z58 hb); have n2_ := Z6.k (Kd.R_below Z6.z25 hb); have n3_ := Z6.k (Kd.R_below Z6.z57 hb); have n4_ := Z6.k (Kd.R_below Z6.z56 hb); have n5_ := Z6.k (Kd.R_below Z6.z24 hb); have n6_ := Z6.k (Z6.bb BK101 Z6.z118 hb); have n7_ := Z6.k (Z6.bb BK102 Z6.z116 hb); have n8_ := Z6.k (Z6.bb BK124 Z6.z114 hb); have n9_ := Z6.k (Z6.bb BK131 Z6.z112 hb); have n10_ := Z6.k (Z6.bb BK138 Z6.z110 hb); have n11_ := Z6.k (blk_below (g := gb146) (o := .cells #[.int .i64 t139, .int .i64 t140, .int .i64 t141, .slice Ao76 t142.length co76] 28 (0, 0)) Z6.z34 hb); have n12_ := Z6.k (below_step Z6.z0 hb); clear HO110 HO116 HO122 HO130 HO137 HO144 BK101 BK102 BK124 BK131 BK138 BK146 HB; have HO110 := n0_; have HO116 := n1_; have HO122 := n2_; have HO130 := n3_; have HO137 := n4_; have HO144 := n5_; have BK101 := n6_; have BK102 := n7_; have BK124 := n8_; have BK131 := n9_; have BK138 := n10_; have BK146 := n11_; have HB := n12_; clear n0_ n1_ n2_ n3_ n4_ n5_ n6_ n7_ n8_ n9_ n10_ n11_ n12_; (try clear hb); (try clear hb2); (try clear hk); (try clear hi)))
  go_meet
  case rel => exact ⟨_, (true), Z6.z122, H', ⟨(by first | omega | exact Nat.le_refl _)⟩, ⟨Z6.z121⟩, ⟨Z6.z120⟩, ⟨Z6.z119⟩, ⟨Z6.z123⟩, ⟨Z6.z1⟩, ⟨Z6.z2⟩, ⟨Z6.z5⟩, ⟨Z6.z6⟩, ⟨Z6.z8⟩, ⟨Z6.z9⟩, ⟨Z6.z0⟩⟩
 case rest =>
  clear HC25
  try clear c1
  try clear c2
  try clear p2
  try clear c4
  try clear c5
  try clear c6
  try clear c7
  try clear c8
  try clear c9
  try clear c10
  try clear c12
  try clear c19
  try clear c20
  try clear c46
  try clear c50
  try clear c51
  try clear c52
  try clear c55
  try clear c59
  try clear c60
  try clear c61
  try clear c62
  try clear c70
  try clear c71
  try clear c72
  try clear c73
  try clear c74
  try clear c78
  try clear c79
  try clear c80
  try clear c81
  try clear c82
  try clear c83
  try clear c85
  try clear c86
  try clear c87
  try clear c88
  try clear c91
  try clear c92
  try clear c93
  try clear c94
  try clear c95
  try clear c97
  try clear c98
  try clear c99
  try clear c100
  try clear hcz101_0
  try clear hcz101_1
  try clear hcz101_2
  try clear hcz101_3
  try clear hcz47_0
  try clear hcz47_1
  try clear hcz47_2
  try clear hcz47_3
  try clear hcz53_0
  try clear hcz53_1
  try clear hcz53_2
  try clear hcz53_3
  try clear hcz56_0
  try clear hcz56_1
  try clear hcz56_2
  try clear hcz56_3
  try clear hcz63_0
  try clear hcz63_1
  try clear hcz63_2
  try clear hcz63_3
  try clear hcz66_0
  try clear hcz66_1
  try clear hcz66_2
  try clear hcz66_3
  try clear hcz67_0
  try clear hcz67_1
  try clear hcz67_2
  try clear hcz67_3
  try clear hcz75_0
  try clear hcz75_1
  try clear hcz75_2
  try clear hcz75_3
  try clear hcz84_0
  try clear hcz84_1
  try clear hcz84_2
  try clear hcz84_3
  try clear hcz89_0
  try clear hcz89_1
  try clear hcz89_2
  try clear hcz89_3
  try clear hcz96_0
  try clear hcz96_1
  try clear hcz96_2
  try clear hcz96_3
  try clear hfz101_0
  try clear hfz101_1
  try clear hfz101_2
  try clear hfz101_3
  try clear hfz47_0
  try clear hfz47_1
  try clear hfz47_2
  try clear hfz47_3
  try clear hfz53_0
  try clear hfz53_1
  try clear hfz53_2
  try clear hfz53_3
  try clear hfz56_0
  try clear hfz56_1
  try clear hfz56_2
  try clear hfz56_3
  try clear hfz63_0
  try clear hfz63_1
  try clear hfz63_2
  try clear hfz63_3
  try clear hfz66_0
  try clear hfz66_1
  try clear hfz66_2
  try clear hfz66_3
  try clear hfz67_0
  try clear hfz67_1
  try clear hfz67_2
  try clear hfz67_3
  try clear hfz75_0
  try clear hfz75_1
  try clear hfz75_2
  try clear hfz75_3
  try clear hfz84_0
  try clear hfz84_1
  try clear hfz84_2
  try clear hfz84_3
  try clear hfz89_0
  try clear hfz89_1
  try clear hfz89_2
  try clear hfz89_3
  try clear hfz96_0
  try clear hfz96_1
  try clear hfz96_2
  try clear hfz96_3
  obtain ⟨kq, x53_24, rfl, HA, HJ24, HO_125003, HO_132003, HO_139003, HO_147003, BK101, BK102, BK124, BK131, BK138, BK146, HB⟩ := hcut
  cases kq with
  | zero => exact absurd HA.out (by simp [laws_FnExactStackRows.j0])
  | succ kj24 =>
   have H := HA.out
   clear HA
   simp only [laws_FnExactStackRows.j0] at H
   by_cases c103 : x53_24 = true
   ·subst c103
    have H1 : (some false) = some r := by rw [if_pos rfl] at H; exact H
    clear H
    have H := H1
    clear H1
    obtain rfl := Option.some.inj H
    go_wp2
    go_ret
    exact ⟨Z6.z37, Z6.z0⟩
   replace c103 := Bool.eq_false_iff.mpr c103
   subst c103
   have H1 : ((laws_toMatrix.f kj24 a0_0 a0_1 a0_2 l0_3).bind fun bt148 => ((laws_eqMatrix.f kj24 t125 t126 t127 t128 bt148.1 bt148.2.1 bt148.2.2.1 bt148.2.2.2).bind fun t154 => (if t154 = true then ((laws_toMatrix.f kj24 a1_0 a1_1 a1_2 l1_3).bind fun bt155 => ((laws_eqMatrix.f kj24 t132 t133 t134 t135 bt155.1 bt155.2.1 bt155.2.2.1 bt155.2.2.2).bind fun t161 => (if t161 = true then ((laws_markMatrix.f kj24 t125 t126 t127 t128 1).bind fun bt162 => ((laws_markMatrix.f kj24 t132 t133 t134 t135 bt162.1).bind fun bt164 => (if bt164.1 < 0 then (laws_FnExactStackRows.j1 kj24 t123 true a0_0 a0_1 a0_2 l0_3 a1_0 a1_1 a1_2 l1_3 t117 t118 t119 t120 t139 t140 t141 t142) else ((laws_eqMatrix.f kj24 t139 t140 t141 t142 t117 t118 t119 t120).bind fun t166 => (if t166 = true then (laws_FnExactStackRows.j1 kj24 t123 (t145 != t123) a0_0 a0_1 a0_2 l0_3 a1_0 a1_1 a1_2 l1_3 t117 t118 t119 t120 t139 t140 t141 t142) else (laws_FnExactStackRows.j1 kj24 t123 true a0_0 a0_1 a0_2 l0_3 a1_0 a1_1 a1_2 l1_3 t117 t118 t119 t120 t139 t140 t141 t142)))))) else (some false)))) else (some false)))) = some r := by rw [if_neg (show ¬ (false = true) by decide)] at H; exact H
   clear H
   have H := H1
   clear H1
   replace H := Option.bind_eq_some_iff.mp H
   obtain ⟨⟨t148, t149, t150, t151⟩, A1040, H⟩ := H
   replace H : ((laws_eqMatrix.f kj24 t125 t126 t127 t128 t148 t149 t150 t151).bind fun t154 => (if t154 = true then ((laws_toMatrix.f kj24 a1_0 a1_1 a1_2 l1_3).bind fun bt155 => ((laws_eqMatrix.f kj24 t132 t133 t134 t135 bt155.1 bt155.2.1 bt155.2.2.1 bt155.2.2.2).bind fun t161 => (if t161 = true then ((laws_markMatrix.f kj24 t125 t126 t127 t128 1).bind fun bt162 => ((laws_markMatrix.f kj24 t132 t133 t134 t135 bt162.1).bind fun bt164 => (if bt164.1 < 0 then (laws_FnExactStackRows.j1 kj24 t123 true a0_0 a0_1 a0_2 l0_3 a1_0 a1_1 a1_2 l1_3 t117 t118 t119 t120 t139 t140 t141 t142) else ((laws_eqMatrix.f kj24 t139 t140 t141 t142 t117 t118 t119 t120).bind fun t166 => (if t166 = true then (laws_FnExactStackRows.j1 kj24 t123 (t145 != t123) a0_0 a0_1 a0_2 l0_3 a1_0 a1_1 a1_2 l1_3 t117 t118 t119 t120 t139 t140 t141 t142) else (laws_FnExactStackRows.j1 kj24 t123 true a0_0 a0_1 a0_2 l0_3 a1_0 a1_1 a1_2 l1_3 t117 t118 t119 t120 t139 t140 t141 t142)))))) else (some false)))) else (some false))) = some r := H
   have A104 := Z6.k A1040
   clear A1040
   replace H := Option.bind_eq_some_iff.mp H
   obtain ⟨t154, A1050, H⟩ := H
   replace H : (if t154 = true then ((laws_toMatrix.f kj24 a1_0 a1_1 a1_2 l1_3).bind fun bt155 => ((laws_eqMatrix.f kj24 t132 t133 t134 t135 bt155.1 bt155.2.1 bt155.2.2.1 bt155.2.2.2).bind fun t161 => (if t161 = true then ((laws_markMatrix.f kj24 t125 t126 t127 t128 1).bind fun bt162 => ((laws_markMatrix.f kj24 t132 t133 t134 t135 bt162.1).bind fun bt164 => (if bt164.1 < 0 then (laws_FnExactStackRows.j1 kj24 t123 true a0_0 a0_1 a0_2 l0_3 a1_0 a1_1 a1_2 l1_3 t117 t118 t119 t120 t139 t140 t141 t142) else ((laws_eqMatrix.f kj24 t139 t140 t141 t142 t117 t118 t119 t120).bind fun t166 => (if t166 = true then (laws_FnExactStackRows.j1 kj24 t123 (t145 != t123) a0_0 a0_1 a0_2 l0_3 a1_0 a1_1 a1_2 l1_3 t117 t118 t119 t120 t139 t140 t141 t142) else (laws_FnExactStackRows.j1 kj24 t123 true a0_0 a0_1 a0_2 l0_3 a1_0 a1_1 a1_2 l1_3 t117 t118 t119 t120 t139 t140 t141 t142)))))) else (some false)))) else (some false)) = some r := H
   have A105 := Z6.k A1050
   clear A1050
   by_cases c106 : t154 = true
   ·subst c106
    have H1 : ((laws_toMatrix.f kj24 a1_0 a1_1 a1_2 l1_3).bind fun bt155 => ((laws_eqMatrix.f kj24 t132 t133 t134 t135 bt155.1 bt155.2.1 bt155.2.2.1 bt155.2.2.2).bind fun t161 => (if t161 = true then ((laws_markMatrix.f kj24 t125 t126 t127 t128 1).bind fun bt162 => ((laws_markMatrix.f kj24 t132 t133 t134 t135 bt162.1).bind fun bt164 => (if bt164.1 < 0 then (laws_FnExactStackRows.j1 kj24 t123 true a0_0 a0_1 a0_2 l0_3 a1_0 a1_1 a1_2 l1_3 t117 t118 t119 t120 t139 t140 t141 t142) else ((laws_eqMatrix.f kj24 t139 t140 t141 t142 t117 t118 t119 t120).bind fun t166 => (if t166 = true then (laws_FnExactStackRows.j1 kj24 t123 (t145 != t123) a0_0 a0_1 a0_2 l0_3 a1_0 a1_1 a1_2 l1_3 t117 t118 t119 t120 t139 t140 t141 t142) else (laws_FnExactStackRows.j1 kj24 t123 true a0_0 a0_1 a0_2 l0_3 a1_0 a1_1 a1_2 l1_3 t117 t118 t119 t120 t139 t140 t141 t142)))))) else (some false)))) = some r := by rw [if_pos rfl] at H; exact H
    clear H
    have H := H1
    clear H1
    replace H := Option.bind_eq_some_iff.mp H
    obtain ⟨⟨t155, t156, t157, t158⟩, A1070, H⟩ := H
    replace H : ((laws_eqMatrix.f kj24 t132 t133 t134 t135 t155 t156 t157 t158).bind fun t161 => (if t161 = true then ((laws_markMatrix.f kj24 t125 t126 t127 t128 1).bind fun bt162 => ((laws_markMatrix.f kj24 t132 t133 t134 t135 bt162.1).bind fun bt164 => (if bt164.1 < 0 then (laws_FnExactStackRows.j1 kj24 t123 true a0_0 a0_1 a0_2 l0_3 a1_0 a1_1 a1_2 l1_3 t117 t118 t119 t120 t139 t140 t141 t142) else ((laws_eqMatrix.f kj24 t139 t140 t141 t142 t117 t118 t119 t120).bind fun t166 => (if t166 = true then (laws_FnExactStackRows.j1 kj24 t123 (t145 != t123) a0_0 a0_1 a0_2 l0_3 a1_0 a1_1 a1_2 l1_3 t117 t118 t119 t120 t139 t140 t141 t142) else (laws_FnExactStackRows.j1 kj24 t123 true a0_0 a0_1 a0_2 l0_3 a1_0 a1_1 a1_2 l1_3 t117 t118 t119 t120 t139 t140 t141 t142)))))) else (some false))) = some r := H
    have A107 := Z6.k A1070
    clear A1070
    replace H := Option.bind_eq_some_iff.mp H
    obtain ⟨t161, A1080, H⟩ := H
    replace H : (if t161 = true then ((laws_markMatrix.f kj24 t125 t126 t127 t128 1).bind fun bt162 => ((laws_markMatrix.f kj24 t132 t133 t134 t135 bt162.1).bind fun bt164 => (if bt164.1 < 0 then (laws_FnExactStackRows.j1 kj24 t123 true a0_0 a0_1 a0_2 l0_3 a1_0 a1_1 a1_2 l1_3 t117 t118 t119 t120 t139 t140 t141 t142) else ((laws_eqMatrix.f kj24 t139 t140 t141 t142 t117 t118 t119 t120).bind fun t166 => (if t166 = true then (laws_FnExactStackRows.j1 kj24 t123 (t145 != t123) a0_0 a0_1 a0_2 l0_3 a1_0 a1_1 a1_2 l1_3 t117 t118 t119 t120 t139 t140 t141 t142) else (laws_FnExactStackRows.j1 kj24 t123 true a0_0 a0_1 a0_2 l0_3 a1_0 a1_1 a1_2 l1_3 t117 t118 t119 t120 t139 t140 t141 t142)))))) else (some false)) = some r := H
    have A108 := Z6.k A1080
    clear A1080
    by_cases c109 : t161 = true
    ·subst c109
     have H1 : ((laws_markMatrix.f kj24 t125 t126 t127 t128 1).bind fun bt162 => ((laws_markMatrix.f kj24 t132 t133 t134 t135 bt162.1).bind fun bt164 => (if bt164.1 < 0 then (laws_FnExactStackRows.j1 kj24 t123 true a0_0 a0_1 a0_2 l0_3 a1_0 a1_1 a1_2 l1_3 t117 t118 t119 t120 t139 t140 t141 t142) else ((laws_eqMatrix.f kj24 t139 t140 t141 t142 t117 t118 t119 t120).bind fun t166 => (if t166 = true then (laws_FnExactStackRows.j1 kj24 t123 (t145 != t123) a0_0 a0_1 a0_2 l0_3 a1_0 a1_1 a1_2 l1_3 t117 t118 t119 t120 t139 t140 t141 t142) else (laws_FnExactStackRows.j1 kj24 t123 true a0_0 a0_1 a0_2 l0_3 a1_0 a1_1 a1_2 l1_3 t117 t118 t119 t120 t139 t140 t141 t142)))))) = some r := by rw [if_pos rfl] at H; exact H
     clear H
     have H := H1
     clear H1
     replace H := Option.bind_eq_some_iff.mp H
     obtain ⟨⟨t162, t163⟩, A1100, H⟩ := H
     replace H : ((laws_markMatrix.f kj24 t132 t133 t134 t135 t162).bind fun bt164 => (if bt164.1 < 0 then (laws_FnExactStackRows.j1 kj24 t123 true a0_0 a0_1 a0_2 l0_3 a1_0 a1_1 a1_2 l1_3 t117 t118 t119 t120 t139 t140 t141 t142) else ((laws_eqMatrix.f kj24 t139 t140 t141 t142 t117 t118 t119 t120).bind fun t166 => (if t166 = true then (laws_FnExactStackRows.j1 kj24 t123 (t145 != t123) a0_0 a0_1 a0_2 l0_3 a1_0 a1_1 a1_2 l1_3 t117 t118 t119 t120 t139 t140 t141 t142) else (laws_FnExactStackRows.j1 kj24 t123 true a0_0 a0_1 a0_2 l0_3 a1_0 a1_1 a1_2 l1_3 t117 t118 t119 t120 t139 t140 t141 t142))))) = some r := H
     have A110 := Z6.k A1100
     clear A1100
     replace H := Option.bind_eq_some_iff.mp H
     obtain ⟨⟨t164, t165⟩, A1110, H⟩ := H
     replace H : (if t164 < 0 then (laws_FnExactStackRows.j1 kj24 t123 true a0_0 a0_1 a0_2 l0_3 a1_0 a1_1 a1_2 l1_3 t117 t118 t119 t120 t139 t140 t141 t142) else ((laws_eqMatrix.f kj24 t139 t140 t141 t142 t117 t118 t119 t120).bind fun t166 => (if t166 = true then (laws_FnExactStackRows.j1 kj24 t123 (t145 != t123) a0_0 a0_1 a0_2 l0_3 a1_0 a1_1 a1_2 l1_3 t117 t118 t119 t120 t139 t140 t141 t142) else (laws_FnExactStackRows.j1 kj24 t123 true a0_0 a0_1 a0_2 l0_3 a1_0 a1_1 a1_2 l1_3 t117 t118 t119 t120 t139 t140 t141 t142)))) = some r := H
     have A111 := Z6.k A1110
     clear A1110
     have HC112 := Z6.k H
     clear H
     try go_wp2
     have n0_ := Z6.k (Kd.R_drew HO_125003.out)
     have n1_ := Z6.k (Kd.R_drew HO_132003.out)
     have n2_ := Z6.k (Kd.R_drew HO_139003.out)
     have n3_ := Z6.k (Kd.R_drew HO_147003.out)
     have n4_ := Z6.k (blk_drew BK101.out)
     have n5_ := Z6.k (blk_drew BK102.out)
     have n6_ := Z6.k (blk_drew BK124.out)
     have n7_ := Z6.k (blk_drew BK131.out)
     have n8_ := Z6.k (blk_drew BK138.out)
     have n9_ := Z6.k (blk_drew BK146.out)
     have n10_ := Z6.k (below_drew1 HB.out)
     clear HO_125003 HO_132003 HO_139003 HO_147003 BK101 BK102 BK124 BK131 BK138 BK146 HB
     have HO_125003 := n0_
     have HO_132003 := n1_
     have HO_139003 := n2_
     have HO_147003 := n3_
     have BK101 := n4_
     have BK102 := n5_
     have BK124 := n6_
     have BK131 := n7_
     have BK138 := n8_
     have BK146 := n9_
     have HB := n10_
     clear n0_ n1_ n2_ n3_ n4_ n5_ n6_ n7_ n8_ n9_ n10_
     refine start_ (n := 5) (S := fun w' => w'.cell? ⟨gb131, 0, none⟩ = some (.int .i64 t125) ∧ w'.cell? ⟨gb131, 1, none⟩ = some (.int .i64 t126) ∧ w'.cell? ⟨gb131, 2, none⟩ = some (.int .i64 t127) ∧ w'.cell? ⟨gb131, 3, none⟩ = some (.slice Ao54 t128.length co54) ∧ w'.cell? ⟨gb101, 0, none⟩ = some (.int .i64 a0_0) ∧ w'.cell? ⟨gb101, 1, none⟩ = some (.int .i64 a0_1) ∧ w'.cell? ⟨gb101, 2, none⟩ = some (.int .i64 a0_2) ∧ w'.cell? ⟨gb101, 3, none⟩ = some (.slice A0_3 l0_3.length c0_3)) (ds := []) #[false, false, false, false, false] (by kernel_rfl) rfl rfl Z6.z17 (fun hHeld => ?_)
     generalize wc.drew = w113 at HO_125003 HO_132003 HO_139003 HO_147003 BK101 BK102 BK124 BK131 BK138 BK146 HB hHeld ⊢
     refine take_ (i := 0) (N := some 54) (v := ?_) (a' := ?_) #[true, false, false, false, false] rfl rfl (by kernel_rfl) (fun _ _ _ h => h) (Or.inl ⟨(by rfl), ?_⟩) hHeld ?_ ?_
     rotate_left
     ·rintro w' ⟨s0, s1, s2, s3, s4, s5, s6, s7⟩
      go_simp
      with_reducible rfl
     rotate_left
     ·exact Z6.z16
     refine take_ (i := 1) (N := some 55) (v := ?_) (a' := ?_) #[true, true, false, false, false] rfl rfl (by kernel_rfl) (fun _ _ _ h => h) (Or.inl ⟨(by rfl), ?_⟩) hHeld ?_ ?_
     rotate_left
     ·rintro w' ⟨s0, s1, s2, s3, s4, s5, s6, s7⟩
      go_simp
      with_reducible rfl
     rotate_left
     ·exact Z6.z16
     refine one_ (i := 2) (N := some 56) #[true, true, true, false, false] rfl rfl (by kernel_rfl) (by decide) (fun K hK => ?_)
     refine goes_ Try.func10 (by kernel_rfl) rfl #[.agg #[.int .i64 a0_0, .int .i64 a0_1, .int .i64 a0_2, .slice A0_3 l0_3.length c0_3]] (by rfl) rfl rfl Z6.z7 ?_
     with_reducible refine (laws_toMatrix.calls kj24 a0_0 a0_1 a0_2 _ _ l0_3 t148 t149 t150 t151 _ ?side1 ?side2 A104.out).mono ?_
     (case side1 => exact Z6.z20)
     (case side2 => exact HC0_3.out)
     rintro e w114 ⟨v152, rfl, ho0, hb⟩
     refine ⟨_, rfl, ?_⟩
     have n0_ := Z6.k (Kd.R_elder' Z6.z15 (Kd.R_base ho0) hb)
     have n1_ := Z6.k (Kd.R_elder' Z6.z14 (Kd.R_base ho0) hb)
     have n2_ := Z6.k (Kd.R_elder' Z6.z13 (Kd.R_base ho0) hb)
     have n3_ := Z6.k (Kd.R_elder' Z6.z12 (Kd.R_base ho0) hb)
     have n4_ := Z6.k (Kd.R_lower (Kd.R_new' (Kd.R_new' (Kd.R_new' (Kd.R_new' ho0 (Kd.R_lt Z6.z15)) (Kd.R_lt Z6.z14)) (Kd.R_lt Z6.z13)) (Kd.R_lt Z6.z12)) (below_size Z6.z0))
     have n5_ := Z6.k (Z6.bb BK101 Z6.z1 hb)
     have n6_ := Z6.k (Z6.bb BK102 Z6.z2 hb)
     have n7_ := Z6.k (Z6.bb BK124 Z6.z5 hb)
     have n8_ := Z6.k (Z6.bb BK131 Z6.z6 hb)
     have n9_ := Z6.k (Z6.bb BK138 Z6.z8 hb)
     have n10_ := Z6.k (Z6.bb BK146 Z6.z9 hb)
     have n11_ := Z6.k (below_step Z6.z0 hb)
     clear HO_125003 HO_132003 HO_139003 HO_147003 BK101 BK102 BK124 BK131 BK138 BK146 HB
     have HO_125003 := n0_
     have HO_132003 := n1_
     have HO_139003 := n2_
     have HO_147003 := n3_
     have HO153 := n4_
     have BK101 := n5_
     have BK102 := n6_
     have BK124 := n7_
     have BK131 := n8_
     have BK138 := n9_
     have BK146 := n10_
     have HB := n11_
     clear n0_ n1_ n2_ n3_ n4_ n5_ n6_ n7_ n8_ n9_ n10_ n11_
     (try clear hb)
     (try clear hb2)
     (try clear hk)
     (try clear hi)
     (try clear ho0)
     obtain ⟨Ao115, co115, eo115⟩ := Kd.R_slice HO153.out
     (first | subst eo115 | (injection eo115 with f1_ f2_ f3_; have f4_ := f1_.symm; have f5_ := f3_.symm; clear f1_ f2_ f3_; subst f4_; subst f5_))
     refine hK.out _ _ Z6.z17 (fun hHeld => ?_)
     clear hK K
     refine norm_ (a' := ?_) ?_ ?_
     rotate_left
     ·show Act.put _ (some 56) _ = _
      simp only [Act.put, List.setIfInBounds_toArray, List.set_cons_zero, List.set_cons_succ, i64_w, i32_w]
      rfl
     refine one_ (i := 3) (N := some 57) #[true, true, true, true, false] rfl rfl (by kernel_rfl) (by decide) (fun K hK => ?_)
     refine goes_ Try.func12 (by kernel_rfl) rfl #[.agg #[.int .i64 t125, .int .i64 t126, .int .i64 t127, .slice Ao54 t128.length co54], .agg #[.int .i64 t148, .int .i64 t149, .int .i64 t150, .slice Ao115 t151.length co115]] (by rfl) rfl rfl Z6.z7 ?_
     with_reducible refine (laws_eqMatrix.calls kj24 t125 t126 t127 _ _ t128 t148 t149 t150 _ _ t151 true _ ?side1 ?side2 ?side3 ?side4 A105.out).mono ?_
     (case side1 => exact Z6.z79)
     (case side2 => exact (Kd.R_reads' HO_132003.out).2.1)
     (case side3 => exact Z6.z80)
     (case side4 => exact (Kd.R_reads' HO153.out).2.1)
     rintro e w116 ⟨rfl, hb⟩
     refine ⟨_, rfl, ?_⟩
     have n0_ := Z6.k (Kd.R_below Z6.z15 hb)
     have n1_ := Z6.k (Kd.R_below Z6.z14 hb)
     have n2_ := Z6.k (Kd.R_below Z6.z13 hb)
     have n3_ := Z6.k (Kd.R_below Z6.z12 hb)
     have n4_ := Z6.k (Kd.R_below Z6.z36 hb)
     have n5_ := Z6.k (Z6.bb BK101 Z6.z1 hb)
     have n6_ := Z6.k (Z6.bb BK102 Z6.z2 hb)
     have n7_ := Z6.k (Z6.bb BK124 Z6.z5 hb)
     have n8_ := Z6.k (Z6.bb BK131 Z6.z6 hb)
     have n9_ := Z6.k (Z6.bb BK138 Z6.z8 hb)
     have n10_ := Z6.k (Z6.bb BK146 Z6.z9 hb)
     have n11_ := Z6.k (below_step Z6.z0 hb)
     clear HO_125003 HO_132003 HO_139003 HO_147003 HO153 BK101 BK102 BK124 BK131 BK138 BK146 HB
     have HO_125003 := n0_
     have HO_132003 := n1_
     have HO_139003 := n2_
     have HO_147003 := n3_
     have HO153 := n4_
     have BK101 := n5_
     have BK102 := n6_
     have BK124 := n7_
     have BK131 := n8_
     have BK138 := n9_
     have BK146 := n10_
     have HB := n11_
     clear n0_ n1_ n2_ n3_ n4_ n5_ n6_ n7_ n8_ n9_ n10_ n11_
     (try clear hb)
     (try clear hb2)
     (try clear hk)
     (try clear hi)
     refine hK.out _ _ Z6.z17 (fun hHeld => ?_)
     clear hK K
     refine norm_ (a' := ?_) ?_ ?_
     rotate_left
     ·show Act.put _ (some 57) _ = _
      simp only [Act.put, List.setIfInBounds_toArray, List.set_cons_zero, List.set_cons_succ, i64_w, i32_w]
      rfl
     refine pure_ (i := 4) (N := some 58) (v := ?_) (a' := ?_) #[true, true, true, true, true] rfl rfl (by kernel_rfl) (fun _ _ _ h => h) (Or.inl ⟨(by rfl), ?_⟩) ?_ ?_
     rotate_left
     ·intro w'
      go_simp
      with_reducible rfl
     rotate_left
     ·exact Z6.z16
     refine done_ (by kernel_rfl) ?_
     try go_wp2
     have n0_ := Z6.k (Kd.R_drew HO_125003.out)
     have n1_ := Z6.k (Kd.R_drew HO_132003.out)
     have n2_ := Z6.k (Kd.R_drew HO_139003.out)
     have n3_ := Z6.k (Kd.R_drew HO_147003.out)
     have n4_ := Z6.k (Kd.R_drew HO153.out)
     have n5_ := Z6.k (blk_drew BK101.out)
     have n6_ := Z6.k (blk_drew BK102.out)
     have n7_ := Z6.k (blk_drew BK124.out)
     have n8_ := Z6.k (blk_drew BK131.out)
     have n9_ := Z6.k (blk_drew BK138.out)
     have n10_ := Z6.k (blk_drew BK146.out)
     have n11_ := Z6.k (below_drew1 HB.out)
     clear HO_125003 HO_132003 HO_139003 HO_147003 HO153 BK101 BK102 BK124 BK131 BK138 BK146 HB
     have HO_125003 := n0_
     have HO_132003 := n1_
     have HO_139003 := n2_
     have HO_147003 := n3_
     have HO153 := n4_
     have BK101 := n5_
     have BK102 := n6_
     have BK124 := n7_
     have BK131 := n8_
     have BK138 := n9_
     have BK146 := n10_
     have HB := n11_
     clear n0_ n1_ n2_ n3_ n4_ n5_ n6_ n7_ n8_ n9_ n10_ n11_
     refine start_ (n := 5) (S := fun w' => w'.cell? ⟨gb138, 0, none⟩ = some (.int .i64 t132) ∧ w'.cell? ⟨gb138, 1, none⟩ = some (.int .i64 t133) ∧ w'.cell? ⟨gb138, 2, none⟩ = some (.int .i64 t134) ∧ w'.cell? ⟨gb138, 3, none⟩ = some (.slice Ao64 t135.length co64) ∧ w'.cell? ⟨gb102, 0, none⟩ = some (.int .i64 a1_0) ∧ w'.cell? ⟨gb102, 1, none⟩ = some (.int .i64 a1_1) ∧ w'.cell? ⟨gb102, 2, none⟩ = some (.int .i64 a1_2) ∧ w'.cell? ⟨gb102, 3, none⟩ = some (.slice A1_3 l1_3.length c1_3)) (ds := []) #[false, false, false, false, false] (by kernel_rfl) rfl rfl Z6.z27 (fun hHeld => ?_)
     generalize w116.drew = w117 at HO_125003 HO_132003 HO_139003 HO_147003 HO153 BK101 BK102 BK124 BK131 BK138 BK146 HB hHeld ⊢
     refine take_ (i := 0) (N := some 59) (v := ?_) (a' := ?_) #[true, false, false, false, false] rfl rfl (by kernel_rfl) (fun _ _ _ h => h) (Or.inl ⟨(by rfl), ?_⟩) hHeld ?_ ?_
     rotate_left
     ·rintro w' ⟨s0, s1, s2, s3, s4, s5, s6, s7⟩
      go_simp
      with_reducible rfl
     rotate_left
     ·exact Z6.z16
     refine take_ (i := 1) (N := some 60) (v := ?_) (a' := ?_) #[true, true, false, false, false] rfl rfl (by kernel_rfl) (fun _ _ _ h => h) (Or.inl ⟨(by rfl), ?_⟩) hHeld ?_ ?_
     rotate_left
     ·rintro w' ⟨s0, s1, s2, s3, s4, s5, s6, s7⟩
      go_simp
      with_reducible rfl
     rotate_left
     ·exact Z6.z16
     refine one_ (i := 2) (N := some 61) #[true, true, true, false, false] rfl rfl (by kernel_rfl) (by decide) (fun K hK => ?_)
     refine goes_ Try.func10 (by kernel_rfl) rfl #[.agg #[.int .i64 a1_0, .int .i64 a1_1, .int .i64 a1_2, .slice A1_3 l1_3.length c1_3]] (by rfl) rfl rfl Z6.z7 ?_
     with_reducible refine (laws_toMatrix.calls kj24 a1_0 a1_1 a1_2 _ _ l1_3 t155 t156 t157 t158 _ ?side1 ?side2 A107.out).mono ?_
     (case side1 => exact Z6.z19)
     (case side2 => exact HC1_3.out)
     rintro e w118 ⟨v159, rfl, ho0, hb⟩
     refine ⟨_, rfl, ?_⟩
     have n0_ := Z6.k (Kd.R_elder' Z6.z15 (Kd.R_base ho0) hb)
     have n1_ := Z6.k (Kd.R_elder' Z6.z14 (Kd.R_base ho0) hb)
     have n2_ := Z6.k (Kd.R_elder' Z6.z13 (Kd.R_base ho0) hb)
     have n3_ := Z6.k (Kd.R_elder' Z6.z12 (Kd.R_base ho0) hb)
     have n4_ := Z6.k (Kd.R_elder' Z6.z36 (Kd.R_base ho0) hb)
     have n5_ := Z6.k (Kd.R_lower (Kd.R_new' (Kd.R_new' (Kd.R_new' (Kd.R_new' (Kd.R_new' ho0 (Kd.R_lt Z6.z15)) (Kd.R_lt Z6.z14)) (Kd.R_lt Z6.z13)) (Kd.R_lt Z6.z12)) (Kd.R_lt Z6.z36)) (below_size Z6.z0))
     have n6_ := Z6.k (Z6.bb BK101 Z6.z1 hb)
     have n7_ := Z6.k (Z6.bb BK102 Z6.z2 hb)
     have n8_ := Z6.k (Z6.bb BK124 Z6.z5 hb)
     have n9_ := Z6.k (Z6.bb BK131 Z6.z6 hb)
     have n10_ := Z6.k (Z6.bb BK138 Z6.z8 hb)
     have n11_ := Z6.k (Z6.bb BK146 Z6.z9 hb)
     have n12_ := Z6.k (below_step Z6.z0 hb)
     clear HO_125003 HO_132003 HO_139003 HO_147003 HO153 BK101 BK102 BK124 BK131 BK138 BK146 HB
     have HO_125003 := n0_
     have HO_132003 := n1_
     have HO_139003 := n2_
     have HO_147003 := n3_
     have HO153 := n4_
     have HO160 := n5_
     have BK101 := n6_
     have BK102 := n7_
     have BK124 := n8_
     have BK131 := n9_
     have BK138 := n10_
     have BK146 := n11_
     have HB := n12_
     clear n0_ n1_ n2_ n3_ n4_ n5_ n6_ n7_ n8_ n9_ n10_ n11_ n12_
     (try clear hb)
     (try clear hb2)
     (try clear hk)
     (try clear hi)
     (try clear ho0)
     obtain ⟨Ao119, co119, eo119⟩ := Kd.R_slice HO160.out
     (first | subst eo119 | (injection eo119 with f1_ f2_ f3_; have f4_ := f1_.symm; have f5_ := f3_.symm; clear f1_ f2_ f3_; subst f4_; subst f5_))
     refine hK.out _ _ Z6.z27 (fun hHeld => ?_)
     clear hK K
     refine norm_ (a' := ?_) ?_ ?_
     rotate_left
     ·show Act.put _ (some 61) _ = _
      simp only [Act.put, List.setIfInBounds_toArray, List.set_cons_zero, List.set_cons_succ, i64_w, i32_w]
      rfl
     refine one_ (i := 3) (N := some 62) #[true, true, true, true, false] rfl rfl (by kernel_rfl) (by decide) (fun K hK => ?_)
     refine goes_ Try.func12 (by kernel_rfl) rfl #[.agg #[.int .i64 t132, .int .i64 t133, .int .i64 t134, .slice Ao64 t135.length co64], .agg #[.int .i64 t155, .int .i64 t156, .int .i64 t157, .slice Ao119 t158.length co119]] (by rfl) rfl rfl Z6.z7 ?_
     with_reducible refine (laws_eqMatrix.calls kj24 t132 t133 t134 _ _ t135 t155 t156 t157 _ _ t158 true _ ?side1 ?side2 ?side3 ?side4 A108.out).mono ?_
     (case side1 => exact Z6.z105)
     (case side2 => exact (Kd.R_reads' HO_139003.out).2.1)
     (case side3 => exact Z6.z107)
     (case side4 => exact (Kd.R_reads' HO160.out).2.1)
     rintro e w120 ⟨rfl, hb⟩
     refine ⟨_, rfl, ?_⟩
     have n0_ := Z6.k (Kd.R_below Z6.z15 hb)
     have n1_ := Z6.k (Kd.R_below Z6.z14 hb)
     have n2_ := Z6.k (Kd.R_below Z6.z13 hb)
     have n3_ := Z6.k (Kd.R_below Z6.z12 hb)
     have n4_ := Z6.k (Kd.R_below Z6.z36 hb)
     have n5_ := Z6.k (Kd.R_below Z6.z87 hb)
     have n6_ := Z6.k (Z6.bb BK101 Z6.z1 hb)
     have n7_ := Z6.k (Z6.bb BK102 Z6.z2 hb)
     have n8_ := Z6.k (Z6.bb BK124 Z6.z5 hb)
     have n9_ := Z6.k (Z6.bb BK131 Z6.z6 hb)
     have n10_ := Z6.k (Z6.bb BK138 Z6.z8 hb)
     have n11_ := Z6.k (Z6.bb BK146 Z6.z9 hb)
     have n12_ := Z6.k (below_step Z6.z0 hb)
     clear HO_125003 HO_132003 HO_139003 HO_147003 HO153 HO160 BK101 BK102 BK124 BK131 BK138 BK146 HB
     have HO_125003 := n0_
     have HO_132003 := n1_
     have HO_139003 := n2_
     have HO_147003 := n3_
     have HO153 := n4_
     have HO160 := n5_
     have BK101 := n6_
     have BK102 := n7_
     have BK124 := n8_
     have BK131 := n9_
     have BK138 := n10_
     have BK146 := n11_
     have HB := n12_
     clear n0_ n1_ n2_ n3_ n4_ n5_ n6_ n7_ n8_ n9_ n10_ n11_ n12_
     (try clear hb)
     (try clear hb2)
     (try clear hk)
     (try clear hi)
     refine hK.out _ _ Z6.z27 (fun hHeld => ?_)
     clear hK K
     refine norm_ (a' := ?_) ?_ ?_
     rotate_left
     ·show Act.put _ (some 62) _ = _
      simp only [Act.put, List.setIfInBounds_toArray, List.set_cons_zero, List.set_cons_succ, i64_w, i32_w]
      rfl
     refine pure_ (i := 4) (N := some 63) (v := ?_) (a' := ?_) #[true, true, true, true, true] rfl rfl (by kernel_rfl) (fun _ _ _ h => h) (Or.inl ⟨(by rfl), ?_⟩) ?_ ?_
     rotate_left
     ·intro w'
      go_simp
      with_reducible rfl
     rotate_left
     ·exact Z6.z16
     refine done_ (by kernel_rfl) ?_
     have hnb121 := NB131_101.out
     have hnc121 := NB101_131.out
     have hnb122 := NB131_102.out
     have hnc122 := NB102_131.out
     have hnb123 := NB131_124.out
     have hnc123 := NB124_131.out
     have hnb124 := NB131_138.out
     have hnc124 := NB138_131.out
     have hnb125 := NB131_146.out
     have hnc125 := NB146_131.out
     have hcz126_0 : w120.cell? ⟨gb131, 0, none⟩ = some (.int .i64 t125) := (blk_cell BK131.out 0).trans rfl
     have hcz126_1 : w120.cell? ⟨gb131, 1, none⟩ = some (.int .i64 t126) := (blk_cell BK131.out 1).trans rfl
     have hcz126_2 : w120.cell? ⟨gb131, 2, none⟩ = some (.int .i64 t127) := (blk_cell BK131.out 2).trans rfl
     have hcz126_3 : w120.cell? ⟨gb131, 3, none⟩ = some (.slice Ao54 t128.length co54) := (blk_cell BK131.out 3).trans rfl
     have hfz126_0 := blk_frozen BK131.out 0
     have hfz126_1 := blk_frozen BK131.out 1
     have hfz126_2 := blk_frozen BK131.out 2
     have hfz126_3 := blk_frozen BK131.out 3
     go_upto_region 21 with (first | ((with_reducible refine gate_callee (f := 17) rfl ?_); refine goesL_ (some 66) rfl rfl Try.func17 (by kernel_rfl) rfl #[.agg #[.int .i64 t125, .int .i64 t126, .int .i64 t127, .slice Ao54 t128.length co54], .int .i64 1] rfl Z6.z7 ?_; (with_reducible refine (laws_markMatrix.calls kj24 t125 t126 t127 (fun k_ => some k_ = (.slice Ao54 t128.length co54 : Value).ownBlock) (.slice Ao54 t128.length co54) t128 1 t162 t163 w _ ?side1 ?side2 A110.out).mono ?_); (case side1 => exact Z6.z0); (case side2 => exact Kd.R_tight rfl HO_132003.out); rintro e w127 ⟨rfl, hy0, hb, hkp⟩; refine ⟨_, rfl, ?_⟩; have n0_ := Z6.k (Kd.R_mono (ok' := fun k_ => some k_ ≠ (.slice Ao54 t128.length co54 : Value).ownBlock ∧ some k_ ≠ (.slice Ao64 t135.length co64 : Value).ownBlock ∧ some k_ ≠ (.slice Ao76 t142.length co76 : Value).ownBlock ∧ some k_ ≠ (.slice Ao115 t151.length co115 : Value).ownBlock ∧ some k_ ≠ (.slice Ao119 t158.length co119 : Value).ownBlock) (Kd.R_keptB (HO_125003.out) hkp (fun k_ hk_ hs_ => (hk_.1.1.1) hs_)) (fun k_ hk_ => ⟨hk_.1.1.1.1, hk_.1.1.1.2.1, hk_.1.1.1.2.2, hk_.1.1.2, hk_.1.2⟩)); have n1_ := Z6.k (Kd.R_reok rfl hy0 (fun k_ e_ => HO_132003.out.1 k_ e_)); have n2_ := Z6.k (Kd.R_mono (ok' := fun k_ => some k_ ≠ (.slice Ao44 t120.length co44 : Value).ownBlock ∧ some k_ ≠ (.slice Ao54 t128.length co54 : Value).ownBlock ∧ some k_ ≠ (.slice Ao76 t142.length co76 : Value).ownBlock ∧ some k_ ≠ (.slice Ao115 t151.length co115 : Value).ownBlock ∧ some k_ ≠ (.slice Ao119 t158.length co119 : Value).ownBlock) (Kd.R_keptB (HO_139003.out) hkp (fun k_ hk_ hs_ => (hk_.1.1.2.1) hs_)) (fun k_ hk_ => ⟨hk_.1.1.1.1, hk_.1.1.1.2.1, hk_.1.1.1.2.2, hk_.1.1.2, hk_.1.2⟩)); have n3_ := Z6.k (Kd.R_mono (ok' := fun k_ => some k_ ≠ (.slice Ao44 t120.length co44 : Value).ownBlock ∧ some k_ ≠ (.slice Ao54 t128.length co54 : Value).ownBlock ∧ some k_ ≠ (.slice Ao64 t135.length co64 : Value).ownBlock ∧ some k_ ≠ (.slice Ao115 t151.length co115 : Value).ownBlock ∧ some k_ ≠ (.slice Ao119 t158.length co119 : Value).ownBlock) (Kd.R_keptB (HO_147003.out) hkp (fun k_ hk_ hs_ => (hk_.1.1.2.1) hs_)) (fun k_ hk_ => ⟨hk_.1.1.1.1, hk_.1.1.1.2.1, hk_.1.1.1.2.2, hk_.1.1.2, hk_.1.2⟩)); have n4_ := Z6.k (blk_kept Z6.z1 hkp (fun hs_ => (fun e_ => (Kd.R_ne HO_132003.out BK101.out (by decide)) e_) hs_)); have n5_ := Z6.k (blk_kept Z6.z2 hkp (fun hs_ => (fun e_ => (Kd.R_ne HO_132003.out BK102.out (by decide)) e_) hs_)); have n6_ := Z6.k (blk_kept Z6.z5 hkp (fun hs_ => (fun e_ => (Kd.R_ne HO_132003.out BK124.out (by decide)) e_) hs_)); have n7_ := Z6.k (blk_kept Z6.z6 hkp (fun hs_ => (fun e_ => (Kd.R_ne HO_132003.out BK131.out (by decide)) e_) hs_)); have n8_ := Z6.k (blk_kept Z6.z8 hkp (fun hs_ => (fun e_ => (Kd.R_ne HO_132003.out BK138.out (by decide)) e_) hs_)); have n9_ := Z6.k (blk_kept Z6.z9 hkp (fun hs_ => (fun e_ => (Kd.R_ne HO_132003.out BK146.out (by decide)) e_) hs_)); have n10_ := Z6.k (Kd.R_mono (ok' := fun k_ => some k_ ≠ (.slice Ao44 t120.length co44 : Value).ownBlock ∧ some k_ ≠ (.slice Ao54 t128.length co54 : Value).ownBlock ∧ some k_ ≠ (.slice Ao64 t135.length co64 : Value).ownBlock ∧ some k_ ≠ (.slice Ao76 t142.length co76 : Value).ownBlock ∧ some k_ ≠ (.slice Ao119 t158.length co119 : Value).ownBlock) (Kd.R_keptB (HO153.out) hkp (fun k_ hk_ hs_ => (hk_.1.1.1.2) hs_)) (fun k_ hk_ => ⟨hk_.1.1.1.1.1.2, hk_.1.1.1.1.2, hk_.1.1.1.2, hk_.1.1.2, hk_.1.2⟩)); have n11_ := Z6.k (Kd.R_mono (ok' := fun k_ => some k_ ≠ (.slice Ao44 t120.length co44 : Value).ownBlock ∧ some k_ ≠ (.slice Ao54 t128.length co54 : Value).ownBlock ∧ some k_ ≠ (.slice Ao64 t135.length co64 : Value).ownBlock ∧ some k_ ≠ (.slice Ao76 t142.length co76 : Value).ownBlock ∧ some k_ ≠ (.slice Ao115 t151.length co115 : Value).ownBlock) (Kd.R_keptB (HO160.out) hkp (fun k_ hk_ hs_ => (hk_.1.1.1.2) hs_)) (fun k_ hk_ => ⟨hk_.1.1.1.1.1.2, hk_.1.1.1.1.2, hk_.1.1.1.2, hk_.1.1.2, hk_.1.2⟩)); have n12_ := Z6.k (hb); clear HO_125003 HO_132003 HO_139003 HO_147003 BK101 BK102 BK124 BK131 BK138 BK146 HO153 HO160 HB; have HO_125003 := n0_; have HO_132003 := n1_; have HO_139003 := n2_; have HO_147003 := n3_; have BK101 := n4_; have BK102 := n5_; have BK124 := n6_; have BK131 := n7_; have BK138 := n8_; have BK146 := n9_; have HO153 := n10_; have HO160 := n11_; have HB := n12_; clear n0_ n1_ n2_ n3_ n4_ n5_ n6_ n7_ n8_ n9_ n10_ n11_ n12_; (try clear hb); (try clear hkp); (try clear hy0); have hnb128 := NB138_101.out; have hnc128 := NB101_138.out; have hnb129 := NB138_102.out; have hnc129 := NB102_138.out; have hnb130 := NB138_124.out; have hnc130 := NB124_138.out; have hnb131 := NB138_146.out; have hnc131 := NB146_138.out; have hcz132_0 : w127.cell? ⟨gb138, 0, none⟩ = some (.int .i64 t132) := (blk_cell BK138.out 0).trans rfl; have hcz132_1 : w127.cell? ⟨gb138, 1, none⟩ = some (.int .i64 t133) := (blk_cell BK138.out 1).trans rfl; have hcz132_2 : w127.cell? ⟨gb138, 2, none⟩ = some (.int .i64 t134) := (blk_cell BK138.out 2).trans rfl; have hcz132_3 : w127.cell? ⟨gb138, 3, none⟩ = some (.slice Ao64 t135.length co64) := (blk_cell BK138.out 3).trans rfl; have hfz132_0 := blk_frozen BK138.out 0; have hfz132_1 := blk_frozen BK138.out 1; have hfz132_2 := blk_frozen BK138.out 2; have hfz132_3 := blk_frozen BK138.out 3) | ((with_reducible refine gate_callee (f := 17) rfl ?_); refine goesL_ (some 69) rfl rfl Try.func17 (by kernel_rfl) rfl #[.agg #[.int .i64 t132, .int .i64 t133, .int .i64 t134, .slice Ao64 t135.length co64], .int .i64 t162] rfl Z6.z7 ?_; (with_reducible refine (laws_markMatrix.calls kj24 t132 t133 t134 (fun k_ => some k_ = (.slice Ao64 t135.length co64 : Value).ownBlock) (.slice Ao64 t135.length co64) t135 t162 t164 t165 w _ ?side1 ?side2 A111.out).mono ?_); (case side1 => exact Z6.z0); (case side2 => exact Kd.R_tight rfl HO_139003.out); rintro e w133 ⟨rfl, hy0, hb, hkp⟩; refine ⟨_, rfl, ?_⟩; have n0_ := Z6.k (Kd.R_mono (ok' := fun k_ => some k_ ≠ (.slice Ao54 t128.length co54 : Value).ownBlock ∧ some k_ ≠ (.slice Ao64 t135.length co64 : Value).ownBlock ∧ some k_ ≠ (.slice Ao76 t142.length co76 : Value).ownBlock ∧ some k_ ≠ (.slice Ao115 t151.length co115 : Value).ownBlock ∧ some k_ ≠ (.slice Ao119 t158.length co119 : Value).ownBlock) (Kd.R_keptB (HO_125003.out) hkp (fun k_ hk_ hs_ => (hk_.2.1) hs_)) (fun k_ hk_ => ⟨hk_.1.1, hk_.1.2.1, hk_.1.2.2.1, hk_.1.2.2.2.1, hk_.1.2.2.2.2⟩)); have n1_ := Z6.k (Kd.R_mono (ok' := fun k_ => some k_ ≠ (.slice Ao44 t120.length co44 : Value).ownBlock ∧ some k_ ≠ (.slice Ao64 t135.length co64 : Value).ownBlock ∧ some k_ ≠ (.slice Ao76 t142.length co76 : Value).ownBlock ∧ some k_ ≠ (.slice Ao115 t151.length co115 : Value).ownBlock ∧ some k_ ≠ (.slice Ao119 t158.length co119 : Value).ownBlock) (Kd.R_keptB (HO_132003.out) hkp (fun k_ hk_ hs_ => (hk_.1.1.2.1) hs_)) (fun k_ hk_ => ⟨hk_.1.1.1.1, hk_.1.1.1.2.1, hk_.1.1.1.2.2, hk_.1.1.2, hk_.1.2⟩)); have n2_ := Z6.k (Kd.R_reok rfl hy0 (fun k_ e_ => HO_139003.out.1 k_ e_)); have n3_ := Z6.k (Kd.R_mono (ok' := fun k_ => some k_ ≠ (.slice Ao44 t120.length co44 : Value).ownBlock ∧ some k_ ≠ (.slice Ao54 t128.length co54 : Value).ownBlock ∧ some k_ ≠ (.slice Ao64 t135.length co64 : Value).ownBlock ∧ some k_ ≠ (.slice Ao115 t151.length co115 : Value).ownBlock ∧ some k_ ≠ (.slice Ao119 t158.length co119 : Value).ownBlock) (Kd.R_keptB (HO_147003.out) hkp (fun k_ hk_ hs_ => (hk_.2.2.1) hs_)) (fun k_ hk_ => ⟨hk_.1.1, hk_.1.2.1, hk_.1.2.2.1, hk_.1.2.2.2.1, hk_.1.2.2.2.2⟩)); have n4_ := Z6.k (blk_kept Z6.z1 hkp (fun hs_ => (fun e_ => (Kd.R_ne HO_139003.out BK101.out (by decide)) e_) hs_)); have n5_ := Z6.k (blk_kept Z6.z2 hkp (fun hs_ => (fun e_ => (Kd.R_ne HO_139003.out BK102.out (by decide)) e_) hs_)); have n6_ := Z6.k (blk_kept Z6.z5 hkp (fun hs_ => (fun e_ => (Kd.R_ne HO_139003.out BK124.out (by decide)) e_) hs_)); have n7_ := Z6.k (blk_kept Z6.z6 hkp (fun hs_ => (fun e_ => (Kd.R_ne HO_139003.out BK131.out (by decide)) e_) hs_)); have n8_ := Z6.k (blk_kept Z6.z8 hkp (fun hs_ => (fun e_ => (Kd.R_ne HO_139003.out BK138.out (by decide)) e_) hs_)); have n9_ := Z6.k (blk_kept Z6.z9 hkp (fun hs_ => (fun e_ => (Kd.R_ne HO_139003.out BK146.out (by decide)) e_) hs_)); have n10_ := Z6.k (Kd.R_mono (ok' := fun k_ => some k_ ≠ (.slice Ao44 t120.length co44 : Value).ownBlock ∧ some k_ ≠ (.slice Ao54 t128.length co54 : Value).ownBlock ∧ some k_ ≠ (.slice Ao64 t135.length co64 : Value).ownBlock ∧ some k_ ≠ (.slice Ao76 t142.length co76 : Value).ownBlock ∧ some k_ ≠ (.slice Ao119 t158.length co119 : Value).ownBlock) (Kd.R_keptB (HO153.out) hkp (fun k_ hk_ hs_ => (hk_.2.2.1) hs_)) (fun k_ hk_ => ⟨hk_.1.1, hk_.1.2.1, hk_.1.2.2.1, hk_.1.2.2.2.1, hk_.1.2.2.2.2⟩)); have n11_ := Z6.k (Kd.R_mono (ok' := fun k_ => some k_ ≠ (.slice Ao44 t120.length co44 : Value).ownBlock ∧ some k_ ≠ (.slice Ao54 t128.length co54 : Value).ownBlock ∧ some k_ ≠ (.slice Ao64 t135.length co64 : Value).ownBlock ∧ some k_ ≠ (.slice Ao76 t142.length co76 : Value).ownBlock ∧ some k_ ≠ (.slice Ao115 t151.length co115 : Value).ownBlock) (Kd.R_keptB (HO160.out) hkp (fun k_ hk_ hs_ => (hk_.2.2.1) hs_)) (fun k_ hk_ => ⟨hk_.1.1, hk_.1.2.1, hk_.1.2.2.1, hk_.1.2.2.2.1, hk_.1.2.2.2.2⟩)); have n12_ := Z6.k (hb); clear HO_125003 HO_132003 HO_139003 HO_147003 BK101 BK102 BK124 BK131 BK138 BK146 HO153 HO160 HB; have HO_125003 := n0_; have HO_132003 := n1_; have HO_139003 := n2_; have HO_147003 := n3_; have BK101 := n4_; have BK102 := n5_; have BK124 := n6_; have BK131 := n7_; have BK138 := n8_; have BK146 := n9_; have HO153 := n10_; have HO160 := n11_; have HB := n12_; clear n0_ n1_ n2_ n3_ n4_ n5_ n6_ n7_ n8_ n9_ n10_ n11_ n12_; (try clear hb); (try clear hkp); (try clear hy0)))
     (try simp only [Act.put, List.setIfInBounds_toArray, List.set_cons_zero, List.set_cons_succ])
     go_cut [82] (fun v82 wc => ∃ (kq : Nat) (x82_111 : Bool), v82 = .bool x82_111 ∧ Aside0 (laws_FnExactStackRows.j1 kq t123 x82_111 a0_0 a0_1 a0_2 l0_3 a1_0 a1_1 a1_2 l1_3 t117 t118 t119 t120 t139 t140 t141 t142 = some r) ∧ Aside0 (kq ≤ kj24) ∧ Aside0 (Kd.R (Kd.int .i64) 2 wc w.heap.size (fun k_ => some k_ ≠ ((.slice Ao54 t128.length co54) : Value).ownBlock ∧ some k_ ≠ ((.slice Ao64 t135.length co64) : Value).ownBlock ∧ some k_ ≠ ((.slice Ao76 t142.length co76) : Value).ownBlock) (.slice Ao44 t120.length co44) t120) ∧ Aside0 (Kd.R (Kd.int .i64) 2 wc w.heap.size (fun k_ => some k_ ≠ ((.slice Ao44 t120.length co44) : Value).ownBlock ∧ some k_ ≠ ((.slice Ao64 t135.length co64) : Value).ownBlock ∧ some k_ ≠ ((.slice Ao76 t142.length co76) : Value).ownBlock) (.slice Ao54 t128.length co54) t163) ∧ Aside0 (Kd.R (Kd.int .i64) 2 wc w.heap.size (fun k_ => some k_ ≠ ((.slice Ao44 t120.length co44) : Value).ownBlock ∧ some k_ ≠ ((.slice Ao54 t128.length co54) : Value).ownBlock ∧ some k_ ≠ ((.slice Ao76 t142.length co76) : Value).ownBlock) (.slice Ao64 t135.length co64) t165) ∧ Aside0 (Kd.R (Kd.int .i64) 2 wc w.heap.size (fun k_ => some k_ ≠ ((.slice Ao44 t120.length co44) : Value).ownBlock ∧ some k_ ≠ ((.slice Ao54 t128.length co54) : Value).ownBlock ∧ some k_ ≠ ((.slice Ao64 t135.length co64) : Value).ownBlock) (.slice Ao76 t142.length co76) t142) ∧ Aside0 (wc.heap[gb101]? = some (.cells #[.int .i64 a0_0, .int .i64 a0_1, .int .i64 a0_2, (.slice A0_3 l0_3.length c0_3)] 24 (0, 0))) ∧ Aside0 (wc.heap[gb102]? = some (.cells #[.int .i64 a1_0, .int .i64 a1_1, .int .i64 a1_2, (.slice A1_3 l1_3.length c1_3)] 24 (0, 0))) ∧ Aside0 (wc.heap[gb124]? = some (.cells #[.int .i64 t117, .int .i64 t118, .int .i64 t119, (.slice Ao44 t120.length co44)] 28 (0, 0))) ∧ Aside0 (wc.heap[gb131]? = some (.cells #[.int .i64 t125, .int .i64 t126, .int .i64 t127, (.slice Ao54 t128.length co54)] 28 (0, 0))) ∧ Aside0 (wc.heap[gb138]? = some (.cells #[.int .i64 t132, .int .i64 t133, .int .i64 t134, (.slice Ao64 t135.length co64)] 28 (0, 0))) ∧ Aside0 (wc.heap[gb146]? = some (.cells #[.int .i64 t139, .int .i64 t140, .int .i64 t141, (.slice Ao76 t142.length co76)] 28 (0, 0))) ∧ Aside0 (Below w.heap.size w wc))
     case first =>
      have H := HC112.out
      clear HC112
      by_cases c134 : t164 < 0
      ·rw [if_pos c134] at H
       have c134b0 : decide (t164 < 0) = true := decide_eq_true c134
       clear c134
       (first | rw [c134b0] | (simp only [i64_w, i32_w]; rw [c134b0]) | skip)
       have H' := Z6.k H
       clear H
       go_wp2
       go_meet
       case rel => exact ⟨_, (true), Z6.z122, H', ⟨(by have := HJ24.out; first | omega | exact Nat.le_refl _)⟩, ⟨Z6.z84⟩, ⟨Z6.z83⟩, ⟨Z6.z82⟩, ⟨Z6.z81⟩, ⟨Z6.z1⟩, ⟨Z6.z2⟩, ⟨Z6.z5⟩, ⟨Z6.z6⟩, ⟨Z6.z8⟩, ⟨Z6.z9⟩, ⟨Z6.z0⟩⟩
      rw [if_neg c134] at H
      have c134b0 : decide (t164 < 0) = false := decide_eq_false c134
      clear c134
      (first | rw [c134b0] | (simp only [i64_w, i32_w]; rw [c134b0]) | skip)
      replace H := Option.bind_eq_some_iff.mp H
      obtain ⟨t166, A1350, H⟩ := H
      replace H : (if t166 = true then (laws_FnExactStackRows.j1 kj24 t123 (t145 != t123) a0_0 a0_1 a0_2 l0_3 a1_0 a1_1 a1_2 l1_3 t117 t118 t119 t120 t139 t140 t141 t142) else (laws_FnExactStackRows.j1 kj24 t123 true a0_0 a0_1 a0_2 l0_3 a1_0 a1_1 a1_2 l1_3 t117 t118 t119 t120 t139 t140 t141 t142)) = some r := H
      have A135 := Z6.k A1350
      clear A1350
      by_cases c136 : t166 = true
      ·subst c136
       have H1 : (laws_FnExactStackRows.j1 kj24 t123 (t145 != t123) a0_0 a0_1 a0_2 l0_3 a1_0 a1_1 a1_2 l1_3 t117 t118 t119 t120 t139 t140 t141 t142) = some r := by rw [if_pos rfl] at H; exact H
       clear H
       have H := H1
       clear H1
       have H' := Z6.k H
       clear H
       have hnb137 := NB146_101.out
       have hnc137 := NB101_146.out
       have hnb138 := NB146_102.out
       have hnc138 := NB102_146.out
       have hnb139 := NB146_124.out
       have hnc139 := NB124_146.out
       have hnb140 := NB146_131.out
       have hnc140 := NB131_146.out
       have hnb141 := NB146_138.out
       have hnc141 := NB138_146.out
       have hcz142_0 : w133.cell? ⟨gb146, 0, none⟩ = some (.int .i64 t139) := (blk_cell BK146.out 0).trans rfl
       have hcz142_1 : w133.cell? ⟨gb146, 1, none⟩ = some (.int .i64 t140) := (blk_cell BK146.out 1).trans rfl
       have hcz142_2 : w133.cell? ⟨gb146, 2, none⟩ = some (.int .i64 t141) := (blk_cell BK146.out 2).trans rfl
       have hcz142_3 : w133.cell? ⟨gb146, 3, none⟩ = some (.slice Ao76 t142.length co76) := (blk_cell BK146.out 3).trans rfl
       have hfz142_0 := blk_frozen BK146.out 0
       have hfz142_1 := blk_frozen BK146.out 1
       have hfz142_2 := blk_frozen BK146.out 2
       have hfz142_3 := blk_frozen BK146.out 3
       have hnb143 := NB124_101.out
       have hnc143 := NB101_124.out
       have hnb144 := NB124_102.out
       have hnc144 := NB102_124.out
       have hnb145 := NB124_131.out
       have hnc145 := NB131_124.out
       have hnb146 := NB124_138.out
       have hnc146 := NB138_124.out
       have hcz147_0 : w133.cell? ⟨gb124, 0, none⟩ = some (.int .i64 t117) := (blk_cell BK124.out 0).trans rfl
       have hcz147_1 : w133.cell? ⟨gb124, 1, none⟩ = some (.int .i64 t118) := (blk_cell BK124.out 1).trans rfl
       have hcz147_2 : w133.cell? ⟨gb124, 2, none⟩ = some (.int .i64 t119) := (blk_cell BK124.out 2).trans rfl
       have hcz147_3 : w133.cell? ⟨gb124, 3, none⟩ = some (.slice Ao44 t120.length co44) := (blk_cell BK124.out 3).trans rfl
       have hfz147_0 := blk_frozen BK124.out 0
       have hfz147_1 := blk_frozen BK124.out 1
       have hfz147_2 := blk_frozen BK124.out 2
       have hfz147_3 := blk_frozen BK124.out 3
       go_wp2_with (first | (go_at_call 12; (with_reducible refine (laws_eqMatrix.calls kj24 t139 t140 t141 _ _ t142 t117 t118 t119 _ _ t120 true _ ?side1 ?side2 ?side3 ?side4 A135.out).mono ?_); (case side1 => exact Z6.z32); (case side2 => exact (Kd.R_reads' HO_147003.out).2.1); (case side3 => exact Z6.z106); (case side4 => exact (Kd.R_reads' HO_125003.out).2.1); rintro e w148 ⟨rfl, hb⟩; have n0_ := Z6.k (Kd.R_below Z6.z15 hb); have n1_ := Z6.k (Kd.R_below Z6.z14 hb); have n2_ := Z6.k (Kd.R_below Z6.z13 hb); have n3_ := Z6.k (Kd.R_below Z6.z12 hb); have n4_ := Z6.k (Kd.R_below Z6.z36 hb); have n5_ := Z6.k (Kd.R_below Z6.z87 hb); have n6_ := Z6.k (Z6.bb BK101 Z6.z1 hb); have n7_ := Z6.k (Z6.bb BK102 Z6.z2 hb); have n8_ := Z6.k (Z6.bb BK124 Z6.z5 hb); have n9_ := Z6.k (Z6.bb BK131 Z6.z6 hb); have n10_ := Z6.k (Z6.bb BK138 Z6.z8 hb); have n11_ := Z6.k (Z6.bb BK146 Z6.z9 hb); have n12_ := Z6.k (below_step Z6.z0 hb); clear HO_125003 HO_132003 HO_139003 HO_147003 HO153 HO160 BK101 BK102 BK124 BK131 BK138 BK146 HB; have HO_125003 := n0_; have HO_132003 := n1_; have HO_139003 := n2_; have HO_147003 := n3_; have HO153 := n4_; have HO160 := n5_; have BK101 := n6_; have BK102 := n7_; have BK124 := n8_; have BK131 := n9_; have BK138 := n10_; have BK146 := n11_; have HB := n12_; clear n0_ n1_ n2_ n3_ n4_ n5_ n6_ n7_ n8_ n9_ n10_ n11_ n12_; (try clear hb); (try clear hb2); (try clear hk); (try clear hi)))
       go_meet
       case rel => exact ⟨_, ((t145 != t123)), Z6.z122, H', ⟨(by have := HJ24.out; first | omega | exact Nat.le_refl _)⟩, ⟨Z6.z84⟩, ⟨Z6.z83⟩, ⟨Z6.z82⟩, ⟨Z6.z81⟩, ⟨Z6.z1⟩, ⟨Z6.z2⟩, ⟨Z6.z5⟩, ⟨Z6.z6⟩, ⟨Z6.z8⟩, ⟨Z6.z9⟩, ⟨Z6.z0⟩⟩
      replace c136 := Bool.eq_false_iff.mpr c136
      subst c136
      have H1 : (laws_FnExactStackRows.j1 kj24 t123 true a0_0 a0_1 a0_2 l0_3 a1_0 a1_1 a1_2 l1_3 t117 t118 t119 t120 t139 t140 t141 t142) = some r := by rw [if_neg (show ¬ (false = true) by decide)] at H; exact H
      clear H
      have H := H1
      clear H1
      have H' := Z6.k H
      clear H
      have hnb149 := NB146_101.out
      have hnc149 := NB101_146.out
      have hnb150 := NB146_102.out
      have hnc150 := NB102_146.out
      have hnb151 := NB146_124.out
      have hnc151 := NB124_146.out
      have hnb152 := NB146_131.out
      have hnc152 := NB131_146.out
      have hnb153 := NB146_138.out
      have hnc153 := NB138_146.out
      have hcz154_0 : w133.cell? ⟨gb146, 0, none⟩ = some (.int .i64 t139) := (blk_cell BK146.out 0).trans rfl
      have hcz154_1 : w133.cell? ⟨gb146, 1, none⟩ = some (.int .i64 t140) := (blk_cell BK146.out 1).trans rfl
      have hcz154_2 : w133.cell? ⟨gb146, 2, none⟩ = some (.int .i64 t141) := (blk_cell BK146.out 2).trans rfl
      have hcz154_3 : w133.cell? ⟨gb146, 3, none⟩ = some (.slice Ao76 t142.length co76) := (blk_cell BK146.out 3).trans rfl
      have hfz154_0 := blk_frozen BK146.out 0
      have hfz154_1 := blk_frozen BK146.out 1
      have hfz154_2 := blk_frozen BK146.out 2
      have hfz154_3 := blk_frozen BK146.out 3
      have hnb155 := NB124_101.out
      have hnc155 := NB101_124.out
      have hnb156 := NB124_102.out
      have hnc156 := NB102_124.out
      have hnb157 := NB124_131.out
      have hnc157 := NB131_124.out
      have hnb158 := NB124_138.out
      have hnc158 := NB138_124.out
      have hcz159_0 : w133.cell? ⟨gb124, 0, none⟩ = some (.int .i64 t117) := (blk_cell BK124.out 0).trans rfl
      have hcz159_1 : w133.cell? ⟨gb124, 1, none⟩ = some (.int .i64 t118) := (blk_cell BK124.out 1).trans rfl
      have hcz159_2 : w133.cell? ⟨gb124, 2, none⟩ = some (.int .i64 t119) := (blk_cell BK124.out 2).trans rfl
      have hcz159_3 : w133.cell? ⟨gb124, 3, none⟩ = some (.slice Ao44 t120.length co44) := (blk_cell BK124.out 3).trans rfl
      have hfz159_0 := blk_frozen BK124.out 0
      have hfz159_1 := blk_frozen BK124.out 1
      have hfz159_2 := blk_frozen BK124.out 2
      have hfz159_3 := blk_frozen BK124.out 3
      go_wp2_with (first | (go_at_call 12; (with_reducible refine (laws_eqMatrix.calls kj24 t139 t140 t141 _ _ t142 t117 t118 t119 _ _ t120 false _ ?side1 ?side2 ?side3 ?side4 A135.out).mono ?_); (case side1 => exact Z6.z32); (case side2 => exact (Kd.R_reads' HO_147003.out).2.1); (case side3 => exact Z6.z106); (case side4 => exact (Kd.R_reads' HO_125003.out).2.1); rintro e w160 ⟨rfl, hb⟩; have n0_ := Z6.k (Kd.R_below Z6.z15 hb); have n1_ := Z6.k (Kd.R_below Z6.z14 hb); have n2_ := Z6.k (Kd.R_below Z6.z13 hb); have n3_ := Z6.k (Kd.R_below Z6.z12 hb); have n4_ := Z6.k (Kd.R_below Z6.z36 hb); have n5_ := Z6.k (Kd.R_below Z6.z87 hb); have n6_ := Z6.k (Z6.bb BK101 Z6.z1 hb); have n7_ := Z6.k (Z6.bb BK102 Z6.z2 hb); have n8_ := Z6.k (Z6.bb BK124 Z6.z5 hb); have n9_ := Z6.k (Z6.bb BK131 Z6.z6 hb); have n10_ := Z6.k (Z6.bb BK138 Z6.z8 hb); have n11_ := Z6.k (Z6.bb BK146 Z6.z9 hb); have n12_ := Z6.k (below_step Z6.z0 hb); clear HO_125003 HO_132003 HO_139003 HO_147003 HO153 HO160 BK101 BK102 BK124 BK131 BK138 BK146 HB; have HO_125003 := n0_; have HO_132003 := n1_; have HO_139003 := n2_; have HO_147003 := n3_; have HO153 := n4_; have HO160 := n5_; have BK101 := n6_; have BK102 := n7_; have BK124 := n8_; have BK131 := n9_; have BK138 := n10_; have BK146 := n11_; have HB := n12_; clear n0_ n1_ n2_ n3_ n4_ n5_ n6_ n7_ n8_ n9_ n10_ n11_ n12_; (try clear hb); (try clear hb2); (try clear hk); (try clear hi)))
      go_meet
      case rel => exact ⟨_, (true), Z6.z122, H', ⟨(by have := HJ24.out; first | omega | exact Nat.le_refl _)⟩, ⟨Z6.z84⟩, ⟨Z6.z83⟩, ⟨Z6.z82⟩, ⟨Z6.z81⟩, ⟨Z6.z1⟩, ⟨Z6.z2⟩, ⟨Z6.z5⟩, ⟨Z6.z6⟩, ⟨Z6.z8⟩, ⟨Z6.z9⟩, ⟨Z6.z0⟩⟩
     case rest =>
      clear HC112
      try clear c1
      try clear p2
      try clear c10
      try clear c12
      try clear c13
      try clear c14
      try clear c15
      try clear c17
      try clear c103
      try clear c106
      try clear c109
      try clear c121
      try clear c122
      try clear c123
      try clear c124
      try clear c125
      try clear c128
      try clear c129
      try clear c130
      try clear c131
      try clear c134
      try clear c134b0
      try clear c136
      try clear c137
      try clear c138
      try clear c139
      try clear c140
      try clear c141
      try clear c143
      try clear c144
      try clear c145
      try clear c146
      try clear c149
      try clear c150
      try clear c151
      try clear c152
      try clear c153
      try clear c155
      try clear c156
      try clear c157
      try clear c158
      try clear hcz126_0
      try clear hcz126_1
      try clear hcz126_2
      try clear hcz126_3
      try clear hcz132_0
      try clear hcz132_1
      try clear hcz132_2
      try clear hcz132_3
      try clear hcz142_0
      try clear hcz142_1
      try clear hcz142_2
      try clear hcz142_3
      try clear hcz147_0
      try clear hcz147_1
      try clear hcz147_2
      try clear hcz147_3
      try clear hcz154_0
      try clear hcz154_1
      try clear hcz154_2
      try clear hcz154_3
      try clear hcz159_0
      try clear hcz159_1
      try clear hcz159_2
      try clear hcz159_3
      try clear hfz126_0
      try clear hfz126_1
      try clear hfz126_2
      try clear hfz126_3
      try clear hfz132_0
      try clear hfz132_1
      try clear hfz132_2
      try clear hfz132_3
      try clear hfz142_0
      try clear hfz142_1
      try clear hfz142_2
      try clear hfz142_3
      try clear hfz147_0
      try clear hfz147_1
      try clear hfz147_2
      try clear hfz147_3
      try clear hfz154_0
      try clear hfz154_1
      try clear hfz154_2
      try clear hfz154_3
      try clear hfz159_0
      try clear hfz159_1
      try clear hfz159_2
      try clear hfz159_3
      try clear hfz47_3
      try clear hfz53_0
      try clear hfz53_1
      try clear hfz53_2
      try clear hfz53_3
      try clear hfz56_0
      try clear hfz56_1
      try clear hfz56_2
      try clear hfz56_3
      try clear hfz63_0
      try clear hfz63_1
      try clear hfz63_2
      try clear hfz63_3
      try clear hfz66_0
      try clear hfz66_1
      try clear hfz66_2
      try clear hfz66_3
      try clear hfz67_0
      try clear hfz67_1
      try clear hfz67_2
      try clear hfz67_3
      try clear hfz75_0
      try clear hfz75_1
      try clear hfz75_2
      try clear hfz75_3
      try clear hfz84_0
      try clear hfz84_1
      try clear hfz84_2
      try clear hfz84_3
      try clear hfz89_0
      try clear hfz89_1
      try clear hfz89_2
      try clear hfz89_3
      try clear hfz96_0
      try clear hfz96_1
      try clear hfz96_2
      try clear hfz96_3
      obtain ⟨kq, x82_111, rfl, HA, HJ111, HO_125003, HO_132003, HO_139003, HO_147003, BK101, BK102, BK124, BK131, BK138, BK146, HB⟩ := hcut
      have hl132003_111 := (Kd.R_reads' HO_132003.out).1
      rw [hl132003_111] at HO_132003
      (try simp only [hl132003_111])
      (try simp only [hl132003_111] at BK101)
      (try simp only [hl132003_111] at BK102)
      (try simp only [hl132003_111] at BK124)
      (try simp only [hl132003_111] at BK131)
      (try simp only [hl132003_111] at BK138)
      (try simp only [hl132003_111] at BK146)
      (try simp only [hl132003_111] at HO_125003)
      (try simp only [hl132003_111] at HO_139003)
      (try simp only [hl132003_111] at HO_147003)
      have hl139003_111 := (Kd.R_reads' HO_139003.out).1
      rw [hl139003_111] at HO_139003
      (try simp only [hl139003_111])
      (try simp only [hl139003_111] at BK101)
      (try simp only [hl139003_111] at BK102)
      (try simp only [hl139003_111] at BK124)
      (try simp only [hl139003_111] at BK131)
      (try simp only [hl139003_111] at BK138)
      (try simp only [hl139003_111] at BK146)
      (try simp only [hl139003_111] at HO_125003)
      (try simp only [hl139003_111] at HO_132003)
      (try simp only [hl139003_111] at HO_147003)
      cases kq with
      | zero => exact absurd HA.out (by simp [laws_FnExactStackRows.j1])
      | succ kj111 =>
       have H := HA.out
       clear HA
       simp only [laws_FnExactStackRows.j1] at H
       by_cases c161 : x82_111 = true
       ·subst c161
        have H1 : (some false) = some r := by rw [if_pos rfl] at H; exact H
        clear H
        have H := H1
        clear H1
        obtain rfl := Option.some.inj H
        go_wp2
        go_ret
        exact ⟨Z6.z37, Z6.z0⟩
       replace c161 := Bool.eq_false_iff.mpr c161
       subst c161
       have H1 : ((laws_markMatrix.f kj111 t139 t140 t141 t142 1).bind fun bt167 => ((laws_heldMatrix.f kj111 t139 t140 t141 bt167.2 1).bind fun t169 => (if t169 < 0 then (some false) else (if t169 = bt167.1 then ((laws_toMatrix.f kj111 a0_0 a0_1 a0_2 l0_3).bind fun bt170 => ((laws_toMatrix.f kj111 a1_0 a1_1 a1_2 l1_3).bind fun bt176 => ((impl_StackRows.f kj111 bt170.1 bt170.2.1 bt170.2.2.1 bt170.2.2.2 bt176.1 bt176.2.1 bt176.2.2.1 bt176.2.2.2).bind fun bt182 => ((laws_eqMatrix.f kj111 bt182.1 bt182.2.1 bt182.2.2.1 bt182.2.2.2.1 t117 t118 t119 t120).bind fun t190 => (if t190 = true then (laws_FnExactStackRows.j2 kj111 bt167.1 (bt182.2.2.2.2 != t123) t139 t140 t141 bt167.2) else (laws_FnExactStackRows.j2 kj111 bt167.1 true t139 t140 t141 bt167.2)))))) else (some false))))) = some r := by rw [if_neg (show ¬ (false = true) by decide)] at H; exact H
       clear H
       have H := H1
       clear H1
       replace H := Option.bind_eq_some_iff.mp H
       obtain ⟨⟨t167, t168⟩, A1620, H⟩ := H
       replace H : ((laws_heldMatrix.f kj111 t139 t140 t141 t168 1).bind fun t169 => (if t169 < 0 then (some false) else (if t169 = t167 then ((laws_toMatrix.f kj111 a0_0 a0_1 a0_2 l0_3).bind fun bt170 => ((laws_toMatrix.f kj111 a1_0 a1_1 a1_2 l1_3).bind fun bt176 => ((impl_StackRows.f kj111 bt170.1 bt170.2.1 bt170.2.2.1 bt170.2.2.2 bt176.1 bt176.2.1 bt176.2.2.1 bt176.2.2.2).bind fun bt182 => ((laws_eqMatrix.f kj111 bt182.1 bt182.2.1 bt182.2.2.1 bt182.2.2.2.1 t117 t118 t119 t120).bind fun t190 => (if t190 = true then (laws_FnExactStackRows.j2 kj111 t167 (bt182.2.2.2.2 != t123) t139 t140 t141 t168) else (laws_FnExactStackRows.j2 kj111 t167 true t139 t140 t141 t168)))))) else (some false)))) = some r := H
       have A162 := Z6.k A1620
       clear A1620
       replace H := Option.bind_eq_some_iff.mp H
       obtain ⟨t169, A1630, H⟩ := H
       replace H : (if t169 < 0 then (some false) else (if t169 = t167 then ((laws_toMatrix.f kj111 a0_0 a0_1 a0_2 l0_3).bind fun bt170 => ((laws_toMatrix.f kj111 a1_0 a1_1 a1_2 l1_3).bind fun bt176 => ((impl_StackRows.f kj111 bt170.1 bt170.2.1 bt170.2.2.1 bt170.2.2.2 bt176.1 bt176.2.1 bt176.2.2.1 bt176.2.2.2).bind fun bt182 => ((laws_eqMatrix.f kj111 bt182.1 bt182.2.1 bt182.2.2.1 bt182.2.2.2.1 t117 t118 t119 t120).bind fun t190 => (if t190 = true then (laws_FnExactStackRows.j2 kj111 t167 (bt182.2.2.2.2 != t123) t139 t140 t141 t168) else (laws_FnExactStackRows.j2 kj111 t167 true t139 t140 t141 t168)))))) else (some false))) = some r := H
       have A163 := Z6.k A1630
       clear A1630
       by_cases c164 : t169 < 0
       ·rw [if_pos c164] at H
        have c164b0 : decide (t169 < 0) = true := decide_eq_true c164
        clear c164
        obtain rfl := Option.some.inj H
        have hnb165 := NB146_101.out
        have hnc165 := NB101_146.out
        have hnb166 := NB146_102.out
        have hnc166 := NB102_146.out
        have hnb167 := NB146_124.out
        have hnc167 := NB124_146.out
        have hnb168 := NB146_131.out
        have hnc168 := NB131_146.out
        have hnb169 := NB146_138.out
        have hnc169 := NB138_146.out
        have hcz170_0 : wc.cell? ⟨gb146, 0, none⟩ = some (.int .i64 t139) := (blk_cell BK146.out 0).trans rfl
        have hcz170_1 : wc.cell? ⟨gb146, 1, none⟩ = some (.int .i64 t140) := (blk_cell BK146.out 1).trans rfl
        have hcz170_2 : wc.cell? ⟨gb146, 2, none⟩ = some (.int .i64 t141) := (blk_cell BK146.out 2).trans rfl
        have hcz170_3 : wc.cell? ⟨gb146, 3, none⟩ = some (.slice Ao76 t142.length co76) := (blk_cell BK146.out 3).trans rfl
        have hfz170_0 := blk_frozen BK146.out 0
        have hfz170_1 := blk_frozen BK146.out 1
        have hfz170_2 := blk_frozen BK146.out 2
        have hfz170_3 := blk_frozen BK146.out 3
        go_wp2_with (first | ((with_reducible refine gate_callee (f := 17) rfl ?_); refine goesL_ (some 85) rfl rfl Try.func17 (by kernel_rfl) rfl #[.agg #[.int .i64 t139, .int .i64 t140, .int .i64 t141, .slice Ao76 t142.length co76], .int .i64 1] rfl Z6.z7 ?_; (with_reducible refine (laws_markMatrix.calls kj111 t139 t140 t141 (fun k_ => some k_ = (.slice Ao76 t142.length co76 : Value).ownBlock) (.slice Ao76 t142.length co76) t142 1 t167 t168 w _ ?side1 ?side2 A162.out).mono ?_); (case side1 => exact Z6.z0); (case side2 => exact Kd.R_tight rfl HO_147003.out); rintro e w171 ⟨rfl, hy0, hb, hkp⟩; refine ⟨_, rfl, ?_⟩; have n0_ := Z6.k (Kd.R_mono (ok' := fun k_ => some k_ ≠ (.slice Ao54 t163.length co54 : Value).ownBlock ∧ some k_ ≠ (.slice Ao64 t165.length co64 : Value).ownBlock ∧ some k_ ≠ (.slice Ao76 t142.length co76 : Value).ownBlock) (Kd.R_keptB (HO_125003.out) hkp (fun k_ hk_ hs_ => (hk_.2.2) hs_)) (fun k_ hk_ => ⟨hk_.1.1, hk_.1.2.1, hk_.1.2.2⟩)); have n1_ := Z6.k (Kd.R_mono (ok' := fun k_ => some k_ ≠ (.slice Ao44 t120.length co44 : Value).ownBlock ∧ some k_ ≠ (.slice Ao64 t165.length co64 : Value).ownBlock ∧ some k_ ≠ (.slice Ao76 t142.length co76 : Value).ownBlock) (Kd.R_keptB (HO_132003.out) hkp (fun k_ hk_ hs_ => (hk_.2.2) hs_)) (fun k_ hk_ => ⟨hk_.1.1, hk_.1.2.1, hk_.1.2.2⟩)); have n2_ := Z6.k (Kd.R_mono (ok' := fun k_ => some k_ ≠ (.slice Ao44 t120.length co44 : Value).ownBlock ∧ some k_ ≠ (.slice Ao54 t163.length co54 : Value).ownBlock ∧ some k_ ≠ (.slice Ao76 t142.length co76 : Value).ownBlock) (Kd.R_keptB (HO_139003.out) hkp (fun k_ hk_ hs_ => (hk_.2.2) hs_)) (fun k_ hk_ => ⟨hk_.1.1, hk_.1.2.1, hk_.1.2.2⟩)); have n3_ := Z6.k (Kd.R_reok rfl hy0 (fun k_ e_ => HO_147003.out.1 k_ e_)); have n4_ := Z6.k (blk_kept Z6.z1 hkp (fun hs_ => (fun e_ => (Kd.R_ne HO_147003.out BK101.out (by decide)) e_) hs_)); have n5_ := Z6.k (blk_kept Z6.z2 hkp (fun hs_ => (fun e_ => (Kd.R_ne HO_147003.out BK102.out (by decide)) e_) hs_)); have n6_ := Z6.k (blk_kept Z6.z5 hkp (fun hs_ => (fun e_ => (Kd.R_ne HO_147003.out BK124.out (by decide)) e_) hs_)); have n7_ := Z6.k (blk_kept Z6.z6 hkp (fun hs_ => (fun e_ => (Kd.R_ne HO_147003.out BK131.out (by decide)) e_) hs_)); have n8_ := Z6.k (blk_kept Z6.z8 hkp (fun hs_ => (fun e_ => (Kd.R_ne HO_147003.out BK138.out (by decide)) e_) hs_)); have n9_ := Z6.k (blk_kept Z6.z9 hkp (fun hs_ => (fun e_ => (Kd.R_ne HO_147003.out BK146.out (by decide)) e_) hs_)); have n10_ := Z6.k (hb); clear HO_125003 HO_132003 HO_139003 HO_147003 BK101 BK102 BK124 BK131 BK138 BK146 HB; have HO_125003 := n0_; have HO_132003 := n1_; have HO_139003 := n2_; have HO_147003 := n3_; have BK101 := n4_; have BK102 := n5_; have BK124 := n6_; have BK131 := n7_; have BK138 := n8_; have BK146 := n9_; have HB := n10_; clear n0_ n1_ n2_ n3_ n4_ n5_ n6_ n7_ n8_ n9_ n10_; (try clear hb); (try clear hkp); (try clear hy0); have hcz172_0 : w171.cell? ⟨gb146, 0, none⟩ = some (.int .i64 t139) := (blk_cell BK146.out 0).trans rfl; have hcz172_1 : w171.cell? ⟨gb146, 1, none⟩ = some (.int .i64 t140) := (blk_cell BK146.out 1).trans rfl; have hcz172_2 : w171.cell? ⟨gb146, 2, none⟩ = some (.int .i64 t141) := (blk_cell BK146.out 2).trans rfl; have hcz172_3 : w171.cell? ⟨gb146, 3, none⟩ = some (.slice Ao76 t142.length co76) := (blk_cell BK146.out 3).trans rfl; have hfz172_0 := blk_frozen BK146.out 0; have hfz172_1 := blk_frozen BK146.out 1; have hfz172_2 := blk_frozen BK146.out 2; have hfz172_3 := blk_frozen BK146.out 3) | ((with_reducible refine gate_callee (f := 18) rfl ?_); refine goesL_ (some 88) rfl rfl Try.func18 (by kernel_rfl) rfl #[.agg #[.int .i64 t139, .int .i64 t140, .int .i64 t141, .slice Ao76 t168.length co76], .int .i64 1] rfl Z6.z70 ?_; (with_reducible refine (laws_heldMatrix.calls kj111 t139 t140 t141 _ _ t168 1 t169 _ ?side1 ?side2 A163.out).mono ?_); (case side1 => exact Z6.z32); (case side2 => exact Z6.z94); rintro e w173 ⟨rfl, hb⟩; refine ⟨_, rfl, ?_⟩; have n0_ := Z6.k (Kd.R_below Z6.z15 hb); have n1_ := Z6.k (Kd.R_below Z6.z14 hb); have n2_ := Z6.k (Kd.R_below Z6.z13 hb); have n3_ := Z6.k (Kd.R_below Z6.z12 hb); have n4_ := Z6.k (Z6.bb BK101 Z6.z1 hb); have n5_ := Z6.k (Z6.bb BK102 Z6.z2 hb); have n6_ := Z6.k (Z6.bb BK124 Z6.z5 hb); have n7_ := Z6.k (Z6.bb BK131 Z6.z6 hb); have n8_ := Z6.k (Z6.bb BK138 Z6.z8 hb); have n9_ := Z6.k (Z6.bb BK146 Z6.z9 hb); have n10_ := Z6.k (below_step Z6.z0 hb); clear HO_125003 HO_132003 HO_139003 HO_147003 BK101 BK102 BK124 BK131 BK138 BK146 HB; have HO_125003 := n0_; have HO_132003 := n1_; have HO_139003 := n2_; have HO_147003 := n3_; have BK101 := n4_; have BK102 := n5_; have BK124 := n6_; have BK131 := n7_; have BK138 := n8_; have BK146 := n9_; have HB := n10_; clear n0_ n1_ n2_ n3_ n4_ n5_ n6_ n7_ n8_ n9_ n10_; (try clear hb); (try clear hb2); (try clear hk); (try clear hi)))
        go_ret
        exact ⟨Z6.z37, Z6.z0⟩
       rw [if_neg c164] at H
       have c164b0 : decide (t169 < 0) = false := decide_eq_false c164
       clear c164
       by_cases c174 : t169 = t167
       ·rw [if_pos c174] at H
        have c174b0 : (t169 == t167) = true := beq_iff_eq.mpr c174
        have c174b1 : (t169 != t167) = false := bne_eq_false_iff_eq.mpr c174
        clear c174
        replace H := Option.bind_eq_some_iff.mp H
        obtain ⟨⟨t170, t171, t172, t173⟩, A1750, H⟩ := H
        replace H : ((laws_toMatrix.f kj111 a1_0 a1_1 a1_2 l1_3).bind fun bt176 => ((impl_StackRows.f kj111 t170 t171 t172 t173 bt176.1 bt176.2.1 bt176.2.2.1 bt176.2.2.2).bind fun bt182 => ((laws_eqMatrix.f kj111 bt182.1 bt182.2.1 bt182.2.2.1 bt182.2.2.2.1 t117 t118 t119 t120).bind fun t190 => (if t190 = true then (laws_FnExactStackRows.j2 kj111 t167 (bt182.2.2.2.2 != t123) t139 t140 t141 t168) else (laws_FnExactStackRows.j2 kj111 t167 true t139 t140 t141 t168))))) = some r := H
        have A175 := Z6.k A1750
        clear A1750
        replace H := Option.bind_eq_some_iff.mp H
        obtain ⟨⟨t176, t177, t178, t179⟩, A1760, H⟩ := H
        replace H : ((impl_StackRows.f kj111 t170 t171 t172 t173 t176 t177 t178 t179).bind fun bt182 => ((laws_eqMatrix.f kj111 bt182.1 bt182.2.1 bt182.2.2.1 bt182.2.2.2.1 t117 t118 t119 t120).bind fun t190 => (if t190 = true then (laws_FnExactStackRows.j2 kj111 t167 (bt182.2.2.2.2 != t123) t139 t140 t141 t168) else (laws_FnExactStackRows.j2 kj111 t167 true t139 t140 t141 t168)))) = some r := H
        have A176 := Z6.k A1760
        clear A1760
        replace H := Option.bind_eq_some_iff.mp H
        obtain ⟨⟨t182, t183, t184, t185, t188⟩, A1770, H⟩ := H
        replace H : ((laws_eqMatrix.f kj111 t182 t183 t184 t185 t117 t118 t119 t120).bind fun t190 => (if t190 = true then (laws_FnExactStackRows.j2 kj111 t167 (t188 != t123) t139 t140 t141 t168) else (laws_FnExactStackRows.j2 kj111 t167 true t139 t140 t141 t168))) = some r := H
        have A177 := Z6.k A1770
        clear A1770
        have HC178 := Z6.k H
        clear H
        have hnb179 := NB146_101.out
        have hnc179 := NB101_146.out
        have hnb180 := NB146_102.out
        have hnc180 := NB102_146.out
        have hnb181 := NB146_124.out
        have hnc181 := NB124_146.out
        have hnb182 := NB146_131.out
        have hnc182 := NB131_146.out
        have hnb183 := NB146_138.out
        have hnc183 := NB138_146.out
        have hcz184_0 : wc.cell? ⟨gb146, 0, none⟩ = some (.int .i64 t139) := (blk_cell BK146.out 0).trans rfl
        have hcz184_1 : wc.cell? ⟨gb146, 1, none⟩ = some (.int .i64 t140) := (blk_cell BK146.out 1).trans rfl
        have hcz184_2 : wc.cell? ⟨gb146, 2, none⟩ = some (.int .i64 t141) := (blk_cell BK146.out 2).trans rfl
        have hcz184_3 : wc.cell? ⟨gb146, 3, none⟩ = some (.slice Ao76 t142.length co76) := (blk_cell BK146.out 3).trans rfl
        have hfz184_0 := blk_frozen BK146.out 0
        have hfz184_1 := blk_frozen BK146.out 1
        have hfz184_2 := blk_frozen BK146.out 2
        have hfz184_3 := blk_frozen BK146.out 3
        try go_wp2_with (first | ((with_reducible refine gate_callee (f := 17) rfl ?_); refine goesL_ (some 85) rfl rfl Try.func17 (by kernel_rfl) rfl #[.agg #[.int .i64 t139, .int .i64 t140, .int .i64 t141, .slice Ao76 t142.length co76], .int .i64 1] rfl Z6.z7 ?_; (with_reducible refine (laws_markMatrix.calls kj111 t139 t140 t141 (fun k_ => some k_ = (.slice Ao76 t142.length co76 : Value).ownBlock) (.slice Ao76 t142.length co76) t142 1 t167 t168 w _ ?side1 ?side2 A162.out).mono ?_); (case side1 => exact Z6.z0); (case side2 => exact Kd.R_tight rfl HO_147003.out); rintro e w185 ⟨rfl, hy0, hb, hkp⟩; refine ⟨_, rfl, ?_⟩; have n0_ := Z6.k (Kd.R_mono (ok' := fun k_ => some k_ ≠ (.slice Ao54 t163.length co54 : Value).ownBlock ∧ some k_ ≠ (.slice Ao64 t165.length co64 : Value).ownBlock ∧ some k_ ≠ (.slice Ao76 t142.length co76 : Value).ownBlock) (Kd.R_keptB (HO_125003.out) hkp (fun k_ hk_ hs_ => (hk_.2.2) hs_)) (fun k_ hk_ => ⟨hk_.1.1, hk_.1.2.1, hk_.1.2.2⟩)); have n1_ := Z6.k (Kd.R_mono (ok' := fun k_ => some k_ ≠ (.slice Ao44 t120.length co44 : Value).ownBlock ∧ some k_ ≠ (.slice Ao64 t165.length co64 : Value).ownBlock ∧ some k_ ≠ (.slice Ao76 t142.length co76 : Value).ownBlock) (Kd.R_keptB (HO_132003.out) hkp (fun k_ hk_ hs_ => (hk_.2.2) hs_)) (fun k_ hk_ => ⟨hk_.1.1, hk_.1.2.1, hk_.1.2.2⟩)); have n2_ := Z6.k (Kd.R_mono (ok' := fun k_ => some k_ ≠ (.slice Ao44 t120.length co44 : Value).ownBlock ∧ some k_ ≠ (.slice Ao54 t163.length co54 : Value).ownBlock ∧ some k_ ≠ (.slice Ao76 t142.length co76 : Value).ownBlock) (Kd.R_keptB (HO_139003.out) hkp (fun k_ hk_ hs_ => (hk_.2.2) hs_)) (fun k_ hk_ => ⟨hk_.1.1, hk_.1.2.1, hk_.1.2.2⟩)); have n3_ := Z6.k (Kd.R_reok rfl hy0 (fun k_ e_ => HO_147003.out.1 k_ e_)); have n4_ := Z6.k (blk_kept Z6.z1 hkp (fun hs_ => (fun e_ => (Kd.R_ne HO_147003.out BK101.out (by decide)) e_) hs_)); have n5_ := Z6.k (blk_kept Z6.z2 hkp (fun hs_ => (fun e_ => (Kd.R_ne HO_147003.out BK102.out (by decide)) e_) hs_)); have n6_ := Z6.k (blk_kept Z6.z5 hkp (fun hs_ => (fun e_ => (Kd.R_ne HO_147003.out BK124.out (by decide)) e_) hs_)); have n7_ := Z6.k (blk_kept Z6.z6 hkp (fun hs_ => (fun e_ => (Kd.R_ne HO_147003.out BK131.out (by decide)) e_) hs_)); have n8_ := Z6.k (blk_kept Z6.z8 hkp (fun hs_ => (fun e_ => (Kd.R_ne HO_147003.out BK138.out (by decide)) e_) hs_)); have n9_ := Z6.k (blk_kept Z6.z9 hkp (fun hs_ => (fun e_ => (Kd.R_ne HO_147003.out BK146.out (by decide)) e_) hs_)); have n10_ := Z6.k (hb); clear HO_125003 HO_132003 HO_139003 HO_147003 BK101 BK102 BK124 BK131 BK138 BK146 HB; have HO_125003 := n0_; have HO_132003 := n1_; have HO_139003 := n2_; have HO_147003 := n3_; have BK101 := n4_; have BK102 := n5_; have BK124 := n6_; have BK131 := n7_; have BK138 := n8_; have BK146 := n9_; have HB := n10_; clear n0_ n1_ n2_ n3_ n4_ n5_ n6_ n7_ n8_ n9_ n10_; (try clear hb); (try clear hkp); (try clear hy0); have hcz186_0 : w185.cell? ⟨gb146, 0, none⟩ = some (.int .i64 t139) := (blk_cell BK146.out 0).trans rfl; have hcz186_1 : w185.cell? ⟨gb146, 1, none⟩ = some (.int .i64 t140) := (blk_cell BK146.out 1).trans rfl; have hcz186_2 : w185.cell? ⟨gb146, 2, none⟩ = some (.int .i64 t141) := (blk_cell BK146.out 2).trans rfl; have hcz186_3 : w185.cell? ⟨gb146, 3, none⟩ = some (.slice Ao76 t142.length co76) := (blk_cell BK146.out 3).trans rfl; have hfz186_0 := blk_frozen BK146.out 0; have hfz186_1 := blk_frozen BK146.out 1; have hfz186_2 := blk_frozen BK146.out 2; have hfz186_3 := blk_frozen BK146.out 3) | ((with_reducible refine gate_callee (f := 18) rfl ?_); refine goesL_ (some 88) rfl rfl Try.func18 (by kernel_rfl) rfl #[.agg #[.int .i64 t139, .int .i64 t140, .int .i64 t141, .slice Ao76 t168.length co76], .int .i64 1] rfl Z6.z70 ?_; (with_reducible refine (laws_heldMatrix.calls kj111 t139 t140 t141 _ _ t168 1 t169 _ ?side1 ?side2 A163.out).mono ?_); (case side1 => exact Z6.z32); (case side2 => exact Z6.z94); rintro e w187 ⟨rfl, hb⟩; refine ⟨_, rfl, ?_⟩; have n0_ := Z6.k (Kd.R_below Z6.z15 hb); have n1_ := Z6.k (Kd.R_below Z6.z14 hb); have n2_ := Z6.k (Kd.R_below Z6.z13 hb); have n3_ := Z6.k (Kd.R_below Z6.z12 hb); have n4_ := Z6.k (Z6.bb BK101 Z6.z1 hb); have n5_ := Z6.k (Z6.bb BK102 Z6.z2 hb); have n6_ := Z6.k (Z6.bb BK124 Z6.z5 hb); have n7_ := Z6.k (Z6.bb BK131 Z6.z6 hb); have n8_ := Z6.k (Z6.bb BK138 Z6.z8 hb); have n9_ := Z6.k (Z6.bb BK146 Z6.z9 hb); have n10_ := Z6.k (below_step Z6.z0 hb); clear HO_125003 HO_132003 HO_139003 HO_147003 BK101 BK102 BK124 BK131 BK138 BK146 HB; have HO_125003 := n0_; have HO_132003 := n1_; have HO_139003 := n2_; have HO_147003 := n3_; have BK101 := n4_; have BK102 := n5_; have BK124 := n6_; have BK131 := n7_; have BK138 := n8_; have BK146 := n9_; have HB := n10_; clear n0_ n1_ n2_ n3_ n4_ n5_ n6_ n7_ n8_ n9_ n10_; (try clear hb); (try clear hb2); (try clear hk); (try clear hi)))
        have n0_ := Z6.k (Kd.R_drew HO_125003.out)
        have n1_ := Z6.k (Kd.R_drew HO_132003.out)
        have n2_ := Z6.k (Kd.R_drew HO_139003.out)
        have n3_ := Z6.k (Kd.R_drew HO_147003.out)
        have n4_ := Z6.k (blk_drew BK101.out)
        have n5_ := Z6.k (blk_drew BK102.out)
        have n6_ := Z6.k (blk_drew BK124.out)
        have n7_ := Z6.k (blk_drew BK131.out)
        have n8_ := Z6.k (blk_drew BK138.out)
        have n9_ := Z6.k (blk_drew BK146.out)
        have n10_ := Z6.k (below_drew1 HB.out)
        clear HO_125003 HO_132003 HO_139003 HO_147003 BK101 BK102 BK124 BK131 BK138 BK146 HB
        have HO_125003 := n0_
        have HO_132003 := n1_
        have HO_139003 := n2_
        have HO_147003 := n3_
        have BK101 := n4_
        have BK102 := n5_
        have BK124 := n6_
        have BK131 := n7_
        have BK138 := n8_
        have BK146 := n9_
        have HB := n10_
        clear n0_ n1_ n2_ n3_ n4_ n5_ n6_ n7_ n8_ n9_ n10_
        refine start_ (n := 11) (S := fun w' => w'.cell? ⟨gb101, 0, none⟩ = some (.int .i64 a0_0) ∧ w'.cell? ⟨gb101, 1, none⟩ = some (.int .i64 a0_1) ∧ w'.cell? ⟨gb101, 2, none⟩ = some (.int .i64 a0_2) ∧ w'.cell? ⟨gb101, 3, none⟩ = some (.slice A0_3 l0_3.length c0_3) ∧ w'.cell? ⟨gb102, 0, none⟩ = some (.int .i64 a1_0) ∧ w'.cell? ⟨gb102, 1, none⟩ = some (.int .i64 a1_1) ∧ w'.cell? ⟨gb102, 2, none⟩ = some (.int .i64 a1_2) ∧ w'.cell? ⟨gb102, 3, none⟩ = some (.slice A1_3 l1_3.length c1_3)) (ds := []) #[false, false, false, false, false, false, false, false, false, false, false] (by kernel_rfl) rfl rfl Z6.z4 (fun hHeld => ?_); refine with_tabW laws_FnExactStackRows.tab31 laws_FnExactStackRows.bits31 (fun HT_ HW_ => ?_)
        generalize w187.drew = w188 at HO_125003 HO_132003 HO_139003 HO_147003 BK101 BK102 BK124 BK131 BK138 BK146 HB hHeld ⊢
        refine take_ (i := 0) (N := some 95) (v := ?_) (a' := ?_) #[true, false, false, false, false, false, false, false, false, false, false] rfl rfl (take_ofW HT_.out HW_.out (by kernel_rfl)) (fun _ _ _ h => h) (Or.inl ⟨(by rfl), ?_⟩) hHeld ?_ ?_
        rotate_left
        ·rintro w' ⟨s0, s1, s2, s3, s4, s5, s6, s7⟩
         go_simp
         with_reducible rfl
        rotate_left
        ·exact Z6.z16
        refine take_ (i := 2) (N := some 97) (v := ?_) (a' := ?_) #[true, false, true, false, false, false, false, false, false, false, false] rfl rfl (take_ofW HT_.out HW_.out (by kernel_rfl)) (fun _ _ _ h => h) (Or.inl ⟨(by rfl), ?_⟩) hHeld ?_ ?_
        rotate_left
        ·rintro w' ⟨s0, s1, s2, s3, s4, s5, s6, s7⟩
         go_simp
         with_reducible rfl
        rotate_left
        ·exact Z6.z16
        refine join_ (σ := Value × Value × Value × Nat) 2 #[true, true, true, true, true, true, true, true, true, false, false] (fun s_ => [(96, .agg #[.int .i64 t170, .int .i64 t171, .int .i64 t172, s_.1]), (98, .agg #[.int .i64 t176, .int .i64 t177, .int .i64 t178, s_.2.1]), (99, .tuple #[.agg #[.int .i64 t182, .int .i64 t183, .int .i64 t184, s_.2.2.1], .int .i64 t188]), (15, .pointer (some ⟨s_.2.2.2, 0, none⟩)), (94, .tuple #[.agg #[.int .i64 t182, .int .i64 t183, .int .i64 t184, s_.2.2.1], .int .i64 t188]), (100, .agg #[.int .i64 t182, .int .i64 t183, .int .i64 t184, s_.2.2.1]), (101, .int .i64 t188)]) (fun s_ w' => (w'.cell? ⟨gb101, 0, none⟩ = some (.int .i64 a0_0) ∧ w'.cell? ⟨gb101, 1, none⟩ = some (.int .i64 a0_1) ∧ w'.cell? ⟨gb101, 2, none⟩ = some (.int .i64 a0_2) ∧ w'.cell? ⟨gb101, 3, none⟩ = some (.slice A0_3 l0_3.length c0_3) ∧ w'.cell? ⟨gb102, 0, none⟩ = some (.int .i64 a1_0) ∧ w'.cell? ⟨gb102, 1, none⟩ = some (.int .i64 a1_1) ∧ w'.cell? ⟨gb102, 2, none⟩ = some (.int .i64 a1_2) ∧ w'.cell? ⟨gb102, 3, none⟩ = some (.slice A1_3 l1_3.length c1_3)) ∧ (Kd.R (Kd.int .i64) 2 w' w.heap.size (fun k_ => some k_ ≠ (s_.2.1 : Value).ownBlock ∧ some k_ ≠ (s_.2.2.1 : Value).ownBlock ∧ some k_ ≠ (.slice Ao44 t120.length co44 : Value).ownBlock ∧ some k_ ≠ (.slice Ao54 t163.length co54 : Value).ownBlock ∧ some k_ ≠ (.slice Ao64 t165.length co64 : Value).ownBlock ∧ some k_ ≠ (.slice Ao76 t142.length co76 : Value).ownBlock) s_.1 t173) ∧ (Kd.R (Kd.int .i64) 2 w' w.heap.size (fun k_ => some k_ ≠ (s_.1 : Value).ownBlock ∧ some k_ ≠ (s_.2.2.1 : Value).ownBlock ∧ some k_ ≠ (.slice Ao44 t120.length co44 : Value).ownBlock ∧ some k_ ≠ (.slice Ao54 t163.length co54 : Value).ownBlock ∧ some k_ ≠ (.slice Ao64 t165.length co64 : Value).ownBlock ∧ some k_ ≠ (.slice Ao76 t142.length co76 : Value).ownBlock) s_.2.1 t179) ∧ (Kd.R (Kd.int .i64) 2 w' w.heap.size (fun k_ => some k_ ≠ (s_.1 : Value).ownBlock ∧ some k_ ≠ (s_.2.1 : Value).ownBlock ∧ some k_ ≠ (.slice Ao44 t120.length co44 : Value).ownBlock ∧ some k_ ≠ (.slice Ao54 t163.length co54 : Value).ownBlock ∧ some k_ ≠ (.slice Ao64 t165.length co64 : Value).ownBlock ∧ some k_ ≠ (.slice Ao76 t142.length co76 : Value).ownBlock) s_.2.2.1 t185) ∧ (Kd.R (Kd.int .i64) 2 w' w.heap.size (fun k_ => some k_ ≠ (s_.1 : Value).ownBlock ∧ some k_ ≠ (s_.2.1 : Value).ownBlock ∧ some k_ ≠ (s_.2.2.1 : Value).ownBlock ∧ some k_ ≠ (.slice Ao54 t163.length co54 : Value).ownBlock ∧ some k_ ≠ (.slice Ao64 t165.length co64 : Value).ownBlock ∧ some k_ ≠ (.slice Ao76 t142.length co76 : Value).ownBlock) (.slice Ao44 t120.length co44) t120) ∧ (Kd.R (Kd.int .i64) 2 w' w.heap.size (fun k_ => some k_ ≠ (s_.1 : Value).ownBlock ∧ some k_ ≠ (s_.2.1 : Value).ownBlock ∧ some k_ ≠ (s_.2.2.1 : Value).ownBlock ∧ some k_ ≠ (.slice Ao44 t120.length co44 : Value).ownBlock ∧ some k_ ≠ (.slice Ao64 t165.length co64 : Value).ownBlock ∧ some k_ ≠ (.slice Ao76 t142.length co76 : Value).ownBlock) (.slice Ao54 t163.length co54) t163) ∧ (Kd.R (Kd.int .i64) 2 w' w.heap.size (fun k_ => some k_ ≠ (s_.1 : Value).ownBlock ∧ some k_ ≠ (s_.2.1 : Value).ownBlock ∧ some k_ ≠ (s_.2.2.1 : Value).ownBlock ∧ some k_ ≠ (.slice Ao44 t120.length co44 : Value).ownBlock ∧ some k_ ≠ (.slice Ao54 t163.length co54 : Value).ownBlock ∧ some k_ ≠ (.slice Ao76 t142.length co76 : Value).ownBlock) (.slice Ao64 t165.length co64) t165) ∧ (Kd.R (Kd.int .i64) 2 w' w.heap.size (fun k_ => some k_ ≠ (s_.1 : Value).ownBlock ∧ some k_ ≠ (s_.2.1 : Value).ownBlock ∧ some k_ ≠ (s_.2.2.1 : Value).ownBlock ∧ some k_ ≠ (.slice Ao44 t120.length co44 : Value).ownBlock ∧ some k_ ≠ (.slice Ao54 t163.length co54 : Value).ownBlock ∧ some k_ ≠ (.slice Ao64 t165.length co64 : Value).ownBlock) (.slice Ao76 t142.length co76) t168) ∧ (w'.heap[gb101]? = some (.cells #[.int .i64 a0_0, .int .i64 a0_1, .int .i64 a0_2, .slice A0_3 l0_3.length c0_3] 24 (0, 0))) ∧ (w'.heap[gb102]? = some (.cells #[.int .i64 a1_0, .int .i64 a1_1, .int .i64 a1_2, .slice A1_3 l1_3.length c1_3] 24 (0, 0))) ∧ (w'.heap[gb124]? = some (.cells #[.int .i64 t117, .int .i64 t118, .int .i64 t119, .slice Ao44 t120.length co44] 28 (0, 0))) ∧ (w'.heap[gb131]? = some (.cells #[.int .i64 t125, .int .i64 t126, .int .i64 t127, .slice Ao54 t163.length co54] 28 (0, 0))) ∧ (w'.heap[gb138]? = some (.cells #[.int .i64 t132, .int .i64 t133, .int .i64 t134, .slice Ao64 t165.length co64] 28 (0, 0))) ∧ (w'.heap[gb146]? = some (.cells #[.int .i64 t139, .int .i64 t140, .int .i64 t141, .slice Ao76 t142.length co76] 28 (0, 0))) ∧ (w'.heap[s_.2.2.2]? = some (.cells #[.int .i64 0, .int .i64 0, .int .i64 0, .slice none 0 0] 28 (0, 0))) ∧ (w.heap.size ≤ s_.2.2.2) ∧ (w.heap.size ≤ s_.2.2.2) ∧ (gb101 ≠ s_.2.2.2) ∧ (s_.2.2.2 ≠ gb101) ∧ (gb102 ≠ s_.2.2.2) ∧ (s_.2.2.2 ≠ gb102) ∧ (gb124 ≠ s_.2.2.2) ∧ (s_.2.2.2 ≠ gb124) ∧ (gb131 ≠ s_.2.2.2) ∧ (s_.2.2.2 ≠ gb131) ∧ (gb138 ≠ s_.2.2.2) ∧ (s_.2.2.2 ≠ gb138) ∧ (gb146 ≠ s_.2.2.2) ∧ (s_.2.2.2 ≠ gb146) ∧ (Below w.heap.size w w')) ?_ ?_
        rotate_left
        ·intro hCont
         refine two_ (i := 1) (j := 8) (Ni := some 96) (Nj := some 15) #[true, true, true, false, false, false, false, false, false, false, false] #[true, false, true, false, false, false, false, false, true, false, false] rfl rfl rfl rfl (two_of HT_.out (by kernel_rfl)) (by decide) (by decide) (fun K hK => ?_) (fun K hK => ?_)
         ·skip
          refine goes_ Try.func10 (by kernel_rfl) rfl #[.agg #[.int .i64 a0_0, .int .i64 a0_1, .int .i64 a0_2, .slice A0_3 l0_3.length c0_3]] (by rfl) rfl rfl Z6.z7 ?_
          with_reducible refine (laws_toMatrix.calls kj111 a0_0 a0_1 a0_2 _ _ l0_3 t170 t171 t172 t173 _ ?side1 ?side2 A175.out).mono ?_
          (case side1 => exact Z6.z20)
          (case side2 => exact HC0_3.out)
          rintro e w189 ⟨v174, rfl, ho0, hb⟩
          refine ⟨_, rfl, ?_⟩
          have n0_ := Z6.k (Kd.R_elder' Z6.z15 (Kd.R_base ho0) hb)
          have n1_ := Z6.k (Kd.R_elder' Z6.z14 (Kd.R_base ho0) hb)
          have n2_ := Z6.k (Kd.R_elder' Z6.z13 (Kd.R_base ho0) hb)
          have n3_ := Z6.k (Kd.R_elder' Z6.z12 (Kd.R_base ho0) hb)
          have n4_ := Z6.k (Kd.R_lower (Kd.R_new' (Kd.R_new' (Kd.R_new' (Kd.R_new' ho0 (Kd.R_lt Z6.z15)) (Kd.R_lt Z6.z14)) (Kd.R_lt Z6.z13)) (Kd.R_lt Z6.z12)) (below_size Z6.z0))
          have n5_ := Z6.k (Z6.bb BK101 Z6.z1 hb)
          have n6_ := Z6.k (Z6.bb BK102 Z6.z2 hb)
          have n7_ := Z6.k (Z6.bb BK124 Z6.z5 hb)
          have n8_ := Z6.k (Z6.bb BK131 Z6.z6 hb)
          have n9_ := Z6.k (Z6.bb BK138 Z6.z8 hb)
          have n10_ := Z6.k (Z6.bb BK146 Z6.z9 hb)
          have n11_ := Z6.k (below_step Z6.z0 hb)
          clear HO_125003 HO_132003 HO_139003 HO_147003 BK101 BK102 BK124 BK131 BK138 BK146 HB
          have HO_125003 := n0_
          have HO_132003 := n1_
          have HO_139003 := n2_
          have HO_147003 := n3_
          have HO175 := n4_
          have BK101 := n5_
          have BK102 := n6_
          have BK124 := n7_
          have BK131 := n8_
          have BK138 := n9_
          have BK146 := n10_
          have HB := n11_
          clear n0_ n1_ n2_ n3_ n4_ n5_ n6_ n7_ n8_ n9_ n10_ n11_
          (try clear hb)
          (try clear hb2)
          (try clear hk)
          (try clear hi)
          (try clear ho0)
          refine hK.out _ _ Z6.z4 (fun hHeld => ?_)
          clear hK K
          refine norm_ (a' := ?_) ?_ ?_
          rotate_left
          ·show Act.put _ (some 96) _ = _
           simp only [Act.put, List.setIfInBounds_toArray, List.set_cons_zero, List.set_cons_succ, i64_w, i32_w]
           rfl
          refine two_ (i := 3) (j := 8) (Ni := some 98) (Nj := some 15) #[true, true, true, true, false, false, false, false, false, false, false] #[true, true, true, false, false, false, false, false, true, false, false] rfl rfl rfl rfl (two_of HT_.out (by kernel_rfl)) (by decide) (by decide) (fun K hK => ?_) (fun K hK => ?_)
          ·skip
           refine goes_ Try.func10 (by kernel_rfl) rfl #[.agg #[.int .i64 a1_0, .int .i64 a1_1, .int .i64 a1_2, .slice A1_3 l1_3.length c1_3]] (by rfl) rfl rfl Z6.z7 ?_
           with_reducible refine (laws_toMatrix.calls kj111 a1_0 a1_1 a1_2 _ _ l1_3 t176 t177 t178 t179 _ ?side1 ?side2 A176.out).mono ?_
           (case side1 => exact Z6.z19)
           (case side2 => exact HC1_3.out)
           rintro e w190 ⟨v180, rfl, ho0, hb⟩
           refine ⟨_, rfl, ?_⟩
           have n0_ := Z6.k (Kd.R_elder' Z6.z15 (Kd.R_base ho0) hb)
           have n1_ := Z6.k (Kd.R_elder' Z6.z14 (Kd.R_base ho0) hb)
           have n2_ := Z6.k (Kd.R_elder' Z6.z13 (Kd.R_base ho0) hb)
           have n3_ := Z6.k (Kd.R_elder' Z6.z12 (Kd.R_base ho0) hb)
           have n4_ := Z6.k (Kd.R_elder' Z6.z26 (Kd.R_base ho0) hb)
           have n5_ := Z6.k (Kd.R_lower (Kd.R_new' (Kd.R_new' (Kd.R_new' (Kd.R_new' (Kd.R_new' ho0 (Kd.R_lt Z6.z15)) (Kd.R_lt Z6.z14)) (Kd.R_lt Z6.z13)) (Kd.R_lt Z6.z12)) (Kd.R_lt Z6.z26)) (below_size Z6.z0))
           have n6_ := Z6.k (Z6.bb BK101 Z6.z1 hb)
           have n7_ := Z6.k (Z6.bb BK102 Z6.z2 hb)
           have n8_ := Z6.k (Z6.bb BK124 Z6.z5 hb)
           have n9_ := Z6.k (Z6.bb BK131 Z6.z6 hb)
           have n10_ := Z6.k (Z6.bb BK138 Z6.z8 hb)
           have n11_ := Z6.k (Z6.bb BK146 Z6.z9 hb)
           have n12_ := Z6.k (below_step Z6.z0 hb)
           clear HO_125003 HO_132003 HO_139003 HO_147003 HO175 BK101 BK102 BK124 BK131 BK138 BK146 HB
           have HO_125003 := n0_
           have HO_132003 := n1_
           have HO_139003 := n2_
           have HO_147003 := n3_
           have HO175 := n4_
           have HO181 := n5_
           have BK101 := n6_
           have BK102 := n7_
           have BK124 := n8_
           have BK131 := n9_
           have BK138 := n10_
           have BK146 := n11_
           have HB := n12_
           clear n0_ n1_ n2_ n3_ n4_ n5_ n6_ n7_ n8_ n9_ n10_ n11_ n12_
           (try clear hb)
           (try clear hb2)
           (try clear hk)
           (try clear hi)
           (try clear ho0)
           obtain ⟨Ao191, co191, eo191⟩ := Kd.R_slice HO175.out
           (first | subst eo191 | (injection eo191 with f1_ f2_ f3_; have f4_ := f1_.symm; have f5_ := f3_.symm; clear f1_ f2_ f3_; subst f4_; subst f5_))
           obtain ⟨Ao192, co192, eo192⟩ := Kd.R_slice HO181.out
           (first | subst eo192 | (injection eo192 with f1_ f2_ f3_; have f4_ := f1_.symm; have f5_ := f3_.symm; clear f1_ f2_ f3_; subst f4_; subst f5_))
           refine hK.out _ _ Z6.z4 (fun hHeld => ?_)
           clear hK K
           refine norm_ (a' := ?_) ?_ ?_
           rotate_left
           ·show Act.put _ (some 98) _ = _
            simp only [Act.put, List.setIfInBounds_toArray, List.set_cons_zero, List.set_cons_succ, i64_w, i32_w]
            rfl
           refine two_ (i := 4) (j := 8) (Ni := some 99) (Nj := some 15) #[true, true, true, true, true, false, false, false, false, false, false] #[true, true, true, true, false, false, false, false, true, false, false] rfl rfl rfl rfl (two_of HT_.out (by kernel_rfl)) (by decide) (by decide) (fun K hK => ?_) (fun K hK => ?_)
           ·skip
            refine goes_ Try.func20 (by kernel_rfl) rfl #[.agg #[.int .i64 t170, .int .i64 t171, .int .i64 t172, .slice Ao191 t173.length co191], .agg #[.int .i64 t176, .int .i64 t177, .int .i64 t178, .slice Ao192 t179.length co192]] (by rfl) rfl rfl Z6.z7 ?_
            with_reducible refine (impl_StackRows.calls kj111 t170 t171 t172 (fun k_ => some k_ = (.slice Ao191 t173.length co191 : Value).ownBlock) _ _ t173 t176 t177 t178 (fun k_ => some k_ = (.slice Ao192 t179.length co192 : Value).ownBlock) _ _ t179 t182 t183 t184 t185 t188 _ ?side1 ?side2 A177.out).mono ?_
            (case side1 => exact (by exact Kd.R_V (Kd.R_tight rfl (Kd.R_types (Kd.R_types (Kd.R_types (Kd.R_types (Kd.R_types (Kd.R_types (HO175.out) BK101.out (by decide)) BK102.out (by decide)) BK124.out (by decide)) BK131.out (by decide)) BK138.out (by decide)) BK146.out (by decide)))))
            (case side2 => exact (by exact Kd.R_V (Kd.R_tight rfl (Kd.R_types (Kd.R_types (Kd.R_types (Kd.R_types (Kd.R_types (Kd.R_types (HO181.out) BK101.out (by decide)) BK102.out (by decide)) BK124.out (by decide)) BK131.out (by decide)) BK138.out (by decide)) BK146.out (by decide)))))
            rintro e w193 ⟨v186, rfl, ho0, hb⟩
            refine ⟨_, rfl, ?_⟩
            have n0_ := Z6.k (Kd.R_elder' Z6.z15 (Kd.R_base ho0) hb)
            have n1_ := Z6.k (Kd.R_elder' Z6.z14 (Kd.R_base ho0) hb)
            have n2_ := Z6.k (Kd.R_elder' Z6.z13 (Kd.R_base ho0) hb)
            have n3_ := Z6.k (Kd.R_elder' Z6.z12 (Kd.R_base ho0) hb)
            have n4_ := Z6.k (Kd.R_elder' Z6.z26 (Kd.R_base ho0) hb)
            have n5_ := Z6.k (Kd.R_elder' Z6.z38 (Kd.R_base ho0) hb)
            have n6_ := Z6.k (Kd.R_lower (Kd.R_new' (Kd.R_new' (Kd.R_new' (Kd.R_new' (Kd.R_new' (Kd.R_new' (Kd.R_mono (ok' := fun k_ => True) ho0 (fun _ hk_ => trivial)) (Kd.R_lt Z6.z15)) (Kd.R_lt Z6.z14)) (Kd.R_lt Z6.z13)) (Kd.R_lt Z6.z12)) (Kd.R_lt Z6.z26)) (Kd.R_lt Z6.z38)) (below_size Z6.z0))
            have n7_ := Z6.k (Z6.bb BK101 Z6.z1 hb)
            have n8_ := Z6.k (Z6.bb BK102 Z6.z2 hb)
            have n9_ := Z6.k (Z6.bb BK124 Z6.z5 hb)
            have n10_ := Z6.k (Z6.bb BK131 Z6.z6 hb)
            have n11_ := Z6.k (Z6.bb BK138 Z6.z8 hb)
            have n12_ := Z6.k (Z6.bb BK146 Z6.z9 hb)
            have n13_ := Z6.k (below_step Z6.z0 hb)
            clear HO_125003 HO_132003 HO_139003 HO_147003 HO175 HO181 BK101 BK102 BK124 BK131 BK138 BK146 HB
            have HO_125003 := n0_
            have HO_132003 := n1_
            have HO_139003 := n2_
            have HO_147003 := n3_
            have HO175 := n4_
            have HO181 := n5_
            have HO187 := n6_
            have BK101 := n7_
            have BK102 := n8_
            have BK124 := n9_
            have BK131 := n10_
            have BK138 := n11_
            have BK146 := n12_
            have HB := n13_
            clear n0_ n1_ n2_ n3_ n4_ n5_ n6_ n7_ n8_ n9_ n10_ n11_ n12_ n13_
            (try clear hb)
            (try clear hb2)
            (try clear hk)
            (try clear hi)
            (try clear ho0)
            refine hK.out _ _ Z6.z4 (fun hHeld => ?_)
            clear hK K
            refine norm_ (a' := ?_) ?_ ?_
            rotate_left
            ·show Act.put _ (some 99) _ = _
             simp only [Act.put, List.setIfInBounds_toArray, List.set_cons_zero, List.set_cons_succ, i64_w, i32_w]
             rfl
            refine pure_ (i := 5) (N := some 94) (v := ?_) (a' := ?_) #[true, true, true, true, true, true, false, false, false, false, false] rfl rfl (any_of HT_.out (by kernel_rfl)) (fun _ _ _ h => h) (Or.inl ⟨(by rfl), ?_⟩) ?_ ?_
            rotate_left
            ·intro w'
             go_simp
             with_reducible rfl
            rotate_left
            ·exact Z6.z16
            refine pure_ (i := 6) (N := some 100) (v := ?_) (a' := ?_) #[true, true, true, true, true, true, true, false, false, false, false] rfl rfl (any_of HT_.out (by kernel_rfl)) (fun _ _ _ h => h) (Or.inl ⟨(by rfl), ?_⟩) ?_ ?_
            rotate_left
            ·intro w'
             go_simp
             with_reducible rfl
            rotate_left
            ·exact Z6.z16
            refine pure_ (i := 7) (N := some 101) (v := ?_) (a' := ?_) #[true, true, true, true, true, true, true, true, false, false, false] rfl rfl (any_of HT_.out (by kernel_rfl)) (fun _ _ _ h => h) (Or.inl ⟨(by rfl), ?_⟩) ?_ ?_
            rotate_left
            ·intro w'
             go_simp
             with_reducible rfl
            rotate_left
            ·exact Z6.z16
            refine one_ (i := 8) (N := some 15) #[true, true, true, true, true, true, true, true, true, false, false] rfl rfl (one_of HT_.out (by kernel_rfl)) (by decide) (fun K hK => ?_)
            refine box_step ?hg (N := 15) ?hd (cs := #[.int .i64 0, .int .i64 0, .int .i64 0, .slice none 0 0]) (t := 28) ?hr ?_; (case hd => rfl); (case hg => rfl); (case hr => first | (go_simp; done) | (go_simp; rfl))
            intro gb189 hg w194 hbox hb
            have n0_ := Z6.k (Kd.R_below Z6.z15 hb)
            have n1_ := Z6.k (Kd.R_below Z6.z14 hb)
            have n2_ := Z6.k (Kd.R_below Z6.z13 hb)
            have n3_ := Z6.k (Kd.R_below Z6.z12 hb)
            have n4_ := Z6.k (Kd.R_below Z6.z26 hb)
            have n5_ := Z6.k (Kd.R_below Z6.z38 hb)
            have n6_ := Z6.k (Kd.R_below (by (with_reducible repeat (first | apply Kd.R_alloc | apply Kd.R_drewN | apply Kd.R_drew)); exact HO187.out) hb)
            have n7_ := Z6.k (Z6.bb BK101 Z6.z1 hb)
            have n8_ := Z6.k (Z6.bb BK102 Z6.z2 hb)
            have n9_ := Z6.k (Z6.bb BK124 Z6.z5 hb)
            have n10_ := Z6.k (Z6.bb BK131 Z6.z6 hb)
            have n11_ := Z6.k (Z6.bb BK138 Z6.z8 hb)
            have n12_ := Z6.k (Z6.bb BK146 Z6.z9 hb)
            have n13_ := Z6.k (below_step Z6.z0 hb)
            have n14_ := Z6.k (hbox)
            have n15_ := Z6.k (show w.heap.size ≤ gb189 from (by rw [hg]; exact (below_size Z6.z0)))
            have n16_ := Z6.k (show w.heap.size ≤ gb189 from (by rw [hg]; exact (below_size Z6.z0)))
            have n17_ := Z6.k (show gb101 ≠ gb189 from Z6.z76)
            have n18_ := Z6.k (show gb189 ≠ gb101 from Z6.z77)
            have n19_ := Z6.k (show gb102 ≠ gb189 from Z6.z85)
            have n20_ := Z6.k (show gb189 ≠ gb102 from Z6.z86)
            have n21_ := Z6.k (show gb124 ≠ gb189 from Z6.z103)
            have n22_ := Z6.k (show gb189 ≠ gb124 from Z6.z104)
            have n23_ := Z6.k (show gb131 ≠ gb189 from Z6.z124)
            have n24_ := Z6.k (show gb189 ≠ gb131 from Z6.z125)
            have n25_ := Z6.k (show gb138 ≠ gb189 from (by rw [hg]; exact Nat.ne_of_lt (Z6.bl BK138 Z6.z8)))
            have n26_ := Z6.k (show gb189 ≠ gb138 from (by rw [hg]; exact Nat.ne_of_gt (Z6.bl BK138 Z6.z8)))
            have n27_ := Z6.k (show gb146 ≠ gb189 from (by rw [hg]; exact Nat.ne_of_lt (Z6.bl BK146 Z6.z9)))
            have n28_ := Z6.k (show gb189 ≠ gb146 from (by rw [hg]; exact Nat.ne_of_gt (Z6.bl BK146 Z6.z9)))
            clear HO_125003 HO_132003 HO_139003 HO_147003 HO175 HO181 HO187 BK101 BK102 BK124 BK131 BK138 BK146 HB
            have HO_125003 := n0_
            have HO_132003 := n1_
            have HO_139003 := n2_
            have HO_147003 := n3_
            have HO175 := n4_
            have HO181 := n5_
            have HO187 := n6_
            have BK101 := n7_
            have BK102 := n8_
            have BK124 := n9_
            have BK131 := n10_
            have BK138 := n11_
            have BK146 := n12_
            have HB := n13_
            have BK189 := n14_
            have GW189 := n15_
            have GE189 := n16_
            have NB101_189 := n17_
            have NB189_101 := n18_
            have NB102_189 := n19_
            have NB189_102 := n20_
            have NB124_189 := n21_
            have NB189_124 := n22_
            have NB131_189 := n23_
            have NB189_131 := n24_
            have NB138_189 := n25_
            have NB189_138 := n26_
            have NB146_189 := n27_
            have NB189_146 := n28_
            clear n0_ n1_ n2_ n3_ n4_ n5_ n6_ n7_ n8_ n9_ n10_ n11_ n12_ n13_ n14_ n15_ n16_ n17_ n18_ n19_ n20_ n21_ n22_ n23_ n24_ n25_ n26_ n27_ n28_ hb hbox hg
            refine hK.out _ _ Z6.z4 (fun hHeld => ?_)
            clear hK K
            refine norm_ (a' := ?_) ?_ ?_
            rotate_left
            ·show Act.put _ (some 15) _ = _
             simp only [Act.put, List.setIfInBounds_toArray, List.set_cons_zero, List.set_cons_succ, i64_w, i32_w]
             rfl
            exact norm_ Z6.z48 (hCont (.slice Ao191 t173.length co191, .slice Ao192 t179.length co192, v186, gb189) _ ⟨hHeld, Z6.z45, Z6.z44, Z6.z43, Z6.z42, Z6.z41, Z6.z40, Z6.z39, Z6.z1, Z6.z2, Z6.z5, Z6.z6, Z6.z8, Z6.z9, Z6.z30, GW189.out, GE189.out, NB101_189.out, NB189_101.out, NB102_189.out, NB189_102.out, NB124_189.out, NB189_124.out, NB131_189.out, NB189_131.out, NB138_189.out, NB189_138.out, NB146_189.out, NB189_146.out, Z6.z3⟩)
           skip
           refine box_step ?hg (N := 15) ?hd (cs := #[.int .i64 0, .int .i64 0, .int .i64 0, .slice none 0 0]) (t := 28) ?hr ?_; (case hd => rfl); (case hg => rfl); (case hr => first | (go_simp; done) | (go_simp; rfl))
           intro gb189 hg w191 hbox hb
           have n0_ := Z6.k (Kd.R_below Z6.z15 hb)
           have n1_ := Z6.k (Kd.R_below Z6.z14 hb)
           have n2_ := Z6.k (Kd.R_below Z6.z13 hb)
           have n3_ := Z6.k (Kd.R_below Z6.z12 hb)
           have n4_ := Z6.k (Kd.R_below Z6.z26 hb)
           have n5_ := Z6.k (Kd.R_below Z6.z38 hb)
           have n6_ := Z6.k (Z6.bb BK101 Z6.z1 hb)
           have n7_ := Z6.k (Z6.bb BK102 Z6.z2 hb)
           have n8_ := Z6.k (Z6.bb BK124 Z6.z5 hb)
           have n9_ := Z6.k (Z6.bb BK131 Z6.z6 hb)
           have n10_ := Z6.k (Z6.bb BK138 Z6.z8 hb)
           have n11_ := Z6.k (Z6.bb BK146 Z6.z9 hb)
           have n12_ := Z6.k (below_step Z6.z0 hb)
           have n13_ := Z6.k (hbox)
           have n14_ := Z6.k (show w.heap.size ≤ gb189 from (by rw [hg]; exact (below_size Z6.z0)))
           have n15_ := Z6.k (show w.heap.size ≤ gb189 from (by rw [hg]; exact (below_size Z6.z0)))
           have n16_ := Z6.k (show gb101 ≠ gb189 from Z6.z76)
           have n17_ := Z6.k (show gb189 ≠ gb101 from Z6.z77)
           have n18_ := Z6.k (show gb102 ≠ gb189 from Z6.z85)
           have n19_ := Z6.k (show gb189 ≠ gb102 from Z6.z86)
           have n20_ := Z6.k (show gb124 ≠ gb189 from Z6.z103)
           have n21_ := Z6.k (show gb189 ≠ gb124 from Z6.z104)
           have n22_ := Z6.k (show gb131 ≠ gb189 from Z6.z124)
           have n23_ := Z6.k (show gb189 ≠ gb131 from Z6.z125)
           have n24_ := Z6.k (show gb138 ≠ gb189 from (by rw [hg]; exact Nat.ne_of_lt (Z6.bl BK138 Z6.z8)))
           have n25_ := Z6.k (show gb189 ≠ gb138 from (by rw [hg]; exact Nat.ne_of_gt (Z6.bl BK138 Z6.z8)))
           have n26_ := Z6.k (show gb146 ≠ gb189 from (by rw [hg]; exact Nat.ne_of_lt (Z6.bl BK146 Z6.z9)))
           have n27_ := Z6.k (show gb189 ≠ gb146 from (by rw [hg]; exact Nat.ne_of_gt (Z6.bl BK146 Z6.z9)))
           clear HO_125003 HO_132003 HO_139003 HO_147003 HO175 HO181 BK101 BK102 BK124 BK131 BK138 BK146 HB
           have HO_125003 := n0_
           have HO_132003 := n1_
           have HO_139003 := n2_
           have HO_147003 := n3_
           have HO175 := n4_
           have HO181 := n5_
           have BK101 := n6_
           have BK102 := n7_
           have BK124 := n8_
           have BK131 := n9_
           have BK138 := n10_
           have BK146 := n11_
           have HB := n12_
           have BK189 := n13_
           have GW189 := n14_
           have GE189 := n15_
           have NB101_189 := n16_
           have NB189_101 := n17_
           have NB102_189 := n18_
           have NB189_102 := n19_
           have NB124_189 := n20_
           have NB189_124 := n21_
           have NB131_189 := n22_
           have NB189_131 := n23_
           have NB138_189 := n24_
           have NB189_138 := n25_
           have NB146_189 := n26_
           have NB189_146 := n27_
           clear n0_ n1_ n2_ n3_ n4_ n5_ n6_ n7_ n8_ n9_ n10_ n11_ n12_ n13_ n14_ n15_ n16_ n17_ n18_ n19_ n20_ n21_ n22_ n23_ n24_ n25_ n26_ n27_ hb hbox hg
           obtain ⟨Ao192, co192, eo192⟩ := Kd.R_slice HO175.out
           (first | subst eo192 | (injection eo192 with f1_ f2_ f3_; have f4_ := f1_.symm; have f5_ := f3_.symm; clear f1_ f2_ f3_; subst f4_; subst f5_))
           obtain ⟨Ao193, co193, eo193⟩ := Kd.R_slice HO181.out
           (first | subst eo193 | (injection eo193 with f1_ f2_ f3_; have f4_ := f1_.symm; have f5_ := f3_.symm; clear f1_ f2_ f3_; subst f4_; subst f5_))
           refine hK.out _ _ Z6.z4 (fun hHeld => ?_)
           clear hK K
           refine norm_ (a' := ?_) ?_ ?_
           rotate_left
           ·show Act.put _ (some 15) _ = _
            simp only [Act.put, List.setIfInBounds_toArray, List.set_cons_zero, List.set_cons_succ, i64_w, i32_w]
            rfl
           refine one_ (i := 4) (N := some 99) #[true, true, true, true, true, false, false, false, true, false, false] rfl rfl (one_of HT_.out (by kernel_rfl)) (by decide) (fun K hK => ?_)
           refine goes_ Try.func20 (by kernel_rfl) rfl #[.agg #[.int .i64 t170, .int .i64 t171, .int .i64 t172, .slice Ao192 t173.length co192], .agg #[.int .i64 t176, .int .i64 t177, .int .i64 t178, .slice Ao193 t179.length co193]] (by rfl) rfl rfl Z6.z7 ?_
           with_reducible refine (impl_StackRows.calls kj111 t170 t171 t172 (fun k_ => some k_ = (.slice Ao192 t173.length co192 : Value).ownBlock) _ _ t173 t176 t177 t178 (fun k_ => some k_ = (.slice Ao193 t179.length co193 : Value).ownBlock) _ _ t179 t182 t183 t184 t185 t188 _ ?side1 ?side2 A177.out).mono ?_
           (case side1 => exact Z6.z47)
           (case side2 => exact Z6.z46)
           rintro e w194 ⟨v186, rfl, ho0, hb⟩
           refine ⟨_, rfl, ?_⟩
           have n0_ := Z6.k (Kd.R_elder' Z6.z15 (Kd.R_base ho0) hb)
           have n1_ := Z6.k (Kd.R_elder' Z6.z14 (Kd.R_base ho0) hb)
           have n2_ := Z6.k (Kd.R_elder' Z6.z13 (Kd.R_base ho0) hb)
           have n3_ := Z6.k (Kd.R_elder' Z6.z12 (Kd.R_base ho0) hb)
           have n4_ := Z6.k (Kd.R_elder' Z6.z26 (Kd.R_base ho0) hb)
           have n5_ := Z6.k (Kd.R_elder' Z6.z38 (Kd.R_base ho0) hb)
           have n6_ := Z6.k (Kd.R_lower (Kd.R_new' (Kd.R_new' (Kd.R_new' (Kd.R_new' (Kd.R_new' (Kd.R_new' (Kd.R_mono (ok' := fun k_ => True) ho0 (fun _ hk_ => trivial)) (Kd.R_lt Z6.z15)) (Kd.R_lt Z6.z14)) (Kd.R_lt Z6.z13)) (Kd.R_lt Z6.z12)) (Kd.R_lt Z6.z26)) (Kd.R_lt Z6.z38)) (below_size Z6.z3))
           have n7_ := Z6.k (Z6.bb BK101 Z6.z1 hb)
           have n8_ := Z6.k (Z6.bb BK102 Z6.z2 hb)
           have n9_ := Z6.k (Z6.bb BK124 Z6.z5 hb)
           have n10_ := Z6.k (Z6.bb BK131 Z6.z6 hb)
           have n11_ := Z6.k (Z6.bb BK138 Z6.z8 hb)
           have n12_ := Z6.k (Z6.bb BK146 Z6.z9 hb)
           have n13_ := Z6.k (Z6.bb BK189 Z6.z30 hb)
           have n14_ := Z6.k (below_step Z6.z3 hb)
           clear HO_125003 HO_132003 HO_139003 HO_147003 HO175 HO181 BK101 BK102 BK124 BK131 BK138 BK146 BK189 HB
           have HO_125003 := n0_
           have HO_132003 := n1_
           have HO_139003 := n2_
           have HO_147003 := n3_
           have HO175 := n4_
           have HO181 := n5_
           have HO187 := n6_
           have BK101 := n7_
           have BK102 := n8_
           have BK124 := n9_
           have BK131 := n10_
           have BK138 := n11_
           have BK146 := n12_
           have BK189 := n13_
           have HB := n14_
           clear n0_ n1_ n2_ n3_ n4_ n5_ n6_ n7_ n8_ n9_ n10_ n11_ n12_ n13_ n14_
           (try clear hb)
           (try clear hb2)
           (try clear hk)
           (try clear hi)
           (try clear ho0)
           refine hK.out _ _ Z6.z4 (fun hHeld => ?_)
           clear hK K
           refine norm_ (a' := ?_) ?_ ?_
           rotate_left
           ·show Act.put _ (some 99) _ = _
            simp only [Act.put, List.setIfInBounds_toArray, List.set_cons_zero, List.set_cons_succ, i64_w, i32_w]
            rfl
           refine pure_ (i := 5) (N := some 94) (v := ?_) (a' := ?_) #[true, true, true, true, true, true, false, false, true, false, false] rfl rfl (any_of HT_.out (by kernel_rfl)) (fun _ _ _ h => h) (Or.inl ⟨(by rfl), ?_⟩) ?_ ?_
           rotate_left
           ·intro w'
            go_simp
            with_reducible rfl
           rotate_left
           ·exact Z6.z16
           refine pure_ (i := 6) (N := some 100) (v := ?_) (a' := ?_) #[true, true, true, true, true, true, true, false, true, false, false] rfl rfl (any_of HT_.out (by kernel_rfl)) (fun _ _ _ h => h) (Or.inl ⟨(by rfl), ?_⟩) ?_ ?_
           rotate_left
           ·intro w'
            go_simp
            with_reducible rfl
           rotate_left
           ·exact Z6.z16
           refine pure_ (i := 7) (N := some 101) (v := ?_) (a' := ?_) #[true, true, true, true, true, true, true, true, true, false, false] rfl rfl (any_of HT_.out (by kernel_rfl)) (fun _ _ _ h => h) (Or.inl ⟨(by rfl), ?_⟩) ?_ ?_
           rotate_left
           ·intro w'
            go_simp
            with_reducible rfl
           rotate_left
           ·exact Z6.z16
           exact norm_ Z6.z48 (hCont (.slice Ao192 t173.length co192, .slice Ao193 t179.length co193, v186, gb189) _ ⟨hHeld, Z6.z45, Z6.z44, Z6.z43, Z6.z42, Z6.z41, Z6.z40, Z6.z39, Z6.z1, Z6.z2, Z6.z5, Z6.z6, Z6.z8, Z6.z9, Z6.z30, GW189.out, GE189.out, NB101_189.out, NB189_101.out, NB102_189.out, NB189_102.out, NB124_189.out, NB189_124.out, NB131_189.out, NB189_131.out, NB138_189.out, NB189_138.out, NB146_189.out, NB189_146.out, Z6.z3⟩)
          skip
          refine box_step ?hg (N := 15) ?hd (cs := #[.int .i64 0, .int .i64 0, .int .i64 0, .slice none 0 0]) (t := 28) ?hr ?_; (case hd => rfl); (case hg => rfl); (case hr => first | (go_simp; done) | (go_simp; rfl))
          intro gb189 hg w190 hbox hb
          have n0_ := Z6.k (Kd.R_below Z6.z15 hb)
          have n1_ := Z6.k (Kd.R_below Z6.z14 hb)
          have n2_ := Z6.k (Kd.R_below Z6.z13 hb)
          have n3_ := Z6.k (Kd.R_below Z6.z12 hb)
          have n4_ := Z6.k (Kd.R_below Z6.z26 hb)
          have n5_ := Z6.k (Z6.bb BK101 Z6.z1 hb)
          have n6_ := Z6.k (Z6.bb BK102 Z6.z2 hb)
          have n7_ := Z6.k (Z6.bb BK124 Z6.z5 hb)
          have n8_ := Z6.k (Z6.bb BK131 Z6.z6 hb)
          have n9_ := Z6.k (Z6.bb BK138 Z6.z8 hb)
          have n10_ := Z6.k (Z6.bb BK146 Z6.z9 hb)
          have n11_ := Z6.k (below_step Z6.z0 hb)
          have n12_ := Z6.k (hbox)
          have n13_ := Z6.k (show w.heap.size ≤ gb189 from (by rw [hg]; exact (below_size Z6.z0)))
          have n14_ := Z6.k (show w.heap.size ≤ gb189 from (by rw [hg]; exact (below_size Z6.z0)))
          have n15_ := Z6.k (show gb101 ≠ gb189 from Z6.z76)
          have n16_ := Z6.k (show gb189 ≠ gb101 from Z6.z77)
          have n17_ := Z6.k (show gb102 ≠ gb189 from Z6.z85)
          have n18_ := Z6.k (show gb189 ≠ gb102 from Z6.z86)
          have n19_ := Z6.k (show gb124 ≠ gb189 from Z6.z103)
          have n20_ := Z6.k (show gb189 ≠ gb124 from Z6.z104)
          have n21_ := Z6.k (show gb131 ≠ gb189 from Z6.z124)
          have n22_ := Z6.k (show gb189 ≠ gb131 from Z6.z125)
          have n23_ := Z6.k (show gb138 ≠ gb189 from (by rw [hg]; exact Nat.ne_of_lt (Z6.bl BK138 Z6.z8)))
          have n24_ := Z6.k (show gb189 ≠ gb138 from (by rw [hg]; exact Nat.ne_of_gt (Z6.bl BK138 Z6.z8)))
          have n25_ := Z6.k (show gb146 ≠ gb189 from (by rw [hg]; exact Nat.ne_of_lt (Z6.bl BK146 Z6.z9)))
          have n26_ := Z6.k (show gb189 ≠ gb146 from (by rw [hg]; exact Nat.ne_of_gt (Z6.bl BK146 Z6.z9)))
          clear HO_125003 HO_132003 HO_139003 HO_147003 HO175 BK101 BK102 BK124 BK131 BK138 BK146 HB
          have HO_125003 := n0_
          have HO_132003 := n1_
          have HO_139003 := n2_
          have HO_147003 := n3_
          have HO175 := n4_
          have BK101 := n5_
          have BK102 := n6_
          have BK124 := n7_
          have BK131 := n8_
          have BK138 := n9_
          have BK146 := n10_
          have HB := n11_
          have BK189 := n12_
          have GW189 := n13_
          have GE189 := n14_
          have NB101_189 := n15_
          have NB189_101 := n16_
          have NB102_189 := n17_
          have NB189_102 := n18_
          have NB124_189 := n19_
          have NB189_124 := n20_
          have NB131_189 := n21_
          have NB189_131 := n22_
          have NB138_189 := n23_
          have NB189_138 := n24_
          have NB146_189 := n25_
          have NB189_146 := n26_
          clear n0_ n1_ n2_ n3_ n4_ n5_ n6_ n7_ n8_ n9_ n10_ n11_ n12_ n13_ n14_ n15_ n16_ n17_ n18_ n19_ n20_ n21_ n22_ n23_ n24_ n25_ n26_ hb hbox hg
          refine hK.out _ _ Z6.z4 (fun hHeld => ?_)
          clear hK K
          refine norm_ (a' := ?_) ?_ ?_
          rotate_left
          ·show Act.put _ (some 15) _ = _
           simp only [Act.put, List.setIfInBounds_toArray, List.set_cons_zero, List.set_cons_succ, i64_w, i32_w]
           rfl
          refine one_ (i := 3) (N := some 98) #[true, true, true, true, false, false, false, false, true, false, false] rfl rfl (one_of HT_.out (by kernel_rfl)) (by decide) (fun K hK => ?_)
          refine goes_ Try.func10 (by kernel_rfl) rfl #[.agg #[.int .i64 a1_0, .int .i64 a1_1, .int .i64 a1_2, .slice A1_3 l1_3.length c1_3]] (by rfl) rfl rfl Z6.z7 ?_
          with_reducible refine (laws_toMatrix.calls kj111 a1_0 a1_1 a1_2 _ _ l1_3 t176 t177 t178 t179 _ ?side1 ?side2 A176.out).mono ?_
          (case side1 => exact Z6.z19)
          (case side2 => exact HC1_3.out)
          rintro e w191 ⟨v180, rfl, ho0, hb⟩
          refine ⟨_, rfl, ?_⟩
          have n0_ := Z6.k (Kd.R_elder' Z6.z15 (Kd.R_base ho0) hb)
          have n1_ := Z6.k (Kd.R_elder' Z6.z14 (Kd.R_base ho0) hb)
          have n2_ := Z6.k (Kd.R_elder' Z6.z13 (Kd.R_base ho0) hb)
          have n3_ := Z6.k (Kd.R_elder' Z6.z12 (Kd.R_base ho0) hb)
          have n4_ := Z6.k (Kd.R_elder' Z6.z26 (Kd.R_base ho0) hb)
          have n5_ := Z6.k (Kd.R_lower (Kd.R_new' (Kd.R_new' (Kd.R_new' (Kd.R_new' (Kd.R_new' ho0 (Kd.R_lt Z6.z15)) (Kd.R_lt Z6.z14)) (Kd.R_lt Z6.z13)) (Kd.R_lt Z6.z12)) (Kd.R_lt Z6.z26)) (below_size Z6.z3))
          have n6_ := Z6.k (Z6.bb BK101 Z6.z1 hb)
          have n7_ := Z6.k (Z6.bb BK102 Z6.z2 hb)
          have n8_ := Z6.k (Z6.bb BK124 Z6.z5 hb)
          have n9_ := Z6.k (Z6.bb BK131 Z6.z6 hb)
          have n10_ := Z6.k (Z6.bb BK138 Z6.z8 hb)
          have n11_ := Z6.k (Z6.bb BK146 Z6.z9 hb)
          have n12_ := Z6.k (Z6.bb BK189 Z6.z30 hb)
          have n13_ := Z6.k (below_step Z6.z3 hb)
          clear HO_125003 HO_132003 HO_139003 HO_147003 HO175 BK101 BK102 BK124 BK131 BK138 BK146 BK189 HB
          have HO_125003 := n0_
          have HO_132003 := n1_
          have HO_139003 := n2_
          have HO_147003 := n3_
          have HO175 := n4_
          have HO181 := n5_
          have BK101 := n6_
          have BK102 := n7_
          have BK124 := n8_
          have BK131 := n9_
          have BK138 := n10_
          have BK146 := n11_
          have BK189 := n12_
          have HB := n13_
          clear n0_ n1_ n2_ n3_ n4_ n5_ n6_ n7_ n8_ n9_ n10_ n11_ n12_ n13_
          (try clear hb)
          (try clear hb2)
          (try clear hk)
          (try clear hi)
          (try clear ho0)
          obtain ⟨Ao192, co192, eo192⟩ := Kd.R_slice HO175.out
          (first | subst eo192 | (injection eo192 with f1_ f2_ f3_; have f4_ := f1_.symm; have f5_ := f3_.symm; clear f1_ f2_ f3_; subst f4_; subst f5_))
          obtain ⟨Ao193, co193, eo193⟩ := Kd.R_slice HO181.out
          (first | subst eo193 | (injection eo193 with f1_ f2_ f3_; have f4_ := f1_.symm; have f5_ := f3_.symm; clear f1_ f2_ f3_; subst f4_; subst f5_))
          refine hK.out _ _ Z6.z4 (fun hHeld => ?_)
          clear hK K
          refine norm_ (a' := ?_) ?_ ?_
          rotate_left
          ·show Act.put _ (some 98) _ = _
           simp only [Act.put, List.setIfInBounds_toArray, List.set_cons_zero, List.set_cons_succ, i64_w, i32_w]
           rfl
          refine one_ (i := 4) (N := some 99) #[true, true, true, true, true, false, false, false, true, false, false] rfl rfl (one_of HT_.out (by kernel_rfl)) (by decide) (fun K hK => ?_)
          refine goes_ Try.func20 (by kernel_rfl) rfl #[.agg #[.int .i64 t170, .int .i64 t171, .int .i64 t172, .slice Ao192 t173.length co192], .agg #[.int .i64 t176, .int .i64 t177, .int .i64 t178, .slice Ao193 t179.length co193]] (by rfl) rfl rfl Z6.z7 ?_
          with_reducible refine (impl_StackRows.calls kj111 t170 t171 t172 (fun k_ => some k_ = (.slice Ao192 t173.length co192 : Value).ownBlock) _ _ t173 t176 t177 t178 (fun k_ => some k_ = (.slice Ao193 t179.length co193 : Value).ownBlock) _ _ t179 t182 t183 t184 t185 t188 _ ?side1 ?side2 A177.out).mono ?_
          (case side1 => exact Z6.z47)
          (case side2 => exact Z6.z46)
          rintro e w194 ⟨v186, rfl, ho0, hb⟩
          refine ⟨_, rfl, ?_⟩
          have n0_ := Z6.k (Kd.R_elder' Z6.z15 (Kd.R_base ho0) hb)
          have n1_ := Z6.k (Kd.R_elder' Z6.z14 (Kd.R_base ho0) hb)
          have n2_ := Z6.k (Kd.R_elder' Z6.z13 (Kd.R_base ho0) hb)
          have n3_ := Z6.k (Kd.R_elder' Z6.z12 (Kd.R_base ho0) hb)
          have n4_ := Z6.k (Kd.R_elder' Z6.z26 (Kd.R_base ho0) hb)
          have n5_ := Z6.k (Kd.R_elder' Z6.z38 (Kd.R_base ho0) hb)
          have n6_ := Z6.k (Kd.R_lower (Kd.R_new' (Kd.R_new' (Kd.R_new' (Kd.R_new' (Kd.R_new' (Kd.R_new' (Kd.R_mono (ok' := fun k_ => True) ho0 (fun _ hk_ => trivial)) (Kd.R_lt Z6.z15)) (Kd.R_lt Z6.z14)) (Kd.R_lt Z6.z13)) (Kd.R_lt Z6.z12)) (Kd.R_lt Z6.z26)) (Kd.R_lt Z6.z38)) (below_size Z6.z3))
          have n7_ := Z6.k (Z6.bb BK101 Z6.z1 hb)
          have n8_ := Z6.k (Z6.bb BK102 Z6.z2 hb)
          have n9_ := Z6.k (Z6.bb BK124 Z6.z5 hb)
          have n10_ := Z6.k (Z6.bb BK131 Z6.z6 hb)
          have n11_ := Z6.k (Z6.bb BK138 Z6.z8 hb)
          have n12_ := Z6.k (Z6.bb BK146 Z6.z9 hb)
          have n13_ := Z6.k (Z6.bb BK189 Z6.z30 hb)
          have n14_ := Z6.k (below_step Z6.z3 hb)
          clear HO_125003 HO_132003 HO_139003 HO_147003 HO175 HO181 BK101 BK102 BK124 BK131 BK138 BK146 BK189 HB
          have HO_125003 := n0_
          have HO_132003 := n1_
          have HO_139003 := n2_
          have HO_147003 := n3_
          have HO175 := n4_
          have HO181 := n5_
          have HO187 := n6_
          have BK101 := n7_
          have BK102 := n8_
          have BK124 := n9_
          have BK131 := n10_
          have BK138 := n11_
          have BK146 := n12_
          have BK189 := n13_
          have HB := n14_
          clear n0_ n1_ n2_ n3_ n4_ n5_ n6_ n7_ n8_ n9_ n10_ n11_ n12_ n13_ n14_
          (try clear hb)
          (try clear hb2)
          (try clear hk)
          (try clear hi)
          (try clear ho0)
          refine hK.out _ _ Z6.z4 (fun hHeld => ?_)
          clear hK K
          refine norm_ (a' := ?_) ?_ ?_
          rotate_left
          ·show Act.put _ (some 99) _ = _
           simp only [Act.put, List.setIfInBounds_toArray, List.set_cons_zero, List.set_cons_succ, i64_w, i32_w]
           rfl
          refine pure_ (i := 5) (N := some 94) (v := ?_) (a' := ?_) #[true, true, true, true, true, true, false, false, true, false, false] rfl rfl (any_of HT_.out (by kernel_rfl)) (fun _ _ _ h => h) (Or.inl ⟨(by rfl), ?_⟩) ?_ ?_
          rotate_left
          ·intro w'
           go_simp
           with_reducible rfl
          rotate_left
          ·exact Z6.z16
          refine pure_ (i := 6) (N := some 100) (v := ?_) (a' := ?_) #[true, true, true, true, true, true, true, false, true, false, false] rfl rfl (any_of HT_.out (by kernel_rfl)) (fun _ _ _ h => h) (Or.inl ⟨(by rfl), ?_⟩) ?_ ?_
          rotate_left
          ·intro w'
           go_simp
           with_reducible rfl
          rotate_left
          ·exact Z6.z16
          refine pure_ (i := 7) (N := some 101) (v := ?_) (a' := ?_) #[true, true, true, true, true, true, true, true, true, false, false] rfl rfl (any_of HT_.out (by kernel_rfl)) (fun _ _ _ h => h) (Or.inl ⟨(by rfl), ?_⟩) ?_ ?_
          rotate_left
          ·intro w'
           go_simp
           with_reducible rfl
          rotate_left
          ·exact Z6.z16
          exact norm_ Z6.z48 (hCont (.slice Ao192 t173.length co192, .slice Ao193 t179.length co193, v186, gb189) _ ⟨hHeld, Z6.z45, Z6.z44, Z6.z43, Z6.z42, Z6.z41, Z6.z40, Z6.z39, Z6.z1, Z6.z2, Z6.z5, Z6.z6, Z6.z8, Z6.z9, Z6.z30, GW189.out, GE189.out, NB101_189.out, NB189_101.out, NB102_189.out, NB189_102.out, NB124_189.out, NB189_124.out, NB131_189.out, NB189_131.out, NB138_189.out, NB189_138.out, NB146_189.out, NB189_146.out, Z6.z3⟩)
         skip
         refine box_step ?hg (N := 15) ?hd (cs := #[.int .i64 0, .int .i64 0, .int .i64 0, .slice none 0 0]) (t := 28) ?hr ?_; (case hd => rfl); (case hg => rfl); (case hr => first | (go_simp; done) | (go_simp; rfl))
         intro gb189 hg w189 hbox hb
         have n0_ := Z6.k (Kd.R_below Z6.z15 hb)
         have n1_ := Z6.k (Kd.R_below Z6.z14 hb)
         have n2_ := Z6.k (Kd.R_below Z6.z13 hb)
         have n3_ := Z6.k (Kd.R_below Z6.z12 hb)
         have n4_ := Z6.k (Z6.bb BK101 Z6.z1 hb)
         have n5_ := Z6.k (Z6.bb BK102 Z6.z2 hb)
         have n6_ := Z6.k (Z6.bb BK124 Z6.z5 hb)
         have n7_ := Z6.k (Z6.bb BK131 Z6.z6 hb)
         have n8_ := Z6.k (Z6.bb BK138 Z6.z8 hb)
         have n9_ := Z6.k (Z6.bb BK146 Z6.z9 hb)
         have n10_ := Z6.k (below_step Z6.z0 hb)
         have n11_ := Z6.k (hbox)
         have n12_ := Z6.k (show w.heap.size ≤ gb189 from (by rw [hg]; exact (below_size Z6.z0)))
         have n13_ := Z6.k (show w.heap.size ≤ gb189 from (by rw [hg]; exact (below_size Z6.z0)))
         have n14_ := Z6.k (show gb101 ≠ gb189 from Z6.z76)
         have n15_ := Z6.k (show gb189 ≠ gb101 from Z6.z77)
         have n16_ := Z6.k (show gb102 ≠ gb189 from Z6.z85)
         have n17_ := Z6.k (show gb189 ≠ gb102 from Z6.z86)
         have n18_ := Z6.k (show gb124 ≠ gb189 from Z6.z103)
         have n19_ := Z6.k (show gb189 ≠ gb124 from Z6.z104)
         have n20_ := Z6.k (show gb131 ≠ gb189 from Z6.z124)
         have n21_ := Z6.k (show gb189 ≠ gb131 from Z6.z125)
         have n22_ := Z6.k (show gb138 ≠ gb189 from (by rw [hg]; exact Nat.ne_of_lt (Z6.bl BK138 Z6.z8)))
         have n23_ := Z6.k (show gb189 ≠ gb138 from (by rw [hg]; exact Nat.ne_of_gt (Z6.bl BK138 Z6.z8)))
         have n24_ := Z6.k (show gb146 ≠ gb189 from (by rw [hg]; exact Nat.ne_of_lt (Z6.bl BK146 Z6.z9)))
         have n25_ := Z6.k (show gb189 ≠ gb146 from (by rw [hg]; exact Nat.ne_of_gt (Z6.bl BK146 Z6.z9)))
         clear HO_125003 HO_132003 HO_139003 HO_147003 BK101 BK102 BK124 BK131 BK138 BK146 HB
         have HO_125003 := n0_
         have HO_132003 := n1_
         have HO_139003 := n2_
         have HO_147003 := n3_
         have BK101 := n4_
         have BK102 := n5_
         have BK124 := n6_
         have BK131 := n7_
         have BK138 := n8_
         have BK146 := n9_
         have HB := n10_
         have BK189 := n11_
         have GW189 := n12_
         have GE189 := n13_
         have NB101_189 := n14_
         have NB189_101 := n15_
         have NB102_189 := n16_
         have NB189_102 := n17_
         have NB124_189 := n18_
         have NB189_124 := n19_
         have NB131_189 := n20_
         have NB189_131 := n21_
         have NB138_189 := n22_
         have NB189_138 := n23_
         have NB146_189 := n24_
         have NB189_146 := n25_
         clear n0_ n1_ n2_ n3_ n4_ n5_ n6_ n7_ n8_ n9_ n10_ n11_ n12_ n13_ n14_ n15_ n16_ n17_ n18_ n19_ n20_ n21_ n22_ n23_ n24_ n25_ hb hbox hg
         refine hK.out _ _ Z6.z4 (fun hHeld => ?_)
         clear hK K
         refine norm_ (a' := ?_) ?_ ?_
         rotate_left
         ·show Act.put _ (some 15) _ = _
          simp only [Act.put, List.setIfInBounds_toArray, List.set_cons_zero, List.set_cons_succ, i64_w, i32_w]
          rfl
         refine one_ (i := 1) (N := some 96) #[true, true, true, false, false, false, false, false, true, false, false] rfl rfl (one_of HT_.out (by kernel_rfl)) (by decide) (fun K hK => ?_)
         refine goes_ Try.func10 (by kernel_rfl) rfl #[.agg #[.int .i64 a0_0, .int .i64 a0_1, .int .i64 a0_2, .slice A0_3 l0_3.length c0_3]] (by rfl) rfl rfl Z6.z7 ?_
         with_reducible refine (laws_toMatrix.calls kj111 a0_0 a0_1 a0_2 _ _ l0_3 t170 t171 t172 t173 _ ?side1 ?side2 A175.out).mono ?_
         (case side1 => exact Z6.z20)
         (case side2 => exact HC0_3.out)
         rintro e w190 ⟨v174, rfl, ho0, hb⟩
         refine ⟨_, rfl, ?_⟩
         have n0_ := Z6.k (Kd.R_elder' Z6.z15 (Kd.R_base ho0) hb)
         have n1_ := Z6.k (Kd.R_elder' Z6.z14 (Kd.R_base ho0) hb)
         have n2_ := Z6.k (Kd.R_elder' Z6.z13 (Kd.R_base ho0) hb)
         have n3_ := Z6.k (Kd.R_elder' Z6.z12 (Kd.R_base ho0) hb)
         have n4_ := Z6.k (Kd.R_lower (Kd.R_new' (Kd.R_new' (Kd.R_new' (Kd.R_new' ho0 (Kd.R_lt Z6.z15)) (Kd.R_lt Z6.z14)) (Kd.R_lt Z6.z13)) (Kd.R_lt Z6.z12)) (below_size Z6.z3))
         have n5_ := Z6.k (Z6.bb BK101 Z6.z1 hb)
         have n6_ := Z6.k (Z6.bb BK102 Z6.z2 hb)
         have n7_ := Z6.k (Z6.bb BK124 Z6.z5 hb)
         have n8_ := Z6.k (Z6.bb BK131 Z6.z6 hb)
         have n9_ := Z6.k (Z6.bb BK138 Z6.z8 hb)
         have n10_ := Z6.k (Z6.bb BK146 Z6.z9 hb)
         have n11_ := Z6.k (Z6.bb BK189 Z6.z30 hb)
         have n12_ := Z6.k (below_step Z6.z3 hb)
         clear HO_125003 HO_132003 HO_139003 HO_147003 BK101 BK102 BK124 BK131 BK138 BK146 BK189 HB
         have HO_125003 := n0_
         have HO_132003 := n1_
         have HO_139003 := n2_
         have HO_147003 := n3_
         have HO175 := n4_
         have BK101 := n5_
         have BK102 := n6_
         have BK124 := n7_
         have BK131 := n8_
         have BK138 := n9_
         have BK146 := n10_
         have BK189 := n11_
         have HB := n12_
         clear n0_ n1_ n2_ n3_ n4_ n5_ n6_ n7_ n8_ n9_ n10_ n11_ n12_
         (try clear hb)
         (try clear hb2)
         (try clear hk)
         (try clear hi)
         (try clear ho0)
         refine hK.out _ _ Z6.z4 (fun hHeld => ?_)
         clear hK K
         refine norm_ (a' := ?_) ?_ ?_
         rotate_left
         ·show Act.put _ (some 96) _ = _
          simp only [Act.put, List.setIfInBounds_toArray, List.set_cons_zero, List.set_cons_succ, i64_w, i32_w]
          rfl
         refine one_ (i := 3) (N := some 98) #[true, true, true, true, false, false, false, false, true, false, false] rfl rfl (one_of HT_.out (by kernel_rfl)) (by decide) (fun K hK => ?_)
         refine goes_ Try.func10 (by kernel_rfl) rfl #[.agg #[.int .i64 a1_0, .int .i64 a1_1, .int .i64 a1_2, .slice A1_3 l1_3.length c1_3]] (by rfl) rfl rfl Z6.z7 ?_
         with_reducible refine (laws_toMatrix.calls kj111 a1_0 a1_1 a1_2 _ _ l1_3 t176 t177 t178 t179 _ ?side1 ?side2 A176.out).mono ?_
         (case side1 => exact Z6.z19)
         (case side2 => exact HC1_3.out)
         rintro e w191 ⟨v180, rfl, ho0, hb⟩
         refine ⟨_, rfl, ?_⟩
         have n0_ := Z6.k (Kd.R_elder' Z6.z15 (Kd.R_base ho0) hb)
         have n1_ := Z6.k (Kd.R_elder' Z6.z14 (Kd.R_base ho0) hb)
         have n2_ := Z6.k (Kd.R_elder' Z6.z13 (Kd.R_base ho0) hb)
         have n3_ := Z6.k (Kd.R_elder' Z6.z12 (Kd.R_base ho0) hb)
         have n4_ := Z6.k (Kd.R_elder' Z6.z26 (Kd.R_base ho0) hb)
         have n5_ := Z6.k (Kd.R_lower (Kd.R_new' (Kd.R_new' (Kd.R_new' (Kd.R_new' (Kd.R_new' ho0 (Kd.R_lt Z6.z15)) (Kd.R_lt Z6.z14)) (Kd.R_lt Z6.z13)) (Kd.R_lt Z6.z12)) (Kd.R_lt Z6.z26)) (below_size Z6.z3))
         have n6_ := Z6.k (Z6.bb BK101 Z6.z1 hb)
         have n7_ := Z6.k (Z6.bb BK102 Z6.z2 hb)
         have n8_ := Z6.k (Z6.bb BK124 Z6.z5 hb)
         have n9_ := Z6.k (Z6.bb BK131 Z6.z6 hb)
         have n10_ := Z6.k (Z6.bb BK138 Z6.z8 hb)
         have n11_ := Z6.k (Z6.bb BK146 Z6.z9 hb)
         have n12_ := Z6.k (Z6.bb BK189 Z6.z30 hb)
         have n13_ := Z6.k (below_step Z6.z3 hb)
         clear HO_125003 HO_132003 HO_139003 HO_147003 HO175 BK101 BK102 BK124 BK131 BK138 BK146 BK189 HB
         have HO_125003 := n0_
         have HO_132003 := n1_
         have HO_139003 := n2_
         have HO_147003 := n3_
         have HO175 := n4_
         have HO181 := n5_
         have BK101 := n6_
         have BK102 := n7_
         have BK124 := n8_
         have BK131 := n9_
         have BK138 := n10_
         have BK146 := n11_
         have BK189 := n12_
         have HB := n13_
         clear n0_ n1_ n2_ n3_ n4_ n5_ n6_ n7_ n8_ n9_ n10_ n11_ n12_ n13_
         (try clear hb)
         (try clear hb2)
         (try clear hk)
         (try clear hi)
         (try clear ho0)
         obtain ⟨Ao192, co192, eo192⟩ := Kd.R_slice HO175.out
         (first | subst eo192 | (injection eo192 with f1_ f2_ f3_; have f4_ := f1_.symm; have f5_ := f3_.symm; clear f1_ f2_ f3_; subst f4_; subst f5_))
         obtain ⟨Ao193, co193, eo193⟩ := Kd.R_slice HO181.out
         (first | subst eo193 | (injection eo193 with f1_ f2_ f3_; have f4_ := f1_.symm; have f5_ := f3_.symm; clear f1_ f2_ f3_; subst f4_; subst f5_))
         refine hK.out _ _ Z6.z4 (fun hHeld => ?_)
         clear hK K
         refine norm_ (a' := ?_) ?_ ?_
         rotate_left
         ·show Act.put _ (some 98) _ = _
          simp only [Act.put, List.setIfInBounds_toArray, List.set_cons_zero, List.set_cons_succ, i64_w, i32_w]
          rfl
         refine one_ (i := 4) (N := some 99) #[true, true, true, true, true, false, false, false, true, false, false] rfl rfl (one_of HT_.out (by kernel_rfl)) (by decide) (fun K hK => ?_)
         refine goes_ Try.func20 (by kernel_rfl) rfl #[.agg #[.int .i64 t170, .int .i64 t171, .int .i64 t172, .slice Ao192 t173.length co192], .agg #[.int .i64 t176, .int .i64 t177, .int .i64 t178, .slice Ao193 t179.length co193]] (by rfl) rfl rfl Z6.z7 ?_
         with_reducible refine (impl_StackRows.calls kj111 t170 t171 t172 (fun k_ => some k_ = (.slice Ao192 t173.length co192 : Value).ownBlock) _ _ t173 t176 t177 t178 (fun k_ => some k_ = (.slice Ao193 t179.length co193 : Value).ownBlock) _ _ t179 t182 t183 t184 t185 t188 _ ?side1 ?side2 A177.out).mono ?_
         (case side1 => exact Z6.z47)
         (case side2 => exact Z6.z46)
         rintro e w194 ⟨v186, rfl, ho0, hb⟩
         refine ⟨_, rfl, ?_⟩
         have n0_ := Z6.k (Kd.R_elder' Z6.z15 (Kd.R_base ho0) hb)
         have n1_ := Z6.k (Kd.R_elder' Z6.z14 (Kd.R_base ho0) hb)
         have n2_ := Z6.k (Kd.R_elder' Z6.z13 (Kd.R_base ho0) hb)
         have n3_ := Z6.k (Kd.R_elder' Z6.z12 (Kd.R_base ho0) hb)
         have n4_ := Z6.k (Kd.R_elder' Z6.z26 (Kd.R_base ho0) hb)
         have n5_ := Z6.k (Kd.R_elder' Z6.z38 (Kd.R_base ho0) hb)
         have n6_ := Z6.k (Kd.R_lower (Kd.R_new' (Kd.R_new' (Kd.R_new' (Kd.R_new' (Kd.R_new' (Kd.R_new' (Kd.R_mono (ok' := fun k_ => True) ho0 (fun _ hk_ => trivial)) (Kd.R_lt Z6.z15)) (Kd.R_lt Z6.z14)) (Kd.R_lt Z6.z13)) (Kd.R_lt Z6.z12)) (Kd.R_lt Z6.z26)) (Kd.R_lt Z6.z38)) (below_size Z6.z3))
         have n7_ := Z6.k (Z6.bb BK101 Z6.z1 hb)
         have n8_ := Z6.k (Z6.bb BK102 Z6.z2 hb)
         have n9_ := Z6.k (Z6.bb BK124 Z6.z5 hb)
         have n10_ := Z6.k (Z6.bb BK131 Z6.z6 hb)
         have n11_ := Z6.k (Z6.bb BK138 Z6.z8 hb)
         have n12_ := Z6.k (Z6.bb BK146 Z6.z9 hb)
         have n13_ := Z6.k (Z6.bb BK189 Z6.z30 hb)
         have n14_ := Z6.k (below_step Z6.z3 hb)
         clear HO_125003 HO_132003 HO_139003 HO_147003 HO175 HO181 BK101 BK102 BK124 BK131 BK138 BK146 BK189 HB
         have HO_125003 := n0_
         have HO_132003 := n1_
         have HO_139003 := n2_
         have HO_147003 := n3_
         have HO175 := n4_
         have HO181 := n5_
         have HO187 := n6_
         have BK101 := n7_
         have BK102 := n8_
         have BK124 := n9_
         have BK131 := n10_
         have BK138 := n11_
         have BK146 := n12_
         have BK189 := n13_
         have HB := n14_
         clear n0_ n1_ n2_ n3_ n4_ n5_ n6_ n7_ n8_ n9_ n10_ n11_ n12_ n13_ n14_
         (try clear hb)
         (try clear hb2)
         (try clear hk)
         (try clear hi)
         (try clear ho0)
         refine hK.out _ _ Z6.z4 (fun hHeld => ?_)
         clear hK K
         refine norm_ (a' := ?_) ?_ ?_
         rotate_left
         ·show Act.put _ (some 99) _ = _
          simp only [Act.put, List.setIfInBounds_toArray, List.set_cons_zero, List.set_cons_succ, i64_w, i32_w]
          rfl
         refine pure_ (i := 5) (N := some 94) (v := ?_) (a' := ?_) #[true, true, true, true, true, true, false, false, true, false, false] rfl rfl (any_of HT_.out (by kernel_rfl)) (fun _ _ _ h => h) (Or.inl ⟨(by rfl), ?_⟩) ?_ ?_
         rotate_left
         ·intro w'
          go_simp
          with_reducible rfl
         rotate_left
         ·exact Z6.z16
         refine pure_ (i := 6) (N := some 100) (v := ?_) (a' := ?_) #[true, true, true, true, true, true, true, false, true, false, false] rfl rfl (any_of HT_.out (by kernel_rfl)) (fun _ _ _ h => h) (Or.inl ⟨(by rfl), ?_⟩) ?_ ?_
         rotate_left
         ·intro w'
          go_simp
          with_reducible rfl
         rotate_left
         ·exact Z6.z16
         refine pure_ (i := 7) (N := some 101) (v := ?_) (a' := ?_) #[true, true, true, true, true, true, true, true, true, false, false] rfl rfl (any_of HT_.out (by kernel_rfl)) (fun _ _ _ h => h) (Or.inl ⟨(by rfl), ?_⟩) ?_ ?_
         rotate_left
         ·intro w'
          go_simp
          with_reducible rfl
         rotate_left
         ·exact Z6.z16
         exact norm_ Z6.z48 (hCont (.slice Ao192 t173.length co192, .slice Ao193 t179.length co193, v186, gb189) _ ⟨hHeld, Z6.z45, Z6.z44, Z6.z43, Z6.z42, Z6.z41, Z6.z40, Z6.z39, Z6.z1, Z6.z2, Z6.z5, Z6.z6, Z6.z8, Z6.z9, Z6.z30, GW189.out, GE189.out, NB101_189.out, NB189_101.out, NB102_189.out, NB189_102.out, NB124_189.out, NB189_124.out, NB131_189.out, NB189_131.out, NB138_189.out, NB189_138.out, NB146_189.out, NB189_146.out, Z6.z3⟩)
        rintro ⟨v174, v180, v186, gb189⟩ w195 ⟨hS_, h0_, h1_, h2_, h3_, h4_, h5_, h6_, h7_, h8_, h9_, h10_, h11_, h12_, h13_, h14_, h15_, h16_, h17_, h18_, h19_, h20_, h21_, h22_, h23_, h24_, h25_, h26_, h27_, h28_⟩
        have n0_ : Aside0 (Kd.R (Kd.int .i64) 2 w195 w.heap.size (fun k_ => some k_ ≠ (v180 : Value).ownBlock ∧ some k_ ≠ (v186 : Value).ownBlock ∧ some k_ ≠ (.slice Ao44 t120.length co44 : Value).ownBlock ∧ some k_ ≠ (.slice Ao54 t163.length co54 : Value).ownBlock ∧ some k_ ≠ (.slice Ao64 t165.length co64 : Value).ownBlock ∧ some k_ ≠ (.slice Ao76 t142.length co76 : Value).ownBlock) v174 t173) := ⟨h0_⟩
        have n1_ : Aside0 (Kd.R (Kd.int .i64) 2 w195 w.heap.size (fun k_ => some k_ ≠ (v174 : Value).ownBlock ∧ some k_ ≠ (v186 : Value).ownBlock ∧ some k_ ≠ (.slice Ao44 t120.length co44 : Value).ownBlock ∧ some k_ ≠ (.slice Ao54 t163.length co54 : Value).ownBlock ∧ some k_ ≠ (.slice Ao64 t165.length co64 : Value).ownBlock ∧ some k_ ≠ (.slice Ao76 t142.length co76 : Value).ownBlock) v180 t179) := ⟨h1_⟩
        have n2_ : Aside0 (Kd.R (Kd.int .i64) 2 w195 w.heap.size (fun k_ => some k_ ≠ (v174 : Value).ownBlock ∧ some k_ ≠ (v180 : Value).ownBlock ∧ some k_ ≠ (.slice Ao44 t120.length co44 : Value).ownBlock ∧ some k_ ≠ (.slice Ao54 t163.length co54 : Value).ownBlock ∧ some k_ ≠ (.slice Ao64 t165.length co64 : Value).ownBlock ∧ some k_ ≠ (.slice Ao76 t142.length co76 : Value).ownBlock) v186 t185) := ⟨h2_⟩
        have n3_ : Aside0 (Kd.R (Kd.int .i64) 2 w195 w.heap.size (fun k_ => some k_ ≠ (v174 : Value).ownBlock ∧ some k_ ≠ (v180 : Value).ownBlock ∧ some k_ ≠ (v186 : Value).ownBlock ∧ some k_ ≠ (.slice Ao54 t163.length co54 : Value).ownBlock ∧ some k_ ≠ (.slice Ao64 t165.length co64 : Value).ownBlock ∧ some k_ ≠ (.slice Ao76 t142.length co76 : Value).ownBlock) (.slice Ao44 t120.length co44) t120) := ⟨h3_⟩
        have n4_ : Aside0 (Kd.R (Kd.int .i64) 2 w195 w.heap.size (fun k_ => some k_ ≠ (v174 : Value).ownBlock ∧ some k_ ≠ (v180 : Value).ownBlock ∧ some k_ ≠ (v186 : Value).ownBlock ∧ some k_ ≠ (.slice Ao44 t120.length co44 : Value).ownBlock ∧ some k_ ≠ (.slice Ao64 t165.length co64 : Value).ownBlock ∧ some k_ ≠ (.slice Ao76 t142.length co76 : Value).ownBlock) (.slice Ao54 t163.length co54) t163) := ⟨h4_⟩
        have n5_ : Aside0 (Kd.R (Kd.int .i64) 2 w195 w.heap.size (fun k_ => some k_ ≠ (v174 : Value).ownBlock ∧ some k_ ≠ (v180 : Value).ownBlock ∧ some k_ ≠ (v186 : Value).ownBlock ∧ some k_ ≠ (.slice Ao44 t120.length co44 : Value).ownBlock ∧ some k_ ≠ (.slice Ao54 t163.length co54 : Value).ownBlock ∧ some k_ ≠ (.slice Ao76 t142.length co76 : Value).ownBlock) (.slice Ao64 t165.length co64) t165) := ⟨h5_⟩
        have n6_ : Aside0 (Kd.R (Kd.int .i64) 2 w195 w.heap.size (fun k_ => some k_ ≠ (v174 : Value).ownBlock ∧ some k_ ≠ (v180 : Value).ownBlock ∧ some k_ ≠ (v186 : Value).ownBlock ∧ some k_ ≠ (.slice Ao44 t120.length co44 : Value).ownBlock ∧ some k_ ≠ (.slice Ao54 t163.length co54 : Value).ownBlock ∧ some k_ ≠ (.slice Ao64 t165.length co64 : Value).ownBlock) (.slice Ao76 t142.length co76) t168) := ⟨h6_⟩
        have n7_ : Aside0 (w195.heap[gb101]? = some (.cells #[.int .i64 a0_0, .int .i64 a0_1, .int .i64 a0_2, .slice A0_3 l0_3.length c0_3] 24 (0, 0))) := ⟨h7_⟩
        have n8_ : Aside0 (w195.heap[gb102]? = some (.cells #[.int .i64 a1_0, .int .i64 a1_1, .int .i64 a1_2, .slice A1_3 l1_3.length c1_3] 24 (0, 0))) := ⟨h8_⟩
        have n9_ : Aside0 (w195.heap[gb124]? = some (.cells #[.int .i64 t117, .int .i64 t118, .int .i64 t119, .slice Ao44 t120.length co44] 28 (0, 0))) := ⟨h9_⟩
        have n10_ : Aside0 (w195.heap[gb131]? = some (.cells #[.int .i64 t125, .int .i64 t126, .int .i64 t127, .slice Ao54 t163.length co54] 28 (0, 0))) := ⟨h10_⟩
        have n11_ : Aside0 (w195.heap[gb138]? = some (.cells #[.int .i64 t132, .int .i64 t133, .int .i64 t134, .slice Ao64 t165.length co64] 28 (0, 0))) := ⟨h11_⟩
        have n12_ : Aside0 (w195.heap[gb146]? = some (.cells #[.int .i64 t139, .int .i64 t140, .int .i64 t141, .slice Ao76 t142.length co76] 28 (0, 0))) := ⟨h12_⟩
        have n13_ : Aside0 (w195.heap[gb189]? = some (.cells #[.int .i64 0, .int .i64 0, .int .i64 0, .slice none 0 0] 28 (0, 0))) := ⟨h13_⟩
        have n14_ : Aside0 (w.heap.size ≤ gb189) := ⟨h14_⟩
        have n15_ : Aside0 (w.heap.size ≤ gb189) := ⟨h15_⟩
        have n16_ : Aside0 (gb101 ≠ gb189) := ⟨h16_⟩
        have n17_ : Aside0 (gb189 ≠ gb101) := ⟨h17_⟩
        have n18_ : Aside0 (gb102 ≠ gb189) := ⟨h18_⟩
        have n19_ : Aside0 (gb189 ≠ gb102) := ⟨h19_⟩
        have n20_ : Aside0 (gb124 ≠ gb189) := ⟨h20_⟩
        have n21_ : Aside0 (gb189 ≠ gb124) := ⟨h21_⟩
        have n22_ : Aside0 (gb131 ≠ gb189) := ⟨h22_⟩
        have n23_ : Aside0 (gb189 ≠ gb131) := ⟨h23_⟩
        have n24_ : Aside0 (gb138 ≠ gb189) := ⟨h24_⟩
        have n25_ : Aside0 (gb189 ≠ gb138) := ⟨h25_⟩
        have n26_ : Aside0 (gb146 ≠ gb189) := ⟨h26_⟩
        have n27_ : Aside0 (gb189 ≠ gb146) := ⟨h27_⟩
        have n28_ : Aside0 (Below w.heap.size w w195) := ⟨h28_⟩
        clear HO_125003 HO_132003 HO_139003 HO_147003 BK101 BK102 BK124 BK131 BK138 BK146 HB h0_ h1_ h2_ h3_ h4_ h5_ h6_ h7_ h8_ h9_ h10_ h11_ h12_ h13_ h14_ h15_ h16_ h17_ h18_ h19_ h20_ h21_ h22_ h23_ h24_ h25_ h26_ h27_ h28_
        have HO175 := n0_
        have HO181 := n1_
        have HO187 := n2_
        have HO_125003 := n3_
        have HO_132003 := n4_
        have HO_139003 := n5_
        have HO_147003 := n6_
        have BK101 := n7_
        have BK102 := n8_
        have BK124 := n9_
        have BK131 := n10_
        have BK138 := n11_
        have BK146 := n12_
        have BK189 := n13_
        have GW189 := n14_
        have GE189 := n15_
        have NB101_189 := n16_
        have NB189_101 := n17_
        have NB102_189 := n18_
        have NB189_102 := n19_
        have NB124_189 := n20_
        have NB189_124 := n21_
        have NB131_189 := n22_
        have NB189_131 := n23_
        have NB138_189 := n24_
        have NB189_138 := n25_
        have NB146_189 := n26_
        have NB189_146 := n27_
        have HB := n28_
        clear n0_ n1_ n2_ n3_ n4_ n5_ n6_ n7_ n8_ n9_ n10_ n11_ n12_ n13_ n14_ n15_ n16_ n17_ n18_ n19_ n20_ n21_ n22_ n23_ n24_ n25_ n26_ n27_ n28_
        have hHeld : w195.cell? ⟨gb101, 0, none⟩ = some (.int .i64 a0_0) ∧ w195.cell? ⟨gb101, 1, none⟩ = some (.int .i64 a0_1) ∧ w195.cell? ⟨gb101, 2, none⟩ = some (.int .i64 a0_2) ∧ w195.cell? ⟨gb101, 3, none⟩ = some (.slice A0_3 l0_3.length c0_3) ∧ w195.cell? ⟨gb102, 0, none⟩ = some (.int .i64 a1_0) ∧ w195.cell? ⟨gb102, 1, none⟩ = some (.int .i64 a1_1) ∧ w195.cell? ⟨gb102, 2, none⟩ = some (.int .i64 a1_2) ∧ w195.cell? ⟨gb102, 3, none⟩ = some (.slice A1_3 l1_3.length c1_3) := hS_
        obtain ⟨Ao199, co199, eo199⟩ := Kd.R_slice HO187.out
        (first | subst eo199 | (injection eo199 with f1_ f2_ f3_; have f4_ := f1_.symm; have f5_ := f3_.symm; clear f1_ f2_ f3_; subst f4_; subst f5_))
        refine norm_ (a' := ?_) ?_ ?_
        rotate_left
        ·simp only [putAll, Act.put, List.setIfInBounds_toArray, List.set_cons_zero, List.set_cons_succ]
         rfl
        refine one_ (i := 9) (N := none) #[true, true, true, true, true, true, true, true, true, true, false] rfl rfl (one_of HT_.out (by kernel_rfl)) (by decide) (fun K hK => ?_)
        have hs196 : w195.cell? ⟨gb189, 0, none⟩ = some (.int .i64 0) := (blk_cell BK189.out 0).trans rfl
        have hfs196 := blk_frozen BK189.out 0
        have hns196_0 := NB101_189.out
        have hns196_1 := NB102_189.out
        have hns196_2 := NB124_189.out
        have hns196_3 := NB131_189.out
        have hns196_4 := NB138_189.out
        have hns196_5 := NB146_189.out
        have hms196_0 := NB189_101.out
        have hms196_1 := NB189_102.out
        have hms196_2 := NB189_124.out
        have hms196_3 := NB189_131.out
        have hms196_4 := NB189_138.out
        have hms196_5 := NB189_146.out
        have hs197 : w195.cell? ⟨gb189, 1, none⟩ = some (.int .i64 0) := (blk_cell BK189.out 1).trans rfl
        have hfs197 := blk_frozen BK189.out 1
        have hns197_0 := NB101_189.out
        have hns197_1 := NB102_189.out
        have hns197_2 := NB124_189.out
        have hns197_3 := NB131_189.out
        have hns197_4 := NB138_189.out
        have hns197_5 := NB146_189.out
        have hms197_0 := NB189_101.out
        have hms197_1 := NB189_102.out
        have hms197_2 := NB189_124.out
        have hms197_3 := NB189_131.out
        have hms197_4 := NB189_138.out
        have hms197_5 := NB189_146.out
        have hs198 : w195.cell? ⟨gb189, 2, none⟩ = some (.int .i64 0) := (blk_cell BK189.out 2).trans rfl
        have hfs198 := blk_frozen BK189.out 2
        have hns198_0 := NB101_189.out
        have hns198_1 := NB102_189.out
        have hns198_2 := NB124_189.out
        have hns198_3 := NB131_189.out
        have hns198_4 := NB138_189.out
        have hns198_5 := NB146_189.out
        have hms198_0 := NB189_101.out
        have hms198_1 := NB189_102.out
        have hms198_2 := NB189_124.out
        have hms198_3 := NB189_131.out
        have hms198_4 := NB189_138.out
        have hms198_5 := NB189_146.out
        have hs200 : w195.cell? ⟨gb189, 3, none⟩ = some (.slice none 0 0) := (blk_cell BK189.out 3).trans rfl
        have hfs200 := blk_frozen BK189.out 3
        have hns200_0 := NB101_189.out
        have hns200_1 := NB102_189.out
        have hns200_2 := NB124_189.out
        have hns200_3 := NB131_189.out
        have hns200_4 := NB138_189.out
        have hns200_5 := NB146_189.out
        have hms200_0 := NB189_101.out
        have hms200_1 := NB189_102.out
        have hms200_2 := NB189_124.out
        have hms200_3 := NB189_131.out
        have hms200_4 := NB189_138.out
        have hms200_5 := NB189_146.out
        refine skip_ (w1 := ?_) (by rfl) rfl ?_ ?_
        rotate_left
        ·go_simp
         rfl
        refine hK.out _ _ ⟨((cell_far (p := ⟨gb189, _, none⟩) NB101_189.out _).trans (((cell_far (p := ⟨gb189, _, none⟩) NB101_189.out _).trans (((cell_far (p := ⟨gb189, _, none⟩) NB101_189.out _).trans (((cell_far (p := ⟨gb189, _, none⟩) NB101_189.out _).trans (hHeld.1)))))))), ((cell_far (p := ⟨gb189, _, none⟩) NB101_189.out _).trans (((cell_far (p := ⟨gb189, _, none⟩) NB101_189.out _).trans (((cell_far (p := ⟨gb189, _, none⟩) NB101_189.out _).trans (((cell_far (p := ⟨gb189, _, none⟩) NB101_189.out _).trans (hHeld.2.1)))))))), ((cell_far (p := ⟨gb189, _, none⟩) NB101_189.out _).trans (((cell_far (p := ⟨gb189, _, none⟩) NB101_189.out _).trans (((cell_far (p := ⟨gb189, _, none⟩) NB101_189.out _).trans (((cell_far (p := ⟨gb189, _, none⟩) NB101_189.out _).trans (hHeld.2.2.1)))))))), ((cell_far (p := ⟨gb189, _, none⟩) NB101_189.out _).trans (((cell_far (p := ⟨gb189, _, none⟩) NB101_189.out _).trans (((cell_far (p := ⟨gb189, _, none⟩) NB101_189.out _).trans (((cell_far (p := ⟨gb189, _, none⟩) NB101_189.out _).trans (hHeld.2.2.2.1)))))))), ((cell_far (p := ⟨gb189, _, none⟩) NB102_189.out _).trans (((cell_far (p := ⟨gb189, _, none⟩) NB102_189.out _).trans (((cell_far (p := ⟨gb189, _, none⟩) NB102_189.out _).trans (((cell_far (p := ⟨gb189, _, none⟩) NB102_189.out _).trans (hHeld.2.2.2.2.1)))))))), ((cell_far (p := ⟨gb189, _, none⟩) NB102_189.out _).trans (((cell_far (p := ⟨gb189, _, none⟩) NB102_189.out _).trans (((cell_far (p := ⟨gb189, _, none⟩) NB102_189.out _).trans (((cell_far (p := ⟨gb189, _, none⟩) NB102_189.out _).trans (hHeld.2.2.2.2.2.1)))))))), ((cell_far (p := ⟨gb189, _, none⟩) NB102_189.out _).trans (((cell_far (p := ⟨gb189, _, none⟩) NB102_189.out _).trans (((cell_far (p := ⟨gb189, _, none⟩) NB102_189.out _).trans (((cell_far (p := ⟨gb189, _, none⟩) NB102_189.out _).trans (hHeld.2.2.2.2.2.2.1)))))))), ((cell_far (p := ⟨gb189, _, none⟩) NB102_189.out _).trans (((cell_far (p := ⟨gb189, _, none⟩) NB102_189.out _).trans (((cell_far (p := ⟨gb189, _, none⟩) NB102_189.out _).trans (((cell_far (p := ⟨gb189, _, none⟩) NB102_189.out _).trans (hHeld.2.2.2.2.2.2.2))))))))⟩ (fun hHeld => ?_)
        clear hK K
        refine pure_ (i := 10) (N := some 16) (v := ?_) (a' := ?_) #[true, true, true, true, true, true, true, true, true, true, true] rfl rfl (any_of HT_.out (by kernel_rfl)) (fun _ _ _ h => h) (Or.inl ⟨(by rfl), ?_⟩) ?_ ?_
        rotate_left
        ·intro w'
         go_simp
         with_reducible rfl
        rotate_left
        ·exact Z6.z16
        refine done_ (done_of HT_.out (by kernel_rfl)) ?_
        go_upto_region 32 with (fail)
        go_cut [110] (fun v110 wc => ∃ (kq : Nat) (x110_177 : Bool), v110 = .bool x110_177 ∧ Aside0 (laws_FnExactStackRows.j2 kq t167 x110_177 t139 t140 t141 t168 = some r) ∧ Aside0 (kq ≤ kj111) ∧ Aside0 (Kd.R (Kd.int .i64) 2 wc w.heap.size (fun k_ => some k_ ≠ ((.slice Ao54 t163.length co54) : Value).ownBlock ∧ some k_ ≠ ((.slice Ao64 t165.length co64) : Value).ownBlock ∧ some k_ ≠ ((.slice Ao76 t142.length co76) : Value).ownBlock ∧ some k_ ≠ ((.slice Ao199 t185.length co199) : Value).ownBlock) (.slice Ao44 t120.length co44) t120) ∧ Aside0 (Kd.R (Kd.int .i64) 2 wc w.heap.size (fun k_ => some k_ ≠ ((.slice Ao44 t120.length co44) : Value).ownBlock ∧ some k_ ≠ ((.slice Ao64 t165.length co64) : Value).ownBlock ∧ some k_ ≠ ((.slice Ao76 t142.length co76) : Value).ownBlock ∧ some k_ ≠ ((.slice Ao199 t185.length co199) : Value).ownBlock) (.slice Ao54 t163.length co54) t163) ∧ Aside0 (Kd.R (Kd.int .i64) 2 wc w.heap.size (fun k_ => some k_ ≠ ((.slice Ao44 t120.length co44) : Value).ownBlock ∧ some k_ ≠ ((.slice Ao54 t163.length co54) : Value).ownBlock ∧ some k_ ≠ ((.slice Ao76 t142.length co76) : Value).ownBlock ∧ some k_ ≠ ((.slice Ao199 t185.length co199) : Value).ownBlock) (.slice Ao64 t165.length co64) t165) ∧ Aside0 (Kd.R (Kd.int .i64) 2 wc w.heap.size (fun k_ => some k_ ≠ ((.slice Ao44 t120.length co44) : Value).ownBlock ∧ some k_ ≠ ((.slice Ao54 t163.length co54) : Value).ownBlock ∧ some k_ ≠ ((.slice Ao64 t165.length co64) : Value).ownBlock ∧ some k_ ≠ ((.slice Ao199 t185.length co199) : Value).ownBlock) (.slice Ao76 t142.length co76) t168) ∧ Aside0 (Kd.R (Kd.int .i64) 2 wc w.heap.size (fun k_ => some k_ ≠ ((.slice Ao44 t120.length co44) : Value).ownBlock ∧ some k_ ≠ ((.slice Ao54 t163.length co54) : Value).ownBlock ∧ some k_ ≠ ((.slice Ao64 t165.length co64) : Value).ownBlock ∧ some k_ ≠ ((.slice Ao76 t142.length co76) : Value).ownBlock) (.slice Ao199 t185.length co199) t185) ∧ Aside0 (wc.heap[gb101]? = some (.cells #[.int .i64 a0_0, .int .i64 a0_1, .int .i64 a0_2, (.slice A0_3 l0_3.length c0_3)] 24 (0, 0))) ∧ Aside0 (wc.heap[gb102]? = some (.cells #[.int .i64 a1_0, .int .i64 a1_1, .int .i64 a1_2, (.slice A1_3 l1_3.length c1_3)] 24 (0, 0))) ∧ Aside0 (wc.heap[gb124]? = some (.cells #[.int .i64 t117, .int .i64 t118, .int .i64 t119, (.slice Ao44 t120.length co44)] 28 (0, 0))) ∧ Aside0 (wc.heap[gb131]? = some (.cells #[.int .i64 t125, .int .i64 t126, .int .i64 t127, (.slice Ao54 t163.length co54)] 28 (0, 0))) ∧ Aside0 (wc.heap[gb138]? = some (.cells #[.int .i64 t132, .int .i64 t133, .int .i64 t134, (.slice Ao64 t165.length co64)] 28 (0, 0))) ∧ Aside0 (wc.heap[gb146]? = some (.cells #[.int .i64 t139, .int .i64 t140, .int .i64 t141, (.slice Ao76 t142.length co76)] 28 (0, 0))) ∧ Aside0 (wc.heap[gb189]? = some (.cells #[.int .i64 t182, .int .i64 t183, .int .i64 t184, (.slice Ao199 t185.length co199)] 28 (0, 0))) ∧ Aside0 (Below w.heap.size w wc))
        case first =>
         have H := HC178.out
         clear HC178
         replace H := Option.bind_eq_some_iff.mp H
         obtain ⟨t190, A2010, H⟩ := H
         replace H : (if t190 = true then (laws_FnExactStackRows.j2 kj111 t167 (t188 != t123) t139 t140 t141 t168) else (laws_FnExactStackRows.j2 kj111 t167 true t139 t140 t141 t168)) = some r := H
         have A201 := Z6.k A2010
         clear A2010
         by_cases c202 : t190 = true
         ·subst c202
          have H1 : (laws_FnExactStackRows.j2 kj111 t167 (t188 != t123) t139 t140 t141 t168) = some r := by rw [if_pos rfl] at H; exact H
          clear H
          have H := H1
          clear H1
          have H' := Z6.k H
          clear H
          have hnb203 := NB189_101.out
          have hnc203 := NB101_189.out
          have hnb204 := NB189_102.out
          have hnc204 := NB102_189.out
          have hnb205 := NB189_124.out
          have hnc205 := NB124_189.out
          have hnb206 := NB189_131.out
          have hnc206 := NB131_189.out
          have hnb207 := NB189_138.out
          have hnc207 := NB138_189.out
          have hnb208 := NB189_146.out
          have hnc208 := NB146_189.out
          have hcz209_0 : w195.cell? ⟨gb189, 0, none⟩ = some (.int .i64 0) := (blk_cell BK189.out 0).trans rfl
          have hcz209_1 : w195.cell? ⟨gb189, 1, none⟩ = some (.int .i64 0) := (blk_cell BK189.out 1).trans rfl
          have hcz209_2 : w195.cell? ⟨gb189, 2, none⟩ = some (.int .i64 0) := (blk_cell BK189.out 2).trans rfl
          have hcz209_3 : w195.cell? ⟨gb189, 3, none⟩ = some (.slice none 0 0) := (blk_cell BK189.out 3).trans rfl
          have hfz209_0 := blk_frozen BK189.out 0
          have hfz209_1 := blk_frozen BK189.out 1
          have hfz209_2 := blk_frozen BK189.out 2
          have hfz209_3 := blk_frozen BK189.out 3
          have hnb210 := NB124_101.out
          have hnc210 := NB101_124.out
          have hnb211 := NB124_102.out
          have hnc211 := NB102_124.out
          have hnb212 := NB124_131.out
          have hnc212 := NB131_124.out
          have hnb213 := NB124_138.out
          have hnc213 := NB138_124.out
          have hnb214 := NB124_146.out
          have hnc214 := NB146_124.out
          have hcz215_0 : w195.cell? ⟨gb124, 0, none⟩ = some (.int .i64 t117) := (blk_cell BK124.out 0).trans rfl
          have hcz215_1 : w195.cell? ⟨gb124, 1, none⟩ = some (.int .i64 t118) := (blk_cell BK124.out 1).trans rfl
          have hcz215_2 : w195.cell? ⟨gb124, 2, none⟩ = some (.int .i64 t119) := (blk_cell BK124.out 2).trans rfl
          have hcz215_3 : w195.cell? ⟨gb124, 3, none⟩ = some (.slice Ao44 t120.length co44) := (blk_cell BK124.out 3).trans rfl
          have hfz215_0 := blk_frozen BK124.out 0
          have hfz215_1 := blk_frozen BK124.out 1
          have hfz215_2 := blk_frozen BK124.out 2
          have hfz215_3 := blk_frozen BK124.out 3
          go_wp2_with (first | ((with_reducible refine gate_callee (f := 12) rfl ?_); refine goesL_ (some 104) rfl rfl Try.func12 (by kernel_rfl) rfl #[.agg #[.int .i64 t182, .int .i64 t183, .int .i64 t184, .slice Ao199 t185.length co199], .agg #[.int .i64 t117, .int .i64 t118, .int .i64 t119, .slice Ao44 t120.length co44]] rfl Z6.z7 ?_; (with_reducible refine (laws_eqMatrix.calls kj111 t182 t183 t184 _ _ t185 t117 t118 t119 _ _ t120 true _ ?side1 ?side2 ?side3 ?side4 A201.out).mono ?_); (case side1 => exact Z6.z68); (case side2 => exact (Kd.R_reads' HO187.out).2.1); (case side3 => exact Z6.z67); (case side4 => exact (Kd.R_reads' HO_125003.out).2.1); rintro e w216 ⟨rfl, hb⟩; refine ⟨_, rfl, ?_⟩; have n0_ := Z6.k (Kd.R_below Z6.z21 hb); have n1_ := Z6.k (Kd.R_below Z6.z53 hb); have n2_ := Z6.k (Kd.R_below Z6.z52 hb); have n3_ := Z6.k (Kd.R_below Z6.z51 hb); have n4_ := Z6.k (Kd.R_below Z6.z55 hb); have n5_ := Z6.k (Kd.R_below Z6.z54 hb); have n6_ := Z6.k (Kd.R_below Z6.z23 hb); have n7_ := Z6.k (Z6.bb BK101 Z6.z117 hb); have n8_ := Z6.k (Z6.bb BK102 Z6.z115 hb); have n9_ := Z6.k (Z6.bb BK124 Z6.z113 hb); have n10_ := Z6.k (Z6.bb BK131 Z6.z111 hb); have n11_ := Z6.k (Z6.bb BK138 Z6.z109 hb); have n12_ := Z6.k (Z6.bb BK146 Z6.z108 hb); have n13_ := Z6.k (blk_below (g := gb189) (o := .cells #[.int .i64 t182, .int .i64 t183, .int .i64 t184, .slice Ao199 t185.length co199] 28 (0, 0)) Z6.z33 hb); have n14_ := Z6.k (below_step Z6.z3 hb); clear HO_125003 HO_132003 HO_139003 HO_147003 HO175 HO181 HO187 BK101 BK102 BK124 BK131 BK138 BK146 BK189 HB; have HO_125003 := n0_; have HO_132003 := n1_; have HO_139003 := n2_; have HO_147003 := n3_; have HO175 := n4_; have HO181 := n5_; have HO187 := n6_; have BK101 := n7_; have BK102 := n8_; have BK124 := n9_; have BK131 := n10_; have BK138 := n11_; have BK146 := n12_; have BK189 := n13_; have HB := n14_; clear n0_ n1_ n2_ n3_ n4_ n5_ n6_ n7_ n8_ n9_ n10_ n11_ n12_ n13_ n14_; (try clear hb); (try clear hb2); (try clear hk); (try clear hi)))
          go_meet
          case rel => exact ⟨_, ((t188 != t123)), Z6.z122, H', ⟨(by have := HJ24.out; have := HJ111.out; first | omega | exact Nat.le_refl _)⟩, ⟨Z6.z92⟩, ⟨Z6.z91⟩, ⟨Z6.z90⟩, ⟨Z6.z89⟩, ⟨Z6.z93⟩, ⟨Z6.z102⟩, ⟨Z6.z101⟩, ⟨Z6.z100⟩, ⟨Z6.z99⟩, ⟨Z6.z98⟩, ⟨Z6.z97⟩, ⟨Z6.z96⟩, ⟨Z6.z3⟩⟩
         replace c202 := Bool.eq_false_iff.mpr c202
         subst c202
         have H1 : (laws_FnExactStackRows.j2 kj111 t167 true t139 t140 t141 t168) = some r := by rw [if_neg (show ¬ (false = true) by decide)] at H; exact H
         clear H
         have H := H1
         clear H1
         have H' := Z6.k H
         clear H
         have hnb217 := NB189_101.out
         have hnc217 := NB101_189.out
         have hnb218 := NB189_102.out
         have hnc218 := NB102_189.out
         have hnb219 := NB189_124.out
         have hnc219 := NB124_189.out
         have hnb220 := NB189_131.out
         have hnc220 := NB131_189.out
         have hnb221 := NB189_138.out
         have hnc221 := NB138_189.out
         have hnb222 := NB189_146.out
         have hnc222 := NB146_189.out
         have hcz223_0 : w195.cell? ⟨gb189, 0, none⟩ = some (.int .i64 0) := (blk_cell BK189.out 0).trans rfl
         have hcz223_1 : w195.cell? ⟨gb189, 1, none⟩ = some (.int .i64 0) := (blk_cell BK189.out 1).trans rfl
         have hcz223_2 : w195.cell? ⟨gb189, 2, none⟩ = some (.int .i64 0) := (blk_cell BK189.out 2).trans rfl
         have hcz223_3 : w195.cell? ⟨gb189, 3, none⟩ = some (.slice none 0 0) := (blk_cell BK189.out 3).trans rfl
         have hfz223_0 := blk_frozen BK189.out 0
         have hfz223_1 := blk_frozen BK189.out 1
         have hfz223_2 := blk_frozen BK189.out 2
         have hfz223_3 := blk_frozen BK189.out 3
         have hnb224 := NB124_101.out
         have hnc224 := NB101_124.out
         have hnb225 := NB124_102.out
         have hnc225 := NB102_124.out
         have hnb226 := NB124_131.out
         have hnc226 := NB131_124.out
         have hnb227 := NB124_138.out
         have hnc227 := NB138_124.out
         have hnb228 := NB124_146.out
         have hnc228 := NB146_124.out
         have hcz229_0 : w195.cell? ⟨gb124, 0, none⟩ = some (.int .i64 t117) := (blk_cell BK124.out 0).trans rfl
         have hcz229_1 : w195.cell? ⟨gb124, 1, none⟩ = some (.int .i64 t118) := (blk_cell BK124.out 1).trans rfl
         have hcz229_2 : w195.cell? ⟨gb124, 2, none⟩ = some (.int .i64 t119) := (blk_cell BK124.out 2).trans rfl
         have hcz229_3 : w195.cell? ⟨gb124, 3, none⟩ = some (.slice Ao44 t120.length co44) := (blk_cell BK124.out 3).trans rfl
         have hfz229_0 := blk_frozen BK124.out 0
         have hfz229_1 := blk_frozen BK124.out 1
         have hfz229_2 := blk_frozen BK124.out 2
         have hfz229_3 := blk_frozen BK124.out 3
         go_wp2_with (first | ((with_reducible refine gate_callee (f := 12) rfl ?_); refine goesL_ (some 104) rfl rfl Try.func12 (by kernel_rfl) rfl #[.agg #[.int .i64 t182, .int .i64 t183, .int .i64 t184, .slice Ao199 t185.length co199], .agg #[.int .i64 t117, .int .i64 t118, .int .i64 t119, .slice Ao44 t120.length co44]] rfl Z6.z7 ?_; (with_reducible refine (laws_eqMatrix.calls kj111 t182 t183 t184 _ _ t185 t117 t118 t119 _ _ t120 false _ ?side1 ?side2 ?side3 ?side4 A201.out).mono ?_); (case side1 => exact Z6.z68); (case side2 => exact (Kd.R_reads' HO187.out).2.1); (case side3 => exact Z6.z67); (case side4 => exact (Kd.R_reads' HO_125003.out).2.1); rintro e w230 ⟨rfl, hb⟩; refine ⟨_, rfl, ?_⟩; have n0_ := Z6.k (Kd.R_below Z6.z21 hb); have n1_ := Z6.k (Kd.R_below Z6.z53 hb); have n2_ := Z6.k (Kd.R_below Z6.z52 hb); have n3_ := Z6.k (Kd.R_below Z6.z51 hb); have n4_ := Z6.k (Kd.R_below Z6.z55 hb); have n5_ := Z6.k (Kd.R_below Z6.z54 hb); have n6_ := Z6.k (Kd.R_below Z6.z23 hb); have n7_ := Z6.k (Z6.bb BK101 Z6.z117 hb); have n8_ := Z6.k (Z6.bb BK102 Z6.z115 hb); have n9_ := Z6.k (Z6.bb BK124 Z6.z113 hb); have n10_ := Z6.k (Z6.bb BK131 Z6.z111 hb); have n11_ := Z6.k (Z6.bb BK138 Z6.z109 hb); have n12_ := Z6.k (Z6.bb BK146 Z6.z108 hb); have n13_ := Z6.k (blk_below (g := gb189) (o := .cells #[.int .i64 t182, .int .i64 t183, .int .i64 t184, .slice Ao199 t185.length co199] 28 (0, 0)) Z6.z33 hb); have n14_ := Z6.k (below_step Z6.z3 hb); clear HO_125003 HO_132003 HO_139003 HO_147003 HO175 HO181 HO187 BK101 BK102 BK124 BK131 BK138 BK146 BK189 HB; have HO_125003 := n0_; have HO_132003 := n1_; have HO_139003 := n2_; have HO_147003 := n3_; have HO175 := n4_; have HO181 := n5_; have HO187 := n6_; have BK101 := n7_; have BK102 := n8_; have BK124 := n9_; have BK131 := n10_; have BK138 := n11_; have BK146 := n12_; have BK189 := n13_; have HB := n14_; clear n0_ n1_ n2_ n3_ n4_ n5_ n6_ n7_ n8_ n9_ n10_ n11_ n12_ n13_ n14_; (try clear hb); (try clear hb2); (try clear hk); (try clear hi)))
         go_meet
         case rel => exact ⟨_, (true), Z6.z122, H', ⟨(by have := HJ24.out; have := HJ111.out; first | omega | exact Nat.le_refl _)⟩, ⟨Z6.z92⟩, ⟨Z6.z91⟩, ⟨Z6.z90⟩, ⟨Z6.z89⟩, ⟨Z6.z93⟩, ⟨Z6.z102⟩, ⟨Z6.z101⟩, ⟨Z6.z100⟩, ⟨Z6.z99⟩, ⟨Z6.z98⟩, ⟨Z6.z97⟩, ⟨Z6.z96⟩, ⟨Z6.z3⟩⟩
        case rest =>
         clear HC178
         try clear c1
         try clear c2
         try clear p2
         try clear c10
         try clear c12
         try clear c20
         try clear c21
         try clear c22
         try clear c202
         try clear c203
         try clear c204
         try clear c205
         try clear c206
         try clear c207
         try clear c208
         try clear c210
         try clear c211
         try clear c212
         try clear c213
         try clear c214
         try clear c217
         try clear c218
         try clear c219
         try clear c220
         try clear c221
         try clear c222
         try clear c224
         try clear c225
         try clear c226
         try clear c227
         try clear c228
         try clear hcz209_0
         try clear hcz209_1
         try clear hcz209_2
         try clear hcz209_3
         try clear hcz215_0
         try clear hcz215_1
         try clear hcz215_2
         try clear hcz215_3
         try clear hcz223_0
         try clear hcz223_1
         try clear hcz223_2
         try clear hcz223_3
         try clear hcz229_0
         try clear hcz229_1
         try clear hcz229_2
         try clear hcz229_3
         try clear hfz209_0
         try clear hfz209_1
         try clear hfz209_2
         try clear hfz209_3
         try clear hfz215_0
         try clear hfz215_1
         try clear hfz215_2
         try clear hfz215_3
         try clear hfz223_0
         try clear hfz223_1
         try clear hfz223_2
         try clear hfz223_3
         try clear hfz229_0
         try clear hfz229_1
         try clear hfz229_2
         try clear hfz229_3
         obtain ⟨kq, x110_177, rfl, HA, HJ177, HO_125003, HO_132003, HO_139003, HO_147003, HO_190003, BK101, BK102, BK124, BK131, BK138, BK146, BK189, HB⟩ := hcut
         have hl147003_177 := (Kd.R_reads' HO_147003.out).1
         rw [hl147003_177] at HO_147003
         (try simp only [hl147003_177])
         (try simp only [hl147003_177] at BK101)
         (try simp only [hl147003_177] at BK102)
         (try simp only [hl147003_177] at BK124)
         (try simp only [hl147003_177] at BK131)
         (try simp only [hl147003_177] at BK138)
         (try simp only [hl147003_177] at BK146)
         (try simp only [hl147003_177] at BK189)
         (try simp only [hl147003_177] at HO_125003)
         (try simp only [hl147003_177] at HO_132003)
         (try simp only [hl147003_177] at HO_139003)
         (try simp only [hl147003_177] at HO_190003)
         cases kq with
         | zero => exact absurd HA.out (by simp [laws_FnExactStackRows.j2])
         | succ kj177 =>
          have H := HA.out
          clear HA
          simp only [laws_FnExactStackRows.j2] at H
          by_cases c231 : x110_177 = true
          ·subst c231
           have H1 : (some false) = some r := by rw [if_pos rfl] at H; exact H
           clear H
           have H := H1
           clear H1
           obtain rfl := Option.some.inj H
           go_wp2
           go_ret
           exact ⟨Z6.z37, Z6.z3⟩
          replace c231 := Bool.eq_false_iff.mpr c231
          subst c231
          have H1 : ((laws_heldMatrix.f kj177 t139 t140 t141 t168 1).bind fun t191 => (if t191 < 0 then (some false) else (if t191 = t167 then (some true) else (some false)))) = some r := by rw [if_neg (show ¬ (false = true) by decide)] at H; exact H
          clear H
          have H := H1
          clear H1
          replace H := Option.bind_eq_some_iff.mp H
          obtain ⟨t191, A2320, H⟩ := H
          replace H : (if t191 < 0 then (some false) else (if t191 = t167 then (some true) else (some false))) = some r := H
          have A232 := Z6.k A2320
          clear A2320
          by_cases c233 : t191 < 0
          ·rw [if_pos c233] at H
           have c233b0 : decide (t191 < 0) = true := decide_eq_true c233
           clear c233
           obtain rfl := Option.some.inj H
           have hnb234 := NB146_101.out
           have hnc234 := NB101_146.out
           have hnb235 := NB146_102.out
           have hnc235 := NB102_146.out
           have hnb236 := NB146_124.out
           have hnc236 := NB124_146.out
           have hnb237 := NB146_131.out
           have hnc237 := NB131_146.out
           have hnb238 := NB146_138.out
           have hnc238 := NB138_146.out
           have hnb239 := NB146_189.out
           have hnc239 := NB189_146.out
           have hcz240_0 : wc.cell? ⟨gb146, 0, none⟩ = some (.int .i64 t139) := (blk_cell BK146.out 0).trans rfl
           have hcz240_1 : wc.cell? ⟨gb146, 1, none⟩ = some (.int .i64 t140) := (blk_cell BK146.out 1).trans rfl
           have hcz240_2 : wc.cell? ⟨gb146, 2, none⟩ = some (.int .i64 t141) := (blk_cell BK146.out 2).trans rfl
           have hcz240_3 : wc.cell? ⟨gb146, 3, none⟩ = some (.slice Ao76 t168.length co76) := (blk_cell BK146.out 3).trans rfl
           have hfz240_0 := blk_frozen BK146.out 0
           have hfz240_1 := blk_frozen BK146.out 1
           have hfz240_2 := blk_frozen BK146.out 2
           have hfz240_3 := blk_frozen BK146.out 3
           go_wp2_with (first | ((with_reducible refine gate_callee (f := 18) rfl ?_); refine goesL_ (some 113) rfl rfl Try.func18 (by kernel_rfl) rfl #[.agg #[.int .i64 t139, .int .i64 t140, .int .i64 t141, .slice Ao76 t168.length co76], .int .i64 1] rfl Z6.z7 ?_; (with_reducible refine (laws_heldMatrix.calls kj177 t139 t140 t141 _ _ t168 1 t191 _ ?side1 ?side2 A232.out).mono ?_); (case side1 => exact Z6.z32); (case side2 => exact (Kd.R_reads' HO_147003.out).2.1); rintro e w241 ⟨rfl, hb⟩; refine ⟨_, rfl, ?_⟩; have n0_ := Z6.k (Kd.R_below Z6.z15 hb); have n1_ := Z6.k (Kd.R_below Z6.z14 hb); have n2_ := Z6.k (Kd.R_below Z6.z13 hb); have n3_ := Z6.k (Kd.R_below Z6.z12 hb); have n4_ := Z6.k (Kd.R_below Z6.z95 hb); have n5_ := Z6.k (Z6.bb BK101 Z6.z1 hb); have n6_ := Z6.k (Z6.bb BK102 Z6.z2 hb); have n7_ := Z6.k (Z6.bb BK124 Z6.z5 hb); have n8_ := Z6.k (Z6.bb BK131 Z6.z6 hb); have n9_ := Z6.k (Z6.bb BK138 Z6.z8 hb); have n10_ := Z6.k (Z6.bb BK146 Z6.z9 hb); have n11_ := Z6.k (Z6.bb BK189 Z6.z30 hb); have n12_ := Z6.k (below_step Z6.z3 hb); clear HO_125003 HO_132003 HO_139003 HO_147003 HO_190003 BK101 BK102 BK124 BK131 BK138 BK146 BK189 HB; have HO_125003 := n0_; have HO_132003 := n1_; have HO_139003 := n2_; have HO_147003 := n3_; have HO_190003 := n4_; have BK101 := n5_; have BK102 := n6_; have BK124 := n7_; have BK131 := n8_; have BK138 := n9_; have BK146 := n10_; have BK189 := n11_; have HB := n12_; clear n0_ n1_ n2_ n3_ n4_ n5_ n6_ n7_ n8_ n9_ n10_ n11_ n12_; (try clear hb); (try clear hb2); (try clear hk); (try clear hi)))
           go_ret
           exact ⟨Z6.z37, Z6.z3⟩
          rw [if_neg c233] at H
          have c233b0 : decide (t191 < 0) = false := decide_eq_false c233
          clear c233
          by_cases c242 : t191 = t167
          ·rw [if_pos c242] at H
           have c242b0 : (t191 == t167) = true := beq_iff_eq.mpr c242
           have c242b1 : (t191 != t167) = false := bne_eq_false_iff_eq.mpr c242
           clear c242
           obtain rfl := Option.some.inj H
           have hnb243 := NB146_101.out
           have hnc243 := NB101_146.out
           have hnb244 := NB146_102.out
           have hnc244 := NB102_146.out
           have hnb245 := NB146_124.out
           have hnc245 := NB124_146.out
           have hnb246 := NB146_131.out
           have hnc246 := NB131_146.out
           have hnb247 := NB146_138.out
           have hnc247 := NB138_146.out
           have hnb248 := NB146_189.out
           have hnc248 := NB189_146.out
           have hcz249_0 : wc.cell? ⟨gb146, 0, none⟩ = some (.int .i64 t139) := (blk_cell BK146.out 0).trans rfl
           have hcz249_1 : wc.cell? ⟨gb146, 1, none⟩ = some (.int .i64 t140) := (blk_cell BK146.out 1).trans rfl
           have hcz249_2 : wc.cell? ⟨gb146, 2, none⟩ = some (.int .i64 t141) := (blk_cell BK146.out 2).trans rfl
           have hcz249_3 : wc.cell? ⟨gb146, 3, none⟩ = some (.slice Ao76 t168.length co76) := (blk_cell BK146.out 3).trans rfl
           have hfz249_0 := blk_frozen BK146.out 0
           have hfz249_1 := blk_frozen BK146.out 1
           have hfz249_2 := blk_frozen BK146.out 2
           have hfz249_3 := blk_frozen BK146.out 3
           go_wp2_with (first | ((with_reducible refine gate_callee (f := 18) rfl ?_); refine goesL_ (some 113) rfl rfl Try.func18 (by kernel_rfl) rfl #[.agg #[.int .i64 t139, .int .i64 t140, .int .i64 t141, .slice Ao76 t168.length co76], .int .i64 1] rfl Z6.z7 ?_; (with_reducible refine (laws_heldMatrix.calls kj177 t139 t140 t141 _ _ t168 1 t191 _ ?side1 ?side2 A232.out).mono ?_); (case side1 => exact Z6.z32); (case side2 => exact (Kd.R_reads' HO_147003.out).2.1); rintro e w250 ⟨rfl, hb⟩; refine ⟨_, rfl, ?_⟩; have n0_ := Z6.k (Kd.R_below Z6.z15 hb); have n1_ := Z6.k (Kd.R_below Z6.z14 hb); have n2_ := Z6.k (Kd.R_below Z6.z13 hb); have n3_ := Z6.k (Kd.R_below Z6.z12 hb); have n4_ := Z6.k (Kd.R_below Z6.z95 hb); have n5_ := Z6.k (Z6.bb BK101 Z6.z1 hb); have n6_ := Z6.k (Z6.bb BK102 Z6.z2 hb); have n7_ := Z6.k (Z6.bb BK124 Z6.z5 hb); have n8_ := Z6.k (Z6.bb BK131 Z6.z6 hb); have n9_ := Z6.k (Z6.bb BK138 Z6.z8 hb); have n10_ := Z6.k (Z6.bb BK146 Z6.z9 hb); have n11_ := Z6.k (Z6.bb BK189 Z6.z30 hb); have n12_ := Z6.k (below_step Z6.z3 hb); clear HO_125003 HO_132003 HO_139003 HO_147003 HO_190003 BK101 BK102 BK124 BK131 BK138 BK146 BK189 HB; have HO_125003 := n0_; have HO_132003 := n1_; have HO_139003 := n2_; have HO_147003 := n3_; have HO_190003 := n4_; have BK101 := n5_; have BK102 := n6_; have BK124 := n7_; have BK131 := n8_; have BK138 := n9_; have BK146 := n10_; have BK189 := n11_; have HB := n12_; clear n0_ n1_ n2_ n3_ n4_ n5_ n6_ n7_ n8_ n9_ n10_ n11_ n12_; (try clear hb); (try clear hb2); (try clear hk); (try clear hi)))
           go_ret
           exact ⟨Z6.z37, Z6.z3⟩
          rw [if_neg c242] at H
          have c242b0 : (t191 == t167) = false := beq_eq_false_iff_ne.mpr c242
          have c242b1 : (t191 != t167) = true := bne_iff_ne.mpr c242
          obtain rfl := Option.some.inj H
          have hnb251 := NB146_101.out
          have hnc251 := NB101_146.out
          have hnb252 := NB146_102.out
          have hnc252 := NB102_146.out
          have hnb253 := NB146_124.out
          have hnc253 := NB124_146.out
          have hnb254 := NB146_131.out
          have hnc254 := NB131_146.out
          have hnb255 := NB146_138.out
          have hnc255 := NB138_146.out
          have hnb256 := NB146_189.out
          have hnc256 := NB189_146.out
          have hcz257_0 : wc.cell? ⟨gb146, 0, none⟩ = some (.int .i64 t139) := (blk_cell BK146.out 0).trans rfl
          have hcz257_1 : wc.cell? ⟨gb146, 1, none⟩ = some (.int .i64 t140) := (blk_cell BK146.out 1).trans rfl
          have hcz257_2 : wc.cell? ⟨gb146, 2, none⟩ = some (.int .i64 t141) := (blk_cell BK146.out 2).trans rfl
          have hcz257_3 : wc.cell? ⟨gb146, 3, none⟩ = some (.slice Ao76 t168.length co76) := (blk_cell BK146.out 3).trans rfl
          have hfz257_0 := blk_frozen BK146.out 0
          have hfz257_1 := blk_frozen BK146.out 1
          have hfz257_2 := blk_frozen BK146.out 2
          have hfz257_3 := blk_frozen BK146.out 3
          go_wp2_with (first | ((with_reducible refine gate_callee (f := 18) rfl ?_); refine goesL_ (some 113) rfl rfl Try.func18 (by kernel_rfl) rfl #[.agg #[.int .i64 t139, .int .i64 t140, .int .i64 t141, .slice Ao76 t168.length co76], .int .i64 1] rfl Z6.z7 ?_; (with_reducible refine (laws_heldMatrix.calls kj177 t139 t140 t141 _ _ t168 1 t191 _ ?side1 ?side2 A232.out).mono ?_); (case side1 => exact Z6.z32); (case side2 => exact (Kd.R_reads' HO_147003.out).2.1); rintro e w258 ⟨rfl, hb⟩; refine ⟨_, rfl, ?_⟩; have n0_ := Z6.k (Kd.R_below Z6.z15 hb); have n1_ := Z6.k (Kd.R_below Z6.z14 hb); have n2_ := Z6.k (Kd.R_below Z6.z13 hb); have n3_ := Z6.k (Kd.R_below Z6.z12 hb); have n4_ := Z6.k (Kd.R_below Z6.z95 hb); have n5_ := Z6.k (Z6.bb BK101 Z6.z1 hb); have n6_ := Z6.k (Z6.bb BK102 Z6.z2 hb); have n7_ := Z6.k (Z6.bb BK124 Z6.z5 hb); have n8_ := Z6.k (Z6.bb BK131 Z6.z6 hb); have n9_ := Z6.k (Z6.bb BK138 Z6.z8 hb); have n10_ := Z6.k (Z6.bb BK146 Z6.z9 hb); have n11_ := Z6.k (Z6.bb BK189 Z6.z30 hb); have n12_ := Z6.k (below_step Z6.z3 hb); clear HO_125003 HO_132003 HO_139003 HO_147003 HO_190003 BK101 BK102 BK124 BK131 BK138 BK146 BK189 HB; have HO_125003 := n0_; have HO_132003 := n1_; have HO_139003 := n2_; have HO_147003 := n3_; have HO_190003 := n4_; have BK101 := n5_; have BK102 := n6_; have BK124 := n7_; have BK131 := n8_; have BK138 := n9_; have BK146 := n10_; have BK189 := n11_; have HB := n12_; clear n0_ n1_ n2_ n3_ n4_ n5_ n6_ n7_ n8_ n9_ n10_ n11_ n12_; (try clear hb); (try clear hb2); (try clear hk); (try clear hi)))
          go_ret
          exact ⟨Z6.z37, Z6.z3⟩
       rw [if_neg c174] at H
       have c174b0 : (t169 == t167) = false := beq_eq_false_iff_ne.mpr c174
       have c174b1 : (t169 != t167) = true := bne_iff_ne.mpr c174
       obtain rfl := Option.some.inj H
       have hnb259 := NB146_101.out
       have hnc259 := NB101_146.out
       have hnb260 := NB146_102.out
       have hnc260 := NB102_146.out
       have hnb261 := NB146_124.out
       have hnc261 := NB124_146.out
       have hnb262 := NB146_131.out
       have hnc262 := NB131_146.out
       have hnb263 := NB146_138.out
       have hnc263 := NB138_146.out
       have hcz264_0 : wc.cell? ⟨gb146, 0, none⟩ = some (.int .i64 t139) := (blk_cell BK146.out 0).trans rfl
       have hcz264_1 : wc.cell? ⟨gb146, 1, none⟩ = some (.int .i64 t140) := (blk_cell BK146.out 1).trans rfl
       have hcz264_2 : wc.cell? ⟨gb146, 2, none⟩ = some (.int .i64 t141) := (blk_cell BK146.out 2).trans rfl
       have hcz264_3 : wc.cell? ⟨gb146, 3, none⟩ = some (.slice Ao76 t142.length co76) := (blk_cell BK146.out 3).trans rfl
       have hfz264_0 := blk_frozen BK146.out 0
       have hfz264_1 := blk_frozen BK146.out 1
       have hfz264_2 := blk_frozen BK146.out 2
       have hfz264_3 := blk_frozen BK146.out 3
       go_wp2_with (first | ((with_reducible refine gate_callee (f := 17) rfl ?_); refine goesL_ (some 85) rfl rfl Try.func17 (by kernel_rfl) rfl #[.agg #[.int .i64 t139, .int .i64 t140, .int .i64 t141, .slice Ao76 t142.length co76], .int .i64 1] rfl Z6.z7 ?_; (with_reducible refine (laws_markMatrix.calls kj111 t139 t140 t141 (fun k_ => some k_ = (.slice Ao76 t142.length co76 : Value).ownBlock) (.slice Ao76 t142.length co76) t142 1 t167 t168 w _ ?side1 ?side2 A162.out).mono ?_); (case side1 => exact Z6.z0); (case side2 => exact Kd.R_tight rfl HO_147003.out); rintro e w265 ⟨rfl, hy0, hb, hkp⟩; refine ⟨_, rfl, ?_⟩; have n0_ := Z6.k (Kd.R_mono (ok' := fun k_ => some k_ ≠ (.slice Ao54 t163.length co54 : Value).ownBlock ∧ some k_ ≠ (.slice Ao64 t165.length co64 : Value).ownBlock ∧ some k_ ≠ (.slice Ao76 t142.length co76 : Value).ownBlock) (Kd.R_keptB (HO_125003.out) hkp (fun k_ hk_ hs_ => (hk_.2.2) hs_)) (fun k_ hk_ => ⟨hk_.1.1, hk_.1.2.1, hk_.1.2.2⟩)); have n1_ := Z6.k (Kd.R_mono (ok' := fun k_ => some k_ ≠ (.slice Ao44 t120.length co44 : Value).ownBlock ∧ some k_ ≠ (.slice Ao64 t165.length co64 : Value).ownBlock ∧ some k_ ≠ (.slice Ao76 t142.length co76 : Value).ownBlock) (Kd.R_keptB (HO_132003.out) hkp (fun k_ hk_ hs_ => (hk_.2.2) hs_)) (fun k_ hk_ => ⟨hk_.1.1, hk_.1.2.1, hk_.1.2.2⟩)); have n2_ := Z6.k (Kd.R_mono (ok' := fun k_ => some k_ ≠ (.slice Ao44 t120.length co44 : Value).ownBlock ∧ some k_ ≠ (.slice Ao54 t163.length co54 : Value).ownBlock ∧ some k_ ≠ (.slice Ao76 t142.length co76 : Value).ownBlock) (Kd.R_keptB (HO_139003.out) hkp (fun k_ hk_ hs_ => (hk_.2.2) hs_)) (fun k_ hk_ => ⟨hk_.1.1, hk_.1.2.1, hk_.1.2.2⟩)); have n3_ := Z6.k (Kd.R_reok rfl hy0 (fun k_ e_ => HO_147003.out.1 k_ e_)); have n4_ := Z6.k (blk_kept Z6.z1 hkp (fun hs_ => (fun e_ => (Kd.R_ne HO_147003.out BK101.out (by decide)) e_) hs_)); have n5_ := Z6.k (blk_kept Z6.z2 hkp (fun hs_ => (fun e_ => (Kd.R_ne HO_147003.out BK102.out (by decide)) e_) hs_)); have n6_ := Z6.k (blk_kept Z6.z5 hkp (fun hs_ => (fun e_ => (Kd.R_ne HO_147003.out BK124.out (by decide)) e_) hs_)); have n7_ := Z6.k (blk_kept Z6.z6 hkp (fun hs_ => (fun e_ => (Kd.R_ne HO_147003.out BK131.out (by decide)) e_) hs_)); have n8_ := Z6.k (blk_kept Z6.z8 hkp (fun hs_ => (fun e_ => (Kd.R_ne HO_147003.out BK138.out (by decide)) e_) hs_)); have n9_ := Z6.k (blk_kept Z6.z9 hkp (fun hs_ => (fun e_ => (Kd.R_ne HO_147003.out BK146.out (by decide)) e_) hs_)); have n10_ := Z6.k (hb); clear HO_125003 HO_132003 HO_139003 HO_147003 BK101 BK102 BK124 BK131 BK138 BK146 HB; have HO_125003 := n0_; have HO_132003 := n1_; have HO_139003 := n2_; have HO_147003 := n3_; have BK101 := n4_; have BK102 := n5_; have BK124 := n6_; have BK131 := n7_; have BK138 := n8_; have BK146 := n9_; have HB := n10_; clear n0_ n1_ n2_ n3_ n4_ n5_ n6_ n7_ n8_ n9_ n10_; (try clear hb); (try clear hkp); (try clear hy0); have hcz266_0 : w265.cell? ⟨gb146, 0, none⟩ = some (.int .i64 t139) := (blk_cell BK146.out 0).trans rfl; have hcz266_1 : w265.cell? ⟨gb146, 1, none⟩ = some (.int .i64 t140) := (blk_cell BK146.out 1).trans rfl; have hcz266_2 : w265.cell? ⟨gb146, 2, none⟩ = some (.int .i64 t141) := (blk_cell BK146.out 2).trans rfl; have hcz266_3 : w265.cell? ⟨gb146, 3, none⟩ = some (.slice Ao76 t142.length co76) := (blk_cell BK146.out 3).trans rfl; have hfz266_0 := blk_frozen BK146.out 0; have hfz266_1 := blk_frozen BK146.out 1; have hfz266_2 := blk_frozen BK146.out 2; have hfz266_3 := blk_frozen BK146.out 3) | ((with_reducible refine gate_callee (f := 18) rfl ?_); refine goesL_ (some 88) rfl rfl Try.func18 (by kernel_rfl) rfl #[.agg #[.int .i64 t139, .int .i64 t140, .int .i64 t141, .slice Ao76 t168.length co76], .int .i64 1] rfl Z6.z70 ?_; (with_reducible refine (laws_heldMatrix.calls kj111 t139 t140 t141 _ _ t168 1 t169 _ ?side1 ?side2 A163.out).mono ?_); (case side1 => exact Z6.z32); (case side2 => exact Z6.z94); rintro e w267 ⟨rfl, hb⟩; refine ⟨_, rfl, ?_⟩; have n0_ := Z6.k (Kd.R_below Z6.z15 hb); have n1_ := Z6.k (Kd.R_below Z6.z14 hb); have n2_ := Z6.k (Kd.R_below Z6.z13 hb); have n3_ := Z6.k (Kd.R_below Z6.z12 hb); have n4_ := Z6.k (Z6.bb BK101 Z6.z1 hb); have n5_ := Z6.k (Z6.bb BK102 Z6.z2 hb); have n6_ := Z6.k (Z6.bb BK124 Z6.z5 hb); have n7_ := Z6.k (Z6.bb BK131 Z6.z6 hb); have n8_ := Z6.k (Z6.bb BK138 Z6.z8 hb); have n9_ := Z6.k (Z6.bb BK146 Z6.z9 hb); have n10_ := Z6.k (below_step Z6.z0 hb); clear HO_125003 HO_132003 HO_139003 HO_147003 BK101 BK102 BK124 BK131 BK138 BK146 HB; have HO_125003 := n0_; have HO_132003 := n1_; have HO_139003 := n2_; have HO_147003 := n3_; have BK101 := n4_; have BK102 := n5_; have BK124 := n6_; have BK131 := n7_; have BK138 := n8_; have BK146 := n9_; have HB := n10_; clear n0_ n1_ n2_ n3_ n4_ n5_ n6_ n7_ n8_ n9_ n10_; (try clear hb); (try clear hb2); (try clear hk); (try clear hi)))
       go_ret
       exact ⟨Z6.z37, Z6.z0⟩
    replace c109 := Bool.eq_false_iff.mpr c109
    subst c109
    have H1 : (some false) = some r := by rw [if_neg (show ¬ (false = true) by decide)] at H; exact H
    clear H
    have H := H1
    clear H1
    obtain rfl := Option.some.inj H
    try go_wp2
    have n0_ := Z6.k (Kd.R_drew HO_125003.out)
    have n1_ := Z6.k (Kd.R_drew HO_132003.out)
    have n2_ := Z6.k (Kd.R_drew HO_139003.out)
    have n3_ := Z6.k (Kd.R_drew HO_147003.out)
    have n4_ := Z6.k (blk_drew BK101.out)
    have n5_ := Z6.k (blk_drew BK102.out)
    have n6_ := Z6.k (blk_drew BK124.out)
    have n7_ := Z6.k (blk_drew BK131.out)
    have n8_ := Z6.k (blk_drew BK138.out)
    have n9_ := Z6.k (blk_drew BK146.out)
    have n10_ := Z6.k (below_drew1 HB.out)
    clear HO_125003 HO_132003 HO_139003 HO_147003 BK101 BK102 BK124 BK131 BK138 BK146 HB
    have HO_125003 := n0_
    have HO_132003 := n1_
    have HO_139003 := n2_
    have HO_147003 := n3_
    have BK101 := n4_
    have BK102 := n5_
    have BK124 := n6_
    have BK131 := n7_
    have BK138 := n8_
    have BK146 := n9_
    have HB := n10_
    clear n0_ n1_ n2_ n3_ n4_ n5_ n6_ n7_ n8_ n9_ n10_
    refine start_ (n := 5) (S := fun w' => w'.cell? ⟨gb131, 0, none⟩ = some (.int .i64 t125) ∧ w'.cell? ⟨gb131, 1, none⟩ = some (.int .i64 t126) ∧ w'.cell? ⟨gb131, 2, none⟩ = some (.int .i64 t127) ∧ w'.cell? ⟨gb131, 3, none⟩ = some (.slice Ao54 t128.length co54) ∧ w'.cell? ⟨gb101, 0, none⟩ = some (.int .i64 a0_0) ∧ w'.cell? ⟨gb101, 1, none⟩ = some (.int .i64 a0_1) ∧ w'.cell? ⟨gb101, 2, none⟩ = some (.int .i64 a0_2) ∧ w'.cell? ⟨gb101, 3, none⟩ = some (.slice A0_3 l0_3.length c0_3)) (ds := []) #[false, false, false, false, false] (by kernel_rfl) rfl rfl Z6.z17 (fun hHeld => ?_)
    generalize wc.drew = w268 at HO_125003 HO_132003 HO_139003 HO_147003 BK101 BK102 BK124 BK131 BK138 BK146 HB hHeld ⊢
    refine take_ (i := 0) (N := some 54) (v := ?_) (a' := ?_) #[true, false, false, false, false] rfl rfl (by kernel_rfl) (fun _ _ _ h => h) (Or.inl ⟨(by rfl), ?_⟩) hHeld ?_ ?_
    rotate_left
    ·rintro w' ⟨s0, s1, s2, s3, s4, s5, s6, s7⟩
     go_simp
     with_reducible rfl
    rotate_left
    ·exact Z6.z16
    refine take_ (i := 1) (N := some 55) (v := ?_) (a' := ?_) #[true, true, false, false, false] rfl rfl (by kernel_rfl) (fun _ _ _ h => h) (Or.inl ⟨(by rfl), ?_⟩) hHeld ?_ ?_
    rotate_left
    ·rintro w' ⟨s0, s1, s2, s3, s4, s5, s6, s7⟩
     go_simp
     with_reducible rfl
    rotate_left
    ·exact Z6.z16
    refine one_ (i := 2) (N := some 56) #[true, true, true, false, false] rfl rfl (by kernel_rfl) (by decide) (fun K hK => ?_)
    refine goes_ Try.func10 (by kernel_rfl) rfl #[.agg #[.int .i64 a0_0, .int .i64 a0_1, .int .i64 a0_2, .slice A0_3 l0_3.length c0_3]] (by rfl) rfl rfl Z6.z7 ?_
    with_reducible refine (laws_toMatrix.calls kj24 a0_0 a0_1 a0_2 _ _ l0_3 t148 t149 t150 t151 _ ?side1 ?side2 A104.out).mono ?_
    (case side1 => exact Z6.z20)
    (case side2 => exact HC0_3.out)
    rintro e w269 ⟨v152, rfl, ho0, hb⟩
    refine ⟨_, rfl, ?_⟩
    have n0_ := Z6.k (Kd.R_elder' Z6.z15 (Kd.R_base ho0) hb)
    have n1_ := Z6.k (Kd.R_elder' Z6.z14 (Kd.R_base ho0) hb)
    have n2_ := Z6.k (Kd.R_elder' Z6.z13 (Kd.R_base ho0) hb)
    have n3_ := Z6.k (Kd.R_elder' Z6.z12 (Kd.R_base ho0) hb)
    have n4_ := Z6.k (Kd.R_lower (Kd.R_new' (Kd.R_new' (Kd.R_new' (Kd.R_new' ho0 (Kd.R_lt Z6.z15)) (Kd.R_lt Z6.z14)) (Kd.R_lt Z6.z13)) (Kd.R_lt Z6.z12)) (below_size Z6.z0))
    have n5_ := Z6.k (Z6.bb BK101 Z6.z1 hb)
    have n6_ := Z6.k (Z6.bb BK102 Z6.z2 hb)
    have n7_ := Z6.k (Z6.bb BK124 Z6.z5 hb)
    have n8_ := Z6.k (Z6.bb BK131 Z6.z6 hb)
    have n9_ := Z6.k (Z6.bb BK138 Z6.z8 hb)
    have n10_ := Z6.k (Z6.bb BK146 Z6.z9 hb)
    have n11_ := Z6.k (below_step Z6.z0 hb)
    clear HO_125003 HO_132003 HO_139003 HO_147003 BK101 BK102 BK124 BK131 BK138 BK146 HB
    have HO_125003 := n0_
    have HO_132003 := n1_
    have HO_139003 := n2_
    have HO_147003 := n3_
    have HO153 := n4_
    have BK101 := n5_
    have BK102 := n6_
    have BK124 := n7_
    have BK131 := n8_
    have BK138 := n9_
    have BK146 := n10_
    have HB := n11_
    clear n0_ n1_ n2_ n3_ n4_ n5_ n6_ n7_ n8_ n9_ n10_ n11_
    (try clear hb)
    (try clear hb2)
    (try clear hk)
    (try clear hi)
    (try clear ho0)
    obtain ⟨Ao270, co270, eo270⟩ := Kd.R_slice HO153.out
    (first | subst eo270 | (injection eo270 with f1_ f2_ f3_; have f4_ := f1_.symm; have f5_ := f3_.symm; clear f1_ f2_ f3_; subst f4_; subst f5_))
    refine hK.out _ _ Z6.z17 (fun hHeld => ?_)
    clear hK K
    refine norm_ (a' := ?_) ?_ ?_
    rotate_left
    ·show Act.put _ (some 56) _ = _
     simp only [Act.put, List.setIfInBounds_toArray, List.set_cons_zero, List.set_cons_succ, i64_w, i32_w]
     rfl
    refine one_ (i := 3) (N := some 57) #[true, true, true, true, false] rfl rfl (by kernel_rfl) (by decide) (fun K hK => ?_)
    refine goes_ Try.func12 (by kernel_rfl) rfl #[.agg #[.int .i64 t125, .int .i64 t126, .int .i64 t127, .slice Ao54 t128.length co54], .agg #[.int .i64 t148, .int .i64 t149, .int .i64 t150, .slice Ao270 t151.length co270]] (by rfl) rfl rfl Z6.z7 ?_
    with_reducible refine (laws_eqMatrix.calls kj24 t125 t126 t127 _ _ t128 t148 t149 t150 _ _ t151 true _ ?side1 ?side2 ?side3 ?side4 A105.out).mono ?_
    (case side1 => exact Z6.z79)
    (case side2 => exact (Kd.R_reads' HO_132003.out).2.1)
    (case side3 => exact Z6.z80)
    (case side4 => exact (Kd.R_reads' HO153.out).2.1)
    rintro e w271 ⟨rfl, hb⟩
    refine ⟨_, rfl, ?_⟩
    have n0_ := Z6.k (Kd.R_below Z6.z15 hb)
    have n1_ := Z6.k (Kd.R_below Z6.z14 hb)
    have n2_ := Z6.k (Kd.R_below Z6.z13 hb)
    have n3_ := Z6.k (Kd.R_below Z6.z12 hb)
    have n4_ := Z6.k (Kd.R_below Z6.z36 hb)
    have n5_ := Z6.k (Z6.bb BK101 Z6.z1 hb)
    have n6_ := Z6.k (Z6.bb BK102 Z6.z2 hb)
    have n7_ := Z6.k (Z6.bb BK124 Z6.z5 hb)
    have n8_ := Z6.k (Z6.bb BK131 Z6.z6 hb)
    have n9_ := Z6.k (Z6.bb BK138 Z6.z8 hb)
    have n10_ := Z6.k (Z6.bb BK146 Z6.z9 hb)
    have n11_ := Z6.k (below_step Z6.z0 hb)
    clear HO_125003 HO_132003 HO_139003 HO_147003 HO153 BK101 BK102 BK124 BK131 BK138 BK146 HB
    have HO_125003 := n0_
    have HO_132003 := n1_
    have HO_139003 := n2_
    have HO_147003 := n3_
    have HO153 := n4_
    have BK101 := n5_
    have BK102 := n6_
    have BK124 := n7_
    have BK131 := n8_
    have BK138 := n9_
    have BK146 := n10_
    have HB := n11_
    clear n0_ n1_ n2_ n3_ n4_ n5_ n6_ n7_ n8_ n9_ n10_ n11_
    (try clear hb)
    (try clear hb2)
    (try clear hk)
    (try clear hi)
    refine hK.out _ _ Z6.z17 (fun hHeld => ?_)
    clear hK K
    refine norm_ (a' := ?_) ?_ ?_
    rotate_left
    ·show Act.put _ (some 57) _ = _
     simp only [Act.put, List.setIfInBounds_toArray, List.set_cons_zero, List.set_cons_succ, i64_w, i32_w]
     rfl
    refine pure_ (i := 4) (N := some 58) (v := ?_) (a' := ?_) #[true, true, true, true, true] rfl rfl (by kernel_rfl) (fun _ _ _ h => h) (Or.inl ⟨(by rfl), ?_⟩) ?_ ?_
    rotate_left
    ·intro w'
     go_simp
     with_reducible rfl
    rotate_left
    ·exact Z6.z16
    refine done_ (by kernel_rfl) ?_
    try go_wp2
    have n0_ := Z6.k (Kd.R_drew HO_125003.out)
    have n1_ := Z6.k (Kd.R_drew HO_132003.out)
    have n2_ := Z6.k (Kd.R_drew HO_139003.out)
    have n3_ := Z6.k (Kd.R_drew HO_147003.out)
    have n4_ := Z6.k (Kd.R_drew HO153.out)
    have n5_ := Z6.k (blk_drew BK101.out)
    have n6_ := Z6.k (blk_drew BK102.out)
    have n7_ := Z6.k (blk_drew BK124.out)
    have n8_ := Z6.k (blk_drew BK131.out)
    have n9_ := Z6.k (blk_drew BK138.out)
    have n10_ := Z6.k (blk_drew BK146.out)
    have n11_ := Z6.k (below_drew1 HB.out)
    clear HO_125003 HO_132003 HO_139003 HO_147003 HO153 BK101 BK102 BK124 BK131 BK138 BK146 HB
    have HO_125003 := n0_
    have HO_132003 := n1_
    have HO_139003 := n2_
    have HO_147003 := n3_
    have HO153 := n4_
    have BK101 := n5_
    have BK102 := n6_
    have BK124 := n7_
    have BK131 := n8_
    have BK138 := n9_
    have BK146 := n10_
    have HB := n11_
    clear n0_ n1_ n2_ n3_ n4_ n5_ n6_ n7_ n8_ n9_ n10_ n11_
    refine start_ (n := 5) (S := fun w' => w'.cell? ⟨gb138, 0, none⟩ = some (.int .i64 t132) ∧ w'.cell? ⟨gb138, 1, none⟩ = some (.int .i64 t133) ∧ w'.cell? ⟨gb138, 2, none⟩ = some (.int .i64 t134) ∧ w'.cell? ⟨gb138, 3, none⟩ = some (.slice Ao64 t135.length co64) ∧ w'.cell? ⟨gb102, 0, none⟩ = some (.int .i64 a1_0) ∧ w'.cell? ⟨gb102, 1, none⟩ = some (.int .i64 a1_1) ∧ w'.cell? ⟨gb102, 2, none⟩ = some (.int .i64 a1_2) ∧ w'.cell? ⟨gb102, 3, none⟩ = some (.slice A1_3 l1_3.length c1_3)) (ds := []) #[false, false, false, false, false] (by kernel_rfl) rfl rfl Z6.z27 (fun hHeld => ?_)
    generalize w271.drew = w272 at HO_125003 HO_132003 HO_139003 HO_147003 HO153 BK101 BK102 BK124 BK131 BK138 BK146 HB hHeld ⊢
    refine take_ (i := 0) (N := some 59) (v := ?_) (a' := ?_) #[true, false, false, false, false] rfl rfl (by kernel_rfl) (fun _ _ _ h => h) (Or.inl ⟨(by rfl), ?_⟩) hHeld ?_ ?_
    rotate_left
    ·rintro w' ⟨s0, s1, s2, s3, s4, s5, s6, s7⟩
     go_simp
     with_reducible rfl
    rotate_left
    ·exact Z6.z16
    refine take_ (i := 1) (N := some 60) (v := ?_) (a' := ?_) #[true, true, false, false, false] rfl rfl (by kernel_rfl) (fun _ _ _ h => h) (Or.inl ⟨(by rfl), ?_⟩) hHeld ?_ ?_
    rotate_left
    ·rintro w' ⟨s0, s1, s2, s3, s4, s5, s6, s7⟩
     go_simp
     with_reducible rfl
    rotate_left
    ·exact Z6.z16
    refine one_ (i := 2) (N := some 61) #[true, true, true, false, false] rfl rfl (by kernel_rfl) (by decide) (fun K hK => ?_)
    refine goes_ Try.func10 (by kernel_rfl) rfl #[.agg #[.int .i64 a1_0, .int .i64 a1_1, .int .i64 a1_2, .slice A1_3 l1_3.length c1_3]] (by rfl) rfl rfl Z6.z7 ?_
    with_reducible refine (laws_toMatrix.calls kj24 a1_0 a1_1 a1_2 _ _ l1_3 t155 t156 t157 t158 _ ?side1 ?side2 A107.out).mono ?_
    (case side1 => exact Z6.z19)
    (case side2 => exact HC1_3.out)
    rintro e w273 ⟨v159, rfl, ho0, hb⟩
    refine ⟨_, rfl, ?_⟩
    have n0_ := Z6.k (Kd.R_elder' Z6.z15 (Kd.R_base ho0) hb)
    have n1_ := Z6.k (Kd.R_elder' Z6.z14 (Kd.R_base ho0) hb)
    have n2_ := Z6.k (Kd.R_elder' Z6.z13 (Kd.R_base ho0) hb)
    have n3_ := Z6.k (Kd.R_elder' Z6.z12 (Kd.R_base ho0) hb)
    have n4_ := Z6.k (Kd.R_elder' Z6.z36 (Kd.R_base ho0) hb)
    have n5_ := Z6.k (Kd.R_lower (Kd.R_new' (Kd.R_new' (Kd.R_new' (Kd.R_new' (Kd.R_new' ho0 (Kd.R_lt Z6.z15)) (Kd.R_lt Z6.z14)) (Kd.R_lt Z6.z13)) (Kd.R_lt Z6.z12)) (Kd.R_lt Z6.z36)) (below_size Z6.z0))
    have n6_ := Z6.k (Z6.bb BK101 Z6.z1 hb)
    have n7_ := Z6.k (Z6.bb BK102 Z6.z2 hb)
    have n8_ := Z6.k (Z6.bb BK124 Z6.z5 hb)
    have n9_ := Z6.k (Z6.bb BK131 Z6.z6 hb)
    have n10_ := Z6.k (Z6.bb BK138 Z6.z8 hb)
    have n11_ := Z6.k (Z6.bb BK146 Z6.z9 hb)
    have n12_ := Z6.k (below_step Z6.z0 hb)
    clear HO_125003 HO_132003 HO_139003 HO_147003 HO153 BK101 BK102 BK124 BK131 BK138 BK146 HB
    have HO_125003 := n0_
    have HO_132003 := n1_
    have HO_139003 := n2_
    have HO_147003 := n3_
    have HO153 := n4_
    have HO160 := n5_
    have BK101 := n6_
    have BK102 := n7_
    have BK124 := n8_
    have BK131 := n9_
    have BK138 := n10_
    have BK146 := n11_
    have HB := n12_
    clear n0_ n1_ n2_ n3_ n4_ n5_ n6_ n7_ n8_ n9_ n10_ n11_ n12_
    (try clear hb)
    (try clear hb2)
    (try clear hk)
    (try clear hi)
    (try clear ho0)
    obtain ⟨Ao274, co274, eo274⟩ := Kd.R_slice HO160.out
    (first | subst eo274 | (injection eo274 with f1_ f2_ f3_; have f4_ := f1_.symm; have f5_ := f3_.symm; clear f1_ f2_ f3_; subst f4_; subst f5_))
    refine hK.out _ _ Z6.z27 (fun hHeld => ?_)
    clear hK K
    refine norm_ (a' := ?_) ?_ ?_
    rotate_left
    ·show Act.put _ (some 61) _ = _
     simp only [Act.put, List.setIfInBounds_toArray, List.set_cons_zero, List.set_cons_succ, i64_w, i32_w]
     rfl
    refine one_ (i := 3) (N := some 62) #[true, true, true, true, false] rfl rfl (by kernel_rfl) (by decide) (fun K hK => ?_)
    refine goes_ Try.func12 (by kernel_rfl) rfl #[.agg #[.int .i64 t132, .int .i64 t133, .int .i64 t134, .slice Ao64 t135.length co64], .agg #[.int .i64 t155, .int .i64 t156, .int .i64 t157, .slice Ao274 t158.length co274]] (by rfl) rfl rfl Z6.z7 ?_
    with_reducible refine (laws_eqMatrix.calls kj24 t132 t133 t134 _ _ t135 t155 t156 t157 _ _ t158 false _ ?side1 ?side2 ?side3 ?side4 A108.out).mono ?_
    (case side1 => exact Z6.z105)
    (case side2 => exact (Kd.R_reads' HO_139003.out).2.1)
    (case side3 => exact Z6.z107)
    (case side4 => exact (Kd.R_reads' HO160.out).2.1)
    rintro e w275 ⟨rfl, hb⟩
    refine ⟨_, rfl, ?_⟩
    have n0_ := Z6.k (Kd.R_below Z6.z15 hb)
    have n1_ := Z6.k (Kd.R_below Z6.z14 hb)
    have n2_ := Z6.k (Kd.R_below Z6.z13 hb)
    have n3_ := Z6.k (Kd.R_below Z6.z12 hb)
    have n4_ := Z6.k (Kd.R_below Z6.z36 hb)
    have n5_ := Z6.k (Kd.R_below Z6.z87 hb)
    have n6_ := Z6.k (Z6.bb BK101 Z6.z1 hb)
    have n7_ := Z6.k (Z6.bb BK102 Z6.z2 hb)
    have n8_ := Z6.k (Z6.bb BK124 Z6.z5 hb)
    have n9_ := Z6.k (Z6.bb BK131 Z6.z6 hb)
    have n10_ := Z6.k (Z6.bb BK138 Z6.z8 hb)
    have n11_ := Z6.k (Z6.bb BK146 Z6.z9 hb)
    have n12_ := Z6.k (below_step Z6.z0 hb)
    clear HO_125003 HO_132003 HO_139003 HO_147003 HO153 HO160 BK101 BK102 BK124 BK131 BK138 BK146 HB
    have HO_125003 := n0_
    have HO_132003 := n1_
    have HO_139003 := n2_
    have HO_147003 := n3_
    have HO153 := n4_
    have HO160 := n5_
    have BK101 := n6_
    have BK102 := n7_
    have BK124 := n8_
    have BK131 := n9_
    have BK138 := n10_
    have BK146 := n11_
    have HB := n12_
    clear n0_ n1_ n2_ n3_ n4_ n5_ n6_ n7_ n8_ n9_ n10_ n11_ n12_
    (try clear hb)
    (try clear hb2)
    (try clear hk)
    (try clear hi)
    refine hK.out _ _ Z6.z27 (fun hHeld => ?_)
    clear hK K
    refine norm_ (a' := ?_) ?_ ?_
    rotate_left
    ·show Act.put _ (some 62) _ = _
     simp only [Act.put, List.setIfInBounds_toArray, List.set_cons_zero, List.set_cons_succ, i64_w, i32_w]
     rfl
    refine pure_ (i := 4) (N := some 63) (v := ?_) (a' := ?_) #[true, true, true, true, true] rfl rfl (by kernel_rfl) (fun _ _ _ h => h) (Or.inl ⟨(by rfl), ?_⟩) ?_ ?_
    rotate_left
    ·intro w'
     go_simp
     with_reducible rfl
    rotate_left
    ·exact Z6.z16
    refine done_ (by kernel_rfl) ?_
    try go_wp2
    go_ret
    exact ⟨Z6.z37, Z6.z0⟩
   replace c106 := Bool.eq_false_iff.mpr c106
   subst c106
   have H1 : (some false) = some r := by rw [if_neg (show ¬ (false = true) by decide)] at H; exact H
   clear H
   have H := H1
   clear H1
   obtain rfl := Option.some.inj H
   try go_wp2
   have n0_ := Z6.k (Kd.R_drew HO_125003.out)
   have n1_ := Z6.k (Kd.R_drew HO_132003.out)
   have n2_ := Z6.k (Kd.R_drew HO_139003.out)
   have n3_ := Z6.k (Kd.R_drew HO_147003.out)
   have n4_ := Z6.k (blk_drew BK101.out)
   have n5_ := Z6.k (blk_drew BK102.out)
   have n6_ := Z6.k (blk_drew BK124.out)
   have n7_ := Z6.k (blk_drew BK131.out)
   have n8_ := Z6.k (blk_drew BK138.out)
   have n9_ := Z6.k (blk_drew BK146.out)
   have n10_ := Z6.k (below_drew1 HB.out)
   clear HO_125003 HO_132003 HO_139003 HO_147003 BK101 BK102 BK124 BK131 BK138 BK146 HB
   have HO_125003 := n0_
   have HO_132003 := n1_
   have HO_139003 := n2_
   have HO_147003 := n3_
   have BK101 := n4_
   have BK102 := n5_
   have BK124 := n6_
   have BK131 := n7_
   have BK138 := n8_
   have BK146 := n9_
   have HB := n10_
   clear n0_ n1_ n2_ n3_ n4_ n5_ n6_ n7_ n8_ n9_ n10_
   refine start_ (n := 5) (S := fun w' => w'.cell? ⟨gb131, 0, none⟩ = some (.int .i64 t125) ∧ w'.cell? ⟨gb131, 1, none⟩ = some (.int .i64 t126) ∧ w'.cell? ⟨gb131, 2, none⟩ = some (.int .i64 t127) ∧ w'.cell? ⟨gb131, 3, none⟩ = some (.slice Ao54 t128.length co54) ∧ w'.cell? ⟨gb101, 0, none⟩ = some (.int .i64 a0_0) ∧ w'.cell? ⟨gb101, 1, none⟩ = some (.int .i64 a0_1) ∧ w'.cell? ⟨gb101, 2, none⟩ = some (.int .i64 a0_2) ∧ w'.cell? ⟨gb101, 3, none⟩ = some (.slice A0_3 l0_3.length c0_3)) (ds := []) #[false, false, false, false, false] (by kernel_rfl) rfl rfl Z6.z17 (fun hHeld => ?_)
   generalize wc.drew = w276 at HO_125003 HO_132003 HO_139003 HO_147003 BK101 BK102 BK124 BK131 BK138 BK146 HB hHeld ⊢
   refine take_ (i := 0) (N := some 54) (v := ?_) (a' := ?_) #[true, false, false, false, false] rfl rfl (by kernel_rfl) (fun _ _ _ h => h) (Or.inl ⟨(by rfl), ?_⟩) hHeld ?_ ?_
   rotate_left
   ·rintro w' ⟨s0, s1, s2, s3, s4, s5, s6, s7⟩
    go_simp
    with_reducible rfl
   rotate_left
   ·exact Z6.z16
   refine take_ (i := 1) (N := some 55) (v := ?_) (a' := ?_) #[true, true, false, false, false] rfl rfl (by kernel_rfl) (fun _ _ _ h => h) (Or.inl ⟨(by rfl), ?_⟩) hHeld ?_ ?_
   rotate_left
   ·rintro w' ⟨s0, s1, s2, s3, s4, s5, s6, s7⟩
    go_simp
    with_reducible rfl
   rotate_left
   ·exact Z6.z16
   refine one_ (i := 2) (N := some 56) #[true, true, true, false, false] rfl rfl (by kernel_rfl) (by decide) (fun K hK => ?_)
   refine goes_ Try.func10 (by kernel_rfl) rfl #[.agg #[.int .i64 a0_0, .int .i64 a0_1, .int .i64 a0_2, .slice A0_3 l0_3.length c0_3]] (by rfl) rfl rfl Z6.z7 ?_
   with_reducible refine (laws_toMatrix.calls kj24 a0_0 a0_1 a0_2 _ _ l0_3 t148 t149 t150 t151 _ ?side1 ?side2 A104.out).mono ?_
   (case side1 => exact Z6.z20)
   (case side2 => exact HC0_3.out)
   rintro e w277 ⟨v152, rfl, ho0, hb⟩
   refine ⟨_, rfl, ?_⟩
   have n0_ := Z6.k (Kd.R_elder' Z6.z15 (Kd.R_base ho0) hb)
   have n1_ := Z6.k (Kd.R_elder' Z6.z14 (Kd.R_base ho0) hb)
   have n2_ := Z6.k (Kd.R_elder' Z6.z13 (Kd.R_base ho0) hb)
   have n3_ := Z6.k (Kd.R_elder' Z6.z12 (Kd.R_base ho0) hb)
   have n4_ := Z6.k (Kd.R_lower (Kd.R_new' (Kd.R_new' (Kd.R_new' (Kd.R_new' ho0 (Kd.R_lt Z6.z15)) (Kd.R_lt Z6.z14)) (Kd.R_lt Z6.z13)) (Kd.R_lt Z6.z12)) (below_size Z6.z0))
   have n5_ := Z6.k (Z6.bb BK101 Z6.z1 hb)
   have n6_ := Z6.k (Z6.bb BK102 Z6.z2 hb)
   have n7_ := Z6.k (Z6.bb BK124 Z6.z5 hb)
   have n8_ := Z6.k (Z6.bb BK131 Z6.z6 hb)
   have n9_ := Z6.k (Z6.bb BK138 Z6.z8 hb)
   have n10_ := Z6.k (Z6.bb BK146 Z6.z9 hb)
   have n11_ := Z6.k (below_step Z6.z0 hb)
   clear HO_125003 HO_132003 HO_139003 HO_147003 BK101 BK102 BK124 BK131 BK138 BK146 HB
   have HO_125003 := n0_
   have HO_132003 := n1_
   have HO_139003 := n2_
   have HO_147003 := n3_
   have HO153 := n4_
   have BK101 := n5_
   have BK102 := n6_
   have BK124 := n7_
   have BK131 := n8_
   have BK138 := n9_
   have BK146 := n10_
   have HB := n11_
   clear n0_ n1_ n2_ n3_ n4_ n5_ n6_ n7_ n8_ n9_ n10_ n11_
   (try clear hb)
   (try clear hb2)
   (try clear hk)
   (try clear hi)
   (try clear ho0)
   obtain ⟨Ao278, co278, eo278⟩ := Kd.R_slice HO153.out
   (first | subst eo278 | (injection eo278 with f1_ f2_ f3_; have f4_ := f1_.symm; have f5_ := f3_.symm; clear f1_ f2_ f3_; subst f4_; subst f5_))
   refine hK.out _ _ Z6.z17 (fun hHeld => ?_)
   clear hK K
   refine norm_ (a' := ?_) ?_ ?_
   rotate_left
   ·show Act.put _ (some 56) _ = _
    simp only [Act.put, List.setIfInBounds_toArray, List.set_cons_zero, List.set_cons_succ, i64_w, i32_w]
    rfl
   refine one_ (i := 3) (N := some 57) #[true, true, true, true, false] rfl rfl (by kernel_rfl) (by decide) (fun K hK => ?_)
   refine goes_ Try.func12 (by kernel_rfl) rfl #[.agg #[.int .i64 t125, .int .i64 t126, .int .i64 t127, .slice Ao54 t128.length co54], .agg #[.int .i64 t148, .int .i64 t149, .int .i64 t150, .slice Ao278 t151.length co278]] (by rfl) rfl rfl Z6.z7 ?_
   with_reducible refine (laws_eqMatrix.calls kj24 t125 t126 t127 _ _ t128 t148 t149 t150 _ _ t151 false _ ?side1 ?side2 ?side3 ?side4 A105.out).mono ?_
   (case side1 => exact Z6.z79)
   (case side2 => exact (Kd.R_reads' HO_132003.out).2.1)
   (case side3 => exact Z6.z80)
   (case side4 => exact (Kd.R_reads' HO153.out).2.1)
   rintro e w279 ⟨rfl, hb⟩
   refine ⟨_, rfl, ?_⟩
   have n0_ := Z6.k (Kd.R_below Z6.z15 hb)
   have n1_ := Z6.k (Kd.R_below Z6.z14 hb)
   have n2_ := Z6.k (Kd.R_below Z6.z13 hb)
   have n3_ := Z6.k (Kd.R_below Z6.z12 hb)
   have n4_ := Z6.k (Kd.R_below Z6.z36 hb)
   have n5_ := Z6.k (Z6.bb BK101 Z6.z1 hb)
   have n6_ := Z6.k (Z6.bb BK102 Z6.z2 hb)
   have n7_ := Z6.k (Z6.bb BK124 Z6.z5 hb)
   have n8_ := Z6.k (Z6.bb BK131 Z6.z6 hb)
   have n9_ := Z6.k (Z6.bb BK138 Z6.z8 hb)
   have n10_ := Z6.k (Z6.bb BK146 Z6.z9 hb)
   have n11_ := Z6.k (below_step Z6.z0 hb)
   clear HO_125003 HO_132003 HO_139003 HO_147003 HO153 BK101 BK102 BK124 BK131 BK138 BK146 HB
   have HO_125003 := n0_
   have HO_132003 := n1_
   have HO_139003 := n2_
   have HO_147003 := n3_
   have HO153 := n4_
   have BK101 := n5_
   have BK102 := n6_
   have BK124 := n7_
   have BK131 := n8_
   have BK138 := n9_
   have BK146 := n10_
   have HB := n11_
   clear n0_ n1_ n2_ n3_ n4_ n5_ n6_ n7_ n8_ n9_ n10_ n11_
   (try clear hb)
   (try clear hb2)
   (try clear hk)
   (try clear hi)
   refine hK.out _ _ Z6.z17 (fun hHeld => ?_)
   clear hK K
   refine norm_ (a' := ?_) ?_ ?_
   rotate_left
   ·show Act.put _ (some 57) _ = _
    simp only [Act.put, List.setIfInBounds_toArray, List.set_cons_zero, List.set_cons_succ, i64_w, i32_w]
    rfl
   refine pure_ (i := 4) (N := some 58) (v := ?_) (a' := ?_) #[true, true, true, true, true] rfl rfl (by kernel_rfl) (fun _ _ _ h => h) (Or.inl ⟨(by rfl), ?_⟩) ?_ ?_
   rotate_left
   ·intro w'
    go_simp
    with_reducible rfl
   rotate_left
   ·exact Z6.z16
   refine done_ (by kernel_rfl) ?_
   try go_wp2
   go_ret
   exact ⟨Z6.z37, Z6.z0⟩

/-- THE ONE PURE STATEMENT of laws_FnExactStackRows: yours. -/
def laws_FnExactStackRows.Pure : Prop := ∀ (a0_0 : Int) (a0_1 : Int) (a0_2 : Int) (l0_3 : List Int) (a1_0 : Int) (a1_1 : Int) (a1_2 : Int) (l1_3 : List Int), (Lit.int .i64 a0_0).wf = true → (Lit.int .i64 a0_1).wf = true → (Lit.int .i64 a0_2).wf = true → l0_3.length ≤ maxLen → (∀ x ∈ l0_3, (Lit.int .i64 x).wf = true) → (Lit.int .i64 a1_0).wf = true → (Lit.int .i64 a1_1).wf = true → (Lit.int .i64 a1_2).wf = true → l1_3.length ≤ maxLen → (∀ x ∈ l1_3, (Lit.int .i64 x).wf = true) → ∃ k, laws_FnExactStackRows.f k a0_0 a0_1 a0_2 l0_3 a1_0 a1_1 a1_2 l1_3 = some true
theorem laws_FnExactStackRows.walk (P : laws_FnExactStackRows.Pure) (a0_0 : Int) (a0_1 : Int) (a0_2 : Int) (a0_3 : Option Addr) (len0_3 cap0_3 : Nat) (z0_3 : List Int) (a1_0 : Int) (a1_1 : Int) (a1_2 : Int) (a1_3 : Option Addr) (len1_3 cap1_3 : Nat) (z1_3 : List Int) (w : World) (w0_0 : (Lit.int .i64 a0_0).wf = true) (w0_1 : (Lit.int .i64 a0_1).wf = true) (w0_2 : (Lit.int .i64 a0_2).wf = true) (w0_3 : (a0_3 = none ∧ len0_3 = 0 ∧ cap0_3 = 0 ∧ z0_3 = []) ∨ ∃ x, a0_3 = some x ∧ len0_3 ≤ cap0_3 ∧ cap0_3 ≤ maxLen ∧ z0_3.length = cap0_3 ∧ (∀ i, i < z0_3.length → w.cell? (x.add i) = some (.int .i64 (z0_3.getD i 0))) ∧ ∀ n ∈ z0_3, (Lit.int .i64 n).wf = true) (w1_0 : (Lit.int .i64 a1_0).wf = true) (w1_1 : (Lit.int .i64 a1_1).wf = true) (w1_2 : (Lit.int .i64 a1_2).wf = true) (w1_3 : (a1_3 = none ∧ len1_3 = 0 ∧ cap1_3 = 0 ∧ z1_3 = []) ∨ ∃ x, a1_3 = some x ∧ len1_3 ≤ cap1_3 ∧ cap1_3 ≤ maxLen ∧ z1_3.length = cap1_3 ∧ (∀ i, i < z1_3.length → w.cell? (x.add i) = some (.int .i64 (z1_3.getD i 0))) ∧ ∀ n ∈ z1_3, (Lit.int .i64 n).wf = true) :
    Calls Try.prog 6 #[.agg #[.int .i64 a0_0, .int .i64 a0_1, .int .i64 a0_2, .slice a0_3 len0_3 cap0_3], .agg #[.int .i64 a1_0, .int .i64 a1_1, .int .i64 a1_2, .slice a1_3 len1_3 cap1_3]] w fun e w' => e = .returned (.bool true) ∧ Below w.heap.size w w' := by
  obtain ⟨l0_3, rfl, hr0_3, hm0_3, hw0_3, hc0_3⟩ := ReadsInt.ofRowC w0_3
  obtain ⟨l1_3, rfl, hr1_3, hm1_3, hw1_3, hc1_3⟩ := ReadsInt.ofRowC w1_3
  obtain ⟨k, h⟩ := P a0_0 a0_1 a0_2 l0_3 a1_0 a1_1 a1_2 l1_3 w0_0 w0_1 w0_2 hm0_3 hw0_3 w1_0 w1_1 w1_2 hm1_3 hw1_3
  refine (laws_FnExactStackRows.calls k a0_0 a0_1 a0_2 _ _ l0_3 a1_0 a1_1 a1_2 _ _ l1_3 true w (Kd.C_of_reads (d := (0 : Int)) (h1 := fun _ => rfl) hr0_3) hc0_3 (Kd.C_of_reads (d := (0 : Int)) (h1 := fun _ => rfl) hr1_3) hc1_3 h).mono ?_
  rintro e w' ⟨rfl, hd⟩
  exact ⟨rfl, hd⟩

end Go.Proofs.Ythnijchgjfmgaaa.F
end
