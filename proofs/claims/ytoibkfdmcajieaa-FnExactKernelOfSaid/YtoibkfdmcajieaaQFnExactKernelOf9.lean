-- Texts of this claim, merged by pack.py (a program of this session's).
import Derived.Test.YtoibkfdmcajieaaQFnExactKernelOf0
import Derived.Test.YtoibkfdmcajieaaQFnExactKernelOf5
import Derived.Test.YtoibkfdmcajieaaQFnExactKernelOf8
import Derived.Test.YtoibkfdmcajieaaQFnExactKernelOf1

section
namespace Go.Proofs.Ytoibkfdmcajieaa.F
open Go.RowKit Go.Proofs.YtoibkfdmcajieaaW.PrintWords Go.Proofs.YtoibkfdmcajieaaW.PrintLast Go.Proofs.YtoibkfdmcajieaaW.PrintMore
attribute [local go_sem] max2_int min2_int max_two min_two max_three min_three max_four min_four   -- for this text's walks alone
set_option linter.unusedVariables false
set_option linter.unusedSimpArgs false

/-! ### impl_KernelOf: function 27 -/
def impl_KernelOf.f (k : Nat) (a0_0 : Int) (a0_1 : Int) (a0_2 : Int) (l0_3 : List Int) : Option ((List (List Int)) × Int) := (impl_ValidMatrix.f k a0_0 a0_1 a0_2 l0_3).bind fun t102 => (if t102 = true then ((impl_kernel.f k a0_0 a0_1 a0_2 l0_3).bind fun t103 => (some (t103, 0))) else (some (([] : List (List Int)), 1)))
theorem impl_KernelOf.mono : ∀ a0 a1 a2 a3 k, LeO (impl_KernelOf.f k a0 a1 a2 a3) (impl_KernelOf.f (k + 1) a0 a1 a2 a3) := by
  intro a0 a1 a2 a3 k
  unfold impl_KernelOf.f
  repeat' first
      | (with_reducible exact impl_ValidMatrix.mono _ _ _ _ _)
      | (with_reducible exact impl_kernel.mono _ _ _ _ _)
      | (with_reducible exact LeO.refl _)
      | (with_reducible exact LeO.none _)
      | (with_reducible refine LeO.ite ?_ ?_)
      | (with_reducible refine LeO.bind ?_ (fun _ => ?_))
      | exact impl_ValidMatrix.mono _ _ _ _ _
      | exact impl_kernel.mono _ _ _ _ _
      | exact LeO.none _
      | refine LeO.ite ?_ ?_
      | refine LeO.bind ?_ (fun _ => ?_)
theorem Z27.bb {w0 w w1 : World} {g : Nat} {o : Obj} (_B : Aside0 (w0.heap[g]? = some o)) (h : w.heap[g]? = some o) (hb : Below w.heap.size w w1) : w1.heap[g]? = some o := blk_below h hb
theorem Z27.bl {w0 w : World} {g : Nat} {o : Obj} (_B : Aside0 (w0.heap[g]? = some o)) (h : w.heap[g]? = some o) : g < w.heap.size := blk_lt h
theorem Z27.z4 {P : Prop} (h : P := by (with_reducible repeat (first | refine blk_drewN ?_ _ | refine blk_drew ?_ | refine blk_alloc ?_ _)); exact BK101.out) : P := h
theorem Z27.z3 {P : Prop} (h : P := by (try simp only [List.map_toArray, List.map_cons, List.map_nil]); first | done | rfl | (simp only [List.length_drop, List.length_take]; rfl)) : P := h
theorem Z27.z2 {P : Prop} (h : P := by repeat (first | exact (Kd.C_below HR0_3.out HB.out) | (with_reducible refine Kd.C_alloc ?_ _) | (with_reducible refine Kd.C_drewN ?_ _) | (with_reducible refine Kd.C_drew ?_))) : P := h
theorem Z27.z1 {P : Prop} (h : P := by repeat (first | (with_reducible first | exact HB.out | apply below_alloc | apply pw_below_drewN | apply below_drew1) | exact HB.out)) : P := h
theorem Z27.z0 {P : Prop} (h : P := by repeat (first | (with_reducible first | exact HB.out | apply below_alloc | apply pw_below_drewN | apply below_drew1 | refine below_set ?_ GE101.out) | exact HB.out)) : P := h
set_option maxHeartbeats 8000000 in
set_option maxRecDepth 100000 in
theorem impl_KernelOf.calls (k : Nat) (a0_0 : Int) (a0_1 : Int) (a0_2 : Int) (A0_3 : Option Addr) (c0_3 : Nat) (l0_3 : List Int) (r1 : List (List Int)) (r2 : Int) (w : World) (hr0_3 : Kd.C (Kd.int .i64) w A0_3 l0_3.length l0_3) (hc0_3 : l0_3.length ≤ c0_3) (h : impl_KernelOf.f k a0_0 a0_1 a0_2 l0_3 = some (r1, r2)) :
  Calls Try.prog 27 #[.agg #[.int .i64 a0_0, .int .i64 a0_1, .int .i64 a0_2, .slice A0_3 l0_3.length c0_3]] w fun e w' => ∃ v0_ : Value, e = .returned (.tuple #[v0_, .int .i64 r2]) ∧ Kd.S (Kd.slice 2 (Kd.int .i64)) 38 w' w.heap.size (fun _ => True) v0_ r1 ∧ Below w.heap.size w w' := by
 have hu43 := Try.underlying43
 have HR0_3 := Aside0.mk hr0_3
 have HC0_3 := Aside0.mk hc0_3
 clear hr0_3 hc0_3
 have HB := Aside0.mk (Below.refl w.heap.size w)
 have H : ((impl_ValidMatrix.f k a0_0 a0_1 a0_2 l0_3).bind fun t102 => (if t102 = true then ((impl_kernel.f k a0_0 a0_1 a0_2 l0_3).bind fun t103 => (some (t103, 0))) else (some (([] : List (List Int)), 1)))) = some (r1, r2) := h
 clear h
 replace H := Option.bind_eq_some_iff.mp H
 obtain ⟨t102, A20, H⟩ := H
 replace H : (if t102 = true then ((impl_kernel.f k a0_0 a0_1 a0_2 l0_3).bind fun t103 => (some (t103, 0))) else (some (([] : List (List Int)), 1))) = some (r1, r2) := H
 have A2 := Aside0.mk A20
 clear A20
 by_cases c3 : t102 = true
 ·subst c3
  have H1 : ((impl_kernel.f k a0_0 a0_1 a0_2 l0_3).bind fun t103 => (some (t103, 0))) = some (r1, r2) := by rw [if_pos rfl] at H; exact H
  clear H
  have H := H1
  clear H1
  replace H := Option.bind_eq_some_iff.mp H
  obtain ⟨t103, A40, H⟩ := H
  replace H : (some (t103, 0)) = some (r1, r2) := H
  have A4 := Aside0.mk A40
  clear A40
  simp only [Option.some.injEq, Prod.mk.injEq] at H
  obtain ⟨rfl, rfl⟩ := H
  go_enter Try.func27, Try.ntmps27
  go_wp2_with (first | ((with_reducible refine gate_dst (N := 1) rfl ?_); refine box_event ?hg (N := 1) ?hd (cs := #[.int .i64 a0_0, .int .i64 a0_1, .int .i64 a0_2, .slice A0_3 l0_3.length c0_3]) (t := 43) ?hr ?_; (case hd => rfl); (case hg => rfl); (case hr => first | (go_simp; done) | (go_simp; rfl)); intro gb101 hg w5 hbox hb; have n0_ := Aside0.mk (below_step Z27.z1 hb); have n1_ := Aside0.mk (hbox); have n2_ := Aside0.mk (show w.heap.size ≤ gb101 from (by rw [hg]; exact (below_size Z27.z1))); have n3_ := Aside0.mk (show w.heap.size ≤ gb101 from (by rw [hg]; exact (below_size Z27.z1))); clear HB; have HB := n0_; have BK101 := n1_; have GW101 := n2_; have GE101 := n3_; clear n0_ n1_ n2_ n3_; clear hb hbox hg; have hcz6_0 : w5.cell? ⟨gb101, 0, none⟩ = some (.int .i64 a0_0) := (blk_cell BK101.out 0).trans rfl; have hcz6_1 : w5.cell? ⟨gb101, 1, none⟩ = some (.int .i64 a0_1) := (blk_cell BK101.out 1).trans rfl; have hcz6_2 : w5.cell? ⟨gb101, 2, none⟩ = some (.int .i64 a0_2) := (blk_cell BK101.out 2).trans rfl; have hcz6_3 : w5.cell? ⟨gb101, 3, none⟩ = some (.slice A0_3 l0_3.length c0_3) := (blk_cell BK101.out 3).trans rfl; have hfz6_0 := blk_frozen BK101.out 0; have hfz6_1 := blk_frozen BK101.out 1; have hfz6_2 := blk_frozen BK101.out 2; have hfz6_3 := blk_frozen BK101.out 3) | ((with_reducible refine gate_callee (f := 45) rfl ?_); refine goesL_ (some 5) rfl rfl Try.func45 (by kernel_rfl) rfl #[.agg #[.int .i64 a0_0, .int .i64 a0_1, .int .i64 a0_2, .slice A0_3 l0_3.length c0_3]] rfl Z27.z3 ?_; (with_reducible refine (impl_ValidMatrix.calls k a0_0 a0_1 a0_2 _ _ l0_3 true _ ?side1 ?side2 A2.out).mono ?_); (case side1 => exact Z27.z2); (case side2 => exact HC0_3.out); rintro e w7 ⟨rfl, hb⟩; refine ⟨_, rfl, ?_⟩; have n0_ := Aside0.mk (Z27.bb BK101 Z27.z4 hb); have n1_ := Aside0.mk (below_step Z27.z0 hb); clear BK101 HB; have BK101 := n0_; have HB := n1_; clear n0_ n1_; (try clear hb); (try clear hb2); (try clear hk); (try clear hi); have hcz8_0 : w7.cell? ⟨gb101, 0, none⟩ = some (.int .i64 a0_0) := (blk_cell BK101.out 0).trans rfl; have hcz8_1 : w7.cell? ⟨gb101, 1, none⟩ = some (.int .i64 a0_1) := (blk_cell BK101.out 1).trans rfl; have hcz8_2 : w7.cell? ⟨gb101, 2, none⟩ = some (.int .i64 a0_2) := (blk_cell BK101.out 2).trans rfl; have hcz8_3 : w7.cell? ⟨gb101, 3, none⟩ = some (.slice A0_3 l0_3.length c0_3) := (blk_cell BK101.out 3).trans rfl; have hfz8_0 := blk_frozen BK101.out 0; have hfz8_1 := blk_frozen BK101.out 1; have hfz8_2 := blk_frozen BK101.out 2; have hfz8_3 := blk_frozen BK101.out 3) | ((with_reducible refine gate_callee (f := 48) rfl ?_); refine goesL_ (some 8) rfl rfl Try.func48 (by kernel_rfl) rfl #[.agg #[.int .i64 a0_0, .int .i64 a0_1, .int .i64 a0_2, .slice A0_3 l0_3.length c0_3]] rfl Z27.z3 ?_; (with_reducible refine (impl_kernel.calls k a0_0 a0_1 a0_2 _ _ l0_3 t103 _ ?side1 ?side2 A4.out).mono ?_); (case side1 => exact Z27.z2); (case side2 => exact HC0_3.out); rintro e w9 ⟨v104, rfl, ho0, hb⟩; refine ⟨_, rfl, ?_⟩; have n0_ := Aside0.mk (Kd.S_lower (Kd.S_mono (ok' := fun k_ => True) ho0 (fun _ hk_ => trivial)) (below_size Z27.z0)); have n1_ := Aside0.mk (Z27.bb BK101 Z27.z4 hb); have n2_ := Aside0.mk (below_step Z27.z0 hb); clear BK101 HB; have HO105 := n0_; have BK101 := n1_; have HB := n2_; clear n0_ n1_ n2_; (try clear hb); (try clear hb2); (try clear hk); (try clear hi); (try clear ho0)))
  go_ret2
  exact ⟨_, (by first | rfl | (simp [errW_none, errW_some] <;> rfl) | (simp [*, errW_none, errW_some] <;> rfl)), (by (with_reducible repeat (first | apply Kd.S_alloc | apply Kd.S_drewN | apply Kd.S_drew)); exact HO105.out), Z27.z0⟩
 replace c3 := Bool.eq_false_iff.mpr c3
 subst c3
 have H1 : (some (([] : List (List Int)), 1)) = some (r1, r2) := by rw [if_neg (show ¬ (false = true) by decide)] at H; exact H
 clear H
 have H := H1
 clear H1
 simp only [Option.some.injEq, Prod.mk.injEq] at H
 obtain ⟨rfl, rfl⟩ := H
 go_enter Try.func27, Try.ntmps27
 go_wp2_with (first | ((with_reducible refine gate_dst (N := 1) rfl ?_); refine box_event ?hg (N := 1) ?hd (cs := #[.int .i64 a0_0, .int .i64 a0_1, .int .i64 a0_2, .slice A0_3 l0_3.length c0_3]) (t := 43) ?hr ?_; (case hd => rfl); (case hg => rfl); (case hr => first | (go_simp; done) | (go_simp; rfl)); intro gb101 hg w10 hbox hb; have n0_ := Aside0.mk (below_step Z27.z1 hb); have n1_ := Aside0.mk (hbox); have n2_ := Aside0.mk (show w.heap.size ≤ gb101 from (by rw [hg]; exact (below_size Z27.z1))); have n3_ := Aside0.mk (show w.heap.size ≤ gb101 from (by rw [hg]; exact (below_size Z27.z1))); clear HB; have HB := n0_; have BK101 := n1_; have GW101 := n2_; have GE101 := n3_; clear n0_ n1_ n2_ n3_; clear hb hbox hg; have hcz11_0 : w10.cell? ⟨gb101, 0, none⟩ = some (.int .i64 a0_0) := (blk_cell BK101.out 0).trans rfl; have hcz11_1 : w10.cell? ⟨gb101, 1, none⟩ = some (.int .i64 a0_1) := (blk_cell BK101.out 1).trans rfl; have hcz11_2 : w10.cell? ⟨gb101, 2, none⟩ = some (.int .i64 a0_2) := (blk_cell BK101.out 2).trans rfl; have hcz11_3 : w10.cell? ⟨gb101, 3, none⟩ = some (.slice A0_3 l0_3.length c0_3) := (blk_cell BK101.out 3).trans rfl; have hfz11_0 := blk_frozen BK101.out 0; have hfz11_1 := blk_frozen BK101.out 1; have hfz11_2 := blk_frozen BK101.out 2; have hfz11_3 := blk_frozen BK101.out 3) | ((with_reducible refine gate_callee (f := 45) rfl ?_); refine goesL_ (some 5) rfl rfl Try.func45 (by kernel_rfl) rfl #[.agg #[.int .i64 a0_0, .int .i64 a0_1, .int .i64 a0_2, .slice A0_3 l0_3.length c0_3]] rfl Z27.z3 ?_; (with_reducible refine (impl_ValidMatrix.calls k a0_0 a0_1 a0_2 _ _ l0_3 false _ ?side1 ?side2 A2.out).mono ?_); (case side1 => exact Z27.z2); (case side2 => exact HC0_3.out); rintro e w12 ⟨rfl, hb⟩; refine ⟨_, rfl, ?_⟩; have n0_ := Aside0.mk (Z27.bb BK101 Z27.z4 hb); have n1_ := Aside0.mk (below_step Z27.z0 hb); clear BK101 HB; have BK101 := n0_; have HB := n1_; clear n0_ n1_; (try clear hb); (try clear hb2); (try clear hk); (try clear hi)))
 go_ret2
 exact ⟨_, (by first | rfl | (simp [errW_none, errW_some] <;> rfl) | (simp [*, errW_none, errW_some] <;> rfl)), (by first | exact Kd.S_nil _ _ _ _ _ | exact Kd.N_nil _ _ _ _ _ | exact Kd.V_nil _ _ _ _ _ | exact Kd.Q_nil _ _ _ _ _ | exact Kd.R_nil _ _ _ _ _), Z27.z0⟩


/-! ### laws_FnExactKernelOf: function 6: ours -/
def laws_FnExactKernelOf.f (k : Nat) (a0_0 : Int) (a0_1 : Int) (a0_2 : Int) (l0_3 : List Int) : Option (Bool) := (laws_szMatrix.f a0_0 a0_1 a0_2 l0_3 1048576).bind fun t => (if t < 0 then (some true) else ((laws_toMatrix.f k a0_0 a0_1 a0_2 l0_3).bind fun X => ((spec_KernelOf.f k X.1 X.2.1 X.2.2.1 X.2.2.2).bind fun W => ((impl_KernelOf.f k X.1 X.2.1 X.2.2.1 X.2.2.2).bind fun G => ((laws_eqInt64SS.f k G.1 W.1).bind fun b => (if b = true then (if G.2 = W.2 then ((laws_eqMatrix.f k X.1 X.2.1 X.2.2.1 X.2.2.2 X.1 X.2.1 X.2.2.1 X.2.2.2).bind fun b2 => (if b2 = true then ((laws_markMatrix.f k X.1 X.2.1 X.2.2.1 X.2.2.2 1).bind fun M => (if M.1 < 0 then (none) else ((laws_markInt64SS.f k G.1 1).bind fun M2 => ((laws_heldInt64SS.f k M2.2 1).bind fun q => (if q < 0 then (none) else (if q = M2.1 then (some true) else (none))))))) else (none))) else (none)) else (none)))))))
theorem laws_FnExactKernelOf.mono : ∀ a0 a1 a2 a3 k, LeO (laws_FnExactKernelOf.f k a0 a1 a2 a3) (laws_FnExactKernelOf.f (k + 1) a0 a1 a2 a3) := by
  intro a0 a1 a2 a3 k
  unfold laws_FnExactKernelOf.f
  repeat' first
      | (with_reducible exact laws_toMatrix.mono _ _ _ _ _)
      | (with_reducible exact spec_KernelOf.mono _ _ _ _ _)
      | (with_reducible exact impl_KernelOf.mono _ _ _ _ _)
      | (with_reducible exact laws_eqInt64SS.mono _ _ _)
      | (with_reducible exact laws_eqMatrix.mono _ _ _ _ _ _ _ _ _)
      | (with_reducible exact laws_markMatrix.mono _ _ _ _ _ _)
      | (with_reducible exact laws_markInt64SS.mono _ _ _)
      | (with_reducible exact laws_heldInt64SS.mono _ _ _)
      | (with_reducible exact LeO.refl _)
      | (with_reducible exact LeO.none _)
      | (with_reducible refine LeO.ite ?_ ?_)
      | (with_reducible refine LeO.bind ?_ (fun _ => ?_))
theorem Z6.k {p : Prop} (h : p) : Aside0 p := ⟨h⟩
theorem Z6.z10 {P : Prop} (h : P := by repeat (first | exact (Kd.R_reads' HD2.out).2.2 | (with_reducible refine Kd.C_alloc ?_ _) | (with_reducible refine Kd.C_drewN ?_ _) | (with_reducible refine Kd.C_drew ?_))) : P := h
theorem Z6.z9 {P : Prop} (h : P := by repeat (first | exact (Kd.S_reads' HS.out).2.2 | (with_reducible refine Kd.C_alloc ?_ _) | (with_reducible refine Kd.C_drewN ?_ _) | (with_reducible refine Kd.C_drew ?_))) : P := h
theorem Z6.z8 {P : Prop} (h : P := by (with_reducible repeat (first | apply Kd.R_alloc | apply Kd.R_drewN | apply Kd.R_drew)); exact HD2.out) : P := h
theorem Z6.z7 {P : Prop} (h : P := by repeat (first | exact (Kd.S_reads' HG.out).2.2 | (with_reducible refine Kd.C_alloc ?_ _) | (with_reducible refine Kd.C_drewN ?_ _) | (with_reducible refine Kd.C_drew ?_))) : P := h
theorem Z6.z6 {P : Prop} (h : P := by exact ⟨(blk_cell BKX.out 0).trans rfl, (blk_cell BKX.out 1).trans rfl, (blk_cell BKX.out 2).trans rfl, (blk_cell BKX.out 3).trans rfl, (blk_cell BKM.out 0).trans rfl, (blk_cell BKM.out 1).trans rfl, (blk_cell BKM.out 2).trans rfl, (blk_cell BKM.out 3).trans rfl⟩) : P := h
theorem Z6.z5 {P : Prop} (h : P := by repeat (first | exact (Kd.C_below HR.out HB.out) | (with_reducible refine Kd.C_alloc ?_ _) | (with_reducible refine Kd.C_drewN ?_ _) | (with_reducible refine Kd.C_drew ?_))) : P := h
theorem Z6.z4 {P : Prop} (h : P := by (with_reducible repeat (first | apply Kd.S_alloc | apply Kd.S_drewN | apply Kd.S_drew)); exact HG.out) : P := h
theorem Z6.z3 {P : Prop} (h : P := by (with_reducible repeat (first | refine blk_drewN ?_ _ | refine blk_drew ?_ | refine blk_alloc ?_ _)); exact BKX.out) : P := h
theorem Z6.z2 {P : Prop} (h : P := by (with_reducible repeat (first | apply Kd.S_alloc | apply Kd.S_drewN | apply Kd.S_drew)); exact HS.out) : P := h
theorem Z6.z1 {P : Prop} (h : P := by (with_reducible repeat (first | refine blk_drewN ?_ _ | refine blk_drew ?_ | refine blk_alloc ?_ _)); exact BKM.out) : P := h
theorem Z6.z0 {P : Prop} (h : P := by repeat (first | (with_reducible first | exact HB.out | apply below_alloc | apply pw_below_drewN | apply below_drew1) | exact HB.out)) : P := h
set_option maxHeartbeats 8000000 in
set_option maxRecDepth 100000 in
theorem laws_FnExactKernelOf.calls (k : Nat) (a0_0 : Int) (a0_1 : Int) (a0_2 : Int) (A0_3 : Option Addr) (c0_3 : Nat) (l0_3 : List Int) (r : Bool) (w : World) (hr : Kd.C (Kd.int .i64) w A0_3 l0_3.length l0_3) (hc : l0_3.length ≤ c0_3) (h : laws_FnExactKernelOf.f k a0_0 a0_1 a0_2 l0_3 = some r) :
  Calls Try.prog 6 #[.agg #[.int .i64 a0_0, .int .i64 a0_1, .int .i64 a0_2, .slice A0_3 l0_3.length c0_3]] w fun e w' => e = .returned (.bool r) ∧ Below w.heap.size w w' := by
 have hu := Try.underlying27
 have hu2 := Try.underlying43
 have hu3 := Try.underlying40
 have HR := Z6.k hr
 have HC := Z6.k hc
 clear hr hc
 have HB := Z6.k (Below.refl w.heap.size w)
 unfold laws_FnExactKernelOf.f at h
 replace h := Option.bind_eq_some_iff.mp h
 obtain ⟨t, At0, h⟩ := h
 have At := Z6.k At0
 clear At0
 by_cases c : t < 0
 ·rw [if_pos c] at h
  have hcb : decide (t < 0) = true := decide_eq_true c
  clear c
  obtain rfl := Option.some.inj h
  clear h
  go_enter Try.func6, Try.ntmps6
  go_upto_region 1 with (fail)
  obtain ⟨wn1, hw_⟩ : ∃ w_ : World, w_ = w.alloc (.cells #[.int .i64 a0_0, .int .i64 a0_1, .int .i64 a0_2, .slice A0_3 l0_3.length c0_3] 40 (0, 0)) := ⟨_, rfl⟩
  rw [← hw_]
  have hb : Below w.heap.size w wn1 := by rw [hw_]; exact (Below.refl _ _).alloc (Nat.le_refl _) _
  have m_ : Aside0 (wn1.heap[w.heap.size]? = some (.cells #[.int .i64 a0_0, .int .i64 a0_1, .int .i64 a0_2, .slice A0_3 l0_3.length c0_3] 40 (0, 0))) := ⟨(by rw [hw_]; exact blk_new _ _)⟩
  obtain ⟨gbM, hg⟩ : ∃ g_ : Nat, g_ = w.heap.size := ⟨_, rfl⟩
  rw [← hg] at m_ ⊢
  have HGBKM := Z6.k hg
  have HMBKM := Z6.k (show gbM < wn1.heap.size from blk_lt m_.out)
  clear hg hw_
  have nB_ := Z6.k (below_step Z6.z0 hb)
  have hz_ := hb.size
  clear hb
  have HZ1 := Z6.k (show w.heap.size ≤ wn1.heap.size from hz_)
  clear hz_ HB
  have HB := nB_
  clear nB_
  have BKM := m_
  clear m_
  have hcBKM_0_1 : wn1.cell? ⟨gbM, 0, none⟩ = some (.int .i64 a0_0) := (blk_cell BKM.out 0).trans rfl
  have hfBKM_0_1 := blk_frozen BKM.out 0
  have hcBKM_1_1 : wn1.cell? ⟨gbM, 1, none⟩ = some (.int .i64 a0_1) := (blk_cell BKM.out 1).trans rfl
  have hfBKM_1_1 := blk_frozen BKM.out 1
  have hcBKM_2_1 : wn1.cell? ⟨gbM, 2, none⟩ = some (.int .i64 a0_2) := (blk_cell BKM.out 2).trans rfl
  have hfBKM_2_1 := blk_frozen BKM.out 2
  have hcBKM_3_1 : wn1.cell? ⟨gbM, 3, none⟩ = some (.slice A0_3 l0_3.length c0_3) := (blk_cell BKM.out 3).trans rfl
  have hfBKM_3_1 := blk_frozen BKM.out 3
  go_wp2_with (first | (go_at_call 20; (refine (laws_szMatrix.calls a0_0 a0_1 a0_2 _ _ l0_3 1048576 t _ ?side1 ?side2 At.out).mono ?_); (case side1 => exact Z6.z5); (case side2 => exact HC.out); rintro e wn2 ⟨rfl, hb⟩; have nB_ := Z6.k (below_step Z6.z0 hb); have hz_ := hb.size; have nBKM_ : Aside0 (wn2.heap[gbM]? = some (.cells #[.int .i64 a0_0, .int .i64 a0_1, .int .i64 a0_2, .slice A0_3 l0_3.length c0_3] 40 (0, 0))) := ⟨blk_below Z6.z1 hb⟩; clear hb; have HZ2 := Z6.k (show wn1.heap.size ≤ wn2.heap.size from hz_); clear hz_ HB BKM; have HB := nB_; have BKM := nBKM_; clear nBKM_; clear nB_))
  go_ret
  exact ⟨rfl, Z6.z0⟩
 rw [if_neg c] at h
 have hcb : decide (t < 0) = false := decide_eq_false c
 clear c
 replace h := Option.bind_eq_some_iff.mp h
 obtain ⟨⟨x0, x1, x2, D⟩, AD0, h⟩ := h
 have AD := Z6.k AD0
 clear AD0
 replace h := Option.bind_eq_some_iff.mp h
 obtain ⟨⟨spl, spe⟩, AW0, h⟩ := h
 have AW := Z6.k (show spec_KernelOf.f k x0 x1 x2 D = some (spl, spe) from AW0)
 clear AW0
 replace h := Option.bind_eq_some_iff.mp h
 obtain ⟨⟨gl, ge⟩, AG0, h⟩ := h
 have AG := Z6.k (show impl_KernelOf.f k x0 x1 x2 D = some (gl, ge) from AG0)
 clear AG0
 replace h := Option.bind_eq_some_iff.mp h
 obtain ⟨b, AE0, h⟩ := h
 by_cases cb : b = true
 rotate_left
 ·rw [if_neg cb] at h; exact absurd h (by simp)
 subst cb
 rw [if_pos rfl] at h
 have AE := Z6.k (show laws_eqInt64SS.f k gl spl = some true from AE0)
 clear AE0
 by_cases ce : ge = spe
 rotate_left
 ·rw [if_neg ce] at h; exact absurd h (by simp)
 subst ce
 rw [if_pos rfl] at h
 replace h := Option.bind_eq_some_iff.mp h
 obtain ⟨b2, AF0, h⟩ := h
 by_cases cb : b2 = true
 rotate_left
 ·rw [if_neg cb] at h; exact absurd h (by simp)
 subst cb
 rw [if_pos rfl] at h
 have AF := Z6.k (show laws_eqMatrix.f k x0 x1 x2 D x0 x1 x2 D = some true from AF0)
 clear AF0
 replace h := Option.bind_eq_some_iff.mp h
 obtain ⟨⟨m1, D'⟩, AM0, h⟩ := h
 have AM := Z6.k (show laws_markMatrix.f k x0 x1 x2 D 1 = some (m1, D') from AM0)
 clear AM0
 by_cases cm : m1 < 0
 ·rw [if_pos cm] at h; exact absurd h (by simp)
 rw [if_neg cm] at h
 have hcm1 : decide (m1 < 0) = false := decide_eq_false cm
 clear cm
 replace h := Option.bind_eq_some_iff.mp h
 obtain ⟨⟨m2, gl'⟩, AN0, h⟩ := h
 have AN := Z6.k (show laws_markInt64SS.f k gl 1 = some (m2, gl') from AN0)
 clear AN0
 replace h := Option.bind_eq_some_iff.mp h
 obtain ⟨q, AQ0, h⟩ := h
 have AQ := Z6.k (show laws_heldInt64SS.f k gl' 1 = some q from AQ0)
 clear AQ0
 by_cases cm : q < 0
 ·rw [if_pos cm] at h; exact absurd h (by simp)
 rw [if_neg cm] at h
 have hcq : decide (q < 0) = false := decide_eq_false cm
 clear cm
 by_cases ce : q = m2
 rotate_left
 ·rw [if_neg ce] at h; exact absurd h (by simp)
 subst ce
 rw [if_pos rfl] at h
 obtain rfl := Option.some.inj h
 clear h
 go_enter Try.func6, Try.ntmps6
 go_upto_region 1 with (fail)
 obtain ⟨wn1, hw_⟩ : ∃ w_ : World, w_ = w.alloc (.cells #[.int .i64 a0_0, .int .i64 a0_1, .int .i64 a0_2, .slice A0_3 l0_3.length c0_3] 40 (0, 0)) := ⟨_, rfl⟩
 rw [← hw_]
 have hb : Below w.heap.size w wn1 := by rw [hw_]; exact (Below.refl _ _).alloc (Nat.le_refl _) _
 have m_ : Aside0 (wn1.heap[w.heap.size]? = some (.cells #[.int .i64 a0_0, .int .i64 a0_1, .int .i64 a0_2, .slice A0_3 l0_3.length c0_3] 40 (0, 0))) := ⟨(by rw [hw_]; exact blk_new _ _)⟩
 obtain ⟨gbM, hg⟩ : ∃ g_ : Nat, g_ = w.heap.size := ⟨_, rfl⟩
 rw [← hg] at m_ ⊢
 have HGBKM := Z6.k hg
 have HMBKM := Z6.k (show gbM < wn1.heap.size from blk_lt m_.out)
 clear hg hw_
 have nB_ := Z6.k (below_step Z6.z0 hb)
 have hz_ := hb.size
 clear hb
 have HZ1 := Z6.k (show w.heap.size ≤ wn1.heap.size from hz_)
 clear hz_ HB
 have HB := nB_
 clear nB_
 have BKM := m_
 clear m_
 have hcBKM_0_1 : wn1.cell? ⟨gbM, 0, none⟩ = some (.int .i64 a0_0) := (blk_cell BKM.out 0).trans rfl
 have hfBKM_0_1 := blk_frozen BKM.out 0
 have hcBKM_1_1 : wn1.cell? ⟨gbM, 1, none⟩ = some (.int .i64 a0_1) := (blk_cell BKM.out 1).trans rfl
 have hfBKM_1_1 := blk_frozen BKM.out 1
 have hcBKM_2_1 : wn1.cell? ⟨gbM, 2, none⟩ = some (.int .i64 a0_2) := (blk_cell BKM.out 2).trans rfl
 have hfBKM_2_1 := blk_frozen BKM.out 2
 have hcBKM_3_1 : wn1.cell? ⟨gbM, 3, none⟩ = some (.slice A0_3 l0_3.length c0_3) := (blk_cell BKM.out 3).trans rfl
 have hfBKM_3_1 := blk_frozen BKM.out 3
 go_upto_region 5 with (first | (go_at_call 20; (refine (laws_szMatrix.calls a0_0 a0_1 a0_2 _ _ l0_3 1048576 t _ ?side1 ?side2 At.out).mono ?_); (case side1 => exact Z6.z5); (case side2 => exact HC.out); rintro e wn2 ⟨rfl, hb⟩; have nB_ := Z6.k (below_step Z6.z0 hb); have hz_ := hb.size; have nBKM_ : Aside0 (wn2.heap[gbM]? = some (.cells #[.int .i64 a0_0, .int .i64 a0_1, .int .i64 a0_2, .slice A0_3 l0_3.length c0_3] 40 (0, 0))) := ⟨blk_below Z6.z1 hb⟩; clear hb; have HZ2 := Z6.k (show wn1.heap.size ≤ wn2.heap.size from hz_); clear hz_ HB BKM; have HB := nB_; have BKM := nBKM_; clear nBKM_; clear nB_))
 have hcBKM_0_2 : wn2.cell? ⟨gbM, 0, none⟩ = some (.int .i64 a0_0) := (blk_cell BKM.out 0).trans rfl
 have hfBKM_0_2 := blk_frozen BKM.out 0
 have hcBKM_1_2 : wn2.cell? ⟨gbM, 1, none⟩ = some (.int .i64 a0_1) := (blk_cell BKM.out 1).trans rfl
 have hfBKM_1_2 := blk_frozen BKM.out 1
 have hcBKM_2_2 : wn2.cell? ⟨gbM, 2, none⟩ = some (.int .i64 a0_2) := (blk_cell BKM.out 2).trans rfl
 have hfBKM_2_2 := blk_frozen BKM.out 2
 have hcBKM_3_2 : wn2.cell? ⟨gbM, 3, none⟩ = some (.slice A0_3 l0_3.length c0_3) := (blk_cell BKM.out 3).trans rfl
 have hfBKM_3_2 := blk_frozen BKM.out 3
 go_upto_region 6 with (first | (go_at_call 22; (refine (laws_toMatrix.calls k a0_0 a0_1 a0_2 _ _ l0_3 x0 x1 x2 D _ ?side1 ?side2 AD.out).mono ?_); (case side1 => exact Z6.z5); (case side2 => exact HC.out); rintro e wn3 ⟨vD1, rfl, ho, hb⟩; obtain ⟨MD1, cD1, ev_⟩ := Kd.R_slice ho; subst ev_; have m_ : Aside0 (Kd.R (Kd.int .i64) 2 wn3 w.heap.size (fun k_ => wn2.heap.size ≤ k_ ∧ k_ < wn3.heap.size) (.slice MD1 D.length cD1) D) := ⟨Kd.R_lower (Kd.R_mono (Kd.R_bound ho) (fun k_ hk_ => ⟨hk_.2.1, hk_.2.2.1⟩)) (below_size Z6.z0)⟩; clear ho; have nB_ := Z6.k (below_step Z6.z0 hb); have hz_ := hb.size; have nBKM_ : Aside0 (wn3.heap[gbM]? = some (.cells #[.int .i64 a0_0, .int .i64 a0_1, .int .i64 a0_2, .slice A0_3 l0_3.length c0_3] 40 (0, 0))) := ⟨blk_below Z6.z1 hb⟩; clear hb; have HZ3 := Z6.k (show wn2.heap.size ≤ wn3.heap.size from hz_); clear hz_ HB BKM; have HB := nB_; have BKM := nBKM_; clear nBKM_ nB_; have HD1 := m_; clear m_) | (go_at_call 26; (refine (spec_KernelOf.calls k x0 x1 x2 _ _ D spl ge _ ?side1 ?side2 AW.out).mono ?_); (case side1 => exact (by repeat (first | exact (Kd.R_reads' HD1.out).2.2 | (with_reducible refine Kd.C_alloc ?_ _) | (with_reducible refine Kd.C_drewN ?_ _) | (with_reducible refine Kd.C_drew ?_)))); (case side2 => exact (Kd.R_reads' HD1.out).2.1); rintro e wn4 ⟨vS, rfl, ho, hb⟩; obtain ⟨MS, cS, ev_⟩ := Kd.S_slice ho; subst ev_; have m_ : Aside0 (Kd.S (Kd.slice 2 (Kd.int .i64)) 38 wn4 w.heap.size (fun k_ => wn3.heap.size ≤ k_ ∧ k_ < wn4.heap.size) (.slice MS spl.length cS) spl) := ⟨Kd.S_lower (Kd.S_mono (Kd.S_bound ho) (fun k_ hk_ => ⟨hk_.2.1, hk_.2.2.1⟩)) (below_size Z6.z0)⟩; clear ho; have nB_ := Z6.k (below_step Z6.z0 hb); have hz_ := hb.size; have nHD1_ : Aside0 (Kd.R (Kd.int .i64) 2 wn4 w.heap.size (fun k_ => wn2.heap.size ≤ k_ ∧ k_ < wn3.heap.size) (.slice MD1 D.length cD1) D) := ⟨Kd.R_below (by (with_reducible repeat (first | apply Kd.R_alloc | apply Kd.R_drewN | apply Kd.R_drew)); exact HD1.out) hb⟩; have nBKM_ : Aside0 (wn4.heap[gbM]? = some (.cells #[.int .i64 a0_0, .int .i64 a0_1, .int .i64 a0_2, .slice A0_3 l0_3.length c0_3] 40 (0, 0))) := ⟨blk_below Z6.z1 hb⟩; clear hb; have HZ4 := Z6.k (show wn3.heap.size ≤ wn4.heap.size from hz_); clear hz_ HB HD1 BKM; have HB := nB_; have HD1 := nHD1_; have BKM := nBKM_; clear nHD1_ nBKM_ nB_; have HS := m_; clear m_))
 clear HD1
 have hcBKM_0_4 : wn4.cell? ⟨gbM, 0, none⟩ = some (.int .i64 a0_0) := (blk_cell BKM.out 0).trans rfl
 have hfBKM_0_4 := blk_frozen BKM.out 0
 have hcBKM_1_4 : wn4.cell? ⟨gbM, 1, none⟩ = some (.int .i64 a0_1) := (blk_cell BKM.out 1).trans rfl
 have hfBKM_1_4 := blk_frozen BKM.out 1
 have hcBKM_2_4 : wn4.cell? ⟨gbM, 2, none⟩ = some (.int .i64 a0_2) := (blk_cell BKM.out 2).trans rfl
 have hfBKM_2_4 := blk_frozen BKM.out 2
 have hcBKM_3_4 : wn4.cell? ⟨gbM, 3, none⟩ = some (.slice A0_3 l0_3.length c0_3) := (blk_cell BKM.out 3).trans rfl
 have hfBKM_3_4 := blk_frozen BKM.out 3
 go_upto_region 7 with (first | (go_at_call 22; (refine (laws_toMatrix.calls k a0_0 a0_1 a0_2 _ _ l0_3 x0 x1 x2 D _ ?side1 ?side2 AD.out).mono ?_); (case side1 => exact Z6.z5); (case side2 => exact HC.out); rintro e wn5 ⟨vD2, rfl, ho, hb⟩; obtain ⟨MD2, cD2, ev_⟩ := Kd.R_slice ho; subst ev_; have m_ : Aside0 (Kd.R (Kd.int .i64) 2 wn5 w.heap.size (fun k_ => wn4.heap.size ≤ k_ ∧ k_ < wn5.heap.size) (.slice MD2 D.length cD2) D) := ⟨Kd.R_lower (Kd.R_mono (Kd.R_bound ho) (fun k_ hk_ => ⟨hk_.2.1, hk_.2.2.1⟩)) (below_size Z6.z0)⟩; clear ho; have nB_ := Z6.k (below_step Z6.z0 hb); have hz_ := hb.size; have nHS_ : Aside0 (Kd.S (Kd.slice 2 (Kd.int .i64)) 38 wn5 w.heap.size (fun k_ => wn3.heap.size ≤ k_ ∧ k_ < wn4.heap.size) (.slice MS spl.length cS) spl) := ⟨Kd.S_below Z6.z2 hb⟩; have nBKM_ : Aside0 (wn5.heap[gbM]? = some (.cells #[.int .i64 a0_0, .int .i64 a0_1, .int .i64 a0_2, .slice A0_3 l0_3.length c0_3] 40 (0, 0))) := ⟨blk_below Z6.z1 hb⟩; clear hb; have HZ5 := Z6.k (show wn4.heap.size ≤ wn5.heap.size from hz_); clear hz_ HB HS BKM; have HB := nB_; have HS := nHS_; have BKM := nBKM_; clear nHS_ nBKM_ nB_; have HD2 := m_; clear m_))
 obtain ⟨wn6, hw_⟩ : ∃ w_ : World, w_ = wn5.alloc (.cells #[.int .i64 x0, .int .i64 x1, .int .i64 x2, .slice MD2 D.length cD2] 43 (0, 0)) := ⟨_, rfl⟩
 rw [← hw_]
 have hb : Below wn5.heap.size wn5 wn6 := by rw [hw_]; exact (Below.refl _ _).alloc (Nat.le_refl _) _
 have m_ : Aside0 (wn6.heap[wn5.heap.size]? = some (.cells #[.int .i64 x0, .int .i64 x1, .int .i64 x2, .slice MD2 D.length cD2] 43 (0, 0))) := ⟨(by rw [hw_]; exact blk_new _ _)⟩
 obtain ⟨gbX, hg⟩ : ∃ g_ : Nat, g_ = wn5.heap.size := ⟨_, rfl⟩
 rw [← hg] at m_ ⊢
 have HGBKX := Z6.k hg
 have HMBKX := Z6.k (show gbX < wn6.heap.size from blk_lt m_.out)
 clear hg hw_
 have nB_ := Z6.k (below_step Z6.z0 hb)
 have hz_ := hb.size
 have nHS_ : Aside0 (Kd.S (Kd.slice 2 (Kd.int .i64)) 38 wn6 w.heap.size (fun k_ => wn3.heap.size ≤ k_ ∧ k_ < wn4.heap.size) (.slice MS spl.length cS) spl) := ⟨Kd.S_below Z6.z2 hb⟩
 have nHD2_ : Aside0 (Kd.R (Kd.int .i64) 2 wn6 w.heap.size (fun k_ => wn4.heap.size ≤ k_ ∧ k_ < wn5.heap.size) (.slice MD2 D.length cD2) D) := ⟨Kd.R_below Z6.z8 hb⟩
 have nBKM_ : Aside0 (wn6.heap[gbM]? = some (.cells #[.int .i64 a0_0, .int .i64 a0_1, .int .i64 a0_2, .slice A0_3 l0_3.length c0_3] 40 (0, 0))) := ⟨blk_below Z6.z1 hb⟩
 clear hb
 have HZ6 := Z6.k (show wn5.heap.size ≤ wn6.heap.size from hz_)
 clear hz_ HB HS HD2 BKM
 have HB := nB_
 have HS := nHS_
 have HD2 := nHD2_
 have BKM := nBKM_
 clear nHS_ nHD2_ nBKM_ nB_
 have BKX := m_
 clear m_
 have hcBKX_0_6 : wn6.cell? ⟨gbX, 0, none⟩ = some (.int .i64 x0) := (blk_cell BKX.out 0).trans rfl
 have hfBKX_0_6 := blk_frozen BKX.out 0
 have hcBKX_1_6 : wn6.cell? ⟨gbX, 1, none⟩ = some (.int .i64 x1) := (blk_cell BKX.out 1).trans rfl
 have hfBKX_1_6 := blk_frozen BKX.out 1
 have hcBKX_2_6 : wn6.cell? ⟨gbX, 2, none⟩ = some (.int .i64 x2) := (blk_cell BKX.out 2).trans rfl
 have hfBKX_2_6 := blk_frozen BKX.out 2
 have hcBKX_3_6 : wn6.cell? ⟨gbX, 3, none⟩ = some (.slice MD2 D.length cD2) := (blk_cell BKX.out 3).trans rfl
 have hfBKX_3_6 := blk_frozen BKX.out 3
 go_upto_region 8 with (first | (go_at_call 27; (refine (impl_KernelOf.calls k x0 x1 x2 _ _ D gl ge _ ?side1 ?side2 AG.out).mono ?_); (case side1 => exact Z6.z10); (case side2 => exact (Kd.R_reads' HD2.out).2.1); rintro e wn7 ⟨vG, rfl, ho, hb⟩; obtain ⟨MG, cG, ev_⟩ := Kd.S_slice ho; subst ev_; have m_ : Aside0 (Kd.S (Kd.slice 2 (Kd.int .i64)) 38 wn7 w.heap.size (fun k_ => wn6.heap.size ≤ k_ ∧ k_ < wn7.heap.size) (.slice MG gl.length cG) gl) := ⟨Kd.S_lower (Kd.S_mono (Kd.S_bound ho) (fun k_ hk_ => ⟨hk_.2.1, hk_.2.2.1⟩)) (below_size Z6.z0)⟩; clear ho; have nB_ := Z6.k (below_step Z6.z0 hb); have hz_ := hb.size; have nHS_ : Aside0 (Kd.S (Kd.slice 2 (Kd.int .i64)) 38 wn7 w.heap.size (fun k_ => wn3.heap.size ≤ k_ ∧ k_ < wn4.heap.size) (.slice MS spl.length cS) spl) := ⟨Kd.S_below Z6.z2 hb⟩; have nHD2_ : Aside0 (Kd.R (Kd.int .i64) 2 wn7 w.heap.size (fun k_ => wn4.heap.size ≤ k_ ∧ k_ < wn5.heap.size) (.slice MD2 D.length cD2) D) := ⟨Kd.R_below Z6.z8 hb⟩; have nBKM_ : Aside0 (wn7.heap[gbM]? = some (.cells #[.int .i64 a0_0, .int .i64 a0_1, .int .i64 a0_2, .slice A0_3 l0_3.length c0_3] 40 (0, 0))) := ⟨blk_below Z6.z1 hb⟩; have nBKX_ : Aside0 (wn7.heap[gbX]? = some (.cells #[.int .i64 x0, .int .i64 x1, .int .i64 x2, .slice MD2 D.length cD2] 43 (0, 0))) := ⟨blk_below Z6.z3 hb⟩; clear hb; have HZ7 := Z6.k (show wn6.heap.size ≤ wn7.heap.size from hz_); clear hz_ HB HS HD2 BKM BKX; have HB := nB_; have HS := nHS_; have HD2 := nHD2_; have BKM := nBKM_; have BKX := nBKX_; clear nHS_ nHD2_ nBKM_ nBKX_ nB_; have HG := m_; clear m_))
 go_upto_region 10 with (first | (go_at_call 16; (refine (laws_eqInt64SS.calls k _ _ gl _ _ spl true _ ?side1 ?side2 ?side3 ?side4 AE.out).mono ?_); (case side1 => exact Z6.z7); (case side2 => exact (Kd.S_reads' HG.out).2.1); (case side3 => exact Z6.z9); (case side4 => exact (Kd.S_reads' HS.out).2.1); rintro e wn8 ⟨rfl, hd⟩; have hb := hd.below; clear hd; have nB_ := Z6.k (below_step Z6.z0 hb); have hz_ := hb.size; have nHS_ : Aside0 (Kd.S (Kd.slice 2 (Kd.int .i64)) 38 wn8 w.heap.size (fun k_ => wn3.heap.size ≤ k_ ∧ k_ < wn4.heap.size) (.slice MS spl.length cS) spl) := ⟨Kd.S_below Z6.z2 hb⟩; have nHD2_ : Aside0 (Kd.R (Kd.int .i64) 2 wn8 w.heap.size (fun k_ => wn4.heap.size ≤ k_ ∧ k_ < wn5.heap.size) (.slice MD2 D.length cD2) D) := ⟨Kd.R_below Z6.z8 hb⟩; have nHG_ : Aside0 (Kd.S (Kd.slice 2 (Kd.int .i64)) 38 wn8 w.heap.size (fun k_ => wn6.heap.size ≤ k_ ∧ k_ < wn7.heap.size) (.slice MG gl.length cG) gl) := ⟨Kd.S_below Z6.z4 hb⟩; have nBKM_ : Aside0 (wn8.heap[gbM]? = some (.cells #[.int .i64 a0_0, .int .i64 a0_1, .int .i64 a0_2, .slice A0_3 l0_3.length c0_3] 40 (0, 0))) := ⟨blk_below Z6.z1 hb⟩; have nBKX_ : Aside0 (wn8.heap[gbX]? = some (.cells #[.int .i64 x0, .int .i64 x1, .int .i64 x2, .slice MD2 D.length cD2] 43 (0, 0))) := ⟨blk_below Z6.z3 hb⟩; clear hb; have HZ8 := Z6.k (show wn7.heap.size ≤ wn8.heap.size from hz_); clear hz_ HB HS HD2 HG BKM BKX; have HB := nB_; have HS := nHS_; have HD2 := nHD2_; have HG := nHG_; have BKM := nBKM_; have BKX := nBKX_; clear nHS_ nHD2_ nHG_ nBKM_ nBKX_; clear nB_))
 have nHS_ := Z6.k (Kd.S_drew HS.out)
 have nHD2_ := Z6.k (Kd.R_drew HD2.out)
 have nHG_ := Z6.k (Kd.S_drew HG.out)
 have nBKM_ := Z6.k (blk_drew BKM.out)
 have nBKX_ := Z6.k (blk_drew BKX.out)
 have nB_ := Z6.k (below_drew1 HB.out)
 have HZ9 := Z6.k (show wn8.heap.size ≤ wn8.drew.heap.size from Nat.le_refl _)
 clear HB HS HD2 HG BKM BKX
 have HB := nB_
 have HS := nHS_
 have HD2 := nHD2_
 have HG := nHG_
 have BKM := nBKM_
 have BKX := nBKX_
 clear nB_ nHS_ nHD2_ nHG_ nBKM_ nBKX_
 refine start_ (n := 5) (S := fun w' => w'.cell? ⟨gbX, 0, none⟩ = some (.int .i64 x0) ∧ w'.cell? ⟨gbX, 1, none⟩ = some (.int .i64 x1) ∧ w'.cell? ⟨gbX, 2, none⟩ = some (.int .i64 x2) ∧ w'.cell? ⟨gbX, 3, none⟩ = some (.slice MD2 D.length cD2) ∧ w'.cell? ⟨gbM, 0, none⟩ = some (.int .i64 a0_0) ∧ w'.cell? ⟨gbM, 1, none⟩ = some (.int .i64 a0_1) ∧ w'.cell? ⟨gbM, 2, none⟩ = some (.int .i64 a0_2) ∧ w'.cell? ⟨gbM, 3, none⟩ = some (.slice A0_3 l0_3.length c0_3)) (ds := []) #[false, false, false, false, false] (by kernel_rfl) rfl rfl Z6.z6 (fun hHeld => ?_)
 generalize wn8.drew = wn9 at HZ9 HB HS HD2 HG BKM BKX hHeld ⊢
 refine take_ (i := 0) (N := some 41) (v := ?_) (a' := ?_) #[true, false, false, false, false] rfl rfl (by kernel_rfl) (fun _ _ _ h => h) (Or.inl ⟨(by rfl), ?_⟩) hHeld ?_ ?_
 rotate_left
 ·rintro w' ⟨s0, s1, s2, s3, s4, s5, s6, s7⟩
  go_simp
  with_reducible rfl
 rotate_left
 ·simp only [Act.put, List.setIfInBounds_toArray, List.set_cons_zero, List.set_cons_succ, i64_w, i32_w]; rfl
 refine take_ (i := 1) (N := some 42) (v := ?_) (a' := ?_) #[true, true, false, false, false] rfl rfl (by kernel_rfl) (fun _ _ _ h => h) (Or.inl ⟨(by rfl), ?_⟩) hHeld ?_ ?_
 rotate_left
 ·rintro w' ⟨s0, s1, s2, s3, s4, s5, s6, s7⟩
  go_simp
  with_reducible rfl
 rotate_left
 ·simp only [Act.put, List.setIfInBounds_toArray, List.set_cons_zero, List.set_cons_succ, i64_w, i32_w]; rfl
 refine one_ (i := 2) (N := some 43) #[true, true, true, false, false] rfl rfl (by kernel_rfl) (by decide) (fun K hK => ?_)
 refine goes_ Try.func22 (by kernel_rfl) rfl #[.agg #[.int .i64 a0_0, .int .i64 a0_1, .int .i64 a0_2, .slice A0_3 l0_3.length c0_3]] (by rfl) rfl rfl (by (try simp only [List.map_toArray, List.map_cons, List.map_nil]); first | done | rfl) ?_
 (refine (laws_toMatrix.calls k a0_0 a0_1 a0_2 _ _ l0_3 x0 x1 x2 D _ ?side1 ?side2 AD.out).mono ?_)
 (case side1 => exact Z6.z5)
 (case side2 => exact HC.out)
 rintro e wn10 ⟨vD3, rfl, ho, hb⟩
 refine ⟨_, rfl, ?_⟩
 obtain ⟨MD3, cD3, ev_⟩ := Kd.R_slice ho
 subst ev_
 have m_ : Aside0 (Kd.R (Kd.int .i64) 2 wn10 w.heap.size (fun k_ => wn9.heap.size ≤ k_ ∧ k_ < wn10.heap.size) (.slice MD3 D.length cD3) D) := ⟨Kd.R_lower (Kd.R_mono (Kd.R_bound ho) (fun k_ hk_ => ⟨hk_.2.1, hk_.2.2.1⟩)) (below_size Z6.z0)⟩
 clear ho
 have nB_ := Z6.k (below_step Z6.z0 hb)
 have hz_ := hb.size
 have nHS_ : Aside0 (Kd.S (Kd.slice 2 (Kd.int .i64)) 38 wn10 w.heap.size (fun k_ => wn3.heap.size ≤ k_ ∧ k_ < wn4.heap.size) (.slice MS spl.length cS) spl) := ⟨Kd.S_below Z6.z2 hb⟩
 have nHD2_ : Aside0 (Kd.R (Kd.int .i64) 2 wn10 w.heap.size (fun k_ => wn4.heap.size ≤ k_ ∧ k_ < wn5.heap.size) (.slice MD2 D.length cD2) D) := ⟨Kd.R_below Z6.z8 hb⟩
 have nHG_ : Aside0 (Kd.S (Kd.slice 2 (Kd.int .i64)) 38 wn10 w.heap.size (fun k_ => wn6.heap.size ≤ k_ ∧ k_ < wn7.heap.size) (.slice MG gl.length cG) gl) := ⟨Kd.S_below Z6.z4 hb⟩
 have nBKM_ : Aside0 (wn10.heap[gbM]? = some (.cells #[.int .i64 a0_0, .int .i64 a0_1, .int .i64 a0_2, .slice A0_3 l0_3.length c0_3] 40 (0, 0))) := ⟨blk_below Z6.z1 hb⟩
 have nBKX_ : Aside0 (wn10.heap[gbX]? = some (.cells #[.int .i64 x0, .int .i64 x1, .int .i64 x2, .slice MD2 D.length cD2] 43 (0, 0))) := ⟨blk_below Z6.z3 hb⟩
 clear hb
 have HZ10 := Z6.k (show wn9.heap.size ≤ wn10.heap.size from hz_)
 clear hz_ HB HS HD2 HG BKM BKX
 have HB := nB_
 have HS := nHS_
 have HD2 := nHD2_
 have HG := nHG_
 have BKM := nBKM_
 have BKX := nBKX_
 clear nHS_ nHD2_ nHG_ nBKM_ nBKX_ nB_
 have HD3 := m_
 clear m_
 refine hK.out _ _ Z6.z6 (fun hHeld => ?_)
 clear hK K
 refine norm_ (a' := ?_) ?_ ?_
 rotate_left
 ·show Act.put _ (some 43) _ = _
  simp only [Act.put, List.setIfInBounds_toArray, List.set_cons_zero, List.set_cons_succ, i64_w, i32_w]
  rfl
 refine one_ (i := 3) (N := some 44) #[true, true, true, true, false] rfl rfl (by kernel_rfl) (by decide) (fun K hK => ?_)
 refine goes_ Try.func24 (by kernel_rfl) rfl #[.agg #[.int .i64 x0, .int .i64 x1, .int .i64 x2, .slice MD2 D.length cD2], .agg #[.int .i64 x0, .int .i64 x1, .int .i64 x2, .slice MD3 D.length cD3]] (by rfl) rfl rfl (by (try simp only [List.map_toArray, List.map_cons, List.map_nil]); first | done | rfl) ?_
 (refine (laws_eqMatrix.calls k x0 x1 x2 _ _ D x0 x1 x2 _ _ D true _ ?side1 ?side2 ?side3 ?side4 AF.out).mono ?_)
 (case side1 => exact Z6.z10)
 (case side2 => exact (Kd.R_reads' HD2.out).2.1)
 (case side3 => exact (by repeat (first | exact (Kd.R_reads' HD3.out).2.2 | (with_reducible refine Kd.C_alloc ?_ _) | (with_reducible refine Kd.C_drewN ?_ _) | (with_reducible refine Kd.C_drew ?_))))
 (case side4 => exact (Kd.R_reads' HD3.out).2.1)
 rintro e wn11 ⟨rfl, hb⟩
 refine ⟨_, rfl, ?_⟩
 have nB_ := Z6.k (below_step Z6.z0 hb)
 have hz_ := hb.size
 have nHS_ : Aside0 (Kd.S (Kd.slice 2 (Kd.int .i64)) 38 wn11 w.heap.size (fun k_ => wn3.heap.size ≤ k_ ∧ k_ < wn4.heap.size) (.slice MS spl.length cS) spl) := ⟨Kd.S_below Z6.z2 hb⟩
 have nHD2_ : Aside0 (Kd.R (Kd.int .i64) 2 wn11 w.heap.size (fun k_ => wn4.heap.size ≤ k_ ∧ k_ < wn5.heap.size) (.slice MD2 D.length cD2) D) := ⟨Kd.R_below Z6.z8 hb⟩
 have nHG_ : Aside0 (Kd.S (Kd.slice 2 (Kd.int .i64)) 38 wn11 w.heap.size (fun k_ => wn6.heap.size ≤ k_ ∧ k_ < wn7.heap.size) (.slice MG gl.length cG) gl) := ⟨Kd.S_below Z6.z4 hb⟩
 have nHD3_ : Aside0 (Kd.R (Kd.int .i64) 2 wn11 w.heap.size (fun k_ => wn9.heap.size ≤ k_ ∧ k_ < wn10.heap.size) (.slice MD3 D.length cD3) D) := ⟨Kd.R_below (by (with_reducible repeat (first | apply Kd.R_alloc | apply Kd.R_drewN | apply Kd.R_drew)); exact HD3.out) hb⟩
 have nBKM_ : Aside0 (wn11.heap[gbM]? = some (.cells #[.int .i64 a0_0, .int .i64 a0_1, .int .i64 a0_2, .slice A0_3 l0_3.length c0_3] 40 (0, 0))) := ⟨blk_below Z6.z1 hb⟩
 have nBKX_ : Aside0 (wn11.heap[gbX]? = some (.cells #[.int .i64 x0, .int .i64 x1, .int .i64 x2, .slice MD2 D.length cD2] 43 (0, 0))) := ⟨blk_below Z6.z3 hb⟩
 clear hb
 have HZ11 := Z6.k (show wn10.heap.size ≤ wn11.heap.size from hz_)
 clear hz_ HB HS HD2 HG HD3 BKM BKX
 have HB := nB_
 have HS := nHS_
 have HD2 := nHD2_
 have HG := nHG_
 have HD3 := nHD3_
 have BKM := nBKM_
 have BKX := nBKX_
 clear nHS_ nHD2_ nHG_ nHD3_ nBKM_ nBKX_ nB_
 refine hK.out _ _ Z6.z6 (fun hHeld => ?_)
 clear hK K
 refine norm_ (a' := ?_) ?_ ?_
 rotate_left
 ·show Act.put _ (some 44) _ = _
  simp only [Act.put, List.setIfInBounds_toArray, List.set_cons_zero, List.set_cons_succ, i64_w, i32_w]
  rfl
 refine pure_ (i := 4) (N := some 45) (v := ?_) (a' := ?_) #[true, true, true, true, true] rfl rfl (by kernel_rfl) (fun _ _ _ h => h) (Or.inl ⟨(by rfl), ?_⟩) ?_ ?_
 rotate_left
 ·intro w'
  go_simp
  with_reducible rfl
 rotate_left
 ·simp only [Act.put, List.setIfInBounds_toArray, List.set_cons_zero, List.set_cons_succ, i64_w, i32_w]; rfl
 refine done_ (by kernel_rfl) ?_
 go_upto_region 13 with (fail)
 clear HD3
 have hcBKX_0_11 : wn11.cell? ⟨gbX, 0, none⟩ = some (.int .i64 x0) := (blk_cell BKX.out 0).trans rfl
 have hfBKX_0_11 := blk_frozen BKX.out 0
 have hcBKX_1_11 : wn11.cell? ⟨gbX, 1, none⟩ = some (.int .i64 x1) := (blk_cell BKX.out 1).trans rfl
 have hfBKX_1_11 := blk_frozen BKX.out 1
 have hcBKX_2_11 : wn11.cell? ⟨gbX, 2, none⟩ = some (.int .i64 x2) := (blk_cell BKX.out 2).trans rfl
 have hfBKX_2_11 := blk_frozen BKX.out 2
 have hcBKX_3_11 : wn11.cell? ⟨gbX, 3, none⟩ = some (.slice MD2 D.length cD2) := (blk_cell BKX.out 3).trans rfl
 have hfBKX_3_11 := blk_frozen BKX.out 3
 go_upto_region 14 with (first | (go_at_call 25; (refine (laws_markMatrix.calls k x0 x1 x2 (fun k_ => wn4.heap.size ≤ k_ ∧ k_ < wn5.heap.size) (.slice MD2 D.length cD2) D 1 m1 D' w _ ?side1 ?side2 AM.out).mono ?_); (case side1 => exact (by exact Z6.z0)); (case side2 => exact (by exact Z6.z8)); rintro e wn12 ⟨rfl, hS_, hb, hk⟩; have m_ := Z6.k hS_; clear hS_ HD2; have nB_ := Z6.k hb; have hz_ := hk.1; have nHS_ : Aside0 (Kd.S (Kd.slice 2 (Kd.int .i64)) 38 wn12 w.heap.size (fun k_ => wn3.heap.size ≤ k_ ∧ k_ < wn4.heap.size) (.slice MS spl.length cS) spl) := ⟨Kd.S_kept Z6.z2 hk (fun k_ h1_ h2_ => by have h3_ : wn3.heap.size ≤ k_ := h1_.1; have h4_ : k_ < wn4.heap.size := h1_.2; have h5_ : wn4.heap.size ≤ k_ := h2_.1; have h6_ : k_ < wn5.heap.size := h2_.2; have := HZ1.out; have := HZ2.out; have := HZ3.out; have := HZ4.out; have := HZ5.out; have := HZ6.out; have := HZ7.out; have := HZ8.out; have := HZ9.out; have := HZ10.out; have := HZ11.out; omega)⟩; have nHG_ : Aside0 (Kd.S (Kd.slice 2 (Kd.int .i64)) 38 wn12 w.heap.size (fun k_ => wn6.heap.size ≤ k_ ∧ k_ < wn7.heap.size) (.slice MG gl.length cG) gl) := ⟨Kd.S_kept Z6.z4 hk (fun k_ h1_ h2_ => by have h3_ : wn6.heap.size ≤ k_ := h1_.1; have h4_ : k_ < wn7.heap.size := h1_.2; have h5_ : wn4.heap.size ≤ k_ := h2_.1; have h6_ : k_ < wn5.heap.size := h2_.2; have := HZ1.out; have := HZ2.out; have := HZ3.out; have := HZ4.out; have := HZ5.out; have := HZ6.out; have := HZ7.out; have := HZ8.out; have := HZ9.out; have := HZ10.out; have := HZ11.out; omega)⟩; have nBKM_ : Aside0 (wn12.heap[gbM]? = some (.cells #[.int .i64 a0_0, .int .i64 a0_1, .int .i64 a0_2, .slice A0_3 l0_3.length c0_3] 40 (0, 0))) := ⟨blk_kept Z6.z1 hk (fun h2_ => by have h5_ : wn4.heap.size ≤ gbM := h2_.1; have h6_ : gbM < wn5.heap.size := h2_.2; have := HGBKM.out; have := HMBKM.out; have := HZ1.out; have := HZ2.out; have := HZ3.out; have := HZ4.out; have := HZ5.out; have := HZ6.out; have := HZ7.out; have := HZ8.out; have := HZ9.out; have := HZ10.out; have := HZ11.out; omega)⟩; have nBKX_ : Aside0 (wn12.heap[gbX]? = some (.cells #[.int .i64 x0, .int .i64 x1, .int .i64 x2, .slice MD2 D.length cD2] 43 (0, 0))) := ⟨blk_kept Z6.z3 hk (fun h2_ => by have h5_ : wn4.heap.size ≤ gbX := h2_.1; have h6_ : gbX < wn5.heap.size := h2_.2; have := HGBKX.out; have := HMBKX.out; have := HZ1.out; have := HZ2.out; have := HZ3.out; have := HZ4.out; have := HZ5.out; have := HZ6.out; have := HZ7.out; have := HZ8.out; have := HZ9.out; have := HZ10.out; have := HZ11.out; omega)⟩; clear hb hk; have HZ12 := Z6.k (show wn11.heap.size ≤ wn12.heap.size from hz_); clear hz_ HB HS HG BKM BKX; have HB := nB_; have HS := nHS_; have HG := nHG_; have BKM := nBKM_; have BKX := nBKX_; clear nHS_ nHG_ nBKM_ nBKX_ nB_; clear m_))
 go_upto_region 16 with (first | (go_at_call 16; (refine (laws_eqInt64SS.calls k _ _ gl _ _ spl true _ ?side1 ?side2 ?side3 ?side4 AE.out).mono ?_); (case side1 => exact Z6.z7); (case side2 => exact (Kd.S_reads' HG.out).2.1); (case side3 => exact Z6.z9); (case side4 => exact (Kd.S_reads' HS.out).2.1); rintro e wn13 ⟨rfl, hd⟩; have hb := hd.below; clear hd; have nB_ := Z6.k (below_step Z6.z0 hb); have hz_ := hb.size; have nHS_ : Aside0 (Kd.S (Kd.slice 2 (Kd.int .i64)) 38 wn13 w.heap.size (fun k_ => wn3.heap.size ≤ k_ ∧ k_ < wn4.heap.size) (.slice MS spl.length cS) spl) := ⟨Kd.S_below Z6.z2 hb⟩; have nHG_ : Aside0 (Kd.S (Kd.slice 2 (Kd.int .i64)) 38 wn13 w.heap.size (fun k_ => wn6.heap.size ≤ k_ ∧ k_ < wn7.heap.size) (.slice MG gl.length cG) gl) := ⟨Kd.S_below Z6.z4 hb⟩; have nBKM_ : Aside0 (wn13.heap[gbM]? = some (.cells #[.int .i64 a0_0, .int .i64 a0_1, .int .i64 a0_2, .slice A0_3 l0_3.length c0_3] 40 (0, 0))) := ⟨blk_below Z6.z1 hb⟩; have nBKX_ : Aside0 (wn13.heap[gbX]? = some (.cells #[.int .i64 x0, .int .i64 x1, .int .i64 x2, .slice MD2 D.length cD2] 43 (0, 0))) := ⟨blk_below Z6.z3 hb⟩; clear hb; have HZ13 := Z6.k (show wn12.heap.size ≤ wn13.heap.size from hz_); clear hz_ HB HS HG BKM BKX; have HB := nB_; have HS := nHS_; have HG := nHG_; have BKM := nBKM_; have BKX := nBKX_; clear nHS_ nHG_ nBKM_ nBKX_; clear nB_))
 go_upto_region 18 with (first | (go_at_call 17; (refine (laws_markInt64SS.calls k (fun k_ => wn6.heap.size ≤ k_ ∧ k_ < wn7.heap.size) (.slice MG gl.length cG) gl 1 q gl' w _ ?side1 ?side2 AN.out).mono ?_); (case side1 => exact (by exact Z6.z0)); (case side2 => exact (by exact Z6.z4)); rintro e wn14 ⟨rfl, hS_, hb, hk⟩; have m_ := Z6.k hS_; clear hS_ HG; have nB_ := Z6.k hb; have hz_ := hk.1; have nHS_ : Aside0 (Kd.S (Kd.slice 2 (Kd.int .i64)) 38 wn14 w.heap.size (fun k_ => wn3.heap.size ≤ k_ ∧ k_ < wn4.heap.size) (.slice MS spl.length cS) spl) := ⟨Kd.S_kept Z6.z2 hk (fun k_ h1_ h2_ => by have h3_ : wn3.heap.size ≤ k_ := h1_.1; have h4_ : k_ < wn4.heap.size := h1_.2; have h5_ : wn6.heap.size ≤ k_ := h2_.1; have h6_ : k_ < wn7.heap.size := h2_.2; have := HZ1.out; have := HZ2.out; have := HZ3.out; have := HZ4.out; have := HZ5.out; have := HZ6.out; have := HZ7.out; have := HZ8.out; have := HZ9.out; have := HZ10.out; have := HZ11.out; have := HZ12.out; have := HZ13.out; omega)⟩; have nBKM_ : Aside0 (wn14.heap[gbM]? = some (.cells #[.int .i64 a0_0, .int .i64 a0_1, .int .i64 a0_2, .slice A0_3 l0_3.length c0_3] 40 (0, 0))) := ⟨blk_kept Z6.z1 hk (fun h2_ => by have h5_ : wn6.heap.size ≤ gbM := h2_.1; have h6_ : gbM < wn7.heap.size := h2_.2; have := HGBKM.out; have := HMBKM.out; have := HZ1.out; have := HZ2.out; have := HZ3.out; have := HZ4.out; have := HZ5.out; have := HZ6.out; have := HZ7.out; have := HZ8.out; have := HZ9.out; have := HZ10.out; have := HZ11.out; have := HZ12.out; have := HZ13.out; omega)⟩; have nBKX_ : Aside0 (wn14.heap[gbX]? = some (.cells #[.int .i64 x0, .int .i64 x1, .int .i64 x2, .slice MD2 D.length cD2] 43 (0, 0))) := ⟨blk_kept Z6.z3 hk (fun h2_ => by have h5_ : wn6.heap.size ≤ gbX := h2_.1; have h6_ : gbX < wn7.heap.size := h2_.2; have := HGBKX.out; have := HMBKX.out; have := HZ1.out; have := HZ2.out; have := HZ3.out; have := HZ4.out; have := HZ5.out; have := HZ6.out; have := HZ7.out; have := HZ8.out; have := HZ9.out; have := HZ10.out; have := HZ11.out; have := HZ12.out; have := HZ13.out; omega)⟩; clear hb hk; have HZ14 := Z6.k (show wn13.heap.size ≤ wn14.heap.size from hz_); clear hz_ HB HS BKM BKX; have HB := nB_; have HS := nHS_; have BKM := nBKM_; have BKX := nBKX_; clear nHS_ nBKM_ nBKX_ nB_; have HG := m_; have HL := Z6.k (show gl.length = gl'.length from (Kd.S_reads' HG.out).1); clear m_))
 go_upto_region 20 with (first | (go_at_call 28; refine calls_of_args (args' := #[.slice MG gl'.length cG, .int .i64 1]) (by simp only [HL.out]) ?_; (refine (laws_heldInt64SS.calls k _ _ gl' 1 q _ ?side1 ?side2 AQ.out).mono ?_); (case side1 => exact Z6.z7); (case side2 => exact HL.out ▸ (Kd.S_reads' HG.out).2.1); rintro e wn15 ⟨rfl, hd⟩; have hb := hd.below; clear hd; have nB_ := Z6.k (below_step Z6.z0 hb); have hz_ := hb.size; have nHS_ : Aside0 (Kd.S (Kd.slice 2 (Kd.int .i64)) 38 wn15 w.heap.size (fun k_ => wn3.heap.size ≤ k_ ∧ k_ < wn4.heap.size) (.slice MS spl.length cS) spl) := ⟨Kd.S_below Z6.z2 hb⟩; have nHG_ : Aside0 (Kd.S (Kd.slice 2 (Kd.int .i64)) 38 wn15 w.heap.size (fun k_ => ((fun k_ => wn6.heap.size ≤ k_ ∧ k_ < wn7.heap.size) k_ ∨ wn13.heap.size ≤ k_)) (.slice MG gl.length cG) gl') := ⟨Kd.S_below Z6.z4 hb⟩; have nBKM_ : Aside0 (wn15.heap[gbM]? = some (.cells #[.int .i64 a0_0, .int .i64 a0_1, .int .i64 a0_2, .slice A0_3 l0_3.length c0_3] 40 (0, 0))) := ⟨blk_below Z6.z1 hb⟩; have nBKX_ : Aside0 (wn15.heap[gbX]? = some (.cells #[.int .i64 x0, .int .i64 x1, .int .i64 x2, .slice MD2 D.length cD2] 43 (0, 0))) := ⟨blk_below Z6.z3 hb⟩; clear hb; have HZ15 := Z6.k (show wn14.heap.size ≤ wn15.heap.size from hz_); clear hz_ HB HS HG BKM BKX; have HB := nB_; have HS := nHS_; have HG := nHG_; have BKM := nBKM_; have BKX := nBKX_; clear nHS_ nHG_ nBKM_ nBKX_; clear nB_))
 go_upto_region 24 with (fail)
 have hcBKM_0_15 : wn15.cell? ⟨gbM, 0, none⟩ = some (.int .i64 a0_0) := (blk_cell BKM.out 0).trans rfl
 have hfBKM_0_15 := blk_frozen BKM.out 0
 have hcBKM_1_15 : wn15.cell? ⟨gbM, 1, none⟩ = some (.int .i64 a0_1) := (blk_cell BKM.out 1).trans rfl
 have hfBKM_1_15 := blk_frozen BKM.out 1
 have hcBKM_2_15 : wn15.cell? ⟨gbM, 2, none⟩ = some (.int .i64 a0_2) := (blk_cell BKM.out 2).trans rfl
 have hfBKM_2_15 := blk_frozen BKM.out 2
 have hcBKM_3_15 : wn15.cell? ⟨gbM, 3, none⟩ = some (.slice A0_3 l0_3.length c0_3) := (blk_cell BKM.out 3).trans rfl
 have hfBKM_3_15 := blk_frozen BKM.out 3
 go_upto_region 25 with (first | (go_at_call 22; (refine (laws_toMatrix.calls k a0_0 a0_1 a0_2 _ _ l0_3 x0 x1 x2 D _ ?side1 ?side2 AD.out).mono ?_); (case side1 => exact Z6.z5); (case side2 => exact HC.out); rintro e wn16 ⟨vD4, rfl, ho, hb⟩; obtain ⟨MD4, cD4, ev_⟩ := Kd.R_slice ho; subst ev_; have m_ : Aside0 (Kd.R (Kd.int .i64) 2 wn16 w.heap.size (fun k_ => wn15.heap.size ≤ k_ ∧ k_ < wn16.heap.size) (.slice MD4 D.length cD4) D) := ⟨Kd.R_lower (Kd.R_mono (Kd.R_bound ho) (fun k_ hk_ => ⟨hk_.2.1, hk_.2.2.1⟩)) (below_size Z6.z0)⟩; clear ho; have nB_ := Z6.k (below_step Z6.z0 hb); have hz_ := hb.size; have nHS_ : Aside0 (Kd.S (Kd.slice 2 (Kd.int .i64)) 38 wn16 w.heap.size (fun k_ => wn3.heap.size ≤ k_ ∧ k_ < wn4.heap.size) (.slice MS spl.length cS) spl) := ⟨Kd.S_below Z6.z2 hb⟩; have nHG_ : Aside0 (Kd.S (Kd.slice 2 (Kd.int .i64)) 38 wn16 w.heap.size (fun k_ => ((fun k_ => wn6.heap.size ≤ k_ ∧ k_ < wn7.heap.size) k_ ∨ wn13.heap.size ≤ k_)) (.slice MG gl.length cG) gl') := ⟨Kd.S_below Z6.z4 hb⟩; have nBKM_ : Aside0 (wn16.heap[gbM]? = some (.cells #[.int .i64 a0_0, .int .i64 a0_1, .int .i64 a0_2, .slice A0_3 l0_3.length c0_3] 40 (0, 0))) := ⟨blk_below Z6.z1 hb⟩; have nBKX_ : Aside0 (wn16.heap[gbX]? = some (.cells #[.int .i64 x0, .int .i64 x1, .int .i64 x2, .slice MD2 D.length cD2] 43 (0, 0))) := ⟨blk_below Z6.z3 hb⟩; clear hb; have HZ16 := Z6.k (show wn15.heap.size ≤ wn16.heap.size from hz_); clear hz_ HB HS HG BKM BKX; have HB := nB_; have HS := nHS_; have HG := nHG_; have BKM := nBKM_; have BKX := nBKX_; clear nHS_ nHG_ nBKM_ nBKX_ nB_; have HD4 := m_; clear m_) | (go_at_call 27; (refine (impl_KernelOf.calls k x0 x1 x2 _ _ D gl ge _ ?side1 ?side2 AG.out).mono ?_); (case side1 => exact (by repeat (first | exact (Kd.R_reads' HD4.out).2.2 | (with_reducible refine Kd.C_alloc ?_ _) | (with_reducible refine Kd.C_drewN ?_ _) | (with_reducible refine Kd.C_drew ?_)))); (case side2 => exact (Kd.R_reads' HD4.out).2.1); rintro e wn17 ⟨vH, rfl, ho, hb⟩; obtain ⟨MH, cH, ev_⟩ := Kd.S_slice ho; subst ev_; have m_ : Aside0 (Kd.S (Kd.slice 2 (Kd.int .i64)) 38 wn17 w.heap.size (fun k_ => wn16.heap.size ≤ k_ ∧ k_ < wn17.heap.size) (.slice MH gl.length cH) gl) := ⟨Kd.S_lower (Kd.S_mono (Kd.S_bound ho) (fun k_ hk_ => ⟨hk_.2.1, hk_.2.2.1⟩)) (below_size Z6.z0)⟩; clear ho; have nB_ := Z6.k (below_step Z6.z0 hb); have hz_ := hb.size; have nHS_ : Aside0 (Kd.S (Kd.slice 2 (Kd.int .i64)) 38 wn17 w.heap.size (fun k_ => wn3.heap.size ≤ k_ ∧ k_ < wn4.heap.size) (.slice MS spl.length cS) spl) := ⟨Kd.S_below Z6.z2 hb⟩; have nHG_ : Aside0 (Kd.S (Kd.slice 2 (Kd.int .i64)) 38 wn17 w.heap.size (fun k_ => ((fun k_ => wn6.heap.size ≤ k_ ∧ k_ < wn7.heap.size) k_ ∨ wn13.heap.size ≤ k_)) (.slice MG gl.length cG) gl') := ⟨Kd.S_below Z6.z4 hb⟩; have nHD4_ : Aside0 (Kd.R (Kd.int .i64) 2 wn17 w.heap.size (fun k_ => wn15.heap.size ≤ k_ ∧ k_ < wn16.heap.size) (.slice MD4 D.length cD4) D) := ⟨Kd.R_below (by (with_reducible repeat (first | apply Kd.R_alloc | apply Kd.R_drewN | apply Kd.R_drew)); exact HD4.out) hb⟩; have nBKM_ : Aside0 (wn17.heap[gbM]? = some (.cells #[.int .i64 a0_0, .int .i64 a0_1, .int .i64 a0_2, .slice A0_3 l0_3.length c0_3] 40 (0, 0))) := ⟨blk_below Z6.z1 hb⟩; have nBKX_ : Aside0 (wn17.heap[gbX]? = some (.cells #[.int .i64 x0, .int .i64 x1, .int .i64 x2, .slice MD2 D.length cD2] 43 (0, 0))) := ⟨blk_below Z6.z3 hb⟩; clear hb; have HZ17 := Z6.k (show wn16.heap.size ≤ wn17.heap.size from hz_); clear hz_ HB HS HG HD4 BKM BKX; have HB := nB_; have HS := nHS_; have HG := nHG_; have HD4 := nHD4_; have BKM := nBKM_; have BKX := nBKX_; clear nHS_ nHG_ nHD4_ nBKM_ nBKX_ nB_; have HH := m_; clear m_))
 clear HD4
 go_upto_region 27 with (first | (go_at_call 16; (refine (laws_eqInt64SS.calls k _ _ gl _ _ spl true _ ?side1 ?side2 ?side3 ?side4 AE.out).mono ?_); (case side1 => exact (by repeat (first | exact (Kd.S_reads' HH.out).2.2 | (with_reducible refine Kd.C_alloc ?_ _) | (with_reducible refine Kd.C_drewN ?_ _) | (with_reducible refine Kd.C_drew ?_)))); (case side2 => exact (Kd.S_reads' HH.out).2.1); (case side3 => exact Z6.z9); (case side4 => exact (Kd.S_reads' HS.out).2.1); rintro e wn18 ⟨rfl, hd⟩; have hb := hd.below; clear hd; have nB_ := Z6.k (below_step Z6.z0 hb); have hz_ := hb.size; have nHS_ : Aside0 (Kd.S (Kd.slice 2 (Kd.int .i64)) 38 wn18 w.heap.size (fun k_ => wn3.heap.size ≤ k_ ∧ k_ < wn4.heap.size) (.slice MS spl.length cS) spl) := ⟨Kd.S_below Z6.z2 hb⟩; have nHG_ : Aside0 (Kd.S (Kd.slice 2 (Kd.int .i64)) 38 wn18 w.heap.size (fun k_ => ((fun k_ => wn6.heap.size ≤ k_ ∧ k_ < wn7.heap.size) k_ ∨ wn13.heap.size ≤ k_)) (.slice MG gl.length cG) gl') := ⟨Kd.S_below Z6.z4 hb⟩; have nHH_ : Aside0 (Kd.S (Kd.slice 2 (Kd.int .i64)) 38 wn18 w.heap.size (fun k_ => wn16.heap.size ≤ k_ ∧ k_ < wn17.heap.size) (.slice MH gl.length cH) gl) := ⟨Kd.S_below (by (with_reducible repeat (first | apply Kd.S_alloc | apply Kd.S_drewN | apply Kd.S_drew)); exact HH.out) hb⟩; have nBKM_ : Aside0 (wn18.heap[gbM]? = some (.cells #[.int .i64 a0_0, .int .i64 a0_1, .int .i64 a0_2, .slice A0_3 l0_3.length c0_3] 40 (0, 0))) := ⟨blk_below Z6.z1 hb⟩; have nBKX_ : Aside0 (wn18.heap[gbX]? = some (.cells #[.int .i64 x0, .int .i64 x1, .int .i64 x2, .slice MD2 D.length cD2] 43 (0, 0))) := ⟨blk_below Z6.z3 hb⟩; clear hb; have HZ18 := Z6.k (show wn17.heap.size ≤ wn18.heap.size from hz_); clear hz_ HB HS HG HH BKM BKX; have HB := nB_; have HS := nHS_; have HG := nHG_; have HH := nHH_; have BKM := nBKM_; have BKX := nBKX_; clear nHS_ nHG_ nHH_ nBKM_ nBKX_; clear nB_))
 go_wp2_with (first | (go_at_call 28; refine calls_of_args (args' := #[.slice MG gl'.length cG, .int .i64 1]) (by simp only [HL.out]) ?_; (refine (laws_heldInt64SS.calls k _ _ gl' 1 q _ ?side1 ?side2 AQ.out).mono ?_); (case side1 => exact Z6.z7); (case side2 => exact HL.out ▸ (Kd.S_reads' HG.out).2.1); rintro e wn19 ⟨rfl, hd⟩; have hb := hd.below; clear hd; have nB_ := Z6.k (below_step Z6.z0 hb); have hz_ := hb.size; have nHS_ : Aside0 (Kd.S (Kd.slice 2 (Kd.int .i64)) 38 wn19 w.heap.size (fun k_ => wn3.heap.size ≤ k_ ∧ k_ < wn4.heap.size) (.slice MS spl.length cS) spl) := ⟨Kd.S_below Z6.z2 hb⟩; have nHG_ : Aside0 (Kd.S (Kd.slice 2 (Kd.int .i64)) 38 wn19 w.heap.size (fun k_ => ((fun k_ => wn6.heap.size ≤ k_ ∧ k_ < wn7.heap.size) k_ ∨ wn13.heap.size ≤ k_)) (.slice MG gl.length cG) gl') := ⟨Kd.S_below Z6.z4 hb⟩; have nHH_ : Aside0 (Kd.S (Kd.slice 2 (Kd.int .i64)) 38 wn19 w.heap.size (fun k_ => wn16.heap.size ≤ k_ ∧ k_ < wn17.heap.size) (.slice MH gl.length cH) gl) := ⟨Kd.S_below (by (with_reducible repeat (first | apply Kd.S_alloc | apply Kd.S_drewN | apply Kd.S_drew)); exact HH.out) hb⟩; have nBKM_ : Aside0 (wn19.heap[gbM]? = some (.cells #[.int .i64 a0_0, .int .i64 a0_1, .int .i64 a0_2, .slice A0_3 l0_3.length c0_3] 40 (0, 0))) := ⟨blk_below Z6.z1 hb⟩; have nBKX_ : Aside0 (wn19.heap[gbX]? = some (.cells #[.int .i64 x0, .int .i64 x1, .int .i64 x2, .slice MD2 D.length cD2] 43 (0, 0))) := ⟨blk_below Z6.z3 hb⟩; clear hb; have HZ19 := Z6.k (show wn18.heap.size ≤ wn19.heap.size from hz_); clear hz_ HB HS HG HH BKM BKX; have HB := nB_; have HS := nHS_; have HG := nHG_; have HH := nHH_; have BKM := nBKM_; have BKX := nBKX_; clear nHS_ nHG_ nHH_ nBKM_ nBKX_; clear nB_))
 go_ret
 exact ⟨rfl, Z6.z0⟩


/-- THE ONE PURE STATEMENT of laws_FnExactKernelOf: yours. -/
def laws_FnExactKernelOf.Pure : Prop := ∀ (a0_0 : Int) (a0_1 : Int) (a0_2 : Int) (l0_3 : List Int), (Lit.int .i64 a0_0).wf = true → (Lit.int .i64 a0_1).wf = true → (Lit.int .i64 a0_2).wf = true → l0_3.length ≤ maxLen → (∀ x ∈ l0_3, (Lit.int .i64 x).wf = true) → ∃ k, laws_FnExactKernelOf.f k a0_0 a0_1 a0_2 l0_3 = some true
theorem laws_FnExactKernelOf.walk (P : laws_FnExactKernelOf.Pure) (a0_0 : Int) (a0_1 : Int) (a0_2 : Int) (a0_3 : Option Addr) (len0_3 cap0_3 : Nat) (z0_3 : List Int) (w : World) (w0_0 : (Lit.int .i64 a0_0).wf = true) (w0_1 : (Lit.int .i64 a0_1).wf = true) (w0_2 : (Lit.int .i64 a0_2).wf = true) (w0_3 : (a0_3 = none ∧ len0_3 = 0 ∧ cap0_3 = 0 ∧ z0_3 = []) ∨ ∃ x, a0_3 = some x ∧ len0_3 ≤ cap0_3 ∧ cap0_3 ≤ maxLen ∧ z0_3.length = cap0_3 ∧ (∀ i, i < z0_3.length → w.cell? (x.add i) = some (.int .i64 (z0_3.getD i 0))) ∧ ∀ n ∈ z0_3, (Lit.int .i64 n).wf = true) :
    Calls Try.prog 6 #[.agg #[.int .i64 a0_0, .int .i64 a0_1, .int .i64 a0_2, .slice a0_3 len0_3 cap0_3]] w fun e w' => e = .returned (.bool true) ∧ Below w.heap.size w w' := by
  obtain ⟨l0_3, rfl, hr0_3, hm0_3, hw0_3, hc0_3⟩ := ReadsInt.ofRowC w0_3
  obtain ⟨k, h⟩ := P a0_0 a0_1 a0_2 l0_3 w0_0 w0_1 w0_2 hm0_3 hw0_3
  refine (laws_FnExactKernelOf.calls k a0_0 a0_1 a0_2 _ _ l0_3 true w (Kd.C_of_reads (d := (0 : Int)) (h1 := fun _ => rfl) hr0_3) hc0_3 h).mono ?_
  rintro e w' ⟨rfl, hd⟩
  exact ⟨rfl, hd⟩
end Go.Proofs.Ytoibkfdmcajieaa.F
end
