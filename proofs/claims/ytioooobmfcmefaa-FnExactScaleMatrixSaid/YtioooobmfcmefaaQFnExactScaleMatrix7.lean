-- Texts of this claim, merged by pack.py (a program of this session's).
import Derived.Test.YtioooobmfcmefaaQFnExactScaleMatrix0
import Derived.Test.YtioooobmfcmefaaQFnExactScaleMatrix6
import Derived.Test.YtioooobmfcmefaaQFnExactScaleMatrix4
import Derived.Test.YtioooobmfcmefaaQFnExactScaleMatrix5

section
namespace Go.Proofs.Ytioooobmfcmefaa.F
open Go.RowKit Go.Proofs.YtioooobmfcmefaaW.PrintWords Go.Proofs.YtioooobmfcmefaaW.PrintLast Go.Proofs.YtioooobmfcmefaaW.PrintMore
attribute [local go_sem] max2_int min2_int max_two min_two max_three min_three max_four min_four   -- for this text's walks alone
set_option linter.unusedVariables false
set_option linter.unusedSimpArgs false

/-! ### impl_zero_1: function 85: ours -/
def impl_zero_1.cell : Cell2 := ⟨fun _ _ => some 0⟩
set_option maxRecDepth 100000 in
theorem impl_zero_1.cells (w : World) : ∀ (W : World) (i j v : Int), Below w.heap.size w W → impl_zero_1.cell.f i j = some v → Calls Try.prog 85 (#[.int .i64 i, .int .i64 j] ++ #[]) W fun e w' => e = .returned (.int .i64 v) ∧ Below W.heap.size W w' := by
  intro W i j v hB h
  obtain rfl : (0 : Int) = v := Option.some.inj h
  clear h hB
  go_enter Try.func85, Try.ntmps85
  go_wp2
  go_ret
  exact ⟨rfl, Below.refl _ _⟩

end Go.Proofs.Ytioooobmfcmefaa.F
end

section
namespace Go.Proofs.Ytioooobmfcmefaa.F
open Go.RowKit Go.Proofs.YtioooobmfcmefaaW.PrintWords Go.Proofs.YtioooobmfcmefaaW.PrintLast Go.Proofs.YtioooobmfcmefaaW.PrintMore
attribute [local go_sem] max2_int min2_int max_two min_two max_three min_three max_four min_four   -- for this text's walks alone
set_option linter.unusedVariables false
set_option linter.unusedSimpArgs false

/-! ### impl_zero: function 53 -/
def impl_zero.f (k : Nat) (a0 : Int) (a1 : Int) (a2 : Int) : Option (Int × Int × Int × List Int) := (impl_filled.f (impl_zero_1.cell) k a0 a1 a2 0).bind fun bt677 => (some (bt677.1, bt677.2.1, bt677.2.2.1, bt677.2.2.2))
theorem impl_zero.mono : ∀ a0 a1 a2 k, LeO (impl_zero.f k a0 a1 a2) (impl_zero.f (k + 1) a0 a1 a2) := by
  intro a0 a1 a2 k
  unfold impl_zero.f
  repeat' first
      | (with_reducible exact impl_filled.mono _ _ _ _ _ _)
      | (with_reducible exact LeO.refl _)
      | (with_reducible exact LeO.none _)
      | (with_reducible refine LeO.ite ?_ ?_)
      | (with_reducible refine LeO.bind ?_ (fun _ => ?_))
      | exact impl_filled.mono _ _ _ _ _ _
      | exact LeO.none _
      | refine LeO.ite ?_ ?_
      | refine LeO.bind ?_ (fun _ => ?_)
set_option maxHeartbeats 8000000 in
set_option maxRecDepth 100000 in
theorem impl_zero.calls (k : Nat) (a0 : Int) (a1 : Int) (a2 : Int) (r1 : Int) (r2 : Int) (r3 : Int) (r4 : List Int) (w : World) (h : impl_zero.f k a0 a1 a2 = some (r1, r2, r3, r4)) :
    Calls Try.prog 53 #[.int .i64 a0, .int .i64 a1, .int .i64 a2] w fun e w' => ∃ v3_ : Value, e = .returned (.agg #[.int .i64 r1, .int .i64 r2, .int .i64 r3, v3_]) ∧ Kd.R (Kd.int .i64) 2 w' w.heap.size (fun _ => True) v3_ r4 ∧ Below w.heap.size w w' := by
  have hu24 := Try.underlying24
  have HB := Aside0.mk (Below.refl w.heap.size w)
  have H : ((impl_filled.f (impl_zero_1.cell) k a0 a1 a2 0).bind fun bt677 => (some (bt677.1, bt677.2.1, bt677.2.2.1, bt677.2.2.2))) = some (r1, r2, r3, r4) := h
  clear h
  replace H := Option.bind_eq_some_iff.mp H
  obtain ⟨⟨t677, t678, t679, t680⟩, A40, H⟩ := H
  replace H : (some (t677, t678, t679, t680)) = some (r1, r2, r3, r4) := H
  have A4 := Aside0.mk A40
  clear A40
  simp only [Option.some.injEq, Prod.mk.injEq] at H
  obtain ⟨rfl, rfl, rfl, rfl⟩ := H
  go_enter Try.func53, Try.ntmps53
  go_wp2_with (first | ((with_reducible refine gate_dst (N := 6) rfl ?_); refine box_event ?hg (N := 6) ?hd (cs := #[.int .i64 0, .int .i64 0, .int .i64 0, .slice none 0 0]) (t := 24) ?hr ?_; (case hd => rfl); (case hg => rfl); (case hr => first | (go_simp; done) | (go_simp; rfl)); intro gb676 hg w5 hbox hb; have n0_ := Aside0.mk (below_step (by repeat (first | (with_reducible first | exact HB.out | apply below_alloc | apply pw_below_drewN | apply below_drew1) | exact HB.out)) hb); have n1_ := Aside0.mk (hbox); have n2_ := Aside0.mk ((by rw [hg]; exact (below_size (by repeat (first | (with_reducible first | exact HB.out | apply below_alloc | apply pw_below_drewN | apply below_drew1) | exact HB.out))) : w.heap.size ≤ gb676)); have n3_ := Aside0.mk ((by rw [hg]; exact (below_size (by repeat (first | (with_reducible first | exact HB.out | apply below_alloc | apply pw_below_drewN | apply below_drew1) | exact HB.out))) : w.heap.size ≤ gb676)); clear HB; have HB := n0_; have BK676 := n1_; have GW676 := n2_; have GE676 := n3_; clear n0_ n1_ n2_ n3_; clear hb hbox hg) | ((with_reducible refine gate_callee (f := 69) rfl ?_); refine goesL_ (some 10) rfl rfl Try.func69 (by kernel_rfl) rfl #[.int .i64 a0, .int .i64 a1, .int .i64 a2, .func (.func 85) #[] #[]] rfl (by (try simp only [List.map_toArray, List.map_cons, List.map_nil]); first | done | rfl | (simp only [List.length_drop, List.length_take]; rfl)) ?_; (refine (impl_filled.calls (impl_zero_1.cell) 85 #[] (enters_of Try.func85 (by kernel_rfl) rfl) k a0 a1 a2 0 t677 t678 t679 t680 _ (impl_zero_1.cells _ ) A4.out).mono ?_); rintro e w6 ⟨v681, rfl, ho0, hb⟩; refine ⟨_, rfl, ?_⟩; have n0_ := Aside0.mk (Kd.R_lower ho0 (below_size (by repeat (first | (with_reducible first | exact HB.out | apply below_alloc | apply pw_below_drewN | apply below_drew1 | refine below_set ?_ GE676.out) | exact HB.out)))); have n1_ := Aside0.mk (blk_below (g := gb676) (o := .cells #[.int .i64 0, .int .i64 0, .int .i64 0, .slice none 0 0] 24 (0, 0)) (by (with_reducible repeat (first | refine blk_drewN ?_ _ | refine blk_drew ?_ | refine blk_alloc ?_ _)); exact BK676.out) hb); have n2_ := Aside0.mk (below_step (by repeat (first | (with_reducible first | exact HB.out | apply below_alloc | apply pw_below_drewN | apply below_drew1 | refine below_set ?_ GE676.out) | exact HB.out)) hb); clear BK676; clear HB; have HO682 := n0_; have BK676 := n1_; have HB := n2_; clear n0_ n1_ n2_; (try clear hb); (try clear hb2); (try clear hk); (try clear hi); (try clear ho0); have hcz7_0 : w6.cell? ⟨gb676, 0, none⟩ = some (.int .i64 0) := (blk_cell BK676.out 0).trans rfl; have hcz7_1 : w6.cell? ⟨gb676, 1, none⟩ = some (.int .i64 0) := (blk_cell BK676.out 1).trans rfl; have hcz7_2 : w6.cell? ⟨gb676, 2, none⟩ = some (.int .i64 0) := (blk_cell BK676.out 2).trans rfl; have hcz7_3 : w6.cell? ⟨gb676, 3, none⟩ = some (.slice none 0 0) := (blk_cell BK676.out 3).trans rfl; have hfz7_0 := blk_frozen BK676.out 0; have hfz7_1 := blk_frozen BK676.out 1; have hfz7_2 := blk_frozen BK676.out 2; have hfz7_3 := blk_frozen BK676.out 3; obtain ⟨Ao8, co8, eo8⟩ := Kd.R_slice HO682.out; subst eo8))
  refine bodyPost_ret (results_cell_row rfl _ _ gb676 24 #[.int .i64 t677, .int .i64 t678, .int .i64 t679, .slice Ao8 t680.length co8] (0, 0) _ rfl (by (with_reducible repeat (first | refine blk_drewN ?_ _ | refine blk_drew ?_ | refine blk_alloc ?_ _)); refine blk_put (cs := #[.int .i64 t677, .int .i64 t678, .int .i64 t679, .slice none 0 0]) ?_ 3 _ rfl; (with_reducible repeat (first | refine blk_drewN ?_ _ | refine blk_drew ?_ | refine blk_alloc ?_ _)); refine blk_put (cs := #[.int .i64 t677, .int .i64 t678, .int .i64 0, .slice none 0 0]) ?_ 2 _ rfl; (with_reducible repeat (first | refine blk_drewN ?_ _ | refine blk_drew ?_ | refine blk_alloc ?_ _)); refine blk_put (cs := #[.int .i64 t677, .int .i64 0, .int .i64 0, .slice none 0 0]) ?_ 1 _ rfl; (with_reducible repeat (first | refine blk_drewN ?_ _ | refine blk_drew ?_ | refine blk_alloc ?_ _)); refine blk_put (cs := #[.int .i64 0, .int .i64 0, .int .i64 0, .slice none 0 0]) ?_ 0 _ rfl; (with_reducible repeat (first | refine blk_drewN ?_ _ | refine blk_drew ?_ | refine blk_alloc ?_ _)); exact BK676.out) Try.underlying24 rfl (by kernel_rfl)) rfl ?_
  exact ⟨_, by first | rfl | (simp [errW_none, errW_some] <;> rfl) | (simp [*, errW_none, errW_some] <;> rfl), by (with_reducible repeat (first | apply Kd.R_alloc | apply Kd.R_drewN | apply Kd.R_drew)); exact Kd.R_mono (Kd.R_far (p := ⟨gb676, 3, none⟩) (Kd.R_far (p := ⟨gb676, 2, none⟩) (Kd.R_far (p := ⟨gb676, 1, none⟩) (Kd.R_far (p := ⟨gb676, 0, none⟩) (Kd.R_types HO682.out BK676.out (by decide)) (fun _ hk => hk.2) (.int .i64 t677)) (fun _ hk => hk.2) (.int .i64 t678)) (fun _ hk => hk.2) (.int .i64 t679)) (fun _ hk => hk.2) (.slice Ao8 t680.length co8)) (fun _ hk => trivial), by repeat (first | (with_reducible first | exact HB.out | apply below_alloc | apply pw_below_drewN | apply below_drew1 | refine below_set ?_ GE676.out) | exact HB.out)⟩

end Go.Proofs.Ytioooobmfcmefaa.F
end

section
namespace Go.Proofs.Ytioooobmfcmefaa.F
open Go.RowKit Go.Proofs.YtioooobmfcmefaaW.PrintWords Go.Proofs.YtioooobmfcmefaaW.PrintLast Go.Proofs.YtioooobmfcmefaaW.PrintMore
attribute [local go_sem] max2_int min2_int max_two min_two max_three min_three max_four min_four   -- for this text's walks alone
set_option linter.unusedVariables false
set_option linter.unusedSimpArgs false

/-! ### impl_isElement: function 75 -/
def impl_isElement.f (a0 : Int) (a1 : Int) : Option (Bool) := (impl_within.f a0 0 (wrap64 (a1 - 1))).bind fun t683 => (some t683)
set_option maxHeartbeats 8000000 in
set_option maxRecDepth 100000 in
theorem impl_isElement.calls (a0 : Int) (a1 : Int) (r : Bool) (w : World) (h : impl_isElement.f a0 a1 = some r) :
    Calls Try.prog 75 #[.int .i64 a0, .int .i64 a1] w fun e w' => e = .returned (.bool r) ∧ Drawn0 w w' := by
  have H : ((impl_within.f a0 0 (wrap64 (a1 - 1))).bind fun t683 => (some t683)) = some r := h
  clear h
  replace H := Option.bind_eq_some_iff.mp H
  obtain ⟨t683, A30, H⟩ := H
  replace H : (some t683) = some r := H
  have A3 := Aside0.mk A30
  clear A30
  obtain rfl := Option.some.inj H
  go_enter Try.func75, Try.ntmps75
  go_wp2_with (first | ((with_reducible refine gate_callee (f := 84) rfl ?_); refine goesL_ (some 8) rfl rfl Try.func84 (by kernel_rfl) rfl #[.int .i64 a0, .int .i64 0, .int .i64 (wrap64 (a1 - 1))] rfl (by (try simp only [List.map_toArray, List.map_cons, List.map_nil]); first | done | rfl | (simp only [List.length_drop, List.length_take]; rfl)) ?_; (with_reducible refine (impl_within.calls a0 0 (wrap64 (a1 - 1)) t683 _ A3.out).mono ?_); rintro e w' ⟨rfl, ⟨nd, rfl⟩⟩; refine ⟨_, rfl, ?_⟩))
  go_ret
  exact ⟨by first | rfl | (simp; done) | (simp [*]; done), by repeat (first | exact Drawn0.refl _ | apply Drawn0.step)⟩

end Go.Proofs.Ytioooobmfcmefaa.F
end

section
namespace Go.Proofs.Ytioooobmfcmefaa.F
open Go.RowKit Go.Proofs.YtioooobmfcmefaaW.PrintWords Go.Proofs.YtioooobmfcmefaaW.PrintLast Go.Proofs.YtioooobmfcmefaaW.PrintMore
attribute [local go_sem] max2_int min2_int max_two min_two max_three min_three max_four min_four   -- for this text's walks alone
set_option linter.unusedVariables false
set_option linter.unusedSimpArgs false

/-! ### impl_ScaleMatrix: function 41 -/
def impl_ScaleMatrix.f (k : Nat) (a0_0 : Int) (a0_1 : Int) (a0_2 : Int) (l0_3 : List Int) (a1 : Int) : Option (Int × Int × Int × List Int × Int) := (impl_ValidMatrix.f k a0_0 a0_1 a0_2 l0_3).bind fun t686 => (if t686 = true then ((impl_isElement.f a1 a0_0).bind fun t687 => (if t687 = true then ((impl_zero.f k a0_0 a0_1 a0_2).bind fun bt688 => ((impl_sum.f k bt688.1 bt688.2.1 bt688.2.2.1 bt688.2.2.2 a0_0 a0_1 a0_2 l0_3 a1).bind fun bt694 => (some (bt694.1, bt694.2.1, bt694.2.2.1, bt694.2.2.2, 0)))) else (some (0, 0, 0, ([] : List Int), 2)))) else (some (0, 0, 0, ([] : List Int), 1)))
theorem impl_ScaleMatrix.mono : ∀ a0 a1 a2 a3 a4 k, LeO (impl_ScaleMatrix.f k a0 a1 a2 a3 a4) (impl_ScaleMatrix.f (k + 1) a0 a1 a2 a3 a4) := by
  intro a0 a1 a2 a3 a4 k
  unfold impl_ScaleMatrix.f
  repeat' first
      | (with_reducible exact impl_ValidMatrix.mono _ _ _ _ _)
      | (with_reducible exact impl_sum.mono _ _ _ _ _ _ _ _ _ _)
      | (with_reducible exact impl_zero.mono _ _ _ _)
      | (with_reducible exact LeO.refl _)
      | (with_reducible exact LeO.none _)
      | (with_reducible refine LeO.ite ?_ ?_)
      | (with_reducible refine LeO.bind ?_ (fun _ => ?_))
      | exact impl_ValidMatrix.mono _ _ _ _ _
      | exact impl_sum.mono _ _ _ _ _ _ _ _ _ _
      | exact impl_zero.mono _ _ _ _
      | exact LeO.none _
      | refine LeO.ite ?_ ?_
      | refine LeO.bind ?_ (fun _ => ?_)
def impl_ScaleMatrix.T5 : Bool × List (List Nat × List Nat) := (true, [([], []), ([0], [0]), ([], []), ([2], [2]), ([], []), ([4], [4]), ([1, 3, 5], [1, 3, 5]), ([], []), ([], []), ([6, 7, 8, 6], [6, 7, 8]), ([9, 9, 0, 1, 2, 3, 4, 5, 6, 7, 8, 9], [9]), ([10, 0, 1, 2, 3, 4, 5, 6, 7, 8, 9, 10], [])])
def impl_ScaleMatrix.B5 : List Nat := [0, 1, 0, 4, 0, 16, 63, 0, 0, 511, 1023, 2047]
theorem impl_ScaleMatrix.tab5 : rtab .any (opsOf Try.f41 5) = impl_ScaleMatrix.T5 := by kernel_rfl
theorem impl_ScaleMatrix.bits5 : waitsOk impl_ScaleMatrix.T5.2 impl_ScaleMatrix.B5 = true := by kernel_rfl
theorem Z41.bb {w0 w w1 : World} {g : Nat} {o : Obj} (_B : Aside0 (w0.heap[g]? = some o)) (h : w.heap[g]? = some o) (hb : Below w.heap.size w w1) : w1.heap[g]? = some o := blk_below h hb
theorem Z41.bl {w0 w : World} {g : Nat} {o : Obj} (_B : Aside0 (w0.heap[g]? = some o)) (h : w.heap[g]? = some o) : g < w.heap.size := blk_lt h
theorem Z41.z11 {P : Prop} (h : P := by first | exact Kd.R_nil _ _ _ _ _ | exact Kd.N_nil _ _ _ _ _ | exact Kd.V_nil _ _ _ _ _ | exact Kd.Q_nil _ _ _ _ _ | exact Kd.S_nil _ _ _ _ _) : P := h
theorem Z41.z10 {P : Prop} (h : P := by first | rfl | (simp [errW_none, errW_some] <;> rfl) | (simp [*, errW_none, errW_some] <;> rfl)) : P := h
theorem Z41.z9 {P : Prop} (h : P := by exact ⟨(blk_cell BK684.out 0).trans rfl, (blk_cell BK684.out 1).trans rfl, (blk_cell BK684.out 2).trans rfl, (blk_cell BK684.out 3).trans rfl⟩) : P := h
theorem Z41.z8 {P : Prop} (h : P := by repeat (first | exact (Kd.C_below HR0_3.out HB.out) | (with_reducible refine Kd.C_alloc ?_ _) | (with_reducible refine Kd.C_drewN ?_ _) | (with_reducible refine Kd.C_drew ?_))) : P := h
theorem Z41.z7 {P : Prop} (h : P := by (with_reducible repeat (first | refine blk_drewN ?_ _ | refine blk_drew ?_ | refine blk_alloc ?_ _)); exact BK685.out) : P := h
theorem Z41.z6 {P : Prop} (h : P := by simp only [Act.put, List.setIfInBounds_toArray, List.set_cons_zero, List.set_cons_succ, i64_w, i32_w]; rfl) : P := h
theorem Z41.z5 {P : Prop} (h : P := by (try simp only [List.map_toArray, List.map_cons, List.map_nil]); first | done | rfl | (simp only [List.length_drop, List.length_take]; rfl)) : P := h
theorem Z41.z4 {P : Prop} (h : P := by (with_reducible repeat (first | refine blk_drewN ?_ _ | refine blk_drew ?_ | refine blk_alloc ?_ _)); refine blk_put (cs := #[.int .i64 0, .int .i64 0, .int .i64 0, .slice none 0 0]) ?_ 3 _ rfl; (with_reducible repeat (first | refine blk_drewN ?_ _ | refine blk_drew ?_ | refine blk_alloc ?_ _)); refine blk_put (cs := #[.int .i64 0, .int .i64 0, .int .i64 0, .slice none 0 0]) ?_ 2 _ rfl; (with_reducible repeat (first | refine blk_drewN ?_ _ | refine blk_drew ?_ | refine blk_alloc ?_ _)); refine blk_put (cs := #[.int .i64 0, .int .i64 0, .int .i64 0, .slice none 0 0]) ?_ 1 _ rfl; (with_reducible repeat (first | refine blk_drewN ?_ _ | refine blk_drew ?_ | refine blk_alloc ?_ _)); refine blk_put (cs := #[.int .i64 0, .int .i64 0, .int .i64 0, .slice none 0 0]) ?_ 0 _ rfl; (with_reducible repeat (first | refine blk_drewN ?_ _ | refine blk_drew ?_ | refine blk_alloc ?_ _)); exact BK685.out) : P := h
theorem Z41.z3 {P : Prop} (h : P := by repeat (first | (with_reducible first | exact HB.out | apply below_alloc | apply pw_below_drewN | apply below_drew1) | exact HB.out)) : P := h
theorem Z41.z2 {P : Prop} (h : P := by repeat (first | (with_reducible first | exact HB.out | apply below_alloc | apply pw_below_drewN | apply below_drew1 | refine below_set ?_ GE684.out) | exact HB.out)) : P := h
theorem Z41.z1 {P : Prop} (h : P := by (with_reducible repeat (first | refine blk_drewN ?_ _ | refine blk_drew ?_ | refine blk_alloc ?_ _)); exact BK684.out) : P := h
theorem Z41.z0 {P : Prop} (h : P := by repeat (first | (with_reducible first | exact HB.out | apply below_alloc | apply pw_below_drewN | apply below_drew1 | refine below_set ?_ GE684.out | refine below_set ?_ GE685.out) | exact HB.out)) : P := h
set_option maxHeartbeats 8000000 in
set_option maxRecDepth 100000 in
theorem impl_ScaleMatrix.calls (k : Nat) (a0_0 : Int) (a0_1 : Int) (a0_2 : Int) (A0_3 : Option Addr) (c0_3 : Nat) (l0_3 : List Int) (a1 : Int) (r1 : Int) (r2 : Int) (r3 : Int) (r4 : List Int) (r5 : Int) (w : World) (hr0_3 : Kd.C (Kd.int .i64) w A0_3 l0_3.length l0_3) (hc0_3 : l0_3.length ≤ c0_3) (h : impl_ScaleMatrix.f k a0_0 a0_1 a0_2 l0_3 a1 = some (r1, r2, r3, r4, r5)) :
  Calls Try.prog 41 #[.agg #[.int .i64 a0_0, .int .i64 a0_1, .int .i64 a0_2, .slice A0_3 l0_3.length c0_3], .int .i64 a1] w fun e w' => ∃ v3_ : Value, e = .returned (.tuple #[.agg #[.int .i64 r1, .int .i64 r2, .int .i64 r3, v3_], .int .i64 r5]) ∧ Kd.R (Kd.int .i64) 2 w' w.heap.size (fun _ => True) v3_ r4 ∧ Below w.heap.size w w' := by
 have hu24 := Try.underlying24
 have HR0_3 := Aside0.mk hr0_3
 have HC0_3 := Aside0.mk hc0_3
 clear hr0_3 hc0_3
 have HB := Aside0.mk (Below.refl w.heap.size w)
 have H : ((impl_ValidMatrix.f k a0_0 a0_1 a0_2 l0_3).bind fun t686 => (if t686 = true then ((impl_isElement.f a1 a0_0).bind fun t687 => (if t687 = true then ((impl_zero.f k a0_0 a0_1 a0_2).bind fun bt688 => ((impl_sum.f k bt688.1 bt688.2.1 bt688.2.2.1 bt688.2.2.2 a0_0 a0_1 a0_2 l0_3 a1).bind fun bt694 => (some (bt694.1, bt694.2.1, bt694.2.2.1, bt694.2.2.2, 0)))) else (some (0, 0, 0, ([] : List Int), 2)))) else (some (0, 0, 0, ([] : List Int), 1)))) = some (r1, r2, r3, r4, r5) := h
 clear h
 replace H := Option.bind_eq_some_iff.mp H
 obtain ⟨t686, A30, H⟩ := H
 replace H : (if t686 = true then ((impl_isElement.f a1 a0_0).bind fun t687 => (if t687 = true then ((impl_zero.f k a0_0 a0_1 a0_2).bind fun bt688 => ((impl_sum.f k bt688.1 bt688.2.1 bt688.2.2.1 bt688.2.2.2 a0_0 a0_1 a0_2 l0_3 a1).bind fun bt694 => (some (bt694.1, bt694.2.1, bt694.2.2.1, bt694.2.2.2, 0)))) else (some (0, 0, 0, ([] : List Int), 2)))) else (some (0, 0, 0, ([] : List Int), 1))) = some (r1, r2, r3, r4, r5) := H
 have A3 := Aside0.mk A30
 clear A30
 by_cases c4 : t686 = true
 ·subst c4
  have H1 : ((impl_isElement.f a1 a0_0).bind fun t687 => (if t687 = true then ((impl_zero.f k a0_0 a0_1 a0_2).bind fun bt688 => ((impl_sum.f k bt688.1 bt688.2.1 bt688.2.2.1 bt688.2.2.2 a0_0 a0_1 a0_2 l0_3 a1).bind fun bt694 => (some (bt694.1, bt694.2.1, bt694.2.2.1, bt694.2.2.2, 0)))) else (some (0, 0, 0, ([] : List Int), 2)))) = some (r1, r2, r3, r4, r5) := by rw [if_pos rfl] at H; exact H
  clear H
  have H := H1
  clear H1
  replace H := Option.bind_eq_some_iff.mp H
  obtain ⟨t687, A50, H⟩ := H
  replace H : (if t687 = true then ((impl_zero.f k a0_0 a0_1 a0_2).bind fun bt688 => ((impl_sum.f k bt688.1 bt688.2.1 bt688.2.2.1 bt688.2.2.2 a0_0 a0_1 a0_2 l0_3 a1).bind fun bt694 => (some (bt694.1, bt694.2.1, bt694.2.2.1, bt694.2.2.2, 0)))) else (some (0, 0, 0, ([] : List Int), 2))) = some (r1, r2, r3, r4, r5) := H
  have A5 := Aside0.mk A50
  clear A50
  by_cases c6 : t687 = true
  ·subst c6
   have H1 : ((impl_zero.f k a0_0 a0_1 a0_2).bind fun bt688 => ((impl_sum.f k bt688.1 bt688.2.1 bt688.2.2.1 bt688.2.2.2 a0_0 a0_1 a0_2 l0_3 a1).bind fun bt694 => (some (bt694.1, bt694.2.1, bt694.2.2.1, bt694.2.2.2, 0)))) = some (r1, r2, r3, r4, r5) := by rw [if_pos rfl] at H; exact H
   clear H
   have H := H1
   clear H1
   replace H := Option.bind_eq_some_iff.mp H
   obtain ⟨⟨t688, t689, t690, t691⟩, A70, H⟩ := H
   replace H : ((impl_sum.f k t688 t689 t690 t691 a0_0 a0_1 a0_2 l0_3 a1).bind fun bt694 => (some (bt694.1, bt694.2.1, bt694.2.2.1, bt694.2.2.2, 0))) = some (r1, r2, r3, r4, r5) := H
   have A7 := Aside0.mk A70
   clear A70
   replace H := Option.bind_eq_some_iff.mp H
   obtain ⟨⟨t694, t695, t696, t697⟩, A80, H⟩ := H
   replace H : (some (t694, t695, t696, t697, 0)) = some (r1, r2, r3, r4, r5) := H
   have A8 := Aside0.mk A80
   clear A80
   simp only [Option.some.injEq, Prod.mk.injEq] at H
   obtain ⟨rfl, rfl, rfl, rfl, rfl⟩ := H
   go_enter Try.func41, Try.ntmps41
   try go_wp2_with (first | ((with_reducible refine gate_dst (N := 2) rfl ?_); refine box_event ?hg (N := 2) ?hd (cs := #[.int .i64 a0_0, .int .i64 a0_1, .int .i64 a0_2, .slice A0_3 l0_3.length c0_3]) (t := 24) ?hr ?_; (case hd => rfl); (case hg => rfl); (case hr => first | (go_simp; done) | (go_simp; rfl)); intro gb684 hg w9 hbox hb; have n0_ := Aside0.mk (below_step Z41.z3 hb); have n1_ := Aside0.mk (hbox); have n2_ := Aside0.mk (show w.heap.size ≤ gb684 from (by rw [hg]; exact (below_size Z41.z3))); have n3_ := Aside0.mk (show w.heap.size ≤ gb684 from (by rw [hg]; exact (below_size Z41.z3))); clear HB; have HB := n0_; have BK684 := n1_; have GW684 := n2_; have GE684 := n3_; clear n0_ n1_ n2_ n3_; clear hb hbox hg) | ((with_reducible refine gate_dst (N := 4) rfl ?_); refine box_event ?hg (N := 4) ?hd (cs := #[.int .i64 0, .int .i64 0, .int .i64 0, .slice none 0 0]) (t := 24) ?hr ?_; (case hd => rfl); (case hg => rfl); (case hr => first | (go_simp; done) | (go_simp; rfl)); intro gb685 hg w10 hbox hb; have n0_ := Aside0.mk (Z41.bb BK684 Z41.z1 hb); have n1_ := Aside0.mk (below_step Z41.z2 hb); have n2_ := Aside0.mk (hbox); have n3_ := Aside0.mk (show w.heap.size ≤ gb685 from (by rw [hg]; exact (below_size Z41.z2))); have n4_ := Aside0.mk (show w.heap.size ≤ gb685 from (by rw [hg]; exact (below_size Z41.z2))); have n5_ := Aside0.mk (show gb684 ≠ gb685 from (by rw [hg]; exact Nat.ne_of_lt (Z41.bl BK684 Z41.z1))); have n6_ := Aside0.mk (show gb685 ≠ gb684 from (by rw [hg]; exact Nat.ne_of_gt (Z41.bl BK684 Z41.z1))); clear BK684 HB; have BK684 := n0_; have HB := n1_; have BK685 := n2_; have GW685 := n3_; have GE685 := n4_; have NB684_685 := n5_; have NB685_684 := n6_; clear n0_ n1_ n2_ n3_ n4_ n5_ n6_; clear hb hbox hg; have hnb11 := NB684_685.out; have hnc11 := NB685_684.out; have hcz12_0 : w10.cell? ⟨gb684, 0, none⟩ = some (.int .i64 a0_0) := (blk_cell BK684.out 0).trans rfl; have hcz12_1 : w10.cell? ⟨gb684, 1, none⟩ = some (.int .i64 a0_1) := (blk_cell BK684.out 1).trans rfl; have hcz12_2 : w10.cell? ⟨gb684, 2, none⟩ = some (.int .i64 a0_2) := (blk_cell BK684.out 2).trans rfl; have hcz12_3 : w10.cell? ⟨gb684, 3, none⟩ = some (.slice A0_3 l0_3.length c0_3) := (blk_cell BK684.out 3).trans rfl; have hfz12_0 := blk_frozen BK684.out 0; have hfz12_1 := blk_frozen BK684.out 1; have hfz12_2 := blk_frozen BK684.out 2; have hfz12_3 := blk_frozen BK684.out 3) | ((with_reducible refine gate_callee (f := 25) rfl ?_); refine goesL_ (some 7) rfl rfl Try.func25 (by kernel_rfl) rfl #[.agg #[.int .i64 a0_0, .int .i64 a0_1, .int .i64 a0_2, .slice A0_3 l0_3.length c0_3]] rfl Z41.z5 ?_; (with_reducible refine (impl_ValidMatrix.calls k a0_0 a0_1 a0_2 _ _ l0_3 true _ ?side1 ?side2 A3.out).mono ?_); (case side1 => exact Z41.z8); (case side2 => exact HC0_3.out); rintro e w13 ⟨rfl, hb⟩; refine ⟨_, rfl, ?_⟩; have n0_ := Aside0.mk (Z41.bb BK684 Z41.z1 hb); have n1_ := Aside0.mk (Z41.bb BK685 Z41.z7 hb); have n2_ := Aside0.mk (below_step Z41.z0 hb); clear BK684 BK685 HB; have BK684 := n0_; have BK685 := n1_; have HB := n2_; clear n0_ n1_ n2_; (try clear hb); (try clear hb2); (try clear hk); (try clear hi); have hcz14_0 : w13.cell? ⟨gb684, 0, none⟩ = some (.int .i64 a0_0) := (blk_cell BK684.out 0).trans rfl; have hcz14_1 : w13.cell? ⟨gb684, 1, none⟩ = some (.int .i64 a0_1) := (blk_cell BK684.out 1).trans rfl; have hcz14_2 : w13.cell? ⟨gb684, 2, none⟩ = some (.int .i64 a0_2) := (blk_cell BK684.out 2).trans rfl; have hcz14_3 : w13.cell? ⟨gb684, 3, none⟩ = some (.slice A0_3 l0_3.length c0_3) := (blk_cell BK684.out 3).trans rfl; have hfz14_0 := blk_frozen BK684.out 0; have hfz14_1 := blk_frozen BK684.out 1; have hfz14_2 := blk_frozen BK684.out 2; have hfz14_3 := blk_frozen BK684.out 3) | ((with_reducible refine gate_callee (f := 75) rfl ?_); refine goesL_ (some 13) rfl rfl Try.func75 (by kernel_rfl) rfl #[.int .i64 a1, .int .i64 a0_0] rfl Z41.z5 ?_; (with_reducible refine (impl_isElement.calls a1 a0_0 true _ A5.out).mono ?_); rintro e w' ⟨rfl, ⟨nd, rfl⟩⟩; refine ⟨_, rfl, ?_⟩; (try (rw [drewN_self w13]; generalize hq_ : World.drewN w13 _ = w13; have n0_ : Aside0 (w13.heap[gb684]? = some (.cells #[.int .i64 a0_0, .int .i64 a0_1, .int .i64 a0_2, .slice A0_3 l0_3.length c0_3] 24 (0, 0))) := ⟨(by rw [← hq_]; exact Z41.z1)⟩; have n1_ : Aside0 (w13.heap[gb685]? = some (.cells #[.int .i64 0, .int .i64 0, .int .i64 0, .slice none 0 0] 24 (0, 0))) := ⟨(by rw [← hq_]; exact Z41.z7)⟩; have n2_ : Aside0 (Below w.heap.size w w13) := ⟨(by rw [← hq_]; exact Z41.z0)⟩; clear BK684 BK685 HB hq_; have BK684 := n0_; have BK685 := n1_; have HB := n2_; clear n0_ n1_ n2_))))
   have n0_ := Aside0.mk (blk_drew BK684.out)
   have n1_ := Aside0.mk (blk_drew BK685.out)
   have n2_ := Aside0.mk (below_drew1 HB.out)
   clear BK684 BK685 HB
   have BK684 := n0_
   have BK685 := n1_
   have HB := n2_
   clear n0_ n1_ n2_
   refine start_ (n := 12) (S := fun w' => w'.cell? ⟨gb684, 0, none⟩ = some (.int .i64 a0_0) ∧ w'.cell? ⟨gb684, 1, none⟩ = some (.int .i64 a0_1) ∧ w'.cell? ⟨gb684, 2, none⟩ = some (.int .i64 a0_2) ∧ w'.cell? ⟨gb684, 3, none⟩ = some (.slice A0_3 l0_3.length c0_3)) (ds := []) #[false, false, false, false, false, false, false, false, false, false, false, false] (by kernel_rfl) rfl rfl Z41.z9 (fun hHeld => ?_); refine with_tabW impl_ScaleMatrix.tab5 impl_ScaleMatrix.bits5 (fun HT_ HW_ => ?_)
   generalize w13.drew = w15 at BK684 BK685 HB hHeld ⊢
   refine pure_ (i := 0) (N := some 16) (v := ?_) (a' := ?_) #[true, false, false, false, false, false, false, false, false, false, false, false] rfl rfl (any_of HT_.out (by kernel_rfl)) (fun _ _ _ h => h) (Or.inl ⟨(by rfl), ?_⟩) ?_ ?_
   rotate_left
   ·intro w'
    go_simp
    with_reducible rfl
   rotate_left
   ·exact Z41.z6
   refine pure_ (i := 2) (N := some 18) (v := ?_) (a' := ?_) #[true, false, true, false, false, false, false, false, false, false, false, false] rfl rfl (any_of HT_.out (by kernel_rfl)) (fun _ _ _ h => h) (Or.inl ⟨(by rfl), ?_⟩) ?_ ?_
   rotate_left
   ·intro w'
    go_simp
    with_reducible rfl
   rotate_left
   ·exact Z41.z6
   refine pure_ (i := 4) (N := some 20) (v := ?_) (a' := ?_) #[true, false, true, false, true, false, false, false, false, false, false, false] rfl rfl (any_of HT_.out (by kernel_rfl)) (fun _ _ _ h => h) (Or.inl ⟨(by rfl), ?_⟩) ?_ ?_
   rotate_left
   ·intro w'
    go_simp
    with_reducible rfl
   rotate_left
   ·exact Z41.z6
   refine pure_ (i := 8) (N := some 24) (v := ?_) (a' := ?_) #[true, false, true, false, true, false, false, false, true, false, false, false] rfl rfl (any_of HT_.out (by kernel_rfl)) (fun _ _ _ h => h) (Or.inl ⟨(by rfl), ?_⟩) ?_ ?_
   rotate_left
   ·intro w'
    go_simp
    with_reducible rfl
   rotate_left
   ·exact Z41.z6
   refine take_ (i := 1) (N := some 17) (v := ?_) (a' := ?_) #[true, true, true, false, true, false, false, false, true, false, false, false] rfl rfl (take_ofW HT_.out HW_.out (by kernel_rfl)) (fun _ _ _ h => h) (Or.inl ⟨(by rfl), ?_⟩) hHeld ?_ ?_
   rotate_left
   ·rintro w' ⟨s0, s1, s2, s3⟩
    go_simp
    with_reducible rfl
   rotate_left
   ·exact Z41.z6
   refine take_ (i := 3) (N := some 19) (v := ?_) (a' := ?_) #[true, true, true, true, true, false, false, false, true, false, false, false] rfl rfl (take_ofW HT_.out HW_.out (by kernel_rfl)) (fun _ _ _ h => h) (Or.inl ⟨(by rfl), ?_⟩) hHeld ?_ ?_
   rotate_left
   ·rintro w' ⟨s0, s1, s2, s3⟩
    go_simp
    with_reducible rfl
   rotate_left
   ·exact Z41.z6
   refine take_ (i := 5) (N := some 21) (v := ?_) (a' := ?_) #[true, true, true, true, true, true, false, false, true, false, false, false] rfl rfl (take_ofW HT_.out HW_.out (by kernel_rfl)) (fun _ _ _ h => h) (Or.inl ⟨(by rfl), ?_⟩) hHeld ?_ ?_
   rotate_left
   ·rintro w' ⟨s0, s1, s2, s3⟩
    go_simp
    with_reducible rfl
   rotate_left
   ·exact Z41.z6
   refine take_ (i := 7) (N := some 23) (v := ?_) (a' := ?_) #[true, true, true, true, true, true, false, true, true, false, false, false] rfl rfl (take_ofW HT_.out HW_.out (by kernel_rfl)) (fun _ _ _ h => h) (Or.inl ⟨(by rfl), ?_⟩) hHeld ?_ ?_
   rotate_left
   ·rintro w' ⟨s0, s1, s2, s3⟩
    go_simp
    with_reducible rfl
   rotate_left
   ·exact Z41.z6
   refine one_ (i := 6) (N := some 22) #[true, true, true, true, true, true, true, true, true, false, false, false] rfl rfl (one_of HT_.out (by kernel_rfl)) (by decide) (fun K hK => ?_)
   refine goes_ Try.func53 (by kernel_rfl) rfl #[.int .i64 a0_0, .int .i64 a0_1, .int .i64 a0_2] (by rfl) rfl rfl Z41.z5 ?_
   with_reducible refine (impl_zero.calls k a0_0 a0_1 a0_2 t688 t689 t690 t691 _ A7.out).mono ?_
   rintro e w16 ⟨v692, rfl, ho0, hb⟩
   refine ⟨_, rfl, ?_⟩
   have n0_ := Aside0.mk (Kd.R_lower ho0 (below_size Z41.z0))
   have n1_ := Aside0.mk (Z41.bb BK684 Z41.z1 hb)
   have n2_ := Aside0.mk (Z41.bb BK685 Z41.z7 hb)
   have n3_ := Aside0.mk (below_step Z41.z0 hb)
   clear BK684 BK685 HB
   have HO693 := n0_
   have BK684 := n1_
   have BK685 := n2_
   have HB := n3_
   clear n0_ n1_ n2_ n3_
   (try clear hb)
   (try clear hb2)
   (try clear hk)
   (try clear hi)
   (try clear ho0)
   obtain ⟨Ao17, co17, eo17⟩ := Kd.R_slice HO693.out
   (first | subst eo17 | (injection eo17 with f1_ f2_ f3_; have f4_ := f1_.symm; have f5_ := f3_.symm; clear f1_ f2_ f3_; subst f4_; subst f5_))
   refine hK.out _ _ Z41.z9 (fun hHeld => ?_)
   clear hK K
   refine norm_ (a' := ?_) ?_ ?_
   rotate_left
   ·show Act.put _ (some 22) _ = _
    simp only [Act.put, List.setIfInBounds_toArray, List.set_cons_zero, List.set_cons_succ, i64_w, i32_w]
    rfl
   refine one_ (i := 9) (N := some 25) #[true, true, true, true, true, true, true, true, true, true, false, false] rfl rfl (one_of HT_.out (by kernel_rfl)) (by decide) (fun K hK => ?_)
   refine goes_ Try.func67 (by kernel_rfl) rfl #[.agg #[.int .i64 t688, .int .i64 t689, .int .i64 t690, .slice Ao17 t691.length co17], .agg #[.int .i64 a0_0, .int .i64 a0_1, .int .i64 a0_2, .slice A0_3 l0_3.length c0_3], .int .i64 a1] (by rfl) rfl rfl Z41.z5 ?_
   with_reducible refine (impl_sum.calls k t688 t689 t690 _ _ t691 a0_0 a0_1 a0_2 _ _ l0_3 a1 t694 t695 t696 t697 _ ?side1 ?side2 ?side3 ?side4 A8.out).mono ?_
   (case side1 => exact (by repeat (first | exact (Kd.R_reads' HO693.out).2.2 | (with_reducible refine Kd.C_alloc ?_ _) | (with_reducible refine Kd.C_drewN ?_ _) | (with_reducible refine Kd.C_drew ?_))))
   (case side2 => exact (Kd.R_reads' HO693.out).2.1)
   (case side3 => exact Z41.z8)
   (case side4 => exact HC0_3.out)
   rintro e w18 ⟨v698, rfl, ho0, hb⟩
   refine ⟨_, rfl, ?_⟩
   have n0_ := Aside0.mk (Kd.R_elder' (by (with_reducible repeat (first | apply Kd.R_alloc | apply Kd.R_drewN | apply Kd.R_drew)); exact HO693.out) (Kd.R_base ho0) hb)
   have n1_ := Aside0.mk (Kd.R_lower (Kd.R_new' ho0 (Kd.R_lt (by (with_reducible repeat (first | apply Kd.R_alloc | apply Kd.R_drewN | apply Kd.R_drew)); exact HO693.out))) (below_size Z41.z0))
   have n2_ := Aside0.mk (Z41.bb BK684 Z41.z1 hb)
   have n3_ := Aside0.mk (Z41.bb BK685 Z41.z7 hb)
   have n4_ := Aside0.mk (below_step Z41.z0 hb)
   clear HO693 BK684 BK685 HB
   have HO693 := n0_
   have HO699 := n1_
   have BK684 := n2_
   have BK685 := n3_
   have HB := n4_
   clear n0_ n1_ n2_ n3_ n4_
   (try clear hb)
   (try clear hb2)
   (try clear hk)
   (try clear hi)
   (try clear ho0)
   obtain ⟨Ao22, co22, eo22⟩ := Kd.R_slice HO699.out
   (first | subst eo22 | (injection eo22 with f1_ f2_ f3_; have f4_ := f1_.symm; have f5_ := f3_.symm; clear f1_ f2_ f3_; subst f4_; subst f5_))
   refine hK.out _ _ Z41.z9 (fun hHeld => ?_)
   clear hK K
   refine norm_ (a' := ?_) ?_ ?_
   rotate_left
   ·show Act.put _ (some 25) _ = _
    simp only [Act.put, List.setIfInBounds_toArray, List.set_cons_zero, List.set_cons_succ, i64_w, i32_w]
    rfl
   refine one_ (i := 10) (N := none) #[true, true, true, true, true, true, true, true, true, true, true, false] rfl rfl (one_of HT_.out (by kernel_rfl)) (by decide) (fun K hK => ?_)
   have hs19 : w18.cell? ⟨gb685, 0, none⟩ = some (.int .i64 0) := (blk_cell BK685.out 0).trans rfl
   have hfs19 := blk_frozen BK685.out 0
   have hns19_0 := NB684_685.out
   have hms19_0 := NB685_684.out
   have hs20 : w18.cell? ⟨gb685, 1, none⟩ = some (.int .i64 0) := (blk_cell BK685.out 1).trans rfl
   have hfs20 := blk_frozen BK685.out 1
   have hns20_0 := NB684_685.out
   have hms20_0 := NB685_684.out
   have hs21 : w18.cell? ⟨gb685, 2, none⟩ = some (.int .i64 0) := (blk_cell BK685.out 2).trans rfl
   have hfs21 := blk_frozen BK685.out 2
   have hns21_0 := NB684_685.out
   have hms21_0 := NB685_684.out
   have hs23 : w18.cell? ⟨gb685, 3, none⟩ = some (.slice none 0 0) := (blk_cell BK685.out 3).trans rfl
   have hfs23 := blk_frozen BK685.out 3
   have hns23_0 := NB684_685.out
   have hms23_0 := NB685_684.out
   refine skip_ (w1 := ?_) (by rfl) rfl ?_ ?_
   rotate_left
   ·go_simp
    rfl
   refine hK.out _ _ ⟨((cell_far (p := ⟨gb685, _, none⟩) NB684_685.out _).trans (((cell_far (p := ⟨gb685, _, none⟩) NB684_685.out _).trans (((cell_far (p := ⟨gb685, _, none⟩) NB684_685.out _).trans (((cell_far (p := ⟨gb685, _, none⟩) NB684_685.out _).trans (hHeld.1)))))))), ((cell_far (p := ⟨gb685, _, none⟩) NB684_685.out _).trans (((cell_far (p := ⟨gb685, _, none⟩) NB684_685.out _).trans (((cell_far (p := ⟨gb685, _, none⟩) NB684_685.out _).trans (((cell_far (p := ⟨gb685, _, none⟩) NB684_685.out _).trans (hHeld.2.1)))))))), ((cell_far (p := ⟨gb685, _, none⟩) NB684_685.out _).trans (((cell_far (p := ⟨gb685, _, none⟩) NB684_685.out _).trans (((cell_far (p := ⟨gb685, _, none⟩) NB684_685.out _).trans (((cell_far (p := ⟨gb685, _, none⟩) NB684_685.out _).trans (hHeld.2.2.1)))))))), ((cell_far (p := ⟨gb685, _, none⟩) NB684_685.out _).trans (((cell_far (p := ⟨gb685, _, none⟩) NB684_685.out _).trans (((cell_far (p := ⟨gb685, _, none⟩) NB684_685.out _).trans (((cell_far (p := ⟨gb685, _, none⟩) NB684_685.out _).trans (hHeld.2.2.2))))))))⟩ (fun hHeld => ?_)
   clear hK K
   refine pure_ (i := 11) (N := some 5) (v := ?_) (a' := ?_) #[true, true, true, true, true, true, true, true, true, true, true, true] rfl rfl (any_of HT_.out (by kernel_rfl)) (fun _ _ _ h => h) (Or.inl ⟨(by rfl), ?_⟩) ?_ ?_
   rotate_left
   ·intro w'
    go_simp
    with_reducible rfl
   rotate_left
   ·exact Z41.z6
   refine done_ (done_of HT_.out (by kernel_rfl)) ?_
   try go_wp2
   refine bodyPost_ret (results_ct rfl _ _ gb685 24 #[.int .i64 t694, .int .i64 t695, .int .i64 t696, .slice Ao22 t697.length co22] (0, 0) _ rfl (by (with_reducible repeat (first | refine blk_drewN ?_ _ | refine blk_drew ?_ | refine blk_alloc ?_ _)); refine blk_put (cs := #[.int .i64 t694, .int .i64 t695, .int .i64 t696, .slice none 0 0]) ?_ 3 _ rfl; (with_reducible repeat (first | refine blk_drewN ?_ _ | refine blk_drew ?_ | refine blk_alloc ?_ _)); refine blk_put (cs := #[.int .i64 t694, .int .i64 t695, .int .i64 0, .slice none 0 0]) ?_ 2 _ rfl; (with_reducible repeat (first | refine blk_drewN ?_ _ | refine blk_drew ?_ | refine blk_alloc ?_ _)); refine blk_put (cs := #[.int .i64 t694, .int .i64 0, .int .i64 0, .slice none 0 0]) ?_ 1 _ rfl; (with_reducible repeat (first | refine blk_drewN ?_ _ | refine blk_drew ?_ | refine blk_alloc ?_ _)); refine blk_put (cs := #[.int .i64 0, .int .i64 0, .int .i64 0, .slice none 0 0]) ?_ 0 _ rfl; (with_reducible repeat (first | refine blk_drewN ?_ _ | refine blk_drew ?_ | refine blk_alloc ?_ _)); exact BK685.out) Try.underlying24 rfl (by kernel_rfl)) rfl ?_
   exact ⟨_, Z41.z10, (by (with_reducible repeat (first | apply Kd.R_alloc | apply Kd.R_drewN | apply Kd.R_drew)); exact Kd.R_mono (Kd.R_far (p := ⟨gb685, 3, none⟩) (Kd.R_far (p := ⟨gb685, 2, none⟩) (Kd.R_far (p := ⟨gb685, 1, none⟩) (Kd.R_far (p := ⟨gb685, 0, none⟩) (Kd.R_types HO699.out BK685.out (by decide)) (fun _ hk => hk.2) (.int .i64 t694)) (fun _ hk => hk.2) (.int .i64 t695)) (fun _ hk => hk.2) (.int .i64 t696)) (fun _ hk => hk.2) (.slice Ao22 t697.length co22)) (fun _ hk => trivial)), Z41.z0⟩
  replace c6 := Bool.eq_false_iff.mpr c6
  subst c6
  have H1 : (some (0, 0, 0, ([] : List Int), 2)) = some (r1, r2, r3, r4, r5) := by rw [if_neg (show ¬ (false = true) by decide)] at H; exact H
  clear H
  have H := H1
  clear H1
  simp only [Option.some.injEq, Prod.mk.injEq] at H
  obtain ⟨rfl, rfl, rfl, rfl, rfl⟩ := H
  go_enter Try.func41, Try.ntmps41
  go_wp2_with (first | ((with_reducible refine gate_dst (N := 2) rfl ?_); refine box_event ?hg (N := 2) ?hd (cs := #[.int .i64 a0_0, .int .i64 a0_1, .int .i64 a0_2, .slice A0_3 l0_3.length c0_3]) (t := 24) ?hr ?_; (case hd => rfl); (case hg => rfl); (case hr => first | (go_simp; done) | (go_simp; rfl)); intro gb684 hg w24 hbox hb; have n0_ := Aside0.mk (below_step Z41.z3 hb); have n1_ := Aside0.mk (hbox); have n2_ := Aside0.mk (show w.heap.size ≤ gb684 from (by rw [hg]; exact (below_size Z41.z3))); have n3_ := Aside0.mk (show w.heap.size ≤ gb684 from (by rw [hg]; exact (below_size Z41.z3))); clear HB; have HB := n0_; have BK684 := n1_; have GW684 := n2_; have GE684 := n3_; clear n0_ n1_ n2_ n3_; clear hb hbox hg) | ((with_reducible refine gate_dst (N := 4) rfl ?_); refine box_event ?hg (N := 4) ?hd (cs := #[.int .i64 0, .int .i64 0, .int .i64 0, .slice none 0 0]) (t := 24) ?hr ?_; (case hd => rfl); (case hg => rfl); (case hr => first | (go_simp; done) | (go_simp; rfl)); intro gb685 hg w25 hbox hb; have n0_ := Aside0.mk (Z41.bb BK684 Z41.z1 hb); have n1_ := Aside0.mk (below_step Z41.z2 hb); have n2_ := Aside0.mk (hbox); have n3_ := Aside0.mk (show w.heap.size ≤ gb685 from (by rw [hg]; exact (below_size Z41.z2))); have n4_ := Aside0.mk (show w.heap.size ≤ gb685 from (by rw [hg]; exact (below_size Z41.z2))); have n5_ := Aside0.mk (show gb684 ≠ gb685 from (by rw [hg]; exact Nat.ne_of_lt (Z41.bl BK684 Z41.z1))); have n6_ := Aside0.mk (show gb685 ≠ gb684 from (by rw [hg]; exact Nat.ne_of_gt (Z41.bl BK684 Z41.z1))); clear BK684 HB; have BK684 := n0_; have HB := n1_; have BK685 := n2_; have GW685 := n3_; have GE685 := n4_; have NB684_685 := n5_; have NB685_684 := n6_; clear n0_ n1_ n2_ n3_ n4_ n5_ n6_; clear hb hbox hg; have hnb26 := NB684_685.out; have hnc26 := NB685_684.out; have hcz27_0 : w25.cell? ⟨gb684, 0, none⟩ = some (.int .i64 a0_0) := (blk_cell BK684.out 0).trans rfl; have hcz27_1 : w25.cell? ⟨gb684, 1, none⟩ = some (.int .i64 a0_1) := (blk_cell BK684.out 1).trans rfl; have hcz27_2 : w25.cell? ⟨gb684, 2, none⟩ = some (.int .i64 a0_2) := (blk_cell BK684.out 2).trans rfl; have hcz27_3 : w25.cell? ⟨gb684, 3, none⟩ = some (.slice A0_3 l0_3.length c0_3) := (blk_cell BK684.out 3).trans rfl; have hfz27_0 := blk_frozen BK684.out 0; have hfz27_1 := blk_frozen BK684.out 1; have hfz27_2 := blk_frozen BK684.out 2; have hfz27_3 := blk_frozen BK684.out 3) | ((with_reducible refine gate_callee (f := 25) rfl ?_); refine goesL_ (some 7) rfl rfl Try.func25 (by kernel_rfl) rfl #[.agg #[.int .i64 a0_0, .int .i64 a0_1, .int .i64 a0_2, .slice A0_3 l0_3.length c0_3]] rfl Z41.z5 ?_; (with_reducible refine (impl_ValidMatrix.calls k a0_0 a0_1 a0_2 _ _ l0_3 true _ ?side1 ?side2 A3.out).mono ?_); (case side1 => exact Z41.z8); (case side2 => exact HC0_3.out); rintro e w28 ⟨rfl, hb⟩; refine ⟨_, rfl, ?_⟩; have n0_ := Aside0.mk (Z41.bb BK684 Z41.z1 hb); have n1_ := Aside0.mk (Z41.bb BK685 Z41.z7 hb); have n2_ := Aside0.mk (below_step Z41.z0 hb); clear BK684 BK685 HB; have BK684 := n0_; have BK685 := n1_; have HB := n2_; clear n0_ n1_ n2_; (try clear hb); (try clear hb2); (try clear hk); (try clear hi); have hcz29_0 : w28.cell? ⟨gb684, 0, none⟩ = some (.int .i64 a0_0) := (blk_cell BK684.out 0).trans rfl; have hcz29_1 : w28.cell? ⟨gb684, 1, none⟩ = some (.int .i64 a0_1) := (blk_cell BK684.out 1).trans rfl; have hcz29_2 : w28.cell? ⟨gb684, 2, none⟩ = some (.int .i64 a0_2) := (blk_cell BK684.out 2).trans rfl; have hcz29_3 : w28.cell? ⟨gb684, 3, none⟩ = some (.slice A0_3 l0_3.length c0_3) := (blk_cell BK684.out 3).trans rfl; have hfz29_0 := blk_frozen BK684.out 0; have hfz29_1 := blk_frozen BK684.out 1; have hfz29_2 := blk_frozen BK684.out 2; have hfz29_3 := blk_frozen BK684.out 3) | ((with_reducible refine gate_callee (f := 75) rfl ?_); refine goesL_ (some 13) rfl rfl Try.func75 (by kernel_rfl) rfl #[.int .i64 a1, .int .i64 a0_0] rfl Z41.z5 ?_; (with_reducible refine (impl_isElement.calls a1 a0_0 false _ A5.out).mono ?_); rintro e w' ⟨rfl, ⟨nd, rfl⟩⟩; refine ⟨_, rfl, ?_⟩; (try (rw [drewN_self w28]; generalize hq_ : World.drewN w28 _ = w28; have n0_ : Aside0 (w28.heap[gb684]? = some (.cells #[.int .i64 a0_0, .int .i64 a0_1, .int .i64 a0_2, .slice A0_3 l0_3.length c0_3] 24 (0, 0))) := ⟨(by rw [← hq_]; exact Z41.z1)⟩; have n1_ : Aside0 (w28.heap[gb685]? = some (.cells #[.int .i64 0, .int .i64 0, .int .i64 0, .slice none 0 0] 24 (0, 0))) := ⟨(by rw [← hq_]; exact Z41.z7)⟩; have n2_ : Aside0 (Below w.heap.size w w28) := ⟨(by rw [← hq_]; exact Z41.z0)⟩; clear BK684 BK685 HB hq_; have BK684 := n0_; have BK685 := n1_; have HB := n2_; clear n0_ n1_ n2_)); have hcz30_0 : w28.cell? ⟨gb685, 0, none⟩ = some (.int .i64 0) := (blk_cell BK685.out 0).trans rfl; have hcz30_1 : w28.cell? ⟨gb685, 1, none⟩ = some (.int .i64 0) := (blk_cell BK685.out 1).trans rfl; have hcz30_2 : w28.cell? ⟨gb685, 2, none⟩ = some (.int .i64 0) := (blk_cell BK685.out 2).trans rfl; have hcz30_3 : w28.cell? ⟨gb685, 3, none⟩ = some (.slice none 0 0) := (blk_cell BK685.out 3).trans rfl; have hfz30_0 := blk_frozen BK685.out 0; have hfz30_1 := blk_frozen BK685.out 1; have hfz30_2 := blk_frozen BK685.out 2; have hfz30_3 := blk_frozen BK685.out 3))
  refine bodyPost_ret (results_ct rfl _ _ gb685 24 #[.int .i64 0, .int .i64 0, .int .i64 0, .slice none 0 0] (0, 0) _ rfl Z41.z4 Try.underlying24 rfl (by kernel_rfl)) rfl ?_
  exact ⟨_, Z41.z10, Z41.z11, Z41.z0⟩
 replace c4 := Bool.eq_false_iff.mpr c4
 subst c4
 have H1 : (some (0, 0, 0, ([] : List Int), 1)) = some (r1, r2, r3, r4, r5) := by rw [if_neg (show ¬ (false = true) by decide)] at H; exact H
 clear H
 have H := H1
 clear H1
 simp only [Option.some.injEq, Prod.mk.injEq] at H
 obtain ⟨rfl, rfl, rfl, rfl, rfl⟩ := H
 go_enter Try.func41, Try.ntmps41
 go_wp2_with (first | ((with_reducible refine gate_dst (N := 2) rfl ?_); refine box_event ?hg (N := 2) ?hd (cs := #[.int .i64 a0_0, .int .i64 a0_1, .int .i64 a0_2, .slice A0_3 l0_3.length c0_3]) (t := 24) ?hr ?_; (case hd => rfl); (case hg => rfl); (case hr => first | (go_simp; done) | (go_simp; rfl)); intro gb684 hg w31 hbox hb; have n0_ := Aside0.mk (below_step Z41.z3 hb); have n1_ := Aside0.mk (hbox); have n2_ := Aside0.mk (show w.heap.size ≤ gb684 from (by rw [hg]; exact (below_size Z41.z3))); have n3_ := Aside0.mk (show w.heap.size ≤ gb684 from (by rw [hg]; exact (below_size Z41.z3))); clear HB; have HB := n0_; have BK684 := n1_; have GW684 := n2_; have GE684 := n3_; clear n0_ n1_ n2_ n3_; clear hb hbox hg) | ((with_reducible refine gate_dst (N := 4) rfl ?_); refine box_event ?hg (N := 4) ?hd (cs := #[.int .i64 0, .int .i64 0, .int .i64 0, .slice none 0 0]) (t := 24) ?hr ?_; (case hd => rfl); (case hg => rfl); (case hr => first | (go_simp; done) | (go_simp; rfl)); intro gb685 hg w32 hbox hb; have n0_ := Aside0.mk (Z41.bb BK684 Z41.z1 hb); have n1_ := Aside0.mk (below_step Z41.z2 hb); have n2_ := Aside0.mk (hbox); have n3_ := Aside0.mk (show w.heap.size ≤ gb685 from (by rw [hg]; exact (below_size Z41.z2))); have n4_ := Aside0.mk (show w.heap.size ≤ gb685 from (by rw [hg]; exact (below_size Z41.z2))); have n5_ := Aside0.mk (show gb684 ≠ gb685 from (by rw [hg]; exact Nat.ne_of_lt (Z41.bl BK684 Z41.z1))); have n6_ := Aside0.mk (show gb685 ≠ gb684 from (by rw [hg]; exact Nat.ne_of_gt (Z41.bl BK684 Z41.z1))); clear BK684 HB; have BK684 := n0_; have HB := n1_; have BK685 := n2_; have GW685 := n3_; have GE685 := n4_; have NB684_685 := n5_; have NB685_684 := n6_; clear n0_ n1_ n2_ n3_ n4_ n5_ n6_; clear hb hbox hg; have hnb33 := NB684_685.out; have hnc33 := NB685_684.out; have hcz34_0 : w32.cell? ⟨gb684, 0, none⟩ = some (.int .i64 a0_0) := (blk_cell BK684.out 0).trans rfl; have hcz34_1 : w32.cell? ⟨gb684, 1, none⟩ = some (.int .i64 a0_1) := (blk_cell BK684.out 1).trans rfl; have hcz34_2 : w32.cell? ⟨gb684, 2, none⟩ = some (.int .i64 a0_2) := (blk_cell BK684.out 2).trans rfl; have hcz34_3 : w32.cell? ⟨gb684, 3, none⟩ = some (.slice A0_3 l0_3.length c0_3) := (blk_cell BK684.out 3).trans rfl; have hfz34_0 := blk_frozen BK684.out 0; have hfz34_1 := blk_frozen BK684.out 1; have hfz34_2 := blk_frozen BK684.out 2; have hfz34_3 := blk_frozen BK684.out 3) | ((with_reducible refine gate_callee (f := 25) rfl ?_); refine goesL_ (some 7) rfl rfl Try.func25 (by kernel_rfl) rfl #[.agg #[.int .i64 a0_0, .int .i64 a0_1, .int .i64 a0_2, .slice A0_3 l0_3.length c0_3]] rfl Z41.z5 ?_; (with_reducible refine (impl_ValidMatrix.calls k a0_0 a0_1 a0_2 _ _ l0_3 false _ ?side1 ?side2 A3.out).mono ?_); (case side1 => exact Z41.z8); (case side2 => exact HC0_3.out); rintro e w35 ⟨rfl, hb⟩; refine ⟨_, rfl, ?_⟩; have n0_ := Aside0.mk (Z41.bb BK684 Z41.z1 hb); have n1_ := Aside0.mk (Z41.bb BK685 Z41.z7 hb); have n2_ := Aside0.mk (below_step Z41.z0 hb); clear BK684 BK685 HB; have BK684 := n0_; have BK685 := n1_; have HB := n2_; clear n0_ n1_ n2_; (try clear hb); (try clear hb2); (try clear hk); (try clear hi); have hcz36_0 : w35.cell? ⟨gb685, 0, none⟩ = some (.int .i64 0) := (blk_cell BK685.out 0).trans rfl; have hcz36_1 : w35.cell? ⟨gb685, 1, none⟩ = some (.int .i64 0) := (blk_cell BK685.out 1).trans rfl; have hcz36_2 : w35.cell? ⟨gb685, 2, none⟩ = some (.int .i64 0) := (blk_cell BK685.out 2).trans rfl; have hcz36_3 : w35.cell? ⟨gb685, 3, none⟩ = some (.slice none 0 0) := (blk_cell BK685.out 3).trans rfl; have hfz36_0 := blk_frozen BK685.out 0; have hfz36_1 := blk_frozen BK685.out 1; have hfz36_2 := blk_frozen BK685.out 2; have hfz36_3 := blk_frozen BK685.out 3))
 refine bodyPost_ret (results_ct rfl _ _ gb685 24 #[.int .i64 0, .int .i64 0, .int .i64 0, .slice none 0 0] (0, 0) _ rfl Z41.z4 Try.underlying24 rfl (by kernel_rfl)) rfl ?_
 exact ⟨_, Z41.z10, Z41.z11, Z41.z0⟩

end Go.Proofs.Ytioooobmfcmefaa.F
end
