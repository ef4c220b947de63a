-- Written by gprint.py, a program of this session's that drives the kit's print, for this claim. Not trusted: checked as any text.
import Derived.Test.YtioooobmfcmefaaFx0
import Derived.Test.YtioooobmfcmefaaFx2
import Derived.Test.YtioooobmfcmefaaFx4
import Derived.Test.YtioooobmfcmefaaFx6
import Derived.Test.YtioooobmfcmefaaFx90
import Derived.Test.YtioooobmfcmefaaFx93
namespace Go.Proofs.Ytioooobmfcmefaa.F
open Go.RowKit Go.Proofs.YtioooobmfcmefaaW.PrintWords Go.Proofs.YtioooobmfcmefaaW.PrintLast Go.Proofs.YtioooobmfcmefaaW.PrintMore
attribute [local go_sem] max2_int min2_int max_two min_two max_three min_three max_four min_four   -- for this text's walks alone
set_option linter.unusedVariables false
set_option linter.unusedSimpArgs false

/-! ### laws_FnExactUnitMatrix: function 4 -/
mutual
def laws_FnExactUnitMatrix.j0 : Nat → Int → Int → Int → Bool → Int → Int → Int → List Int → Int → Int → Int → List Int → Option (Bool)
  | 0, _, _, _, _, _, _, _, _, _, _, _, _ => none
  | k + 1, x0, x1, x6, x33, x504000, x504001, x504002, x504003, x512000, x512001, x512002, x512003 => if x33 = true then (some false) else ((laws_markMatrix.f k x512000 x512001 x512002 x512003 1).bind fun bt513 => ((laws_heldMatrix.f k x512000 x512001 x512002 bt513.2 1).bind fun t515 => (if t515 < 0 then (some false) else (if t515 = bt513.1 then ((impl_UnitMatrix.f k x0 x1).bind fun bt516 => ((laws_eqMatrix.f k bt516.1 bt516.2.1 bt516.2.2.1 bt516.2.2.2.1 x504000 x504001 x504002 x504003).bind fun t524 => (if t524 = true then (laws_FnExactUnitMatrix.j1 k bt513.1 (bt516.2.2.2.2 != x6) x512000 x512001 x512002 bt513.2) else (laws_FnExactUnitMatrix.j1 k bt513.1 true x512000 x512001 x512002 bt513.2)))) else (some false)))))
def laws_FnExactUnitMatrix.j1 : Nat → Int → Bool → Int → Int → Int → List Int → Option (Bool)
  | 0, _, _, _, _, _, _ => none
  | k + 1, x9, x59, x512000, x512001, x512002, x512003 => if x59 = true then (some false) else ((laws_heldMatrix.f k x512000 x512001 x512002 x512003 1).bind fun t525 => (if t525 < 0 then (some false) else (if t525 = x9 then (some true) else (some false))))
end
def laws_FnExactUnitMatrix.f (k : Nat) (a0 : Int) (a1 : Int) : Option (Bool) := (spec_UnitMatrix.f k a0 a1).bind fun bt496 => ((impl_UnitMatrix.f k a0 a1).bind fun bt504 => ((laws_eqMatrix.f k bt504.1 bt504.2.1 bt504.2.2.1 bt504.2.2.2.1 bt496.1 bt496.2.1 bt496.2.2.1 bt496.2.2.2.1).bind fun t512 => (if t512 = true then (laws_FnExactUnitMatrix.j0 k a0 a1 bt496.2.2.2.2 (bt504.2.2.2.2 != bt496.2.2.2.2) bt496.1 bt496.2.1 bt496.2.2.1 bt496.2.2.2.1 bt504.1 bt504.2.1 bt504.2.2.1 bt504.2.2.2.1) else (laws_FnExactUnitMatrix.j0 k a0 a1 bt496.2.2.2.2 true bt496.1 bt496.2.1 bt496.2.2.1 bt496.2.2.2.1 bt504.1 bt504.2.1 bt504.2.2.1 bt504.2.2.2.1))))
theorem laws_FnExactUnitMatrix.mono_l : ∀ k, (∀ y0 y1 y2 y3 y4 y5 y6 y7 y8 y9 y10 y11, LeO (laws_FnExactUnitMatrix.j0 k y0 y1 y2 y3 y4 y5 y6 y7 y8 y9 y10 y11) (laws_FnExactUnitMatrix.j0 (k + 1) y0 y1 y2 y3 y4 y5 y6 y7 y8 y9 y10 y11)) ∧ (∀ y0 y1 y2 y3 y4 y5, LeO (laws_FnExactUnitMatrix.j1 k y0 y1 y2 y3 y4 y5) (laws_FnExactUnitMatrix.j1 (k + 1) y0 y1 y2 y3 y4 y5))
  | 0 => ⟨fun _ _ _ _ _ _ _ _ _ _ _ _ r h => by simp [laws_FnExactUnitMatrix.j0] at h, fun _ _ _ _ _ _ r h => by simp [laws_FnExactUnitMatrix.j1] at h⟩
  | k + 1 => by
    obtain ⟨ih0, ih1⟩ := laws_FnExactUnitMatrix.mono_l k
    refine ⟨?_, ?_⟩
    · intro y0 y1 y2 y3 y4 y5 y6 y7 y8 y9 y10 y11
      unfold laws_FnExactUnitMatrix.j0
      repeat' first
      | (with_reducible exact ih0 _ _ _ _ _ _ _ _ _ _ _ _)
      | (with_reducible exact ih1 _ _ _ _ _ _)
      | (with_reducible exact impl_UnitMatrix.mono _ _ _)
      | (with_reducible exact laws_eqMatrix.mono _ _ _ _ _ _ _ _ _)
      | (with_reducible exact laws_heldMatrix.mono _ _ _ _ _ _)
      | (with_reducible exact laws_markMatrix.mono _ _ _ _ _ _)
      | (with_reducible exact spec_UnitMatrix.mono _ _ _)
      | (with_reducible exact LeO.refl _)
      | (with_reducible exact LeO.none _)
      | (with_reducible refine LeO.ite ?_ ?_)
      | (with_reducible refine LeO.bind ?_ (fun _ => ?_))
      | exact ih0 _ _ _ _ _ _ _ _ _ _ _ _
      | exact ih1 _ _ _ _ _ _
      | exact impl_UnitMatrix.mono _ _ _
      | exact laws_eqMatrix.mono _ _ _ _ _ _ _ _ _
      | exact laws_heldMatrix.mono _ _ _ _ _ _
      | exact laws_markMatrix.mono _ _ _ _ _ _
      | exact spec_UnitMatrix.mono _ _ _
      | exact LeO.none _
      | refine LeO.ite ?_ ?_
      | refine LeO.bind ?_ (fun _ => ?_)
    · intro y0 y1 y2 y3 y4 y5
      unfold laws_FnExactUnitMatrix.j1
      repeat' first
      | (with_reducible exact ih0 _ _ _ _ _ _ _ _ _ _ _ _)
      | (with_reducible exact ih1 _ _ _ _ _ _)
      | (with_reducible exact impl_UnitMatrix.mono _ _ _)
      | (with_reducible exact laws_eqMatrix.mono _ _ _ _ _ _ _ _ _)
      | (with_reducible exact laws_heldMatrix.mono _ _ _ _ _ _)
      | (with_reducible exact laws_markMatrix.mono _ _ _ _ _ _)
      | (with_reducible exact spec_UnitMatrix.mono _ _ _)
      | (with_reducible exact LeO.refl _)
      | (with_reducible exact LeO.none _)
      | (with_reducible refine LeO.ite ?_ ?_)
      | (with_reducible refine LeO.bind ?_ (fun _ => ?_))
      | exact ih0 _ _ _ _ _ _ _ _ _ _ _ _
      | exact ih1 _ _ _ _ _ _
      | exact impl_UnitMatrix.mono _ _ _
      | exact laws_eqMatrix.mono _ _ _ _ _ _ _ _ _
      | exact laws_heldMatrix.mono _ _ _ _ _ _
      | exact laws_markMatrix.mono _ _ _ _ _ _
      | exact spec_UnitMatrix.mono _ _ _
      | exact LeO.none _
      | refine LeO.ite ?_ ?_
      | refine LeO.bind ?_ (fun _ => ?_)
theorem laws_FnExactUnitMatrix.mono : ∀ a0 a1 k, LeO (laws_FnExactUnitMatrix.f k a0 a1) (laws_FnExactUnitMatrix.f (k + 1) a0 a1) := by
  intro a0 a1 k
  obtain ⟨ih0, ih1⟩ := laws_FnExactUnitMatrix.mono_l k
  unfold laws_FnExactUnitMatrix.f
  repeat' first
      | (with_reducible exact ih0 _ _ _ _ _ _ _ _ _ _ _ _)
      | (with_reducible exact ih1 _ _ _ _ _ _)
      | (with_reducible exact impl_UnitMatrix.mono _ _ _)
      | (with_reducible exact laws_eqMatrix.mono _ _ _ _ _ _ _ _ _)
      | (with_reducible exact laws_heldMatrix.mono _ _ _ _ _ _)
      | (with_reducible exact laws_markMatrix.mono _ _ _ _ _ _)
      | (with_reducible exact spec_UnitMatrix.mono _ _ _)
      | (with_reducible exact LeO.refl _)
      | (with_reducible exact LeO.none _)
      | (with_reducible refine LeO.ite ?_ ?_)
      | (with_reducible refine LeO.bind ?_ (fun _ => ?_))
      | exact ih0 _ _ _ _ _ _ _ _ _ _ _ _
      | exact ih1 _ _ _ _ _ _
      | exact impl_UnitMatrix.mono _ _ _
      | exact laws_eqMatrix.mono _ _ _ _ _ _ _ _ _
      | exact laws_heldMatrix.mono _ _ _ _ _ _
      | exact laws_markMatrix.mono _ _ _ _ _ _
      | exact spec_UnitMatrix.mono _ _ _
      | exact LeO.none _
      | refine LeO.ite ?_ ?_
      | refine LeO.bind ?_ (fun _ => ?_)
set_option maxHeartbeats 8000000 in
set_option maxRecDepth 100000 in
theorem laws_FnExactUnitMatrix.calls (k : Nat) (a0 : Int) (a1 : Int) (r : Bool) (w : World) (h : laws_FnExactUnitMatrix.f k a0 a1 = some r) :
    Calls Try.prog 4 #[.int .i64 a0, .int .i64 a1] w fun e w' => e = .returned (.bool r) ∧ Below w.heap.size w w' := by
  have hu24 := Try.underlying24
  have HB := Aside0.mk (Below.refl w.heap.size w)
  have H : ((spec_UnitMatrix.f k a0 a1).bind fun bt496 => ((impl_UnitMatrix.f k a0 a1).bind fun bt504 => ((laws_eqMatrix.f k bt504.1 bt504.2.1 bt504.2.2.1 bt504.2.2.2.1 bt496.1 bt496.2.1 bt496.2.2.1 bt496.2.2.2.1).bind fun t512 => (if t512 = true then (laws_FnExactUnitMatrix.j0 k a0 a1 bt496.2.2.2.2 (bt504.2.2.2.2 != bt496.2.2.2.2) bt496.1 bt496.2.1 bt496.2.2.1 bt496.2.2.2.1 bt504.1 bt504.2.1 bt504.2.2.1 bt504.2.2.2.1) else (laws_FnExactUnitMatrix.j0 k a0 a1 bt496.2.2.2.2 true bt496.1 bt496.2.1 bt496.2.2.1 bt496.2.2.2.1 bt504.1 bt504.2.1 bt504.2.2.1 bt504.2.2.2.1))))) = some r := h
  clear h
  replace H := Option.bind_eq_some_iff.mp H
  obtain ⟨⟨t496, t497, t498, t499, t502⟩, A30, H⟩ := H
  replace H : ((impl_UnitMatrix.f k a0 a1).bind fun bt504 => ((laws_eqMatrix.f k bt504.1 bt504.2.1 bt504.2.2.1 bt504.2.2.2.1 t496 t497 t498 t499).bind fun t512 => (if t512 = true then (laws_FnExactUnitMatrix.j0 k a0 a1 t502 (bt504.2.2.2.2 != t502) t496 t497 t498 t499 bt504.1 bt504.2.1 bt504.2.2.1 bt504.2.2.2.1) else (laws_FnExactUnitMatrix.j0 k a0 a1 t502 true t496 t497 t498 t499 bt504.1 bt504.2.1 bt504.2.2.1 bt504.2.2.2.1)))) = some r := H
  have A3 := Aside0.mk A30
  clear A30
  replace H := Option.bind_eq_some_iff.mp H
  obtain ⟨⟨t504, t505, t506, t507, t510⟩, A40, H⟩ := H
  replace H : ((laws_eqMatrix.f k t504 t505 t506 t507 t496 t497 t498 t499).bind fun t512 => (if t512 = true then (laws_FnExactUnitMatrix.j0 k a0 a1 t502 (t510 != t502) t496 t497 t498 t499 t504 t505 t506 t507) else (laws_FnExactUnitMatrix.j0 k a0 a1 t502 true t496 t497 t498 t499 t504 t505 t506 t507))) = some r := H
  have A4 := Aside0.mk A40
  clear A40
  have HC5 := Aside0.mk H
  clear H
  go_enter Try.func4, Try.ntmps4
  go_upto_region 3 with (first | ((with_reducible refine gate_callee (f := 20) rfl ?_); refine goesL_ (some 16) rfl rfl Try.func20 (by kernel_rfl) rfl #[.int .i64 a0, .int .i64 a1] rfl (by (try simp only [List.map_toArray, List.map_cons, List.map_nil]); first | done | rfl | (simp only [List.length_drop, List.length_take]; rfl)) ?_; (with_reducible refine (spec_UnitMatrix.calls k a0 a1 t496 t497 t498 t499 t502 _ A3.out).mono ?_); rintro e w6 ⟨v500, rfl, ho0, hb⟩; refine ⟨_, rfl, ?_⟩; have n0_ := Aside0.mk (Kd.R_lower ho0 (below_size (by repeat (first | (with_reducible first | exact HB.out | apply below_alloc | apply pw_below_drewN | apply below_drew1) | exact HB.out)))); have n1_ := Aside0.mk (below_step (by repeat (first | (with_reducible first | exact HB.out | apply below_alloc | apply pw_below_drewN | apply below_drew1) | exact HB.out)) hb); clear HB; have HO501 := n0_; have HB := n1_; clear n0_ n1_; (try clear hb); (try clear hb2); (try clear hk); (try clear hi); (try clear ho0)) | ((with_reducible refine gate_dst (N := 5) rfl ?_); refine box_event ?hg (N := 5) ?hd (cs := #[.int .i64 0, .int .i64 0, .int .i64 0, .slice none 0 0]) (t := 24) ?hr ?_; (case hd => rfl); (case hg => rfl); (case hr => first | (go_simp; done) | (go_simp; rfl)); intro gb503 hg w7 hbox hb; have n0_ := Aside0.mk (Kd.R_below (by (with_reducible repeat (first | apply Kd.R_alloc | apply Kd.R_drewN | apply Kd.R_drew)); exact HO501.out) hb); have n1_ := Aside0.mk (below_step (by repeat (first | (with_reducible first | exact HB.out | apply below_alloc | apply pw_below_drewN | apply below_drew1) | exact HB.out)) hb); have n2_ := Aside0.mk (hbox); have n3_ := Aside0.mk ((by rw [hg]; exact (below_size (by repeat (first | (with_reducible first | exact HB.out | apply below_alloc | apply pw_below_drewN | apply below_drew1) | exact HB.out))) : w.heap.size ≤ gb503)); have n4_ := Aside0.mk ((by rw [hg]; exact (below_size (by repeat (first | (with_reducible first | exact HB.out | apply below_alloc | apply pw_below_drewN | apply below_drew1) | exact HB.out))) : w.heap.size ≤ gb503)); clear HO501; clear HB; have HO501 := n0_; have HB := n1_; have BK503 := n2_; have GW503 := n3_; have GE503 := n4_; clear n0_ n1_ n2_ n3_ n4_; clear hb hbox hg; have hcz8_0 : w7.cell? ⟨gb503, 0, none⟩ = some (.int .i64 0) := (blk_cell BK503.out 0).trans rfl; have hcz8_1 : w7.cell? ⟨gb503, 1, none⟩ = some (.int .i64 0) := (blk_cell BK503.out 1).trans rfl; have hcz8_2 : w7.cell? ⟨gb503, 2, none⟩ = some (.int .i64 0) := (blk_cell BK503.out 2).trans rfl; have hcz8_3 : w7.cell? ⟨gb503, 3, none⟩ = some (.slice none 0 0) := (blk_cell BK503.out 3).trans rfl; have hfz8_0 := blk_frozen BK503.out 0; have hfz8_1 := blk_frozen BK503.out 1; have hfz8_2 := blk_frozen BK503.out 2; have hfz8_3 := blk_frozen BK503.out 3; obtain ⟨Ao9, co9, eo9⟩ := Kd.R_slice HO501.out; subst eo9) | ((with_reducible refine gate_callee (f := 21) rfl ?_); refine goesL_ (some 22) rfl rfl Try.func21 (by kernel_rfl) rfl #[.int .i64 a0, .int .i64 a1] rfl (by (try simp only [List.map_toArray, List.map_cons, List.map_nil]); first | done | rfl | (simp only [List.length_drop, List.length_take]; rfl)) ?_; (with_reducible refine (impl_UnitMatrix.calls k a0 a1 t504 t505 t506 t507 t510 _ A4.out).mono ?_); rintro e w10 ⟨v508, rfl, ho0, hb⟩; refine ⟨_, rfl, ?_⟩; have n0_ := Aside0.mk (Kd.R_elder' (by (with_reducible repeat (first | apply Kd.R_alloc | apply Kd.R_drewN | apply Kd.R_drew)); exact (Kd.R_mono (Kd.R_far (p := ⟨gb503, 3, none⟩) (Kd.R_far (p := ⟨gb503, 2, none⟩) (Kd.R_far (p := ⟨gb503, 1, none⟩) (Kd.R_far (p := ⟨gb503, 0, none⟩) (Kd.R_types HO501.out BK503.out (by decide)) (fun _ hk => hk.2) (.int .i64 t496)) (fun _ hk => hk.2) (.int .i64 t497)) (fun _ hk => hk.2) (.int .i64 t498)) (fun _ hk => hk.2) (.slice Ao9 t499.length co9)) (fun _ h_ => h_.1))) (Kd.R_base ho0) hb); have n1_ := Aside0.mk (Kd.R_lower (Kd.R_new' ho0 (Kd.R_lt (by (with_reducible repeat (first | apply Kd.R_alloc | apply Kd.R_drewN | apply Kd.R_drew)); exact (Kd.R_mono (Kd.R_far (p := ⟨gb503, 3, none⟩) (Kd.R_far (p := ⟨gb503, 2, none⟩) (Kd.R_far (p := ⟨gb503, 1, none⟩) (Kd.R_far (p := ⟨gb503, 0, none⟩) (Kd.R_types HO501.out BK503.out (by decide)) (fun _ hk => hk.2) (.int .i64 t496)) (fun _ hk => hk.2) (.int .i64 t497)) (fun _ hk => hk.2) (.int .i64 t498)) (fun _ hk => hk.2) (.slice Ao9 t499.length co9)) (fun _ h_ => h_.1))))) (below_size (by repeat (first | (with_reducible first | exact HB.out | apply below_alloc | apply pw_below_drewN | apply below_drew1 | refine below_set ?_ GE503.out) | exact HB.out)))); have n2_ := Aside0.mk (blk_below (g := gb503) (o := .cells #[.int .i64 t496, .int .i64 t497, .int .i64 t498, .slice Ao9 t499.length co9] 24 (0, 0)) (by (with_reducible repeat (first | refine blk_drewN ?_ _ | refine blk_drew ?_ | refine blk_alloc ?_ _)); refine blk_put (cs := #[.int .i64 t496, .int .i64 t497, .int .i64 t498, .slice none 0 0]) ?_ 3 _ rfl; (with_reducible repeat (first | refine blk_drewN ?_ _ | refine blk_drew ?_ | refine blk_alloc ?_ _)); refine blk_put (cs := #[.int .i64 t496, .int .i64 t497, .int .i64 0, .slice none 0 0]) ?_ 2 _ rfl; (with_reducible repeat (first | refine blk_drewN ?_ _ | refine blk_drew ?_ | refine blk_alloc ?_ _)); refine blk_put (cs := #[.int .i64 t496, .int .i64 0, .int .i64 0, .slice none 0 0]) ?_ 1 _ rfl; (with_reducible repeat (first | refine blk_drewN ?_ _ | refine blk_drew ?_ | refine blk_alloc ?_ _)); refine blk_put (cs := #[.int .i64 0, .int .i64 0, .int .i64 0, .slice none 0 0]) ?_ 0 _ rfl; (with_reducible repeat (first | refine blk_drewN ?_ _ | refine blk_drew ?_ | refine blk_alloc ?_ _)); exact BK503.out) hb); have n3_ := Aside0.mk (below_step (by repeat (first | (with_reducible first | exact HB.out | apply below_alloc | apply pw_below_drewN | apply below_drew1 | refine below_set ?_ GE503.out) | exact HB.out)) hb); clear HO501; clear BK503; clear HB; have HO501 := n0_; have HO509 := n1_; have BK503 := n2_; have HB := n3_; clear n0_ n1_ n2_ n3_; (try clear hb); (try clear hb2); (try clear hk); (try clear hi); (try clear ho0)) | ((with_reducible refine gate_dst (N := 7) rfl ?_); refine box_event ?hg (N := 7) ?hd (cs := #[.int .i64 0, .int .i64 0, .int .i64 0, .slice none 0 0]) (t := 24) ?hr ?_; (case hd => rfl); (case hg => rfl); (case hr => first | (go_simp; done) | (go_simp; rfl)); intro gb511 hg w11 hbox hb; have n0_ := Aside0.mk (Kd.R_below (by (with_reducible repeat (first | apply Kd.R_alloc | apply Kd.R_drewN | apply Kd.R_drew)); exact HO501.out) hb); have n1_ := Aside0.mk (Kd.R_below (by (with_reducible repeat (first | apply Kd.R_alloc | apply Kd.R_drewN | apply Kd.R_drew)); exact HO509.out) hb); have n2_ := Aside0.mk (blk_below (g := gb503) (o := .cells #[.int .i64 t496, .int .i64 t497, .int .i64 t498, .slice Ao9 t499.length co9] 24 (0, 0)) (by (with_reducible repeat (first | refine blk_drewN ?_ _ | refine blk_drew ?_ | refine blk_alloc ?_ _)); exact BK503.out) hb); have n3_ := Aside0.mk (below_step (by repeat (first | (with_reducible first | exact HB.out | apply below_alloc | apply pw_below_drewN | apply below_drew1 | refine below_set ?_ GE503.out) | exact HB.out)) hb); have n4_ := Aside0.mk (hbox); have n5_ := Aside0.mk ((by rw [hg]; exact (below_size (by repeat (first | (with_reducible first | exact HB.out | apply below_alloc | apply pw_below_drewN | apply below_drew1 | refine below_set ?_ GE503.out) | exact HB.out))) : w.heap.size ≤ gb511)); have n6_ := Aside0.mk ((by rw [hg]; exact (below_size (by repeat (first | (with_reducible first | exact HB.out | apply below_alloc | apply pw_below_drewN | apply below_drew1 | refine below_set ?_ GE503.out) | exact HB.out))) : w.heap.size ≤ gb511)); have n7_ := Aside0.mk ((by rw [hg]; exact Nat.ne_of_lt (blk_lt (g := gb503) (o := .cells #[.int .i64 t496, .int .i64 t497, .int .i64 t498, .slice Ao9 t499.length co9] 24 (0, 0)) (by (with_reducible repeat (first | refine blk_drewN ?_ _ | refine blk_drew ?_ | refine blk_alloc ?_ _)); exact BK503.out)) : gb503 ≠ gb511)); have n8_ := Aside0.mk ((by rw [hg]; exact Nat.ne_of_gt (blk_lt (g := gb503) (o := .cells #[.int .i64 t496, .int .i64 t497, .int .i64 t498, .slice Ao9 t499.length co9] 24 (0, 0)) (by (with_reducible repeat (first | refine blk_drewN ?_ _ | refine blk_drew ?_ | refine blk_alloc ?_ _)); exact BK503.out)) : gb511 ≠ gb503)); clear HO501; clear HO509; clear BK503; clear HB; have HO501 := n0_; have HO509 := n1_; have BK503 := n2_; have HB := n3_; have BK511 := n4_; have GW511 := n5_; have GE511 := n6_; have NB503_511 := n7_; have NB511_503 := n8_; clear n0_ n1_ n2_ n3_ n4_ n5_ n6_ n7_ n8_; clear hb hbox hg; have hnb12 := NB511_503.out; have hnc12 := NB503_511.out; have hcz13_0 : w11.cell? ⟨gb511, 0, none⟩ = some (.int .i64 0) := (blk_cell BK511.out 0).trans rfl; have hcz13_1 : w11.cell? ⟨gb511, 1, none⟩ = some (.int .i64 0) := (blk_cell BK511.out 1).trans rfl; have hcz13_2 : w11.cell? ⟨gb511, 2, none⟩ = some (.int .i64 0) := (blk_cell BK511.out 2).trans rfl; have hcz13_3 : w11.cell? ⟨gb511, 3, none⟩ = some (.slice none 0 0) := (blk_cell BK511.out 3).trans rfl; have hfz13_0 := blk_frozen BK511.out 0; have hfz13_1 := blk_frozen BK511.out 1; have hfz13_2 := blk_frozen BK511.out 2; have hfz13_3 := blk_frozen BK511.out 3; obtain ⟨Ao14, co14, eo14⟩ := Kd.R_slice HO509.out; subst eo14))
  (try simp only [Act.put, List.setIfInBounds_toArray, List.set_cons_zero, List.set_cons_succ])
  go_cut [33] (fun v33 wc => ∃ (kq : Nat) (x33_4 : Bool), v33 = .bool x33_4 ∧ Aside0 (laws_FnExactUnitMatrix.j0 kq a0 a1 t502 x33_4 t496 t497 t498 t499 t504 t505 t506 t507 = some r) ∧ Aside0 (kq ≤ k) ∧ Aside0 (Kd.R (Kd.int .i64) 2 wc w.heap.size (fun k_ => some k_ ≠ ((.slice Ao14 t507.length co14) : Value).ownBlock) (.slice Ao9 t499.length co9) t499) ∧ Aside0 (Kd.R (Kd.int .i64) 2 wc w.heap.size (fun k_ => some k_ ≠ ((.slice Ao9 t499.length co9) : Value).ownBlock) (.slice Ao14 t507.length co14) t507) ∧ Aside0 (wc.heap[gb503]? = some (.cells #[.int .i64 t496, .int .i64 t497, .int .i64 t498, (.slice Ao9 t499.length co9)] 24 (0, 0))) ∧ Aside0 (wc.heap[gb511]? = some (.cells #[.int .i64 t504, .int .i64 t505, .int .i64 t506, (.slice Ao14 t507.length co14)] 24 (0, 0))) ∧ Aside0 (Below w.heap.size w wc))
  case first =>
    have H := HC5.out
    clear HC5
    replace H := Option.bind_eq_some_iff.mp H
    obtain ⟨t512, A150, H⟩ := H
    replace H : (if t512 = true then (laws_FnExactUnitMatrix.j0 k a0 a1 t502 (t510 != t502) t496 t497 t498 t499 t504 t505 t506 t507) else (laws_FnExactUnitMatrix.j0 k a0 a1 t502 true t496 t497 t498 t499 t504 t505 t506 t507)) = some r := H
    have A15 := Aside0.mk A150
    clear A150
    by_cases c16 : t512 = true
    · subst c16
      have H1 : (laws_FnExactUnitMatrix.j0 k a0 a1 t502 (t510 != t502) t496 t497 t498 t499 t504 t505 t506 t507) = some r := by rw [if_pos rfl] at H; exact H
      clear H
      have H := H1
      clear H1
      have H' := Aside0.mk H
      clear H
      have hnb17 := NB511_503.out
      have hnc17 := NB503_511.out
      have hcz18_0 : w11.cell? ⟨gb511, 0, none⟩ = some (.int .i64 0) := (blk_cell BK511.out 0).trans rfl
      have hcz18_1 : w11.cell? ⟨gb511, 1, none⟩ = some (.int .i64 0) := (blk_cell BK511.out 1).trans rfl
      have hcz18_2 : w11.cell? ⟨gb511, 2, none⟩ = some (.int .i64 0) := (blk_cell BK511.out 2).trans rfl
      have hcz18_3 : w11.cell? ⟨gb511, 3, none⟩ = some (.slice none 0 0) := (blk_cell BK511.out 3).trans rfl
      have hfz18_0 := blk_frozen BK511.out 0
      have hfz18_1 := blk_frozen BK511.out 1
      have hfz18_2 := blk_frozen BK511.out 2
      have hfz18_3 := blk_frozen BK511.out 3
      have hcz19_0 : w11.cell? ⟨gb503, 0, none⟩ = some (.int .i64 t496) := (blk_cell BK503.out 0).trans rfl
      have hcz19_1 : w11.cell? ⟨gb503, 1, none⟩ = some (.int .i64 t497) := (blk_cell BK503.out 1).trans rfl
      have hcz19_2 : w11.cell? ⟨gb503, 2, none⟩ = some (.int .i64 t498) := (blk_cell BK503.out 2).trans rfl
      have hcz19_3 : w11.cell? ⟨gb503, 3, none⟩ = some (.slice Ao9 t499.length co9) := (blk_cell BK503.out 3).trans rfl
      have hfz19_0 := blk_frozen BK503.out 0
      have hfz19_1 := blk_frozen BK503.out 1
      have hfz19_2 := blk_frozen BK503.out 2
      have hfz19_3 := blk_frozen BK503.out 3
      go_wp2_with (first | ((with_reducible refine gate_callee (f := 17) rfl ?_); refine goesL_ (some 27) rfl rfl Try.func17 (by kernel_rfl) rfl #[.agg #[.int .i64 t504, .int .i64 t505, .int .i64 t506, .slice Ao14 t507.length co14], .agg #[.int .i64 t496, .int .i64 t497, .int .i64 t498, .slice Ao9 t499.length co9]] rfl (by (try simp only [List.map_toArray, List.map_cons, List.map_nil]); first | done | rfl | (simp only [List.length_drop, List.length_take]; rfl)) ?_; (with_reducible refine (laws_eqMatrix.calls k t504 t505 t506 _ _ t507 t496 t497 t498 _ _ t499 true _ ?side1 ?side2 ?side3 ?side4 A15.out).mono ?_); (case side1 => refine (Kd.R_reads' (e := 2) (base := w.heap.size) (ok := fun k_ => (True ∧ some k_ ≠ (.slice Ao9 t499.length co9 : Value).ownBlock)) (n := t507.length) (c := co14) ?_).2.2; exact (by (with_reducible repeat (first | apply Kd.R_alloc | apply Kd.R_drewN | apply Kd.R_drew)); exact (Kd.R_mono (Kd.R_far (p := ⟨gb511, 3, none⟩) (Kd.R_far (p := ⟨gb511, 2, none⟩) (Kd.R_far (p := ⟨gb511, 1, none⟩) (Kd.R_far (p := ⟨gb511, 0, none⟩) (Kd.R_types HO509.out BK511.out (by decide)) (fun _ hk => hk.2) (.int .i64 t504)) (fun _ hk => hk.2) (.int .i64 t505)) (fun _ hk => hk.2) (.int .i64 t506)) (fun _ hk => hk.2) (.slice Ao14 t507.length co14)) (fun _ h_ => h_.1)))); (case side2 => exact (Kd.R_reads' HO509.out).2.1); (case side3 => refine (Kd.R_reads' (e := 2) (base := w.heap.size) (ok := fun k_ => (True ∧ some k_ ≠ (.slice Ao14 t507.length co14 : Value).ownBlock)) (n := t499.length) (c := co9) ?_).2.2; exact (by (with_reducible repeat (first | apply Kd.R_alloc | apply Kd.R_drewN | apply Kd.R_drew)); exact (Kd.R_mono (Kd.R_far (p := ⟨gb511, 3, none⟩) (Kd.R_far (p := ⟨gb511, 2, none⟩) (Kd.R_far (p := ⟨gb511, 1, none⟩) (Kd.R_far (p := ⟨gb511, 0, none⟩) (Kd.R_types HO501.out BK511.out (by decide)) (fun _ hk => hk.2) (.int .i64 t504)) (fun _ hk => hk.2) (.int .i64 t505)) (fun _ hk => hk.2) (.int .i64 t506)) (fun _ hk => hk.2) (.slice Ao14 t507.length co14)) (fun _ h_ => h_.1)))); (case side4 => exact (Kd.R_reads' HO501.out).2.1); rintro e w20 ⟨rfl, hb⟩; refine ⟨_, rfl, ?_⟩; have n0_ := Aside0.mk (Kd.R_below (by (with_reducible repeat (first | apply Kd.R_alloc | apply Kd.R_drewN | apply Kd.R_drew)); exact (Kd.R_mono (Kd.R_far (p := ⟨gb511, 3, none⟩) (Kd.R_far (p := ⟨gb511, 2, none⟩) (Kd.R_far (p := ⟨gb511, 1, none⟩) (Kd.R_far (p := ⟨gb511, 0, none⟩) (Kd.R_types HO501.out BK511.out (by decide)) (fun _ hk => hk.2) (.int .i64 t504)) (fun _ hk => hk.2) (.int .i64 t505)) (fun _ hk => hk.2) (.int .i64 t506)) (fun _ hk => hk.2) (.slice Ao14 t507.length co14)) (fun _ h_ => h_.1))) hb); have n1_ := Aside0.mk (Kd.R_below (by (with_reducible repeat (first | apply Kd.R_alloc | apply Kd.R_drewN | apply Kd.R_drew)); exact (Kd.R_mono (Kd.R_far (p := ⟨gb511, 3, none⟩) (Kd.R_far (p := ⟨gb511, 2, none⟩) (Kd.R_far (p := ⟨gb511, 1, none⟩) (Kd.R_far (p := ⟨gb511, 0, none⟩) (Kd.R_types HO509.out BK511.out (by decide)) (fun _ hk => hk.2) (.int .i64 t504)) (fun _ hk => hk.2) (.int .i64 t505)) (fun _ hk => hk.2) (.int .i64 t506)) (fun _ hk => hk.2) (.slice Ao14 t507.length co14)) (fun _ h_ => h_.1))) hb); have n2_ := Aside0.mk (blk_below (g := gb503) (o := .cells #[.int .i64 t496, .int .i64 t497, .int .i64 t498, .slice Ao9 t499.length co9] 24 (0, 0)) (by (with_reducible repeat (first | refine blk_drewN ?_ _ | refine blk_drew ?_ | refine blk_alloc ?_ _)); refine blk_far ?_ NB503_511.out _; (with_reducible repeat (first | refine blk_drewN ?_ _ | refine blk_drew ?_ | refine blk_alloc ?_ _)); refine blk_far ?_ NB503_511.out _; (with_reducible repeat (first | refine blk_drewN ?_ _ | refine blk_drew ?_ | refine blk_alloc ?_ _)); refine blk_far ?_ NB503_511.out _; (with_reducible repeat (first | refine blk_drewN ?_ _ | refine blk_drew ?_ | refine blk_alloc ?_ _)); refine blk_far ?_ NB503_511.out _; (with_reducible repeat (first | refine blk_drewN ?_ _ | refine blk_drew ?_ | refine blk_alloc ?_ _)); exact BK503.out) hb); have n3_ := Aside0.mk (blk_below (g := gb511) (o := .cells #[.int .i64 t504, .int .i64 t505, .int .i64 t506, .slice Ao14 t507.length co14] 24 (0, 0)) (by (with_reducible repeat (first | refine blk_drewN ?_ _ | refine blk_drew ?_ | refine blk_alloc ?_ _)); refine blk_put (cs := #[.int .i64 t504, .int .i64 t505, .int .i64 t506, .slice none 0 0]) ?_ 3 _ rfl; (with_reducible repeat (first | refine blk_drewN ?_ _ | refine blk_drew ?_ | refine blk_alloc ?_ _)); refine blk_put (cs := #[.int .i64 t504, .int .i64 t505, .int .i64 0, .slice none 0 0]) ?_ 2 _ rfl; (with_reducible repeat (first | refine blk_drewN ?_ _ | refine blk_drew ?_ | refine blk_alloc ?_ _)); refine blk_put (cs := #[.int .i64 t504, .int .i64 0, .int .i64 0, .slice none 0 0]) ?_ 1 _ rfl; (with_reducible repeat (first | refine blk_drewN ?_ _ | refine blk_drew ?_ | refine blk_alloc ?_ _)); refine blk_put (cs := #[.int .i64 0, .int .i64 0, .int .i64 0, .slice none 0 0]) ?_ 0 _ rfl; (with_reducible repeat (first | refine blk_drewN ?_ _ | refine blk_drew ?_ | refine blk_alloc ?_ _)); exact BK511.out) hb); have n4_ := Aside0.mk (below_step (by repeat (first | (with_reducible first | exact HB.out | apply below_alloc | apply pw_below_drewN | apply below_drew1 | refine below_set ?_ GE503.out | refine below_set ?_ GE511.out) | exact HB.out)) hb); clear HO501; clear HO509; clear BK503; clear BK511; clear HB; have HO501 := n0_; have HO509 := n1_; have BK503 := n2_; have BK511 := n3_; have HB := n4_; clear n0_ n1_ n2_ n3_ n4_; (try clear hb); (try clear hb2); (try clear hk); (try clear hi)))
      go_meet
      case rel => exact ⟨_, ((t510 != t502)), (by first | rfl | (simp; done) | (simp [*]; done)), H', ⟨by first | omega | exact Nat.le_refl _⟩, ⟨by (with_reducible repeat (first | apply Kd.R_alloc | apply Kd.R_drewN | apply Kd.R_drew)); exact Kd.R_mono HO501.out (fun _ hk => hk.2)⟩, ⟨by (with_reducible repeat (first | apply Kd.R_alloc | apply Kd.R_drewN | apply Kd.R_drew)); exact Kd.R_mono HO509.out (fun _ hk => hk.2)⟩, ⟨by (with_reducible repeat (first | refine blk_drewN ?_ _ | refine blk_drew ?_ | refine blk_alloc ?_ _)); exact BK503.out⟩, ⟨by (with_reducible repeat (first | refine blk_drewN ?_ _ | refine blk_drew ?_ | refine blk_alloc ?_ _)); exact BK511.out⟩, ⟨by repeat (first | (with_reducible first | exact HB.out | apply below_alloc | apply pw_below_drewN | apply below_drew1 | refine below_set ?_ GE503.out | refine below_set ?_ GE511.out) | exact HB.out)⟩⟩
    · replace c16 := Bool.eq_false_iff.mpr c16
      subst c16
      have H1 : (laws_FnExactUnitMatrix.j0 k a0 a1 t502 true t496 t497 t498 t499 t504 t505 t506 t507) = some r := by rw [if_neg (show ¬ (false = true) by decide)] at H; exact H
      clear H
      have H := H1
      clear H1
      have H' := Aside0.mk H
      clear H
      have hnb21 := NB511_503.out
      have hnc21 := NB503_511.out
      have hcz22_0 : w11.cell? ⟨gb511, 0, none⟩ = some (.int .i64 0) := (blk_cell BK511.out 0).trans rfl
      have hcz22_1 : w11.cell? ⟨gb511, 1, none⟩ = some (.int .i64 0) := (blk_cell BK511.out 1).trans rfl
      have hcz22_2 : w11.cell? ⟨gb511, 2, none⟩ = some (.int .i64 0) := (blk_cell BK511.out 2).trans rfl
      have hcz22_3 : w11.cell? ⟨gb511, 3, none⟩ = some (.slice none 0 0) := (blk_cell BK511.out 3).trans rfl
      have hfz22_0 := blk_frozen BK511.out 0
      have hfz22_1 := blk_frozen BK511.out 1
      have hfz22_2 := blk_frozen BK511.out 2
      have hfz22_3 := blk_frozen BK511.out 3
      have hcz23_0 : w11.cell? ⟨gb503, 0, none⟩ = some (.int .i64 t496) := (blk_cell BK503.out 0).trans rfl
      have hcz23_1 : w11.cell? ⟨gb503, 1, none⟩ = some (.int .i64 t497) := (blk_cell BK503.out 1).trans rfl
      have hcz23_2 : w11.cell? ⟨gb503, 2, none⟩ = some (.int .i64 t498) := (blk_cell BK503.out 2).trans rfl
      have hcz23_3 : w11.cell? ⟨gb503, 3, none⟩ = some (.slice Ao9 t499.length co9) := (blk_cell BK503.out 3).trans rfl
      have hfz23_0 := blk_frozen BK503.out 0
      have hfz23_1 := blk_frozen BK503.out 1
      have hfz23_2 := blk_frozen BK503.out 2
      have hfz23_3 := blk_frozen BK503.out 3
      go_wp2_with (first | ((with_reducible refine gate_callee (f := 17) rfl ?_); refine goesL_ (some 27) rfl rfl Try.func17 (by kernel_rfl) rfl #[.agg #[.int .i64 t504, .int .i64 t505, .int .i64 t506, .slice Ao14 t507.length co14], .agg #[.int .i64 t496, .int .i64 t497, .int .i64 t498, .slice Ao9 t499.length co9]] rfl (by (try simp only [List.map_toArray, List.map_cons, List.map_nil]); first | done | rfl | (simp only [List.length_drop, List.length_take]; rfl)) ?_; (with_reducible refine (laws_eqMatrix.calls k t504 t505 t506 _ _ t507 t496 t497 t498 _ _ t499 false _ ?side1 ?side2 ?side3 ?side4 A15.out).mono ?_); (case side1 => refine (Kd.R_reads' (e := 2) (base := w.heap.size) (ok := fun k_ => (True ∧ some k_ ≠ (.slice Ao9 t499.length co9 : Value).ownBlock)) (n := t507.length) (c := co14) ?_).2.2; exact (by (with_reducible repeat (first | apply Kd.R_alloc | apply Kd.R_drewN | apply Kd.R_drew)); exact (Kd.R_mono (Kd.R_far (p := ⟨gb511, 3, none⟩) (Kd.R_far (p := ⟨gb511, 2, none⟩) (Kd.R_far (p := ⟨gb511, 1, none⟩) (Kd.R_far (p := ⟨gb511, 0, none⟩) (Kd.R_types HO509.out BK511.out (by decide)) (fun _ hk => hk.2) (.int .i64 t504)) (fun _ hk => hk.2) (.int .i64 t505)) (fun _ hk => hk.2) (.int .i64 t506)) (fun _ hk => hk.2) (.slice Ao14 t507.length co14)) (fun _ h_ => h_.1)))); (case side2 => exact (Kd.R_reads' HO509.out).2.1); (case side3 => refine (Kd.R_reads' (e := 2) (base := w.heap.size) (ok := fun k_ => (True ∧ some k_ ≠ (.slice Ao14 t507.length co14 : Value).ownBlock)) (n := t499.length) (c := co9) ?_).2.2; exact (by (with_reducible repeat (first | apply Kd.R_alloc | apply Kd.R_drewN | apply Kd.R_drew)); exact (Kd.R_mono (Kd.R_far (p := ⟨gb511, 3, none⟩) (Kd.R_far (p := ⟨gb511, 2, none⟩) (Kd.R_far (p := ⟨gb511, 1, none⟩) (Kd.R_far (p := ⟨gb511, 0, none⟩) (Kd.R_types HO501.out BK511.out (by decide)) (fun _ hk => hk.2) (.int .i64 t504)) (fun _ hk => hk.2) (.int .i64 t505)) (fun _ hk => hk.2) (.int .i64 t506)) (fun _ hk => hk.2) (.slice Ao14 t507.length co14)) (fun _ h_ => h_.1)))); (case side4 => exact (Kd.R_reads' HO501.out).2.1); rintro e w24 ⟨rfl, hb⟩; refine ⟨_, rfl, ?_⟩; have n0_ := Aside0.mk (Kd.R_below (by (with_reducible repeat (first | apply Kd.R_alloc | apply Kd.R_drewN | apply Kd.R_drew)); exact (Kd.R_mono (Kd.R_far (p := ⟨gb511, 3, none⟩) (Kd.R_far (p := ⟨gb511, 2, none⟩) (Kd.R_far (p := ⟨gb511, 1, none⟩) (Kd.R_far (p := ⟨gb511, 0, none⟩) (Kd.R_types HO501.out BK511.out (by decide)) (fun _ hk => hk.2) (.int .i64 t504)) (fun _ hk => hk.2) (.int .i64 t505)) (fun _ hk => hk.2) (.int .i64 t506)) (fun _ hk => hk.2) (.slice Ao14 t507.length co14)) (fun _ h_ => h_.1))) hb); have n1_ := Aside0.mk (Kd.R_below (by (with_reducible repeat (first | apply Kd.R_alloc | apply Kd.R_drewN | apply Kd.R_drew)); exact (Kd.R_mono (Kd.R_far (p := ⟨gb511, 3, none⟩) (Kd.R_far (p := ⟨gb511, 2, none⟩) (Kd.R_far (p := ⟨gb511, 1, none⟩) (Kd.R_far (p := ⟨gb511, 0, none⟩) (Kd.R_types HO509.out BK511.out (by decide)) (fun _ hk => hk.2) (.int .i64 t504)) (fun _ hk => hk.2) (.int .i64 t505)) (fun _ hk => hk.2) (.int .i64 t506)) (fun _ hk => hk.2) (.slice Ao14 t507.length co14)) (fun _ h_ => h_.1))) hb); have n2_ := Aside0.mk (blk_below (g := gb503) (o := .cells #[.int .i64 t496, .int .i64 t497, .int .i64 t498, .slice Ao9 t499.length co9] 24 (0, 0)) (by (with_reducible repeat (first | refine blk_drewN ?_ _ | refine blk_drew ?_ | refine blk_alloc ?_ _)); refine blk_far ?_ NB503_511.out _; (with_reducible repeat (first | refine blk_drewN ?_ _ | refine blk_drew ?_ | refine blk_alloc ?_ _)); refine blk_far ?_ NB503_511.out _; (with_reducible repeat (first | refine blk_drewN ?_ _ | refine blk_drew ?_ | refine blk_alloc ?_ _)); refine blk_far ?_ NB503_511.out _; (with_reducible repeat (first | refine blk_drewN ?_ _ | refine blk_drew ?_ | refine blk_alloc ?_ _)); refine blk_far ?_ NB503_511.out _; (with_reducible repeat (first | refine blk_drewN ?_ _ | refine blk_drew ?_ | refine blk_alloc ?_ _)); exact BK503.out) hb); have n3_ := Aside0.mk (blk_below (g := gb511) (o := .cells #[.int .i64 t504, .int .i64 t505, .int .i64 t506, .slice Ao14 t507.length co14] 24 (0, 0)) (by (with_reducible repeat (first | refine blk_drewN ?_ _ | refine blk_drew ?_ | refine blk_alloc ?_ _)); refine blk_put (cs := #[.int .i64 t504, .int .i64 t505, .int .i64 t506, .slice none 0 0]) ?_ 3 _ rfl; (with_reducible repeat (first | refine blk_drewN ?_ _ | refine blk_drew ?_ | refine blk_alloc ?_ _)); refine blk_put (cs := #[.int .i64 t504, .int .i64 t505, .int .i64 0, .slice none 0 0]) ?_ 2 _ rfl; (with_reducible repeat (first | refine blk_drewN ?_ _ | refine blk_drew ?_ | refine blk_alloc ?_ _)); refine blk_put (cs := #[.int .i64 t504, .int .i64 0, .int .i64 0, .slice none 0 0]) ?_ 1 _ rfl; (with_reducible repeat (first | refine blk_drewN ?_ _ | refine blk_drew ?_ | refine blk_alloc ?_ _)); refine blk_put (cs := #[.int .i64 0, .int .i64 0, .int .i64 0, .slice none 0 0]) ?_ 0 _ rfl; (with_reducible repeat (first | refine blk_drewN ?_ _ | refine blk_drew ?_ | refine blk_alloc ?_ _)); exact BK511.out) hb); have n4_ := Aside0.mk (below_step (by repeat (first | (with_reducible first | exact HB.out | apply below_alloc | apply pw_below_drewN | apply below_drew1 | refine below_set ?_ GE503.out | refine below_set ?_ GE511.out) | exact HB.out)) hb); clear HO501; clear HO509; clear BK503; clear BK511; clear HB; have HO501 := n0_; have HO509 := n1_; have BK503 := n2_; have BK511 := n3_; have HB := n4_; clear n0_ n1_ n2_ n3_ n4_; (try clear hb); (try clear hb2); (try clear hk); (try clear hi)))
      go_meet
      case rel => exact ⟨_, (true), (by first | rfl | (simp; done) | (simp [*]; done)), H', ⟨by first | omega | exact Nat.le_refl _⟩, ⟨by (with_reducible repeat (first | apply Kd.R_alloc | apply Kd.R_drewN | apply Kd.R_drew)); exact Kd.R_mono HO501.out (fun _ hk => hk.2)⟩, ⟨by (with_reducible repeat (first | apply Kd.R_alloc | apply Kd.R_drewN | apply Kd.R_drew)); exact Kd.R_mono HO509.out (fun _ hk => hk.2)⟩, ⟨by (with_reducible repeat (first | refine blk_drewN ?_ _ | refine blk_drew ?_ | refine blk_alloc ?_ _)); exact BK503.out⟩, ⟨by (with_reducible repeat (first | refine blk_drewN ?_ _ | refine blk_drew ?_ | refine blk_alloc ?_ _)); exact BK511.out⟩, ⟨by repeat (first | (with_reducible first | exact HB.out | apply below_alloc | apply pw_below_drewN | apply below_drew1 | refine below_set ?_ GE503.out | refine below_set ?_ GE511.out) | exact HB.out)⟩⟩
  case rest =>
    clear HC5
    try clear c1
    try clear c2
    try clear p2
    try clear c4
    try clear c12
    try clear c16
    try clear c17
    try clear c20
    try clear c21
    try clear hcz13_0
    try clear hcz13_1
    try clear hcz13_2
    try clear hcz13_3
    try clear hcz18_0
    try clear hcz18_1
    try clear hcz18_2
    try clear hcz18_3
    try clear hcz19_0
    try clear hcz19_1
    try clear hcz19_2
    try clear hcz19_3
    try clear hcz22_0
    try clear hcz22_1
    try clear hcz22_2
    try clear hcz22_3
    try clear hcz23_0
    try clear hcz23_1
    try clear hcz23_2
    try clear hcz23_3
    try clear hcz8_0
    try clear hcz8_1
    try clear hcz8_2
    try clear hcz8_3
    try clear hfz13_0
    try clear hfz13_1
    try clear hfz13_2
    try clear hfz13_3
    try clear hfz18_0
    try clear hfz18_1
    try clear hfz18_2
    try clear hfz18_3
    try clear hfz19_0
    try clear hfz19_1
    try clear hfz19_2
    try clear hfz19_3
    try clear hfz22_0
    try clear hfz22_1
    try clear hfz22_2
    try clear hfz22_3
    try clear hfz23_0
    try clear hfz23_1
    try clear hfz23_2
    try clear hfz23_3
    try clear hfz8_0
    try clear hfz8_1
    try clear hfz8_2
    try clear hfz8_3
    obtain ⟨kq, x33_4, rfl, HA, HJ4, HO_504003, HO_512003, BK503, BK511, HB⟩ := hcut
    cases kq with
    | zero => exact absurd HA.out (by simp [laws_FnExactUnitMatrix.j0])
    | succ kj4 =>
      have H := HA.out
      clear HA
      simp only [laws_FnExactUnitMatrix.j0] at H
      by_cases c25 : x33_4 = true
      · subst c25
        have H1 : (some false) = some r := by rw [if_pos rfl] at H; exact H
        clear H
        have H := H1
        clear H1
        obtain rfl := Option.some.inj H
        go_wp2
        go_ret
        exact ⟨by first | rfl | (simp [errW_none, errW_some] <;> rfl) | (simp [*, errW_none, errW_some] <;> rfl), by repeat (first | (with_reducible first | exact HB.out | apply below_alloc | apply pw_below_drewN | apply below_drew1 | refine below_set ?_ GE503.out | refine below_set ?_ GE511.out) | exact HB.out)⟩
      · replace c25 := Bool.eq_false_iff.mpr c25
        subst c25
        have H1 : ((laws_markMatrix.f kj4 t504 t505 t506 t507 1).bind fun bt513 => ((laws_heldMatrix.f kj4 t504 t505 t506 bt513.2 1).bind fun t515 => (if t515 < 0 then (some false) else (if t515 = bt513.1 then ((impl_UnitMatrix.f kj4 a0 a1).bind fun bt516 => ((laws_eqMatrix.f kj4 bt516.1 bt516.2.1 bt516.2.2.1 bt516.2.2.2.1 t496 t497 t498 t499).bind fun t524 => (if t524 = true then (laws_FnExactUnitMatrix.j1 kj4 bt513.1 (bt516.2.2.2.2 != t502) t504 t505 t506 bt513.2) else (laws_FnExactUnitMatrix.j1 kj4 bt513.1 true t504 t505 t506 bt513.2)))) else (some false))))) = some r := by rw [if_neg (show ¬ (false = true) by decide)] at H; exact H
        clear H
        have H := H1
        clear H1
        replace H := Option.bind_eq_some_iff.mp H
        obtain ⟨⟨t513, t514⟩, A260, H⟩ := H
        replace H : ((laws_heldMatrix.f kj4 t504 t505 t506 t514 1).bind fun t515 => (if t515 < 0 then (some false) else (if t515 = t513 then ((impl_UnitMatrix.f kj4 a0 a1).bind fun bt516 => ((laws_eqMatrix.f kj4 bt516.1 bt516.2.1 bt516.2.2.1 bt516.2.2.2.1 t496 t497 t498 t499).bind fun t524 => (if t524 = true then (laws_FnExactUnitMatrix.j1 kj4 t513 (bt516.2.2.2.2 != t502) t504 t505 t506 t514) else (laws_FnExactUnitMatrix.j1 kj4 t513 true t504 t505 t506 t514)))) else (some false)))) = some r := H
        have A26 := Aside0.mk A260
        clear A260
        replace H := Option.bind_eq_some_iff.mp H
        obtain ⟨t515, A270, H⟩ := H
        replace H : (if t515 < 0 then (some false) else (if t515 = t513 then ((impl_UnitMatrix.f kj4 a0 a1).bind fun bt516 => ((laws_eqMatrix.f kj4 bt516.1 bt516.2.1 bt516.2.2.1 bt516.2.2.2.1 t496 t497 t498 t499).bind fun t524 => (if t524 = true then (laws_FnExactUnitMatrix.j1 kj4 t513 (bt516.2.2.2.2 != t502) t504 t505 t506 t514) else (laws_FnExactUnitMatrix.j1 kj4 t513 true t504 t505 t506 t514)))) else (some false))) = some r := H
        have A27 := Aside0.mk A270
        clear A270
        by_cases c28 : t515 < 0
        · rw [if_pos c28] at H
          have c28b0 : decide (t515 < 0) = true := decide_eq_true c28
          clear c28
          obtain rfl := Option.some.inj H
          have hnb29 := NB511_503.out
          have hnc29 := NB503_511.out
          have hcz30_0 : wc.cell? ⟨gb511, 0, none⟩ = some (.int .i64 t504) := (blk_cell BK511.out 0).trans rfl
          have hcz30_1 : wc.cell? ⟨gb511, 1, none⟩ = some (.int .i64 t505) := (blk_cell BK511.out 1).trans rfl
          have hcz30_2 : wc.cell? ⟨gb511, 2, none⟩ = some (.int .i64 t506) := (blk_cell BK511.out 2).trans rfl
          have hcz30_3 : wc.cell? ⟨gb511, 3, none⟩ = some (.slice Ao14 t507.length co14) := (blk_cell BK511.out 3).trans rfl
          have hfz30_0 := blk_frozen BK511.out 0
          have hfz30_1 := blk_frozen BK511.out 1
          have hfz30_2 := blk_frozen BK511.out 2
          have hfz30_3 := blk_frozen BK511.out 3
          go_wp2_with (first | ((with_reducible refine gate_callee (f := 18) rfl ?_); refine goesL_ (some 36) rfl rfl Try.func18 (by kernel_rfl) rfl #[.agg #[.int .i64 t504, .int .i64 t505, .int .i64 t506, .slice Ao14 t507.length co14], .int .i64 1] rfl (by (try simp only [List.map_toArray, List.map_cons, List.map_nil]); first | done | rfl | (simp only [List.length_drop, List.length_take]; rfl)) ?_; (with_reducible refine (laws_markMatrix.calls kj4 t504 t505 t506 (fun k_ => some k_ = (.slice Ao14 t507.length co14 : Value).ownBlock) (.slice Ao14 t507.length co14) t507 1 t513 t514 w _ ?side1 ?side2 A26.out).mono ?_); (case side1 => repeat (first | (with_reducible first | exact HB.out | apply below_alloc | apply pw_below_drewN | apply below_drew1 | refine below_set ?_ GE503.out | refine below_set ?_ GE511.out) | exact HB.out)); (case side2 => exact Kd.R_tight rfl HO_512003.out); rintro e w31 ⟨rfl, hy0, hb, hkp⟩; refine ⟨_, rfl, ?_⟩; have n0_ := Aside0.mk (Kd.R_mono (ok' := fun k_ => some k_ ≠ (.slice Ao14 t507.length co14 : Value).ownBlock) (Kd.R_keptB (HO_504003.out) hkp (fun k_ hk_ hs_ => (hk_) hs_)) (fun k_ hk_ => hk_.1)); have n1_ := Aside0.mk (Kd.R_reok rfl hy0 (fun k_ e_ => HO_512003.out.1 k_ e_)); have n2_ := Aside0.mk (blk_kept (by (with_reducible repeat (first | refine blk_drewN ?_ _ | refine blk_drew ?_ | refine blk_alloc ?_ _)); exact BK503.out) hkp (fun hs_ => (fun e_ => (Kd.R_ne HO_512003.out BK503.out (by decide)) e_) hs_)); have n3_ := Aside0.mk (blk_kept (by (with_reducible repeat (first | refine blk_drewN ?_ _ | refine blk_drew ?_ | refine blk_alloc ?_ _)); exact BK511.out) hkp (fun hs_ => (fun e_ => (Kd.R_ne HO_512003.out BK511.out (by decide)) e_) hs_)); have n4_ := Aside0.mk (hb); clear HO_504003; clear HO_512003; clear BK503; clear BK511; clear HB; have HO_504003 := n0_; have HO_512003 := n1_; have BK503 := n2_; have BK511 := n3_; have HB := n4_; clear n0_ n1_ n2_ n3_ n4_; (try clear hb); (try clear hkp); (try clear hy0); have hcz32_0 : w31.cell? ⟨gb511, 0, none⟩ = some (.int .i64 t504) := (blk_cell BK511.out 0).trans rfl; have hcz32_1 : w31.cell? ⟨gb511, 1, none⟩ = some (.int .i64 t505) := (blk_cell BK511.out 1).trans rfl; have hcz32_2 : w31.cell? ⟨gb511, 2, none⟩ = some (.int .i64 t506) := (blk_cell BK511.out 2).trans rfl; have hcz32_3 : w31.cell? ⟨gb511, 3, none⟩ = some (.slice Ao14 t507.length co14) := (blk_cell BK511.out 3).trans rfl; have hfz32_0 := blk_frozen BK511.out 0; have hfz32_1 := blk_frozen BK511.out 1; have hfz32_2 := blk_frozen BK511.out 2; have hfz32_3 := blk_frozen BK511.out 3) | ((with_reducible refine gate_callee (f := 19) rfl ?_); refine goesL_ (some 39) rfl rfl Try.func19 (by kernel_rfl) rfl #[.agg #[.int .i64 t504, .int .i64 t505, .int .i64 t506, .slice Ao14 t514.length co14], .int .i64 1] rfl (by (try simp only [List.map_toArray, List.map_cons, List.map_nil]); first | done | (rw [show t514.length = t507.length from (Kd.R_reads' HO_512003.out).1.symm] <;> rfl) | rfl | (simp only [List.length_drop, List.length_take]; rfl)) ?_; (with_reducible refine (laws_heldMatrix.calls kj4 t504 t505 t506 _ _ t514 1 t515 _ ?side1 ?side2 A27.out).mono ?_); (case side1 => repeat (first | exact (Kd.R_reads' HO_512003.out).2.2 | (with_reducible refine Kd.C_alloc ?_ _) | (with_reducible refine Kd.C_drewN ?_ _) | (with_reducible refine Kd.C_drew ?_))); (case side2 => rw [show t514.length = t507.length from (Kd.R_reads' HO_512003.out).1.symm]; exact (Kd.R_reads' HO_512003.out).2.1); rintro e w33 ⟨rfl, hb⟩; refine ⟨_, rfl, ?_⟩; have n0_ := Aside0.mk (Kd.R_below (by (with_reducible repeat (first | apply Kd.R_alloc | apply Kd.R_drewN | apply Kd.R_drew)); exact HO_504003.out) hb); have n1_ := Aside0.mk (Kd.R_below (by (with_reducible repeat (first | apply Kd.R_alloc | apply Kd.R_drewN | apply Kd.R_drew)); exact HO_512003.out) hb); have n2_ := Aside0.mk (blk_below (g := gb503) (o := .cells #[.int .i64 t496, .int .i64 t497, .int .i64 t498, .slice Ao9 t499.length co9] 24 (0, 0)) (by (with_reducible repeat (first | refine blk_drewN ?_ _ | refine blk_drew ?_ | refine blk_alloc ?_ _)); exact BK503.out) hb); have n3_ := Aside0.mk (blk_below (g := gb511) (o := .cells #[.int .i64 t504, .int .i64 t505, .int .i64 t506, .slice Ao14 t507.length co14] 24 (0, 0)) (by (with_reducible repeat (first | refine blk_drewN ?_ _ | refine blk_drew ?_ | refine blk_alloc ?_ _)); exact BK511.out) hb); have n4_ := Aside0.mk (below_step (by repeat (first | (with_reducible first | exact HB.out | apply below_alloc | apply pw_below_drewN | apply below_drew1 | refine below_set ?_ GE503.out | refine below_set ?_ GE511.out) | exact HB.out)) hb); clear HO_504003; clear HO_512003; clear BK503; clear BK511; clear HB; have HO_504003 := n0_; have HO_512003 := n1_; have BK503 := n2_; have BK511 := n3_; have HB := n4_; clear n0_ n1_ n2_ n3_ n4_; (try clear hb); (try clear hb2); (try clear hk); (try clear hi)))
          go_ret
          exact ⟨by first | rfl | (simp [errW_none, errW_some] <;> rfl) | (simp [*, errW_none, errW_some] <;> rfl), by repeat (first | (with_reducible first | exact HB.out | apply below_alloc | apply pw_below_drewN | apply below_drew1 | refine below_set ?_ GE503.out | refine below_set ?_ GE511.out) | exact HB.out)⟩
        · rw [if_neg c28] at H
          have c28b0 : decide (t515 < 0) = false := decide_eq_false c28
          clear c28
          by_cases c34 : t515 = t513
          · rw [if_pos c34] at H
            have c34b0 : (t515 == t513) = true := beq_iff_eq.mpr c34
            have c34b1 : (t515 != t513) = false := bne_eq_false_iff_eq.mpr c34
            clear c34
            replace H := Option.bind_eq_some_iff.mp H
            obtain ⟨⟨t516, t517, t518, t519, t522⟩, A350, H⟩ := H
            replace H : ((laws_eqMatrix.f kj4 t516 t517 t518 t519 t496 t497 t498 t499).bind fun t524 => (if t524 = true then (laws_FnExactUnitMatrix.j1 kj4 t513 (t522 != t502) t504 t505 t506 t514) else (laws_FnExactUnitMatrix.j1 kj4 t513 true t504 t505 t506 t514))) = some r := H
            have A35 := Aside0.mk A350
            clear A350
            have HC36 := Aside0.mk H
            clear H
            have hnb37 := NB511_503.out
            have hnc37 := NB503_511.out
            have hcz38_0 : wc.cell? ⟨gb511, 0, none⟩ = some (.int .i64 t504) := (blk_cell BK511.out 0).trans rfl
            have hcz38_1 : wc.cell? ⟨gb511, 1, none⟩ = some (.int .i64 t505) := (blk_cell BK511.out 1).trans rfl
            have hcz38_2 : wc.cell? ⟨gb511, 2, none⟩ = some (.int .i64 t506) := (blk_cell BK511.out 2).trans rfl
            have hcz38_3 : wc.cell? ⟨gb511, 3, none⟩ = some (.slice Ao14 t507.length co14) := (blk_cell BK511.out 3).trans rfl
            have hfz38_0 := blk_frozen BK511.out 0
            have hfz38_1 := blk_frozen BK511.out 1
            have hfz38_2 := blk_frozen BK511.out 2
            have hfz38_3 := blk_frozen BK511.out 3
            go_upto_region 14 with (first | ((with_reducible refine gate_callee (f := 18) rfl ?_); refine goesL_ (some 36) rfl rfl Try.func18 (by kernel_rfl) rfl #[.agg #[.int .i64 t504, .int .i64 t505, .int .i64 t506, .slice Ao14 t507.length co14], .int .i64 1] rfl (by (try simp only [List.map_toArray, List.map_cons, List.map_nil]); first | done | rfl | (simp only [List.length_drop, List.length_take]; rfl)) ?_; (with_reducible refine (laws_markMatrix.calls kj4 t504 t505 t506 (fun k_ => some k_ = (.slice Ao14 t507.length co14 : Value).ownBlock) (.slice Ao14 t507.length co14) t507 1 t513 t514 w _ ?side1 ?side2 A26.out).mono ?_); (case side1 => repeat (first | (with_reducible first | exact HB.out | apply below_alloc | apply pw_below_drewN | apply below_drew1 | refine below_set ?_ GE503.out | refine below_set ?_ GE511.out) | exact HB.out)); (case side2 => exact Kd.R_tight rfl HO_512003.out); rintro e w39 ⟨rfl, hy0, hb, hkp⟩; refine ⟨_, rfl, ?_⟩; have n0_ := Aside0.mk (Kd.R_mono (ok' := fun k_ => some k_ ≠ (.slice Ao14 t507.length co14 : Value).ownBlock) (Kd.R_keptB (HO_504003.out) hkp (fun k_ hk_ hs_ => (hk_) hs_)) (fun k_ hk_ => hk_.1)); have n1_ := Aside0.mk (Kd.R_reok rfl hy0 (fun k_ e_ => HO_512003.out.1 k_ e_)); have n2_ := Aside0.mk (blk_kept (by (with_reducible repeat (first | refine blk_drewN ?_ _ | refine blk_drew ?_ | refine blk_alloc ?_ _)); exact BK503.out) hkp (fun hs_ => (fun e_ => (Kd.R_ne HO_512003.out BK503.out (by decide)) e_) hs_)); have n3_ := Aside0.mk (blk_kept (by (with_reducible repeat (first | refine blk_drewN ?_ _ | refine blk_drew ?_ | refine blk_alloc ?_ _)); exact BK511.out) hkp (fun hs_ => (fun e_ => (Kd.R_ne HO_512003.out BK511.out (by decide)) e_) hs_)); have n4_ := Aside0.mk (hb); clear HO_504003; clear HO_512003; clear BK503; clear BK511; clear HB; have HO_504003 := n0_; have HO_512003 := n1_; have BK503 := n2_; have BK511 := n3_; have HB := n4_; clear n0_ n1_ n2_ n3_ n4_; (try clear hb); (try clear hkp); (try clear hy0); have hcz40_0 : w39.cell? ⟨gb511, 0, none⟩ = some (.int .i64 t504) := (blk_cell BK511.out 0).trans rfl; have hcz40_1 : w39.cell? ⟨gb511, 1, none⟩ = some (.int .i64 t505) := (blk_cell BK511.out 1).trans rfl; have hcz40_2 : w39.cell? ⟨gb511, 2, none⟩ = some (.int .i64 t506) := (blk_cell BK511.out 2).trans rfl; have hcz40_3 : w39.cell? ⟨gb511, 3, none⟩ = some (.slice Ao14 t507.length co14) := (blk_cell BK511.out 3).trans rfl; have hfz40_0 := blk_frozen BK511.out 0; have hfz40_1 := blk_frozen BK511.out 1; have hfz40_2 := blk_frozen BK511.out 2; have hfz40_3 := blk_frozen BK511.out 3) | ((with_reducible refine gate_callee (f := 19) rfl ?_); refine goesL_ (some 39) rfl rfl Try.func19 (by kernel_rfl) rfl #[.agg #[.int .i64 t504, .int .i64 t505, .int .i64 t506, .slice Ao14 t514.length co14], .int .i64 1] rfl (by (try simp only [List.map_toArray, List.map_cons, List.map_nil]); first | done | (rw [show t514.length = t507.length from (Kd.R_reads' HO_512003.out).1.symm] <;> rfl) | rfl | (simp only [List.length_drop, List.length_take]; rfl)) ?_; (with_reducible refine (laws_heldMatrix.calls kj4 t504 t505 t506 _ _ t514 1 t515 _ ?side1 ?side2 A27.out).mono ?_); (case side1 => repeat (first | exact (Kd.R_reads' HO_512003.out).2.2 | (with_reducible refine Kd.C_alloc ?_ _) | (with_reducible refine Kd.C_drewN ?_ _) | (with_reducible refine Kd.C_drew ?_))); (case side2 => rw [show t514.length = t507.length from (Kd.R_reads' HO_512003.out).1.symm]; exact (Kd.R_reads' HO_512003.out).2.1); rintro e w41 ⟨rfl, hb⟩; refine ⟨_, rfl, ?_⟩; have n0_ := Aside0.mk (Kd.R_below (by (with_reducible repeat (first | apply Kd.R_alloc | apply Kd.R_drewN | apply Kd.R_drew)); exact HO_504003.out) hb); have n1_ := Aside0.mk (Kd.R_below (by (with_reducible repeat (first | apply Kd.R_alloc | apply Kd.R_drewN | apply Kd.R_drew)); exact HO_512003.out) hb); have n2_ := Aside0.mk (blk_below (g := gb503) (o := .cells #[.int .i64 t496, .int .i64 t497, .int .i64 t498, .slice Ao9 t499.length co9] 24 (0, 0)) (by (with_reducible repeat (first | refine blk_drewN ?_ _ | refine blk_drew ?_ | refine blk_alloc ?_ _)); exact BK503.out) hb); have n3_ := Aside0.mk (blk_below (g := gb511) (o := .cells #[.int .i64 t504, .int .i64 t505, .int .i64 t506, .slice Ao14 t507.length co14] 24 (0, 0)) (by (with_reducible repeat (first | refine blk_drewN ?_ _ | refine blk_drew ?_ | refine blk_alloc ?_ _)); exact BK511.out) hb); have n4_ := Aside0.mk (below_step (by repeat (first | (with_reducible first | exact HB.out | apply below_alloc | apply pw_below_drewN | apply below_drew1 | refine below_set ?_ GE503.out | refine below_set ?_ GE511.out) | exact HB.out)) hb); clear HO_504003; clear HO_512003; clear BK503; clear BK511; clear HB; have HO_504003 := n0_; have HO_512003 := n1_; have BK503 := n2_; have BK511 := n3_; have HB := n4_; clear n0_ n1_ n2_ n3_ n4_; (try clear hb); (try clear hb2); (try clear hk); (try clear hi)) | ((with_reducible refine gate_callee (f := 21) rfl ?_); refine goesL_ (some 48) rfl rfl Try.func21 (by kernel_rfl) rfl #[.int .i64 a0, .int .i64 a1] rfl (by (try simp only [List.map_toArray, List.map_cons, List.map_nil]); first | done | rfl | (simp only [List.length_drop, List.length_take]; rfl)) ?_; (with_reducible refine (impl_UnitMatrix.calls kj4 a0 a1 t516 t517 t518 t519 t522 _ A35.out).mono ?_); rintro e w42 ⟨v520, rfl, ho0, hb⟩; refine ⟨_, rfl, ?_⟩; have n0_ := Aside0.mk (Kd.R_elder' (by (with_reducible repeat (first | apply Kd.R_alloc | apply Kd.R_drewN | apply Kd.R_drew)); exact HO_504003.out) (Kd.R_base ho0) hb); have n1_ := Aside0.mk (Kd.R_elder' (by (with_reducible repeat (first | apply Kd.R_alloc | apply Kd.R_drewN | apply Kd.R_drew)); exact HO_512003.out) (Kd.R_base ho0) hb); have n2_ := Aside0.mk (Kd.R_lower (Kd.R_new' (Kd.R_new' ho0 (Kd.R_lt (by (with_reducible repeat (first | apply Kd.R_alloc | apply Kd.R_drewN | apply Kd.R_drew)); exact HO_504003.out))) (Kd.R_lt (by (with_reducible repeat (first | apply Kd.R_alloc | apply Kd.R_drewN | apply Kd.R_drew)); exact HO_512003.out))) (below_size (by repeat (first | (with_reducible first | exact HB.out | apply below_alloc | apply pw_below_drewN | apply below_drew1 | refine below_set ?_ GE503.out | refine below_set ?_ GE511.out) | exact HB.out)))); have n3_ := Aside0.mk (blk_below (g := gb503) (o := .cells #[.int .i64 t496, .int .i64 t497, .int .i64 t498, .slice Ao9 t499.length co9] 24 (0, 0)) (by (with_reducible repeat (first | refine blk_drewN ?_ _ | refine blk_drew ?_ | refine blk_alloc ?_ _)); exact BK503.out) hb); have n4_ := Aside0.mk (blk_below (g := gb511) (o := .cells #[.int .i64 t504, .int .i64 t505, .int .i64 t506, .slice Ao14 t507.length co14] 24 (0, 0)) (by (with_reducible repeat (first | refine blk_drewN ?_ _ | refine blk_drew ?_ | refine blk_alloc ?_ _)); exact BK511.out) hb); have n5_ := Aside0.mk (below_step (by repeat (first | (with_reducible first | exact HB.out | apply below_alloc | apply pw_below_drewN | apply below_drew1 | refine below_set ?_ GE503.out | refine below_set ?_ GE511.out) | exact HB.out)) hb); clear HO_504003; clear HO_512003; clear BK503; clear BK511; clear HB; have HO_504003 := n0_; have HO_512003 := n1_; have HO521 := n2_; have BK503 := n3_; have BK511 := n4_; have HB := n5_; clear n0_ n1_ n2_ n3_ n4_ n5_; (try clear hb); (try clear hb2); (try clear hk); (try clear hi); (try clear ho0)) | ((with_reducible refine gate_dst (N := 11) rfl ?_); refine box_event ?hg (N := 11) ?hd (cs := #[.int .i64 0, .int .i64 0, .int .i64 0, .slice none 0 0]) (t := 24) ?hr ?_; (case hd => rfl); (case hg => rfl); (case hr => first | (go_simp; done) | (go_simp; rfl)); intro gb523 hg w43 hbox hb; have n0_ := Aside0.mk (Kd.R_below (by (with_reducible repeat (first | apply Kd.R_alloc | apply Kd.R_drewN | apply Kd.R_drew)); exact HO_504003.out) hb); have n1_ := Aside0.mk (Kd.R_below (by (with_reducible repeat (first | apply Kd.R_alloc | apply Kd.R_drewN | apply Kd.R_drew)); exact HO_512003.out) hb); have n2_ := Aside0.mk (Kd.R_below (by (with_reducible repeat (first | apply Kd.R_alloc | apply Kd.R_drewN | apply Kd.R_drew)); exact HO521.out) hb); have n3_ := Aside0.mk (blk_below (g := gb503) (o := .cells #[.int .i64 t496, .int .i64 t497, .int .i64 t498, .slice Ao9 t499.length co9] 24 (0, 0)) (by (with_reducible repeat (first | refine blk_drewN ?_ _ | refine blk_drew ?_ | refine blk_alloc ?_ _)); exact BK503.out) hb); have n4_ := Aside0.mk (blk_below (g := gb511) (o := .cells #[.int .i64 t504, .int .i64 t505, .int .i64 t506, .slice Ao14 t507.length co14] 24 (0, 0)) (by (with_reducible repeat (first | refine blk_drewN ?_ _ | refine blk_drew ?_ | refine blk_alloc ?_ _)); exact BK511.out) hb); have n5_ := Aside0.mk (below_step (by repeat (first | (with_reducible first | exact HB.out | apply below_alloc | apply pw_below_drewN | apply below_drew1 | refine below_set ?_ GE503.out | refine below_set ?_ GE511.out) | exact HB.out)) hb); have n6_ := Aside0.mk (hbox); have n7_ := Aside0.mk ((by rw [hg]; exact (below_size (by repeat (first | (with_reducible first | exact HB.out | apply below_alloc | apply pw_below_drewN | apply below_drew1 | refine below_set ?_ GE503.out | refine below_set ?_ GE511.out) | exact HB.out))) : w.heap.size ≤ gb523)); have n8_ := Aside0.mk ((by rw [hg]; exact (below_size (by repeat (first | (with_reducible first | exact HB.out | apply below_alloc | apply pw_below_drewN | apply below_drew1 | refine below_set ?_ GE503.out | refine below_set ?_ GE511.out) | exact HB.out))) : w.heap.size ≤ gb523)); have n9_ := Aside0.mk ((by rw [hg]; exact Nat.ne_of_lt (blk_lt (g := gb503) (o := .cells #[.int .i64 t496, .int .i64 t497, .int .i64 t498, .slice Ao9 t499.length co9] 24 (0, 0)) (by (with_reducible repeat (first | refine blk_drewN ?_ _ | refine blk_drew ?_ | refine blk_alloc ?_ _)); exact BK503.out)) : gb503 ≠ gb523)); have n10_ := Aside0.mk ((by rw [hg]; exact Nat.ne_of_gt (blk_lt (g := gb503) (o := .cells #[.int .i64 t496, .int .i64 t497, .int .i64 t498, .slice Ao9 t499.length co9] 24 (0, 0)) (by (with_reducible repeat (first | refine blk_drewN ?_ _ | refine blk_drew ?_ | refine blk_alloc ?_ _)); exact BK503.out)) : gb523 ≠ gb503)); have n11_ := Aside0.mk ((by rw [hg]; exact Nat.ne_of_lt (blk_lt (g := gb511) (o := .cells #[.int .i64 t504, .int .i64 t505, .int .i64 t506, .slice Ao14 t507.length co14] 24 (0, 0)) (by (with_reducible repeat (first | refine blk_drewN ?_ _ | refine blk_drew ?_ | refine blk_alloc ?_ _)); exact BK511.out)) : gb511 ≠ gb523)); have n12_ := Aside0.mk ((by rw [hg]; exact Nat.ne_of_gt (blk_lt (g := gb511) (o := .cells #[.int .i64 t504, .int .i64 t505, .int .i64 t506, .slice Ao14 t507.length co14] 24 (0, 0)) (by (with_reducible repeat (first | refine blk_drewN ?_ _ | refine blk_drew ?_ | refine blk_alloc ?_ _)); exact BK511.out)) : gb523 ≠ gb511)); clear HO_504003; clear HO_512003; clear HO521; clear BK503; clear BK511; clear HB; have HO_504003 := n0_; have HO_512003 := n1_; have HO521 := n2_; have BK503 := n3_; have BK511 := n4_; have HB := n5_; have BK523 := n6_; have GW523 := n7_; have GE523 := n8_; have NB503_523 := n9_; have NB523_503 := n10_; have NB511_523 := n11_; have NB523_511 := n12_; clear n0_ n1_ n2_ n3_ n4_ n5_ n6_ n7_ n8_ n9_ n10_ n11_ n12_; clear hb hbox hg; have hnb44 := NB523_503.out; have hnc44 := NB503_523.out; have hnb45 := NB523_511.out; have hnc45 := NB511_523.out; have hcz46_0 : w43.cell? ⟨gb523, 0, none⟩ = some (.int .i64 0) := (blk_cell BK523.out 0).trans rfl; have hcz46_1 : w43.cell? ⟨gb523, 1, none⟩ = some (.int .i64 0) := (blk_cell BK523.out 1).trans rfl; have hcz46_2 : w43.cell? ⟨gb523, 2, none⟩ = some (.int .i64 0) := (blk_cell BK523.out 2).trans rfl; have hcz46_3 : w43.cell? ⟨gb523, 3, none⟩ = some (.slice none 0 0) := (blk_cell BK523.out 3).trans rfl; have hfz46_0 := blk_frozen BK523.out 0; have hfz46_1 := blk_frozen BK523.out 1; have hfz46_2 := blk_frozen BK523.out 2; have hfz46_3 := blk_frozen BK523.out 3; obtain ⟨Ao47, co47, eo47⟩ := Kd.R_slice HO521.out; subst eo47))
            (try simp only [Act.put, List.setIfInBounds_toArray, List.set_cons_zero, List.set_cons_succ])
            go_cut [59] (fun v59 wc => ∃ (kq : Nat) (x59_35 : Bool), v59 = .bool x59_35 ∧ Aside0 (laws_FnExactUnitMatrix.j1 kq t513 x59_35 t504 t505 t506 t514 = some r) ∧ Aside0 (kq ≤ kj4) ∧ Aside0 (Kd.R (Kd.int .i64) 2 wc w.heap.size (fun k_ => some k_ ≠ ((.slice Ao14 t507.length co14) : Value).ownBlock ∧ some k_ ≠ ((.slice Ao47 t519.length co47) : Value).ownBlock) (.slice Ao9 t499.length co9) t499) ∧ Aside0 (Kd.R (Kd.int .i64) 2 wc w.heap.size (fun k_ => some k_ ≠ ((.slice Ao9 t499.length co9) : Value).ownBlock ∧ some k_ ≠ ((.slice Ao47 t519.length co47) : Value).ownBlock) (.slice Ao14 t507.length co14) t514) ∧ Aside0 (Kd.R (Kd.int .i64) 2 wc w.heap.size (fun k_ => some k_ ≠ ((.slice Ao9 t499.length co9) : Value).ownBlock ∧ some k_ ≠ ((.slice Ao14 t507.length co14) : Value).ownBlock) (.slice Ao47 t519.length co47) t519) ∧ Aside0 (wc.heap[gb503]? = some (.cells #[.int .i64 t496, .int .i64 t497, .int .i64 t498, (.slice Ao9 t499.length co9)] 24 (0, 0))) ∧ Aside0 (wc.heap[gb511]? = some (.cells #[.int .i64 t504, .int .i64 t505, .int .i64 t506, (.slice Ao14 t507.length co14)] 24 (0, 0))) ∧ Aside0 (wc.heap[gb523]? = some (.cells #[.int .i64 t516, .int .i64 t517, .int .i64 t518, (.slice Ao47 t519.length co47)] 24 (0, 0))) ∧ Aside0 (Below w.heap.size w wc))
            case first =>
              have H := HC36.out
              clear HC36
              replace H := Option.bind_eq_some_iff.mp H
              obtain ⟨t524, A480, H⟩ := H
              replace H : (if t524 = true then (laws_FnExactUnitMatrix.j1 kj4 t513 (t522 != t502) t504 t505 t506 t514) else (laws_FnExactUnitMatrix.j1 kj4 t513 true t504 t505 t506 t514)) = some r := H
              have A48 := Aside0.mk A480
              clear A480
              by_cases c49 : t524 = true
              · subst c49
                have H1 : (laws_FnExactUnitMatrix.j1 kj4 t513 (t522 != t502) t504 t505 t506 t514) = some r := by rw [if_pos rfl] at H; exact H
                clear H
                have H := H1
                clear H1
                have H' := Aside0.mk H
                clear H
                have hnb50 := NB523_503.out
                have hnc50 := NB503_523.out
                have hnb51 := NB523_511.out
                have hnc51 := NB511_523.out
                have hcz52_0 : w43.cell? ⟨gb523, 0, none⟩ = some (.int .i64 0) := (blk_cell BK523.out 0).trans rfl
                have hcz52_1 : w43.cell? ⟨gb523, 1, none⟩ = some (.int .i64 0) := (blk_cell BK523.out 1).trans rfl
                have hcz52_2 : w43.cell? ⟨gb523, 2, none⟩ = some (.int .i64 0) := (blk_cell BK523.out 2).trans rfl
                have hcz52_3 : w43.cell? ⟨gb523, 3, none⟩ = some (.slice none 0 0) := (blk_cell BK523.out 3).trans rfl
                have hfz52_0 := blk_frozen BK523.out 0
                have hfz52_1 := blk_frozen BK523.out 1
                have hfz52_2 := blk_frozen BK523.out 2
                have hfz52_3 := blk_frozen BK523.out 3
                have hnb53 := NB503_511.out
                have hnc53 := NB511_503.out
                have hcz54_0 : w43.cell? ⟨gb503, 0, none⟩ = some (.int .i64 t496) := (blk_cell BK503.out 0).trans rfl
                have hcz54_1 : w43.cell? ⟨gb503, 1, none⟩ = some (.int .i64 t497) := (blk_cell BK503.out 1).trans rfl
                have hcz54_2 : w43.cell? ⟨gb503, 2, none⟩ = some (.int .i64 t498) := (blk_cell BK503.out 2).trans rfl
                have hcz54_3 : w43.cell? ⟨gb503, 3, none⟩ = some (.slice Ao9 t499.length co9) := (blk_cell BK503.out 3).trans rfl
                have hfz54_0 := blk_frozen BK503.out 0
                have hfz54_1 := blk_frozen BK503.out 1
                have hfz54_2 := blk_frozen BK503.out 2
                have hfz54_3 := blk_frozen BK503.out 3
                go_wp2_with (first | ((with_reducible refine gate_callee (f := 17) rfl ?_); refine goesL_ (some 53) rfl rfl Try.func17 (by kernel_rfl) rfl #[.agg #[.int .i64 t516, .int .i64 t517, .int .i64 t518, .slice Ao47 t519.length co47], .agg #[.int .i64 t496, .int .i64 t497, .int .i64 t498, .slice Ao9 t499.length co9]] rfl (by (try simp only [List.map_toArray, List.map_cons, List.map_nil]); first | done | rfl | (simp only [List.length_drop, List.length_take]; rfl)) ?_; (with_reducible refine (laws_eqMatrix.calls kj4 t516 t517 t518 _ _ t519 t496 t497 t498 _ _ t499 true _ ?side1 ?side2 ?side3 ?side4 A48.out).mono ?_); (case side1 => refine (Kd.R_reads' (e := 2) (base := w.heap.size) (ok := fun k_ => ((True ∧ some k_ ≠ (.slice Ao9 t499.length co9 : Value).ownBlock) ∧ some k_ ≠ (.slice Ao14 t507.length co14 : Value).ownBlock)) (n := t519.length) (c := co47) ?_).2.2; exact (by (with_reducible repeat (first | apply Kd.R_alloc | apply Kd.R_drewN | apply Kd.R_drew)); exact (Kd.R_mono (Kd.R_far (p := ⟨gb523, 3, none⟩) (Kd.R_far (p := ⟨gb523, 2, none⟩) (Kd.R_far (p := ⟨gb523, 1, none⟩) (Kd.R_far (p := ⟨gb523, 0, none⟩) (Kd.R_types HO521.out BK523.out (by decide)) (fun _ hk => hk.2) (.int .i64 t516)) (fun _ hk => hk.2) (.int .i64 t517)) (fun _ hk => hk.2) (.int .i64 t518)) (fun _ hk => hk.2) (.slice Ao47 t519.length co47)) (fun _ h_ => h_.1)))); (case side2 => exact (Kd.R_reads' HO521.out).2.1); (case side3 => refine (Kd.R_reads' (e := 2) (base := w.heap.size) (ok := fun k_ => (some k_ ≠ (.slice Ao14 t507.length co14 : Value).ownBlock ∧ some k_ ≠ (.slice Ao47 t519.length co47 : Value).ownBlock)) (n := t499.length) (c := co9) ?_).2.2; exact (by (with_reducible repeat (first | apply Kd.R_alloc | apply Kd.R_drewN | apply Kd.R_drew)); exact (Kd.R_mono (Kd.R_far (p := ⟨gb523, 3, none⟩) (Kd.R_far (p := ⟨gb523, 2, none⟩) (Kd.R_far (p := ⟨gb523, 1, none⟩) (Kd.R_far (p := ⟨gb523, 0, none⟩) (Kd.R_types HO_504003.out BK523.out (by decide)) (fun _ hk => hk.2) (.int .i64 t516)) (fun _ hk => hk.2) (.int .i64 t517)) (fun _ hk => hk.2) (.int .i64 t518)) (fun _ hk => hk.2) (.slice Ao47 t519.length co47)) (fun _ h_ => h_.1)))); (case side4 => exact (Kd.R_reads' HO_504003.out).2.1); rintro e w55 ⟨rfl, hb⟩; refine ⟨_, rfl, ?_⟩; have n0_ := Aside0.mk (Kd.R_below (by (with_reducible repeat (first | apply Kd.R_alloc | apply Kd.R_drewN | apply Kd.R_drew)); exact (Kd.R_mono (Kd.R_far (p := ⟨gb523, 3, none⟩) (Kd.R_far (p := ⟨gb523, 2, none⟩) (Kd.R_far (p := ⟨gb523, 1, none⟩) (Kd.R_far (p := ⟨gb523, 0, none⟩) (Kd.R_types HO_504003.out BK523.out (by decide)) (fun _ hk => hk.2) (.int .i64 t516)) (fun _ hk => hk.2) (.int .i64 t517)) (fun _ hk => hk.2) (.int .i64 t518)) (fun _ hk => hk.2) (.slice Ao47 t519.length co47)) (fun _ h_ => h_.1))) hb); have n1_ := Aside0.mk (Kd.R_below (by (with_reducible repeat (first | apply Kd.R_alloc | apply Kd.R_drewN | apply Kd.R_drew)); exact (Kd.R_mono (Kd.R_far (p := ⟨gb523, 3, none⟩) (Kd.R_far (p := ⟨gb523, 2, none⟩) (Kd.R_far (p := ⟨gb523, 1, none⟩) (Kd.R_far (p := ⟨gb523, 0, none⟩) (Kd.R_types HO_512003.out BK523.out (by decide)) (fun _ hk => hk.2) (.int .i64 t516)) (fun _ hk => hk.2) (.int .i64 t517)) (fun _ hk => hk.2) (.int .i64 t518)) (fun _ hk => hk.2) (.slice Ao47 t519.length co47)) (fun _ h_ => h_.1))) hb); have n2_ := Aside0.mk (Kd.R_below (by (with_reducible repeat (first | apply Kd.R_alloc | apply Kd.R_drewN | apply Kd.R_drew)); exact (Kd.R_mono (Kd.R_far (p := ⟨gb523, 3, none⟩) (Kd.R_far (p := ⟨gb523, 2, none⟩) (Kd.R_far (p := ⟨gb523, 1, none⟩) (Kd.R_far (p := ⟨gb523, 0, none⟩) (Kd.R_types HO521.out BK523.out (by decide)) (fun _ hk => hk.2) (.int .i64 t516)) (fun _ hk => hk.2) (.int .i64 t517)) (fun _ hk => hk.2) (.int .i64 t518)) (fun _ hk => hk.2) (.slice Ao47 t519.length co47)) (fun _ h_ => h_.1))) hb); have n3_ := Aside0.mk (blk_below (g := gb503) (o := .cells #[.int .i64 t496, .int .i64 t497, .int .i64 t498, .slice Ao9 t499.length co9] 24 (0, 0)) (by (with_reducible repeat (first | refine blk_drewN ?_ _ | refine blk_drew ?_ | refine blk_alloc ?_ _)); refine blk_far ?_ NB503_523.out _; (with_reducible repeat (first | refine blk_drewN ?_ _ | refine blk_drew ?_ | refine blk_alloc ?_ _)); refine blk_far ?_ NB503_523.out _; (with_reducible repeat (first | refine blk_drewN ?_ _ | refine blk_drew ?_ | refine blk_alloc ?_ _)); refine blk_far ?_ NB503_523.out _; (with_reducible repeat (first | refine blk_drewN ?_ _ | refine blk_drew ?_ | refine blk_alloc ?_ _)); refine blk_far ?_ NB503_523.out _; (with_reducible repeat (first | refine blk_drewN ?_ _ | refine blk_drew ?_ | refine blk_alloc ?_ _)); exact BK503.out) hb); have n4_ := Aside0.mk (blk_below (g := gb511) (o := .cells #[.int .i64 t504, .int .i64 t505, .int .i64 t506, .slice Ao14 t507.length co14] 24 (0, 0)) (by (with_reducible repeat (first | refine blk_drewN ?_ _ | refine blk_drew ?_ | refine blk_alloc ?_ _)); refine blk_far ?_ NB511_523.out _; (with_reducible repeat (first | refine blk_drewN ?_ _ | refine blk_drew ?_ | refine blk_alloc ?_ _)); refine blk_far ?_ NB511_523.out _; (with_reducible repeat (first | refine blk_drewN ?_ _ | refine blk_drew ?_ | refine blk_alloc ?_ _)); refine blk_far ?_ NB511_523.out _; (with_reducible repeat (first | refine blk_drewN ?_ _ | refine blk_drew ?_ | refine blk_alloc ?_ _)); refine blk_far ?_ NB511_523.out _; (with_reducible repeat (first | refine blk_drewN ?_ _ | refine blk_drew ?_ | refine blk_alloc ?_ _)); exact BK511.out) hb); have n5_ := Aside0.mk (blk_below (g := gb523) (o := .cells #[.int .i64 t516, .int .i64 t517, .int .i64 t518, .slice Ao47 t519.length co47] 24 (0, 0)) (by (with_reducible repeat (first | refine blk_drewN ?_ _ | refine blk_drew ?_ | refine blk_alloc ?_ _)); refine blk_put (cs := #[.int .i64 t516, .int .i64 t517, .int .i64 t518, .slice none 0 0]) ?_ 3 _ rfl; (with_reducible repeat (first | refine blk_drewN ?_ _ | refine blk_drew ?_ | refine blk_alloc ?_ _)); refine blk_put (cs := #[.int .i64 t516, .int .i64 t517, .int .i64 0, .slice none 0 0]) ?_ 2 _ rfl; (with_reducible repeat (first | refine blk_drewN ?_ _ | refine blk_drew ?_ | refine blk_alloc ?_ _)); refine blk_put (cs := #[.int .i64 t516, .int .i64 0, .int .i64 0, .slice none 0 0]) ?_ 1 _ rfl; (with_reducible repeat (first | refine blk_drewN ?_ _ | refine blk_drew ?_ | refine blk_alloc ?_ _)); refine blk_put (cs := #[.int .i64 0, .int .i64 0, .int .i64 0, .slice none 0 0]) ?_ 0 _ rfl; (with_reducible repeat (first | refine blk_drewN ?_ _ | refine blk_drew ?_ | refine blk_alloc ?_ _)); exact BK523.out) hb); have n6_ := Aside0.mk (below_step (by repeat (first | (with_reducible first | exact HB.out | apply below_alloc | apply pw_below_drewN | apply below_drew1 | refine below_set ?_ GE503.out | refine below_set ?_ GE511.out | refine below_set ?_ GE523.out) | exact HB.out)) hb); clear HO_504003; clear HO_512003; clear HO521; clear BK503; clear BK511; clear BK523; clear HB; have HO_504003 := n0_; have HO_512003 := n1_; have HO521 := n2_; have BK503 := n3_; have BK511 := n4_; have BK523 := n5_; have HB := n6_; clear n0_ n1_ n2_ n3_ n4_ n5_ n6_; (try clear hb); (try clear hb2); (try clear hk); (try clear hi)))
                go_meet
                case rel => exact ⟨_, ((t522 != t502)), (by first | rfl | (simp; done) | (simp [*]; done)), H', ⟨by have := HJ4.out; first | omega | exact Nat.le_refl _⟩, ⟨by (with_reducible repeat (first | apply Kd.R_alloc | apply Kd.R_drewN | apply Kd.R_drew)); exact HO_504003.out⟩, ⟨by (with_reducible repeat (first | apply Kd.R_alloc | apply Kd.R_drewN | apply Kd.R_drew)); exact HO_512003.out⟩, ⟨by (with_reducible repeat (first | apply Kd.R_alloc | apply Kd.R_drewN | apply Kd.R_drew)); exact Kd.R_mono HO521.out (fun _ hk => ⟨hk.1.2, hk.2⟩)⟩, ⟨by (with_reducible repeat (first | refine blk_drewN ?_ _ | refine blk_drew ?_ | refine blk_alloc ?_ _)); exact BK503.out⟩, ⟨by (with_reducible repeat (first | refine blk_drewN ?_ _ | refine blk_drew ?_ | refine blk_alloc ?_ _)); exact BK511.out⟩, ⟨by (with_reducible repeat (first | refine blk_drewN ?_ _ | refine blk_drew ?_ | refine blk_alloc ?_ _)); exact BK523.out⟩, ⟨by repeat (first | (with_reducible first | exact HB.out | apply below_alloc | apply pw_below_drewN | apply below_drew1 | refine below_set ?_ GE503.out | refine below_set ?_ GE511.out | refine below_set ?_ GE523.out) | exact HB.out)⟩⟩
              · replace c49 := Bool.eq_false_iff.mpr c49
                subst c49
                have H1 : (laws_FnExactUnitMatrix.j1 kj4 t513 true t504 t505 t506 t514) = some r := by rw [if_neg (show ¬ (false = true) by decide)] at H; exact H
                clear H
                have H := H1
                clear H1
                have H' := Aside0.mk H
                clear H
                have hnb56 := NB523_503.out
                have hnc56 := NB503_523.out
                have hnb57 := NB523_511.out
                have hnc57 := NB511_523.out
                have hcz58_0 : w43.cell? ⟨gb523, 0, none⟩ = some (.int .i64 0) := (blk_cell BK523.out 0).trans rfl
                have hcz58_1 : w43.cell? ⟨gb523, 1, none⟩ = some (.int .i64 0) := (blk_cell BK523.out 1).trans rfl
                have hcz58_2 : w43.cell? ⟨gb523, 2, none⟩ = some (.int .i64 0) := (blk_cell BK523.out 2).trans rfl
                have hcz58_3 : w43.cell? ⟨gb523, 3, none⟩ = some (.slice none 0 0) := (blk_cell BK523.out 3).trans rfl
                have hfz58_0 := blk_frozen BK523.out 0
                have hfz58_1 := blk_frozen BK523.out 1
                have hfz58_2 := blk_frozen BK523.out 2
                have hfz58_3 := blk_frozen BK523.out 3
                have hnb59 := NB503_511.out
                have hnc59 := NB511_503.out
                have hcz60_0 : w43.cell? ⟨gb503, 0, none⟩ = some (.int .i64 t496) := (blk_cell BK503.out 0).trans rfl
                have hcz60_1 : w43.cell? ⟨gb503, 1, none⟩ = some (.int .i64 t497) := (blk_cell BK503.out 1).trans rfl
                have hcz60_2 : w43.cell? ⟨gb503, 2, none⟩ = some (.int .i64 t498) := (blk_cell BK503.out 2).trans rfl
                have hcz60_3 : w43.cell? ⟨gb503, 3, none⟩ = some (.slice Ao9 t499.length co9) := (blk_cell BK503.out 3).trans rfl
                have hfz60_0 := blk_frozen BK503.out 0
                have hfz60_1 := blk_frozen BK503.out 1
                have hfz60_2 := blk_frozen BK503.out 2
                have hfz60_3 := blk_frozen BK503.out 3
                go_wp2_with (first | ((with_reducible refine gate_callee (f := 17) rfl ?_); refine goesL_ (some 53) rfl rfl Try.func17 (by kernel_rfl) rfl #[.agg #[.int .i64 t516, .int .i64 t517, .int .i64 t518, .slice Ao47 t519.length co47], .agg #[.int .i64 t496, .int .i64 t497, .int .i64 t498, .slice Ao9 t499.length co9]] rfl (by (try simp only [List.map_toArray, List.map_cons, List.map_nil]); first | done | rfl | (simp only [List.length_drop, List.length_take]; rfl)) ?_; (with_reducible refine (laws_eqMatrix.calls kj4 t516 t517 t518 _ _ t519 t496 t497 t498 _ _ t499 false _ ?side1 ?side2 ?side3 ?side4 A48.out).mono ?_); (case side1 => refine (Kd.R_reads' (e := 2) (base := w.heap.size) (ok := fun k_ => ((True ∧ some k_ ≠ (.slice Ao9 t499.length co9 : Value).ownBlock) ∧ some k_ ≠ (.slice Ao14 t507.length co14 : Value).ownBlock)) (n := t519.length) (c := co47) ?_).2.2; exact (by (with_reducible repeat (first | apply Kd.R_alloc | apply Kd.R_drewN | apply Kd.R_drew)); exact (Kd.R_mono (Kd.R_far (p := ⟨gb523, 3, none⟩) (Kd.R_far (p := ⟨gb523, 2, none⟩) (Kd.R_far (p := ⟨gb523, 1, none⟩) (Kd.R_far (p := ⟨gb523, 0, none⟩) (Kd.R_types HO521.out BK523.out (by decide)) (fun _ hk => hk.2) (.int .i64 t516)) (fun _ hk => hk.2) (.int .i64 t517)) (fun _ hk => hk.2) (.int .i64 t518)) (fun _ hk => hk.2) (.slice Ao47 t519.length co47)) (fun _ h_ => h_.1)))); (case side2 => exact (Kd.R_reads' HO521.out).2.1); (case side3 => refine (Kd.R_reads' (e := 2) (base := w.heap.size) (ok := fun k_ => (some k_ ≠ (.slice Ao14 t507.length co14 : Value).ownBlock ∧ some k_ ≠ (.slice Ao47 t519.length co47 : Value).ownBlock)) (n := t499.length) (c := co9) ?_).2.2; exact (by (with_reducible repeat (first | apply Kd.R_alloc | apply Kd.R_drewN | apply Kd.R_drew)); exact (Kd.R_mono (Kd.R_far (p := ⟨gb523, 3, none⟩) (Kd.R_far (p := ⟨gb523, 2, none⟩) (Kd.R_far (p := ⟨gb523, 1, none⟩) (Kd.R_far (p := ⟨gb523, 0, none⟩) (Kd.R_types HO_504003.out BK523.out (by decide)) (fun _ hk => hk.2) (.int .i64 t516)) (fun _ hk => hk.2) (.int .i64 t517)) (fun _ hk => hk.2) (.int .i64 t518)) (fun _ hk => hk.2) (.slice Ao47 t519.length co47)) (fun _ h_ => h_.1)))); (case side4 => exact (Kd.R_reads' HO_504003.out).2.1); rintro e w61 ⟨rfl, hb⟩; refine ⟨_, rfl, ?_⟩; have n0_ := Aside0.mk (Kd.R_below (by (with_reducible repeat (first | apply Kd.R_alloc | apply Kd.R_drewN | apply Kd.R_drew)); exact (Kd.R_mono (Kd.R_far (p := ⟨gb523, 3, none⟩) (Kd.R_far (p := ⟨gb523, 2, none⟩) (Kd.R_far (p := ⟨gb523, 1, none⟩) (Kd.R_far (p := ⟨gb523, 0, none⟩) (Kd.R_types HO_504003.out BK523.out (by decide)) (fun _ hk => hk.2) (.int .i64 t516)) (fun _ hk => hk.2) (.int .i64 t517)) (fun _ hk => hk.2) (.int .i64 t518)) (fun _ hk => hk.2) (.slice Ao47 t519.length co47)) (fun _ h_ => h_.1))) hb); have n1_ := Aside0.mk (Kd.R_below (by (with_reducible repeat (first | apply Kd.R_alloc | apply Kd.R_drewN | apply Kd.R_drew)); exact (Kd.R_mono (Kd.R_far (p := ⟨gb523, 3, none⟩) (Kd.R_far (p := ⟨gb523, 2, none⟩) (Kd.R_far (p := ⟨gb523, 1, none⟩) (Kd.R_far (p := ⟨gb523, 0, none⟩) (Kd.R_types HO_512003.out BK523.out (by decide)) (fun _ hk => hk.2) (.int .i64 t516)) (fun _ hk => hk.2) (.int .i64 t517)) (fun _ hk => hk.2) (.int .i64 t518)) (fun _ hk => hk.2) (.slice Ao47 t519.length co47)) (fun _ h_ => h_.1))) hb); have n2_ := Aside0.mk (Kd.R_below (by (with_reducible repeat (first | apply Kd.R_alloc | apply Kd.R_drewN | apply Kd.R_drew)); exact (Kd.R_mono (Kd.R_far (p := ⟨gb523, 3, none⟩) (Kd.R_far (p := ⟨gb523, 2, none⟩) (Kd.R_far (p := ⟨gb523, 1, none⟩) (Kd.R_far (p := ⟨gb523, 0, none⟩) (Kd.R_types HO521.out BK523.out (by decide)) (fun _ hk => hk.2) (.int .i64 t516)) (fun _ hk => hk.2) (.int .i64 t517)) (fun _ hk => hk.2) (.int .i64 t518)) (fun _ hk => hk.2) (.slice Ao47 t519.length co47)) (fun _ h_ => h_.1))) hb); have n3_ := Aside0.mk (blk_below (g := gb503) (o := .cells #[.int .i64 t496, .int .i64 t497, .int .i64 t498, .slice Ao9 t499.length co9] 24 (0, 0)) (by (with_reducible repeat (first | refine blk_drewN ?_ _ | refine blk_drew ?_ | refine blk_alloc ?_ _)); refine blk_far ?_ NB503_523.out _; (with_reducible repeat (first | refine blk_drewN ?_ _ | refine blk_drew ?_ | refine blk_alloc ?_ _)); refine blk_far ?_ NB503_523.out _; (with_reducible repeat (first | refine blk_drewN ?_ _ | refine blk_drew ?_ | refine blk_alloc ?_ _)); refine blk_far ?_ NB503_523.out _; (with_reducible repeat (first | refine blk_drewN ?_ _ | refine blk_drew ?_ | refine blk_alloc ?_ _)); refine blk_far ?_ NB503_523.out _; (with_reducible repeat (first | refine blk_drewN ?_ _ | refine blk_drew ?_ | refine blk_alloc ?_ _)); exact BK503.out) hb); have n4_ := Aside0.mk (blk_below (g := gb511) (o := .cells #[.int .i64 t504, .int .i64 t505, .int .i64 t506, .slice Ao14 t507.length co14] 24 (0, 0)) (by (with_reducible repeat (first | refine blk_drewN ?_ _ | refine blk_drew ?_ | refine blk_alloc ?_ _)); refine blk_far ?_ NB511_523.out _; (with_reducible repeat (first | refine blk_drewN ?_ _ | refine blk_drew ?_ | refine blk_alloc ?_ _)); refine blk_far ?_ NB511_523.out _; (with_reducible repeat (first | refine blk_drewN ?_ _ | refine blk_drew ?_ | refine blk_alloc ?_ _)); refine blk_far ?_ NB511_523.out _; (with_reducible repeat (first | refine blk_drewN ?_ _ | refine blk_drew ?_ | refine blk_alloc ?_ _)); refine blk_far ?_ NB511_523.out _; (with_reducible repeat (first | refine blk_drewN ?_ _ | refine blk_drew ?_ | refine blk_alloc ?_ _)); exact BK511.out) hb); have n5_ := Aside0.mk (blk_below (g := gb523) (o := .cells #[.int .i64 t516, .int .i64 t517, .int .i64 t518, .slice Ao47 t519.length co47] 24 (0, 0)) (by (with_reducible repeat (first | refine blk_drewN ?_ _ | refine blk_drew ?_ | refine blk_alloc ?_ _)); refine blk_put (cs := #[.int .i64 t516, .int .i64 t517, .int .i64 t518, .slice none 0 0]) ?_ 3 _ rfl; (with_reducible repeat (first | refine blk_drewN ?_ _ | refine blk_drew ?_ | refine blk_alloc ?_ _)); refine blk_put (cs := #[.int .i64 t516, .int .i64 t517, .int .i64 0, .slice none 0 0]) ?_ 2 _ rfl; (with_reducible repeat (first | refine blk_drewN ?_ _ | refine blk_drew ?_ | refine blk_alloc ?_ _)); refine blk_put (cs := #[.int .i64 t516, .int .i64 0, .int .i64 0, .slice none 0 0]) ?_ 1 _ rfl; (with_reducible repeat (first | refine blk_drewN ?_ _ | refine blk_drew ?_ | refine blk_alloc ?_ _)); refine blk_put (cs := #[.int .i64 0, .int .i64 0, .int .i64 0, .slice none 0 0]) ?_ 0 _ rfl; (with_reducible repeat (first | refine blk_drewN ?_ _ | refine blk_drew ?_ | refine blk_alloc ?_ _)); exact BK523.out) hb); have n6_ := Aside0.mk (below_step (by repeat (first | (with_reducible first | exact HB.out | apply below_alloc | apply pw_below_drewN | apply below_drew1 | refine below_set ?_ GE503.out | refine below_set ?_ GE511.out | refine below_set ?_ GE523.out) | exact HB.out)) hb); clear HO_504003; clear HO_512003; clear HO521; clear BK503; clear BK511; clear BK523; clear HB; have HO_504003 := n0_; have HO_512003 := n1_; have HO521 := n2_; have BK503 := n3_; have BK511 := n4_; have BK523 := n5_; have HB := n6_; clear n0_ n1_ n2_ n3_ n4_ n5_ n6_; (try clear hb); (try clear hb2); (try clear hk); (try clear hi)))
                go_meet
                case rel => exact ⟨_, (true), (by first | rfl | (simp; done) | (simp [*]; done)), H', ⟨by have := HJ4.out; first | omega | exact Nat.le_refl _⟩, ⟨by (with_reducible repeat (first | apply Kd.R_alloc | apply Kd.R_drewN | apply Kd.R_drew)); exact HO_504003.out⟩, ⟨by (with_reducible repeat (first | apply Kd.R_alloc | apply Kd.R_drewN | apply Kd.R_drew)); exact HO_512003.out⟩, ⟨by (with_reducible repeat (first | apply Kd.R_alloc | apply Kd.R_drewN | apply Kd.R_drew)); exact Kd.R_mono HO521.out (fun _ hk => ⟨hk.1.2, hk.2⟩)⟩, ⟨by (with_reducible repeat (first | refine blk_drewN ?_ _ | refine blk_drew ?_ | refine blk_alloc ?_ _)); exact BK503.out⟩, ⟨by (with_reducible repeat (first | refine blk_drewN ?_ _ | refine blk_drew ?_ | refine blk_alloc ?_ _)); exact BK511.out⟩, ⟨by (with_reducible repeat (first | refine blk_drewN ?_ _ | refine blk_drew ?_ | refine blk_alloc ?_ _)); exact BK523.out⟩, ⟨by repeat (first | (with_reducible first | exact HB.out | apply below_alloc | apply pw_below_drewN | apply below_drew1 | refine below_set ?_ GE503.out | refine below_set ?_ GE511.out | refine below_set ?_ GE523.out) | exact HB.out)⟩⟩
            case rest =>
              clear HC36
              try clear c1
              try clear c2
              try clear p2
              try clear c3
              try clear c4
              try clear c5
              try clear c12
              try clear c16
              try clear c17
              try clear c18
              try clear c19
              try clear c20
              try clear c21
              try clear c25
              try clear c28
              try clear c28b0
              try clear c29
              try clear c34
              try clear c34b0
              try clear c34b1
              try clear c37
              try clear c44
              try clear c45
              try clear c49
              try clear c50
              try clear c51
              try clear c53
              try clear c56
              try clear c57
              try clear c59
              try clear hcz13_0
              try clear hcz13_1
              try clear hcz13_2
              try clear hcz13_3
              try clear hcz18_0
              try clear hcz18_1
              try clear hcz18_2
              try clear hcz18_3
              try clear hcz19_0
              try clear hcz19_1
              try clear hcz19_2
              try clear hcz19_3
              try clear hcz22_0
              try clear hcz22_1
              try clear hcz22_2
              try clear hcz22_3
              try clear hcz23_0
              try clear hcz23_1
              try clear hcz23_2
              try clear hcz23_3
              try clear hcz30_0
              try clear hcz30_1
              try clear hcz30_2
              try clear hcz30_3
              try clear hcz32_0
              try clear hcz32_1
              try clear hcz32_2
              try clear hcz32_3
              try clear hcz38_0
              try clear hcz38_1
              try clear hcz38_2
              try clear hcz38_3
              try clear hcz40_0
              try clear hcz40_1
              try clear hcz40_2
              try clear hcz40_3
              try clear hcz46_0
              try clear hcz46_1
              try clear hcz46_2
              try clear hcz46_3
              try clear hcz52_0
              try clear hcz52_1
              try clear hcz52_2
              try clear hcz52_3
              try clear hcz54_0
              try clear hcz54_1
              try clear hcz54_2
              try clear hcz54_3
              try clear hcz58_0
              try clear hcz58_1
              try clear hcz58_2
              try clear hcz58_3
              try clear hcz60_0
              try clear hcz60_1
              try clear hcz60_2
              try clear hcz60_3
              try clear hcz8_0
              try clear hcz8_1
              try clear hcz8_2
              try clear hcz8_3
              try clear hfz13_0
              try clear hfz13_1
              try clear hfz13_2
              try clear hfz13_3
              try clear hfz18_0
              try clear hfz18_1
              try clear hfz18_2
              try clear hfz18_3
              try clear hfz19_0
              try clear hfz19_1
              try clear hfz19_2
              try clear hfz19_3
              try clear hfz22_0
              try clear hfz22_1
              try clear hfz22_2
              try clear hfz22_3
              try clear hfz23_0
              try clear hfz23_1
              try clear hfz23_2
              try clear hfz23_3
              try clear hfz30_0
              try clear hfz30_1
              try clear hfz30_2
              try clear hfz30_3
              try clear hfz32_0
              try clear hfz32_1
              try clear hfz32_2
              try clear hfz32_3
              try clear hfz38_0
              try clear hfz38_1
              try clear hfz38_2
              try clear hfz38_3
              try clear hfz40_0
              try clear hfz40_1
              try clear hfz40_2
              try clear hfz40_3
              try clear hfz46_0
              try clear hfz46_1
              try clear hfz46_2
              try clear hfz46_3
              try clear hfz52_0
              try clear hfz52_1
              try clear hfz52_2
              try clear hfz52_3
              try clear hfz54_0
              try clear hfz54_1
              try clear hfz54_2
              try clear hfz54_3
              try clear hfz58_0
              try clear hfz58_1
              try clear hfz58_2
              try clear hfz58_3
              try clear hfz60_0
              try clear hfz60_1
              try clear hfz60_2
              try clear hfz60_3
              try clear hfz8_0
              try clear hfz8_1
              try clear hfz8_2
              try clear hfz8_3
              try clear p2
              obtain ⟨kq, x59_35, rfl, HA, HJ35, HO_504003, HO_512003, HO_524003, BK503, BK511, BK523, HB⟩ := hcut
              have hl512003_35 := (Kd.R_reads' HO_512003.out).1
              rw [hl512003_35] at HO_512003
              (try simp only [hl512003_35])
              (try simp only [hl512003_35] at BK503)
              (try simp only [hl512003_35] at BK511)
              (try simp only [hl512003_35] at BK523)
              (try simp only [hl512003_35] at HO_504003)
              (try simp only [hl512003_35] at HO_524003)
              cases kq with
              | zero => exact absurd HA.out (by simp [laws_FnExactUnitMatrix.j1])
              | succ kj35 =>
                have H := HA.out
                clear HA
                simp only [laws_FnExactUnitMatrix.j1] at H
                by_cases c62 : x59_35 = true
                · subst c62
                  have H1 : (some false) = some r := by rw [if_pos rfl] at H; exact H
                  clear H
                  have H := H1
                  clear H1
                  obtain rfl := Option.some.inj H
                  go_wp2
                  go_ret
                  exact ⟨by first | rfl | (simp [errW_none, errW_some] <;> rfl) | (simp [*, errW_none, errW_some] <;> rfl), by repeat (first | (with_reducible first | exact HB.out | apply below_alloc | apply pw_below_drewN | apply below_drew1 | refine below_set ?_ GE503.out | refine below_set ?_ GE511.out | refine below_set ?_ GE523.out) | exact HB.out)⟩
                · replace c62 := Bool.eq_false_iff.mpr c62
                  subst c62
                  have H1 : ((laws_heldMatrix.f kj35 t504 t505 t506 t514 1).bind fun t525 => (if t525 < 0 then (some false) else (if t525 = t513 then (some true) else (some false)))) = some r := by rw [if_neg (show ¬ (false = true) by decide)] at H; exact H
                  clear H
                  have H := H1
                  clear H1
                  replace H := Option.bind_eq_some_iff.mp H
                  obtain ⟨t525, A630, H⟩ := H
                  replace H : (if t525 < 0 then (some false) else (if t525 = t513 then (some true) else (some false))) = some r := H
                  have A63 := Aside0.mk A630
                  clear A630
                  by_cases c64 : t525 < 0
                  · rw [if_pos c64] at H
                    have c64b0 : decide (t525 < 0) = true := decide_eq_true c64
                    clear c64
                    obtain rfl := Option.some.inj H
                    have hnb65 := NB511_503.out
                    have hnc65 := NB503_511.out
                    have hnb66 := NB511_523.out
                    have hnc66 := NB523_511.out
                    have hcz67_0 : wc.cell? ⟨gb511, 0, none⟩ = some (.int .i64 t504) := (blk_cell BK511.out 0).trans rfl
                    have hcz67_1 : wc.cell? ⟨gb511, 1, none⟩ = some (.int .i64 t505) := (blk_cell BK511.out 1).trans rfl
                    have hcz67_2 : wc.cell? ⟨gb511, 2, none⟩ = some (.int .i64 t506) := (blk_cell BK511.out 2).trans rfl
                    have hcz67_3 : wc.cell? ⟨gb511, 3, none⟩ = some (.slice Ao14 t514.length co14) := (blk_cell BK511.out 3).trans rfl
                    have hfz67_0 := blk_frozen BK511.out 0
                    have hfz67_1 := blk_frozen BK511.out 1
                    have hfz67_2 := blk_frozen BK511.out 2
                    have hfz67_3 := blk_frozen BK511.out 3
                    go_wp2_with (first | ((with_reducible refine gate_callee (f := 19) rfl ?_); refine goesL_ (some 62) rfl rfl Try.func19 (by kernel_rfl) rfl #[.agg #[.int .i64 t504, .int .i64 t505, .int .i64 t506, .slice Ao14 t514.length co14], .int .i64 1] rfl (by (try simp only [List.map_toArray, List.map_cons, List.map_nil]); first | done | rfl | (simp only [List.length_drop, List.length_take]; rfl)) ?_; (with_reducible refine (laws_heldMatrix.calls kj35 t504 t505 t506 _ _ t514 1 t525 _ ?side1 ?side2 A63.out).mono ?_); (case side1 => repeat (first | exact (Kd.R_reads' HO_512003.out).2.2 | (with_reducible refine Kd.C_alloc ?_ _) | (with_reducible refine Kd.C_drewN ?_ _) | (with_reducible refine Kd.C_drew ?_))); (case side2 => exact (Kd.R_reads' HO_512003.out).2.1); rintro e w68 ⟨rfl, hb⟩; refine ⟨_, rfl, ?_⟩; have n0_ := Aside0.mk (Kd.R_below (by (with_reducible repeat (first | apply Kd.R_alloc | apply Kd.R_drewN | apply Kd.R_drew)); exact HO_504003.out) hb); have n1_ := Aside0.mk (Kd.R_below (by (with_reducible repeat (first | apply Kd.R_alloc | apply Kd.R_drewN | apply Kd.R_drew)); exact HO_512003.out) hb); have n2_ := Aside0.mk (Kd.R_below (by (with_reducible repeat (first | apply Kd.R_alloc | apply Kd.R_drewN | apply Kd.R_drew)); exact HO_524003.out) hb); have n3_ := Aside0.mk (blk_below (g := gb503) (o := .cells #[.int .i64 t496, .int .i64 t497, .int .i64 t498, .slice Ao9 t499.length co9] 24 (0, 0)) (by (with_reducible repeat (first | refine blk_drewN ?_ _ | refine blk_drew ?_ | refine blk_alloc ?_ _)); exact BK503.out) hb); have n4_ := Aside0.mk (blk_below (g := gb511) (o := .cells #[.int .i64 t504, .int .i64 t505, .int .i64 t506, .slice Ao14 t514.length co14] 24 (0, 0)) (by (with_reducible repeat (first | refine blk_drewN ?_ _ | refine blk_drew ?_ | refine blk_alloc ?_ _)); exact BK511.out) hb); have n5_ := Aside0.mk (blk_below (g := gb523) (o := .cells #[.int .i64 t516, .int .i64 t517, .int .i64 t518, .slice Ao47 t519.length co47] 24 (0, 0)) (by (with_reducible repeat (first | refine blk_drewN ?_ _ | refine blk_drew ?_ | refine blk_alloc ?_ _)); exact BK523.out) hb); have n6_ := Aside0.mk (below_step (by repeat (first | (with_reducible first | exact HB.out | apply below_alloc | apply pw_below_drewN | apply below_drew1 | refine below_set ?_ GE503.out | refine below_set ?_ GE511.out | refine below_set ?_ GE523.out) | exact HB.out)) hb); clear HO_504003; clear HO_512003; clear HO_524003; clear BK503; clear BK511; clear BK523; clear HB; have HO_504003 := n0_; have HO_512003 := n1_; have HO_524003 := n2_; have BK503 := n3_; have BK511 := n4_; have BK523 := n5_; have HB := n6_; clear n0_ n1_ n2_ n3_ n4_ n5_ n6_; (try clear hb); (try clear hb2); (try clear hk); (try clear hi)))
                    go_ret
                    exact ⟨by first | rfl | (simp [errW_none, errW_some] <;> rfl) | (simp [*, errW_none, errW_some] <;> rfl), by repeat (first | (with_reducible first | exact HB.out | apply below_alloc | apply pw_below_drewN | apply below_drew1 | refine below_set ?_ GE503.out | refine below_set ?_ GE511.out | refine below_set ?_ GE523.out) | exact HB.out)⟩
                  · rw [if_neg c64] at H
                    have c64b0 : decide (t525 < 0) = false := decide_eq_false c64
                    clear c64
                    by_cases c69 : t525 = t513
                    · rw [if_pos c69] at H
                      have c69b0 : (t525 == t513) = true := beq_iff_eq.mpr c69
                      have c69b1 : (t525 != t513) = false := bne_eq_false_iff_eq.mpr c69
                      clear c69
                      obtain rfl := Option.some.inj H
                      have hnb70 := NB511_503.out
                      have hnc70 := NB503_511.out
                      have hnb71 := NB511_523.out
                      have hnc71 := NB523_511.out
                      have hcz72_0 : wc.cell? ⟨gb511, 0, none⟩ = some (.int .i64 t504) := (blk_cell BK511.out 0).trans rfl
                      have hcz72_1 : wc.cell? ⟨gb511, 1, none⟩ = some (.int .i64 t505) := (blk_cell BK511.out 1).trans rfl
                      have hcz72_2 : wc.cell? ⟨gb511, 2, none⟩ = some (.int .i64 t506) := (blk_cell BK511.out 2).trans rfl
                      have hcz72_3 : wc.cell? ⟨gb511, 3, none⟩ = some (.slice Ao14 t514.length co14) := (blk_cell BK511.out 3).trans rfl
                      have hfz72_0 := blk_frozen BK511.out 0
                      have hfz72_1 := blk_frozen BK511.out 1
                      have hfz72_2 := blk_frozen BK511.out 2
                      have hfz72_3 := blk_frozen BK511.out 3
                      go_wp2_with (first | ((with_reducible refine gate_callee (f := 19) rfl ?_); refine goesL_ (some 62) rfl rfl Try.func19 (by kernel_rfl) rfl #[.agg #[.int .i64 t504, .int .i64 t505, .int .i64 t506, .slice Ao14 t514.length co14], .int .i64 1] rfl (by (try simp only [List.map_toArray, List.map_cons, List.map_nil]); first | done | rfl | (simp only [List.length_drop, List.length_take]; rfl)) ?_; (with_reducible refine (laws_heldMatrix.calls kj35 t504 t505 t506 _ _ t514 1 t525 _ ?side1 ?side2 A63.out).mono ?_); (case side1 => repeat (first | exact (Kd.R_reads' HO_512003.out).2.2 | (with_reducible refine Kd.C_alloc ?_ _) | (with_reducible refine Kd.C_drewN ?_ _) | (with_reducible refine Kd.C_drew ?_))); (case side2 => exact (Kd.R_reads' HO_512003.out).2.1); rintro e w73 ⟨rfl, hb⟩; refine ⟨_, rfl, ?_⟩; have n0_ := Aside0.mk (Kd.R_below (by (with_reducible repeat (first | apply Kd.R_alloc | apply Kd.R_drewN | apply Kd.R_drew)); exact HO_504003.out) hb); have n1_ := Aside0.mk (Kd.R_below (by (with_reducible repeat (first | apply Kd.R_alloc | apply Kd.R_drewN | apply Kd.R_drew)); exact HO_512003.out) hb); have n2_ := Aside0.mk (Kd.R_below (by (with_reducible repeat (first | apply Kd.R_alloc | apply Kd.R_drewN | apply Kd.R_drew)); exact HO_524003.out) hb); have n3_ := Aside0.mk (blk_below (g := gb503) (o := .cells #[.int .i64 t496, .int .i64 t497, .int .i64 t498, .slice Ao9 t499.length co9] 24 (0, 0)) (by (with_reducible repeat (first | refine blk_drewN ?_ _ | refine blk_drew ?_ | refine blk_alloc ?_ _)); exact BK503.out) hb); have n4_ := Aside0.mk (blk_below (g := gb511) (o := .cells #[.int .i64 t504, .int .i64 t505, .int .i64 t506, .slice Ao14 t514.length co14] 24 (0, 0)) (by (with_reducible repeat (first | refine blk_drewN ?_ _ | refine blk_drew ?_ | refine blk_alloc ?_ _)); exact BK511.out) hb); have n5_ := Aside0.mk (blk_below (g := gb523) (o := .cells #[.int .i64 t516, .int .i64 t517, .int .i64 t518, .slice Ao47 t519.length co47] 24 (0, 0)) (by (with_reducible repeat (first | refine blk_drewN ?_ _ | refine blk_drew ?_ | refine blk_alloc ?_ _)); exact BK523.out) hb); have n6_ := Aside0.mk (below_step (by repeat (first | (with_reducible first | exact HB.out | apply below_alloc | apply pw_below_drewN | apply below_drew1 | refine below_set ?_ GE503.out | refine below_set ?_ GE511.out | refine below_set ?_ GE523.out) | exact HB.out)) hb); clear HO_504003; clear HO_512003; clear HO_524003; clear BK503; clear BK511; clear BK523; clear HB; have HO_504003 := n0_; have HO_512003 := n1_; have HO_524003 := n2_; have BK503 := n3_; have BK511 := n4_; have BK523 := n5_; have HB := n6_; clear n0_ n1_ n2_ n3_ n4_ n5_ n6_; (try clear hb); (try clear hb2); (try clear hk); (try clear hi)))
                      go_ret
                      exact ⟨by first | rfl | (simp [errW_none, errW_some] <;> rfl) | (simp [*, errW_none, errW_some] <;> rfl), by repeat (first | (with_reducible first | exact HB.out | apply below_alloc | apply pw_below_drewN | apply below_drew1 | refine below_set ?_ GE503.out | refine below_set ?_ GE511.out | refine below_set ?_ GE523.out) | exact HB.out)⟩
                    · rw [if_neg c69] at H
                      have c69b0 : (t525 == t513) = false := beq_eq_false_iff_ne.mpr c69
                      have c69b1 : (t525 != t513) = true := bne_iff_ne.mpr c69
                      obtain rfl := Option.some.inj H
                      have hnb74 := NB511_503.out
                      have hnc74 := NB503_511.out
                      have hnb75 := NB511_523.out
                      have hnc75 := NB523_511.out
                      have hcz76_0 : wc.cell? ⟨gb511, 0, none⟩ = some (.int .i64 t504) := (blk_cell BK511.out 0).trans rfl
                      have hcz76_1 : wc.cell? ⟨gb511, 1, none⟩ = some (.int .i64 t505) := (blk_cell BK511.out 1).trans rfl
                      have hcz76_2 : wc.cell? ⟨gb511, 2, none⟩ = some (.int .i64 t506) := (blk_cell BK511.out 2).trans rfl
                      have hcz76_3 : wc.cell? ⟨gb511, 3, none⟩ = some (.slice Ao14 t514.length co14) := (blk_cell BK511.out 3).trans rfl
                      have hfz76_0 := blk_frozen BK511.out 0
                      have hfz76_1 := blk_frozen BK511.out 1
                      have hfz76_2 := blk_frozen BK511.out 2
                      have hfz76_3 := blk_frozen BK511.out 3
                      go_wp2_with (first | ((with_reducible refine gate_callee (f := 19) rfl ?_); refine goesL_ (some 62) rfl rfl Try.func19 (by kernel_rfl) rfl #[.agg #[.int .i64 t504, .int .i64 t505, .int .i64 t506, .slice Ao14 t514.length co14], .int .i64 1] rfl (by (try simp only [List.map_toArray, List.map_cons, List.map_nil]); first | done | rfl | (simp only [List.length_drop, List.length_take]; rfl)) ?_; (with_reducible refine (laws_heldMatrix.calls kj35 t504 t505 t506 _ _ t514 1 t525 _ ?side1 ?side2 A63.out).mono ?_); (case side1 => repeat (first | exact (Kd.R_reads' HO_512003.out).2.2 | (with_reducible refine Kd.C_alloc ?_ _) | (with_reducible refine Kd.C_drewN ?_ _) | (with_reducible refine Kd.C_drew ?_))); (case side2 => exact (Kd.R_reads' HO_512003.out).2.1); rintro e w77 ⟨rfl, hb⟩; refine ⟨_, rfl, ?_⟩; have n0_ := Aside0.mk (Kd.R_below (by (with_reducible repeat (first | apply Kd.R_alloc | apply Kd.R_drewN | apply Kd.R_drew)); exact HO_504003.out) hb); have n1_ := Aside0.mk (Kd.R_below (by (with_reducible repeat (first | apply Kd.R_alloc | apply Kd.R_drewN | apply Kd.R_drew)); exact HO_512003.out) hb); have n2_ := Aside0.mk (Kd.R_below (by (with_reducible repeat (first | apply Kd.R_alloc | apply Kd.R_drewN | apply Kd.R_drew)); exact HO_524003.out) hb); have n3_ := Aside0.mk (blk_below (g := gb503) (o := .cells #[.int .i64 t496, .int .i64 t497, .int .i64 t498, .slice Ao9 t499.length co9] 24 (0, 0)) (by (with_reducible repeat (first | refine blk_drewN ?_ _ | refine blk_drew ?_ | refine blk_alloc ?_ _)); exact BK503.out) hb); have n4_ := Aside0.mk (blk_below (g := gb511) (o := .cells #[.int .i64 t504, .int .i64 t505, .int .i64 t506, .slice Ao14 t514.length co14] 24 (0, 0)) (by (with_reducible repeat (first | refine blk_drewN ?_ _ | refine blk_drew ?_ | refine blk_alloc ?_ _)); exact BK511.out) hb); have n5_ := Aside0.mk (blk_below (g := gb523) (o := .cells #[.int .i64 t516, .int .i64 t517, .int .i64 t518, .slice Ao47 t519.length co47] 24 (0, 0)) (by (with_reducible repeat (first | refine blk_drewN ?_ _ | refine blk_drew ?_ | refine blk_alloc ?_ _)); exact BK523.out) hb); have n6_ := Aside0.mk (below_step (by repeat (first | (with_reducible first | exact HB.out | apply below_alloc | apply pw_below_drewN | apply below_drew1 | refine below_set ?_ GE503.out | refine below_set ?_ GE511.out | refine below_set ?_ GE523.out) | exact HB.out)) hb); clear HO_504003; clear HO_512003; clear HO_524003; clear BK503; clear BK511; clear BK523; clear HB; have HO_504003 := n0_; have HO_512003 := n1_; have HO_524003 := n2_; have BK503 := n3_; have BK511 := n4_; have BK523 := n5_; have HB := n6_; clear n0_ n1_ n2_ n3_ n4_ n5_ n6_; (try clear hb); (try clear hb2); (try clear hk); (try clear hi)))
                      go_ret
                      exact ⟨by first | rfl | (simp [errW_none, errW_some] <;> rfl) | (simp [*, errW_none, errW_some] <;> rfl), by repeat (first | (with_reducible first | exact HB.out | apply below_alloc | apply pw_below_drewN | apply below_drew1 | refine below_set ?_ GE503.out | refine below_set ?_ GE511.out | refine below_set ?_ GE523.out) | exact HB.out)⟩
          · rw [if_neg c34] at H
            have c34b0 : (t515 == t513) = false := beq_eq_false_iff_ne.mpr c34
            have c34b1 : (t515 != t513) = true := bne_iff_ne.mpr c34
            obtain rfl := Option.some.inj H
            have hnb78 := NB511_503.out
            have hnc78 := NB503_511.out
            have hcz79_0 : wc.cell? ⟨gb511, 0, none⟩ = some (.int .i64 t504) := (blk_cell BK511.out 0).trans rfl
            have hcz79_1 : wc.cell? ⟨gb511, 1, none⟩ = some (.int .i64 t505) := (blk_cell BK511.out 1).trans rfl
            have hcz79_2 : wc.cell? ⟨gb511, 2, none⟩ = some (.int .i64 t506) := (blk_cell BK511.out 2).trans rfl
            have hcz79_3 : wc.cell? ⟨gb511, 3, none⟩ = some (.slice Ao14 t507.length co14) := (blk_cell BK511.out 3).trans rfl
            have hfz79_0 := blk_frozen BK511.out 0
            have hfz79_1 := blk_frozen BK511.out 1
            have hfz79_2 := blk_frozen BK511.out 2
            have hfz79_3 := blk_frozen BK511.out 3
            go_wp2_with (first | ((with_reducible refine gate_callee (f := 18) rfl ?_); refine goesL_ (some 36) rfl rfl Try.func18 (by kernel_rfl) rfl #[.agg #[.int .i64 t504, .int .i64 t505, .int .i64 t506, .slice Ao14 t507.length co14], .int .i64 1] rfl (by (try simp only [List.map_toArray, List.map_cons, List.map_nil]); first | done | rfl | (simp only [List.length_drop, List.length_take]; rfl)) ?_; (with_reducible refine (laws_markMatrix.calls kj4 t504 t505 t506 (fun k_ => some k_ = (.slice Ao14 t507.length co14 : Value).ownBlock) (.slice Ao14 t507.length co14) t507 1 t513 t514 w _ ?side1 ?side2 A26.out).mono ?_); (case side1 => repeat (first | (with_reducible first | exact HB.out | apply below_alloc | apply pw_below_drewN | apply below_drew1 | refine below_set ?_ GE503.out | refine below_set ?_ GE511.out) | exact HB.out)); (case side2 => exact Kd.R_tight rfl HO_512003.out); rintro e w80 ⟨rfl, hy0, hb, hkp⟩; refine ⟨_, rfl, ?_⟩; have n0_ := Aside0.mk (Kd.R_mono (ok' := fun k_ => some k_ ≠ (.slice Ao14 t507.length co14 : Value).ownBlock) (Kd.R_keptB (HO_504003.out) hkp (fun k_ hk_ hs_ => (hk_) hs_)) (fun k_ hk_ => hk_.1)); have n1_ := Aside0.mk (Kd.R_reok rfl hy0 (fun k_ e_ => HO_512003.out.1 k_ e_)); have n2_ := Aside0.mk (blk_kept (by (with_reducible repeat (first | refine blk_drewN ?_ _ | refine blk_drew ?_ | refine blk_alloc ?_ _)); exact BK503.out) hkp (fun hs_ => (fun e_ => (Kd.R_ne HO_512003.out BK503.out (by decide)) e_) hs_)); have n3_ := Aside0.mk (blk_kept (by (with_reducible repeat (first | refine blk_drewN ?_ _ | refine blk_drew ?_ | refine blk_alloc ?_ _)); exact BK511.out) hkp (fun hs_ => (fun e_ => (Kd.R_ne HO_512003.out BK511.out (by decide)) e_) hs_)); have n4_ := Aside0.mk (hb); clear HO_504003; clear HO_512003; clear BK503; clear BK511; clear HB; have HO_504003 := n0_; have HO_512003 := n1_; have BK503 := n2_; have BK511 := n3_; have HB := n4_; clear n0_ n1_ n2_ n3_ n4_; (try clear hb); (try clear hkp); (try clear hy0); have hcz81_0 : w80.cell? ⟨gb511, 0, none⟩ = some (.int .i64 t504) := (blk_cell BK511.out 0).trans rfl; have hcz81_1 : w80.cell? ⟨gb511, 1, none⟩ = some (.int .i64 t505) := (blk_cell BK511.out 1).trans rfl; have hcz81_2 : w80.cell? ⟨gb511, 2, none⟩ = some (.int .i64 t506) := (blk_cell BK511.out 2).trans rfl; have hcz81_3 : w80.cell? ⟨gb511, 3, none⟩ = some (.slice Ao14 t507.length co14) := (blk_cell BK511.out 3).trans rfl; have hfz81_0 := blk_frozen BK511.out 0; have hfz81_1 := blk_frozen BK511.out 1; have hfz81_2 := blk_frozen BK511.out 2; have hfz81_3 := blk_frozen BK511.out 3) | ((with_reducible refine gate_callee (f := 19) rfl ?_); refine goesL_ (some 39) rfl rfl Try.func19 (by kernel_rfl) rfl #[.agg #[.int .i64 t504, .int .i64 t505, .int .i64 t506, .slice Ao14 t514.length co14], .int .i64 1] rfl (by (try simp only [List.map_toArray, List.map_cons, List.map_nil]); first | done | (rw [show t514.length = t507.length from (Kd.R_reads' HO_512003.out).1.symm] <;> rfl) | rfl | (simp only [List.length_drop, List.length_take]; rfl)) ?_; (with_reducible refine (laws_heldMatrix.calls kj4 t504 t505 t506 _ _ t514 1 t515 _ ?side1 ?side2 A27.out).mono ?_); (case side1 => repeat (first | exact (Kd.R_reads' HO_512003.out).2.2 | (with_reducible refine Kd.C_alloc ?_ _) | (with_reducible refine Kd.C_drewN ?_ _) | (with_reducible refine Kd.C_drew ?_))); (case side2 => rw [show t514.length = t507.length from (Kd.R_reads' HO_512003.out).1.symm]; exact (Kd.R_reads' HO_512003.out).2.1); rintro e w82 ⟨rfl, hb⟩; refine ⟨_, rfl, ?_⟩; have n0_ := Aside0.mk (Kd.R_below (by (with_reducible repeat (first | apply Kd.R_alloc | apply Kd.R_drewN | apply Kd.R_drew)); exact HO_504003.out) hb); have n1_ := Aside0.mk (Kd.R_below (by (with_reducible repeat (first | apply Kd.R_alloc | apply Kd.R_drewN | apply Kd.R_drew)); exact HO_512003.out) hb); have n2_ := Aside0.mk (blk_below (g := gb503) (o := .cells #[.int .i64 t496, .int .i64 t497, .int .i64 t498, .slice Ao9 t499.length co9] 24 (0, 0)) (by (with_reducible repeat (first | refine blk_drewN ?_ _ | refine blk_drew ?_ | refine blk_alloc ?_ _)); exact BK503.out) hb); have n3_ := Aside0.mk (blk_below (g := gb511) (o := .cells #[.int .i64 t504, .int .i64 t505, .int .i64 t506, .slice Ao14 t507.length co14] 24 (0, 0)) (by (with_reducible repeat (first | refine blk_drewN ?_ _ | refine blk_drew ?_ | refine blk_alloc ?_ _)); exact BK511.out) hb); have n4_ := Aside0.mk (below_step (by repeat (first | (with_reducible first | exact HB.out | apply below_alloc | apply pw_below_drewN | apply below_drew1 | refine below_set ?_ GE503.out | refine below_set ?_ GE511.out) | exact HB.out)) hb); clear HO_504003; clear HO_512003; clear BK503; clear BK511; clear HB; have HO_504003 := n0_; have HO_512003 := n1_; have BK503 := n2_; have BK511 := n3_; have HB := n4_; clear n0_ n1_ n2_ n3_ n4_; (try clear hb); (try clear hb2); (try clear hk); (try clear hi)))
            go_ret
            exact ⟨by first | rfl | (simp [errW_none, errW_some] <;> rfl) | (simp [*, errW_none, errW_some] <;> rfl), by repeat (first | (with_reducible first | exact HB.out | apply below_alloc | apply pw_below_drewN | apply below_drew1 | refine below_set ?_ GE503.out | refine below_set ?_ GE511.out) | exact HB.out)⟩

/-- THE ONE PURE STATEMENT of laws_FnExactUnitMatrix: yours. -/
def laws_FnExactUnitMatrix.Pure : Prop := ∀ (a0 : Int) (a1 : Int), (Lit.int .i64 a0).wf = true → (Lit.int .i64 a1).wf = true → ∃ k, laws_FnExactUnitMatrix.f k a0 a1 = some true
theorem laws_FnExactUnitMatrix.walk (P : laws_FnExactUnitMatrix.Pure) (a0 : Int) (a1 : Int) (w : World) (w0 : (Lit.int .i64 a0).wf = true) (w1 : (Lit.int .i64 a1).wf = true) :
    Calls Try.prog 4 #[.int .i64 a0, .int .i64 a1] w fun e w' => e = .returned (.bool true) ∧ Below w.heap.size w w' := by
  obtain ⟨k, h⟩ := P a0 a1 w0 w1
  refine (laws_FnExactUnitMatrix.calls k a0 a1 true w h).mono ?_
  rintro e w' ⟨rfl, hd⟩
  exact ⟨rfl, hd⟩

end Go.Proofs.Ytioooobmfcmefaa.F
