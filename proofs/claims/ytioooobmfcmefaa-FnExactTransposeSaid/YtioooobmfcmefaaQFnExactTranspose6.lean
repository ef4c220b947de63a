-- Texts of this claim, merged by pack.py (a program of this session's).
import Derived.Test.YtioooobmfcmefaaQFnExactTranspose0
import Derived.Test.YtioooobmfcmefaaQFnExactTranspose4
import Derived.Test.YtioooobmfcmefaaQFnExactTranspose5
import Derived.Test.YtioooobmfcmefaaQFnExactTranspose1

section
namespace Go.Proofs.Ytioooobmfcmefaa.F
open Go.RowKit Go.Proofs.YtioooobmfcmefaaW.PrintWords Go.Proofs.YtioooobmfcmefaaW.PrintLast Go.Proofs.YtioooobmfcmefaaW.PrintMore
attribute [local go_sem] max2_int min2_int max_two min_two max_three min_three max_four min_four   -- for this text's walks alone
set_option linter.unusedVariables false
set_option linter.unusedSimpArgs false

/-! ### impl_Transpose: function 33 -/
def impl_Transpose.f (k : Nat) (a0_0 : Int) (a0_1 : Int) (a0_2 : Int) (l0_3 : List Int) : Option (Int × Int × Int × List Int × Int) := (impl_ValidMatrix.f k a0_0 a0_1 a0_2 l0_3).bind fun t841 => (if t841 = true then ((impl_transpose.f k a0_0 a0_1 a0_2 l0_3).bind fun bt842 => (some (bt842.1, bt842.2.1, bt842.2.2.1, bt842.2.2.2, 0))) else (some (0, 0, 0, ([] : List Int), 1)))
theorem impl_Transpose.mono : ∀ a0 a1 a2 a3 k, LeO (impl_Transpose.f k a0 a1 a2 a3) (impl_Transpose.f (k + 1) a0 a1 a2 a3) := by
  intro a0 a1 a2 a3 k
  unfold impl_Transpose.f
  repeat' first
      | (with_reducible exact impl_ValidMatrix.mono _ _ _ _ _)
      | (with_reducible exact impl_transpose.mono _ _ _ _ _)
      | (with_reducible exact LeO.refl _)
      | (with_reducible exact LeO.none _)
      | (with_reducible refine LeO.ite ?_ ?_)
      | (with_reducible refine LeO.bind ?_ (fun _ => ?_))
      | exact impl_ValidMatrix.mono _ _ _ _ _
      | exact impl_transpose.mono _ _ _ _ _
      | exact LeO.none _
      | refine LeO.ite ?_ ?_
      | refine LeO.bind ?_ (fun _ => ?_)
set_option maxHeartbeats 8000000 in
set_option maxRecDepth 100000 in
theorem impl_Transpose.calls (k : Nat) (a0_0 : Int) (a0_1 : Int) (a0_2 : Int) (A0_3 : Option Addr) (c0_3 : Nat) (l0_3 : List Int) (r1 : Int) (r2 : Int) (r3 : Int) (r4 : List Int) (r5 : Int) (w : World) (hr0_3 : Kd.C (Kd.int .i64) w A0_3 l0_3.length l0_3) (hc0_3 : l0_3.length ≤ c0_3) (h : impl_Transpose.f k a0_0 a0_1 a0_2 l0_3 = some (r1, r2, r3, r4, r5)) :
    Calls Try.prog 33 #[.agg #[.int .i64 a0_0, .int .i64 a0_1, .int .i64 a0_2, .slice A0_3 l0_3.length c0_3]] w fun e w' => ∃ v3_ : Value, e = .returned (.tuple #[.agg #[.int .i64 r1, .int .i64 r2, .int .i64 r3, v3_], .int .i64 r5]) ∧ Kd.R (Kd.int .i64) 2 w' w.heap.size (fun _ => True) v3_ r4 ∧ Below w.heap.size w w' := by
  have hu24 := Try.underlying24
  have HR0_3 := Aside0.mk hr0_3
  have HC0_3 := Aside0.mk hc0_3
  clear hr0_3 hc0_3
  have HB := Aside0.mk (Below.refl w.heap.size w)
  have H : ((impl_ValidMatrix.f k a0_0 a0_1 a0_2 l0_3).bind fun t841 => (if t841 = true then ((impl_transpose.f k a0_0 a0_1 a0_2 l0_3).bind fun bt842 => (some (bt842.1, bt842.2.1, bt842.2.2.1, bt842.2.2.2, 0))) else (some (0, 0, 0, ([] : List Int), 1)))) = some (r1, r2, r3, r4, r5) := h
  clear h
  replace H := Option.bind_eq_some_iff.mp H
  obtain ⟨t841, A20, H⟩ := H
  replace H : (if t841 = true then ((impl_transpose.f k a0_0 a0_1 a0_2 l0_3).bind fun bt842 => (some (bt842.1, bt842.2.1, bt842.2.2.1, bt842.2.2.2, 0))) else (some (0, 0, 0, ([] : List Int), 1))) = some (r1, r2, r3, r4, r5) := H
  have A2 := Aside0.mk A20
  clear A20
  by_cases c3 : t841 = true
  · subst c3
    have H1 : ((impl_transpose.f k a0_0 a0_1 a0_2 l0_3).bind fun bt842 => (some (bt842.1, bt842.2.1, bt842.2.2.1, bt842.2.2.2, 0))) = some (r1, r2, r3, r4, r5) := by rw [if_pos rfl] at H; exact H
    clear H
    have H := H1
    clear H1
    replace H := Option.bind_eq_some_iff.mp H
    obtain ⟨⟨t842, t843, t844, t845⟩, A40, H⟩ := H
    replace H : (some (t842, t843, t844, t845, 0)) = some (r1, r2, r3, r4, r5) := H
    have A4 := Aside0.mk A40
    clear A40
    simp only [Option.some.injEq, Prod.mk.injEq] at H
    obtain ⟨rfl, rfl, rfl, rfl, rfl⟩ := H
    go_enter Try.func33, Try.ntmps33
    go_wp2_with (first | ((with_reducible refine gate_dst (N := 1) rfl ?_); refine box_event ?hg (N := 1) ?hd (cs := #[.int .i64 a0_0, .int .i64 a0_1, .int .i64 a0_2, .slice A0_3 l0_3.length c0_3]) (t := 24) ?hr ?_; (case hd => rfl); (case hg => rfl); (case hr => first | (go_simp; done) | (go_simp; rfl)); intro gb839 hg w5 hbox hb; have n0_ := Aside0.mk (below_step (by repeat (first | (with_reducible first | exact HB.out | apply below_alloc | apply pw_below_drewN | apply below_drew1) | exact HB.out)) hb); have n1_ := Aside0.mk (hbox); have n2_ := Aside0.mk ((by rw [hg]; exact (below_size (by repeat (first | (with_reducible first | exact HB.out | apply below_alloc | apply pw_below_drewN | apply below_drew1) | exact HB.out))) : w.heap.size ≤ gb839)); have n3_ := Aside0.mk ((by rw [hg]; exact (below_size (by repeat (first | (with_reducible first | exact HB.out | apply below_alloc | apply pw_below_drewN | apply below_drew1) | exact HB.out))) : w.heap.size ≤ gb839)); clear HB; have HB := n0_; have BK839 := n1_; have GW839 := n2_; have GE839 := n3_; clear n0_ n1_ n2_ n3_; clear hb hbox hg) | ((with_reducible refine gate_dst (N := 2) rfl ?_); refine box_event ?hg (N := 2) ?hd (cs := #[.int .i64 0, .int .i64 0, .int .i64 0, .slice none 0 0]) (t := 24) ?hr ?_; (case hd => rfl); (case hg => rfl); (case hr => first | (go_simp; done) | (go_simp; rfl)); intro gb840 hg w6 hbox hb; have n0_ := Aside0.mk (blk_below (g := gb839) (o := .cells #[.int .i64 a0_0, .int .i64 a0_1, .int .i64 a0_2, .slice A0_3 l0_3.length c0_3] 24 (0, 0)) (by (with_reducible repeat (first | refine blk_drewN ?_ _ | refine blk_drew ?_ | refine blk_alloc ?_ _)); exact BK839.out) hb); have n1_ := Aside0.mk (below_step (by repeat (first | (with_reducible first | exact HB.out | apply below_alloc | apply pw_below_drewN | apply below_drew1 | refine below_set ?_ GE839.out) | exact HB.out)) hb); have n2_ := Aside0.mk (hbox); have n3_ := Aside0.mk ((by rw [hg]; exact (below_size (by repeat (first | (with_reducible first | exact HB.out | apply below_alloc | apply pw_below_drewN | apply below_drew1 | refine below_set ?_ GE839.out) | exact HB.out))) : w.heap.size ≤ gb840)); have n4_ := Aside0.mk ((by rw [hg]; exact (below_size (by repeat (first | (with_reducible first | exact HB.out | apply below_alloc | apply pw_below_drewN | apply below_drew1 | refine below_set ?_ GE839.out) | exact HB.out))) : w.heap.size ≤ gb840)); have n5_ := Aside0.mk ((by rw [hg]; exact Nat.ne_of_lt (blk_lt (g := gb839) (o := .cells #[.int .i64 a0_0, .int .i64 a0_1, .int .i64 a0_2, .slice A0_3 l0_3.length c0_3] 24 (0, 0)) (by (with_reducible repeat (first | refine blk_drewN ?_ _ | refine blk_drew ?_ | refine blk_alloc ?_ _)); exact BK839.out)) : gb839 ≠ gb840)); have n6_ := Aside0.mk ((by rw [hg]; exact Nat.ne_of_gt (blk_lt (g := gb839) (o := .cells #[.int .i64 a0_0, .int .i64 a0_1, .int .i64 a0_2, .slice A0_3 l0_3.length c0_3] 24 (0, 0)) (by (with_reducible repeat (first | refine blk_drewN ?_ _ | refine blk_drew ?_ | refine blk_alloc ?_ _)); exact BK839.out)) : gb840 ≠ gb839)); clear BK839; clear HB; have BK839 := n0_; have HB := n1_; have BK840 := n2_; have GW840 := n3_; have GE840 := n4_; have NB839_840 := n5_; have NB840_839 := n6_; clear n0_ n1_ n2_ n3_ n4_ n5_ n6_; clear hb hbox hg; have hnb7 := NB839_840.out; have hnc7 := NB840_839.out; have hcz8_0 : w6.cell? ⟨gb839, 0, none⟩ = some (.int .i64 a0_0) := (blk_cell BK839.out 0).trans rfl; have hcz8_1 : w6.cell? ⟨gb839, 1, none⟩ = some (.int .i64 a0_1) := (blk_cell BK839.out 1).trans rfl; have hcz8_2 : w6.cell? ⟨gb839, 2, none⟩ = some (.int .i64 a0_2) := (blk_cell BK839.out 2).trans rfl; have hcz8_3 : w6.cell? ⟨gb839, 3, none⟩ = some (.slice A0_3 l0_3.length c0_3) := (blk_cell BK839.out 3).trans rfl; have hfz8_0 := blk_frozen BK839.out 0; have hfz8_1 := blk_frozen BK839.out 1; have hfz8_2 := blk_frozen BK839.out 2; have hfz8_3 := blk_frozen BK839.out 3) | ((with_reducible refine gate_callee (f := 25) rfl ?_); refine goesL_ (some 5) rfl rfl Try.func25 (by kernel_rfl) rfl #[.agg #[.int .i64 a0_0, .int .i64 a0_1, .int .i64 a0_2, .slice A0_3 l0_3.length c0_3]] rfl (by (try simp only [List.map_toArray, List.map_cons, List.map_nil]); first | done | rfl | (simp only [List.length_drop, List.length_take]; rfl)) ?_; (with_reducible refine (impl_ValidMatrix.calls k a0_0 a0_1 a0_2 _ _ l0_3 true _ ?side1 ?side2 A2.out).mono ?_); (case side1 => repeat (first | exact (Kd.C_below HR0_3.out HB.out) | (with_reducible refine Kd.C_alloc ?_ _) | (with_reducible refine Kd.C_drewN ?_ _) | (with_reducible refine Kd.C_drew ?_))); (case side2 => exact HC0_3.out); rintro e w9 ⟨rfl, hb⟩; refine ⟨_, rfl, ?_⟩; have n0_ := Aside0.mk (blk_below (g := gb839) (o := .cells #[.int .i64 a0_0, .int .i64 a0_1, .int .i64 a0_2, .slice A0_3 l0_3.length c0_3] 24 (0, 0)) (by (with_reducible repeat (first | refine blk_drewN ?_ _ | refine blk_drew ?_ | refine blk_alloc ?_ _)); exact BK839.out) hb); have n1_ := Aside0.mk (blk_below (g := gb840) (o := .cells #[.int .i64 0, .int .i64 0, .int .i64 0, .slice none 0 0] 24 (0, 0)) (by (with_reducible repeat (first | refine blk_drewN ?_ _ | refine blk_drew ?_ | refine blk_alloc ?_ _)); exact BK840.out) hb); have n2_ := Aside0.mk (below_step (by repeat (first | (with_reducible first | exact HB.out | apply below_alloc | apply pw_below_drewN | apply below_drew1 | refine below_set ?_ GE839.out | refine below_set ?_ GE840.out) | exact HB.out)) hb); clear BK839; clear BK840; clear HB; have BK839 := n0_; have BK840 := n1_; have HB := n2_; clear n0_ n1_ n2_; (try clear hb); (try clear hb2); (try clear hk); (try clear hi); have hcz10_0 : w9.cell? ⟨gb839, 0, none⟩ = some (.int .i64 a0_0) := (blk_cell BK839.out 0).trans rfl; have hcz10_1 : w9.cell? ⟨gb839, 1, none⟩ = some (.int .i64 a0_1) := (blk_cell BK839.out 1).trans rfl; have hcz10_2 : w9.cell? ⟨gb839, 2, none⟩ = some (.int .i64 a0_2) := (blk_cell BK839.out 2).trans rfl; have hcz10_3 : w9.cell? ⟨gb839, 3, none⟩ = some (.slice A0_3 l0_3.length c0_3) := (blk_cell BK839.out 3).trans rfl; have hfz10_0 := blk_frozen BK839.out 0; have hfz10_1 := blk_frozen BK839.out 1; have hfz10_2 := blk_frozen BK839.out 2; have hfz10_3 := blk_frozen BK839.out 3) | ((with_reducible refine gate_callee (f := 64) rfl ?_); refine goesL_ (some 9) rfl rfl Try.func64 (by kernel_rfl) rfl #[.agg #[.int .i64 a0_0, .int .i64 a0_1, .int .i64 a0_2, .slice A0_3 l0_3.length c0_3]] rfl (by (try simp only [List.map_toArray, List.map_cons, List.map_nil]); first | done | rfl | (simp only [List.length_drop, List.length_take]; rfl)) ?_; (with_reducible refine (impl_transpose.calls k a0_0 a0_1 a0_2 _ _ l0_3 t842 t843 t844 t845 _ ?side1 ?side2 A4.out).mono ?_); (case side1 => repeat (first | exact (Kd.C_below HR0_3.out HB.out) | (with_reducible refine Kd.C_alloc ?_ _) | (with_reducible refine Kd.C_drewN ?_ _) | (with_reducible refine Kd.C_drew ?_))); (case side2 => exact HC0_3.out); rintro e w11 ⟨v846, rfl, ho0, hb⟩; refine ⟨_, rfl, ?_⟩; have n0_ := Aside0.mk (Kd.R_lower ho0 (below_size (by repeat (first | (with_reducible first | exact HB.out | apply below_alloc | apply pw_below_drewN | apply below_drew1 | refine below_set ?_ GE839.out | refine below_set ?_ GE840.out) | exact HB.out)))); have n1_ := Aside0.mk (blk_below (g := gb839) (o := .cells #[.int .i64 a0_0, .int .i64 a0_1, .int .i64 a0_2, .slice A0_3 l0_3.length c0_3] 24 (0, 0)) (by (with_reducible repeat (first | refine blk_drewN ?_ _ | refine blk_drew ?_ | refine blk_alloc ?_ _)); exact BK839.out) hb); have n2_ := Aside0.mk (blk_below (g := gb840) (o := .cells #[.int .i64 0, .int .i64 0, .int .i64 0, .slice none 0 0] 24 (0, 0)) (by (with_reducible repeat (first | refine blk_drewN ?_ _ | refine blk_drew ?_ | refine blk_alloc ?_ _)); exact BK840.out) hb); have n3_ := Aside0.mk (below_step (by repeat (first | (with_reducible first | exact HB.out | apply below_alloc | apply pw_below_drewN | apply below_drew1 | refine below_set ?_ GE839.out | refine below_set ?_ GE840.out) | exact HB.out)) hb); clear BK839; clear BK840; clear HB; have HO847 := n0_; have BK839 := n1_; have BK840 := n2_; have HB := n3_; clear n0_ n1_ n2_ n3_; (try clear hb); (try clear hb2); (try clear hk); (try clear hi); (try clear ho0); have hcz12_0 : w11.cell? ⟨gb840, 0, none⟩ = some (.int .i64 0) := (blk_cell BK840.out 0).trans rfl; have hcz12_1 : w11.cell? ⟨gb840, 1, none⟩ = some (.int .i64 0) := (blk_cell BK840.out 1).trans rfl; have hcz12_2 : w11.cell? ⟨gb840, 2, none⟩ = some (.int .i64 0) := (blk_cell BK840.out 2).trans rfl; have hcz12_3 : w11.cell? ⟨gb840, 3, none⟩ = some (.slice none 0 0) := (blk_cell BK840.out 3).trans rfl; have hfz12_0 := blk_frozen BK840.out 0; have hfz12_1 := blk_frozen BK840.out 1; have hfz12_2 := blk_frozen BK840.out 2; have hfz12_3 := blk_frozen BK840.out 3; obtain ⟨Ao13, co13, eo13⟩ := Kd.R_slice HO847.out; subst eo13))
    refine bodyPost_ret (results_ct rfl _ _ gb840 24 #[.int .i64 t842, .int .i64 t843, .int .i64 t844, .slice Ao13 t845.length co13] (0, 0) _ rfl (by (with_reducible repeat (first | refine blk_drewN ?_ _ | refine blk_drew ?_ | refine blk_alloc ?_ _)); refine blk_put (cs := #[.int .i64 t842, .int .i64 t843, .int .i64 t844, .slice none 0 0]) ?_ 3 _ rfl; (with_reducible repeat (first | refine blk_drewN ?_ _ | refine blk_drew ?_ | refine blk_alloc ?_ _)); refine blk_put (cs := #[.int .i64 t842, .int .i64 t843, .int .i64 0, .slice none 0 0]) ?_ 2 _ rfl; (with_reducible repeat (first | refine blk_drewN ?_ _ | refine blk_drew ?_ | refine blk_alloc ?_ _)); refine blk_put (cs := #[.int .i64 t842, .int .i64 0, .int .i64 0, .slice none 0 0]) ?_ 1 _ rfl; (with_reducible repeat (first | refine blk_drewN ?_ _ | refine blk_drew ?_ | refine blk_alloc ?_ _)); refine blk_put (cs := #[.int .i64 0, .int .i64 0, .int .i64 0, .slice none 0 0]) ?_ 0 _ rfl; (with_reducible repeat (first | refine blk_drewN ?_ _ | refine blk_drew ?_ | refine blk_alloc ?_ _)); exact BK840.out) Try.underlying24 rfl (by kernel_rfl)) rfl ?_
    exact ⟨_, by first | rfl | (simp [errW_none, errW_some] <;> rfl) | (simp [*, errW_none, errW_some] <;> rfl), by (with_reducible repeat (first | apply Kd.R_alloc | apply Kd.R_drewN | apply Kd.R_drew)); exact Kd.R_mono (Kd.R_far (p := ⟨gb840, 3, none⟩) (Kd.R_far (p := ⟨gb840, 2, none⟩) (Kd.R_far (p := ⟨gb840, 1, none⟩) (Kd.R_far (p := ⟨gb840, 0, none⟩) (Kd.R_types HO847.out BK840.out (by decide)) (fun _ hk => hk.2) (.int .i64 t842)) (fun _ hk => hk.2) (.int .i64 t843)) (fun _ hk => hk.2) (.int .i64 t844)) (fun _ hk => hk.2) (.slice Ao13 t845.length co13)) (fun _ hk => trivial), by repeat (first | (with_reducible first | exact HB.out | apply below_alloc | apply pw_below_drewN | apply below_drew1 | refine below_set ?_ GE839.out | refine below_set ?_ GE840.out) | exact HB.out)⟩
  · replace c3 := Bool.eq_false_iff.mpr c3
    subst c3
    have H1 : (some (0, 0, 0, ([] : List Int), 1)) = some (r1, r2, r3, r4, r5) := by rw [if_neg (show ¬ (false = true) by decide)] at H; exact H
    clear H
    have H := H1
    clear H1
    simp only [Option.some.injEq, Prod.mk.injEq] at H
    obtain ⟨rfl, rfl, rfl, rfl, rfl⟩ := H
    go_enter Try.func33, Try.ntmps33
    go_wp2_with (first | ((with_reducible refine gate_dst (N := 1) rfl ?_); refine box_event ?hg (N := 1) ?hd (cs := #[.int .i64 a0_0, .int .i64 a0_1, .int .i64 a0_2, .slice A0_3 l0_3.length c0_3]) (t := 24) ?hr ?_; (case hd => rfl); (case hg => rfl); (case hr => first | (go_simp; done) | (go_simp; rfl)); intro gb839 hg w14 hbox hb; have n0_ := Aside0.mk (below_step (by repeat (first | (with_reducible first | exact HB.out | apply below_alloc | apply pw_below_drewN | apply below_drew1) | exact HB.out)) hb); have n1_ := Aside0.mk (hbox); have n2_ := Aside0.mk ((by rw [hg]; exact (below_size (by repeat (first | (with_reducible first | exact HB.out | apply below_alloc | apply pw_below_drewN | apply below_drew1) | exact HB.out))) : w.heap.size ≤ gb839)); have n3_ := Aside0.mk ((by rw [hg]; exact (below_size (by repeat (first | (with_reducible first | exact HB.out | apply below_alloc | apply pw_below_drewN | apply below_drew1) | exact HB.out))) : w.heap.size ≤ gb839)); clear HB; have HB := n0_; have BK839 := n1_; have GW839 := n2_; have GE839 := n3_; clear n0_ n1_ n2_ n3_; clear hb hbox hg) | ((with_reducible refine gate_dst (N := 2) rfl ?_); refine box_event ?hg (N := 2) ?hd (cs := #[.int .i64 0, .int .i64 0, .int .i64 0, .slice none 0 0]) (t := 24) ?hr ?_; (case hd => rfl); (case hg => rfl); (case hr => first | (go_simp; done) | (go_simp; rfl)); intro gb840 hg w15 hbox hb; have n0_ := Aside0.mk (blk_below (g := gb839) (o := .cells #[.int .i64 a0_0, .int .i64 a0_1, .int .i64 a0_2, .slice A0_3 l0_3.length c0_3] 24 (0, 0)) (by (with_reducible repeat (first | refine blk_drewN ?_ _ | refine blk_drew ?_ | refine blk_alloc ?_ _)); exact BK839.out) hb); have n1_ := Aside0.mk (below_step (by repeat (first | (with_reducible first | exact HB.out | apply below_alloc | apply pw_below_drewN | apply below_drew1 | refine below_set ?_ GE839.out) | exact HB.out)) hb); have n2_ := Aside0.mk (hbox); have n3_ := Aside0.mk ((by rw [hg]; exact (below_size (by repeat (first | (with_reducible first | exact HB.out | apply below_alloc | apply pw_below_drewN | apply below_drew1 | refine below_set ?_ GE839.out) | exact HB.out))) : w.heap.size ≤ gb840)); have n4_ := Aside0.mk ((by rw [hg]; exact (below_size (by repeat (first | (with_reducible first | exact HB.out | apply below_alloc | apply pw_below_drewN | apply below_drew1 | refine below_set ?_ GE839.out) | exact HB.out))) : w.heap.size ≤ gb840)); have n5_ := Aside0.mk ((by rw [hg]; exact Nat.ne_of_lt (blk_lt (g := gb839) (o := .cells #[.int .i64 a0_0, .int .i64 a0_1, .int .i64 a0_2, .slice A0_3 l0_3.length c0_3] 24 (0, 0)) (by (with_reducible repeat (first | refine blk_drewN ?_ _ | refine blk_drew ?_ | refine blk_alloc ?_ _)); exact BK839.out)) : gb839 ≠ gb840)); have n6_ := Aside0.mk ((by rw [hg]; exact Nat.ne_of_gt (blk_lt (g := gb839) (o := .cells #[.int .i64 a0_0, .int .i64 a0_1, .int .i64 a0_2, .slice A0_3 l0_3.length c0_3] 24 (0, 0)) (by (with_reducible repeat (first | refine blk_drewN ?_ _ | refine blk_drew ?_ | refine blk_alloc ?_ _)); exact BK839.out)) : gb840 ≠ gb839)); clear BK839; clear HB; have BK839 := n0_; have HB := n1_; have BK840 := n2_; have GW840 := n3_; have GE840 := n4_; have NB839_840 := n5_; have NB840_839 := n6_; clear n0_ n1_ n2_ n3_ n4_ n5_ n6_; clear hb hbox hg; have hnb16 := NB839_840.out; have hnc16 := NB840_839.out; have hcz17_0 : w15.cell? ⟨gb839, 0, none⟩ = some (.int .i64 a0_0) := (blk_cell BK839.out 0).trans rfl; have hcz17_1 : w15.cell? ⟨gb839, 1, none⟩ = some (.int .i64 a0_1) := (blk_cell BK839.out 1).trans rfl; have hcz17_2 : w15.cell? ⟨gb839, 2, none⟩ = some (.int .i64 a0_2) := (blk_cell BK839.out 2).trans rfl; have hcz17_3 : w15.cell? ⟨gb839, 3, none⟩ = some (.slice A0_3 l0_3.length c0_3) := (blk_cell BK839.out 3).trans rfl; have hfz17_0 := blk_frozen BK839.out 0; have hfz17_1 := blk_frozen BK839.out 1; have hfz17_2 := blk_frozen BK839.out 2; have hfz17_3 := blk_frozen BK839.out 3) | ((with_reducible refine gate_callee (f := 25) rfl ?_); refine goesL_ (some 5) rfl rfl Try.func25 (by kernel_rfl) rfl #[.agg #[.int .i64 a0_0, .int .i64 a0_1, .int .i64 a0_2, .slice A0_3 l0_3.length c0_3]] rfl (by (try simp only [List.map_toArray, List.map_cons, List.map_nil]); first | done | rfl | (simp only [List.length_drop, List.length_take]; rfl)) ?_; (with_reducible refine (impl_ValidMatrix.calls k a0_0 a0_1 a0_2 _ _ l0_3 false _ ?side1 ?side2 A2.out).mono ?_); (case side1 => repeat (first | exact (Kd.C_below HR0_3.out HB.out) | (with_reducible refine Kd.C_alloc ?_ _) | (with_reducible refine Kd.C_drewN ?_ _) | (with_reducible refine Kd.C_drew ?_))); (case side2 => exact HC0_3.out); rintro e w18 ⟨rfl, hb⟩; refine ⟨_, rfl, ?_⟩; have n0_ := Aside0.mk (blk_below (g := gb839) (o := .cells #[.int .i64 a0_0, .int .i64 a0_1, .int .i64 a0_2, .slice A0_3 l0_3.length c0_3] 24 (0, 0)) (by (with_reducible repeat (first | refine blk_drewN ?_ _ | refine blk_drew ?_ | refine blk_alloc ?_ _)); exact BK839.out) hb); have n1_ := Aside0.mk (blk_below (g := gb840) (o := .cells #[.int .i64 0, .int .i64 0, .int .i64 0, .slice none 0 0] 24 (0, 0)) (by (with_reducible repeat (first | refine blk_drewN ?_ _ | refine blk_drew ?_ | refine blk_alloc ?_ _)); exact BK840.out) hb); have n2_ := Aside0.mk (below_step (by repeat (first | (with_reducible first | exact HB.out | apply below_alloc | apply pw_below_drewN | apply below_drew1 | refine below_set ?_ GE839.out | refine below_set ?_ GE840.out) | exact HB.out)) hb); clear BK839; clear BK840; clear HB; have BK839 := n0_; have BK840 := n1_; have HB := n2_; clear n0_ n1_ n2_; (try clear hb); (try clear hb2); (try clear hk); (try clear hi); have hcz19_0 : w18.cell? ⟨gb840, 0, none⟩ = some (.int .i64 0) := (blk_cell BK840.out 0).trans rfl; have hcz19_1 : w18.cell? ⟨gb840, 1, none⟩ = some (.int .i64 0) := (blk_cell BK840.out 1).trans rfl; have hcz19_2 : w18.cell? ⟨gb840, 2, none⟩ = some (.int .i64 0) := (blk_cell BK840.out 2).trans rfl; have hcz19_3 : w18.cell? ⟨gb840, 3, none⟩ = some (.slice none 0 0) := (blk_cell BK840.out 3).trans rfl; have hfz19_0 := blk_frozen BK840.out 0; have hfz19_1 := blk_frozen BK840.out 1; have hfz19_2 := blk_frozen BK840.out 2; have hfz19_3 := blk_frozen BK840.out 3))
    refine bodyPost_ret (results_ct rfl _ _ gb840 24 #[.int .i64 0, .int .i64 0, .int .i64 0, .slice none 0 0] (0, 0) _ rfl (by (with_reducible repeat (first | refine blk_drewN ?_ _ | refine blk_drew ?_ | refine blk_alloc ?_ _)); refine blk_put (cs := #[.int .i64 0, .int .i64 0, .int .i64 0, .slice none 0 0]) ?_ 3 _ rfl; (with_reducible repeat (first | refine blk_drewN ?_ _ | refine blk_drew ?_ | refine blk_alloc ?_ _)); refine blk_put (cs := #[.int .i64 0, .int .i64 0, .int .i64 0, .slice none 0 0]) ?_ 2 _ rfl; (with_reducible repeat (first | refine blk_drewN ?_ _ | refine blk_drew ?_ | refine blk_alloc ?_ _)); refine blk_put (cs := #[.int .i64 0, .int .i64 0, .int .i64 0, .slice none 0 0]) ?_ 1 _ rfl; (with_reducible repeat (first | refine blk_drewN ?_ _ | refine blk_drew ?_ | refine blk_alloc ?_ _)); refine blk_put (cs := #[.int .i64 0, .int .i64 0, .int .i64 0, .slice none 0 0]) ?_ 0 _ rfl; (with_reducible repeat (first | refine blk_drewN ?_ _ | refine blk_drew ?_ | refine blk_alloc ?_ _)); exact BK840.out) Try.underlying24 rfl (by kernel_rfl)) rfl ?_
    exact ⟨_, by first | rfl | (simp [errW_none, errW_some] <;> rfl) | (simp [*, errW_none, errW_some] <;> rfl), by first | exact Kd.R_nil _ _ _ _ _ | exact Kd.N_nil _ _ _ _ _ | exact Kd.V_nil _ _ _ _ _ | exact Kd.Q_nil _ _ _ _ _ | exact Kd.S_nil _ _ _ _ _, by repeat (first | (with_reducible first | exact HB.out | apply below_alloc | apply pw_below_drewN | apply below_drew1 | refine below_set ?_ GE839.out | refine below_set ?_ GE840.out) | exact HB.out)⟩

end Go.Proofs.Ytioooobmfcmefaa.F
end

section
namespace Go.Proofs.Ytioooobmfcmefaa.F
open Go.RowKit Go.Proofs.YtioooobmfcmefaaW.PrintWords Go.Proofs.YtioooobmfcmefaaW.PrintLast Go.Proofs.YtioooobmfcmefaaW.PrintMore
attribute [local go_sem] max2_int min2_int max_two min_two max_three min_three max_four min_four   -- for this text's walks alone
set_option linter.unusedVariables false
set_option linter.unusedSimpArgs false

/-! ### laws_FnExactTranspose: function 7 -/
mutual
def laws_FnExactTranspose.j0 : Nat → Int → Int → Bool → Int → Int → Int → List Int → Int → Int → Int → List Int → Int → Int → Int → List Int → Int → Int → Int → List Int → Option (Bool)
  | 0, _, _, _, _, _, _, _, _, _, _, _, _, _, _, _, _, _, _, _ => none
  | k + 1, x5, x8, x40, x849000, x849001, x849002, x849003, x864000, x864001, x864002, x864003, x871000, x871001, x871002, x871003, x879000, x879001, x879002, x879003 => if x40 = true then (some false) else ((laws_toMatrix.f k x849000 x849001 x849002 x849003).bind fun bt880 => ((laws_eqMatrix.f k x871000 x871001 x871002 x871003 bt880.1 bt880.2.1 bt880.2.2.1 bt880.2.2.2).bind fun t886 => (if t886 = true then ((laws_markMatrix.f k x871000 x871001 x871002 x871003 1).bind fun bt887 => (if bt887.1 < 0 then (laws_FnExactTranspose.j1 k x5 true x849000 x849001 x849002 x849003 x864000 x864001 x864002 x864003 x879000 x879001 x879002 x879003) else ((laws_eqMatrix.f k x879000 x879001 x879002 x879003 x864000 x864001 x864002 x864003).bind fun t889 => (if t889 = true then (laws_FnExactTranspose.j1 k x5 (x8 != x5) x849000 x849001 x849002 x849003 x864000 x864001 x864002 x864003 x879000 x879001 x879002 x879003) else (laws_FnExactTranspose.j1 k x5 true x849000 x849001 x849002 x849003 x864000 x864001 x864002 x864003 x879000 x879001 x879002 x879003))))) else (some false))))
def laws_FnExactTranspose.j1 : Nat → Int → Bool → Int → Int → Int → List Int → Int → Int → Int → List Int → Int → Int → Int → List Int → Option (Bool)
  | 0, _, _, _, _, _, _, _, _, _, _, _, _, _, _ => none
  | k + 1, x5, x61, x849000, x849001, x849002, x849003, x864000, x864001, x864002, x864003, x879000, x879001, x879002, x879003 => if x61 = true then (some false) else ((laws_markMatrix.f k x879000 x879001 x879002 x879003 1).bind fun bt890 => ((laws_heldMatrix.f k x879000 x879001 x879002 bt890.2 1).bind fun t892 => (if t892 < 0 then (some false) else (if t892 = bt890.1 then ((laws_toMatrix.f k x849000 x849001 x849002 x849003).bind fun bt893 => ((impl_Transpose.f k bt893.1 bt893.2.1 bt893.2.2.1 bt893.2.2.2).bind fun bt899 => ((laws_eqMatrix.f k bt899.1 bt899.2.1 bt899.2.2.1 bt899.2.2.2.1 x864000 x864001 x864002 x864003).bind fun t907 => (if t907 = true then (laws_FnExactTranspose.j2 k bt890.1 (bt899.2.2.2.2 != x5) x879000 x879001 x879002 bt890.2) else (laws_FnExactTranspose.j2 k bt890.1 true x879000 x879001 x879002 bt890.2))))) else (some false)))))
def laws_FnExactTranspose.j2 : Nat → Int → Bool → Int → Int → Int → List Int → Option (Bool)
  | 0, _, _, _, _, _, _ => none
  | k + 1, x10, x87, x879000, x879001, x879002, x879003 => if x87 = true then (some false) else ((laws_heldMatrix.f k x879000 x879001 x879002 x879003 1).bind fun t908 => (if t908 < 0 then (some false) else (if t908 = x10 then (some true) else (some false))))
end
def laws_FnExactTranspose.f (k : Nat) (a0_0 : Int) (a0_1 : Int) (a0_2 : Int) (l0_3 : List Int) : Option (Bool) := (laws_szMatrix.f a0_0 a0_1 a0_2 l0_3 1048576).bind fun t849 => (if t849 < 0 then (some true) else ((laws_toMatrix.f k a0_0 a0_1 a0_2 l0_3).bind fun bt850 => ((spec_Transpose.f k bt850.1 bt850.2.1 bt850.2.2.1 bt850.2.2.2).bind fun bt856 => ((laws_toMatrix.f k a0_0 a0_1 a0_2 l0_3).bind fun bt864 => ((impl_Transpose.f k bt864.1 bt864.2.1 bt864.2.2.1 bt864.2.2.2).bind fun bt871 => ((laws_eqMatrix.f k bt871.1 bt871.2.1 bt871.2.2.1 bt871.2.2.2.1 bt856.1 bt856.2.1 bt856.2.2.1 bt856.2.2.2.1).bind fun t879 => (if t879 = true then (laws_FnExactTranspose.j0 k bt856.2.2.2.2 bt871.2.2.2.2 (bt871.2.2.2.2 != bt856.2.2.2.2) a0_0 a0_1 a0_2 l0_3 bt856.1 bt856.2.1 bt856.2.2.1 bt856.2.2.2.1 bt864.1 bt864.2.1 bt864.2.2.1 bt864.2.2.2 bt871.1 bt871.2.1 bt871.2.2.1 bt871.2.2.2.1) else (laws_FnExactTranspose.j0 k bt856.2.2.2.2 bt871.2.2.2.2 true a0_0 a0_1 a0_2 l0_3 bt856.1 bt856.2.1 bt856.2.2.1 bt856.2.2.2.1 bt864.1 bt864.2.1 bt864.2.2.1 bt864.2.2.2 bt871.1 bt871.2.1 bt871.2.2.1 bt871.2.2.2.1))))))))
theorem laws_FnExactTranspose.mono_l : ∀ k, (∀ y0 y1 y2 y3 y4 y5 y6 y7 y8 y9 y10 y11 y12 y13 y14 y15 y16 y17 y18, LeO (laws_FnExactTranspose.j0 k y0 y1 y2 y3 y4 y5 y6 y7 y8 y9 y10 y11 y12 y13 y14 y15 y16 y17 y18) (laws_FnExactTranspose.j0 (k + 1) y0 y1 y2 y3 y4 y5 y6 y7 y8 y9 y10 y11 y12 y13 y14 y15 y16 y17 y18)) ∧ (∀ y0 y1 y2 y3 y4 y5 y6 y7 y8 y9 y10 y11 y12 y13, LeO (laws_FnExactTranspose.j1 k y0 y1 y2 y3 y4 y5 y6 y7 y8 y9 y10 y11 y12 y13) (laws_FnExactTranspose.j1 (k + 1) y0 y1 y2 y3 y4 y5 y6 y7 y8 y9 y10 y11 y12 y13)) ∧ (∀ y0 y1 y2 y3 y4 y5, LeO (laws_FnExactTranspose.j2 k y0 y1 y2 y3 y4 y5) (laws_FnExactTranspose.j2 (k + 1) y0 y1 y2 y3 y4 y5))
  | 0 => ⟨fun _ _ _ _ _ _ _ _ _ _ _ _ _ _ _ _ _ _ _ r h => by simp [laws_FnExactTranspose.j0] at h, fun _ _ _ _ _ _ _ _ _ _ _ _ _ _ r h => by simp [laws_FnExactTranspose.j1] at h, fun _ _ _ _ _ _ r h => by simp [laws_FnExactTranspose.j2] at h⟩
  | k + 1 => by
    obtain ⟨ih0, ih1, ih2⟩ := laws_FnExactTranspose.mono_l k
    refine ⟨?_, ?_, ?_⟩
    · intro y0 y1 y2 y3 y4 y5 y6 y7 y8 y9 y10 y11 y12 y13 y14 y15 y16 y17 y18
      unfold laws_FnExactTranspose.j0
      repeat' first
      | (with_reducible exact ih0 _ _ _ _ _ _ _ _ _ _ _ _ _ _ _ _ _ _ _)
      | (with_reducible exact ih1 _ _ _ _ _ _ _ _ _ _ _ _ _ _)
      | (with_reducible exact ih2 _ _ _ _ _ _)
      | (with_reducible exact impl_Transpose.mono _ _ _ _ _)
      | (with_reducible exact laws_eqMatrix.mono _ _ _ _ _ _ _ _ _)
      | (with_reducible exact laws_heldMatrix.mono _ _ _ _ _ _)
      | (with_reducible exact laws_markMatrix.mono _ _ _ _ _ _)
      | (with_reducible exact laws_toMatrix.mono _ _ _ _ _)
      | (with_reducible exact spec_Transpose.mono _ _ _ _ _)
      | (with_reducible exact LeO.refl _)
      | (with_reducible exact LeO.none _)
      | (with_reducible refine LeO.ite ?_ ?_)
      | (with_reducible refine LeO.bind ?_ (fun _ => ?_))
      | exact ih0 _ _ _ _ _ _ _ _ _ _ _ _ _ _ _ _ _ _ _
      | exact ih1 _ _ _ _ _ _ _ _ _ _ _ _ _ _
      | exact ih2 _ _ _ _ _ _
      | exact impl_Transpose.mono _ _ _ _ _
      | exact laws_eqMatrix.mono _ _ _ _ _ _ _ _ _
      | exact laws_heldMatrix.mono _ _ _ _ _ _
      | exact laws_markMatrix.mono _ _ _ _ _ _
      | exact laws_toMatrix.mono _ _ _ _ _
      | exact spec_Transpose.mono _ _ _ _ _
      | exact LeO.none _
      | refine LeO.ite ?_ ?_
      | refine LeO.bind ?_ (fun _ => ?_)
    · intro y0 y1 y2 y3 y4 y5 y6 y7 y8 y9 y10 y11 y12 y13
      unfold laws_FnExactTranspose.j1
      repeat' first
      | (with_reducible exact ih0 _ _ _ _ _ _ _ _ _ _ _ _ _ _ _ _ _ _ _)
      | (with_reducible exact ih1 _ _ _ _ _ _ _ _ _ _ _ _ _ _)
      | (with_reducible exact ih2 _ _ _ _ _ _)
      | (with_reducible exact impl_Transpose.mono _ _ _ _ _)
      | (with_reducible exact laws_eqMatrix.mono _ _ _ _ _ _ _ _ _)
      | (with_reducible exact laws_heldMatrix.mono _ _ _ _ _ _)
      | (with_reducible exact laws_markMatrix.mono _ _ _ _ _ _)
      | (with_reducible exact laws_toMatrix.mono _ _ _ _ _)
      | (with_reducible exact spec_Transpose.mono _ _ _ _ _)
      | (with_reducible exact LeO.refl _)
      | (with_reducible exact LeO.none _)
      | (with_reducible refine LeO.ite ?_ ?_)
      | (with_reducible refine LeO.bind ?_ (fun _ => ?_))
      | exact ih0 _ _ _ _ _ _ _ _ _ _ _ _ _ _ _ _ _ _ _
      | exact ih1 _ _ _ _ _ _ _ _ _ _ _ _ _ _
      | exact ih2 _ _ _ _ _ _
      | exact impl_Transpose.mono _ _ _ _ _
      | exact laws_eqMatrix.mono _ _ _ _ _ _ _ _ _
      | exact laws_heldMatrix.mono _ _ _ _ _ _
      | exact laws_markMatrix.mono _ _ _ _ _ _
      | exact laws_toMatrix.mono _ _ _ _ _
      | exact spec_Transpose.mono _ _ _ _ _
      | exact LeO.none _
      | refine LeO.ite ?_ ?_
      | refine LeO.bind ?_ (fun _ => ?_)
    · intro y0 y1 y2 y3 y4 y5
      unfold laws_FnExactTranspose.j2
      repeat' first
      | (with_reducible exact ih0 _ _ _ _ _ _ _ _ _ _ _ _ _ _ _ _ _ _ _)
      | (with_reducible exact ih1 _ _ _ _ _ _ _ _ _ _ _ _ _ _)
      | (with_reducible exact ih2 _ _ _ _ _ _)
      | (with_reducible exact impl_Transpose.mono _ _ _ _ _)
      | (with_reducible exact laws_eqMatrix.mono _ _ _ _ _ _ _ _ _)
      | (with_reducible exact laws_heldMatrix.mono _ _ _ _ _ _)
      | (with_reducible exact laws_markMatrix.mono _ _ _ _ _ _)
      | (with_reducible exact laws_toMatrix.mono _ _ _ _ _)
      | (with_reducible exact spec_Transpose.mono _ _ _ _ _)
      | (with_reducible exact LeO.refl _)
      | (with_reducible exact LeO.none _)
      | (with_reducible refine LeO.ite ?_ ?_)
      | (with_reducible refine LeO.bind ?_ (fun _ => ?_))
      | exact ih0 _ _ _ _ _ _ _ _ _ _ _ _ _ _ _ _ _ _ _
      | exact ih1 _ _ _ _ _ _ _ _ _ _ _ _ _ _
      | exact ih2 _ _ _ _ _ _
      | exact impl_Transpose.mono _ _ _ _ _
      | exact laws_eqMatrix.mono _ _ _ _ _ _ _ _ _
      | exact laws_heldMatrix.mono _ _ _ _ _ _
      | exact laws_markMatrix.mono _ _ _ _ _ _
      | exact laws_toMatrix.mono _ _ _ _ _
      | exact spec_Transpose.mono _ _ _ _ _
      | exact LeO.none _
      | refine LeO.ite ?_ ?_
      | refine LeO.bind ?_ (fun _ => ?_)
theorem laws_FnExactTranspose.mono : ∀ a0 a1 a2 a3 k, LeO (laws_FnExactTranspose.f k a0 a1 a2 a3) (laws_FnExactTranspose.f (k + 1) a0 a1 a2 a3) := by
  intro a0 a1 a2 a3 k
  obtain ⟨ih0, ih1, ih2⟩ := laws_FnExactTranspose.mono_l k
  unfold laws_FnExactTranspose.f
  repeat' first
      | (with_reducible exact ih0 _ _ _ _ _ _ _ _ _ _ _ _ _ _ _ _ _ _ _)
      | (with_reducible exact ih1 _ _ _ _ _ _ _ _ _ _ _ _ _ _)
      | (with_reducible exact ih2 _ _ _ _ _ _)
      | (with_reducible exact impl_Transpose.mono _ _ _ _ _)
      | (with_reducible exact laws_eqMatrix.mono _ _ _ _ _ _ _ _ _)
      | (with_reducible exact laws_heldMatrix.mono _ _ _ _ _ _)
      | (with_reducible exact laws_markMatrix.mono _ _ _ _ _ _)
      | (with_reducible exact laws_toMatrix.mono _ _ _ _ _)
      | (with_reducible exact spec_Transpose.mono _ _ _ _ _)
      | (with_reducible exact LeO.refl _)
      | (with_reducible exact LeO.none _)
      | (with_reducible refine LeO.ite ?_ ?_)
      | (with_reducible refine LeO.bind ?_ (fun _ => ?_))
      | exact ih0 _ _ _ _ _ _ _ _ _ _ _ _ _ _ _ _ _ _ _
      | exact ih1 _ _ _ _ _ _ _ _ _ _ _ _ _ _
      | exact ih2 _ _ _ _ _ _
      | exact impl_Transpose.mono _ _ _ _ _
      | exact laws_eqMatrix.mono _ _ _ _ _ _ _ _ _
      | exact laws_heldMatrix.mono _ _ _ _ _ _
      | exact laws_markMatrix.mono _ _ _ _ _ _
      | exact laws_toMatrix.mono _ _ _ _ _
      | exact spec_Transpose.mono _ _ _ _ _
      | exact LeO.none _
      | refine LeO.ite ?_ ?_
      | refine LeO.bind ?_ (fun _ => ?_)
set_option maxHeartbeats 8000000 in
set_option maxRecDepth 100000 in
theorem laws_FnExactTranspose.calls (k : Nat) (a0_0 : Int) (a0_1 : Int) (a0_2 : Int) (A0_3 : Option Addr) (c0_3 : Nat) (l0_3 : List Int) (r : Bool) (w : World) (hr0_3 : Kd.C (Kd.int .i64) w A0_3 l0_3.length l0_3) (hc0_3 : l0_3.length ≤ c0_3) (h : laws_FnExactTranspose.f k a0_0 a0_1 a0_2 l0_3 = some r) :
    Calls Try.prog 7 #[.agg #[.int .i64 a0_0, .int .i64 a0_1, .int .i64 a0_2, .slice A0_3 l0_3.length c0_3]] w fun e w' => e = .returned (.bool r) ∧ Below w.heap.size w w' := by
  have hu32 := Try.underlying32
  have hu24 := Try.underlying24
  have HR0_3 := Aside0.mk hr0_3
  have HC0_3 := Aside0.mk hc0_3
  clear hr0_3 hc0_3
  have HB := Aside0.mk (Below.refl w.heap.size w)
  have H : ((laws_szMatrix.f a0_0 a0_1 a0_2 l0_3 1048576).bind fun t849 => (if t849 < 0 then (some true) else ((laws_toMatrix.f k a0_0 a0_1 a0_2 l0_3).bind fun bt850 => ((spec_Transpose.f k bt850.1 bt850.2.1 bt850.2.2.1 bt850.2.2.2).bind fun bt856 => ((laws_toMatrix.f k a0_0 a0_1 a0_2 l0_3).bind fun bt864 => ((impl_Transpose.f k bt864.1 bt864.2.1 bt864.2.2.1 bt864.2.2.2).bind fun bt871 => ((laws_eqMatrix.f k bt871.1 bt871.2.1 bt871.2.2.1 bt871.2.2.2.1 bt856.1 bt856.2.1 bt856.2.2.1 bt856.2.2.2.1).bind fun t879 => (if t879 = true then (laws_FnExactTranspose.j0 k bt856.2.2.2.2 bt871.2.2.2.2 (bt871.2.2.2.2 != bt856.2.2.2.2) a0_0 a0_1 a0_2 l0_3 bt856.1 bt856.2.1 bt856.2.2.1 bt856.2.2.2.1 bt864.1 bt864.2.1 bt864.2.2.1 bt864.2.2.2 bt871.1 bt871.2.1 bt871.2.2.1 bt871.2.2.2.1) else (laws_FnExactTranspose.j0 k bt856.2.2.2.2 bt871.2.2.2.2 true a0_0 a0_1 a0_2 l0_3 bt856.1 bt856.2.1 bt856.2.2.1 bt856.2.2.2.1 bt864.1 bt864.2.1 bt864.2.2.1 bt864.2.2.2 bt871.1 bt871.2.1 bt871.2.2.1 bt871.2.2.2.1))))))))) = some r := h
  clear h
  replace H := Option.bind_eq_some_iff.mp H
  obtain ⟨t849, A20, H⟩ := H
  replace H : (if t849 < 0 then (some true) else ((laws_toMatrix.f k a0_0 a0_1 a0_2 l0_3).bind fun bt850 => ((spec_Transpose.f k bt850.1 bt850.2.1 bt850.2.2.1 bt850.2.2.2).bind fun bt856 => ((laws_toMatrix.f k a0_0 a0_1 a0_2 l0_3).bind fun bt864 => ((impl_Transpose.f k bt864.1 bt864.2.1 bt864.2.2.1 bt864.2.2.2).bind fun bt871 => ((laws_eqMatrix.f k bt871.1 bt871.2.1 bt871.2.2.1 bt871.2.2.2.1 bt856.1 bt856.2.1 bt856.2.2.1 bt856.2.2.2.1).bind fun t879 => (if t879 = true then (laws_FnExactTranspose.j0 k bt856.2.2.2.2 bt871.2.2.2.2 (bt871.2.2.2.2 != bt856.2.2.2.2) a0_0 a0_1 a0_2 l0_3 bt856.1 bt856.2.1 bt856.2.2.1 bt856.2.2.2.1 bt864.1 bt864.2.1 bt864.2.2.1 bt864.2.2.2 bt871.1 bt871.2.1 bt871.2.2.1 bt871.2.2.2.1) else (laws_FnExactTranspose.j0 k bt856.2.2.2.2 bt871.2.2.2.2 true a0_0 a0_1 a0_2 l0_3 bt856.1 bt856.2.1 bt856.2.2.1 bt856.2.2.2.1 bt864.1 bt864.2.1 bt864.2.2.1 bt864.2.2.2 bt871.1 bt871.2.1 bt871.2.2.1 bt871.2.2.2.1)))))))) = some r := H
  have A2 := Aside0.mk A20
  clear A20
  by_cases c3 : t849 < 0
  · rw [if_pos c3] at H
    have c3b0 : decide (t849 < 0) = true := decide_eq_true c3
    clear c3
    obtain rfl := Option.some.inj H
    go_enter Try.func7, Try.ntmps7
    go_wp2_with (first | ((with_reducible refine gate_dst (N := 1) rfl ?_); refine box_event ?hg (N := 1) ?hd (cs := #[.int .i64 a0_0, .int .i64 a0_1, .int .i64 a0_2, .slice A0_3 l0_3.length c0_3]) (t := 32) ?hr ?_; (case hd => rfl); (case hg => rfl); (case hr => first | (go_simp; done) | (go_simp; rfl)); intro gb848 hg w4 hbox hb; have n0_ := Aside0.mk (below_step (by repeat (first | (with_reducible first | exact HB.out | apply below_alloc | apply pw_below_drewN | apply below_drew1) | exact HB.out)) hb); have n1_ := Aside0.mk (hbox); have n2_ := Aside0.mk ((by rw [hg]; exact (below_size (by repeat (first | (with_reducible first | exact HB.out | apply below_alloc | apply pw_below_drewN | apply below_drew1) | exact HB.out))) : w.heap.size ≤ gb848)); have n3_ := Aside0.mk ((by rw [hg]; exact (below_size (by repeat (first | (with_reducible first | exact HB.out | apply below_alloc | apply pw_below_drewN | apply below_drew1) | exact HB.out))) : w.heap.size ≤ gb848)); clear HB; have HB := n0_; have BK848 := n1_; have GW848 := n2_; have GE848 := n3_; clear n0_ n1_ n2_ n3_; clear hb hbox hg; have hcz5_0 : w4.cell? ⟨gb848, 0, none⟩ = some (.int .i64 a0_0) := (blk_cell BK848.out 0).trans rfl; have hcz5_1 : w4.cell? ⟨gb848, 1, none⟩ = some (.int .i64 a0_1) := (blk_cell BK848.out 1).trans rfl; have hcz5_2 : w4.cell? ⟨gb848, 2, none⟩ = some (.int .i64 a0_2) := (blk_cell BK848.out 2).trans rfl; have hcz5_3 : w4.cell? ⟨gb848, 3, none⟩ = some (.slice A0_3 l0_3.length c0_3) := (blk_cell BK848.out 3).trans rfl; have hfz5_0 := blk_frozen BK848.out 0; have hfz5_1 := blk_frozen BK848.out 1; have hfz5_2 := blk_frozen BK848.out 2; have hfz5_3 := blk_frozen BK848.out 3) | ((with_reducible refine gate_callee (f := 22) rfl ?_); refine goesL_ (some 16) rfl rfl Try.func22 (by kernel_rfl) rfl #[.agg #[.int .i64 a0_0, .int .i64 a0_1, .int .i64 a0_2, .slice A0_3 l0_3.length c0_3], .int .i64 1048576] rfl (by (try simp only [List.map_toArray, List.map_cons, List.map_nil]); first | done | rfl | (simp only [List.length_drop, List.length_take]; rfl)) ?_; (with_reducible refine (laws_szMatrix.calls a0_0 a0_1 a0_2 _ _ l0_3 1048576 t849 _ ?side1 ?side2 A2.out).mono ?_); (case side1 => repeat (first | exact (Kd.C_below HR0_3.out HB.out) | (with_reducible refine Kd.C_alloc ?_ _) | (with_reducible refine Kd.C_drewN ?_ _) | (with_reducible refine Kd.C_drew ?_))); (case side2 => exact HC0_3.out); rintro e w6 ⟨rfl, hb⟩; refine ⟨_, rfl, ?_⟩; have n0_ := Aside0.mk (blk_below (g := gb848) (o := .cells #[.int .i64 a0_0, .int .i64 a0_1, .int .i64 a0_2, .slice A0_3 l0_3.length c0_3] 32 (0, 0)) (by (with_reducible repeat (first | refine blk_drewN ?_ _ | refine blk_drew ?_ | refine blk_alloc ?_ _)); exact BK848.out) hb); have n1_ := Aside0.mk (below_step (by repeat (first | (with_reducible first | exact HB.out | apply below_alloc | apply pw_below_drewN | apply below_drew1 | refine below_set ?_ GE848.out) | exact HB.out)) hb); clear BK848; clear HB; have BK848 := n0_; have HB := n1_; clear n0_ n1_; (try clear hb); (try clear hb2); (try clear hk); (try clear hi)))
    go_ret
    exact ⟨by first | rfl | (simp [errW_none, errW_some] <;> rfl) | (simp [*, errW_none, errW_some] <;> rfl), by repeat (first | (with_reducible first | exact HB.out | apply below_alloc | apply pw_below_drewN | apply below_drew1 | refine below_set ?_ GE848.out) | exact HB.out)⟩
  · rw [if_neg c3] at H
    have c3b0 : decide (t849 < 0) = false := decide_eq_false c3
    clear c3
    replace H := Option.bind_eq_some_iff.mp H
    obtain ⟨⟨t850, t851, t852, t853⟩, A70, H⟩ := H
    replace H : ((spec_Transpose.f k t850 t851 t852 t853).bind fun bt856 => ((laws_toMatrix.f k a0_0 a0_1 a0_2 l0_3).bind fun bt864 => ((impl_Transpose.f k bt864.1 bt864.2.1 bt864.2.2.1 bt864.2.2.2).bind fun bt871 => ((laws_eqMatrix.f k bt871.1 bt871.2.1 bt871.2.2.1 bt871.2.2.2.1 bt856.1 bt856.2.1 bt856.2.2.1 bt856.2.2.2.1).bind fun t879 => (if t879 = true then (laws_FnExactTranspose.j0 k bt856.2.2.2.2 bt871.2.2.2.2 (bt871.2.2.2.2 != bt856.2.2.2.2) a0_0 a0_1 a0_2 l0_3 bt856.1 bt856.2.1 bt856.2.2.1 bt856.2.2.2.1 bt864.1 bt864.2.1 bt864.2.2.1 bt864.2.2.2 bt871.1 bt871.2.1 bt871.2.2.1 bt871.2.2.2.1) else (laws_FnExactTranspose.j0 k bt856.2.2.2.2 bt871.2.2.2.2 true a0_0 a0_1 a0_2 l0_3 bt856.1 bt856.2.1 bt856.2.2.1 bt856.2.2.2.1 bt864.1 bt864.2.1 bt864.2.2.1 bt864.2.2.2 bt871.1 bt871.2.1 bt871.2.2.1 bt871.2.2.2.1)))))) = some r := H
    have A7 := Aside0.mk A70
    clear A70
    replace H := Option.bind_eq_some_iff.mp H
    obtain ⟨⟨t856, t857, t858, t859, t862⟩, A80, H⟩ := H
    replace H : ((laws_toMatrix.f k a0_0 a0_1 a0_2 l0_3).bind fun bt864 => ((impl_Transpose.f k bt864.1 bt864.2.1 bt864.2.2.1 bt864.2.2.2).bind fun bt871 => ((laws_eqMatrix.f k bt871.1 bt871.2.1 bt871.2.2.1 bt871.2.2.2.1 t856 t857 t858 t859).bind fun t879 => (if t879 = true then (laws_FnExactTranspose.j0 k t862 bt871.2.2.2.2 (bt871.2.2.2.2 != t862) a0_0 a0_1 a0_2 l0_3 t856 t857 t858 t859 bt864.1 bt864.2.1 bt864.2.2.1 bt864.2.2.2 bt871.1 bt871.2.1 bt871.2.2.1 bt871.2.2.2.1) else (laws_FnExactTranspose.j0 k t862 bt871.2.2.2.2 true a0_0 a0_1 a0_2 l0_3 t856 t857 t858 t859 bt864.1 bt864.2.1 bt864.2.2.1 bt864.2.2.2 bt871.1 bt871.2.1 bt871.2.2.1 bt871.2.2.2.1))))) = some r := H
    have A8 := Aside0.mk A80
    clear A80
    replace H := Option.bind_eq_some_iff.mp H
    obtain ⟨⟨t864, t865, t866, t867⟩, A90, H⟩ := H
    replace H : ((impl_Transpose.f k t864 t865 t866 t867).bind fun bt871 => ((laws_eqMatrix.f k bt871.1 bt871.2.1 bt871.2.2.1 bt871.2.2.2.1 t856 t857 t858 t859).bind fun t879 => (if t879 = true then (laws_FnExactTranspose.j0 k t862 bt871.2.2.2.2 (bt871.2.2.2.2 != t862) a0_0 a0_1 a0_2 l0_3 t856 t857 t858 t859 t864 t865 t866 t867 bt871.1 bt871.2.1 bt871.2.2.1 bt871.2.2.2.1) else (laws_FnExactTranspose.j0 k t862 bt871.2.2.2.2 true a0_0 a0_1 a0_2 l0_3 t856 t857 t858 t859 t864 t865 t866 t867 bt871.1 bt871.2.1 bt871.2.2.1 bt871.2.2.2.1)))) = some r := H
    have A9 := Aside0.mk A90
    clear A90
    replace H := Option.bind_eq_some_iff.mp H
    obtain ⟨⟨t871, t872, t873, t874, t877⟩, A100, H⟩ := H
    replace H : ((laws_eqMatrix.f k t871 t872 t873 t874 t856 t857 t858 t859).bind fun t879 => (if t879 = true then (laws_FnExactTranspose.j0 k t862 t877 (t877 != t862) a0_0 a0_1 a0_2 l0_3 t856 t857 t858 t859 t864 t865 t866 t867 t871 t872 t873 t874) else (laws_FnExactTranspose.j0 k t862 t877 true a0_0 a0_1 a0_2 l0_3 t856 t857 t858 t859 t864 t865 t866 t867 t871 t872 t873 t874))) = some r := H
    have A10 := Aside0.mk A100
    clear A100
    have HC11 := Aside0.mk H
    clear H
    go_enter Try.func7, Try.ntmps7
    go_upto_region 8 with (first | ((with_reducible refine gate_dst (N := 1) rfl ?_); refine box_event ?hg (N := 1) ?hd (cs := #[.int .i64 a0_0, .int .i64 a0_1, .int .i64 a0_2, .slice A0_3 l0_3.length c0_3]) (t := 32) ?hr ?_; (case hd => rfl); (case hg => rfl); (case hr => first | (go_simp; done) | (go_simp; rfl)); intro gb848 hg w12 hbox hb; have n0_ := Aside0.mk (below_step (by repeat (first | (with_reducible first | exact HB.out | apply below_alloc | apply pw_below_drewN | apply below_drew1) | exact HB.out)) hb); have n1_ := Aside0.mk (hbox); have n2_ := Aside0.mk ((by rw [hg]; exact (below_size (by repeat (first | (with_reducible first | exact HB.out | apply below_alloc | apply pw_below_drewN | apply below_drew1) | exact HB.out))) : w.heap.size ≤ gb848)); have n3_ := Aside0.mk ((by rw [hg]; exact (below_size (by repeat (first | (with_reducible first | exact HB.out | apply below_alloc | apply pw_below_drewN | apply below_drew1) | exact HB.out))) : w.heap.size ≤ gb848)); clear HB; have HB := n0_; have BK848 := n1_; have GW848 := n2_; have GE848 := n3_; clear n0_ n1_ n2_ n3_; clear hb hbox hg; have hcz13_0 : w12.cell? ⟨gb848, 0, none⟩ = some (.int .i64 a0_0) := (blk_cell BK848.out 0).trans rfl; have hcz13_1 : w12.cell? ⟨gb848, 1, none⟩ = some (.int .i64 a0_1) := (blk_cell BK848.out 1).trans rfl; have hcz13_2 : w12.cell? ⟨gb848, 2, none⟩ = some (.int .i64 a0_2) := (blk_cell BK848.out 2).trans rfl; have hcz13_3 : w12.cell? ⟨gb848, 3, none⟩ = some (.slice A0_3 l0_3.length c0_3) := (blk_cell BK848.out 3).trans rfl; have hfz13_0 := blk_frozen BK848.out 0; have hfz13_1 := blk_frozen BK848.out 1; have hfz13_2 := blk_frozen BK848.out 2; have hfz13_3 := blk_frozen BK848.out 3) | ((with_reducible refine gate_callee (f := 22) rfl ?_); refine goesL_ (some 16) rfl rfl Try.func22 (by kernel_rfl) rfl #[.agg #[.int .i64 a0_0, .int .i64 a0_1, .int .i64 a0_2, .slice A0_3 l0_3.length c0_3], .int .i64 1048576] rfl (by (try simp only [List.map_toArray, List.map_cons, List.map_nil]); first | done | rfl | (simp only [List.length_drop, List.length_take]; rfl)) ?_; (with_reducible refine (laws_szMatrix.calls a0_0 a0_1 a0_2 _ _ l0_3 1048576 t849 _ ?side1 ?side2 A2.out).mono ?_); (case side1 => repeat (first | exact (Kd.C_below HR0_3.out HB.out) | (with_reducible refine Kd.C_alloc ?_ _) | (with_reducible refine Kd.C_drewN ?_ _) | (with_reducible refine Kd.C_drew ?_))); (case side2 => exact HC0_3.out); rintro e w14 ⟨rfl, hb⟩; refine ⟨_, rfl, ?_⟩; have n0_ := Aside0.mk (blk_below (g := gb848) (o := .cells #[.int .i64 a0_0, .int .i64 a0_1, .int .i64 a0_2, .slice A0_3 l0_3.length c0_3] 32 (0, 0)) (by (with_reducible repeat (first | refine blk_drewN ?_ _ | refine blk_drew ?_ | refine blk_alloc ?_ _)); exact BK848.out) hb); have n1_ := Aside0.mk (below_step (by repeat (first | (with_reducible first | exact HB.out | apply below_alloc | apply pw_below_drewN | apply below_drew1 | refine below_set ?_ GE848.out) | exact HB.out)) hb); clear BK848; clear HB; have BK848 := n0_; have HB := n1_; clear n0_ n1_; (try clear hb); (try clear hb2); (try clear hk); (try clear hi); have hcz15_0 : w14.cell? ⟨gb848, 0, none⟩ = some (.int .i64 a0_0) := (blk_cell BK848.out 0).trans rfl; have hcz15_1 : w14.cell? ⟨gb848, 1, none⟩ = some (.int .i64 a0_1) := (blk_cell BK848.out 1).trans rfl; have hcz15_2 : w14.cell? ⟨gb848, 2, none⟩ = some (.int .i64 a0_2) := (blk_cell BK848.out 2).trans rfl; have hcz15_3 : w14.cell? ⟨gb848, 3, none⟩ = some (.slice A0_3 l0_3.length c0_3) := (blk_cell BK848.out 3).trans rfl; have hfz15_0 := blk_frozen BK848.out 0; have hfz15_1 := blk_frozen BK848.out 1; have hfz15_2 := blk_frozen BK848.out 2; have hfz15_3 := blk_frozen BK848.out 3) | ((with_reducible refine gate_callee (f := 24) rfl ?_); refine goesL_ (some 21) rfl rfl Try.func24 (by kernel_rfl) rfl #[.agg #[.int .i64 a0_0, .int .i64 a0_1, .int .i64 a0_2, .slice A0_3 l0_3.length c0_3]] rfl (by (try simp only [List.map_toArray, List.map_cons, List.map_nil]); first | done | rfl | (simp only [List.length_drop, List.length_take]; rfl)) ?_; (with_reducible refine (laws_toMatrix.calls k a0_0 a0_1 a0_2 _ _ l0_3 t850 t851 t852 t853 _ ?side1 ?side2 A7.out).mono ?_); (case side1 => repeat (first | exact (Kd.C_below HR0_3.out HB.out) | (with_reducible refine Kd.C_alloc ?_ _) | (with_reducible refine Kd.C_drewN ?_ _) | (with_reducible refine Kd.C_drew ?_))); (case side2 => exact HC0_3.out); rintro e w16 ⟨v854, rfl, ho0, hb⟩; refine ⟨_, rfl, ?_⟩; have n0_ := Aside0.mk (Kd.R_lower ho0 (below_size (by repeat (first | (with_reducible first | exact HB.out | apply below_alloc | apply pw_below_drewN | apply below_drew1 | refine below_set ?_ GE848.out) | exact HB.out)))); have n1_ := Aside0.mk (blk_below (g := gb848) (o := .cells #[.int .i64 a0_0, .int .i64 a0_1, .int .i64 a0_2, .slice A0_3 l0_3.length c0_3] 32 (0, 0)) (by (with_reducible repeat (first | refine blk_drewN ?_ _ | refine blk_drew ?_ | refine blk_alloc ?_ _)); exact BK848.out) hb); have n2_ := Aside0.mk (below_step (by repeat (first | (with_reducible first | exact HB.out | apply below_alloc | apply pw_below_drewN | apply below_drew1 | refine below_set ?_ GE848.out) | exact HB.out)) hb); clear BK848; clear HB; have HO855 := n0_; have BK848 := n1_; have HB := n2_; clear n0_ n1_ n2_; (try clear hb); (try clear hb2); (try clear hk); (try clear hi); (try clear ho0); obtain ⟨Ao17, co17, eo17⟩ := Kd.R_slice HO855.out; subst eo17) | ((with_reducible refine gate_callee (f := 32) rfl ?_); refine goesL_ (some 22) rfl rfl Try.func32 (by kernel_rfl) rfl #[.agg #[.int .i64 t850, .int .i64 t851, .int .i64 t852, .slice Ao17 t853.length co17]] rfl (by (try simp only [List.map_toArray, List.map_cons, List.map_nil]); first | done | rfl | (simp only [List.length_drop, List.length_take]; rfl)) ?_; (with_reducible refine (spec_Transpose.calls k t850 t851 t852 _ _ t853 t856 t857 t858 t859 t862 _ ?side1 ?side2 A8.out).mono ?_); (case side1 => repeat (first | exact (Kd.R_reads' HO855.out).2.2 | (with_reducible refine Kd.C_alloc ?_ _) | (with_reducible refine Kd.C_drewN ?_ _) | (with_reducible refine Kd.C_drew ?_))); (case side2 => exact (Kd.R_reads' HO855.out).2.1); rintro e w18 ⟨v860, rfl, ho0, hb⟩; refine ⟨_, rfl, ?_⟩; have n0_ := Aside0.mk (Kd.R_elder' (by (with_reducible repeat (first | apply Kd.R_alloc | apply Kd.R_drewN | apply Kd.R_drew)); exact HO855.out) (Kd.R_base ho0) hb); have n1_ := Aside0.mk (Kd.R_lower (Kd.R_new' ho0 (Kd.R_lt (by (with_reducible repeat (first | apply Kd.R_alloc | apply Kd.R_drewN | apply Kd.R_drew)); exact HO855.out))) (below_size (by repeat (first | (with_reducible first | exact HB.out | apply below_alloc | apply pw_below_drewN | apply below_drew1 | refine below_set ?_ GE848.out) | exact HB.out)))); have n2_ := Aside0.mk (blk_below (g := gb848) (o := .cells #[.int .i64 a0_0, .int .i64 a0_1, .int .i64 a0_2, .slice A0_3 l0_3.length c0_3] 32 (0, 0)) (by (with_reducible repeat (first | refine blk_drewN ?_ _ | refine blk_drew ?_ | refine blk_alloc ?_ _)); exact BK848.out) hb); have n3_ := Aside0.mk (below_step (by repeat (first | (with_reducible first | exact HB.out | apply below_alloc | apply pw_below_drewN | apply below_drew1 | refine below_set ?_ GE848.out) | exact HB.out)) hb); clear HO855; clear BK848; clear HB; have HO855 := n0_; have HO861 := n1_; have BK848 := n2_; have HB := n3_; clear n0_ n1_ n2_ n3_; (try clear hb); (try clear hb2); (try clear hk); (try clear hi); (try clear ho0)) | ((with_reducible refine gate_dst (N := 4) rfl ?_); refine box_event ?hg (N := 4) ?hd (cs := #[.int .i64 0, .int .i64 0, .int .i64 0, .slice none 0 0]) (t := 24) ?hr ?_; (case hd => rfl); (case hg => rfl); (case hr => first | (go_simp; done) | (go_simp; rfl)); intro gb863 hg w19 hbox hb; have n0_ := Aside0.mk (Kd.R_below (by (with_reducible repeat (first | apply Kd.R_alloc | apply Kd.R_drewN | apply Kd.R_drew)); exact HO855.out) hb); have n1_ := Aside0.mk (Kd.R_below (by (with_reducible repeat (first | apply Kd.R_alloc | apply Kd.R_drewN | apply Kd.R_drew)); exact HO861.out) hb); have n2_ := Aside0.mk (blk_below (g := gb848) (o := .cells #[.int .i64 a0_0, .int .i64 a0_1, .int .i64 a0_2, .slice A0_3 l0_3.length c0_3] 32 (0, 0)) (by (with_reducible repeat (first | refine blk_drewN ?_ _ | refine blk_drew ?_ | refine blk_alloc ?_ _)); exact BK848.out) hb); have n3_ := Aside0.mk (below_step (by repeat (first | (with_reducible first | exact HB.out | apply below_alloc | apply pw_below_drewN | apply below_drew1 | refine below_set ?_ GE848.out) | exact HB.out)) hb); have n4_ := Aside0.mk (hbox); have n5_ := Aside0.mk ((by rw [hg]; exact (below_size (by repeat (first | (with_reducible first | exact HB.out | apply below_alloc | apply pw_below_drewN | apply below_drew1 | refine below_set ?_ GE848.out) | exact HB.out))) : w.heap.size ≤ gb863)); have n6_ := Aside0.mk ((by rw [hg]; exact (below_size (by repeat (first | (with_reducible first | exact HB.out | apply below_alloc | apply pw_below_drewN | apply below_drew1 | refine below_set ?_ GE848.out) | exact HB.out))) : w.heap.size ≤ gb863)); have n7_ := Aside0.mk ((by rw [hg]; exact Nat.ne_of_lt (blk_lt (g := gb848) (o := .cells #[.int .i64 a0_0, .int .i64 a0_1, .int .i64 a0_2, .slice A0_3 l0_3.length c0_3] 32 (0, 0)) (by (with_reducible repeat (first | refine blk_drewN ?_ _ | refine blk_drew ?_ | refine blk_alloc ?_ _)); exact BK848.out)) : gb848 ≠ gb863)); have n8_ := Aside0.mk ((by rw [hg]; exact Nat.ne_of_gt (blk_lt (g := gb848) (o := .cells #[.int .i64 a0_0, .int .i64 a0_1, .int .i64 a0_2, .slice A0_3 l0_3.length c0_3] 32 (0, 0)) (by (with_reducible repeat (first | refine blk_drewN ?_ _ | refine blk_drew ?_ | refine blk_alloc ?_ _)); exact BK848.out)) : gb863 ≠ gb848)); clear HO855; clear HO861; clear BK848; clear HB; have HO855 := n0_; have HO861 := n1_; have BK848 := n2_; have HB := n3_; have BK863 := n4_; have GW863 := n5_; have GE863 := n6_; have NB848_863 := n7_; have NB863_848 := n8_; clear n0_ n1_ n2_ n3_ n4_ n5_ n6_ n7_ n8_; clear hb hbox hg; have hnb20 := NB863_848.out; have hnc20 := NB848_863.out; have hcz21_0 : w19.cell? ⟨gb863, 0, none⟩ = some (.int .i64 0) := (blk_cell BK863.out 0).trans rfl; have hcz21_1 : w19.cell? ⟨gb863, 1, none⟩ = some (.int .i64 0) := (blk_cell BK863.out 1).trans rfl; have hcz21_2 : w19.cell? ⟨gb863, 2, none⟩ = some (.int .i64 0) := (blk_cell BK863.out 2).trans rfl; have hcz21_3 : w19.cell? ⟨gb863, 3, none⟩ = some (.slice none 0 0) := (blk_cell BK863.out 3).trans rfl; have hfz21_0 := blk_frozen BK863.out 0; have hfz21_1 := blk_frozen BK863.out 1; have hfz21_2 := blk_frozen BK863.out 2; have hfz21_3 := blk_frozen BK863.out 3; obtain ⟨Ao22, co22, eo22⟩ := Kd.R_slice HO861.out; subst eo22; have hcz23_0 : w19.cell? ⟨gb848, 0, none⟩ = some (.int .i64 a0_0) := (blk_cell BK848.out 0).trans rfl; have hcz23_1 : w19.cell? ⟨gb848, 1, none⟩ = some (.int .i64 a0_1) := (blk_cell BK848.out 1).trans rfl; have hcz23_2 : w19.cell? ⟨gb848, 2, none⟩ = some (.int .i64 a0_2) := (blk_cell BK848.out 2).trans rfl; have hcz23_3 : w19.cell? ⟨gb848, 3, none⟩ = some (.slice A0_3 l0_3.length c0_3) := (blk_cell BK848.out 3).trans rfl; have hfz23_0 := blk_frozen BK848.out 0; have hfz23_1 := blk_frozen BK848.out 1; have hfz23_2 := blk_frozen BK848.out 2; have hfz23_3 := blk_frozen BK848.out 3) | ((with_reducible refine gate_callee (f := 24) rfl ?_); refine goesL_ (some 26) rfl rfl Try.func24 (by kernel_rfl) rfl #[.agg #[.int .i64 a0_0, .int .i64 a0_1, .int .i64 a0_2, .slice A0_3 l0_3.length c0_3]] rfl (by (try simp only [List.map_toArray, List.map_cons, List.map_nil]); first | done | rfl | (simp only [List.length_drop, List.length_take]; rfl)) ?_; (with_reducible refine (laws_toMatrix.calls k a0_0 a0_1 a0_2 _ _ l0_3 t864 t865 t866 t867 _ ?side1 ?side2 A9.out).mono ?_); (case side1 => exact Kd.C_below HR0_3.out (by repeat (first | (with_reducible first | exact HB.out | apply below_alloc | apply pw_below_drewN | apply below_drew1 | refine below_set ?_ GE848.out | refine below_set ?_ GE863.out) | exact HB.out))); (case side2 => exact HC0_3.out); rintro e w24 ⟨v868, rfl, ho0, hb⟩; refine ⟨_, rfl, ?_⟩; have n0_ := Aside0.mk (Kd.R_elder' (by (with_reducible repeat (first | apply Kd.R_alloc | apply Kd.R_drewN | apply Kd.R_drew)); exact (Kd.R_mono (Kd.R_far (p := ⟨gb863, 3, none⟩) (Kd.R_far (p := ⟨gb863, 2, none⟩) (Kd.R_far (p := ⟨gb863, 1, none⟩) (Kd.R_far (p := ⟨gb863, 0, none⟩) (Kd.R_types HO855.out BK863.out (by decide)) (fun _ hk => hk.2) (.int .i64 t856)) (fun _ hk => hk.2) (.int .i64 t857)) (fun _ hk => hk.2) (.int .i64 t858)) (fun _ hk => hk.2) (.slice Ao22 t859.length co22)) (fun _ h_ => h_.1))) (Kd.R_base ho0) hb); have n1_ := Aside0.mk (Kd.R_elder' (by (with_reducible repeat (first | apply Kd.R_alloc | apply Kd.R_drewN | apply Kd.R_drew)); exact (Kd.R_mono (Kd.R_far (p := ⟨gb863, 3, none⟩) (Kd.R_far (p := ⟨gb863, 2, none⟩) (Kd.R_far (p := ⟨gb863, 1, none⟩) (Kd.R_far (p := ⟨gb863, 0, none⟩) (Kd.R_types HO861.out BK863.out (by decide)) (fun _ hk => hk.2) (.int .i64 t856)) (fun _ hk => hk.2) (.int .i64 t857)) (fun _ hk => hk.2) (.int .i64 t858)) (fun _ hk => hk.2) (.slice Ao22 t859.length co22)) (fun _ h_ => h_.1))) (Kd.R_base ho0) hb); have n2_ := Aside0.mk (Kd.R_lower (Kd.R_new' (Kd.R_new' ho0 (Kd.R_lt (by (with_reducible repeat (first | apply Kd.R_alloc | apply Kd.R_drewN | apply Kd.R_drew)); exact (Kd.R_mono (Kd.R_far (p := ⟨gb863, 3, none⟩) (Kd.R_far (p := ⟨gb863, 2, none⟩) (Kd.R_far (p := ⟨gb863, 1, none⟩) (Kd.R_far (p := ⟨gb863, 0, none⟩) (Kd.R_types HO855.out BK863.out (by decide)) (fun _ hk => hk.2) (.int .i64 t856)) (fun _ hk => hk.2) (.int .i64 t857)) (fun _ hk => hk.2) (.int .i64 t858)) (fun _ hk => hk.2) (.slice Ao22 t859.length co22)) (fun _ h_ => h_.1))))) (Kd.R_lt (by (with_reducible repeat (first | apply Kd.R_alloc | apply Kd.R_drewN | apply Kd.R_drew)); exact (Kd.R_mono (Kd.R_far (p := ⟨gb863, 3, none⟩) (Kd.R_far (p := ⟨gb863, 2, none⟩) (Kd.R_far (p := ⟨gb863, 1, none⟩) (Kd.R_far (p := ⟨gb863, 0, none⟩) (Kd.R_types HO861.out BK863.out (by decide)) (fun _ hk => hk.2) (.int .i64 t856)) (fun _ hk => hk.2) (.int .i64 t857)) (fun _ hk => hk.2) (.int .i64 t858)) (fun _ hk => hk.2) (.slice Ao22 t859.length co22)) (fun _ h_ => h_.1))))) (below_size (by repeat (first | (with_reducible first | exact HB.out | apply below_alloc | apply pw_below_drewN | apply below_drew1 | refine below_set ?_ GE848.out | refine below_set ?_ GE863.out) | exact HB.out)))); have n3_ := Aside0.mk (blk_below (g := gb848) (o := .cells #[.int .i64 a0_0, .int .i64 a0_1, .int .i64 a0_2, .slice A0_3 l0_3.length c0_3] 32 (0, 0)) (by (with_reducible repeat (first | refine blk_drewN ?_ _ | refine blk_drew ?_ | refine blk_alloc ?_ _)); refine blk_far ?_ NB848_863.out _; (with_reducible repeat (first | refine blk_drewN ?_ _ | refine blk_drew ?_ | refine blk_alloc ?_ _)); refine blk_far ?_ NB848_863.out _; (with_reducible repeat (first | refine blk_drewN ?_ _ | refine blk_drew ?_ | refine blk_alloc ?_ _)); refine blk_far ?_ NB848_863.out _; (with_reducible repeat (first | refine blk_drewN ?_ _ | refine blk_drew ?_ | refine blk_alloc ?_ _)); refine blk_far ?_ NB848_863.out _; (with_reducible repeat (first | refine blk_drewN ?_ _ | refine blk_drew ?_ | refine blk_alloc ?_ _)); exact BK848.out) hb); have n4_ := Aside0.mk (blk_below (g := gb863) (o := .cells #[.int .i64 t856, .int .i64 t857, .int .i64 t858, .slice Ao22 t859.length co22] 24 (0, 0)) (by (with_reducible repeat (first | refine blk_drewN ?_ _ | refine blk_drew ?_ | refine blk_alloc ?_ _)); refine blk_put (cs := #[.int .i64 t856, .int .i64 t857, .int .i64 t858, .slice none 0 0]) ?_ 3 _ rfl; (with_reducible repeat (first | refine blk_drewN ?_ _ | refine blk_drew ?_ | refine blk_alloc ?_ _)); refine blk_put (cs := #[.int .i64 t856, .int .i64 t857, .int .i64 0, .slice none 0 0]) ?_ 2 _ rfl; (with_reducible repeat (first | refine blk_drewN ?_ _ | refine blk_drew ?_ | refine blk_alloc ?_ _)); refine blk_put (cs := #[.int .i64 t856, .int .i64 0, .int .i64 0, .slice none 0 0]) ?_ 1 _ rfl; (with_reducible repeat (first | refine blk_drewN ?_ _ | refine blk_drew ?_ | refine blk_alloc ?_ _)); refine blk_put (cs := #[.int .i64 0, .int .i64 0, .int .i64 0, .slice none 0 0]) ?_ 0 _ rfl; (with_reducible repeat (first | refine blk_drewN ?_ _ | refine blk_drew ?_ | refine blk_alloc ?_ _)); exact BK863.out) hb); have n5_ := Aside0.mk (below_step (by repeat (first | (with_reducible first | exact HB.out | apply below_alloc | apply pw_below_drewN | apply below_drew1 | refine below_set ?_ GE848.out | refine below_set ?_ GE863.out) | exact HB.out)) hb); clear HO855; clear HO861; clear BK848; clear BK863; clear HB; have HO855 := n0_; have HO861 := n1_; have HO869 := n2_; have BK848 := n3_; have BK863 := n4_; have HB := n5_; clear n0_ n1_ n2_ n3_ n4_ n5_; (try clear hb); (try clear hb2); (try clear hk); (try clear hi); (try clear ho0)) | ((with_reducible refine gate_dst (N := 6) rfl ?_); refine box_event ?hg (N := 6) ?hd (cs := #[.int .i64 0, .int .i64 0, .int .i64 0, .slice none 0 0]) (t := 24) ?hr ?_; (case hd => rfl); (case hg => rfl); (case hr => first | (go_simp; done) | (go_simp; rfl)); intro gb870 hg w25 hbox hb; have n0_ := Aside0.mk (Kd.R_below (by (with_reducible repeat (first | apply Kd.R_alloc | apply Kd.R_drewN | apply Kd.R_drew)); exact HO855.out) hb); have n1_ := Aside0.mk (Kd.R_below (by (with_reducible repeat (first | apply Kd.R_alloc | apply Kd.R_drewN | apply Kd.R_drew)); exact HO861.out) hb); have n2_ := Aside0.mk (Kd.R_below (by (with_reducible repeat (first | apply Kd.R_alloc | apply Kd.R_drewN | apply Kd.R_drew)); exact HO869.out) hb); have n3_ := Aside0.mk (blk_below (g := gb848) (o := .cells #[.int .i64 a0_0, .int .i64 a0_1, .int .i64 a0_2, .slice A0_3 l0_3.length c0_3] 32 (0, 0)) (by (with_reducible repeat (first | refine blk_drewN ?_ _ | refine blk_drew ?_ | refine blk_alloc ?_ _)); exact BK848.out) hb); have n4_ := Aside0.mk (blk_below (g := gb863) (o := .cells #[.int .i64 t856, .int .i64 t857, .int .i64 t858, .slice Ao22 t859.length co22] 24 (0, 0)) (by (with_reducible repeat (first | refine blk_drewN ?_ _ | refine blk_drew ?_ | refine blk_alloc ?_ _)); exact BK863.out) hb); have n5_ := Aside0.mk (below_step (by repeat (first | (with_reducible first | exact HB.out | apply below_alloc | apply pw_below_drewN | apply below_drew1 | refine below_set ?_ GE848.out | refine below_set ?_ GE863.out) | exact HB.out)) hb); have n6_ := Aside0.mk (hbox); have n7_ := Aside0.mk ((by rw [hg]; exact (below_size (by repeat (first | (with_reducible first | exact HB.out | apply below_alloc | apply pw_below_drewN | apply below_drew1 | refine below_set ?_ GE848.out | refine below_set ?_ GE863.out) | exact HB.out))) : w.heap.size ≤ gb870)); have n8_ := Aside0.mk ((by rw [hg]; exact (below_size (by repeat (first | (with_reducible first | exact HB.out | apply below_alloc | apply pw_below_drewN | apply below_drew1 | refine below_set ?_ GE848.out | refine below_set ?_ GE863.out) | exact HB.out))) : w.heap.size ≤ gb870)); have n9_ := Aside0.mk ((by rw [hg]; exact Nat.ne_of_lt (blk_lt (g := gb848) (o := .cells #[.int .i64 a0_0, .int .i64 a0_1, .int .i64 a0_2, .slice A0_3 l0_3.length c0_3] 32 (0, 0)) (by (with_reducible repeat (first | refine blk_drewN ?_ _ | refine blk_drew ?_ | refine blk_alloc ?_ _)); exact BK848.out)) : gb848 ≠ gb870)); have n10_ := Aside0.mk ((by rw [hg]; exact Nat.ne_of_gt (blk_lt (g := gb848) (o := .cells #[.int .i64 a0_0, .int .i64 a0_1, .int .i64 a0_2, .slice A0_3 l0_3.length c0_3] 32 (0, 0)) (by (with_reducible repeat (first | refine blk_drewN ?_ _ | refine blk_drew ?_ | refine blk_alloc ?_ _)); exact BK848.out)) : gb870 ≠ gb848)); have n11_ := Aside0.mk ((by rw [hg]; exact Nat.ne_of_lt (blk_lt (g := gb863) (o := .cells #[.int .i64 t856, .int .i64 t857, .int .i64 t858, .slice Ao22 t859.length co22] 24 (0, 0)) (by (with_reducible repeat (first | refine blk_drewN ?_ _ | refine blk_drew ?_ | refine blk_alloc ?_ _)); exact BK863.out)) : gb863 ≠ gb870)); have n12_ := Aside0.mk ((by rw [hg]; exact Nat.ne_of_gt (blk_lt (g := gb863) (o := .cells #[.int .i64 t856, .int .i64 t857, .int .i64 t858, .slice Ao22 t859.length co22] 24 (0, 0)) (by (with_reducible repeat (first | refine blk_drewN ?_ _ | refine blk_drew ?_ | refine blk_alloc ?_ _)); exact BK863.out)) : gb870 ≠ gb863)); clear HO855; clear HO861; clear HO869; clear BK848; clear BK863; clear HB; have HO855 := n0_; have HO861 := n1_; have HO869 := n2_; have BK848 := n3_; have BK863 := n4_; have HB := n5_; have BK870 := n6_; have GW870 := n7_; have GE870 := n8_; have NB848_870 := n9_; have NB870_848 := n10_; have NB863_870 := n11_; have NB870_863 := n12_; clear n0_ n1_ n2_ n3_ n4_ n5_ n6_ n7_ n8_ n9_ n10_ n11_ n12_; clear hb hbox hg; have hnb26 := NB870_848.out; have hnc26 := NB848_870.out; have hnb27 := NB870_863.out; have hnc27 := NB863_870.out; have hcz28_0 : w25.cell? ⟨gb870, 0, none⟩ = some (.int .i64 0) := (blk_cell BK870.out 0).trans rfl; have hcz28_1 : w25.cell? ⟨gb870, 1, none⟩ = some (.int .i64 0) := (blk_cell BK870.out 1).trans rfl; have hcz28_2 : w25.cell? ⟨gb870, 2, none⟩ = some (.int .i64 0) := (blk_cell BK870.out 2).trans rfl; have hcz28_3 : w25.cell? ⟨gb870, 3, none⟩ = some (.slice none 0 0) := (blk_cell BK870.out 3).trans rfl; have hfz28_0 := blk_frozen BK870.out 0; have hfz28_1 := blk_frozen BK870.out 1; have hfz28_2 := blk_frozen BK870.out 2; have hfz28_3 := blk_frozen BK870.out 3; obtain ⟨Ao29, co29, eo29⟩ := Kd.R_slice HO869.out; subst eo29) | ((with_reducible refine gate_callee (f := 33) rfl ?_); refine goesL_ (some 29) rfl rfl Try.func33 (by kernel_rfl) rfl #[.agg #[.int .i64 t864, .int .i64 t865, .int .i64 t866, .slice Ao29 t867.length co29]] rfl (by (try simp only [List.map_toArray, List.map_cons, List.map_nil]); first | done | rfl | (simp only [List.length_drop, List.length_take]; rfl)) ?_; (with_reducible refine (impl_Transpose.calls k t864 t865 t866 _ _ t867 t871 t872 t873 t874 t877 _ ?side1 ?side2 A10.out).mono ?_); (case side1 => refine (Kd.R_reads' (e := 2) (base := w.heap.size) (ok := fun k_ => ((True ∧ some k_ ≠ (.slice Ao17 t853.length co17 : Value).ownBlock) ∧ some k_ ≠ (.slice Ao22 t859.length co22 : Value).ownBlock)) (n := t867.length) (c := co29) ?_).2.2; exact (by (with_reducible repeat (first | apply Kd.R_alloc | apply Kd.R_drewN | apply Kd.R_drew)); exact (Kd.R_mono (Kd.R_far (p := ⟨gb870, 3, none⟩) (Kd.R_far (p := ⟨gb870, 2, none⟩) (Kd.R_far (p := ⟨gb870, 1, none⟩) (Kd.R_far (p := ⟨gb870, 0, none⟩) (Kd.R_types HO869.out BK870.out (by decide)) (fun _ hk => hk.2) (.int .i64 t864)) (fun _ hk => hk.2) (.int .i64 t865)) (fun _ hk => hk.2) (.int .i64 t866)) (fun _ hk => hk.2) (.slice Ao29 t867.length co29)) (fun _ h_ => h_.1)))); (case side2 => exact (Kd.R_reads' HO869.out).2.1); rintro e w30 ⟨v875, rfl, ho0, hb⟩; refine ⟨_, rfl, ?_⟩; have n0_ := Aside0.mk (Kd.R_elder' (by (with_reducible repeat (first | apply Kd.R_alloc | apply Kd.R_drewN | apply Kd.R_drew)); exact (Kd.R_mono (Kd.R_far (p := ⟨gb870, 3, none⟩) (Kd.R_far (p := ⟨gb870, 2, none⟩) (Kd.R_far (p := ⟨gb870, 1, none⟩) (Kd.R_far (p := ⟨gb870, 0, none⟩) (Kd.R_types HO855.out BK870.out (by decide)) (fun _ hk => hk.2) (.int .i64 t864)) (fun _ hk => hk.2) (.int .i64 t865)) (fun _ hk => hk.2) (.int .i64 t866)) (fun _ hk => hk.2) (.slice Ao29 t867.length co29)) (fun _ h_ => h_.1))) (Kd.R_base ho0) hb); have n1_ := Aside0.mk (Kd.R_elder' (by (with_reducible repeat (first | apply Kd.R_alloc | apply Kd.R_drewN | apply Kd.R_drew)); exact (Kd.R_mono (Kd.R_far (p := ⟨gb870, 3, none⟩) (Kd.R_far (p := ⟨gb870, 2, none⟩) (Kd.R_far (p := ⟨gb870, 1, none⟩) (Kd.R_far (p := ⟨gb870, 0, none⟩) (Kd.R_types HO861.out BK870.out (by decide)) (fun _ hk => hk.2) (.int .i64 t864)) (fun _ hk => hk.2) (.int .i64 t865)) (fun _ hk => hk.2) (.int .i64 t866)) (fun _ hk => hk.2) (.slice Ao29 t867.length co29)) (fun _ h_ => h_.1))) (Kd.R_base ho0) hb); have n2_ := Aside0.mk (Kd.R_elder' (by (with_reducible repeat (first | apply Kd.R_alloc | apply Kd.R_drewN | apply Kd.R_drew)); exact (Kd.R_mono (Kd.R_far (p := ⟨gb870, 3, none⟩) (Kd.R_far (p := ⟨gb870, 2, none⟩) (Kd.R_far (p := ⟨gb870, 1, none⟩) (Kd.R_far (p := ⟨gb870, 0, none⟩) (Kd.R_types HO869.out BK870.out (by decide)) (fun _ hk => hk.2) (.int .i64 t864)) (fun _ hk => hk.2) (.int .i64 t865)) (fun _ hk => hk.2) (.int .i64 t866)) (fun _ hk => hk.2) (.slice Ao29 t867.length co29)) (fun _ h_ => h_.1))) (Kd.R_base ho0) hb); have n3_ := Aside0.mk (Kd.R_lower (Kd.R_new' (Kd.R_new' (Kd.R_new' ho0 (Kd.R_lt (by (with_reducible repeat (first | apply Kd.R_alloc | apply Kd.R_drewN | apply Kd.R_drew)); exact (Kd.R_mono (Kd.R_far (p := ⟨gb870, 3, none⟩) (Kd.R_far (p := ⟨gb870, 2, none⟩) (Kd.R_far (p := ⟨gb870, 1, none⟩) (Kd.R_far (p := ⟨gb870, 0, none⟩) (Kd.R_types HO855.out BK870.out (by decide)) (fun _ hk => hk.2) (.int .i64 t864)) (fun _ hk => hk.2) (.int .i64 t865)) (fun _ hk => hk.2) (.int .i64 t866)) (fun _ hk => hk.2) (.slice Ao29 t867.length co29)) (fun _ h_ => h_.1))))) (Kd.R_lt (by (with_reducible repeat (first | apply Kd.R_alloc | apply Kd.R_drewN | apply Kd.R_drew)); exact (Kd.R_mono (Kd.R_far (p := ⟨gb870, 3, none⟩) (Kd.R_far (p := ⟨gb870, 2, none⟩) (Kd.R_far (p := ⟨gb870, 1, none⟩) (Kd.R_far (p := ⟨gb870, 0, none⟩) (Kd.R_types HO861.out BK870.out (by decide)) (fun _ hk => hk.2) (.int .i64 t864)) (fun _ hk => hk.2) (.int .i64 t865)) (fun _ hk => hk.2) (.int .i64 t866)) (fun _ hk => hk.2) (.slice Ao29 t867.length co29)) (fun _ h_ => h_.1))))) (Kd.R_lt (by (with_reducible repeat (first | apply Kd.R_alloc | apply Kd.R_drewN | apply Kd.R_drew)); exact (Kd.R_mono (Kd.R_far (p := ⟨gb870, 3, none⟩) (Kd.R_far (p := ⟨gb870, 2, none⟩) (Kd.R_far (p := ⟨gb870, 1, none⟩) (Kd.R_far (p := ⟨gb870, 0, none⟩) (Kd.R_types HO869.out BK870.out (by decide)) (fun _ hk => hk.2) (.int .i64 t864)) (fun _ hk => hk.2) (.int .i64 t865)) (fun _ hk => hk.2) (.int .i64 t866)) (fun _ hk => hk.2) (.slice Ao29 t867.length co29)) (fun _ h_ => h_.1))))) (below_size (by repeat (first | (with_reducible first | exact HB.out | apply below_alloc | apply pw_below_drewN | apply below_drew1 | refine below_set ?_ GE848.out | refine below_set ?_ GE863.out | refine below_set ?_ GE870.out) | exact HB.out)))); have n4_ := Aside0.mk (blk_below (g := gb848) (o := .cells #[.int .i64 a0_0, .int .i64 a0_1, .int .i64 a0_2, .slice A0_3 l0_3.length c0_3] 32 (0, 0)) (by (with_reducible repeat (first | refine blk_drewN ?_ _ | refine blk_drew ?_ | refine blk_alloc ?_ _)); refine blk_far ?_ NB848_870.out _; (with_reducible repeat (first | refine blk_drewN ?_ _ | refine blk_drew ?_ | refine blk_alloc ?_ _)); refine blk_far ?_ NB848_870.out _; (with_reducible repeat (first | refine blk_drewN ?_ _ | refine blk_drew ?_ | refine blk_alloc ?_ _)); refine blk_far ?_ NB848_870.out _; (with_reducible repeat (first | refine blk_drewN ?_ _ | refine blk_drew ?_ | refine blk_alloc ?_ _)); refine blk_far ?_ NB848_870.out _; (with_reducible repeat (first | refine blk_drewN ?_ _ | refine blk_drew ?_ | refine blk_alloc ?_ _)); exact BK848.out) hb); have n5_ := Aside0.mk (blk_below (g := gb863) (o := .cells #[.int .i64 t856, .int .i64 t857, .int .i64 t858, .slice Ao22 t859.length co22] 24 (0, 0)) (by (with_reducible repeat (first | refine blk_drewN ?_ _ | refine blk_drew ?_ | refine blk_alloc ?_ _)); refine blk_far ?_ NB863_870.out _; (with_reducible repeat (first | refine blk_drewN ?_ _ | refine blk_drew ?_ | refine blk_alloc ?_ _)); refine blk_far ?_ NB863_870.out _; (with_reducible repeat (first | refine blk_drewN ?_ _ | refine blk_drew ?_ | refine blk_alloc ?_ _)); refine blk_far ?_ NB863_870.out _; (with_reducible repeat (first | refine blk_drewN ?_ _ | refine blk_drew ?_ | refine blk_alloc ?_ _)); refine blk_far ?_ NB863_870.out _; (with_reducible repeat (first | refine blk_drewN ?_ _ | refine blk_drew ?_ | refine blk_alloc ?_ _)); exact BK863.out) hb); have n6_ := Aside0.mk (blk_below (g := gb870) (o := .cells #[.int .i64 t864, .int .i64 t865, .int .i64 t866, .slice Ao29 t867.length co29] 24 (0, 0)) (by (with_reducible repeat (first | refine blk_drewN ?_ _ | refine blk_drew ?_ | refine blk_alloc ?_ _)); refine blk_put (cs := #[.int .i64 t864, .int .i64 t865, .int .i64 t866, .slice none 0 0]) ?_ 3 _ rfl; (with_reducible repeat (first | refine blk_drewN ?_ _ | refine blk_drew ?_ | refine blk_alloc ?_ _)); refine blk_put (cs := #[.int .i64 t864, .int .i64 t865, .int .i64 0, .slice none 0 0]) ?_ 2 _ rfl; (with_reducible repeat (first | refine blk_drewN ?_ _ | refine blk_drew ?_ | refine blk_alloc ?_ _)); refine blk_put (cs := #[.int .i64 t864, .int .i64 0, .int .i64 0, .slice none 0 0]) ?_ 1 _ rfl; (with_reducible repeat (first | refine blk_drewN ?_ _ | refine blk_drew ?_ | refine blk_alloc ?_ _)); refine blk_put (cs := #[.int .i64 0, .int .i64 0, .int .i64 0, .slice none 0 0]) ?_ 0 _ rfl; (with_reducible repeat (first | refine blk_drewN ?_ _ | refine blk_drew ?_ | refine blk_alloc ?_ _)); exact BK870.out) hb); have n7_ := Aside0.mk (below_step (by repeat (first | (with_reducible first | exact HB.out | apply below_alloc | apply pw_below_drewN | apply below_drew1 | refine below_set ?_ GE848.out | refine below_set ?_ GE863.out | refine below_set ?_ GE870.out) | exact HB.out)) hb); clear HO855; clear HO861; clear HO869; clear BK848; clear BK863; clear BK870; clear HB; have HO855 := n0_; have HO861 := n1_; have HO869 := n2_; have HO876 := n3_; have BK848 := n4_; have BK863 := n5_; have BK870 := n6_; have HB := n7_; clear n0_ n1_ n2_ n3_ n4_ n5_ n6_ n7_; (try clear hb); (try clear hb2); (try clear hk); (try clear hi); (try clear ho0)) | ((with_reducible refine gate_dst (N := 7) rfl ?_); refine box_event ?hg (N := 7) ?hd (cs := #[.int .i64 0, .int .i64 0, .int .i64 0, .slice none 0 0]) (t := 24) ?hr ?_; (case hd => rfl); (case hg => rfl); (case hr => first | (go_simp; done) | (go_simp; rfl)); intro gb878 hg w31 hbox hb; have n0_ := Aside0.mk (Kd.R_below (by (with_reducible repeat (first | apply Kd.R_alloc | apply Kd.R_drewN | apply Kd.R_drew)); exact HO855.out) hb); have n1_ := Aside0.mk (Kd.R_below (by (with_reducible repeat (first | apply Kd.R_alloc | apply Kd.R_drewN | apply Kd.R_drew)); exact HO861.out) hb); have n2_ := Aside0.mk (Kd.R_below (by (with_reducible repeat (first | apply Kd.R_alloc | apply Kd.R_drewN | apply Kd.R_drew)); exact HO869.out) hb); have n3_ := Aside0.mk (Kd.R_below (by (with_reducible repeat (first | apply Kd.R_alloc | apply Kd.R_drewN | apply Kd.R_drew)); exact HO876.out) hb); have n4_ := Aside0.mk (blk_below (g := gb848) (o := .cells #[.int .i64 a0_0, .int .i64 a0_1, .int .i64 a0_2, .slice A0_3 l0_3.length c0_3] 32 (0, 0)) (by (with_reducible repeat (first | refine blk_drewN ?_ _ | refine blk_drew ?_ | refine blk_alloc ?_ _)); exact BK848.out) hb); have n5_ := Aside0.mk (blk_below (g := gb863) (o := .cells #[.int .i64 t856, .int .i64 t857, .int .i64 t858, .slice Ao22 t859.length co22] 24 (0, 0)) (by (with_reducible repeat (first | refine blk_drewN ?_ _ | refine blk_drew ?_ | refine blk_alloc ?_ _)); exact BK863.out) hb); have n6_ := Aside0.mk (blk_below (g := gb870) (o := .cells #[.int .i64 t864, .int .i64 t865, .int .i64 t866, .slice Ao29 t867.length co29] 24 (0, 0)) (by (with_reducible repeat (first | refine blk_drewN ?_ _ | refine blk_drew ?_ | refine blk_alloc ?_ _)); exact BK870.out) hb); have n7_ := Aside0.mk (below_step (by repeat (first | (with_reducible first | exact HB.out | apply below_alloc | apply pw_below_drewN | apply below_drew1 | refine below_set ?_ GE848.out | refine below_set ?_ GE863.out | refine below_set ?_ GE870.out) | exact HB.out)) hb); have n8_ := Aside0.mk (hbox); have n9_ := Aside0.mk ((by rw [hg]; exact (below_size (by repeat (first | (with_reducible first | exact HB.out | apply below_alloc | apply pw_below_drewN | apply below_drew1 | refine below_set ?_ GE848.out | refine below_set ?_ GE863.out | refine below_set ?_ GE870.out) | exact HB.out))) : w.heap.size ≤ gb878)); have n10_ := Aside0.mk ((by rw [hg]; exact (below_size (by repeat (first | (with_reducible first | exact HB.out | apply below_alloc | apply pw_below_drewN | apply below_drew1 | refine below_set ?_ GE848.out | refine below_set ?_ GE863.out | refine below_set ?_ GE870.out) | exact HB.out))) : w.heap.size ≤ gb878)); have n11_ := Aside0.mk ((by rw [hg]; exact Nat.ne_of_lt (blk_lt (g := gb848) (o := .cells #[.int .i64 a0_0, .int .i64 a0_1, .int .i64 a0_2, .slice A0_3 l0_3.length c0_3] 32 (0, 0)) (by (with_reducible repeat (first | refine blk_drewN ?_ _ | refine blk_drew ?_ | refine blk_alloc ?_ _)); exact BK848.out)) : gb848 ≠ gb878)); have n12_ := Aside0.mk ((by rw [hg]; exact Nat.ne_of_gt (blk_lt (g := gb848) (o := .cells #[.int .i64 a0_0, .int .i64 a0_1, .int .i64 a0_2, .slice A0_3 l0_3.length c0_3] 32 (0, 0)) (by (with_reducible repeat (first | refine blk_drewN ?_ _ | refine blk_drew ?_ | refine blk_alloc ?_ _)); exact BK848.out)) : gb878 ≠ gb848)); have n13_ := Aside0.mk ((by rw [hg]; exact Nat.ne_of_lt (blk_lt (g := gb863) (o := .cells #[.int .i64 t856, .int .i64 t857, .int .i64 t858, .slice Ao22 t859.length co22] 24 (0, 0)) (by (with_reducible repeat (first | refine blk_drewN ?_ _ | refine blk_drew ?_ | refine blk_alloc ?_ _)); exact BK863.out)) : gb863 ≠ gb878)); have n14_ := Aside0.mk ((by rw [hg]; exact Nat.ne_of_gt (blk_lt (g := gb863) (o := .cells #[.int .i64 t856, .int .i64 t857, .int .i64 t858, .slice Ao22 t859.length co22] 24 (0, 0)) (by (with_reducible repeat (first | refine blk_drewN ?_ _ | refine blk_drew ?_ | refine blk_alloc ?_ _)); exact BK863.out)) : gb878 ≠ gb863)); have n15_ := Aside0.mk ((by rw [hg]; exact Nat.ne_of_lt (blk_lt (g := gb870) (o := .cells #[.int .i64 t864, .int .i64 t865, .int .i64 t866, .slice Ao29 t867.length co29] 24 (0, 0)) (by (with_reducible repeat (first | refine blk_drewN ?_ _ | refine blk_drew ?_ | refine blk_alloc ?_ _)); exact BK870.out)) : gb870 ≠ gb878)); have n16_ := Aside0.mk ((by rw [hg]; exact Nat.ne_of_gt (blk_lt (g := gb870) (o := .cells #[.int .i64 t864, .int .i64 t865, .int .i64 t866, .slice Ao29 t867.length co29] 24 (0, 0)) (by (with_reducible repeat (first | refine blk_drewN ?_ _ | refine blk_drew ?_ | refine blk_alloc ?_ _)); exact BK870.out)) : gb878 ≠ gb870)); clear HO855; clear HO861; clear HO869; clear HO876; clear BK848; clear BK863; clear BK870; clear HB; have HO855 := n0_; have HO861 := n1_; have HO869 := n2_; have HO876 := n3_; have BK848 := n4_; have BK863 := n5_; have BK870 := n6_; have HB := n7_; have BK878 := n8_; have GW878 := n9_; have GE878 := n10_; have NB848_878 := n11_; have NB878_848 := n12_; have NB863_878 := n13_; have NB878_863 := n14_; have NB870_878 := n15_; have NB878_870 := n16_; clear n0_ n1_ n2_ n3_ n4_ n5_ n6_ n7_ n8_ n9_ n10_ n11_ n12_ n13_ n14_ n15_ n16_; clear hb hbox hg; have hnb32 := NB878_848.out; have hnc32 := NB848_878.out; have hnb33 := NB878_863.out; have hnc33 := NB863_878.out; have hnb34 := NB878_870.out; have hnc34 := NB870_878.out; have hcz35_0 : w31.cell? ⟨gb878, 0, none⟩ = some (.int .i64 0) := (blk_cell BK878.out 0).trans rfl; have hcz35_1 : w31.cell? ⟨gb878, 1, none⟩ = some (.int .i64 0) := (blk_cell BK878.out 1).trans rfl; have hcz35_2 : w31.cell? ⟨gb878, 2, none⟩ = some (.int .i64 0) := (blk_cell BK878.out 2).trans rfl; have hcz35_3 : w31.cell? ⟨gb878, 3, none⟩ = some (.slice none 0 0) := (blk_cell BK878.out 3).trans rfl; have hfz35_0 := blk_frozen BK878.out 0; have hfz35_1 := blk_frozen BK878.out 1; have hfz35_2 := blk_frozen BK878.out 2; have hfz35_3 := blk_frozen BK878.out 3; obtain ⟨Ao36, co36, eo36⟩ := Kd.R_slice HO876.out; subst eo36))
    (try simp only [Act.put, List.setIfInBounds_toArray, List.set_cons_zero, List.set_cons_succ])
    go_cut [40] (fun v40 wc => ∃ (kq : Nat) (x40_10 : Bool), v40 = .bool x40_10 ∧ Aside0 (laws_FnExactTranspose.j0 kq t862 t877 x40_10 a0_0 a0_1 a0_2 l0_3 t856 t857 t858 t859 t864 t865 t866 t867 t871 t872 t873 t874 = some r) ∧ Aside0 (kq ≤ k) ∧ Aside0 (Kd.R (Kd.int .i64) 2 wc w.heap.size (fun k_ => some k_ ≠ ((.slice Ao29 t867.length co29) : Value).ownBlock ∧ some k_ ≠ ((.slice Ao36 t874.length co36) : Value).ownBlock) (.slice Ao22 t859.length co22) t859) ∧ Aside0 (Kd.R (Kd.int .i64) 2 wc w.heap.size (fun k_ => some k_ ≠ ((.slice Ao22 t859.length co22) : Value).ownBlock ∧ some k_ ≠ ((.slice Ao36 t874.length co36) : Value).ownBlock) (.slice Ao29 t867.length co29) t867) ∧ Aside0 (Kd.R (Kd.int .i64) 2 wc w.heap.size (fun k_ => some k_ ≠ ((.slice Ao22 t859.length co22) : Value).ownBlock ∧ some k_ ≠ ((.slice Ao29 t867.length co29) : Value).ownBlock) (.slice Ao36 t874.length co36) t874) ∧ Aside0 (wc.heap[gb848]? = some (.cells #[.int .i64 a0_0, .int .i64 a0_1, .int .i64 a0_2, (.slice A0_3 l0_3.length c0_3)] 32 (0, 0))) ∧ Aside0 (wc.heap[gb863]? = some (.cells #[.int .i64 t856, .int .i64 t857, .int .i64 t858, (.slice Ao22 t859.length co22)] 24 (0, 0))) ∧ Aside0 (wc.heap[gb870]? = some (.cells #[.int .i64 t864, .int .i64 t865, .int .i64 t866, (.slice Ao29 t867.length co29)] 24 (0, 0))) ∧ Aside0 (wc.heap[gb878]? = some (.cells #[.int .i64 t871, .int .i64 t872, .int .i64 t873, (.slice Ao36 t874.length co36)] 24 (0, 0))) ∧ Aside0 (Below w.heap.size w wc))
    case first =>
      have H := HC11.out
      clear HC11
      replace H := Option.bind_eq_some_iff.mp H
      obtain ⟨t879, A370, H⟩ := H
      replace H : (if t879 = true then (laws_FnExactTranspose.j0 k t862 t877 (t877 != t862) a0_0 a0_1 a0_2 l0_3 t856 t857 t858 t859 t864 t865 t866 t867 t871 t872 t873 t874) else (laws_FnExactTranspose.j0 k t862 t877 true a0_0 a0_1 a0_2 l0_3 t856 t857 t858 t859 t864 t865 t866 t867 t871 t872 t873 t874)) = some r := H
      have A37 := Aside0.mk A370
      clear A370
      by_cases c38 : t879 = true
      · subst c38
        have H1 : (laws_FnExactTranspose.j0 k t862 t877 (t877 != t862) a0_0 a0_1 a0_2 l0_3 t856 t857 t858 t859 t864 t865 t866 t867 t871 t872 t873 t874) = some r := by rw [if_pos rfl] at H; exact H
        clear H
        have H := H1
        clear H1
        have H' := Aside0.mk H
        clear H
        have hnb39 := NB878_848.out
        have hnc39 := NB848_878.out
        have hnb40 := NB878_863.out
        have hnc40 := NB863_878.out
        have hnb41 := NB878_870.out
        have hnc41 := NB870_878.out
        have hcz42_0 : w31.cell? ⟨gb878, 0, none⟩ = some (.int .i64 0) := (blk_cell BK878.out 0).trans rfl
        have hcz42_1 : w31.cell? ⟨gb878, 1, none⟩ = some (.int .i64 0) := (blk_cell BK878.out 1).trans rfl
        have hcz42_2 : w31.cell? ⟨gb878, 2, none⟩ = some (.int .i64 0) := (blk_cell BK878.out 2).trans rfl
        have hcz42_3 : w31.cell? ⟨gb878, 3, none⟩ = some (.slice none 0 0) := (blk_cell BK878.out 3).trans rfl
        have hfz42_0 := blk_frozen BK878.out 0
        have hfz42_1 := blk_frozen BK878.out 1
        have hfz42_2 := blk_frozen BK878.out 2
        have hfz42_3 := blk_frozen BK878.out 3
        have hnb43 := NB863_848.out
        have hnc43 := NB848_863.out
        have hnb44 := NB863_870.out
        have hnc44 := NB870_863.out
        have hcz45_0 : w31.cell? ⟨gb863, 0, none⟩ = some (.int .i64 t856) := (blk_cell BK863.out 0).trans rfl
        have hcz45_1 : w31.cell? ⟨gb863, 1, none⟩ = some (.int .i64 t857) := (blk_cell BK863.out 1).trans rfl
        have hcz45_2 : w31.cell? ⟨gb863, 2, none⟩ = some (.int .i64 t858) := (blk_cell BK863.out 2).trans rfl
        have hcz45_3 : w31.cell? ⟨gb863, 3, none⟩ = some (.slice Ao22 t859.length co22) := (blk_cell BK863.out 3).trans rfl
        have hfz45_0 := blk_frozen BK863.out 0
        have hfz45_1 := blk_frozen BK863.out 1
        have hfz45_2 := blk_frozen BK863.out 2
        have hfz45_3 := blk_frozen BK863.out 3
        go_wp2_with (first | ((with_reducible refine gate_callee (f := 17) rfl ?_); refine goesL_ (some 34) rfl rfl Try.func17 (by kernel_rfl) rfl #[.agg #[.int .i64 t871, .int .i64 t872, .int .i64 t873, .slice Ao36 t874.length co36], .agg #[.int .i64 t856, .int .i64 t857, .int .i64 t858, .slice Ao22 t859.length co22]] rfl (by (try simp only [List.map_toArray, List.map_cons, List.map_nil]); first | done | rfl | (simp only [List.length_drop, List.length_take]; rfl)) ?_; (with_reducible refine (laws_eqMatrix.calls k t871 t872 t873 _ _ t874 t856 t857 t858 _ _ t859 true _ ?side1 ?side2 ?side3 ?side4 A37.out).mono ?_); (case side1 => refine (Kd.R_reads' (e := 2) (base := w.heap.size) (ok := fun k_ => (((True ∧ some k_ ≠ (.slice Ao17 t853.length co17 : Value).ownBlock) ∧ some k_ ≠ (.slice Ao22 t859.length co22 : Value).ownBlock) ∧ some k_ ≠ (.slice Ao29 t867.length co29 : Value).ownBlock)) (n := t874.length) (c := co36) ?_).2.2; exact (by (with_reducible repeat (first | apply Kd.R_alloc | apply Kd.R_drewN | apply Kd.R_drew)); exact (Kd.R_mono (Kd.R_far (p := ⟨gb878, 3, none⟩) (Kd.R_far (p := ⟨gb878, 2, none⟩) (Kd.R_far (p := ⟨gb878, 1, none⟩) (Kd.R_far (p := ⟨gb878, 0, none⟩) (Kd.R_types HO876.out BK878.out (by decide)) (fun _ hk => hk.2) (.int .i64 t871)) (fun _ hk => hk.2) (.int .i64 t872)) (fun _ hk => hk.2) (.int .i64 t873)) (fun _ hk => hk.2) (.slice Ao36 t874.length co36)) (fun _ h_ => h_.1)))); (case side2 => exact (Kd.R_reads' HO876.out).2.1); (case side3 => refine (Kd.R_reads' (e := 2) (base := w.heap.size) (ok := fun k_ => (((True ∧ some k_ ≠ (.slice Ao17 t853.length co17 : Value).ownBlock) ∧ some k_ ≠ (.slice Ao29 t867.length co29 : Value).ownBlock) ∧ some k_ ≠ (.slice Ao36 t874.length co36 : Value).ownBlock)) (n := t859.length) (c := co22) ?_).2.2; exact (by (with_reducible repeat (first | apply Kd.R_alloc | apply Kd.R_drewN | apply Kd.R_drew)); exact (Kd.R_mono (Kd.R_far (p := ⟨gb878, 3, none⟩) (Kd.R_far (p := ⟨gb878, 2, none⟩) (Kd.R_far (p := ⟨gb878, 1, none⟩) (Kd.R_far (p := ⟨gb878, 0, none⟩) (Kd.R_types HO861.out BK878.out (by decide)) (fun _ hk => hk.2) (.int .i64 t871)) (fun _ hk => hk.2) (.int .i64 t872)) (fun _ hk => hk.2) (.int .i64 t873)) (fun _ hk => hk.2) (.slice Ao36 t874.length co36)) (fun _ h_ => h_.1)))); (case side4 => exact (Kd.R_reads' HO861.out).2.1); rintro e w46 ⟨rfl, hb⟩; refine ⟨_, rfl, ?_⟩; have n0_ := Aside0.mk (Kd.R_below (by (with_reducible repeat (first | apply Kd.R_alloc | apply Kd.R_drewN | apply Kd.R_drew)); exact (Kd.R_mono (Kd.R_far (p := ⟨gb878, 3, none⟩) (Kd.R_far (p := ⟨gb878, 2, none⟩) (Kd.R_far (p := ⟨gb878, 1, none⟩) (Kd.R_far (p := ⟨gb878, 0, none⟩) (Kd.R_types HO855.out BK878.out (by decide)) (fun _ hk => hk.2) (.int .i64 t871)) (fun _ hk => hk.2) (.int .i64 t872)) (fun _ hk => hk.2) (.int .i64 t873)) (fun _ hk => hk.2) (.slice Ao36 t874.length co36)) (fun _ h_ => h_.1))) hb); have n1_ := Aside0.mk (Kd.R_below (by (with_reducible repeat (first | apply Kd.R_alloc | apply Kd.R_drewN | apply Kd.R_drew)); exact (Kd.R_mono (Kd.R_far (p := ⟨gb878, 3, none⟩) (Kd.R_far (p := ⟨gb878, 2, none⟩) (Kd.R_far (p := ⟨gb878, 1, none⟩) (Kd.R_far (p := ⟨gb878, 0, none⟩) (Kd.R_types HO861.out BK878.out (by decide)) (fun _ hk => hk.2) (.int .i64 t871)) (fun _ hk => hk.2) (.int .i64 t872)) (fun _ hk => hk.2) (.int .i64 t873)) (fun _ hk => hk.2) (.slice Ao36 t874.length co36)) (fun _ h_ => h_.1))) hb); have n2_ := Aside0.mk (Kd.R_below (by (with_reducible repeat (first | apply Kd.R_alloc | apply Kd.R_drewN | apply Kd.R_drew)); exact (Kd.R_mono (Kd.R_far (p := ⟨gb878, 3, none⟩) (Kd.R_far (p := ⟨gb878, 2, none⟩) (Kd.R_far (p := ⟨gb878, 1, none⟩) (Kd.R_far (p := ⟨gb878, 0, none⟩) (Kd.R_types HO869.out BK878.out (by decide)) (fun _ hk => hk.2) (.int .i64 t871)) (fun _ hk => hk.2) (.int .i64 t872)) (fun _ hk => hk.2) (.int .i64 t873)) (fun _ hk => hk.2) (.slice Ao36 t874.length co36)) (fun _ h_ => h_.1))) hb); have n3_ := Aside0.mk (Kd.R_below (by (with_reducible repeat (first | apply Kd.R_alloc | apply Kd.R_drewN | apply Kd.R_drew)); exact (Kd.R_mono (Kd.R_far (p := ⟨gb878, 3, none⟩) (Kd.R_far (p := ⟨gb878, 2, none⟩) (Kd.R_far (p := ⟨gb878, 1, none⟩) (Kd.R_far (p := ⟨gb878, 0, none⟩) (Kd.R_types HO876.out BK878.out (by decide)) (fun _ hk => hk.2) (.int .i64 t871)) (fun _ hk => hk.2) (.int .i64 t872)) (fun _ hk => hk.2) (.int .i64 t873)) (fun _ hk => hk.2) (.slice Ao36 t874.length co36)) (fun _ h_ => h_.1))) hb); have n4_ := Aside0.mk (blk_below (g := gb848) (o := .cells #[.int .i64 a0_0, .int .i64 a0_1, .int .i64 a0_2, .slice A0_3 l0_3.length c0_3] 32 (0, 0)) (by (with_reducible repeat (first | refine blk_drewN ?_ _ | refine blk_drew ?_ | refine blk_alloc ?_ _)); refine blk_far ?_ NB848_878.out _; (with_reducible repeat (first | refine blk_drewN ?_ _ | refine blk_drew ?_ | refine blk_alloc ?_ _)); refine blk_far ?_ NB848_878.out _; (with_reducible repeat (first | refine blk_drewN ?_ _ | refine blk_drew ?_ | refine blk_alloc ?_ _)); refine blk_far ?_ NB848_878.out _; (with_reducible repeat (first | refine blk_drewN ?_ _ | refine blk_drew ?_ | refine blk_alloc ?_ _)); refine blk_far ?_ NB848_878.out _; (with_reducible repeat (first | refine blk_drewN ?_ _ | refine blk_drew ?_ | refine blk_alloc ?_ _)); exact BK848.out) hb); have n5_ := Aside0.mk (blk_below (g := gb863) (o := .cells #[.int .i64 t856, .int .i64 t857, .int .i64 t858, .slice Ao22 t859.length co22] 24 (0, 0)) (by (with_reducible repeat (first | refine blk_drewN ?_ _ | refine blk_drew ?_ | refine blk_alloc ?_ _)); refine blk_far ?_ NB863_878.out _; (with_reducible repeat (first | refine blk_drewN ?_ _ | refine blk_drew ?_ | refine blk_alloc ?_ _)); refine blk_far ?_ NB863_878.out _; (with_reducible repeat (first | refine blk_drewN ?_ _ | refine blk_drew ?_ | refine blk_alloc ?_ _)); refine blk_far ?_ NB863_878.out _; (with_reducible repeat (first | refine blk_drewN ?_ _ | refine blk_drew ?_ | refine blk_alloc ?_ _)); refine blk_far ?_ NB863_878.out _; (with_reducible repeat (first | refine blk_drewN ?_ _ | refine blk_drew ?_ | refine blk_alloc ?_ _)); exact BK863.out) hb); have n6_ := Aside0.mk (blk_below (g := gb870) (o := .cells #[.int .i64 t864, .int .i64 t865, .int .i64 t866, .slice Ao29 t867.length co29] 24 (0, 0)) (by (with_reducible repeat (first | refine blk_drewN ?_ _ | refine blk_drew ?_ | refine blk_alloc ?_ _)); refine blk_far ?_ NB870_878.out _; (with_reducible repeat (first | refine blk_drewN ?_ _ | refine blk_drew ?_ | refine blk_alloc ?_ _)); refine blk_far ?_ NB870_878.out _; (with_reducible repeat (first | refine blk_drewN ?_ _ | refine blk_drew ?_ | refine blk_alloc ?_ _)); refine blk_far ?_ NB870_878.out _; (with_reducible repeat (first | refine blk_drewN ?_ _ | refine blk_drew ?_ | refine blk_alloc ?_ _)); refine blk_far ?_ NB870_878.out _; (with_reducible repeat (first | refine blk_drewN ?_ _ | refine blk_drew ?_ | refine blk_alloc ?_ _)); exact BK870.out) hb); have n7_ := Aside0.mk (blk_below (g := gb878) (o := .cells #[.int .i64 t871, .int .i64 t872, .int .i64 t873, .slice Ao36 t874.length co36] 24 (0, 0)) (by (with_reducible repeat (first | refine blk_drewN ?_ _ | refine blk_drew ?_ | refine blk_alloc ?_ _)); refine blk_put (cs := #[.int .i64 t871, .int .i64 t872, .int .i64 t873, .slice none 0 0]) ?_ 3 _ rfl; (with_reducible repeat (first | refine blk_drewN ?_ _ | refine blk_drew ?_ | refine blk_alloc ?_ _)); refine blk_put (cs := #[.int .i64 t871, .int .i64 t872, .int .i64 0, .slice none 0 0]) ?_ 2 _ rfl; (with_reducible repeat (first | refine blk_drewN ?_ _ | refine blk_drew ?_ | refine blk_alloc ?_ _)); refine blk_put (cs := #[.int .i64 t871, .int .i64 0, .int .i64 0, .slice none 0 0]) ?_ 1 _ rfl; (with_reducible repeat (first | refine blk_drewN ?_ _ | refine blk_drew ?_ | refine blk_alloc ?_ _)); refine blk_put (cs := #[.int .i64 0, .int .i64 0, .int .i64 0, .slice none 0 0]) ?_ 0 _ rfl; (with_reducible repeat (first | refine blk_drewN ?_ _ | refine blk_drew ?_ | refine blk_alloc ?_ _)); exact BK878.out) hb); have n8_ := Aside0.mk (below_step (by repeat (first | (with_reducible first | exact HB.out | apply below_alloc | apply pw_below_drewN | apply below_drew1 | refine below_set ?_ GE848.out | refine below_set ?_ GE863.out | refine below_set ?_ GE870.out | refine below_set ?_ GE878.out) | exact HB.out)) hb); clear HO855; clear HO861; clear HO869; clear HO876; clear BK848; clear BK863; clear BK870; clear BK878; clear HB; have HO855 := n0_; have HO861 := n1_; have HO869 := n2_; have HO876 := n3_; have BK848 := n4_; have BK863 := n5_; have BK870 := n6_; have BK878 := n7_; have HB := n8_; clear n0_ n1_ n2_ n3_ n4_ n5_ n6_ n7_ n8_; (try clear hb); (try clear hb2); (try clear hk); (try clear hi)))
        go_meet
        case rel => exact ⟨_, ((t877 != t862)), (by first | rfl | (simp; done) | (simp [*]; done)), H', ⟨by first | omega | exact Nat.le_refl _⟩, ⟨by (with_reducible repeat (first | apply Kd.R_alloc | apply Kd.R_drewN | apply Kd.R_drew)); exact Kd.R_mono HO861.out (fun _ hk => ⟨hk.1.2, hk.2⟩)⟩, ⟨by (with_reducible repeat (first | apply Kd.R_alloc | apply Kd.R_drewN | apply Kd.R_drew)); exact Kd.R_mono HO869.out (fun _ hk => ⟨hk.1.2, hk.2⟩)⟩, ⟨by (with_reducible repeat (first | apply Kd.R_alloc | apply Kd.R_drewN | apply Kd.R_drew)); exact Kd.R_mono HO876.out (fun _ hk => ⟨hk.1.2, hk.2⟩)⟩, ⟨by (with_reducible repeat (first | refine blk_drewN ?_ _ | refine blk_drew ?_ | refine blk_alloc ?_ _)); exact BK848.out⟩, ⟨by (with_reducible repeat (first | refine blk_drewN ?_ _ | refine blk_drew ?_ | refine blk_alloc ?_ _)); exact BK863.out⟩, ⟨by (with_reducible repeat (first | refine blk_drewN ?_ _ | refine blk_drew ?_ | refine blk_alloc ?_ _)); exact BK870.out⟩, ⟨by (with_reducible repeat (first | refine blk_drewN ?_ _ | refine blk_drew ?_ | refine blk_alloc ?_ _)); exact BK878.out⟩, ⟨by repeat (first | (with_reducible first | exact HB.out | apply below_alloc | apply pw_below_drewN | apply below_drew1 | refine below_set ?_ GE848.out | refine below_set ?_ GE863.out | refine below_set ?_ GE870.out | refine below_set ?_ GE878.out) | exact HB.out)⟩⟩
      · replace c38 := Bool.eq_false_iff.mpr c38
        subst c38
        have H1 : (laws_FnExactTranspose.j0 k t862 t877 true a0_0 a0_1 a0_2 l0_3 t856 t857 t858 t859 t864 t865 t866 t867 t871 t872 t873 t874) = some r := by rw [if_neg (show ¬ (false = true) by decide)] at H; exact H
        clear H
        have H := H1
        clear H1
        have H' := Aside0.mk H
        clear H
        have hnb47 := NB878_848.out
        have hnc47 := NB848_878.out
        have hnb48 := NB878_863.out
        have hnc48 := NB863_878.out
        have hnb49 := NB878_870.out
        have hnc49 := NB870_878.out
        have hcz50_0 : w31.cell? ⟨gb878, 0, none⟩ = some (.int .i64 0) := (blk_cell BK878.out 0).trans rfl
        have hcz50_1 : w31.cell? ⟨gb878, 1, none⟩ = some (.int .i64 0) := (blk_cell BK878.out 1).trans rfl
        have hcz50_2 : w31.cell? ⟨gb878, 2, none⟩ = some (.int .i64 0) := (blk_cell BK878.out 2).trans rfl
        have hcz50_3 : w31.cell? ⟨gb878, 3, none⟩ = some (.slice none 0 0) := (blk_cell BK878.out 3).trans rfl
        have hfz50_0 := blk_frozen BK878.out 0
        have hfz50_1 := blk_frozen BK878.out 1
        have hfz50_2 := blk_frozen BK878.out 2
        have hfz50_3 := blk_frozen BK878.out 3
        have hnb51 := NB863_848.out
        have hnc51 := NB848_863.out
        have hnb52 := NB863_870.out
        have hnc52 := NB870_863.out
        have hcz53_0 : w31.cell? ⟨gb863, 0, none⟩ = some (.int .i64 t856) := (blk_cell BK863.out 0).trans rfl
        have hcz53_1 : w31.cell? ⟨gb863, 1, none⟩ = some (.int .i64 t857) := (blk_cell BK863.out 1).trans rfl
        have hcz53_2 : w31.cell? ⟨gb863, 2, none⟩ = some (.int .i64 t858) := (blk_cell BK863.out 2).trans rfl
        have hcz53_3 : w31.cell? ⟨gb863, 3, none⟩ = some (.slice Ao22 t859.length co22) := (blk_cell BK863.out 3).trans rfl
        have hfz53_0 := blk_frozen BK863.out 0
        have hfz53_1 := blk_frozen BK863.out 1
        have hfz53_2 := blk_frozen BK863.out 2
        have hfz53_3 := blk_frozen BK863.out 3
        go_wp2_with (first | ((with_reducible refine gate_callee (f := 17) rfl ?_); refine goesL_ (some 34) rfl rfl Try.func17 (by kernel_rfl) rfl #[.agg #[.int .i64 t871, .int .i64 t872, .int .i64 t873, .slice Ao36 t874.length co36], .agg #[.int .i64 t856, .int .i64 t857, .int .i64 t858, .slice Ao22 t859.length co22]] rfl (by (try simp only [List.map_toArray, List.map_cons, List.map_nil]); first | done | rfl | (simp only [List.length_drop, List.length_take]; rfl)) ?_; (with_reducible refine (laws_eqMatrix.calls k t871 t872 t873 _ _ t874 t856 t857 t858 _ _ t859 false _ ?side1 ?side2 ?side3 ?side4 A37.out).mono ?_); (case side1 => refine (Kd.R_reads' (e := 2) (base := w.heap.size) (ok := fun k_ => (((True ∧ some k_ ≠ (.slice Ao17 t853.length co17 : Value).ownBlock) ∧ some k_ ≠ (.slice Ao22 t859.length co22 : Value).ownBlock) ∧ some k_ ≠ (.slice Ao29 t867.length co29 : Value).ownBlock)) (n := t874.length) (c := co36) ?_).2.2; exact (by (with_reducible repeat (first | apply Kd.R_alloc | apply Kd.R_drewN | apply Kd.R_drew)); exact (Kd.R_mono (Kd.R_far (p := ⟨gb878, 3, none⟩) (Kd.R_far (p := ⟨gb878, 2, none⟩) (Kd.R_far (p := ⟨gb878, 1, none⟩) (Kd.R_far (p := ⟨gb878, 0, none⟩) (Kd.R_types HO876.out BK878.out (by decide)) (fun _ hk => hk.2) (.int .i64 t871)) (fun _ hk => hk.2) (.int .i64 t872)) (fun _ hk => hk.2) (.int .i64 t873)) (fun _ hk => hk.2) (.slice Ao36 t874.length co36)) (fun _ h_ => h_.1)))); (case side2 => exact (Kd.R_reads' HO876.out).2.1); (case side3 => refine (Kd.R_reads' (e := 2) (base := w.heap.size) (ok := fun k_ => (((True ∧ some k_ ≠ (.slice Ao17 t853.length co17 : Value).ownBlock) ∧ some k_ ≠ (.slice Ao29 t867.length co29 : Value).ownBlock) ∧ some k_ ≠ (.slice Ao36 t874.length co36 : Value).ownBlock)) (n := t859.length) (c := co22) ?_).2.2; exact (by (with_reducible repeat (first | apply Kd.R_alloc | apply Kd.R_drewN | apply Kd.R_drew)); exact (Kd.R_mono (Kd.R_far (p := ⟨gb878, 3, none⟩) (Kd.R_far (p := ⟨gb878, 2, none⟩) (Kd.R_far (p := ⟨gb878, 1, none⟩) (Kd.R_far (p := ⟨gb878, 0, none⟩) (Kd.R_types HO861.out BK878.out (by decide)) (fun _ hk => hk.2) (.int .i64 t871)) (fun _ hk => hk.2) (.int .i64 t872)) (fun _ hk => hk.2) (.int .i64 t873)) (fun _ hk => hk.2) (.slice Ao36 t874.length co36)) (fun _ h_ => h_.1)))); (case side4 => exact (Kd.R_reads' HO861.out).2.1); rintro e w54 ⟨rfl, hb⟩; refine ⟨_, rfl, ?_⟩; have n0_ := Aside0.mk (Kd.R_below (by (with_reducible repeat (first | apply Kd.R_alloc | apply Kd.R_drewN | apply Kd.R_drew)); exact (Kd.R_mono (Kd.R_far (p := ⟨gb878, 3, none⟩) (Kd.R_far (p := ⟨gb878, 2, none⟩) (Kd.R_far (p := ⟨gb878, 1, none⟩) (Kd.R_far (p := ⟨gb878, 0, none⟩) (Kd.R_types HO855.out BK878.out (by decide)) (fun _ hk => hk.2) (.int .i64 t871)) (fun _ hk => hk.2) (.int .i64 t872)) (fun _ hk => hk.2) (.int .i64 t873)) (fun _ hk => hk.2) (.slice Ao36 t874.length co36)) (fun _ h_ => h_.1))) hb); have n1_ := Aside0.mk (Kd.R_below (by (with_reducible repeat (first | apply Kd.R_alloc | apply Kd.R_drewN | apply Kd.R_drew)); exact (Kd.R_mono (Kd.R_far (p := ⟨gb878, 3, none⟩) (Kd.R_far (p := ⟨gb878, 2, none⟩) (Kd.R_far (p := ⟨gb878, 1, none⟩) (Kd.R_far (p := ⟨gb878, 0, none⟩) (Kd.R_types HO861.out BK878.out (by decide)) (fun _ hk => hk.2) (.int .i64 t871)) (fun _ hk => hk.2) (.int .i64 t872)) (fun _ hk => hk.2) (.int .i64 t873)) (fun _ hk => hk.2) (.slice Ao36 t874.length co36)) (fun _ h_ => h_.1))) hb); have n2_ := Aside0.mk (Kd.R_below (by (with_reducible repeat (first | apply Kd.R_alloc | apply Kd.R_drewN | apply Kd.R_drew)); exact (Kd.R_mono (Kd.R_far (p := ⟨gb878, 3, none⟩) (Kd.R_far (p := ⟨gb878, 2, none⟩) (Kd.R_far (p := ⟨gb878, 1, none⟩) (Kd.R_far (p := ⟨gb878, 0, none⟩) (Kd.R_types HO869.out BK878.out (by decide)) (fun _ hk => hk.2) (.int .i64 t871)) (fun _ hk => hk.2) (.int .i64 t872)) (fun _ hk => hk.2) (.int .i64 t873)) (fun _ hk => hk.2) (.slice Ao36 t874.length co36)) (fun _ h_ => h_.1))) hb); have n3_ := Aside0.mk (Kd.R_below (by (with_reducible repeat (first | apply Kd.R_alloc | apply Kd.R_drewN | apply Kd.R_drew)); exact (Kd.R_mono (Kd.R_far (p := ⟨gb878, 3, none⟩) (Kd.R_far (p := ⟨gb878, 2, none⟩) (Kd.R_far (p := ⟨gb878, 1, none⟩) (Kd.R_far (p := ⟨gb878, 0, none⟩) (Kd.R_types HO876.out BK878.out (by decide)) (fun _ hk => hk.2) (.int .i64 t871)) (fun _ hk => hk.2) (.int .i64 t872)) (fun _ hk => hk.2) (.int .i64 t873)) (fun _ hk => hk.2) (.slice Ao36 t874.length co36)) (fun _ h_ => h_.1))) hb); have n4_ := Aside0.mk (blk_below (g := gb848) (o := .cells #[.int .i64 a0_0, .int .i64 a0_1, .int .i64 a0_2, .slice A0_3 l0_3.length c0_3] 32 (0, 0)) (by (with_reducible repeat (first | refine blk_drewN ?_ _ | refine blk_drew ?_ | refine blk_alloc ?_ _)); refine blk_far ?_ NB848_878.out _; (with_reducible repeat (first | refine blk_drewN ?_ _ | refine blk_drew ?_ | refine blk_alloc ?_ _)); refine blk_far ?_ NB848_878.out _; (with_reducible repeat (first | refine blk_drewN ?_ _ | refine blk_drew ?_ | refine blk_alloc ?_ _)); refine blk_far ?_ NB848_878.out _; (with_reducible repeat (first | refine blk_drewN ?_ _ | refine blk_drew ?_ | refine blk_alloc ?_ _)); refine blk_far ?_ NB848_878.out _; (with_reducible repeat (first | refine blk_drewN ?_ _ | refine blk_drew ?_ | refine blk_alloc ?_ _)); exact BK848.out) hb); have n5_ := Aside0.mk (blk_below (g := gb863) (o := .cells #[.int .i64 t856, .int .i64 t857, .int .i64 t858, .slice Ao22 t859.length co22] 24 (0, 0)) (by (with_reducible repeat (first | refine blk_drewN ?_ _ | refine blk_drew ?_ | refine blk_alloc ?_ _)); refine blk_far ?_ NB863_878.out _; (with_reducible repeat (first | refine blk_drewN ?_ _ | refine blk_drew ?_ | refine blk_alloc ?_ _)); refine blk_far ?_ NB863_878.out _; (with_reducible repeat (first | refine blk_drewN ?_ _ | refine blk_drew ?_ | refine blk_alloc ?_ _)); refine blk_far ?_ NB863_878.out _; (with_reducible repeat (first | refine blk_drewN ?_ _ | refine blk_drew ?_ | refine blk_alloc ?_ _)); refine blk_far ?_ NB863_878.out _; (with_reducible repeat (first | refine blk_drewN ?_ _ | refine blk_drew ?_ | refine blk_alloc ?_ _)); exact BK863.out) hb); have n6_ := Aside0.mk (blk_below (g := gb870) (o := .cells #[.int .i64 t864, .int .i64 t865, .int .i64 t866, .slice Ao29 t867.length co29] 24 (0, 0)) (by (with_reducible repeat (first | refine blk_drewN ?_ _ | refine blk_drew ?_ | refine blk_alloc ?_ _)); refine blk_far ?_ NB870_878.out _; (with_reducible repeat (first | refine blk_drewN ?_ _ | refine blk_drew ?_ | refine blk_alloc ?_ _)); refine blk_far ?_ NB870_878.out _; (with_reducible repeat (first | refine blk_drewN ?_ _ | refine blk_drew ?_ | refine blk_alloc ?_ _)); refine blk_far ?_ NB870_878.out _; (with_reducible repeat (first | refine blk_drewN ?_ _ | refine blk_drew ?_ | refine blk_alloc ?_ _)); refine blk_far ?_ NB870_878.out _; (with_reducible repeat (first | refine blk_drewN ?_ _ | refine blk_drew ?_ | refine blk_alloc ?_ _)); exact BK870.out) hb); have n7_ := Aside0.mk (blk_below (g := gb878) (o := .cells #[.int .i64 t871, .int .i64 t872, .int .i64 t873, .slice Ao36 t874.length co36] 24 (0, 0)) (by (with_reducible repeat (first | refine blk_drewN ?_ _ | refine blk_drew ?_ | refine blk_alloc ?_ _)); refine blk_put (cs := #[.int .i64 t871, .int .i64 t872, .int .i64 t873, .slice none 0 0]) ?_ 3 _ rfl; (with_reducible repeat (first | refine blk_drewN ?_ _ | refine blk_drew ?_ | refine blk_alloc ?_ _)); refine blk_put (cs := #[.int .i64 t871, .int .i64 t872, .int .i64 0, .slice none 0 0]) ?_ 2 _ rfl; (with_reducible repeat (first | refine blk_drewN ?_ _ | refine blk_drew ?_ | refine blk_alloc ?_ _)); refine blk_put (cs := #[.int .i64 t871, .int .i64 0, .int .i64 0, .slice none 0 0]) ?_ 1 _ rfl; (with_reducible repeat (first | refine blk_drewN ?_ _ | refine blk_drew ?_ | refine blk_alloc ?_ _)); refine blk_put (cs := #[.int .i64 0, .int .i64 0, .int .i64 0, .slice none 0 0]) ?_ 0 _ rfl; (with_reducible repeat (first | refine blk_drewN ?_ _ | refine blk_drew ?_ | refine blk_alloc ?_ _)); exact BK878.out) hb); have n8_ := Aside0.mk (below_step (by repeat (first | (with_reducible first | exact HB.out | apply below_alloc | apply pw_below_drewN | apply below_drew1 | refine below_set ?_ GE848.out | refine below_set ?_ GE863.out | refine below_set ?_ GE870.out | refine below_set ?_ GE878.out) | exact HB.out)) hb); clear HO855; clear HO861; clear HO869; clear HO876; clear BK848; clear BK863; clear BK870; clear BK878; clear HB; have HO855 := n0_; have HO861 := n1_; have HO869 := n2_; have HO876 := n3_; have BK848 := n4_; have BK863 := n5_; have BK870 := n6_; have BK878 := n7_; have HB := n8_; clear n0_ n1_ n2_ n3_ n4_ n5_ n6_ n7_ n8_; (try clear hb); (try clear hb2); (try clear hk); (try clear hi)))
        go_meet
        case rel => exact ⟨_, (true), (by first | rfl | (simp; done) | (simp [*]; done)), H', ⟨by first | omega | exact Nat.le_refl _⟩, ⟨by (with_reducible repeat (first | apply Kd.R_alloc | apply Kd.R_drewN | apply Kd.R_drew)); exact Kd.R_mono HO861.out (fun _ hk => ⟨hk.1.2, hk.2⟩)⟩, ⟨by (with_reducible repeat (first | apply Kd.R_alloc | apply Kd.R_drewN | apply Kd.R_drew)); exact Kd.R_mono HO869.out (fun _ hk => ⟨hk.1.2, hk.2⟩)⟩, ⟨by (with_reducible repeat (first | apply Kd.R_alloc | apply Kd.R_drewN | apply Kd.R_drew)); exact Kd.R_mono HO876.out (fun _ hk => ⟨hk.1.2, hk.2⟩)⟩, ⟨by (with_reducible repeat (first | refine blk_drewN ?_ _ | refine blk_drew ?_ | refine blk_alloc ?_ _)); exact BK848.out⟩, ⟨by (with_reducible repeat (first | refine blk_drewN ?_ _ | refine blk_drew ?_ | refine blk_alloc ?_ _)); exact BK863.out⟩, ⟨by (with_reducible repeat (first | refine blk_drewN ?_ _ | refine blk_drew ?_ | refine blk_alloc ?_ _)); exact BK870.out⟩, ⟨by (with_reducible repeat (first | refine blk_drewN ?_ _ | refine blk_drew ?_ | refine blk_alloc ?_ _)); exact BK878.out⟩, ⟨by repeat (first | (with_reducible first | exact HB.out | apply below_alloc | apply pw_below_drewN | apply below_drew1 | refine below_set ?_ GE848.out | refine below_set ?_ GE863.out | refine below_set ?_ GE870.out | refine below_set ?_ GE878.out) | exact HB.out)⟩⟩
    case rest =>
      clear HC11
      try clear c1
      try clear c2
      try clear p2
      try clear c3
      try clear c3b0
      try clear c4
      try clear c5
      try clear c7
      try clear c17
      try clear c20
      try clear c22
      try clear c24
      try clear c26
      try clear c27
      try clear c32
      try clear c33
      try clear c34
      try clear c38
      try clear c39
      try clear c40
      try clear c41
      try clear c43
      try clear c44
      try clear c47
      try clear c48
      try clear c49
      try clear c51
      try clear c52
      try clear hcz13_0
      try clear hcz13_1
      try clear hcz13_2
      try clear hcz13_3
      try clear hcz15_0
      try clear hcz15_1
      try clear hcz15_2
      try clear hcz15_3
      try clear hcz21_0
      try clear hcz21_1
      try clear hcz21_2
      try clear hcz21_3
      try clear hcz23_0
      try clear hcz23_1
      try clear hcz23_2
      try clear hcz23_3
      try clear hcz28_0
      try clear hcz28_1
      try clear hcz28_2
      try clear hcz28_3
      try clear hcz35_0
      try clear hcz35_1
      try clear hcz35_2
      try clear hcz35_3
      try clear hcz42_0
      try clear hcz42_1
      try clear hcz42_2
      try clear hcz42_3
      try clear hcz45_0
      try clear hcz45_1
      try clear hcz45_2
      try clear hcz45_3
      try clear hcz50_0
      try clear hcz50_1
      try clear hcz50_2
      try clear hcz50_3
      try clear hcz53_0
      try clear hcz53_1
      try clear hcz53_2
      try clear hcz53_3
      try clear hcz5_0
      try clear hcz5_1
      try clear hcz5_2
      try clear hcz5_3
      try clear hfz13_0
      try clear hfz13_1
      try clear hfz13_2
      try clear hfz13_3
      try clear hfz15_0
      try clear hfz15_1
      try clear hfz15_2
      try clear hfz15_3
      try clear hfz21_0
      try clear hfz21_1
      try clear hfz21_2
      try clear hfz21_3
      try clear hfz23_0
      try clear hfz23_1
      try clear hfz23_2
      try clear hfz23_3
      try clear hfz28_0
      try clear hfz28_1
      try clear hfz28_2
      try clear hfz28_3
      try clear hfz35_0
      try clear hfz35_1
      try clear hfz35_2
      try clear hfz35_3
      try clear hfz42_0
      try clear hfz42_1
      try clear hfz42_2
      try clear hfz42_3
      try clear hfz45_0
      try clear hfz45_1
      try clear hfz45_2
      try clear hfz45_3
      try clear hfz50_0
      try clear hfz50_1
      try clear hfz50_2
      try clear hfz50_3
      try clear hfz53_0
      try clear hfz53_1
      try clear hfz53_2
      try clear hfz53_3
      try clear hfz5_0
      try clear hfz5_1
      try clear hfz5_2
      try clear hfz5_3
      obtain ⟨kq, x40_10, rfl, HA, HJ10, HO_864003, HO_871003, HO_879003, BK848, BK863, BK870, BK878, HB⟩ := hcut
      cases kq with
      | zero => exact absurd HA.out (by simp [laws_FnExactTranspose.j0])
      | succ kj10 =>
        have H := HA.out
        clear HA
        simp only [laws_FnExactTranspose.j0] at H
        by_cases c55 : x40_10 = true
        · subst c55
          have H1 : (some false) = some r := by rw [if_pos rfl] at H; exact H
          clear H
          have H := H1
          clear H1
          obtain rfl := Option.some.inj H
          go_wp2
          go_ret
          exact ⟨by first | rfl | (simp [errW_none, errW_some] <;> rfl) | (simp [*, errW_none, errW_some] <;> rfl), by repeat (first | (with_reducible first | exact HB.out | apply below_alloc | apply pw_below_drewN | apply below_drew1 | refine below_set ?_ GE848.out | refine below_set ?_ GE863.out | refine below_set ?_ GE870.out | refine below_set ?_ GE878.out) | exact HB.out)⟩
        · replace c55 := Bool.eq_false_iff.mpr c55
          subst c55
          have H1 : ((laws_toMatrix.f kj10 a0_0 a0_1 a0_2 l0_3).bind fun bt880 => ((laws_eqMatrix.f kj10 t864 t865 t866 t867 bt880.1 bt880.2.1 bt880.2.2.1 bt880.2.2.2).bind fun t886 => (if t886 = true then ((laws_markMatrix.f kj10 t864 t865 t866 t867 1).bind fun bt887 => (if bt887.1 < 0 then (laws_FnExactTranspose.j1 kj10 t862 true a0_0 a0_1 a0_2 l0_3 t856 t857 t858 t859 t871 t872 t873 t874) else ((laws_eqMatrix.f kj10 t871 t872 t873 t874 t856 t857 t858 t859).bind fun t889 => (if t889 = true then (laws_FnExactTranspose.j1 kj10 t862 (t877 != t862) a0_0 a0_1 a0_2 l0_3 t856 t857 t858 t859 t871 t872 t873 t874) else (laws_FnExactTranspose.j1 kj10 t862 true a0_0 a0_1 a0_2 l0_3 t856 t857 t858 t859 t871 t872 t873 t874))))) else (some false)))) = some r := by rw [if_neg (show ¬ (false = true) by decide)] at H; exact H
          clear H
          have H := H1
          clear H1
          replace H := Option.bind_eq_some_iff.mp H
          obtain ⟨⟨t880, t881, t882, t883⟩, A560, H⟩ := H
          replace H : ((laws_eqMatrix.f kj10 t864 t865 t866 t867 t880 t881 t882 t883).bind fun t886 => (if t886 = true then ((laws_markMatrix.f kj10 t864 t865 t866 t867 1).bind fun bt887 => (if bt887.1 < 0 then (laws_FnExactTranspose.j1 kj10 t862 true a0_0 a0_1 a0_2 l0_3 t856 t857 t858 t859 t871 t872 t873 t874) else ((laws_eqMatrix.f kj10 t871 t872 t873 t874 t856 t857 t858 t859).bind fun t889 => (if t889 = true then (laws_FnExactTranspose.j1 kj10 t862 (t877 != t862) a0_0 a0_1 a0_2 l0_3 t856 t857 t858 t859 t871 t872 t873 t874) else (laws_FnExactTranspose.j1 kj10 t862 true a0_0 a0_1 a0_2 l0_3 t856 t857 t858 t859 t871 t872 t873 t874))))) else (some false))) = some r := H
          have A56 := Aside0.mk A560
          clear A560
          replace H := Option.bind_eq_some_iff.mp H
          obtain ⟨t886, A570, H⟩ := H
          replace H : (if t886 = true then ((laws_markMatrix.f kj10 t864 t865 t866 t867 1).bind fun bt887 => (if bt887.1 < 0 then (laws_FnExactTranspose.j1 kj10 t862 true a0_0 a0_1 a0_2 l0_3 t856 t857 t858 t859 t871 t872 t873 t874) else ((laws_eqMatrix.f kj10 t871 t872 t873 t874 t856 t857 t858 t859).bind fun t889 => (if t889 = true then (laws_FnExactTranspose.j1 kj10 t862 (t877 != t862) a0_0 a0_1 a0_2 l0_3 t856 t857 t858 t859 t871 t872 t873 t874) else (laws_FnExactTranspose.j1 kj10 t862 true a0_0 a0_1 a0_2 l0_3 t856 t857 t858 t859 t871 t872 t873 t874))))) else (some false)) = some r := H
          have A57 := Aside0.mk A570
          clear A570
          by_cases c58 : t886 = true
          · subst c58
            have H1 : ((laws_markMatrix.f kj10 t864 t865 t866 t867 1).bind fun bt887 => (if bt887.1 < 0 then (laws_FnExactTranspose.j1 kj10 t862 true a0_0 a0_1 a0_2 l0_3 t856 t857 t858 t859 t871 t872 t873 t874) else ((laws_eqMatrix.f kj10 t871 t872 t873 t874 t856 t857 t858 t859).bind fun t889 => (if t889 = true then (laws_FnExactTranspose.j1 kj10 t862 (t877 != t862) a0_0 a0_1 a0_2 l0_3 t856 t857 t858 t859 t871 t872 t873 t874) else (laws_FnExactTranspose.j1 kj10 t862 true a0_0 a0_1 a0_2 l0_3 t856 t857 t858 t859 t871 t872 t873 t874))))) = some r := by rw [if_pos rfl] at H; exact H
            clear H
            have H := H1
            clear H1
            replace H := Option.bind_eq_some_iff.mp H
            obtain ⟨⟨t887, t888⟩, A590, H⟩ := H
            replace H : (if t887 < 0 then (laws_FnExactTranspose.j1 kj10 t862 true a0_0 a0_1 a0_2 l0_3 t856 t857 t858 t859 t871 t872 t873 t874) else ((laws_eqMatrix.f kj10 t871 t872 t873 t874 t856 t857 t858 t859).bind fun t889 => (if t889 = true then (laws_FnExactTranspose.j1 kj10 t862 (t877 != t862) a0_0 a0_1 a0_2 l0_3 t856 t857 t858 t859 t871 t872 t873 t874) else (laws_FnExactTranspose.j1 kj10 t862 true a0_0 a0_1 a0_2 l0_3 t856 t857 t858 t859 t871 t872 t873 t874)))) = some r := H
            have A59 := Aside0.mk A590
            clear A590
            have HC60 := Aside0.mk H
            clear H
            try go_wp2
            have n0_ := Aside0.mk (Kd.R_drew HO_864003.out)
            have n1_ := Aside0.mk (Kd.R_drew HO_871003.out)
            have n2_ := Aside0.mk (Kd.R_drew HO_879003.out)
            have n3_ := Aside0.mk (blk_drew BK848.out)
            have n4_ := Aside0.mk (blk_drew BK863.out)
            have n5_ := Aside0.mk (blk_drew BK870.out)
            have n6_ := Aside0.mk (blk_drew BK878.out)
            have n7_ := Aside0.mk (below_drew1 HB.out)
            clear HO_864003
            clear HO_871003
            clear HO_879003
            clear BK848
            clear BK863
            clear BK870
            clear BK878
            clear HB
            have HO_864003 := n0_
            have HO_871003 := n1_
            have HO_879003 := n2_
            have BK848 := n3_
            have BK863 := n4_
            have BK870 := n5_
            have BK878 := n6_
            have HB := n7_
            clear n0_ n1_ n2_ n3_ n4_ n5_ n6_ n7_
            refine start_ (n := 5) (S := fun w' => w'.cell? ⟨gb870, 0, none⟩ = some (.int .i64 t864) ∧ w'.cell? ⟨gb870, 1, none⟩ = some (.int .i64 t865) ∧ w'.cell? ⟨gb870, 2, none⟩ = some (.int .i64 t866) ∧ w'.cell? ⟨gb870, 3, none⟩ = some (.slice Ao29 t867.length co29) ∧ w'.cell? ⟨gb848, 0, none⟩ = some (.int .i64 a0_0) ∧ w'.cell? ⟨gb848, 1, none⟩ = some (.int .i64 a0_1) ∧ w'.cell? ⟨gb848, 2, none⟩ = some (.int .i64 a0_2) ∧ w'.cell? ⟨gb848, 3, none⟩ = some (.slice A0_3 l0_3.length c0_3)) (ds := []) #[false, false, false, false, false] (by kernel_rfl) rfl rfl ⟨(blk_cell BK870.out 0).trans rfl, (blk_cell BK870.out 1).trans rfl, (blk_cell BK870.out 2).trans rfl, (blk_cell BK870.out 3).trans rfl, (blk_cell BK848.out 0).trans rfl, (blk_cell BK848.out 1).trans rfl, (blk_cell BK848.out 2).trans rfl, (blk_cell BK848.out 3).trans rfl⟩ (fun hHeld => ?_)
            generalize wc.drew = w61 at HO_864003 HO_871003 HO_879003 BK848 BK863 BK870 BK878 HB hHeld ⊢
            refine take_ (i := 0) (N := some 41) (v := ?_) (a' := ?_) #[true, false, false, false, false] rfl rfl (by kernel_rfl) (fun _ _ _ h => h) (Or.inl ⟨by rfl, ?_⟩) hHeld ?_ ?_
            rotate_left
            · rintro w' ⟨s0, s1, s2, s3, s4, s5, s6, s7⟩
              go_simp
              with_reducible rfl
            rotate_left
            · simp only [Act.put, List.setIfInBounds_toArray, List.set_cons_zero, List.set_cons_succ, i64_w, i32_w]
              rfl
            refine take_ (i := 1) (N := some 42) (v := ?_) (a' := ?_) #[true, true, false, false, false] rfl rfl (by kernel_rfl) (fun _ _ _ h => h) (Or.inl ⟨by rfl, ?_⟩) hHeld ?_ ?_
            rotate_left
            · rintro w' ⟨s0, s1, s2, s3, s4, s5, s6, s7⟩
              go_simp
              with_reducible rfl
            rotate_left
            · simp only [Act.put, List.setIfInBounds_toArray, List.set_cons_zero, List.set_cons_succ, i64_w, i32_w]
              rfl
            refine one_ (i := 2) (N := some 43) #[true, true, true, false, false] rfl rfl (by kernel_rfl) (by decide) (fun K hK => ?_)
            refine goes_ Try.func24 (by kernel_rfl) rfl #[.agg #[.int .i64 a0_0, .int .i64 a0_1, .int .i64 a0_2, .slice A0_3 l0_3.length c0_3]] (by rfl) rfl rfl (by (try simp only [List.map_toArray, List.map_cons, List.map_nil]); first | done | rfl | (simp only [List.length_drop, List.length_take]; rfl)) ?_
            with_reducible refine (laws_toMatrix.calls kj10 a0_0 a0_1 a0_2 _ _ l0_3 t880 t881 t882 t883 _ ?side1 ?side2 A56.out).mono ?_
            (case side1 => repeat (first | exact (Kd.C_below HR0_3.out HB.out) | (with_reducible refine Kd.C_alloc ?_ _) | (with_reducible refine Kd.C_drewN ?_ _) | (with_reducible refine Kd.C_drew ?_)))
            (case side2 => exact HC0_3.out)
            rintro e w62 ⟨v884, rfl, ho0, hb⟩
            refine ⟨_, rfl, ?_⟩
            have n0_ := Aside0.mk (Kd.R_elder' (by (with_reducible repeat (first | apply Kd.R_alloc | apply Kd.R_drewN | apply Kd.R_drew)); exact HO_864003.out) (Kd.R_base ho0) hb)
            have n1_ := Aside0.mk (Kd.R_elder' (by (with_reducible repeat (first | apply Kd.R_alloc | apply Kd.R_drewN | apply Kd.R_drew)); exact HO_871003.out) (Kd.R_base ho0) hb)
            have n2_ := Aside0.mk (Kd.R_elder' (by (with_reducible repeat (first | apply Kd.R_alloc | apply Kd.R_drewN | apply Kd.R_drew)); exact HO_879003.out) (Kd.R_base ho0) hb)
            have n3_ := Aside0.mk (Kd.R_lower (Kd.R_new' (Kd.R_new' (Kd.R_new' ho0 (Kd.R_lt (by (with_reducible repeat (first | apply Kd.R_alloc | apply Kd.R_drewN | apply Kd.R_drew)); exact HO_864003.out))) (Kd.R_lt (by (with_reducible repeat (first | apply Kd.R_alloc | apply Kd.R_drewN | apply Kd.R_drew)); exact HO_871003.out))) (Kd.R_lt (by (with_reducible repeat (first | apply Kd.R_alloc | apply Kd.R_drewN | apply Kd.R_drew)); exact HO_879003.out))) (below_size (by repeat (first | (with_reducible first | exact HB.out | apply below_alloc | apply pw_below_drewN | apply below_drew1 | refine below_set ?_ GE848.out | refine below_set ?_ GE863.out | refine below_set ?_ GE870.out | refine below_set ?_ GE878.out) | exact HB.out))))
            have n4_ := Aside0.mk (blk_below (g := gb848) (o := .cells #[.int .i64 a0_0, .int .i64 a0_1, .int .i64 a0_2, .slice A0_3 l0_3.length c0_3] 32 (0, 0)) (by (with_reducible repeat (first | refine blk_drewN ?_ _ | refine blk_drew ?_ | refine blk_alloc ?_ _)); exact BK848.out) hb)
            have n5_ := Aside0.mk (blk_below (g := gb863) (o := .cells #[.int .i64 t856, .int .i64 t857, .int .i64 t858, .slice Ao22 t859.length co22] 24 (0, 0)) (by (with_reducible repeat (first | refine blk_drewN ?_ _ | refine blk_drew ?_ | refine blk_alloc ?_ _)); exact BK863.out) hb)
            have n6_ := Aside0.mk (blk_below (g := gb870) (o := .cells #[.int .i64 t864, .int .i64 t865, .int .i64 t866, .slice Ao29 t867.length co29] 24 (0, 0)) (by (with_reducible repeat (first | refine blk_drewN ?_ _ | refine blk_drew ?_ | refine blk_alloc ?_ _)); exact BK870.out) hb)
            have n7_ := Aside0.mk (blk_below (g := gb878) (o := .cells #[.int .i64 t871, .int .i64 t872, .int .i64 t873, .slice Ao36 t874.length co36] 24 (0, 0)) (by (with_reducible repeat (first | refine blk_drewN ?_ _ | refine blk_drew ?_ | refine blk_alloc ?_ _)); exact BK878.out) hb)
            have n8_ := Aside0.mk (below_step (by repeat (first | (with_reducible first | exact HB.out | apply below_alloc | apply pw_below_drewN | apply below_drew1 | refine below_set ?_ GE848.out | refine below_set ?_ GE863.out | refine below_set ?_ GE870.out | refine below_set ?_ GE878.out) | exact HB.out)) hb)
            clear HO_864003
            clear HO_871003
            clear HO_879003
            clear BK848
            clear BK863
            clear BK870
            clear BK878
            clear HB
            have HO_864003 := n0_
            have HO_871003 := n1_
            have HO_879003 := n2_
            have HO885 := n3_
            have BK848 := n4_
            have BK863 := n5_
            have BK870 := n6_
            have BK878 := n7_
            have HB := n8_
            clear n0_ n1_ n2_ n3_ n4_ n5_ n6_ n7_ n8_
            (try clear hb)
            (try clear hb2)
            (try clear hk)
            (try clear hi)
            (try clear ho0)
            obtain ⟨Ao63, co63, eo63⟩ := Kd.R_slice HO885.out
            (first | subst eo63 | (injection eo63 with f1_ f2_ f3_; have f4_ := f1_.symm; have f5_ := f3_.symm; clear f1_ f2_ f3_; subst f4_; subst f5_))
            refine hK.out _ _ ⟨(blk_cell BK870.out 0).trans rfl, (blk_cell BK870.out 1).trans rfl, (blk_cell BK870.out 2).trans rfl, (blk_cell BK870.out 3).trans rfl, (blk_cell BK848.out 0).trans rfl, (blk_cell BK848.out 1).trans rfl, (blk_cell BK848.out 2).trans rfl, (blk_cell BK848.out 3).trans rfl⟩ (fun hHeld => ?_)
            clear hK K
            refine norm_ (a' := ?_) ?_ ?_
            rotate_left
            · show Act.put _ (some 43) _ = _
              simp only [Act.put, List.setIfInBounds_toArray, List.set_cons_zero, List.set_cons_succ, i64_w, i32_w]
              rfl
            refine one_ (i := 3) (N := some 44) #[true, true, true, true, false] rfl rfl (by kernel_rfl) (by decide) (fun K hK => ?_)
            refine goes_ Try.func17 (by kernel_rfl) rfl #[.agg #[.int .i64 t864, .int .i64 t865, .int .i64 t866, .slice Ao29 t867.length co29], .agg #[.int .i64 t880, .int .i64 t881, .int .i64 t882, .slice Ao63 t883.length co63]] (by rfl) rfl rfl (by (try simp only [List.map_toArray, List.map_cons, List.map_nil]); first | done | rfl | (simp only [List.length_drop, List.length_take]; rfl)) ?_
            with_reducible refine (laws_eqMatrix.calls kj10 t864 t865 t866 _ _ t867 t880 t881 t882 _ _ t883 true _ ?side1 ?side2 ?side3 ?side4 A57.out).mono ?_
            (case side1 => repeat (first | exact (Kd.R_reads' HO_871003.out).2.2 | (with_reducible refine Kd.C_alloc ?_ _) | (with_reducible refine Kd.C_drewN ?_ _) | (with_reducible refine Kd.C_drew ?_)))
            (case side2 => exact (Kd.R_reads' HO_871003.out).2.1)
            (case side3 => repeat (first | exact (Kd.R_reads' HO885.out).2.2 | (with_reducible refine Kd.C_alloc ?_ _) | (with_reducible refine Kd.C_drewN ?_ _) | (with_reducible refine Kd.C_drew ?_)))
            (case side4 => exact (Kd.R_reads' HO885.out).2.1)
            rintro e w64 ⟨rfl, hb⟩
            refine ⟨_, rfl, ?_⟩
            have n0_ := Aside0.mk (Kd.R_below (by (with_reducible repeat (first | apply Kd.R_alloc | apply Kd.R_drewN | apply Kd.R_drew)); exact HO_864003.out) hb)
            have n1_ := Aside0.mk (Kd.R_below (by (with_reducible repeat (first | apply Kd.R_alloc | apply Kd.R_drewN | apply Kd.R_drew)); exact HO_871003.out) hb)
            have n2_ := Aside0.mk (Kd.R_below (by (with_reducible repeat (first | apply Kd.R_alloc | apply Kd.R_drewN | apply Kd.R_drew)); exact HO_879003.out) hb)
            have n3_ := Aside0.mk (Kd.R_below (by (with_reducible repeat (first | apply Kd.R_alloc | apply Kd.R_drewN | apply Kd.R_drew)); exact HO885.out) hb)
            have n4_ := Aside0.mk (blk_below (g := gb848) (o := .cells #[.int .i64 a0_0, .int .i64 a0_1, .int .i64 a0_2, .slice A0_3 l0_3.length c0_3] 32 (0, 0)) (by (with_reducible repeat (first | refine blk_drewN ?_ _ | refine blk_drew ?_ | refine blk_alloc ?_ _)); exact BK848.out) hb)
            have n5_ := Aside0.mk (blk_below (g := gb863) (o := .cells #[.int .i64 t856, .int .i64 t857, .int .i64 t858, .slice Ao22 t859.length co22] 24 (0, 0)) (by (with_reducible repeat (first | refine blk_drewN ?_ _ | refine blk_drew ?_ | refine blk_alloc ?_ _)); exact BK863.out) hb)
            have n6_ := Aside0.mk (blk_below (g := gb870) (o := .cells #[.int .i64 t864, .int .i64 t865, .int .i64 t866, .slice Ao29 t867.length co29] 24 (0, 0)) (by (with_reducible repeat (first | refine blk_drewN ?_ _ | refine blk_drew ?_ | refine blk_alloc ?_ _)); exact BK870.out) hb)
            have n7_ := Aside0.mk (blk_below (g := gb878) (o := .cells #[.int .i64 t871, .int .i64 t872, .int .i64 t873, .slice Ao36 t874.length co36] 24 (0, 0)) (by (with_reducible repeat (first | refine blk_drewN ?_ _ | refine blk_drew ?_ | refine blk_alloc ?_ _)); exact BK878.out) hb)
            have n8_ := Aside0.mk (below_step (by repeat (first | (with_reducible first | exact HB.out | apply below_alloc | apply pw_below_drewN | apply below_drew1 | refine below_set ?_ GE848.out | refine below_set ?_ GE863.out | refine below_set ?_ GE870.out | refine below_set ?_ GE878.out) | exact HB.out)) hb)
            clear HO_864003
            clear HO_871003
            clear HO_879003
            clear HO885
            clear BK848
            clear BK863
            clear BK870
            clear BK878
            clear HB
            have HO_864003 := n0_
            have HO_871003 := n1_
            have HO_879003 := n2_
            have HO885 := n3_
            have BK848 := n4_
            have BK863 := n5_
            have BK870 := n6_
            have BK878 := n7_
            have HB := n8_
            clear n0_ n1_ n2_ n3_ n4_ n5_ n6_ n7_ n8_
            (try clear hb)
            (try clear hb2)
            (try clear hk)
            (try clear hi)
            refine hK.out _ _ ⟨(blk_cell BK870.out 0).trans rfl, (blk_cell BK870.out 1).trans rfl, (blk_cell BK870.out 2).trans rfl, (blk_cell BK870.out 3).trans rfl, (blk_cell BK848.out 0).trans rfl, (blk_cell BK848.out 1).trans rfl, (blk_cell BK848.out 2).trans rfl, (blk_cell BK848.out 3).trans rfl⟩ (fun hHeld => ?_)
            clear hK K
            refine norm_ (a' := ?_) ?_ ?_
            rotate_left
            · show Act.put _ (some 44) _ = _
              simp only [Act.put, List.setIfInBounds_toArray, List.set_cons_zero, List.set_cons_succ, i64_w, i32_w]
              rfl
            refine pure_ (i := 4) (N := some 45) (v := ?_) (a' := ?_) #[true, true, true, true, true] rfl rfl (by kernel_rfl) (fun _ _ _ h => h) (Or.inl ⟨by rfl, ?_⟩) ?_ ?_
            rotate_left
            · intro w'
              go_simp
              with_reducible rfl
            rotate_left
            · simp only [Act.put, List.setIfInBounds_toArray, List.set_cons_zero, List.set_cons_succ, i64_w, i32_w]
              rfl
            refine done_ (by kernel_rfl) ?_
            have hnb65 := NB870_848.out
            have hnc65 := NB848_870.out
            have hnb66 := NB870_863.out
            have hnc66 := NB863_870.out
            have hnb67 := NB870_878.out
            have hnc67 := NB878_870.out
            have hcz68_0 : w64.cell? ⟨gb870, 0, none⟩ = some (.int .i64 t864) := (blk_cell BK870.out 0).trans rfl
            have hcz68_1 : w64.cell? ⟨gb870, 1, none⟩ = some (.int .i64 t865) := (blk_cell BK870.out 1).trans rfl
            have hcz68_2 : w64.cell? ⟨gb870, 2, none⟩ = some (.int .i64 t866) := (blk_cell BK870.out 2).trans rfl
            have hcz68_3 : w64.cell? ⟨gb870, 3, none⟩ = some (.slice Ao29 t867.length co29) := (blk_cell BK870.out 3).trans rfl
            have hfz68_0 := blk_frozen BK870.out 0
            have hfz68_1 := blk_frozen BK870.out 1
            have hfz68_2 := blk_frozen BK870.out 2
            have hfz68_3 := blk_frozen BK870.out 3
            go_upto_region 14 with (first | ((with_reducible refine gate_callee (f := 18) rfl ?_); refine goesL_ (some 48) rfl rfl Try.func18 (by kernel_rfl) rfl #[.agg #[.int .i64 t864, .int .i64 t865, .int .i64 t866, .slice Ao29 t867.length co29], .int .i64 1] rfl (by (try simp only [List.map_toArray, List.map_cons, List.map_nil]); first | done | rfl | (simp only [List.length_drop, List.length_take]; rfl)) ?_; (with_reducible refine (laws_markMatrix.calls kj10 t864 t865 t866 (fun k_ => some k_ = (.slice Ao29 t867.length co29 : Value).ownBlock) (.slice Ao29 t867.length co29) t867 1 t887 t888 w _ ?side1 ?side2 A59.out).mono ?_); (case side1 => repeat (first | (with_reducible first | exact HB.out | apply below_alloc | apply pw_below_drewN | apply below_drew1 | refine below_set ?_ GE848.out | refine below_set ?_ GE863.out | refine below_set ?_ GE870.out | refine below_set ?_ GE878.out) | exact HB.out)); (case side2 => exact Kd.R_tight rfl HO_871003.out); rintro e w69 ⟨rfl, hy0, hb, hkp⟩; refine ⟨_, rfl, ?_⟩; have n0_ := Aside0.mk (Kd.R_mono (ok' := fun k_ => some k_ ≠ (.slice Ao29 t867.length co29 : Value).ownBlock ∧ some k_ ≠ (.slice Ao36 t874.length co36 : Value).ownBlock ∧ some k_ ≠ (.slice Ao63 t883.length co63 : Value).ownBlock) (Kd.R_keptB (HO_864003.out) hkp (fun k_ hk_ hs_ => (hk_.1.1) hs_)) (fun k_ hk_ => ⟨hk_.1.1.1, hk_.1.1.2, hk_.1.2⟩)); have n1_ := Aside0.mk (Kd.R_reok rfl hy0 (fun k_ e_ => HO_871003.out.1 k_ e_)); have n2_ := Aside0.mk (Kd.R_mono (ok' := fun k_ => some k_ ≠ (.slice Ao22 t859.length co22 : Value).ownBlock ∧ some k_ ≠ (.slice Ao29 t867.length co29 : Value).ownBlock ∧ some k_ ≠ (.slice Ao63 t883.length co63 : Value).ownBlock) (Kd.R_keptB (HO_879003.out) hkp (fun k_ hk_ hs_ => (hk_.1.2) hs_)) (fun k_ hk_ => ⟨hk_.1.1.1, hk_.1.1.2, hk_.1.2⟩)); have n3_ := Aside0.mk (blk_kept (by (with_reducible repeat (first | refine blk_drewN ?_ _ | refine blk_drew ?_ | refine blk_alloc ?_ _)); exact BK848.out) hkp (fun hs_ => (fun e_ => (Kd.R_ne HO_871003.out BK848.out (by decide)) e_) hs_)); have n4_ := Aside0.mk (blk_kept (by (with_reducible repeat (first | refine blk_drewN ?_ _ | refine blk_drew ?_ | refine blk_alloc ?_ _)); exact BK863.out) hkp (fun hs_ => (fun e_ => (Kd.R_ne HO_871003.out BK863.out (by decide)) e_) hs_)); have n5_ := Aside0.mk (blk_kept (by (with_reducible repeat (first | refine blk_drewN ?_ _ | refine blk_drew ?_ | refine blk_alloc ?_ _)); exact BK870.out) hkp (fun hs_ => (fun e_ => (Kd.R_ne HO_871003.out BK870.out (by decide)) e_) hs_)); have n6_ := Aside0.mk (blk_kept (by (with_reducible repeat (first | refine blk_drewN ?_ _ | refine blk_drew ?_ | refine blk_alloc ?_ _)); exact BK878.out) hkp (fun hs_ => (fun e_ => (Kd.R_ne HO_871003.out BK878.out (by decide)) e_) hs_)); have n7_ := Aside0.mk (Kd.R_mono (ok' := fun k_ => some k_ ≠ (.slice Ao22 t859.length co22 : Value).ownBlock ∧ some k_ ≠ (.slice Ao29 t867.length co29 : Value).ownBlock ∧ some k_ ≠ (.slice Ao36 t874.length co36 : Value).ownBlock) (Kd.R_keptB (HO885.out) hkp (fun k_ hk_ hs_ => (hk_.1.2) hs_)) (fun k_ hk_ => ⟨hk_.1.1.1.2, hk_.1.1.2, hk_.1.2⟩)); have n8_ := Aside0.mk (hb); clear HO_864003; clear HO_871003; clear HO_879003; clear BK848; clear BK863; clear BK870; clear BK878; clear HO885; clear HB; have HO_864003 := n0_; have HO_871003 := n1_; have HO_879003 := n2_; have BK848 := n3_; have BK863 := n4_; have BK870 := n5_; have BK878 := n6_; have HO885 := n7_; have HB := n8_; clear n0_ n1_ n2_ n3_ n4_ n5_ n6_ n7_ n8_; (try clear hb); (try clear hkp); (try clear hy0)))
            (try simp only [Act.put, List.setIfInBounds_toArray, List.set_cons_zero, List.set_cons_succ])
            go_cut [61] (fun v61 wc => ∃ (kq : Nat) (x61_59 : Bool), v61 = .bool x61_59 ∧ Aside0 (laws_FnExactTranspose.j1 kq t862 x61_59 a0_0 a0_1 a0_2 l0_3 t856 t857 t858 t859 t871 t872 t873 t874 = some r) ∧ Aside0 (kq ≤ kj10) ∧ Aside0 (Kd.R (Kd.int .i64) 2 wc w.heap.size (fun k_ => some k_ ≠ ((.slice Ao29 t867.length co29) : Value).ownBlock ∧ some k_ ≠ ((.slice Ao36 t874.length co36) : Value).ownBlock) (.slice Ao22 t859.length co22) t859) ∧ Aside0 (Kd.R (Kd.int .i64) 2 wc w.heap.size (fun k_ => some k_ ≠ ((.slice Ao22 t859.length co22) : Value).ownBlock ∧ some k_ ≠ ((.slice Ao36 t874.length co36) : Value).ownBlock) (.slice Ao29 t867.length co29) t888) ∧ Aside0 (Kd.R (Kd.int .i64) 2 wc w.heap.size (fun k_ => some k_ ≠ ((.slice Ao22 t859.length co22) : Value).ownBlock ∧ some k_ ≠ ((.slice Ao29 t867.length co29) : Value).ownBlock) (.slice Ao36 t874.length co36) t874) ∧ Aside0 (wc.heap[gb848]? = some (.cells #[.int .i64 a0_0, .int .i64 a0_1, .int .i64 a0_2, (.slice A0_3 l0_3.length c0_3)] 32 (0, 0))) ∧ Aside0 (wc.heap[gb863]? = some (.cells #[.int .i64 t856, .int .i64 t857, .int .i64 t858, (.slice Ao22 t859.length co22)] 24 (0, 0))) ∧ Aside0 (wc.heap[gb870]? = some (.cells #[.int .i64 t864, .int .i64 t865, .int .i64 t866, (.slice Ao29 t867.length co29)] 24 (0, 0))) ∧ Aside0 (wc.heap[gb878]? = some (.cells #[.int .i64 t871, .int .i64 t872, .int .i64 t873, (.slice Ao36 t874.length co36)] 24 (0, 0))) ∧ Aside0 (Below w.heap.size w wc))
            case first =>
              have H := HC60.out
              clear HC60
              by_cases c70 : t887 < 0
              · rw [if_pos c70] at H
                have c70b0 : decide (t887 < 0) = true := decide_eq_true c70
                clear c70
                (first | rw [c70b0] | (simp only [i64_w, i32_w]; rw [c70b0]) | skip)
                have H' := Aside0.mk H
                clear H
                go_wp2
                go_meet
                case rel => exact ⟨_, (true), (by first | rfl | (simp; done) | (simp [*]; done)), H', ⟨by have := HJ10.out; first | omega | exact Nat.le_refl _⟩, ⟨by (with_reducible repeat (first | apply Kd.R_alloc | apply Kd.R_drewN | apply Kd.R_drew)); exact Kd.R_mono HO_864003.out (fun _ hk => ⟨hk.1, hk.2.1⟩)⟩, ⟨by (with_reducible repeat (first | apply Kd.R_alloc | apply Kd.R_drewN | apply Kd.R_drew)); exact Kd.R_mono HO_871003.out (fun _ hk => ⟨hk.1.1, hk.1.2⟩)⟩, ⟨by (with_reducible repeat (first | apply Kd.R_alloc | apply Kd.R_drewN | apply Kd.R_drew)); exact Kd.R_mono HO_879003.out (fun _ hk => ⟨hk.1, hk.2.1⟩)⟩, ⟨by (with_reducible repeat (first | refine blk_drewN ?_ _ | refine blk_drew ?_ | refine blk_alloc ?_ _)); exact BK848.out⟩, ⟨by (with_reducible repeat (first | refine blk_drewN ?_ _ | refine blk_drew ?_ | refine blk_alloc ?_ _)); exact BK863.out⟩, ⟨by (with_reducible repeat (first | refine blk_drewN ?_ _ | refine blk_drew ?_ | refine blk_alloc ?_ _)); exact BK870.out⟩, ⟨by (with_reducible repeat (first | refine blk_drewN ?_ _ | refine blk_drew ?_ | refine blk_alloc ?_ _)); exact BK878.out⟩, ⟨by repeat (first | (with_reducible first | exact HB.out | apply below_alloc | apply pw_below_drewN | apply below_drew1 | refine below_set ?_ GE848.out | refine below_set ?_ GE863.out | refine below_set ?_ GE870.out | refine below_set ?_ GE878.out) | exact HB.out)⟩⟩
              · rw [if_neg c70] at H
                have c70b0 : decide (t887 < 0) = false := decide_eq_false c70
                clear c70
                (first | rw [c70b0] | (simp only [i64_w, i32_w]; rw [c70b0]) | skip)
                replace H := Option.bind_eq_some_iff.mp H
                obtain ⟨t889, A710, H⟩ := H
                replace H : (if t889 = true then (laws_FnExactTranspose.j1 kj10 t862 (t877 != t862) a0_0 a0_1 a0_2 l0_3 t856 t857 t858 t859 t871 t872 t873 t874) else (laws_FnExactTranspose.j1 kj10 t862 true a0_0 a0_1 a0_2 l0_3 t856 t857 t858 t859 t871 t872 t873 t874)) = some r := H
                have A71 := Aside0.mk A710
                clear A710
                by_cases c72 : t889 = true
                · subst c72
                  have H1 : (laws_FnExactTranspose.j1 kj10 t862 (t877 != t862) a0_0 a0_1 a0_2 l0_3 t856 t857 t858 t859 t871 t872 t873 t874) = some r := by rw [if_pos rfl] at H; exact H
                  clear H
                  have H := H1
                  clear H1
                  have H' := Aside0.mk H
                  clear H
                  have hnb73 := NB878_848.out
                  have hnc73 := NB848_878.out
                  have hnb74 := NB878_863.out
                  have hnc74 := NB863_878.out
                  have hnb75 := NB878_870.out
                  have hnc75 := NB870_878.out
                  have hcz76_0 : w69.cell? ⟨gb878, 0, none⟩ = some (.int .i64 t871) := (blk_cell BK878.out 0).trans rfl
                  have hcz76_1 : w69.cell? ⟨gb878, 1, none⟩ = some (.int .i64 t872) := (blk_cell BK878.out 1).trans rfl
                  have hcz76_2 : w69.cell? ⟨gb878, 2, none⟩ = some (.int .i64 t873) := (blk_cell BK878.out 2).trans rfl
                  have hcz76_3 : w69.cell? ⟨gb878, 3, none⟩ = some (.slice Ao36 t874.length co36) := (blk_cell BK878.out 3).trans rfl
                  have hfz76_0 := blk_frozen BK878.out 0
                  have hfz76_1 := blk_frozen BK878.out 1
                  have hfz76_2 := blk_frozen BK878.out 2
                  have hfz76_3 := blk_frozen BK878.out 3
                  have hnb77 := NB863_848.out
                  have hnc77 := NB848_863.out
                  have hnb78 := NB863_870.out
                  have hnc78 := NB870_863.out
                  have hcz79_0 : w69.cell? ⟨gb863, 0, none⟩ = some (.int .i64 t856) := (blk_cell BK863.out 0).trans rfl
                  have hcz79_1 : w69.cell? ⟨gb863, 1, none⟩ = some (.int .i64 t857) := (blk_cell BK863.out 1).trans rfl
                  have hcz79_2 : w69.cell? ⟨gb863, 2, none⟩ = some (.int .i64 t858) := (blk_cell BK863.out 2).trans rfl
                  have hcz79_3 : w69.cell? ⟨gb863, 3, none⟩ = some (.slice Ao22 t859.length co22) := (blk_cell BK863.out 3).trans rfl
                  have hfz79_0 := blk_frozen BK863.out 0
                  have hfz79_1 := blk_frozen BK863.out 1
                  have hfz79_2 := blk_frozen BK863.out 2
                  have hfz79_3 := blk_frozen BK863.out 3
                  go_wp2_with (first | (go_at_call 17; (with_reducible refine (laws_eqMatrix.calls kj10 t871 t872 t873 _ _ t874 t856 t857 t858 _ _ t859 true _ ?side1 ?side2 ?side3 ?side4 A71.out).mono ?_); (case side1 => repeat (first | exact (Kd.R_reads' HO_879003.out).2.2 | (with_reducible refine Kd.C_alloc ?_ _) | (with_reducible refine Kd.C_drewN ?_ _) | (with_reducible refine Kd.C_drew ?_))); (case side2 => exact (Kd.R_reads' HO_879003.out).2.1); (case side3 => repeat (first | exact (Kd.R_reads' HO_864003.out).2.2 | (with_reducible refine Kd.C_alloc ?_ _) | (with_reducible refine Kd.C_drewN ?_ _) | (with_reducible refine Kd.C_drew ?_))); (case side4 => exact (Kd.R_reads' HO_864003.out).2.1); rintro e w80 ⟨rfl, hb⟩; have n0_ := Aside0.mk (Kd.R_below (by (with_reducible repeat (first | apply Kd.R_alloc | apply Kd.R_drewN | apply Kd.R_drew)); exact HO_864003.out) hb); have n1_ := Aside0.mk (Kd.R_below (by (with_reducible repeat (first | apply Kd.R_alloc | apply Kd.R_drewN | apply Kd.R_drew)); exact HO_871003.out) hb); have n2_ := Aside0.mk (Kd.R_below (by (with_reducible repeat (first | apply Kd.R_alloc | apply Kd.R_drewN | apply Kd.R_drew)); exact HO_879003.out) hb); have n3_ := Aside0.mk (Kd.R_below (by (with_reducible repeat (first | apply Kd.R_alloc | apply Kd.R_drewN | apply Kd.R_drew)); exact HO885.out) hb); have n4_ := Aside0.mk (blk_below (g := gb848) (o := .cells #[.int .i64 a0_0, .int .i64 a0_1, .int .i64 a0_2, .slice A0_3 l0_3.length c0_3] 32 (0, 0)) (by (with_reducible repeat (first | refine blk_drewN ?_ _ | refine blk_drew ?_ | refine blk_alloc ?_ _)); exact BK848.out) hb); have n5_ := Aside0.mk (blk_below (g := gb863) (o := .cells #[.int .i64 t856, .int .i64 t857, .int .i64 t858, .slice Ao22 t859.length co22] 24 (0, 0)) (by (with_reducible repeat (first | refine blk_drewN ?_ _ | refine blk_drew ?_ | refine blk_alloc ?_ _)); exact BK863.out) hb); have n6_ := Aside0.mk (blk_below (g := gb870) (o := .cells #[.int .i64 t864, .int .i64 t865, .int .i64 t866, .slice Ao29 t867.length co29] 24 (0, 0)) (by (with_reducible repeat (first | refine blk_drewN ?_ _ | refine blk_drew ?_ | refine blk_alloc ?_ _)); exact BK870.out) hb); have n7_ := Aside0.mk (blk_below (g := gb878) (o := .cells #[.int .i64 t871, .int .i64 t872, .int .i64 t873, .slice Ao36 t874.length co36] 24 (0, 0)) (by (with_reducible repeat (first | refine blk_drewN ?_ _ | refine blk_drew ?_ | refine blk_alloc ?_ _)); exact BK878.out) hb); have n8_ := Aside0.mk (below_step (by repeat (first | (with_reducible first | exact HB.out | apply below_alloc | apply pw_below_drewN | apply below_drew1 | refine below_set ?_ GE848.out | refine below_set ?_ GE863.out | refine below_set ?_ GE870.out | refine below_set ?_ GE878.out) | exact HB.out)) hb); clear HO_864003; clear HO_871003; clear HO_879003; clear HO885; clear BK848; clear BK863; clear BK870; clear BK878; clear HB; have HO_864003 := n0_; have HO_871003 := n1_; have HO_879003 := n2_; have HO885 := n3_; have BK848 := n4_; have BK863 := n5_; have BK870 := n6_; have BK878 := n7_; have HB := n8_; clear n0_ n1_ n2_ n3_ n4_ n5_ n6_ n7_ n8_; (try clear hb); (try clear hb2); (try clear hk); (try clear hi)))
                  go_meet
                  case rel => exact ⟨_, ((t877 != t862)), (by first | rfl | (simp; done) | (simp [*]; done)), H', ⟨by have := HJ10.out; first | omega | exact Nat.le_refl _⟩, ⟨by (with_reducible repeat (first | apply Kd.R_alloc | apply Kd.R_drewN | apply Kd.R_drew)); exact Kd.R_mono HO_864003.out (fun _ hk => ⟨hk.1, hk.2.1⟩)⟩, ⟨by (with_reducible repeat (first | apply Kd.R_alloc | apply Kd.R_drewN | apply Kd.R_drew)); exact Kd.R_mono HO_871003.out (fun _ hk => ⟨hk.1.1, hk.1.2⟩)⟩, ⟨by (with_reducible repeat (first | apply Kd.R_alloc | apply Kd.R_drewN | apply Kd.R_drew)); exact Kd.R_mono HO_879003.out (fun _ hk => ⟨hk.1, hk.2.1⟩)⟩, ⟨by (with_reducible repeat (first | refine blk_drewN ?_ _ | refine blk_drew ?_ | refine blk_alloc ?_ _)); exact BK848.out⟩, ⟨by (with_reducible repeat (first | refine blk_drewN ?_ _ | refine blk_drew ?_ | refine blk_alloc ?_ _)); exact BK863.out⟩, ⟨by (with_reducible repeat (first | refine blk_drewN ?_ _ | refine blk_drew ?_ | refine blk_alloc ?_ _)); exact BK870.out⟩, ⟨by (with_reducible repeat (first | refine blk_drewN ?_ _ | refine blk_drew ?_ | refine blk_alloc ?_ _)); exact BK878.out⟩, ⟨by repeat (first | (with_reducible first | exact HB.out | apply below_alloc | apply pw_below_drewN | apply below_drew1 | refine below_set ?_ GE848.out | refine below_set ?_ GE863.out | refine below_set ?_ GE870.out | refine below_set ?_ GE878.out) | exact HB.out)⟩⟩
                · replace c72 := Bool.eq_false_iff.mpr c72
                  subst c72
                  have H1 : (laws_FnExactTranspose.j1 kj10 t862 true a0_0 a0_1 a0_2 l0_3 t856 t857 t858 t859 t871 t872 t873 t874) = some r := by rw [if_neg (show ¬ (false = true) by decide)] at H; exact H
                  clear H
                  have H := H1
                  clear H1
                  have H' := Aside0.mk H
                  clear H
                  have hnb81 := NB878_848.out
                  have hnc81 := NB848_878.out
                  have hnb82 := NB878_863.out
                  have hnc82 := NB863_878.out
                  have hnb83 := NB878_870.out
                  have hnc83 := NB870_878.out
                  have hcz84_0 : w69.cell? ⟨gb878, 0, none⟩ = some (.int .i64 t871) := (blk_cell BK878.out 0).trans rfl
                  have hcz84_1 : w69.cell? ⟨gb878, 1, none⟩ = some (.int .i64 t872) := (blk_cell BK878.out 1).trans rfl
                  have hcz84_2 : w69.cell? ⟨gb878, 2, none⟩ = some (.int .i64 t873) := (blk_cell BK878.out 2).trans rfl
                  have hcz84_3 : w69.cell? ⟨gb878, 3, none⟩ = some (.slice Ao36 t874.length co36) := (blk_cell BK878.out 3).trans rfl
                  have hfz84_0 := blk_frozen BK878.out 0
                  have hfz84_1 := blk_frozen BK878.out 1
                  have hfz84_2 := blk_frozen BK878.out 2
                  have hfz84_3 := blk_frozen BK878.out 3
                  have hnb85 := NB863_848.out
                  have hnc85 := NB848_863.out
                  have hnb86 := NB863_870.out
                  have hnc86 := NB870_863.out
                  have hcz87_0 : w69.cell? ⟨gb863, 0, none⟩ = some (.int .i64 t856) := (blk_cell BK863.out 0).trans rfl
                  have hcz87_1 : w69.cell? ⟨gb863, 1, none⟩ = some (.int .i64 t857) := (blk_cell BK863.out 1).trans rfl
                  have hcz87_2 : w69.cell? ⟨gb863, 2, none⟩ = some (.int .i64 t858) := (blk_cell BK863.out 2).trans rfl
                  have hcz87_3 : w69.cell? ⟨gb863, 3, none⟩ = some (.slice Ao22 t859.length co22) := (blk_cell BK863.out 3).trans rfl
                  have hfz87_0 := blk_frozen BK863.out 0
                  have hfz87_1 := blk_frozen BK863.out 1
                  have hfz87_2 := blk_frozen BK863.out 2
                  have hfz87_3 := blk_frozen BK863.out 3
                  go_wp2_with (first | (go_at_call 17; (with_reducible refine (laws_eqMatrix.calls kj10 t871 t872 t873 _ _ t874 t856 t857 t858 _ _ t859 false _ ?side1 ?side2 ?side3 ?side4 A71.out).mono ?_); (case side1 => repeat (first | exact (Kd.R_reads' HO_879003.out).2.2 | (with_reducible refine Kd.C_alloc ?_ _) | (with_reducible refine Kd.C_drewN ?_ _) | (with_reducible refine Kd.C_drew ?_))); (case side2 => exact (Kd.R_reads' HO_879003.out).2.1); (case side3 => repeat (first | exact (Kd.R_reads' HO_864003.out).2.2 | (with_reducible refine Kd.C_alloc ?_ _) | (with_reducible refine Kd.C_drewN ?_ _) | (with_reducible refine Kd.C_drew ?_))); (case side4 => exact (Kd.R_reads' HO_864003.out).2.1); rintro e w88 ⟨rfl, hb⟩; have n0_ := Aside0.mk (Kd.R_below (by (with_reducible repeat (first | apply Kd.R_alloc | apply Kd.R_drewN | apply Kd.R_drew)); exact HO_864003.out) hb); have n1_ := Aside0.mk (Kd.R_below (by (with_reducible repeat (first | apply Kd.R_alloc | apply Kd.R_drewN | apply Kd.R_drew)); exact HO_871003.out) hb); have n2_ := Aside0.mk (Kd.R_below (by (with_reducible repeat (first | apply Kd.R_alloc | apply Kd.R_drewN | apply Kd.R_drew)); exact HO_879003.out) hb); have n3_ := Aside0.mk (Kd.R_below (by (with_reducible repeat (first | apply Kd.R_alloc | apply Kd.R_drewN | apply Kd.R_drew)); exact HO885.out) hb); have n4_ := Aside0.mk (blk_below (g := gb848) (o := .cells #[.int .i64 a0_0, .int .i64 a0_1, .int .i64 a0_2, .slice A0_3 l0_3.length c0_3] 32 (0, 0)) (by (with_reducible repeat (first | refine blk_drewN ?_ _ | refine blk_drew ?_ | refine blk_alloc ?_ _)); exact BK848.out) hb); have n5_ := Aside0.mk (blk_below (g := gb863) (o := .cells #[.int .i64 t856, .int .i64 t857, .int .i64 t858, .slice Ao22 t859.length co22] 24 (0, 0)) (by (with_reducible repeat (first | refine blk_drewN ?_ _ | refine blk_drew ?_ | refine blk_alloc ?_ _)); exact BK863.out) hb); have n6_ := Aside0.mk (blk_below (g := gb870) (o := .cells #[.int .i64 t864, .int .i64 t865, .int .i64 t866, .slice Ao29 t867.length co29] 24 (0, 0)) (by (with_reducible repeat (first | refine blk_drewN ?_ _ | refine blk_drew ?_ | refine blk_alloc ?_ _)); exact BK870.out) hb); have n7_ := Aside0.mk (blk_below (g := gb878) (o := .cells #[.int .i64 t871, .int .i64 t872, .int .i64 t873, .slice Ao36 t874.length co36] 24 (0, 0)) (by (with_reducible repeat (first | refine blk_drewN ?_ _ | refine blk_drew ?_ | refine blk_alloc ?_ _)); exact BK878.out) hb); have n8_ := Aside0.mk (below_step (by repeat (first | (with_reducible first | exact HB.out | apply below_alloc | apply pw_below_drewN | apply below_drew1 | refine below_set ?_ GE848.out | refine below_set ?_ GE863.out | refine below_set ?_ GE870.out | refine below_set ?_ GE878.out) | exact HB.out)) hb); clear HO_864003; clear HO_871003; clear HO_879003; clear HO885; clear BK848; clear BK863; clear BK870; clear BK878; clear HB; have HO_864003 := n0_; have HO_871003 := n1_; have HO_879003 := n2_; have HO885 := n3_; have BK848 := n4_; have BK863 := n5_; have BK870 := n6_; have BK878 := n7_; have HB := n8_; clear n0_ n1_ n2_ n3_ n4_ n5_ n6_ n7_ n8_; (try clear hb); (try clear hb2); (try clear hk); (try clear hi)))
                  go_meet
                  case rel => exact ⟨_, (true), (by first | rfl | (simp; done) | (simp [*]; done)), H', ⟨by have := HJ10.out; first | omega | exact Nat.le_refl _⟩, ⟨by (with_reducible repeat (first | apply Kd.R_alloc | apply Kd.R_drewN | apply Kd.R_drew)); exact Kd.R_mono HO_864003.out (fun _ hk => ⟨hk.1, hk.2.1⟩)⟩, ⟨by (with_reducible repeat (first | apply Kd.R_alloc | apply Kd.R_drewN | apply Kd.R_drew)); exact Kd.R_mono HO_871003.out (fun _ hk => ⟨hk.1.1, hk.1.2⟩)⟩, ⟨by (with_reducible repeat (first | apply Kd.R_alloc | apply Kd.R_drewN | apply Kd.R_drew)); exact Kd.R_mono HO_879003.out (fun _ hk => ⟨hk.1, hk.2.1⟩)⟩, ⟨by (with_reducible repeat (first | refine blk_drewN ?_ _ | refine blk_drew ?_ | refine blk_alloc ?_ _)); exact BK848.out⟩, ⟨by (with_reducible repeat (first | refine blk_drewN ?_ _ | refine blk_drew ?_ | refine blk_alloc ?_ _)); exact BK863.out⟩, ⟨by (with_reducible repeat (first | refine blk_drewN ?_ _ | refine blk_drew ?_ | refine blk_alloc ?_ _)); exact BK870.out⟩, ⟨by (with_reducible repeat (first | refine blk_drewN ?_ _ | refine blk_drew ?_ | refine blk_alloc ?_ _)); exact BK878.out⟩, ⟨by repeat (first | (with_reducible first | exact HB.out | apply below_alloc | apply pw_below_drewN | apply below_drew1 | refine below_set ?_ GE848.out | refine below_set ?_ GE863.out | refine below_set ?_ GE870.out | refine below_set ?_ GE878.out) | exact HB.out)⟩⟩
            case rest =>
              clear HC60
              try clear c1
              try clear c2
              try clear p2
              try clear c3
              try clear c3b0
              try clear c4
              try clear c5
              try clear c6
              try clear c7
              try clear c8
              try clear c17
              try clear c18
              try clear c20
              try clear c22
              try clear c24
              try clear c26
              try clear c27
              try clear c32
              try clear c33
              try clear c34
              try clear c38
              try clear c39
              try clear c40
              try clear c41
              try clear c43
              try clear c44
              try clear c47
              try clear c48
              try clear c49
              try clear c51
              try clear c52
              try clear c55
              try clear c58
              try clear c65
              try clear c66
              try clear c67
              try clear c70
              try clear c70b0
              try clear c72
              try clear c73
              try clear c74
              try clear c75
              try clear c77
              try clear c78
              try clear c81
              try clear c82
              try clear c83
              try clear c85
              try clear c86
              try clear hcz13_0
              try clear hcz13_1
              try clear hcz13_2
              try clear hcz13_3
              try clear hcz15_0
              try clear hcz15_1
              try clear hcz15_2
              try clear hcz15_3
              try clear hcz21_0
              try clear hcz21_1
              try clear hcz21_2
              try clear hcz21_3
              try clear hcz23_0
              try clear hcz23_1
              try clear hcz23_2
              try clear hcz23_3
              try clear hcz28_0
              try clear hcz28_1
              try clear hcz28_2
              try clear hcz28_3
              try clear hcz35_0
              try clear hcz35_1
              try clear hcz35_2
              try clear hcz35_3
              try clear hcz42_0
              try clear hcz42_1
              try clear hcz42_2
              try clear hcz42_3
              try clear hcz45_0
              try clear hcz45_1
              try clear hcz45_2
              try clear hcz45_3
              try clear hcz50_0
              try clear hcz50_1
              try clear hcz50_2
              try clear hcz50_3
              try clear hcz53_0
              try clear hcz53_1
              try clear hcz53_2
              try clear hcz53_3
              try clear hcz5_0
              try clear hcz5_1
              try clear hcz5_2
              try clear hcz5_3
              try clear hcz68_0
              try clear hcz68_1
              try clear hcz68_2
              try clear hcz68_3
              try clear hcz76_0
              try clear hcz76_1
              try clear hcz76_2
              try clear hcz76_3
              try clear hcz79_0
              try clear hcz79_1
              try clear hcz79_2
              try clear hcz79_3
              try clear hcz84_0
              try clear hcz84_1
              try clear hcz84_2
              try clear hcz84_3
              try clear hcz87_0
              try clear hcz87_1
              try clear hcz87_2
              try clear hcz87_3
              try clear hfz13_0
              try clear hfz13_1
              try clear hfz13_2
              try clear hfz13_3
              try clear hfz15_0
              try clear hfz15_1
              try clear hfz15_2
              try clear hfz15_3
              try clear hfz21_0
              try clear hfz21_1
              try clear hfz21_2
              try clear hfz21_3
              try clear hfz23_0
              try clear hfz23_1
              try clear hfz23_2
              try clear hfz23_3
              try clear hfz28_0
              try clear hfz28_1
              try clear hfz28_2
              try clear hfz28_3
              try clear hfz35_0
              try clear hfz35_1
              try clear hfz35_2
              try clear hfz35_3
              try clear hfz42_0
              try clear hfz42_1
              try clear hfz42_2
              try clear hfz42_3
              try clear hfz45_0
              try clear hfz45_1
              try clear hfz45_2
              try clear hfz45_3
              try clear hfz50_0
              try clear hfz50_1
              try clear hfz50_2
              try clear hfz50_3
              try clear hfz53_0
              try clear hfz53_1
              try clear hfz53_2
              try clear hfz53_3
              try clear hfz5_0
              try clear hfz5_1
              try clear hfz5_2
              try clear hfz5_3
              try clear hfz68_0
              try clear hfz68_1
              try clear hfz68_2
              try clear hfz68_3
              try clear hfz76_0
              try clear hfz76_1
              try clear hfz76_2
              try clear hfz76_3
              try clear hfz79_0
              try clear hfz79_1
              try clear hfz79_2
              try clear hfz79_3
              try clear hfz84_0
              try clear hfz84_1
              try clear hfz84_2
              try clear hfz84_3
              try clear hfz87_0
              try clear hfz87_1
              try clear hfz87_2
              try clear hfz87_3
              try clear p2
              obtain ⟨kq, x61_59, rfl, HA, HJ59, HO_864003, HO_871003, HO_879003, BK848, BK863, BK870, BK878, HB⟩ := hcut
              have hl871003_59 := (Kd.R_reads' HO_871003.out).1
              rw [hl871003_59] at HO_871003
              (try simp only [hl871003_59])
              (try simp only [hl871003_59] at BK848)
              (try simp only [hl871003_59] at BK863)
              (try simp only [hl871003_59] at BK870)
              (try simp only [hl871003_59] at BK878)
              (try simp only [hl871003_59] at HO_864003)
              (try simp only [hl871003_59] at HO_879003)
              cases kq with
              | zero => exact absurd HA.out (by simp [laws_FnExactTranspose.j1])
              | succ kj59 =>
                have H := HA.out
                clear HA
                simp only [laws_FnExactTranspose.j1] at H
                by_cases c89 : x61_59 = true
                · subst c89
                  have H1 : (some false) = some r := by rw [if_pos rfl] at H; exact H
                  clear H
                  have H := H1
                  clear H1
                  obtain rfl := Option.some.inj H
                  go_wp2
                  go_ret
                  exact ⟨by first | rfl | (simp [errW_none, errW_some] <;> rfl) | (simp [*, errW_none, errW_some] <;> rfl), by repeat (first | (with_reducible first | exact HB.out | apply below_alloc | apply pw_below_drewN | apply below_drew1 | refine below_set ?_ GE848.out | refine below_set ?_ GE863.out | refine below_set ?_ GE870.out | refine below_set ?_ GE878.out) | exact HB.out)⟩
                · replace c89 := Bool.eq_false_iff.mpr c89
                  subst c89
                  have H1 : ((laws_markMatrix.f kj59 t871 t872 t873 t874 1).bind fun bt890 => ((laws_heldMatrix.f kj59 t871 t872 t873 bt890.2 1).bind fun t892 => (if t892 < 0 then (some false) else (if t892 = bt890.1 then ((laws_toMatrix.f kj59 a0_0 a0_1 a0_2 l0_3).bind fun bt893 => ((impl_Transpose.f kj59 bt893.1 bt893.2.1 bt893.2.2.1 bt893.2.2.2).bind fun bt899 => ((laws_eqMatrix.f kj59 bt899.1 bt899.2.1 bt899.2.2.1 bt899.2.2.2.1 t856 t857 t858 t859).bind fun t907 => (if t907 = true then (laws_FnExactTranspose.j2 kj59 bt890.1 (bt899.2.2.2.2 != t862) t871 t872 t873 bt890.2) else (laws_FnExactTranspose.j2 kj59 bt890.1 true t871 t872 t873 bt890.2))))) else (some false))))) = some r := by rw [if_neg (show ¬ (false = true) by decide)] at H; exact H
                  clear H
                  have H := H1
                  clear H1
                  replace H := Option.bind_eq_some_iff.mp H
                  obtain ⟨⟨t890, t891⟩, A900, H⟩ := H
                  replace H : ((laws_heldMatrix.f kj59 t871 t872 t873 t891 1).bind fun t892 => (if t892 < 0 then (some false) else (if t892 = t890 then ((laws_toMatrix.f kj59 a0_0 a0_1 a0_2 l0_3).bind fun bt893 => ((impl_Transpose.f kj59 bt893.1 bt893.2.1 bt893.2.2.1 bt893.2.2.2).bind fun bt899 => ((laws_eqMatrix.f kj59 bt899.1 bt899.2.1 bt899.2.2.1 bt899.2.2.2.1 t856 t857 t858 t859).bind fun t907 => (if t907 = true then (laws_FnExactTranspose.j2 kj59 t890 (bt899.2.2.2.2 != t862) t871 t872 t873 t891) else (laws_FnExactTranspose.j2 kj59 t890 true t871 t872 t873 t891))))) else (some false)))) = some r := H
                  have A90 := Aside0.mk A900
                  clear A900
                  replace H := Option.bind_eq_some_iff.mp H
                  obtain ⟨t892, A910, H⟩ := H
                  replace H : (if t892 < 0 then (some false) else (if t892 = t890 then ((laws_toMatrix.f kj59 a0_0 a0_1 a0_2 l0_3).bind fun bt893 => ((impl_Transpose.f kj59 bt893.1 bt893.2.1 bt893.2.2.1 bt893.2.2.2).bind fun bt899 => ((laws_eqMatrix.f kj59 bt899.1 bt899.2.1 bt899.2.2.1 bt899.2.2.2.1 t856 t857 t858 t859).bind fun t907 => (if t907 = true then (laws_FnExactTranspose.j2 kj59 t890 (bt899.2.2.2.2 != t862) t871 t872 t873 t891) else (laws_FnExactTranspose.j2 kj59 t890 true t871 t872 t873 t891))))) else (some false))) = some r := H
                  have A91 := Aside0.mk A910
                  clear A910
                  by_cases c92 : t892 < 0
                  · rw [if_pos c92] at H
                    have c92b0 : decide (t892 < 0) = true := decide_eq_true c92
                    clear c92
                    obtain rfl := Option.some.inj H
                    have hnb93 := NB878_848.out
                    have hnc93 := NB848_878.out
                    have hnb94 := NB878_863.out
                    have hnc94 := NB863_878.out
                    have hnb95 := NB878_870.out
                    have hnc95 := NB870_878.out
                    have hcz96_0 : wc.cell? ⟨gb878, 0, none⟩ = some (.int .i64 t871) := (blk_cell BK878.out 0).trans rfl
                    have hcz96_1 : wc.cell? ⟨gb878, 1, none⟩ = some (.int .i64 t872) := (blk_cell BK878.out 1).trans rfl
                    have hcz96_2 : wc.cell? ⟨gb878, 2, none⟩ = some (.int .i64 t873) := (blk_cell BK878.out 2).trans rfl
                    have hcz96_3 : wc.cell? ⟨gb878, 3, none⟩ = some (.slice Ao36 t874.length co36) := (blk_cell BK878.out 3).trans rfl
                    have hfz96_0 := blk_frozen BK878.out 0
                    have hfz96_1 := blk_frozen BK878.out 1
                    have hfz96_2 := blk_frozen BK878.out 2
                    have hfz96_3 := blk_frozen BK878.out 3
                    go_wp2_with (first | ((with_reducible refine gate_callee (f := 18) rfl ?_); refine goesL_ (some 64) rfl rfl Try.func18 (by kernel_rfl) rfl #[.agg #[.int .i64 t871, .int .i64 t872, .int .i64 t873, .slice Ao36 t874.length co36], .int .i64 1] rfl (by (try simp only [List.map_toArray, List.map_cons, List.map_nil]); first | done | rfl | (simp only [List.length_drop, List.length_take]; rfl)) ?_; (with_reducible refine (laws_markMatrix.calls kj59 t871 t872 t873 (fun k_ => some k_ = (.slice Ao36 t874.length co36 : Value).ownBlock) (.slice Ao36 t874.length co36) t874 1 t890 t891 w _ ?side1 ?side2 A90.out).mono ?_); (case side1 => repeat (first | (with_reducible first | exact HB.out | apply below_alloc | apply pw_below_drewN | apply below_drew1 | refine below_set ?_ GE848.out | refine below_set ?_ GE863.out | refine below_set ?_ GE870.out | refine below_set ?_ GE878.out) | exact HB.out)); (case side2 => exact Kd.R_tight rfl HO_879003.out); rintro e w97 ⟨rfl, hy0, hb, hkp⟩; refine ⟨_, rfl, ?_⟩; have n0_ := Aside0.mk (Kd.R_mono (ok' := fun k_ => some k_ ≠ (.slice Ao29 t888.length co29 : Value).ownBlock ∧ some k_ ≠ (.slice Ao36 t874.length co36 : Value).ownBlock) (Kd.R_keptB (HO_864003.out) hkp (fun k_ hk_ hs_ => (hk_.2) hs_)) (fun k_ hk_ => ⟨hk_.1.1, hk_.1.2⟩)); have n1_ := Aside0.mk (Kd.R_mono (ok' := fun k_ => some k_ ≠ (.slice Ao22 t859.length co22 : Value).ownBlock ∧ some k_ ≠ (.slice Ao36 t874.length co36 : Value).ownBlock) (Kd.R_keptB (HO_871003.out) hkp (fun k_ hk_ hs_ => (hk_.2) hs_)) (fun k_ hk_ => ⟨hk_.1.1, hk_.1.2⟩)); have n2_ := Aside0.mk (Kd.R_reok rfl hy0 (fun k_ e_ => HO_879003.out.1 k_ e_)); have n3_ := Aside0.mk (blk_kept (by (with_reducible repeat (first | refine blk_drewN ?_ _ | refine blk_drew ?_ | refine blk_alloc ?_ _)); exact BK848.out) hkp (fun hs_ => (fun e_ => (Kd.R_ne HO_879003.out BK848.out (by decide)) e_) hs_)); have n4_ := Aside0.mk (blk_kept (by (with_reducible repeat (first | refine blk_drewN ?_ _ | refine blk_drew ?_ | refine blk_alloc ?_ _)); exact BK863.out) hkp (fun hs_ => (fun e_ => (Kd.R_ne HO_879003.out BK863.out (by decide)) e_) hs_)); have n5_ := Aside0.mk (blk_kept (by (with_reducible repeat (first | refine blk_drewN ?_ _ | refine blk_drew ?_ | refine blk_alloc ?_ _)); exact BK870.out) hkp (fun hs_ => (fun e_ => (Kd.R_ne HO_879003.out BK870.out (by decide)) e_) hs_)); have n6_ := Aside0.mk (blk_kept (by (with_reducible repeat (first | refine blk_drewN ?_ _ | refine blk_drew ?_ | refine blk_alloc ?_ _)); exact BK878.out) hkp (fun hs_ => (fun e_ => (Kd.R_ne HO_879003.out BK878.out (by decide)) e_) hs_)); have n7_ := Aside0.mk (hb); clear HO_864003; clear HO_871003; clear HO_879003; clear BK848; clear BK863; clear BK870; clear BK878; clear HB; have HO_864003 := n0_; have HO_871003 := n1_; have HO_879003 := n2_; have BK848 := n3_; have BK863 := n4_; have BK870 := n5_; have BK878 := n6_; have HB := n7_; clear n0_ n1_ n2_ n3_ n4_ n5_ n6_ n7_; (try clear hb); (try clear hkp); (try clear hy0); have hcz98_0 : w97.cell? ⟨gb878, 0, none⟩ = some (.int .i64 t871) := (blk_cell BK878.out 0).trans rfl; have hcz98_1 : w97.cell? ⟨gb878, 1, none⟩ = some (.int .i64 t872) := (blk_cell BK878.out 1).trans rfl; have hcz98_2 : w97.cell? ⟨gb878, 2, none⟩ = some (.int .i64 t873) := (blk_cell BK878.out 2).trans rfl; have hcz98_3 : w97.cell? ⟨gb878, 3, none⟩ = some (.slice Ao36 t874.length co36) := (blk_cell BK878.out 3).trans rfl; have hfz98_0 := blk_frozen BK878.out 0; have hfz98_1 := blk_frozen BK878.out 1; have hfz98_2 := blk_frozen BK878.out 2; have hfz98_3 := blk_frozen BK878.out 3) | ((with_reducible refine gate_callee (f := 19) rfl ?_); refine goesL_ (some 67) rfl rfl Try.func19 (by kernel_rfl) rfl #[.agg #[.int .i64 t871, .int .i64 t872, .int .i64 t873, .slice Ao36 t891.length co36], .int .i64 1] rfl (by (try simp only [List.map_toArray, List.map_cons, List.map_nil]); first | done | (rw [show t891.length = t874.length from (Kd.R_reads' HO_879003.out).1.symm] <;> rfl) | rfl | (simp only [List.length_drop, List.length_take]; rfl)) ?_; (with_reducible refine (laws_heldMatrix.calls kj59 t871 t872 t873 _ _ t891 1 t892 _ ?side1 ?side2 A91.out).mono ?_); (case side1 => repeat (first | exact (Kd.R_reads' HO_879003.out).2.2 | (with_reducible refine Kd.C_alloc ?_ _) | (with_reducible refine Kd.C_drewN ?_ _) | (with_reducible refine Kd.C_drew ?_))); (case side2 => rw [show t891.length = t874.length from (Kd.R_reads' HO_879003.out).1.symm]; exact (Kd.R_reads' HO_879003.out).2.1); rintro e w99 ⟨rfl, hb⟩; refine ⟨_, rfl, ?_⟩; have n0_ := Aside0.mk (Kd.R_below (by (with_reducible repeat (first | apply Kd.R_alloc | apply Kd.R_drewN | apply Kd.R_drew)); exact HO_864003.out) hb); have n1_ := Aside0.mk (Kd.R_below (by (with_reducible repeat (first | apply Kd.R_alloc | apply Kd.R_drewN | apply Kd.R_drew)); exact HO_871003.out) hb); have n2_ := Aside0.mk (Kd.R_below (by (with_reducible repeat (first | apply Kd.R_alloc | apply Kd.R_drewN | apply Kd.R_drew)); exact HO_879003.out) hb); have n3_ := Aside0.mk (blk_below (g := gb848) (o := .cells #[.int .i64 a0_0, .int .i64 a0_1, .int .i64 a0_2, .slice A0_3 l0_3.length c0_3] 32 (0, 0)) (by (with_reducible repeat (first | refine blk_drewN ?_ _ | refine blk_drew ?_ | refine blk_alloc ?_ _)); exact BK848.out) hb); have n4_ := Aside0.mk (blk_below (g := gb863) (o := .cells #[.int .i64 t856, .int .i64 t857, .int .i64 t858, .slice Ao22 t859.length co22] 24 (0, 0)) (by (with_reducible repeat (first | refine blk_drewN ?_ _ | refine blk_drew ?_ | refine blk_alloc ?_ _)); exact BK863.out) hb); have n5_ := Aside0.mk (blk_below (g := gb870) (o := .cells #[.int .i64 t864, .int .i64 t865, .int .i64 t866, .slice Ao29 t888.length co29] 24 (0, 0)) (by (with_reducible repeat (first | refine blk_drewN ?_ _ | refine blk_drew ?_ | refine blk_alloc ?_ _)); exact BK870.out) hb); have n6_ := Aside0.mk (blk_below (g := gb878) (o := .cells #[.int .i64 t871, .int .i64 t872, .int .i64 t873, .slice Ao36 t874.length co36] 24 (0, 0)) (by (with_reducible repeat (first | refine blk_drewN ?_ _ | refine blk_drew ?_ | refine blk_alloc ?_ _)); exact BK878.out) hb); have n7_ := Aside0.mk (below_step (by repeat (first | (with_reducible first | exact HB.out | apply below_alloc | apply pw_below_drewN | apply below_drew1 | refine below_set ?_ GE848.out | refine below_set ?_ GE863.out | refine below_set ?_ GE870.out | refine below_set ?_ GE878.out) | exact HB.out)) hb); clear HO_864003; clear HO_871003; clear HO_879003; clear BK848; clear BK863; clear BK870; clear BK878; clear HB; have HO_864003 := n0_; have HO_871003 := n1_; have HO_879003 := n2_; have BK848 := n3_; have BK863 := n4_; have BK870 := n5_; have BK878 := n6_; have HB := n7_; clear n0_ n1_ n2_ n3_ n4_ n5_ n6_ n7_; (try clear hb); (try clear hb2); (try clear hk); (try clear hi)))
                    go_ret
                    exact ⟨by first | rfl | (simp [errW_none, errW_some] <;> rfl) | (simp [*, errW_none, errW_some] <;> rfl), by repeat (first | (with_reducible first | exact HB.out | apply below_alloc | apply pw_below_drewN | apply below_drew1 | refine below_set ?_ GE848.out | refine below_set ?_ GE863.out | refine below_set ?_ GE870.out | refine below_set ?_ GE878.out) | exact HB.out)⟩
                  · rw [if_neg c92] at H
                    have c92b0 : decide (t892 < 0) = false := decide_eq_false c92
                    clear c92
                    by_cases c100 : t892 = t890
                    · rw [if_pos c100] at H
                      have c100b0 : (t892 == t890) = true := beq_iff_eq.mpr c100
                      have c100b1 : (t892 != t890) = false := bne_eq_false_iff_eq.mpr c100
                      clear c100
                      replace H := Option.bind_eq_some_iff.mp H
                      obtain ⟨⟨t893, t894, t895, t896⟩, A1010, H⟩ := H
                      replace H : ((impl_Transpose.f kj59 t893 t894 t895 t896).bind fun bt899 => ((laws_eqMatrix.f kj59 bt899.1 bt899.2.1 bt899.2.2.1 bt899.2.2.2.1 t856 t857 t858 t859).bind fun t907 => (if t907 = true then (laws_FnExactTranspose.j2 kj59 t890 (bt899.2.2.2.2 != t862) t871 t872 t873 t891) else (laws_FnExactTranspose.j2 kj59 t890 true t871 t872 t873 t891)))) = some r := H
                      have A101 := Aside0.mk A1010
                      clear A1010
                      replace H := Option.bind_eq_some_iff.mp H
                      obtain ⟨⟨t899, t900, t901, t902, t905⟩, A1020, H⟩ := H
                      replace H : ((laws_eqMatrix.f kj59 t899 t900 t901 t902 t856 t857 t858 t859).bind fun t907 => (if t907 = true then (laws_FnExactTranspose.j2 kj59 t890 (t905 != t862) t871 t872 t873 t891) else (laws_FnExactTranspose.j2 kj59 t890 true t871 t872 t873 t891))) = some r := H
                      have A102 := Aside0.mk A1020
                      clear A1020
                      have HC103 := Aside0.mk H
                      clear H
                      have hnb104 := NB878_848.out
                      have hnc104 := NB848_878.out
                      have hnb105 := NB878_863.out
                      have hnc105 := NB863_878.out
                      have hnb106 := NB878_870.out
                      have hnc106 := NB870_878.out
                      have hcz107_0 : wc.cell? ⟨gb878, 0, none⟩ = some (.int .i64 t871) := (blk_cell BK878.out 0).trans rfl
                      have hcz107_1 : wc.cell? ⟨gb878, 1, none⟩ = some (.int .i64 t872) := (blk_cell BK878.out 1).trans rfl
                      have hcz107_2 : wc.cell? ⟨gb878, 2, none⟩ = some (.int .i64 t873) := (blk_cell BK878.out 2).trans rfl
                      have hcz107_3 : wc.cell? ⟨gb878, 3, none⟩ = some (.slice Ao36 t874.length co36) := (blk_cell BK878.out 3).trans rfl
                      have hfz107_0 := blk_frozen BK878.out 0
                      have hfz107_1 := blk_frozen BK878.out 1
                      have hfz107_2 := blk_frozen BK878.out 2
                      have hfz107_3 := blk_frozen BK878.out 3
                      go_upto_region 25 with (first | ((with_reducible refine gate_callee (f := 18) rfl ?_); refine goesL_ (some 64) rfl rfl Try.func18 (by kernel_rfl) rfl #[.agg #[.int .i64 t871, .int .i64 t872, .int .i64 t873, .slice Ao36 t874.length co36], .int .i64 1] rfl (by (try simp only [List.map_toArray, List.map_cons, List.map_nil]); first | done | rfl | (simp only [List.length_drop, List.length_take]; rfl)) ?_; (with_reducible refine (laws_markMatrix.calls kj59 t871 t872 t873 (fun k_ => some k_ = (.slice Ao36 t874.length co36 : Value).ownBlock) (.slice Ao36 t874.length co36) t874 1 t890 t891 w _ ?side1 ?side2 A90.out).mono ?_); (case side1 => repeat (first | (with_reducible first | exact HB.out | apply below_alloc | apply pw_below_drewN | apply below_drew1 | refine below_set ?_ GE848.out | refine below_set ?_ GE863.out | refine below_set ?_ GE870.out | refine below_set ?_ GE878.out) | exact HB.out)); (case side2 => exact Kd.R_tight rfl HO_879003.out); rintro e w108 ⟨rfl, hy0, hb, hkp⟩; refine ⟨_, rfl, ?_⟩; have n0_ := Aside0.mk (Kd.R_mono (ok' := fun k_ => some k_ ≠ (.slice Ao29 t888.length co29 : Value).ownBlock ∧ some k_ ≠ (.slice Ao36 t874.length co36 : Value).ownBlock) (Kd.R_keptB (HO_864003.out) hkp (fun k_ hk_ hs_ => (hk_.2) hs_)) (fun k_ hk_ => ⟨hk_.1.1, hk_.1.2⟩)); have n1_ := Aside0.mk (Kd.R_mono (ok' := fun k_ => some k_ ≠ (.slice Ao22 t859.length co22 : Value).ownBlock ∧ some k_ ≠ (.slice Ao36 t874.length co36 : Value).ownBlock) (Kd.R_keptB (HO_871003.out) hkp (fun k_ hk_ hs_ => (hk_.2) hs_)) (fun k_ hk_ => ⟨hk_.1.1, hk_.1.2⟩)); have n2_ := Aside0.mk (Kd.R_reok rfl hy0 (fun k_ e_ => HO_879003.out.1 k_ e_)); have n3_ := Aside0.mk (blk_kept (by (with_reducible repeat (first | refine blk_drewN ?_ _ | refine blk_drew ?_ | refine blk_alloc ?_ _)); exact BK848.out) hkp (fun hs_ => (fun e_ => (Kd.R_ne HO_879003.out BK848.out (by decide)) e_) hs_)); have n4_ := Aside0.mk (blk_kept (by (with_reducible repeat (first | refine blk_drewN ?_ _ | refine blk_drew ?_ | refine blk_alloc ?_ _)); exact BK863.out) hkp (fun hs_ => (fun e_ => (Kd.R_ne HO_879003.out BK863.out (by decide)) e_) hs_)); have n5_ := Aside0.mk (blk_kept (by (with_reducible repeat (first | refine blk_drewN ?_ _ | refine blk_drew ?_ | refine blk_alloc ?_ _)); exact BK870.out) hkp (fun hs_ => (fun e_ => (Kd.R_ne HO_879003.out BK870.out (by decide)) e_) hs_)); have n6_ := Aside0.mk (blk_kept (by (with_reducible repeat (first | refine blk_drewN ?_ _ | refine blk_drew ?_ | refine blk_alloc ?_ _)); exact BK878.out) hkp (fun hs_ => (fun e_ => (Kd.R_ne HO_879003.out BK878.out (by decide)) e_) hs_)); have n7_ := Aside0.mk (hb); clear HO_864003; clear HO_871003; clear HO_879003; clear BK848; clear BK863; clear BK870; clear BK878; clear HB; have HO_864003 := n0_; have HO_871003 := n1_; have HO_879003 := n2_; have BK848 := n3_; have BK863 := n4_; have BK870 := n5_; have BK878 := n6_; have HB := n7_; clear n0_ n1_ n2_ n3_ n4_ n5_ n6_ n7_; (try clear hb); (try clear hkp); (try clear hy0); have hcz109_0 : w108.cell? ⟨gb878, 0, none⟩ = some (.int .i64 t871) := (blk_cell BK878.out 0).trans rfl; have hcz109_1 : w108.cell? ⟨gb878, 1, none⟩ = some (.int .i64 t872) := (blk_cell BK878.out 1).trans rfl; have hcz109_2 : w108.cell? ⟨gb878, 2, none⟩ = some (.int .i64 t873) := (blk_cell BK878.out 2).trans rfl; have hcz109_3 : w108.cell? ⟨gb878, 3, none⟩ = some (.slice Ao36 t874.length co36) := (blk_cell BK878.out 3).trans rfl; have hfz109_0 := blk_frozen BK878.out 0; have hfz109_1 := blk_frozen BK878.out 1; have hfz109_2 := blk_frozen BK878.out 2; have hfz109_3 := blk_frozen BK878.out 3) | ((with_reducible refine gate_callee (f := 19) rfl ?_); refine goesL_ (some 67) rfl rfl Try.func19 (by kernel_rfl) rfl #[.agg #[.int .i64 t871, .int .i64 t872, .int .i64 t873, .slice Ao36 t891.length co36], .int .i64 1] rfl (by (try simp only [List.map_toArray, List.map_cons, List.map_nil]); first | done | (rw [show t891.length = t874.length from (Kd.R_reads' HO_879003.out).1.symm] <;> rfl) | rfl | (simp only [List.length_drop, List.length_take]; rfl)) ?_; (with_reducible refine (laws_heldMatrix.calls kj59 t871 t872 t873 _ _ t891 1 t892 _ ?side1 ?side2 A91.out).mono ?_); (case side1 => repeat (first | exact (Kd.R_reads' HO_879003.out).2.2 | (with_reducible refine Kd.C_alloc ?_ _) | (with_reducible refine Kd.C_drewN ?_ _) | (with_reducible refine Kd.C_drew ?_))); (case side2 => rw [show t891.length = t874.length from (Kd.R_reads' HO_879003.out).1.symm]; exact (Kd.R_reads' HO_879003.out).2.1); rintro e w110 ⟨rfl, hb⟩; refine ⟨_, rfl, ?_⟩; have n0_ := Aside0.mk (Kd.R_below (by (with_reducible repeat (first | apply Kd.R_alloc | apply Kd.R_drewN | apply Kd.R_drew)); exact HO_864003.out) hb); have n1_ := Aside0.mk (Kd.R_below (by (with_reducible repeat (first | apply Kd.R_alloc | apply Kd.R_drewN | apply Kd.R_drew)); exact HO_871003.out) hb); have n2_ := Aside0.mk (Kd.R_below (by (with_reducible repeat (first | apply Kd.R_alloc | apply Kd.R_drewN | apply Kd.R_drew)); exact HO_879003.out) hb); have n3_ := Aside0.mk (blk_below (g := gb848) (o := .cells #[.int .i64 a0_0, .int .i64 a0_1, .int .i64 a0_2, .slice A0_3 l0_3.length c0_3] 32 (0, 0)) (by (with_reducible repeat (first | refine blk_drewN ?_ _ | refine blk_drew ?_ | refine blk_alloc ?_ _)); exact BK848.out) hb); have n4_ := Aside0.mk (blk_below (g := gb863) (o := .cells #[.int .i64 t856, .int .i64 t857, .int .i64 t858, .slice Ao22 t859.length co22] 24 (0, 0)) (by (with_reducible repeat (first | refine blk_drewN ?_ _ | refine blk_drew ?_ | refine blk_alloc ?_ _)); exact BK863.out) hb); have n5_ := Aside0.mk (blk_below (g := gb870) (o := .cells #[.int .i64 t864, .int .i64 t865, .int .i64 t866, .slice Ao29 t888.length co29] 24 (0, 0)) (by (with_reducible repeat (first | refine blk_drewN ?_ _ | refine blk_drew ?_ | refine blk_alloc ?_ _)); exact BK870.out) hb); have n6_ := Aside0.mk (blk_below (g := gb878) (o := .cells #[.int .i64 t871, .int .i64 t872, .int .i64 t873, .slice Ao36 t874.length co36] 24 (0, 0)) (by (with_reducible repeat (first | refine blk_drewN ?_ _ | refine blk_drew ?_ | refine blk_alloc ?_ _)); exact BK878.out) hb); have n7_ := Aside0.mk (below_step (by repeat (first | (with_reducible first | exact HB.out | apply below_alloc | apply pw_below_drewN | apply below_drew1 | refine below_set ?_ GE848.out | refine below_set ?_ GE863.out | refine below_set ?_ GE870.out | refine below_set ?_ GE878.out) | exact HB.out)) hb); clear HO_864003; clear HO_871003; clear HO_879003; clear BK848; clear BK863; clear BK870; clear BK878; clear HB; have HO_864003 := n0_; have HO_871003 := n1_; have HO_879003 := n2_; have BK848 := n3_; have BK863 := n4_; have BK870 := n5_; have BK878 := n6_; have HB := n7_; clear n0_ n1_ n2_ n3_ n4_ n5_ n6_ n7_; (try clear hb); (try clear hb2); (try clear hk); (try clear hi); have hnb111 := NB848_863.out; have hnc111 := NB863_848.out; have hnb112 := NB848_870.out; have hnc112 := NB870_848.out; have hcz113_0 : w110.cell? ⟨gb848, 0, none⟩ = some (.int .i64 a0_0) := (blk_cell BK848.out 0).trans rfl; have hcz113_1 : w110.cell? ⟨gb848, 1, none⟩ = some (.int .i64 a0_1) := (blk_cell BK848.out 1).trans rfl; have hcz113_2 : w110.cell? ⟨gb848, 2, none⟩ = some (.int .i64 a0_2) := (blk_cell BK848.out 2).trans rfl; have hcz113_3 : w110.cell? ⟨gb848, 3, none⟩ = some (.slice A0_3 l0_3.length c0_3) := (blk_cell BK848.out 3).trans rfl; have hfz113_0 := blk_frozen BK848.out 0; have hfz113_1 := blk_frozen BK848.out 1; have hfz113_2 := blk_frozen BK848.out 2; have hfz113_3 := blk_frozen BK848.out 3) | ((with_reducible refine gate_callee (f := 24) rfl ?_); refine goesL_ (some 75) rfl rfl Try.func24 (by kernel_rfl) rfl #[.agg #[.int .i64 a0_0, .int .i64 a0_1, .int .i64 a0_2, .slice A0_3 l0_3.length c0_3]] rfl (by (try simp only [List.map_toArray, List.map_cons, List.map_nil]); first | done | rfl | (simp only [List.length_drop, List.length_take]; rfl)) ?_; (with_reducible refine (laws_toMatrix.calls kj59 a0_0 a0_1 a0_2 _ _ l0_3 t893 t894 t895 t896 _ ?side1 ?side2 A101.out).mono ?_); (case side1 => repeat (first | exact (Kd.C_below HR0_3.out HB.out) | (with_reducible refine Kd.C_alloc ?_ _) | (with_reducible refine Kd.C_drewN ?_ _) | (with_reducible refine Kd.C_drew ?_))); (case side2 => exact HC0_3.out); rintro e w114 ⟨v897, rfl, ho0, hb⟩; refine ⟨_, rfl, ?_⟩; have n0_ := Aside0.mk (Kd.R_elder' (by (with_reducible repeat (first | apply Kd.R_alloc | apply Kd.R_drewN | apply Kd.R_drew)); exact HO_864003.out) (Kd.R_base ho0) hb); have n1_ := Aside0.mk (Kd.R_elder' (by (with_reducible repeat (first | apply Kd.R_alloc | apply Kd.R_drewN | apply Kd.R_drew)); exact HO_871003.out) (Kd.R_base ho0) hb); have n2_ := Aside0.mk (Kd.R_elder' (by (with_reducible repeat (first | apply Kd.R_alloc | apply Kd.R_drewN | apply Kd.R_drew)); exact HO_879003.out) (Kd.R_base ho0) hb); have n3_ := Aside0.mk (Kd.R_lower (Kd.R_new' (Kd.R_new' (Kd.R_new' ho0 (Kd.R_lt (by (with_reducible repeat (first | apply Kd.R_alloc | apply Kd.R_drewN | apply Kd.R_drew)); exact HO_864003.out))) (Kd.R_lt (by (with_reducible repeat (first | apply Kd.R_alloc | apply Kd.R_drewN | apply Kd.R_drew)); exact HO_871003.out))) (Kd.R_lt (by (with_reducible repeat (first | apply Kd.R_alloc | apply Kd.R_drewN | apply Kd.R_drew)); exact HO_879003.out))) (below_size (by repeat (first | (with_reducible first | exact HB.out | apply below_alloc | apply pw_below_drewN | apply below_drew1 | refine below_set ?_ GE848.out | refine below_set ?_ GE863.out | refine below_set ?_ GE870.out | refine below_set ?_ GE878.out) | exact HB.out)))); have n4_ := Aside0.mk (blk_below (g := gb848) (o := .cells #[.int .i64 a0_0, .int .i64 a0_1, .int .i64 a0_2, .slice A0_3 l0_3.length c0_3] 32 (0, 0)) (by (with_reducible repeat (first | refine blk_drewN ?_ _ | refine blk_drew ?_ | refine blk_alloc ?_ _)); exact BK848.out) hb); have n5_ := Aside0.mk (blk_below (g := gb863) (o := .cells #[.int .i64 t856, .int .i64 t857, .int .i64 t858, .slice Ao22 t859.length co22] 24 (0, 0)) (by (with_reducible repeat (first | refine blk_drewN ?_ _ | refine blk_drew ?_ | refine blk_alloc ?_ _)); exact BK863.out) hb); have n6_ := Aside0.mk (blk_below (g := gb870) (o := .cells #[.int .i64 t864, .int .i64 t865, .int .i64 t866, .slice Ao29 t888.length co29] 24 (0, 0)) (by (with_reducible repeat (first | refine blk_drewN ?_ _ | refine blk_drew ?_ | refine blk_alloc ?_ _)); exact BK870.out) hb); have n7_ := Aside0.mk (blk_below (g := gb878) (o := .cells #[.int .i64 t871, .int .i64 t872, .int .i64 t873, .slice Ao36 t874.length co36] 24 (0, 0)) (by (with_reducible repeat (first | refine blk_drewN ?_ _ | refine blk_drew ?_ | refine blk_alloc ?_ _)); exact BK878.out) hb); have n8_ := Aside0.mk (below_step (by repeat (first | (with_reducible first | exact HB.out | apply below_alloc | apply pw_below_drewN | apply below_drew1 | refine below_set ?_ GE848.out | refine below_set ?_ GE863.out | refine below_set ?_ GE870.out | refine below_set ?_ GE878.out) | exact HB.out)) hb); clear HO_864003; clear HO_871003; clear HO_879003; clear BK848; clear BK863; clear BK870; clear BK878; clear HB; have HO_864003 := n0_; have HO_871003 := n1_; have HO_879003 := n2_; have HO898 := n3_; have BK848 := n4_; have BK863 := n5_; have BK870 := n6_; have BK878 := n7_; have HB := n8_; clear n0_ n1_ n2_ n3_ n4_ n5_ n6_ n7_ n8_; (try clear hb); (try clear hb2); (try clear hk); (try clear hi); (try clear ho0); obtain ⟨Ao115, co115, eo115⟩ := Kd.R_slice HO898.out; subst eo115) | ((with_reducible refine gate_callee (f := 33) rfl ?_); refine goesL_ (some 76) rfl rfl Try.func33 (by kernel_rfl) rfl #[.agg #[.int .i64 t893, .int .i64 t894, .int .i64 t895, .slice Ao115 t896.length co115]] rfl (by (try simp only [List.map_toArray, List.map_cons, List.map_nil]); first | done | rfl | (simp only [List.length_drop, List.length_take]; rfl)) ?_; (with_reducible refine (impl_Transpose.calls kj59 t893 t894 t895 _ _ t896 t899 t900 t901 t902 t905 _ ?side1 ?side2 A102.out).mono ?_); (case side1 => repeat (first | exact (Kd.R_reads' HO898.out).2.2 | (with_reducible refine Kd.C_alloc ?_ _) | (with_reducible refine Kd.C_drewN ?_ _) | (with_reducible refine Kd.C_drew ?_))); (case side2 => exact (Kd.R_reads' HO898.out).2.1); rintro e w116 ⟨v903, rfl, ho0, hb⟩; refine ⟨_, rfl, ?_⟩; have n0_ := Aside0.mk (Kd.R_elder' (by (with_reducible repeat (first | apply Kd.R_alloc | apply Kd.R_drewN | apply Kd.R_drew)); exact HO_864003.out) (Kd.R_base ho0) hb); have n1_ := Aside0.mk (Kd.R_elder' (by (with_reducible repeat (first | apply Kd.R_alloc | apply Kd.R_drewN | apply Kd.R_drew)); exact HO_871003.out) (Kd.R_base ho0) hb); have n2_ := Aside0.mk (Kd.R_elder' (by (with_reducible repeat (first | apply Kd.R_alloc | apply Kd.R_drewN | apply Kd.R_drew)); exact HO_879003.out) (Kd.R_base ho0) hb); have n3_ := Aside0.mk (Kd.R_elder' (by (with_reducible repeat (first | apply Kd.R_alloc | apply Kd.R_drewN | apply Kd.R_drew)); exact HO898.out) (Kd.R_base ho0) hb); have n4_ := Aside0.mk (Kd.R_lower (Kd.R_new' (Kd.R_new' (Kd.R_new' (Kd.R_new' ho0 (Kd.R_lt (by (with_reducible repeat (first | apply Kd.R_alloc | apply Kd.R_drewN | apply Kd.R_drew)); exact HO_864003.out))) (Kd.R_lt (by (with_reducible repeat (first | apply Kd.R_alloc | apply Kd.R_drewN | apply Kd.R_drew)); exact HO_871003.out))) (Kd.R_lt (by (with_reducible repeat (first | apply Kd.R_alloc | apply Kd.R_drewN | apply Kd.R_drew)); exact HO_879003.out))) (Kd.R_lt (by (with_reducible repeat (first | apply Kd.R_alloc | apply Kd.R_drewN | apply Kd.R_drew)); exact HO898.out))) (below_size (by repeat (first | (with_reducible first | exact HB.out | apply below_alloc | apply pw_below_drewN | apply below_drew1 | refine below_set ?_ GE848.out | refine below_set ?_ GE863.out | refine below_set ?_ GE870.out | refine below_set ?_ GE878.out) | exact HB.out)))); have n5_ := Aside0.mk (blk_below (g := gb848) (o := .cells #[.int .i64 a0_0, .int .i64 a0_1, .int .i64 a0_2, .slice A0_3 l0_3.length c0_3] 32 (0, 0)) (by (with_reducible repeat (first | refine blk_drewN ?_ _ | refine blk_drew ?_ | refine blk_alloc ?_ _)); exact BK848.out) hb); have n6_ := Aside0.mk (blk_below (g := gb863) (o := .cells #[.int .i64 t856, .int .i64 t857, .int .i64 t858, .slice Ao22 t859.length co22] 24 (0, 0)) (by (with_reducible repeat (first | refine blk_drewN ?_ _ | refine blk_drew ?_ | refine blk_alloc ?_ _)); exact BK863.out) hb); have n7_ := Aside0.mk (blk_below (g := gb870) (o := .cells #[.int .i64 t864, .int .i64 t865, .int .i64 t866, .slice Ao29 t888.length co29] 24 (0, 0)) (by (with_reducible repeat (first | refine blk_drewN ?_ _ | refine blk_drew ?_ | refine blk_alloc ?_ _)); exact BK870.out) hb); have n8_ := Aside0.mk (blk_below (g := gb878) (o := .cells #[.int .i64 t871, .int .i64 t872, .int .i64 t873, .slice Ao36 t874.length co36] 24 (0, 0)) (by (with_reducible repeat (first | refine blk_drewN ?_ _ | refine blk_drew ?_ | refine blk_alloc ?_ _)); exact BK878.out) hb); have n9_ := Aside0.mk (below_step (by repeat (first | (with_reducible first | exact HB.out | apply below_alloc | apply pw_below_drewN | apply below_drew1 | refine below_set ?_ GE848.out | refine below_set ?_ GE863.out | refine below_set ?_ GE870.out | refine below_set ?_ GE878.out) | exact HB.out)) hb); clear HO_864003; clear HO_871003; clear HO_879003; clear HO898; clear BK848; clear BK863; clear BK870; clear BK878; clear HB; have HO_864003 := n0_; have HO_871003 := n1_; have HO_879003 := n2_; have HO898 := n3_; have HO904 := n4_; have BK848 := n5_; have BK863 := n6_; have BK870 := n7_; have BK878 := n8_; have HB := n9_; clear n0_ n1_ n2_ n3_ n4_ n5_ n6_ n7_ n8_ n9_; (try clear hb); (try clear hb2); (try clear hk); (try clear hi); (try clear ho0)) | ((with_reducible refine gate_dst (N := 12) rfl ?_); refine box_event ?hg (N := 12) ?hd (cs := #[.int .i64 0, .int .i64 0, .int .i64 0, .slice none 0 0]) (t := 24) ?hr ?_; (case hd => rfl); (case hg => rfl); (case hr => first | (go_simp; done) | (go_simp; rfl)); intro gb906 hg w117 hbox hb; have n0_ := Aside0.mk (Kd.R_below (by (with_reducible repeat (first | apply Kd.R_alloc | apply Kd.R_drewN | apply Kd.R_drew)); exact HO_864003.out) hb); have n1_ := Aside0.mk (Kd.R_below (by (with_reducible repeat (first | apply Kd.R_alloc | apply Kd.R_drewN | apply Kd.R_drew)); exact HO_871003.out) hb); have n2_ := Aside0.mk (Kd.R_below (by (with_reducible repeat (first | apply Kd.R_alloc | apply Kd.R_drewN | apply Kd.R_drew)); exact HO_879003.out) hb); have n3_ := Aside0.mk (Kd.R_below (by (with_reducible repeat (first | apply Kd.R_alloc | apply Kd.R_drewN | apply Kd.R_drew)); exact HO898.out) hb); have n4_ := Aside0.mk (Kd.R_below (by (with_reducible repeat (first | apply Kd.R_alloc | apply Kd.R_drewN | apply Kd.R_drew)); exact HO904.out) hb); have n5_ := Aside0.mk (blk_below (g := gb848) (o := .cells #[.int .i64 a0_0, .int .i64 a0_1, .int .i64 a0_2, .slice A0_3 l0_3.length c0_3] 32 (0, 0)) (by (with_reducible repeat (first | refine blk_drewN ?_ _ | refine blk_drew ?_ | refine blk_alloc ?_ _)); exact BK848.out) hb); have n6_ := Aside0.mk (blk_below (g := gb863) (o := .cells #[.int .i64 t856, .int .i64 t857, .int .i64 t858, .slice Ao22 t859.length co22] 24 (0, 0)) (by (with_reducible repeat (first | refine blk_drewN ?_ _ | refine blk_drew ?_ | refine blk_alloc ?_ _)); exact BK863.out) hb); have n7_ := Aside0.mk (blk_below (g := gb870) (o := .cells #[.int .i64 t864, .int .i64 t865, .int .i64 t866, .slice Ao29 t888.length co29] 24 (0, 0)) (by (with_reducible repeat (first | refine blk_drewN ?_ _ | refine blk_drew ?_ | refine blk_alloc ?_ _)); exact BK870.out) hb); have n8_ := Aside0.mk (blk_below (g := gb878) (o := .cells #[.int .i64 t871, .int .i64 t872, .int .i64 t873, .slice Ao36 t874.length co36] 24 (0, 0)) (by (with_reducible repeat (first | refine blk_drewN ?_ _ | refine blk_drew ?_ | refine blk_alloc ?_ _)); exact BK878.out) hb); have n9_ := Aside0.mk (below_step (by repeat (first | (with_reducible first | exact HB.out | apply below_alloc | apply pw_below_drewN | apply below_drew1 | refine below_set ?_ GE848.out | refine below_set ?_ GE863.out | refine below_set ?_ GE870.out | refine below_set ?_ GE878.out) | exact HB.out)) hb); have n10_ := Aside0.mk (hbox); have n11_ := Aside0.mk ((by rw [hg]; exact (below_size (by repeat (first | (with_reducible first | exact HB.out | apply below_alloc | apply pw_below_drewN | apply below_drew1 | refine below_set ?_ GE848.out | refine below_set ?_ GE863.out | refine below_set ?_ GE870.out | refine below_set ?_ GE878.out) | exact HB.out))) : w.heap.size ≤ gb906)); have n12_ := Aside0.mk ((by rw [hg]; exact (below_size (by repeat (first | (with_reducible first | exact HB.out | apply below_alloc | apply pw_below_drewN | apply below_drew1 | refine below_set ?_ GE848.out | refine below_set ?_ GE863.out | refine below_set ?_ GE870.out | refine below_set ?_ GE878.out) | exact HB.out))) : w.heap.size ≤ gb906)); have n13_ := Aside0.mk ((by rw [hg]; exact Nat.ne_of_lt (blk_lt (g := gb848) (o := .cells #[.int .i64 a0_0, .int .i64 a0_1, .int .i64 a0_2, .slice A0_3 l0_3.length c0_3] 32 (0, 0)) (by (with_reducible repeat (first | refine blk_drewN ?_ _ | refine blk_drew ?_ | refine blk_alloc ?_ _)); exact BK848.out)) : gb848 ≠ gb906)); have n14_ := Aside0.mk ((by rw [hg]; exact Nat.ne_of_gt (blk_lt (g := gb848) (o := .cells #[.int .i64 a0_0, .int .i64 a0_1, .int .i64 a0_2, .slice A0_3 l0_3.length c0_3] 32 (0, 0)) (by (with_reducible repeat (first | refine blk_drewN ?_ _ | refine blk_drew ?_ | refine blk_alloc ?_ _)); exact BK848.out)) : gb906 ≠ gb848)); have n15_ := Aside0.mk ((by rw [hg]; exact Nat.ne_of_lt (blk_lt (g := gb863) (o := .cells #[.int .i64 t856, .int .i64 t857, .int .i64 t858, .slice Ao22 t859.length co22] 24 (0, 0)) (by (with_reducible repeat (first | refine blk_drewN ?_ _ | refine blk_drew ?_ | refine blk_alloc ?_ _)); exact BK863.out)) : gb863 ≠ gb906)); have n16_ := Aside0.mk ((by rw [hg]; exact Nat.ne_of_gt (blk_lt (g := gb863) (o := .cells #[.int .i64 t856, .int .i64 t857, .int .i64 t858, .slice Ao22 t859.length co22] 24 (0, 0)) (by (with_reducible repeat (first | refine blk_drewN ?_ _ | refine blk_drew ?_ | refine blk_alloc ?_ _)); exact BK863.out)) : gb906 ≠ gb863)); have n17_ := Aside0.mk ((by rw [hg]; exact Nat.ne_of_lt (blk_lt (g := gb870) (o := .cells #[.int .i64 t864, .int .i64 t865, .int .i64 t866, .slice Ao29 t888.length co29] 24 (0, 0)) (by (with_reducible repeat (first | refine blk_drewN ?_ _ | refine blk_drew ?_ | refine blk_alloc ?_ _)); exact BK870.out)) : gb870 ≠ gb906)); have n18_ := Aside0.mk ((by rw [hg]; exact Nat.ne_of_gt (blk_lt (g := gb870) (o := .cells #[.int .i64 t864, .int .i64 t865, .int .i64 t866, .slice Ao29 t888.length co29] 24 (0, 0)) (by (with_reducible repeat (first | refine blk_drewN ?_ _ | refine blk_drew ?_ | refine blk_alloc ?_ _)); exact BK870.out)) : gb906 ≠ gb870)); have n19_ := Aside0.mk ((by rw [hg]; exact Nat.ne_of_lt (blk_lt (g := gb878) (o := .cells #[.int .i64 t871, .int .i64 t872, .int .i64 t873, .slice Ao36 t874.length co36] 24 (0, 0)) (by (with_reducible repeat (first | refine blk_drewN ?_ _ | refine blk_drew ?_ | refine blk_alloc ?_ _)); exact BK878.out)) : gb878 ≠ gb906)); have n20_ := Aside0.mk ((by rw [hg]; exact Nat.ne_of_gt (blk_lt (g := gb878) (o := .cells #[.int .i64 t871, .int .i64 t872, .int .i64 t873, .slice Ao36 t874.length co36] 24 (0, 0)) (by (with_reducible repeat (first | refine blk_drewN ?_ _ | refine blk_drew ?_ | refine blk_alloc ?_ _)); exact BK878.out)) : gb906 ≠ gb878)); clear HO_864003; clear HO_871003; clear HO_879003; clear HO898; clear HO904; clear BK848; clear BK863; clear BK870; clear BK878; clear HB; have HO_864003 := n0_; have HO_871003 := n1_; have HO_879003 := n2_; have HO898 := n3_; have HO904 := n4_; have BK848 := n5_; have BK863 := n6_; have BK870 := n7_; have BK878 := n8_; have HB := n9_; have BK906 := n10_; have GW906 := n11_; have GE906 := n12_; have NB848_906 := n13_; have NB906_848 := n14_; have NB863_906 := n15_; have NB906_863 := n16_; have NB870_906 := n17_; have NB906_870 := n18_; have NB878_906 := n19_; have NB906_878 := n20_; clear n0_ n1_ n2_ n3_ n4_ n5_ n6_ n7_ n8_ n9_ n10_ n11_ n12_ n13_ n14_ n15_ n16_ n17_ n18_ n19_ n20_; clear hb hbox hg; have hnb118 := NB906_848.out; have hnc118 := NB848_906.out; have hnb119 := NB906_863.out; have hnc119 := NB863_906.out; have hnb120 := NB906_870.out; have hnc120 := NB870_906.out; have hnb121 := NB906_878.out; have hnc121 := NB878_906.out; have hcz122_0 : w117.cell? ⟨gb906, 0, none⟩ = some (.int .i64 0) := (blk_cell BK906.out 0).trans rfl; have hcz122_1 : w117.cell? ⟨gb906, 1, none⟩ = some (.int .i64 0) := (blk_cell BK906.out 1).trans rfl; have hcz122_2 : w117.cell? ⟨gb906, 2, none⟩ = some (.int .i64 0) := (blk_cell BK906.out 2).trans rfl; have hcz122_3 : w117.cell? ⟨gb906, 3, none⟩ = some (.slice none 0 0) := (blk_cell BK906.out 3).trans rfl; have hfz122_0 := blk_frozen BK906.out 0; have hfz122_1 := blk_frozen BK906.out 1; have hfz122_2 := blk_frozen BK906.out 2; have hfz122_3 := blk_frozen BK906.out 3; obtain ⟨Ao123, co123, eo123⟩ := Kd.R_slice HO904.out; subst eo123))
                      (try simp only [Act.put, List.setIfInBounds_toArray, List.set_cons_zero, List.set_cons_succ])
                      go_cut [87] (fun v87 wc => ∃ (kq : Nat) (x87_102 : Bool), v87 = .bool x87_102 ∧ Aside0 (laws_FnExactTranspose.j2 kq t890 x87_102 t871 t872 t873 t891 = some r) ∧ Aside0 (kq ≤ kj59) ∧ Aside0 (Kd.R (Kd.int .i64) 2 wc w.heap.size (fun k_ => some k_ ≠ ((.slice Ao29 t888.length co29) : Value).ownBlock ∧ some k_ ≠ ((.slice Ao36 t874.length co36) : Value).ownBlock ∧ some k_ ≠ ((.slice Ao123 t902.length co123) : Value).ownBlock) (.slice Ao22 t859.length co22) t859) ∧ Aside0 (Kd.R (Kd.int .i64) 2 wc w.heap.size (fun k_ => some k_ ≠ ((.slice Ao22 t859.length co22) : Value).ownBlock ∧ some k_ ≠ ((.slice Ao36 t874.length co36) : Value).ownBlock ∧ some k_ ≠ ((.slice Ao123 t902.length co123) : Value).ownBlock) (.slice Ao29 t888.length co29) t888) ∧ Aside0 (Kd.R (Kd.int .i64) 2 wc w.heap.size (fun k_ => some k_ ≠ ((.slice Ao22 t859.length co22) : Value).ownBlock ∧ some k_ ≠ ((.slice Ao29 t888.length co29) : Value).ownBlock ∧ some k_ ≠ ((.slice Ao123 t902.length co123) : Value).ownBlock) (.slice Ao36 t874.length co36) t891) ∧ Aside0 (Kd.R (Kd.int .i64) 2 wc w.heap.size (fun k_ => some k_ ≠ ((.slice Ao22 t859.length co22) : Value).ownBlock ∧ some k_ ≠ ((.slice Ao29 t888.length co29) : Value).ownBlock ∧ some k_ ≠ ((.slice Ao36 t874.length co36) : Value).ownBlock) (.slice Ao123 t902.length co123) t902) ∧ Aside0 (wc.heap[gb848]? = some (.cells #[.int .i64 a0_0, .int .i64 a0_1, .int .i64 a0_2, (.slice A0_3 l0_3.length c0_3)] 32 (0, 0))) ∧ Aside0 (wc.heap[gb863]? = some (.cells #[.int .i64 t856, .int .i64 t857, .int .i64 t858, (.slice Ao22 t859.length co22)] 24 (0, 0))) ∧ Aside0 (wc.heap[gb870]? = some (.cells #[.int .i64 t864, .int .i64 t865, .int .i64 t866, (.slice Ao29 t888.length co29)] 24 (0, 0))) ∧ Aside0 (wc.heap[gb878]? = some (.cells #[.int .i64 t871, .int .i64 t872, .int .i64 t873, (.slice Ao36 t874.length co36)] 24 (0, 0))) ∧ Aside0 (wc.heap[gb906]? = some (.cells #[.int .i64 t899, .int .i64 t900, .int .i64 t901, (.slice Ao123 t902.length co123)] 24 (0, 0))) ∧ Aside0 (Below w.heap.size w wc))
                      case first =>
                        have H := HC103.out
                        clear HC103
                        replace H := Option.bind_eq_some_iff.mp H
                        obtain ⟨t907, A1240, H⟩ := H
                        replace H : (if t907 = true then (laws_FnExactTranspose.j2 kj59 t890 (t905 != t862) t871 t872 t873 t891) else (laws_FnExactTranspose.j2 kj59 t890 true t871 t872 t873 t891)) = some r := H
                        have A124 := Aside0.mk A1240
                        clear A1240
                        by_cases c125 : t907 = true
                        · subst c125
                          have H1 : (laws_FnExactTranspose.j2 kj59 t890 (t905 != t862) t871 t872 t873 t891) = some r := by rw [if_pos rfl] at H; exact H
                          clear H
                          have H := H1
                          clear H1
                          have H' := Aside0.mk H
                          clear H
                          have hnb126 := NB906_848.out
                          have hnc126 := NB848_906.out
                          have hnb127 := NB906_863.out
                          have hnc127 := NB863_906.out
                          have hnb128 := NB906_870.out
                          have hnc128 := NB870_906.out
                          have hnb129 := NB906_878.out
                          have hnc129 := NB878_906.out
                          have hcz130_0 : w117.cell? ⟨gb906, 0, none⟩ = some (.int .i64 0) := (blk_cell BK906.out 0).trans rfl
                          have hcz130_1 : w117.cell? ⟨gb906, 1, none⟩ = some (.int .i64 0) := (blk_cell BK906.out 1).trans rfl
                          have hcz130_2 : w117.cell? ⟨gb906, 2, none⟩ = some (.int .i64 0) := (blk_cell BK906.out 2).trans rfl
                          have hcz130_3 : w117.cell? ⟨gb906, 3, none⟩ = some (.slice none 0 0) := (blk_cell BK906.out 3).trans rfl
                          have hfz130_0 := blk_frozen BK906.out 0
                          have hfz130_1 := blk_frozen BK906.out 1
                          have hfz130_2 := blk_frozen BK906.out 2
                          have hfz130_3 := blk_frozen BK906.out 3
                          have hnb131 := NB863_848.out
                          have hnc131 := NB848_863.out
                          have hnb132 := NB863_870.out
                          have hnc132 := NB870_863.out
                          have hnb133 := NB863_878.out
                          have hnc133 := NB878_863.out
                          have hcz134_0 : w117.cell? ⟨gb863, 0, none⟩ = some (.int .i64 t856) := (blk_cell BK863.out 0).trans rfl
                          have hcz134_1 : w117.cell? ⟨gb863, 1, none⟩ = some (.int .i64 t857) := (blk_cell BK863.out 1).trans rfl
                          have hcz134_2 : w117.cell? ⟨gb863, 2, none⟩ = some (.int .i64 t858) := (blk_cell BK863.out 2).trans rfl
                          have hcz134_3 : w117.cell? ⟨gb863, 3, none⟩ = some (.slice Ao22 t859.length co22) := (blk_cell BK863.out 3).trans rfl
                          have hfz134_0 := blk_frozen BK863.out 0
                          have hfz134_1 := blk_frozen BK863.out 1
                          have hfz134_2 := blk_frozen BK863.out 2
                          have hfz134_3 := blk_frozen BK863.out 3
                          go_wp2_with (first | ((with_reducible refine gate_callee (f := 17) rfl ?_); refine goesL_ (some 81) rfl rfl Try.func17 (by kernel_rfl) rfl #[.agg #[.int .i64 t899, .int .i64 t900, .int .i64 t901, .slice Ao123 t902.length co123], .agg #[.int .i64 t856, .int .i64 t857, .int .i64 t858, .slice Ao22 t859.length co22]] rfl (by (try simp only [List.map_toArray, List.map_cons, List.map_nil]); first | done | rfl | (simp only [List.length_drop, List.length_take]; rfl)) ?_; (with_reducible refine (laws_eqMatrix.calls kj59 t899 t900 t901 _ _ t902 t856 t857 t858 _ _ t859 true _ ?side1 ?side2 ?side3 ?side4 A124.out).mono ?_); (case side1 => refine (Kd.R_reads' (e := 2) (base := w.heap.size) (ok := fun k_ => ((((True ∧ some k_ ≠ (.slice Ao22 t859.length co22 : Value).ownBlock) ∧ some k_ ≠ (.slice Ao29 t888.length co29 : Value).ownBlock) ∧ some k_ ≠ (.slice Ao36 t874.length co36 : Value).ownBlock) ∧ some k_ ≠ (.slice Ao115 t896.length co115 : Value).ownBlock)) (n := t902.length) (c := co123) ?_).2.2; exact (by (with_reducible repeat (first | apply Kd.R_alloc | apply Kd.R_drewN | apply Kd.R_drew)); exact (Kd.R_mono (Kd.R_far (p := ⟨gb906, 3, none⟩) (Kd.R_far (p := ⟨gb906, 2, none⟩) (Kd.R_far (p := ⟨gb906, 1, none⟩) (Kd.R_far (p := ⟨gb906, 0, none⟩) (Kd.R_types HO904.out BK906.out (by decide)) (fun _ hk => hk.2) (.int .i64 t899)) (fun _ hk => hk.2) (.int .i64 t900)) (fun _ hk => hk.2) (.int .i64 t901)) (fun _ hk => hk.2) (.slice Ao123 t902.length co123)) (fun _ h_ => h_.1)))); (case side2 => exact (Kd.R_reads' HO904.out).2.1); (case side3 => refine (Kd.R_reads' (e := 2) (base := w.heap.size) (ok := fun k_ => (((some k_ ≠ (.slice Ao29 t888.length co29 : Value).ownBlock ∧ some k_ ≠ (.slice Ao36 t874.length co36 : Value).ownBlock) ∧ some k_ ≠ (.slice Ao115 t896.length co115 : Value).ownBlock) ∧ some k_ ≠ (.slice Ao123 t902.length co123 : Value).ownBlock)) (n := t859.length) (c := co22) ?_).2.2; exact (by (with_reducible repeat (first | apply Kd.R_alloc | apply Kd.R_drewN | apply Kd.R_drew)); exact (Kd.R_mono (Kd.R_far (p := ⟨gb906, 3, none⟩) (Kd.R_far (p := ⟨gb906, 2, none⟩) (Kd.R_far (p := ⟨gb906, 1, none⟩) (Kd.R_far (p := ⟨gb906, 0, none⟩) (Kd.R_types HO_864003.out BK906.out (by decide)) (fun _ hk => hk.2) (.int .i64 t899)) (fun _ hk => hk.2) (.int .i64 t900)) (fun _ hk => hk.2) (.int .i64 t901)) (fun _ hk => hk.2) (.slice Ao123 t902.length co123)) (fun _ h_ => h_.1)))); (case side4 => exact (Kd.R_reads' HO_864003.out).2.1); rintro e w135 ⟨rfl, hb⟩; refine ⟨_, rfl, ?_⟩; have n0_ := Aside0.mk (Kd.R_below (by (with_reducible repeat (first | apply Kd.R_alloc | apply Kd.R_drewN | apply Kd.R_drew)); exact (Kd.R_mono (Kd.R_far (p := ⟨gb906, 3, none⟩) (Kd.R_far (p := ⟨gb906, 2, none⟩) (Kd.R_far (p := ⟨gb906, 1, none⟩) (Kd.R_far (p := ⟨gb906, 0, none⟩) (Kd.R_types HO_864003.out BK906.out (by decide)) (fun _ hk => hk.2) (.int .i64 t899)) (fun _ hk => hk.2) (.int .i64 t900)) (fun _ hk => hk.2) (.int .i64 t901)) (fun _ hk => hk.2) (.slice Ao123 t902.length co123)) (fun _ h_ => h_.1))) hb); have n1_ := Aside0.mk (Kd.R_below (by (with_reducible repeat (first | apply Kd.R_alloc | apply Kd.R_drewN | apply Kd.R_drew)); exact (Kd.R_mono (Kd.R_far (p := ⟨gb906, 3, none⟩) (Kd.R_far (p := ⟨gb906, 2, none⟩) (Kd.R_far (p := ⟨gb906, 1, none⟩) (Kd.R_far (p := ⟨gb906, 0, none⟩) (Kd.R_types HO_871003.out BK906.out (by decide)) (fun _ hk => hk.2) (.int .i64 t899)) (fun _ hk => hk.2) (.int .i64 t900)) (fun _ hk => hk.2) (.int .i64 t901)) (fun _ hk => hk.2) (.slice Ao123 t902.length co123)) (fun _ h_ => h_.1))) hb); have n2_ := Aside0.mk (Kd.R_below (by (with_reducible repeat (first | apply Kd.R_alloc | apply Kd.R_drewN | apply Kd.R_drew)); exact (Kd.R_mono (Kd.R_far (p := ⟨gb906, 3, none⟩) (Kd.R_far (p := ⟨gb906, 2, none⟩) (Kd.R_far (p := ⟨gb906, 1, none⟩) (Kd.R_far (p := ⟨gb906, 0, none⟩) (Kd.R_types HO_879003.out BK906.out (by decide)) (fun _ hk => hk.2) (.int .i64 t899)) (fun _ hk => hk.2) (.int .i64 t900)) (fun _ hk => hk.2) (.int .i64 t901)) (fun _ hk => hk.2) (.slice Ao123 t902.length co123)) (fun _ h_ => h_.1))) hb); have n3_ := Aside0.mk (Kd.R_below (by (with_reducible repeat (first | apply Kd.R_alloc | apply Kd.R_drewN | apply Kd.R_drew)); exact (Kd.R_mono (Kd.R_far (p := ⟨gb906, 3, none⟩) (Kd.R_far (p := ⟨gb906, 2, none⟩) (Kd.R_far (p := ⟨gb906, 1, none⟩) (Kd.R_far (p := ⟨gb906, 0, none⟩) (Kd.R_types HO898.out BK906.out (by decide)) (fun _ hk => hk.2) (.int .i64 t899)) (fun _ hk => hk.2) (.int .i64 t900)) (fun _ hk => hk.2) (.int .i64 t901)) (fun _ hk => hk.2) (.slice Ao123 t902.length co123)) (fun _ h_ => h_.1))) hb); have n4_ := Aside0.mk (Kd.R_below (by (with_reducible repeat (first | apply Kd.R_alloc | apply Kd.R_drewN | apply Kd.R_drew)); exact (Kd.R_mono (Kd.R_far (p := ⟨gb906, 3, none⟩) (Kd.R_far (p := ⟨gb906, 2, none⟩) (Kd.R_far (p := ⟨gb906, 1, none⟩) (Kd.R_far (p := ⟨gb906, 0, none⟩) (Kd.R_types HO904.out BK906.out (by decide)) (fun _ hk => hk.2) (.int .i64 t899)) (fun _ hk => hk.2) (.int .i64 t900)) (fun _ hk => hk.2) (.int .i64 t901)) (fun _ hk => hk.2) (.slice Ao123 t902.length co123)) (fun _ h_ => h_.1))) hb); have n5_ := Aside0.mk (blk_below (g := gb848) (o := .cells #[.int .i64 a0_0, .int .i64 a0_1, .int .i64 a0_2, .slice A0_3 l0_3.length c0_3] 32 (0, 0)) (by (with_reducible repeat (first | refine blk_drewN ?_ _ | refine blk_drew ?_ | refine blk_alloc ?_ _)); refine blk_far ?_ NB848_906.out _; (with_reducible repeat (first | refine blk_drewN ?_ _ | refine blk_drew ?_ | refine blk_alloc ?_ _)); refine blk_far ?_ NB848_906.out _; (with_reducible repeat (first | refine blk_drewN ?_ _ | refine blk_drew ?_ | refine blk_alloc ?_ _)); refine blk_far ?_ NB848_906.out _; (with_reducible repeat (first | refine blk_drewN ?_ _ | refine blk_drew ?_ | refine blk_alloc ?_ _)); refine blk_far ?_ NB848_906.out _; (with_reducible repeat (first | refine blk_drewN ?_ _ | refine blk_drew ?_ | refine blk_alloc ?_ _)); exact BK848.out) hb); have n6_ := Aside0.mk (blk_below (g := gb863) (o := .cells #[.int .i64 t856, .int .i64 t857, .int .i64 t858, .slice Ao22 t859.length co22] 24 (0, 0)) (by (with_reducible repeat (first | refine blk_drewN ?_ _ | refine blk_drew ?_ | refine blk_alloc ?_ _)); refine blk_far ?_ NB863_906.out _; (with_reducible repeat (first | refine blk_drewN ?_ _ | refine blk_drew ?_ | refine blk_alloc ?_ _)); refine blk_far ?_ NB863_906.out _; (with_reducible repeat (first | refine blk_drewN ?_ _ | refine blk_drew ?_ | refine blk_alloc ?_ _)); refine blk_far ?_ NB863_906.out _; (with_reducible repeat (first | refine blk_drewN ?_ _ | refine blk_drew ?_ | refine blk_alloc ?_ _)); refine blk_far ?_ NB863_906.out _; (with_reducible repeat (first | refine blk_drewN ?_ _ | refine blk_drew ?_ | refine blk_alloc ?_ _)); exact BK863.out) hb); have n7_ := Aside0.mk (blk_below (g := gb870) (o := .cells #[.int .i64 t864, .int .i64 t865, .int .i64 t866, .slice Ao29 t888.length co29] 24 (0, 0)) (by (with_reducible repeat (first | refine blk_drewN ?_ _ | refine blk_drew ?_ | refine blk_alloc ?_ _)); refine blk_far ?_ NB870_906.out _; (with_reducible repeat (first | refine blk_drewN ?_ _ | refine blk_drew ?_ | refine blk_alloc ?_ _)); refine blk_far ?_ NB870_906.out _; (with_reducible repeat (first | refine blk_drewN ?_ _ | refine blk_drew ?_ | refine blk_alloc ?_ _)); refine blk_far ?_ NB870_906.out _; (with_reducible repeat (first | refine blk_drewN ?_ _ | refine blk_drew ?_ | refine blk_alloc ?_ _)); refine blk_far ?_ NB870_906.out _; (with_reducible repeat (first | refine blk_drewN ?_ _ | refine blk_drew ?_ | refine blk_alloc ?_ _)); exact BK870.out) hb); have n8_ := Aside0.mk (blk_below (g := gb878) (o := .cells #[.int .i64 t871, .int .i64 t872, .int .i64 t873, .slice Ao36 t874.length co36] 24 (0, 0)) (by (with_reducible repeat (first | refine blk_drewN ?_ _ | refine blk_drew ?_ | refine blk_alloc ?_ _)); refine blk_far ?_ NB878_906.out _; (with_reducible repeat (first | refine blk_drewN ?_ _ | refine blk_drew ?_ | refine blk_alloc ?_ _)); refine blk_far ?_ NB878_906.out _; (with_reducible repeat (first | refine blk_drewN ?_ _ | refine blk_drew ?_ | refine blk_alloc ?_ _)); refine blk_far ?_ NB878_906.out _; (with_reducible repeat (first | refine blk_drewN ?_ _ | refine blk_drew ?_ | refine blk_alloc ?_ _)); refine blk_far ?_ NB878_906.out _; (with_reducible repeat (first | refine blk_drewN ?_ _ | refine blk_drew ?_ | refine blk_alloc ?_ _)); exact BK878.out) hb); have n9_ := Aside0.mk (blk_below (g := gb906) (o := .cells #[.int .i64 t899, .int .i64 t900, .int .i64 t901, .slice Ao123 t902.length co123] 24 (0, 0)) (by (with_reducible repeat (first | refine blk_drewN ?_ _ | refine blk_drew ?_ | refine blk_alloc ?_ _)); refine blk_put (cs := #[.int .i64 t899, .int .i64 t900, .int .i64 t901, .slice none 0 0]) ?_ 3 _ rfl; (with_reducible repeat (first | refine blk_drewN ?_ _ | refine blk_drew ?_ | refine blk_alloc ?_ _)); refine blk_put (cs := #[.int .i64 t899, .int .i64 t900, .int .i64 0, .slice none 0 0]) ?_ 2 _ rfl; (with_reducible repeat (first | refine blk_drewN ?_ _ | refine blk_drew ?_ | refine blk_alloc ?_ _)); refine blk_put (cs := #[.int .i64 t899, .int .i64 0, .int .i64 0, .slice none 0 0]) ?_ 1 _ rfl; (with_reducible repeat (first | refine blk_drewN ?_ _ | refine blk_drew ?_ | refine blk_alloc ?_ _)); refine blk_put (cs := #[.int .i64 0, .int .i64 0, .int .i64 0, .slice none 0 0]) ?_ 0 _ rfl; (with_reducible repeat (first | refine blk_drewN ?_ _ | refine blk_drew ?_ | refine blk_alloc ?_ _)); exact BK906.out) hb); have n10_ := Aside0.mk (below_step (by repeat (first | (with_reducible first | exact HB.out | apply below_alloc | apply pw_below_drewN | apply below_drew1 | refine below_set ?_ GE848.out | refine below_set ?_ GE863.out | refine below_set ?_ GE870.out | refine below_set ?_ GE878.out | refine below_set ?_ GE906.out) | exact HB.out)) hb); clear HO_864003; clear HO_871003; clear HO_879003; clear HO898; clear HO904; clear BK848; clear BK863; clear BK870; clear BK878; clear BK906; clear HB; have HO_864003 := n0_; have HO_871003 := n1_; have HO_879003 := n2_; have HO898 := n3_; have HO904 := n4_; have BK848 := n5_; have BK863 := n6_; have BK870 := n7_; have BK878 := n8_; have BK906 := n9_; have HB := n10_; clear n0_ n1_ n2_ n3_ n4_ n5_ n6_ n7_ n8_ n9_ n10_; (try clear hb); (try clear hb2); (try clear hk); (try clear hi)))
                          go_meet
                          case rel => exact ⟨_, ((t905 != t862)), (by first | rfl | (simp; done) | (simp [*]; done)), H', ⟨by have := HJ10.out; have := HJ59.out; first | omega | exact Nat.le_refl _⟩, ⟨by (try simp only [hl871003_59]); (with_reducible repeat (first | apply Kd.R_alloc | apply Kd.R_drewN | apply Kd.R_drew)); exact Kd.R_mono HO_864003.out (fun _ hk => ⟨hk.1.1.1, ⟨hk.1.1.2, hk.2⟩⟩)⟩, ⟨by (try simp only [hl871003_59]); (with_reducible repeat (first | apply Kd.R_alloc | apply Kd.R_drewN | apply Kd.R_drew)); exact Kd.R_mono HO_871003.out (fun _ hk => ⟨hk.1.1.1, ⟨hk.1.1.2, hk.2⟩⟩)⟩, ⟨by (try simp only [hl871003_59]); (with_reducible repeat (first | apply Kd.R_alloc | apply Kd.R_drewN | apply Kd.R_drew)); exact Kd.R_mono HO_879003.out (fun _ hk => ⟨hk.1.1.1, ⟨hk.1.1.2, hk.2⟩⟩)⟩, ⟨by (try simp only [hl871003_59]); (with_reducible repeat (first | apply Kd.R_alloc | apply Kd.R_drewN | apply Kd.R_drew)); exact Kd.R_mono HO904.out (fun _ hk => ⟨hk.1.1.1.2, ⟨hk.1.1.2, hk.1.2⟩⟩)⟩, ⟨by (try simp only [hl871003_59]); (with_reducible repeat (first | refine blk_drewN ?_ _ | refine blk_drew ?_ | refine blk_alloc ?_ _)); exact BK848.out⟩, ⟨by (try simp only [hl871003_59]); (with_reducible repeat (first | refine blk_drewN ?_ _ | refine blk_drew ?_ | refine blk_alloc ?_ _)); exact BK863.out⟩, ⟨by (try simp only [hl871003_59]); (with_reducible repeat (first | refine blk_drewN ?_ _ | refine blk_drew ?_ | refine blk_alloc ?_ _)); exact BK870.out⟩, ⟨by (try simp only [hl871003_59]); (with_reducible repeat (first | refine blk_drewN ?_ _ | refine blk_drew ?_ | refine blk_alloc ?_ _)); exact BK878.out⟩, ⟨by (try simp only [hl871003_59]); (with_reducible repeat (first | refine blk_drewN ?_ _ | refine blk_drew ?_ | refine blk_alloc ?_ _)); exact BK906.out⟩, ⟨by repeat (first | (with_reducible first | exact HB.out | apply below_alloc | apply pw_below_drewN | apply below_drew1 | refine below_set ?_ GE848.out | refine below_set ?_ GE863.out | refine below_set ?_ GE870.out | refine below_set ?_ GE878.out | refine below_set ?_ GE906.out) | exact HB.out)⟩⟩
                        · replace c125 := Bool.eq_false_iff.mpr c125
                          subst c125
                          have H1 : (laws_FnExactTranspose.j2 kj59 t890 true t871 t872 t873 t891) = some r := by rw [if_neg (show ¬ (false = true) by decide)] at H; exact H
                          clear H
                          have H := H1
                          clear H1
                          have H' := Aside0.mk H
                          clear H
                          have hnb136 := NB906_848.out
                          have hnc136 := NB848_906.out
                          have hnb137 := NB906_863.out
                          have hnc137 := NB863_906.out
                          have hnb138 := NB906_870.out
                          have hnc138 := NB870_906.out
                          have hnb139 := NB906_878.out
                          have hnc139 := NB878_906.out
                          have hcz140_0 : w117.cell? ⟨gb906, 0, none⟩ = some (.int .i64 0) := (blk_cell BK906.out 0).trans rfl
                          have hcz140_1 : w117.cell? ⟨gb906, 1, none⟩ = some (.int .i64 0) := (blk_cell BK906.out 1).trans rfl
                          have hcz140_2 : w117.cell? ⟨gb906, 2, none⟩ = some (.int .i64 0) := (blk_cell BK906.out 2).trans rfl
                          have hcz140_3 : w117.cell? ⟨gb906, 3, none⟩ = some (.slice none 0 0) := (blk_cell BK906.out 3).trans rfl
                          have hfz140_0 := blk_frozen BK906.out 0
                          have hfz140_1 := blk_frozen BK906.out 1
                          have hfz140_2 := blk_frozen BK906.out 2
                          have hfz140_3 := blk_frozen BK906.out 3
                          have hnb141 := NB863_848.out
                          have hnc141 := NB848_863.out
                          have hnb142 := NB863_870.out
                          have hnc142 := NB870_863.out
                          have hnb143 := NB863_878.out
                          have hnc143 := NB878_863.out
                          have hcz144_0 : w117.cell? ⟨gb863, 0, none⟩ = some (.int .i64 t856) := (blk_cell BK863.out 0).trans rfl
                          have hcz144_1 : w117.cell? ⟨gb863, 1, none⟩ = some (.int .i64 t857) := (blk_cell BK863.out 1).trans rfl
                          have hcz144_2 : w117.cell? ⟨gb863, 2, none⟩ = some (.int .i64 t858) := (blk_cell BK863.out 2).trans rfl
                          have hcz144_3 : w117.cell? ⟨gb863, 3, none⟩ = some (.slice Ao22 t859.length co22) := (blk_cell BK863.out 3).trans rfl
                          have hfz144_0 := blk_frozen BK863.out 0
                          have hfz144_1 := blk_frozen BK863.out 1
                          have hfz144_2 := blk_frozen BK863.out 2
                          have hfz144_3 := blk_frozen BK863.out 3
                          go_wp2_with (first | ((with_reducible refine gate_callee (f := 17) rfl ?_); refine goesL_ (some 81) rfl rfl Try.func17 (by kernel_rfl) rfl #[.agg #[.int .i64 t899, .int .i64 t900, .int .i64 t901, .slice Ao123 t902.length co123], .agg #[.int .i64 t856, .int .i64 t857, .int .i64 t858, .slice Ao22 t859.length co22]] rfl (by (try simp only [List.map_toArray, List.map_cons, List.map_nil]); first | done | rfl | (simp only [List.length_drop, List.length_take]; rfl)) ?_; (with_reducible refine (laws_eqMatrix.calls kj59 t899 t900 t901 _ _ t902 t856 t857 t858 _ _ t859 false _ ?side1 ?side2 ?side3 ?side4 A124.out).mono ?_); (case side1 => refine (Kd.R_reads' (e := 2) (base := w.heap.size) (ok := fun k_ => ((((True ∧ some k_ ≠ (.slice Ao22 t859.length co22 : Value).ownBlock) ∧ some k_ ≠ (.slice Ao29 t888.length co29 : Value).ownBlock) ∧ some k_ ≠ (.slice Ao36 t874.length co36 : Value).ownBlock) ∧ some k_ ≠ (.slice Ao115 t896.length co115 : Value).ownBlock)) (n := t902.length) (c := co123) ?_).2.2; exact (by (with_reducible repeat (first | apply Kd.R_alloc | apply Kd.R_drewN | apply Kd.R_drew)); exact (Kd.R_mono (Kd.R_far (p := ⟨gb906, 3, none⟩) (Kd.R_far (p := ⟨gb906, 2, none⟩) (Kd.R_far (p := ⟨gb906, 1, none⟩) (Kd.R_far (p := ⟨gb906, 0, none⟩) (Kd.R_types HO904.out BK906.out (by decide)) (fun _ hk => hk.2) (.int .i64 t899)) (fun _ hk => hk.2) (.int .i64 t900)) (fun _ hk => hk.2) (.int .i64 t901)) (fun _ hk => hk.2) (.slice Ao123 t902.length co123)) (fun _ h_ => h_.1)))); (case side2 => exact (Kd.R_reads' HO904.out).2.1); (case side3 => refine (Kd.R_reads' (e := 2) (base := w.heap.size) (ok := fun k_ => (((some k_ ≠ (.slice Ao29 t888.length co29 : Value).ownBlock ∧ some k_ ≠ (.slice Ao36 t874.length co36 : Value).ownBlock) ∧ some k_ ≠ (.slice Ao115 t896.length co115 : Value).ownBlock) ∧ some k_ ≠ (.slice Ao123 t902.length co123 : Value).ownBlock)) (n := t859.length) (c := co22) ?_).2.2; exact (by (with_reducible repeat (first | apply Kd.R_alloc | apply Kd.R_drewN | apply Kd.R_drew)); exact (Kd.R_mono (Kd.R_far (p := ⟨gb906, 3, none⟩) (Kd.R_far (p := ⟨gb906, 2, none⟩) (Kd.R_far (p := ⟨gb906, 1, none⟩) (Kd.R_far (p := ⟨gb906, 0, none⟩) (Kd.R_types HO_864003.out BK906.out (by decide)) (fun _ hk => hk.2) (.int .i64 t899)) (fun _ hk => hk.2) (.int .i64 t900)) (fun _ hk => hk.2) (.int .i64 t901)) (fun _ hk => hk.2) (.slice Ao123 t902.length co123)) (fun _ h_ => h_.1)))); (case side4 => exact (Kd.R_reads' HO_864003.out).2.1); rintro e w145 ⟨rfl, hb⟩; refine ⟨_, rfl, ?_⟩; have n0_ := Aside0.mk (Kd.R_below (by (with_reducible repeat (first | apply Kd.R_alloc | apply Kd.R_drewN | apply Kd.R_drew)); exact (Kd.R_mono (Kd.R_far (p := ⟨gb906, 3, none⟩) (Kd.R_far (p := ⟨gb906, 2, none⟩) (Kd.R_far (p := ⟨gb906, 1, none⟩) (Kd.R_far (p := ⟨gb906, 0, none⟩) (Kd.R_types HO_864003.out BK906.out (by decide)) (fun _ hk => hk.2) (.int .i64 t899)) (fun _ hk => hk.2) (.int .i64 t900)) (fun _ hk => hk.2) (.int .i64 t901)) (fun _ hk => hk.2) (.slice Ao123 t902.length co123)) (fun _ h_ => h_.1))) hb); have n1_ := Aside0.mk (Kd.R_below (by (with_reducible repeat (first | apply Kd.R_alloc | apply Kd.R_drewN | apply Kd.R_drew)); exact (Kd.R_mono (Kd.R_far (p := ⟨gb906, 3, none⟩) (Kd.R_far (p := ⟨gb906, 2, none⟩) (Kd.R_far (p := ⟨gb906, 1, none⟩) (Kd.R_far (p := ⟨gb906, 0, none⟩) (Kd.R_types HO_871003.out BK906.out (by decide)) (fun _ hk => hk.2) (.int .i64 t899)) (fun _ hk => hk.2) (.int .i64 t900)) (fun _ hk => hk.2) (.int .i64 t901)) (fun _ hk => hk.2) (.slice Ao123 t902.length co123)) (fun _ h_ => h_.1))) hb); have n2_ := Aside0.mk (Kd.R_below (by (with_reducible repeat (first | apply Kd.R_alloc | apply Kd.R_drewN | apply Kd.R_drew)); exact (Kd.R_mono (Kd.R_far (p := ⟨gb906, 3, none⟩) (Kd.R_far (p := ⟨gb906, 2, none⟩) (Kd.R_far (p := ⟨gb906, 1, none⟩) (Kd.R_far (p := ⟨gb906, 0, none⟩) (Kd.R_types HO_879003.out BK906.out (by decide)) (fun _ hk => hk.2) (.int .i64 t899)) (fun _ hk => hk.2) (.int .i64 t900)) (fun _ hk => hk.2) (.int .i64 t901)) (fun _ hk => hk.2) (.slice Ao123 t902.length co123)) (fun _ h_ => h_.1))) hb); have n3_ := Aside0.mk (Kd.R_below (by (with_reducible repeat (first | apply Kd.R_alloc | apply Kd.R_drewN | apply Kd.R_drew)); exact (Kd.R_mono (Kd.R_far (p := ⟨gb906, 3, none⟩) (Kd.R_far (p := ⟨gb906, 2, none⟩) (Kd.R_far (p := ⟨gb906, 1, none⟩) (Kd.R_far (p := ⟨gb906, 0, none⟩) (Kd.R_types HO898.out BK906.out (by decide)) (fun _ hk => hk.2) (.int .i64 t899)) (fun _ hk => hk.2) (.int .i64 t900)) (fun _ hk => hk.2) (.int .i64 t901)) (fun _ hk => hk.2) (.slice Ao123 t902.length co123)) (fun _ h_ => h_.1))) hb); have n4_ := Aside0.mk (Kd.R_below (by (with_reducible repeat (first | apply Kd.R_alloc | apply Kd.R_drewN | apply Kd.R_drew)); exact (Kd.R_mono (Kd.R_far (p := ⟨gb906, 3, none⟩) (Kd.R_far (p := ⟨gb906, 2, none⟩) (Kd.R_far (p := ⟨gb906, 1, none⟩) (Kd.R_far (p := ⟨gb906, 0, none⟩) (Kd.R_types HO904.out BK906.out (by decide)) (fun _ hk => hk.2) (.int .i64 t899)) (fun _ hk => hk.2) (.int .i64 t900)) (fun _ hk => hk.2) (.int .i64 t901)) (fun _ hk => hk.2) (.slice Ao123 t902.length co123)) (fun _ h_ => h_.1))) hb); have n5_ := Aside0.mk (blk_below (g := gb848) (o := .cells #[.int .i64 a0_0, .int .i64 a0_1, .int .i64 a0_2, .slice A0_3 l0_3.length c0_3] 32 (0, 0)) (by (with_reducible repeat (first | refine blk_drewN ?_ _ | refine blk_drew ?_ | refine blk_alloc ?_ _)); refine blk_far ?_ NB848_906.out _; (with_reducible repeat (first | refine blk_drewN ?_ _ | refine blk_drew ?_ | refine blk_alloc ?_ _)); refine blk_far ?_ NB848_906.out _; (with_reducible repeat (first | refine blk_drewN ?_ _ | refine blk_drew ?_ | refine blk_alloc ?_ _)); refine blk_far ?_ NB848_906.out _; (with_reducible repeat (first | refine blk_drewN ?_ _ | refine blk_drew ?_ | refine blk_alloc ?_ _)); refine blk_far ?_ NB848_906.out _; (with_reducible repeat (first | refine blk_drewN ?_ _ | refine blk_drew ?_ | refine blk_alloc ?_ _)); exact BK848.out) hb); have n6_ := Aside0.mk (blk_below (g := gb863) (o := .cells #[.int .i64 t856, .int .i64 t857, .int .i64 t858, .slice Ao22 t859.length co22] 24 (0, 0)) (by (with_reducible repeat (first | refine blk_drewN ?_ _ | refine blk_drew ?_ | refine blk_alloc ?_ _)); refine blk_far ?_ NB863_906.out _; (with_reducible repeat (first | refine blk_drewN ?_ _ | refine blk_drew ?_ | refine blk_alloc ?_ _)); refine blk_far ?_ NB863_906.out _; (with_reducible repeat (first | refine blk_drewN ?_ _ | refine blk_drew ?_ | refine blk_alloc ?_ _)); refine blk_far ?_ NB863_906.out _; (with_reducible repeat (first | refine blk_drewN ?_ _ | refine blk_drew ?_ | refine blk_alloc ?_ _)); refine blk_far ?_ NB863_906.out _; (with_reducible repeat (first | refine blk_drewN ?_ _ | refine blk_drew ?_ | refine blk_alloc ?_ _)); exact BK863.out) hb); have n7_ := Aside0.mk (blk_below (g := gb870) (o := .cells #[.int .i64 t864, .int .i64 t865, .int .i64 t866, .slice Ao29 t888.length co29] 24 (0, 0)) (by (with_reducible repeat (first | refine blk_drewN ?_ _ | refine blk_drew ?_ | refine blk_alloc ?_ _)); refine blk_far ?_ NB870_906.out _; (with_reducible repeat (first | refine blk_drewN ?_ _ | refine blk_drew ?_ | refine blk_alloc ?_ _)); refine blk_far ?_ NB870_906.out _; (with_reducible repeat (first | refine blk_drewN ?_ _ | refine blk_drew ?_ | refine blk_alloc ?_ _)); refine blk_far ?_ NB870_906.out _; (with_reducible repeat (first | refine blk_drewN ?_ _ | refine blk_drew ?_ | refine blk_alloc ?_ _)); refine blk_far ?_ NB870_906.out _; (with_reducible repeat (first | refine blk_drewN ?_ _ | refine blk_drew ?_ | refine blk_alloc ?_ _)); exact BK870.out) hb); have n8_ := Aside0.mk (blk_below (g := gb878) (o := .cells #[.int .i64 t871, .int .i64 t872, .int .i64 t873, .slice Ao36 t874.length co36] 24 (0, 0)) (by (with_reducible repeat (first | refine blk_drewN ?_ _ | refine blk_drew ?_ | refine blk_alloc ?_ _)); refine blk_far ?_ NB878_906.out _; (with_reducible repeat (first | refine blk_drewN ?_ _ | refine blk_drew ?_ | refine blk_alloc ?_ _)); refine blk_far ?_ NB878_906.out _; (with_reducible repeat (first | refine blk_drewN ?_ _ | refine blk_drew ?_ | refine blk_alloc ?_ _)); refine blk_far ?_ NB878_906.out _; (with_reducible repeat (first | refine blk_drewN ?_ _ | refine blk_drew ?_ | refine blk_alloc ?_ _)); refine blk_far ?_ NB878_906.out _; (with_reducible repeat (first | refine blk_drewN ?_ _ | refine blk_drew ?_ | refine blk_alloc ?_ _)); exact BK878.out) hb); have n9_ := Aside0.mk (blk_below (g := gb906) (o := .cells #[.int .i64 t899, .int .i64 t900, .int .i64 t901, .slice Ao123 t902.length co123] 24 (0, 0)) (by (with_reducible repeat (first | refine blk_drewN ?_ _ | refine blk_drew ?_ | refine blk_alloc ?_ _)); refine blk_put (cs := #[.int .i64 t899, .int .i64 t900, .int .i64 t901, .slice none 0 0]) ?_ 3 _ rfl; (with_reducible repeat (first | refine blk_drewN ?_ _ | refine blk_drew ?_ | refine blk_alloc ?_ _)); refine blk_put (cs := #[.int .i64 t899, .int .i64 t900, .int .i64 0, .slice none 0 0]) ?_ 2 _ rfl; (with_reducible repeat (first | refine blk_drewN ?_ _ | refine blk_drew ?_ | refine blk_alloc ?_ _)); refine blk_put (cs := #[.int .i64 t899, .int .i64 0, .int .i64 0, .slice none 0 0]) ?_ 1 _ rfl; (with_reducible repeat (first | refine blk_drewN ?_ _ | refine blk_drew ?_ | refine blk_alloc ?_ _)); refine blk_put (cs := #[.int .i64 0, .int .i64 0, .int .i64 0, .slice none 0 0]) ?_ 0 _ rfl; (with_reducible repeat (first | refine blk_drewN ?_ _ | refine blk_drew ?_ | refine blk_alloc ?_ _)); exact BK906.out) hb); have n10_ := Aside0.mk (below_step (by repeat (first | (with_reducible first | exact HB.out | apply below_alloc | apply pw_below_drewN | apply below_drew1 | refine below_set ?_ GE848.out | refine below_set ?_ GE863.out | refine below_set ?_ GE870.out | refine below_set ?_ GE878.out | refine below_set ?_ GE906.out) | exact HB.out)) hb); clear HO_864003; clear HO_871003; clear HO_879003; clear HO898; clear HO904; clear BK848; clear BK863; clear BK870; clear BK878; clear BK906; clear HB; have HO_864003 := n0_; have HO_871003 := n1_; have HO_879003 := n2_; have HO898 := n3_; have HO904 := n4_; have BK848 := n5_; have BK863 := n6_; have BK870 := n7_; have BK878 := n8_; have BK906 := n9_; have HB := n10_; clear n0_ n1_ n2_ n3_ n4_ n5_ n6_ n7_ n8_ n9_ n10_; (try clear hb); (try clear hb2); (try clear hk); (try clear hi)))
                          go_meet
                          case rel => exact ⟨_, (true), (by first | rfl | (simp; done) | (simp [*]; done)), H', ⟨by have := HJ10.out; have := HJ59.out; first | omega | exact Nat.le_refl _⟩, ⟨by (try simp only [hl871003_59]); (with_reducible repeat (first | apply Kd.R_alloc | apply Kd.R_drewN | apply Kd.R_drew)); exact Kd.R_mono HO_864003.out (fun _ hk => ⟨hk.1.1.1, ⟨hk.1.1.2, hk.2⟩⟩)⟩, ⟨by (try simp only [hl871003_59]); (with_reducible repeat (first | apply Kd.R_alloc | apply Kd.R_drewN | apply Kd.R_drew)); exact Kd.R_mono HO_871003.out (fun _ hk => ⟨hk.1.1.1, ⟨hk.1.1.2, hk.2⟩⟩)⟩, ⟨by (try simp only [hl871003_59]); (with_reducible repeat (first | apply Kd.R_alloc | apply Kd.R_drewN | apply Kd.R_drew)); exact Kd.R_mono HO_879003.out (fun _ hk => ⟨hk.1.1.1, ⟨hk.1.1.2, hk.2⟩⟩)⟩, ⟨by (try simp only [hl871003_59]); (with_reducible repeat (first | apply Kd.R_alloc | apply Kd.R_drewN | apply Kd.R_drew)); exact Kd.R_mono HO904.out (fun _ hk => ⟨hk.1.1.1.2, ⟨hk.1.1.2, hk.1.2⟩⟩)⟩, ⟨by (try simp only [hl871003_59]); (with_reducible repeat (first | refine blk_drewN ?_ _ | refine blk_drew ?_ | refine blk_alloc ?_ _)); exact BK848.out⟩, ⟨by (try simp only [hl871003_59]); (with_reducible repeat (first | refine blk_drewN ?_ _ | refine blk_drew ?_ | refine blk_alloc ?_ _)); exact BK863.out⟩, ⟨by (try simp only [hl871003_59]); (with_reducible repeat (first | refine blk_drewN ?_ _ | refine blk_drew ?_ | refine blk_alloc ?_ _)); exact BK870.out⟩, ⟨by (try simp only [hl871003_59]); (with_reducible repeat (first | refine blk_drewN ?_ _ | refine blk_drew ?_ | refine blk_alloc ?_ _)); exact BK878.out⟩, ⟨by (try simp only [hl871003_59]); (with_reducible repeat (first | refine blk_drewN ?_ _ | refine blk_drew ?_ | refine blk_alloc ?_ _)); exact BK906.out⟩, ⟨by repeat (first | (with_reducible first | exact HB.out | apply below_alloc | apply pw_below_drewN | apply below_drew1 | refine below_set ?_ GE848.out | refine below_set ?_ GE863.out | refine below_set ?_ GE870.out | refine below_set ?_ GE878.out | refine below_set ?_ GE906.out) | exact HB.out)⟩⟩
                      case rest =>
                        clear HC103
                        try clear c1
                        try clear c2
                        try clear p2
                        try clear c3
                        try clear c3b0
                        try clear c4
                        try clear c5
                        try clear c6
                        try clear c7
                        try clear c8
                        try clear c9
                        try clear c10
                        try clear c11
                        try clear c12
                        try clear c13
                        try clear c14
                        try clear c17
                        try clear c18
                        try clear c19
                        try clear c20
                        try clear c22
                        try clear c24
                        try clear c26
                        try clear c27
                        try clear c32
                        try clear c33
                        try clear c34
                        try clear c38
                        try clear c39
                        try clear c40
                        try clear c41
                        try clear c43
                        try clear c44
                        try clear c47
                        try clear c48
                        try clear c49
                        try clear c51
                        try clear c52
                        try clear c55
                        try clear c58
                        try clear c65
                        try clear c66
                        try clear c67
                        try clear c70
                        try clear c70b0
                        try clear c72
                        try clear c73
                        try clear c74
                        try clear c75
                        try clear c77
                        try clear c78
                        try clear c81
                        try clear c82
                        try clear c83
                        try clear c85
                        try clear c86
                        try clear c89
                        try clear c92
                        try clear c92b0
                        try clear c93
                        try clear c94
                        try clear c95
                        try clear c100
                        try clear c100b0
                        try clear c100b1
                        try clear c104
                        try clear c105
                        try clear c106
                        try clear c111
                        try clear c112
                        try clear c118
                        try clear c119
                        try clear c120
                        try clear c121
                        try clear c125
                        try clear c126
                        try clear c127
                        try clear c128
                        try clear c129
                        try clear c131
                        try clear c132
                        try clear c133
                        try clear c136
                        try clear c137
                        try clear c138
                        try clear c139
                        try clear c141
                        try clear c142
                        try clear c143
                        try clear hcz107_0
                        try clear hcz107_1
                        try clear hcz107_2
                        try clear hcz107_3
                        try clear hcz109_0
                        try clear hcz109_1
                        try clear hcz109_2
                        try clear hcz109_3
                        try clear hcz113_0
                        try clear hcz113_1
                        try clear hcz113_2
                        try clear hcz113_3
                        try clear hcz122_0
                        try clear hcz122_1
                        try clear hcz122_2
                        try clear hcz122_3
                        try clear hcz130_0
                        try clear hcz130_1
                        try clear hcz130_2
                        try clear hcz130_3
                        try clear hcz134_0
                        try clear hcz134_1
                        try clear hcz134_2
                        try clear hcz134_3
                        try clear hcz13_0
                        try clear hcz13_1
                        try clear hcz13_2
                        try clear hcz13_3
                        try clear hcz140_0
                        try clear hcz140_1
                        try clear hcz140_2
                        try clear hcz140_3
                        try clear hcz144_0
                        try clear hcz144_1
                        try clear hcz144_2
                        try clear hcz144_3
                        try clear hcz15_0
                        try clear hcz15_1
                        try clear hcz15_2
                        try clear hcz15_3
                        try clear hcz21_0
                        try clear hcz21_1
                        try clear hcz21_2
                        try clear hcz21_3
                        try clear hcz23_0
                        try clear hcz23_1
                        try clear hcz23_2
                        try clear hcz23_3
                        try clear hcz28_0
                        try clear hcz28_1
                        try clear hcz28_2
                        try clear hcz28_3
                        try clear hcz35_0
                        try clear hcz35_1
                        try clear hcz35_2
                        try clear hcz35_3
                        try clear hcz42_0
                        try clear hcz42_1
                        try clear hcz42_2
                        try clear hcz42_3
                        try clear hcz45_0
                        try clear hcz45_1
                        try clear hcz45_2
                        try clear hcz45_3
                        try clear hcz50_0
                        try clear hcz50_1
                        try clear hcz50_2
                        try clear hcz50_3
                        try clear hcz53_0
                        try clear hcz53_1
                        try clear hcz53_2
                        try clear hcz53_3
                        try clear hcz5_0
                        try clear hcz5_1
                        try clear hcz5_2
                        try clear hcz5_3
                        try clear hcz68_0
                        try clear hcz68_1
                        try clear hcz68_2
                        try clear hcz68_3
                        try clear hcz76_0
                        try clear hcz76_1
                        try clear hcz76_2
                        try clear hcz76_3
                        try clear hcz79_0
                        try clear hcz79_1
                        try clear hcz79_2
                        try clear hcz79_3
                        try clear hcz84_0
                        try clear hcz84_1
                        try clear hcz84_2
                        try clear hcz84_3
                        try clear hcz87_0
                        try clear hcz87_1
                        try clear hcz87_2
                        try clear hcz87_3
                        try clear hcz96_0
                        try clear hcz96_1
                        try clear hcz96_2
                        try clear hcz96_3
                        try clear hcz98_0
                        try clear hcz98_1
                        try clear hcz98_2
                        try clear hcz98_3
                        try clear hfz107_0
                        try clear hfz107_1
                        try clear hfz107_2
                        try clear hfz107_3
                        try clear hfz109_0
                        try clear hfz109_1
                        try clear hfz109_2
                        try clear hfz109_3
                        try clear hfz113_0
                        try clear hfz113_1
                        try clear hfz113_2
                        try clear hfz113_3
                        try clear hfz122_0
                        try clear hfz122_1
                        try clear hfz122_2
                        try clear hfz122_3
                        try clear hfz130_0
                        try clear hfz130_1
                        try clear hfz130_2
                        try clear hfz130_3
                        try clear hfz134_0
                        try clear hfz134_1
                        try clear hfz134_2
                        try clear hfz134_3
                        try clear hfz13_0
                        try clear hfz13_1
                        try clear hfz13_2
                        try clear hfz13_3
                        try clear hfz140_0
                        try clear hfz140_1
                        try clear hfz140_2
                        try clear hfz140_3
                        try clear hfz144_0
                        try clear hfz144_1
                        try clear hfz144_2
                        try clear hfz144_3
                        try clear hfz15_0
                        try clear hfz15_1
                        try clear hfz15_2
                        try clear hfz15_3
                        try clear hfz21_0
                        try clear hfz21_1
                        try clear hfz21_2
                        try clear hfz21_3
                        try clear hfz23_0
                        try clear hfz23_1
                        try clear hfz23_2
                        try clear hfz23_3
                        try clear hfz28_0
                        try clear hfz28_1
                        try clear hfz28_2
                        try clear hfz28_3
                        try clear hfz35_0
                        try clear hfz35_1
                        try clear hfz35_2
                        try clear hfz35_3
                        try clear hfz42_0
                        try clear hfz42_1
                        try clear hfz42_2
                        try clear hfz42_3
                        try clear hfz45_0
                        try clear hfz45_1
                        try clear hfz45_2
                        try clear hfz45_3
                        try clear hfz50_0
                        try clear hfz50_1
                        try clear hfz50_2
                        try clear hfz50_3
                        try clear hfz53_0
                        try clear hfz53_1
                        try clear hfz53_2
                        try clear hfz53_3
                        try clear hfz5_0
                        try clear hfz5_1
                        try clear hfz5_2
                        try clear hfz5_3
                        try clear hfz68_0
                        try clear hfz68_1
                        try clear hfz68_2
                        try clear hfz68_3
                        try clear hfz76_0
                        try clear hfz76_1
                        try clear hfz76_2
                        try clear hfz76_3
                        try clear hfz79_0
                        try clear hfz79_1
                        try clear hfz79_2
                        try clear hfz79_3
                        try clear hfz84_0
                        try clear hfz84_1
                        try clear hfz84_2
                        try clear hfz84_3
                        try clear hfz87_0
                        try clear hfz87_1
                        try clear hfz87_2
                        try clear hfz87_3
                        try clear hfz96_0
                        try clear hfz96_1
                        try clear hfz96_2
                        try clear hfz96_3
                        try clear hfz98_0
                        try clear hfz98_1
                        try clear hfz98_2
                        try clear hfz98_3
                        try clear p2
                        obtain ⟨kq, x87_102, rfl, HA, HJ102, HO_864003, HO_871003, HO_879003, HO_907003, BK848, BK863, BK870, BK878, BK906, HB⟩ := hcut
                        have hl879003_102 := (Kd.R_reads' HO_879003.out).1
                        rw [hl879003_102] at HO_879003
                        (try simp only [hl879003_102])
                        (try simp only [hl879003_102] at BK848)
                        (try simp only [hl879003_102] at BK863)
                        (try simp only [hl879003_102] at BK870)
                        (try simp only [hl879003_102] at BK878)
                        (try simp only [hl879003_102] at BK906)
                        (try simp only [hl879003_102] at HO_864003)
                        (try simp only [hl879003_102] at HO_871003)
                        (try simp only [hl879003_102] at HO_907003)
                        cases kq with
                        | zero => exact absurd HA.out (by simp [laws_FnExactTranspose.j2])
                        | succ kj102 =>
                          have H := HA.out
                          clear HA
                          simp only [laws_FnExactTranspose.j2] at H
                          by_cases c146 : x87_102 = true
                          · subst c146
                            have H1 : (some false) = some r := by rw [if_pos rfl] at H; exact H
                            clear H
                            have H := H1
                            clear H1
                            obtain rfl := Option.some.inj H
                            go_wp2
                            go_ret
                            exact ⟨by first | rfl | (simp [errW_none, errW_some] <;> rfl) | (simp [*, errW_none, errW_some] <;> rfl), by repeat (first | (with_reducible first | exact HB.out | apply below_alloc | apply pw_below_drewN | apply below_drew1 | refine below_set ?_ GE848.out | refine below_set ?_ GE863.out | refine below_set ?_ GE870.out | refine below_set ?_ GE878.out | refine below_set ?_ GE906.out) | exact HB.out)⟩
                          · replace c146 := Bool.eq_false_iff.mpr c146
                            subst c146
                            have H1 : ((laws_heldMatrix.f kj102 t871 t872 t873 t891 1).bind fun t908 => (if t908 < 0 then (some false) else (if t908 = t890 then (some true) else (some false)))) = some r := by rw [if_neg (show ¬ (false = true) by decide)] at H; exact H
                            clear H
                            have H := H1
                            clear H1
                            replace H := Option.bind_eq_some_iff.mp H
                            obtain ⟨t908, A1470, H⟩ := H
                            replace H : (if t908 < 0 then (some false) else (if t908 = t890 then (some true) else (some false))) = some r := H
                            have A147 := Aside0.mk A1470
                            clear A1470
                            by_cases c148 : t908 < 0
                            · rw [if_pos c148] at H
                              have c148b0 : decide (t908 < 0) = true := decide_eq_true c148
                              clear c148
                              obtain rfl := Option.some.inj H
                              have hnb149 := NB878_848.out
                              have hnc149 := NB848_878.out
                              have hnb150 := NB878_863.out
                              have hnc150 := NB863_878.out
                              have hnb151 := NB878_870.out
                              have hnc151 := NB870_878.out
                              have hnb152 := NB878_906.out
                              have hnc152 := NB906_878.out
                              have hcz153_0 : wc.cell? ⟨gb878, 0, none⟩ = some (.int .i64 t871) := (blk_cell BK878.out 0).trans rfl
                              have hcz153_1 : wc.cell? ⟨gb878, 1, none⟩ = some (.int .i64 t872) := (blk_cell BK878.out 1).trans rfl
                              have hcz153_2 : wc.cell? ⟨gb878, 2, none⟩ = some (.int .i64 t873) := (blk_cell BK878.out 2).trans rfl
                              have hcz153_3 : wc.cell? ⟨gb878, 3, none⟩ = some (.slice Ao36 t891.length co36) := (blk_cell BK878.out 3).trans rfl
                              have hfz153_0 := blk_frozen BK878.out 0
                              have hfz153_1 := blk_frozen BK878.out 1
                              have hfz153_2 := blk_frozen BK878.out 2
                              have hfz153_3 := blk_frozen BK878.out 3
                              go_wp2_with (first | ((with_reducible refine gate_callee (f := 19) rfl ?_); refine goesL_ (some 90) rfl rfl Try.func19 (by kernel_rfl) rfl #[.agg #[.int .i64 t871, .int .i64 t872, .int .i64 t873, .slice Ao36 t891.length co36], .int .i64 1] rfl (by (try simp only [List.map_toArray, List.map_cons, List.map_nil]); first | done | rfl | (simp only [List.length_drop, List.length_take]; rfl)) ?_; (with_reducible refine (laws_heldMatrix.calls kj102 t871 t872 t873 _ _ t891 1 t908 _ ?side1 ?side2 A147.out).mono ?_); (case side1 => repeat (first | exact (Kd.R_reads' HO_879003.out).2.2 | (with_reducible refine Kd.C_alloc ?_ _) | (with_reducible refine Kd.C_drewN ?_ _) | (with_reducible refine Kd.C_drew ?_))); (case side2 => exact (Kd.R_reads' HO_879003.out).2.1); rintro e w154 ⟨rfl, hb⟩; refine ⟨_, rfl, ?_⟩; have n0_ := Aside0.mk (Kd.R_below (by (with_reducible repeat (first | apply Kd.R_alloc | apply Kd.R_drewN | apply Kd.R_drew)); exact HO_864003.out) hb); have n1_ := Aside0.mk (Kd.R_below (by (with_reducible repeat (first | apply Kd.R_alloc | apply Kd.R_drewN | apply Kd.R_drew)); exact HO_871003.out) hb); have n2_ := Aside0.mk (Kd.R_below (by (with_reducible repeat (first | apply Kd.R_alloc | apply Kd.R_drewN | apply Kd.R_drew)); exact HO_879003.out) hb); have n3_ := Aside0.mk (Kd.R_below (by (with_reducible repeat (first | apply Kd.R_alloc | apply Kd.R_drewN | apply Kd.R_drew)); exact HO_907003.out) hb); have n4_ := Aside0.mk (blk_below (g := gb848) (o := .cells #[.int .i64 a0_0, .int .i64 a0_1, .int .i64 a0_2, .slice A0_3 l0_3.length c0_3] 32 (0, 0)) (by (with_reducible repeat (first | refine blk_drewN ?_ _ | refine blk_drew ?_ | refine blk_alloc ?_ _)); exact BK848.out) hb); have n5_ := Aside0.mk (blk_below (g := gb863) (o := .cells #[.int .i64 t856, .int .i64 t857, .int .i64 t858, .slice Ao22 t859.length co22] 24 (0, 0)) (by (with_reducible repeat (first | refine blk_drewN ?_ _ | refine blk_drew ?_ | refine blk_alloc ?_ _)); exact BK863.out) hb); have n6_ := Aside0.mk (blk_below (g := gb870) (o := .cells #[.int .i64 t864, .int .i64 t865, .int .i64 t866, .slice Ao29 t888.length co29] 24 (0, 0)) (by (with_reducible repeat (first | refine blk_drewN ?_ _ | refine blk_drew ?_ | refine blk_alloc ?_ _)); exact BK870.out) hb); have n7_ := Aside0.mk (blk_below (g := gb878) (o := .cells #[.int .i64 t871, .int .i64 t872, .int .i64 t873, .slice Ao36 t891.length co36] 24 (0, 0)) (by (with_reducible repeat (first | refine blk_drewN ?_ _ | refine blk_drew ?_ | refine blk_alloc ?_ _)); exact BK878.out) hb); have n8_ := Aside0.mk (blk_below (g := gb906) (o := .cells #[.int .i64 t899, .int .i64 t900, .int .i64 t901, .slice Ao123 t902.length co123] 24 (0, 0)) (by (with_reducible repeat (first | refine blk_drewN ?_ _ | refine blk_drew ?_ | refine blk_alloc ?_ _)); exact BK906.out) hb); have n9_ := Aside0.mk (below_step (by repeat (first | (with_reducible first | exact HB.out | apply below_alloc | apply pw_below_drewN | apply below_drew1 | refine below_set ?_ GE848.out | refine below_set ?_ GE863.out | refine below_set ?_ GE870.out | refine below_set ?_ GE878.out | refine below_set ?_ GE906.out) | exact HB.out)) hb); clear HO_864003; clear HO_871003; clear HO_879003; clear HO_907003; clear BK848; clear BK863; clear BK870; clear BK878; clear BK906; clear HB; have HO_864003 := n0_; have HO_871003 := n1_; have HO_879003 := n2_; have HO_907003 := n3_; have BK848 := n4_; have BK863 := n5_; have BK870 := n6_; have BK878 := n7_; have BK906 := n8_; have HB := n9_; clear n0_ n1_ n2_ n3_ n4_ n5_ n6_ n7_ n8_ n9_; (try clear hb); (try clear hb2); (try clear hk); (try clear hi)))
                              go_ret
                              exact ⟨by first | rfl | (simp [errW_none, errW_some] <;> rfl) | (simp [*, errW_none, errW_some] <;> rfl), by repeat (first | (with_reducible first | exact HB.out | apply below_alloc | apply pw_below_drewN | apply below_drew1 | refine below_set ?_ GE848.out | refine below_set ?_ GE863.out | refine below_set ?_ GE870.out | refine below_set ?_ GE878.out | refine below_set ?_ GE906.out) | exact HB.out)⟩
                            · rw [if_neg c148] at H
                              have c148b0 : decide (t908 < 0) = false := decide_eq_false c148
                              clear c148
                              by_cases c155 : t908 = t890
                              · rw [if_pos c155] at H
                                have c155b0 : (t908 == t890) = true := beq_iff_eq.mpr c155
                                have c155b1 : (t908 != t890) = false := bne_eq_false_iff_eq.mpr c155
                                clear c155
                                obtain rfl := Option.some.inj H
                                have hnb156 := NB878_848.out
                                have hnc156 := NB848_878.out
                                have hnb157 := NB878_863.out
                                have hnc157 := NB863_878.out
                                have hnb158 := NB878_870.out
                                have hnc158 := NB870_878.out
                                have hnb159 := NB878_906.out
                                have hnc159 := NB906_878.out
                                have hcz160_0 : wc.cell? ⟨gb878, 0, none⟩ = some (.int .i64 t871) := (blk_cell BK878.out 0).trans rfl
                                have hcz160_1 : wc.cell? ⟨gb878, 1, none⟩ = some (.int .i64 t872) := (blk_cell BK878.out 1).trans rfl
                                have hcz160_2 : wc.cell? ⟨gb878, 2, none⟩ = some (.int .i64 t873) := (blk_cell BK878.out 2).trans rfl
                                have hcz160_3 : wc.cell? ⟨gb878, 3, none⟩ = some (.slice Ao36 t891.length co36) := (blk_cell BK878.out 3).trans rfl
                                have hfz160_0 := blk_frozen BK878.out 0
                                have hfz160_1 := blk_frozen BK878.out 1
                                have hfz160_2 := blk_frozen BK878.out 2
                                have hfz160_3 := blk_frozen BK878.out 3
                                go_wp2_with (first | ((with_reducible refine gate_callee (f := 19) rfl ?_); refine goesL_ (some 90) rfl rfl Try.func19 (by kernel_rfl) rfl #[.agg #[.int .i64 t871, .int .i64 t872, .int .i64 t873, .slice Ao36 t891.length co36], .int .i64 1] rfl (by (try simp only [List.map_toArray, List.map_cons, List.map_nil]); first | done | rfl | (simp only [List.length_drop, List.length_take]; rfl)) ?_; (with_reducible refine (laws_heldMatrix.calls kj102 t871 t872 t873 _ _ t891 1 t908 _ ?side1 ?side2 A147.out).mono ?_); (case side1 => repeat (first | exact (Kd.R_reads' HO_879003.out).2.2 | (with_reducible refine Kd.C_alloc ?_ _) | (with_reducible refine Kd.C_drewN ?_ _) | (with_reducible refine Kd.C_drew ?_))); (case side2 => exact (Kd.R_reads' HO_879003.out).2.1); rintro e w161 ⟨rfl, hb⟩; refine ⟨_, rfl, ?_⟩; have n0_ := Aside0.mk (Kd.R_below (by (with_reducible repeat (first | apply Kd.R_alloc | apply Kd.R_drewN | apply Kd.R_drew)); exact HO_864003.out) hb); have n1_ := Aside0.mk (Kd.R_below (by (with_reducible repeat (first | apply Kd.R_alloc | apply Kd.R_drewN | apply Kd.R_drew)); exact HO_871003.out) hb); have n2_ := Aside0.mk (Kd.R_below (by (with_reducible repeat (first | apply Kd.R_alloc | apply Kd.R_drewN | apply Kd.R_drew)); exact HO_879003.out) hb); have n3_ := Aside0.mk (Kd.R_below (by (with_reducible repeat (first | apply Kd.R_alloc | apply Kd.R_drewN | apply Kd.R_drew)); exact HO_907003.out) hb); have n4_ := Aside0.mk (blk_below (g := gb848) (o := .cells #[.int .i64 a0_0, .int .i64 a0_1, .int .i64 a0_2, .slice A0_3 l0_3.length c0_3] 32 (0, 0)) (by (with_reducible repeat (first | refine blk_drewN ?_ _ | refine blk_drew ?_ | refine blk_alloc ?_ _)); exact BK848.out) hb); have n5_ := Aside0.mk (blk_below (g := gb863) (o := .cells #[.int .i64 t856, .int .i64 t857, .int .i64 t858, .slice Ao22 t859.length co22] 24 (0, 0)) (by (with_reducible repeat (first | refine blk_drewN ?_ _ | refine blk_drew ?_ | refine blk_alloc ?_ _)); exact BK863.out) hb); have n6_ := Aside0.mk (blk_below (g := gb870) (o := .cells #[.int .i64 t864, .int .i64 t865, .int .i64 t866, .slice Ao29 t888.length co29] 24 (0, 0)) (by (with_reducible repeat (first | refine blk_drewN ?_ _ | refine blk_drew ?_ | refine blk_alloc ?_ _)); exact BK870.out) hb); have n7_ := Aside0.mk (blk_below (g := gb878) (o := .cells #[.int .i64 t871, .int .i64 t872, .int .i64 t873, .slice Ao36 t891.length co36] 24 (0, 0)) (by (with_reducible repeat (first | refine blk_drewN ?_ _ | refine blk_drew ?_ | refine blk_alloc ?_ _)); exact BK878.out) hb); have n8_ := Aside0.mk (blk_below (g := gb906) (o := .cells #[.int .i64 t899, .int .i64 t900, .int .i64 t901, .slice Ao123 t902.length co123] 24 (0, 0)) (by (with_reducible repeat (first | refine blk_drewN ?_ _ | refine blk_drew ?_ | refine blk_alloc ?_ _)); exact BK906.out) hb); have n9_ := Aside0.mk (below_step (by repeat (first | (with_reducible first | exact HB.out | apply below_alloc | apply pw_below_drewN | apply below_drew1 | refine below_set ?_ GE848.out | refine below_set ?_ GE863.out | refine below_set ?_ GE870.out | refine below_set ?_ GE878.out | refine below_set ?_ GE906.out) | exact HB.out)) hb); clear HO_864003; clear HO_871003; clear HO_879003; clear HO_907003; clear BK848; clear BK863; clear BK870; clear BK878; clear BK906; clear HB; have HO_864003 := n0_; have HO_871003 := n1_; have HO_879003 := n2_; have HO_907003 := n3_; have BK848 := n4_; have BK863 := n5_; have BK870 := n6_; have BK878 := n7_; have BK906 := n8_; have HB := n9_; clear n0_ n1_ n2_ n3_ n4_ n5_ n6_ n7_ n8_ n9_; (try clear hb); (try clear hb2); (try clear hk); (try clear hi)))
                                go_ret
                                exact ⟨by first | rfl | (simp [errW_none, errW_some] <;> rfl) | (simp [*, errW_none, errW_some] <;> rfl), by repeat (first | (with_reducible first | exact HB.out | apply below_alloc | apply pw_below_drewN | apply below_drew1 | refine below_set ?_ GE848.out | refine below_set ?_ GE863.out | refine below_set ?_ GE870.out | refine below_set ?_ GE878.out | refine below_set ?_ GE906.out) | exact HB.out)⟩
                              · rw [if_neg c155] at H
                                have c155b0 : (t908 == t890) = false := beq_eq_false_iff_ne.mpr c155
                                have c155b1 : (t908 != t890) = true := bne_iff_ne.mpr c155
                                obtain rfl := Option.some.inj H
                                have hnb162 := NB878_848.out
                                have hnc162 := NB848_878.out
                                have hnb163 := NB878_863.out
                                have hnc163 := NB863_878.out
                                have hnb164 := NB878_870.out
                                have hnc164 := NB870_878.out
                                have hnb165 := NB878_906.out
                                have hnc165 := NB906_878.out
                                have hcz166_0 : wc.cell? ⟨gb878, 0, none⟩ = some (.int .i64 t871) := (blk_cell BK878.out 0).trans rfl
                                have hcz166_1 : wc.cell? ⟨gb878, 1, none⟩ = some (.int .i64 t872) := (blk_cell BK878.out 1).trans rfl
                                have hcz166_2 : wc.cell? ⟨gb878, 2, none⟩ = some (.int .i64 t873) := (blk_cell BK878.out 2).trans rfl
                                have hcz166_3 : wc.cell? ⟨gb878, 3, none⟩ = some (.slice Ao36 t891.length co36) := (blk_cell BK878.out 3).trans rfl
                                have hfz166_0 := blk_frozen BK878.out 0
                                have hfz166_1 := blk_frozen BK878.out 1
                                have hfz166_2 := blk_frozen BK878.out 2
                                have hfz166_3 := blk_frozen BK878.out 3
                                go_wp2_with (first | ((with_reducible refine gate_callee (f := 19) rfl ?_); refine goesL_ (some 90) rfl rfl Try.func19 (by kernel_rfl) rfl #[.agg #[.int .i64 t871, .int .i64 t872, .int .i64 t873, .slice Ao36 t891.length co36], .int .i64 1] rfl (by (try simp only [List.map_toArray, List.map_cons, List.map_nil]); first | done | rfl | (simp only [List.length_drop, List.length_take]; rfl)) ?_; (with_reducible refine (laws_heldMatrix.calls kj102 t871 t872 t873 _ _ t891 1 t908 _ ?side1 ?side2 A147.out).mono ?_); (case side1 => repeat (first | exact (Kd.R_reads' HO_879003.out).2.2 | (with_reducible refine Kd.C_alloc ?_ _) | (with_reducible refine Kd.C_drewN ?_ _) | (with_reducible refine Kd.C_drew ?_))); (case side2 => exact (Kd.R_reads' HO_879003.out).2.1); rintro e w167 ⟨rfl, hb⟩; refine ⟨_, rfl, ?_⟩; have n0_ := Aside0.mk (Kd.R_below (by (with_reducible repeat (first | apply Kd.R_alloc | apply Kd.R_drewN | apply Kd.R_drew)); exact HO_864003.out) hb); have n1_ := Aside0.mk (Kd.R_below (by (with_reducible repeat (first | apply Kd.R_alloc | apply Kd.R_drewN | apply Kd.R_drew)); exact HO_871003.out) hb); have n2_ := Aside0.mk (Kd.R_below (by (with_reducible repeat (first | apply Kd.R_alloc | apply Kd.R_drewN | apply Kd.R_drew)); exact HO_879003.out) hb); have n3_ := Aside0.mk (Kd.R_below (by (with_reducible repeat (first | apply Kd.R_alloc | apply Kd.R_drewN | apply Kd.R_drew)); exact HO_907003.out) hb); have n4_ := Aside0.mk (blk_below (g := gb848) (o := .cells #[.int .i64 a0_0, .int .i64 a0_1, .int .i64 a0_2, .slice A0_3 l0_3.length c0_3] 32 (0, 0)) (by (with_reducible repeat (first | refine blk_drewN ?_ _ | refine blk_drew ?_ | refine blk_alloc ?_ _)); exact BK848.out) hb); have n5_ := Aside0.mk (blk_below (g := gb863) (o := .cells #[.int .i64 t856, .int .i64 t857, .int .i64 t858, .slice Ao22 t859.length co22] 24 (0, 0)) (by (with_reducible repeat (first | refine blk_drewN ?_ _ | refine blk_drew ?_ | refine blk_alloc ?_ _)); exact BK863.out) hb); have n6_ := Aside0.mk (blk_below (g := gb870) (o := .cells #[.int .i64 t864, .int .i64 t865, .int .i64 t866, .slice Ao29 t888.length co29] 24 (0, 0)) (by (with_reducible repeat (first | refine blk_drewN ?_ _ | refine blk_drew ?_ | refine blk_alloc ?_ _)); exact BK870.out) hb); have n7_ := Aside0.mk (blk_below (g := gb878) (o := .cells #[.int .i64 t871, .int .i64 t872, .int .i64 t873, .slice Ao36 t891.length co36] 24 (0, 0)) (by (with_reducible repeat (first | refine blk_drewN ?_ _ | refine blk_drew ?_ | refine blk_alloc ?_ _)); exact BK878.out) hb); have n8_ := Aside0.mk (blk_below (g := gb906) (o := .cells #[.int .i64 t899, .int .i64 t900, .int .i64 t901, .slice Ao123 t902.length co123] 24 (0, 0)) (by (with_reducible repeat (first | refine blk_drewN ?_ _ | refine blk_drew ?_ | refine blk_alloc ?_ _)); exact BK906.out) hb); have n9_ := Aside0.mk (below_step (by repeat (first | (with_reducible first | exact HB.out | apply below_alloc | apply pw_below_drewN | apply below_drew1 | refine below_set ?_ GE848.out | refine below_set ?_ GE863.out | refine below_set ?_ GE870.out | refine below_set ?_ GE878.out | refine below_set ?_ GE906.out) | exact HB.out)) hb); clear HO_864003; clear HO_871003; clear HO_879003; clear HO_907003; clear BK848; clear BK863; clear BK870; clear BK878; clear BK906; clear HB; have HO_864003 := n0_; have HO_871003 := n1_; have HO_879003 := n2_; have HO_907003 := n3_; have BK848 := n4_; have BK863 := n5_; have BK870 := n6_; have BK878 := n7_; have BK906 := n8_; have HB := n9_; clear n0_ n1_ n2_ n3_ n4_ n5_ n6_ n7_ n8_ n9_; (try clear hb); (try clear hb2); (try clear hk); (try clear hi)))
                                go_ret
                                exact ⟨by first | rfl | (simp [errW_none, errW_some] <;> rfl) | (simp [*, errW_none, errW_some] <;> rfl), by repeat (first | (with_reducible first | exact HB.out | apply below_alloc | apply pw_below_drewN | apply below_drew1 | refine below_set ?_ GE848.out | refine below_set ?_ GE863.out | refine below_set ?_ GE870.out | refine below_set ?_ GE878.out | refine below_set ?_ GE906.out) | exact HB.out)⟩
                    · rw [if_neg c100] at H
                      have c100b0 : (t892 == t890) = false := beq_eq_false_iff_ne.mpr c100
                      have c100b1 : (t892 != t890) = true := bne_iff_ne.mpr c100
                      obtain rfl := Option.some.inj H
                      have hnb168 := NB878_848.out
                      have hnc168 := NB848_878.out
                      have hnb169 := NB878_863.out
                      have hnc169 := NB863_878.out
                      have hnb170 := NB878_870.out
                      have hnc170 := NB870_878.out
                      have hcz171_0 : wc.cell? ⟨gb878, 0, none⟩ = some (.int .i64 t871) := (blk_cell BK878.out 0).trans rfl
                      have hcz171_1 : wc.cell? ⟨gb878, 1, none⟩ = some (.int .i64 t872) := (blk_cell BK878.out 1).trans rfl
                      have hcz171_2 : wc.cell? ⟨gb878, 2, none⟩ = some (.int .i64 t873) := (blk_cell BK878.out 2).trans rfl
                      have hcz171_3 : wc.cell? ⟨gb878, 3, none⟩ = some (.slice Ao36 t874.length co36) := (blk_cell BK878.out 3).trans rfl
                      have hfz171_0 := blk_frozen BK878.out 0
                      have hfz171_1 := blk_frozen BK878.out 1
                      have hfz171_2 := blk_frozen BK878.out 2
                      have hfz171_3 := blk_frozen BK878.out 3
                      go_wp2_with (first | ((with_reducible refine gate_callee (f := 18) rfl ?_); refine goesL_ (some 64) rfl rfl Try.func18 (by kernel_rfl) rfl #[.agg #[.int .i64 t871, .int .i64 t872, .int .i64 t873, .slice Ao36 t874.length co36], .int .i64 1] rfl (by (try simp only [List.map_toArray, List.map_cons, List.map_nil]); first | done | rfl | (simp only [List.length_drop, List.length_take]; rfl)) ?_; (with_reducible refine (laws_markMatrix.calls kj59 t871 t872 t873 (fun k_ => some k_ = (.slice Ao36 t874.length co36 : Value).ownBlock) (.slice Ao36 t874.length co36) t874 1 t890 t891 w _ ?side1 ?side2 A90.out).mono ?_); (case side1 => repeat (first | (with_reducible first | exact HB.out | apply below_alloc | apply pw_below_drewN | apply below_drew1 | refine below_set ?_ GE848.out | refine below_set ?_ GE863.out | refine below_set ?_ GE870.out | refine below_set ?_ GE878.out) | exact HB.out)); (case side2 => exact Kd.R_tight rfl HO_879003.out); rintro e w172 ⟨rfl, hy0, hb, hkp⟩; refine ⟨_, rfl, ?_⟩; have n0_ := Aside0.mk (Kd.R_mono (ok' := fun k_ => some k_ ≠ (.slice Ao29 t888.length co29 : Value).ownBlock ∧ some k_ ≠ (.slice Ao36 t874.length co36 : Value).ownBlock) (Kd.R_keptB (HO_864003.out) hkp (fun k_ hk_ hs_ => (hk_.2) hs_)) (fun k_ hk_ => ⟨hk_.1.1, hk_.1.2⟩)); have n1_ := Aside0.mk (Kd.R_mono (ok' := fun k_ => some k_ ≠ (.slice Ao22 t859.length co22 : Value).ownBlock ∧ some k_ ≠ (.slice Ao36 t874.length co36 : Value).ownBlock) (Kd.R_keptB (HO_871003.out) hkp (fun k_ hk_ hs_ => (hk_.2) hs_)) (fun k_ hk_ => ⟨hk_.1.1, hk_.1.2⟩)); have n2_ := Aside0.mk (Kd.R_reok rfl hy0 (fun k_ e_ => HO_879003.out.1 k_ e_)); have n3_ := Aside0.mk (blk_kept (by (with_reducible repeat (first | refine blk_drewN ?_ _ | refine blk_drew ?_ | refine blk_alloc ?_ _)); exact BK848.out) hkp (fun hs_ => (fun e_ => (Kd.R_ne HO_879003.out BK848.out (by decide)) e_) hs_)); have n4_ := Aside0.mk (blk_kept (by (with_reducible repeat (first | refine blk_drewN ?_ _ | refine blk_drew ?_ | refine blk_alloc ?_ _)); exact BK863.out) hkp (fun hs_ => (fun e_ => (Kd.R_ne HO_879003.out BK863.out (by decide)) e_) hs_)); have n5_ := Aside0.mk (blk_kept (by (with_reducible repeat (first | refine blk_drewN ?_ _ | refine blk_drew ?_ | refine blk_alloc ?_ _)); exact BK870.out) hkp (fun hs_ => (fun e_ => (Kd.R_ne HO_879003.out BK870.out (by decide)) e_) hs_)); have n6_ := Aside0.mk (blk_kept (by (with_reducible repeat (first | refine blk_drewN ?_ _ | refine blk_drew ?_ | refine blk_alloc ?_ _)); exact BK878.out) hkp (fun hs_ => (fun e_ => (Kd.R_ne HO_879003.out BK878.out (by decide)) e_) hs_)); have n7_ := Aside0.mk (hb); clear HO_864003; clear HO_871003; clear HO_879003; clear BK848; clear BK863; clear BK870; clear BK878; clear HB; have HO_864003 := n0_; have HO_871003 := n1_; have HO_879003 := n2_; have BK848 := n3_; have BK863 := n4_; have BK870 := n5_; have BK878 := n6_; have HB := n7_; clear n0_ n1_ n2_ n3_ n4_ n5_ n6_ n7_; (try clear hb); (try clear hkp); (try clear hy0); have hcz173_0 : w172.cell? ⟨gb878, 0, none⟩ = some (.int .i64 t871) := (blk_cell BK878.out 0).trans rfl; have hcz173_1 : w172.cell? ⟨gb878, 1, none⟩ = some (.int .i64 t872) := (blk_cell BK878.out 1).trans rfl; have hcz173_2 : w172.cell? ⟨gb878, 2, none⟩ = some (.int .i64 t873) := (blk_cell BK878.out 2).trans rfl; have hcz173_3 : w172.cell? ⟨gb878, 3, none⟩ = some (.slice Ao36 t874.length co36) := (blk_cell BK878.out 3).trans rfl; have hfz173_0 := blk_frozen BK878.out 0; have hfz173_1 := blk_frozen BK878.out 1; have hfz173_2 := blk_frozen BK878.out 2; have hfz173_3 := blk_frozen BK878.out 3) | ((with_reducible refine gate_callee (f := 19) rfl ?_); refine goesL_ (some 67) rfl rfl Try.func19 (by kernel_rfl) rfl #[.agg #[.int .i64 t871, .int .i64 t872, .int .i64 t873, .slice Ao36 t891.length co36], .int .i64 1] rfl (by (try simp only [List.map_toArray, List.map_cons, List.map_nil]); first | done | (rw [show t891.length = t874.length from (Kd.R_reads' HO_879003.out).1.symm] <;> rfl) | rfl | (simp only [List.length_drop, List.length_take]; rfl)) ?_; (with_reducible refine (laws_heldMatrix.calls kj59 t871 t872 t873 _ _ t891 1 t892 _ ?side1 ?side2 A91.out).mono ?_); (case side1 => repeat (first | exact (Kd.R_reads' HO_879003.out).2.2 | (with_reducible refine Kd.C_alloc ?_ _) | (with_reducible refine Kd.C_drewN ?_ _) | (with_reducible refine Kd.C_drew ?_))); (case side2 => rw [show t891.length = t874.length from (Kd.R_reads' HO_879003.out).1.symm]; exact (Kd.R_reads' HO_879003.out).2.1); rintro e w174 ⟨rfl, hb⟩; refine ⟨_, rfl, ?_⟩; have n0_ := Aside0.mk (Kd.R_below (by (with_reducible repeat (first | apply Kd.R_alloc | apply Kd.R_drewN | apply Kd.R_drew)); exact HO_864003.out) hb); have n1_ := Aside0.mk (Kd.R_below (by (with_reducible repeat (first | apply Kd.R_alloc | apply Kd.R_drewN | apply Kd.R_drew)); exact HO_871003.out) hb); have n2_ := Aside0.mk (Kd.R_below (by (with_reducible repeat (first | apply Kd.R_alloc | apply Kd.R_drewN | apply Kd.R_drew)); exact HO_879003.out) hb); have n3_ := Aside0.mk (blk_below (g := gb848) (o := .cells #[.int .i64 a0_0, .int .i64 a0_1, .int .i64 a0_2, .slice A0_3 l0_3.length c0_3] 32 (0, 0)) (by (with_reducible repeat (first | refine blk_drewN ?_ _ | refine blk_drew ?_ | refine blk_alloc ?_ _)); exact BK848.out) hb); have n4_ := Aside0.mk (blk_below (g := gb863) (o := .cells #[.int .i64 t856, .int .i64 t857, .int .i64 t858, .slice Ao22 t859.length co22] 24 (0, 0)) (by (with_reducible repeat (first | refine blk_drewN ?_ _ | refine blk_drew ?_ | refine blk_alloc ?_ _)); exact BK863.out) hb); have n5_ := Aside0.mk (blk_below (g := gb870) (o := .cells #[.int .i64 t864, .int .i64 t865, .int .i64 t866, .slice Ao29 t888.length co29] 24 (0, 0)) (by (with_reducible repeat (first | refine blk_drewN ?_ _ | refine blk_drew ?_ | refine blk_alloc ?_ _)); exact BK870.out) hb); have n6_ := Aside0.mk (blk_below (g := gb878) (o := .cells #[.int .i64 t871, .int .i64 t872, .int .i64 t873, .slice Ao36 t874.length co36] 24 (0, 0)) (by (with_reducible repeat (first | refine blk_drewN ?_ _ | refine blk_drew ?_ | refine blk_alloc ?_ _)); exact BK878.out) hb); have n7_ := Aside0.mk (below_step (by repeat (first | (with_reducible first | exact HB.out | apply below_alloc | apply pw_below_drewN | apply below_drew1 | refine below_set ?_ GE848.out | refine below_set ?_ GE863.out | refine below_set ?_ GE870.out | refine below_set ?_ GE878.out) | exact HB.out)) hb); clear HO_864003; clear HO_871003; clear HO_879003; clear BK848; clear BK863; clear BK870; clear BK878; clear HB; have HO_864003 := n0_; have HO_871003 := n1_; have HO_879003 := n2_; have BK848 := n3_; have BK863 := n4_; have BK870 := n5_; have BK878 := n6_; have HB := n7_; clear n0_ n1_ n2_ n3_ n4_ n5_ n6_ n7_; (try clear hb); (try clear hb2); (try clear hk); (try clear hi)))
                      go_ret
                      exact ⟨by first | rfl | (simp [errW_none, errW_some] <;> rfl) | (simp [*, errW_none, errW_some] <;> rfl), by repeat (first | (with_reducible first | exact HB.out | apply below_alloc | apply pw_below_drewN | apply below_drew1 | refine below_set ?_ GE848.out | refine below_set ?_ GE863.out | refine below_set ?_ GE870.out | refine below_set ?_ GE878.out) | exact HB.out)⟩
          · replace c58 := Bool.eq_false_iff.mpr c58
            subst c58
            have H1 : (some false) = some r := by rw [if_neg (show ¬ (false = true) by decide)] at H; exact H
            clear H
            have H := H1
            clear H1
            obtain rfl := Option.some.inj H
            try go_wp2
            have n0_ := Aside0.mk (Kd.R_drew HO_864003.out)
            have n1_ := Aside0.mk (Kd.R_drew HO_871003.out)
            have n2_ := Aside0.mk (Kd.R_drew HO_879003.out)
            have n3_ := Aside0.mk (blk_drew BK848.out)
            have n4_ := Aside0.mk (blk_drew BK863.out)
            have n5_ := Aside0.mk (blk_drew BK870.out)
            have n6_ := Aside0.mk (blk_drew BK878.out)
            have n7_ := Aside0.mk (below_drew1 HB.out)
            clear HO_864003
            clear HO_871003
            clear HO_879003
            clear BK848
            clear BK863
            clear BK870
            clear BK878
            clear HB
            have HO_864003 := n0_
            have HO_871003 := n1_
            have HO_879003 := n2_
            have BK848 := n3_
            have BK863 := n4_
            have BK870 := n5_
            have BK878 := n6_
            have HB := n7_
            clear n0_ n1_ n2_ n3_ n4_ n5_ n6_ n7_
            refine start_ (n := 5) (S := fun w' => w'.cell? ⟨gb870, 0, none⟩ = some (.int .i64 t864) ∧ w'.cell? ⟨gb870, 1, none⟩ = some (.int .i64 t865) ∧ w'.cell? ⟨gb870, 2, none⟩ = some (.int .i64 t866) ∧ w'.cell? ⟨gb870, 3, none⟩ = some (.slice Ao29 t867.length co29) ∧ w'.cell? ⟨gb848, 0, none⟩ = some (.int .i64 a0_0) ∧ w'.cell? ⟨gb848, 1, none⟩ = some (.int .i64 a0_1) ∧ w'.cell? ⟨gb848, 2, none⟩ = some (.int .i64 a0_2) ∧ w'.cell? ⟨gb848, 3, none⟩ = some (.slice A0_3 l0_3.length c0_3)) (ds := []) #[false, false, false, false, false] (by kernel_rfl) rfl rfl ⟨(blk_cell BK870.out 0).trans rfl, (blk_cell BK870.out 1).trans rfl, (blk_cell BK870.out 2).trans rfl, (blk_cell BK870.out 3).trans rfl, (blk_cell BK848.out 0).trans rfl, (blk_cell BK848.out 1).trans rfl, (blk_cell BK848.out 2).trans rfl, (blk_cell BK848.out 3).trans rfl⟩ (fun hHeld => ?_)
            generalize wc.drew = w175 at HO_864003 HO_871003 HO_879003 BK848 BK863 BK870 BK878 HB hHeld ⊢
            refine take_ (i := 0) (N := some 41) (v := ?_) (a' := ?_) #[true, false, false, false, false] rfl rfl (by kernel_rfl) (fun _ _ _ h => h) (Or.inl ⟨by rfl, ?_⟩) hHeld ?_ ?_
            rotate_left
            · rintro w' ⟨s0, s1, s2, s3, s4, s5, s6, s7⟩
              go_simp
              with_reducible rfl
            rotate_left
            · simp only [Act.put, List.setIfInBounds_toArray, List.set_cons_zero, List.set_cons_succ, i64_w, i32_w]
              rfl
            refine take_ (i := 1) (N := some 42) (v := ?_) (a' := ?_) #[true, true, false, false, false] rfl rfl (by kernel_rfl) (fun _ _ _ h => h) (Or.inl ⟨by rfl, ?_⟩) hHeld ?_ ?_
            rotate_left
            · rintro w' ⟨s0, s1, s2, s3, s4, s5, s6, s7⟩
              go_simp
              with_reducible rfl
            rotate_left
            · simp only [Act.put, List.setIfInBounds_toArray, List.set_cons_zero, List.set_cons_succ, i64_w, i32_w]
              rfl
            refine one_ (i := 2) (N := some 43) #[true, true, true, false, false] rfl rfl (by kernel_rfl) (by decide) (fun K hK => ?_)
            refine goes_ Try.func24 (by kernel_rfl) rfl #[.agg #[.int .i64 a0_0, .int .i64 a0_1, .int .i64 a0_2, .slice A0_3 l0_3.length c0_3]] (by rfl) rfl rfl (by (try simp only [List.map_toArray, List.map_cons, List.map_nil]); first | done | rfl | (simp only [List.length_drop, List.length_take]; rfl)) ?_
            with_reducible refine (laws_toMatrix.calls kj10 a0_0 a0_1 a0_2 _ _ l0_3 t880 t881 t882 t883 _ ?side1 ?side2 A56.out).mono ?_
            (case side1 => repeat (first | exact (Kd.C_below HR0_3.out HB.out) | (with_reducible refine Kd.C_alloc ?_ _) | (with_reducible refine Kd.C_drewN ?_ _) | (with_reducible refine Kd.C_drew ?_)))
            (case side2 => exact HC0_3.out)
            rintro e w176 ⟨v884, rfl, ho0, hb⟩
            refine ⟨_, rfl, ?_⟩
            have n0_ := Aside0.mk (Kd.R_elder' (by (with_reducible repeat (first | apply Kd.R_alloc | apply Kd.R_drewN | apply Kd.R_drew)); exact HO_864003.out) (Kd.R_base ho0) hb)
            have n1_ := Aside0.mk (Kd.R_elder' (by (with_reducible repeat (first | apply Kd.R_alloc | apply Kd.R_drewN | apply Kd.R_drew)); exact HO_871003.out) (Kd.R_base ho0) hb)
            have n2_ := Aside0.mk (Kd.R_elder' (by (with_reducible repeat (first | apply Kd.R_alloc | apply Kd.R_drewN | apply Kd.R_drew)); exact HO_879003.out) (Kd.R_base ho0) hb)
            have n3_ := Aside0.mk (Kd.R_lower (Kd.R_new' (Kd.R_new' (Kd.R_new' ho0 (Kd.R_lt (by (with_reducible repeat (first | apply Kd.R_alloc | apply Kd.R_drewN | apply Kd.R_drew)); exact HO_864003.out))) (Kd.R_lt (by (with_reducible repeat (first | apply Kd.R_alloc | apply Kd.R_drewN | apply Kd.R_drew)); exact HO_871003.out))) (Kd.R_lt (by (with_reducible repeat (first | apply Kd.R_alloc | apply Kd.R_drewN | apply Kd.R_drew)); exact HO_879003.out))) (below_size (by repeat (first | (with_reducible first | exact HB.out | apply below_alloc | apply pw_below_drewN | apply below_drew1 | refine below_set ?_ GE848.out | refine below_set ?_ GE863.out | refine below_set ?_ GE870.out | refine below_set ?_ GE878.out) | exact HB.out))))
            have n4_ := Aside0.mk (blk_below (g := gb848) (o := .cells #[.int .i64 a0_0, .int .i64 a0_1, .int .i64 a0_2, .slice A0_3 l0_3.length c0_3] 32 (0, 0)) (by (with_reducible repeat (first | refine blk_drewN ?_ _ | refine blk_drew ?_ | refine blk_alloc ?_ _)); exact BK848.out) hb)
            have n5_ := Aside0.mk (blk_below (g := gb863) (o := .cells #[.int .i64 t856, .int .i64 t857, .int .i64 t858, .slice Ao22 t859.length co22] 24 (0, 0)) (by (with_reducible repeat (first | refine blk_drewN ?_ _ | refine blk_drew ?_ | refine blk_alloc ?_ _)); exact BK863.out) hb)
            have n6_ := Aside0.mk (blk_below (g := gb870) (o := .cells #[.int .i64 t864, .int .i64 t865, .int .i64 t866, .slice Ao29 t867.length co29] 24 (0, 0)) (by (with_reducible repeat (first | refine blk_drewN ?_ _ | refine blk_drew ?_ | refine blk_alloc ?_ _)); exact BK870.out) hb)
            have n7_ := Aside0.mk (blk_below (g := gb878) (o := .cells #[.int .i64 t871, .int .i64 t872, .int .i64 t873, .slice Ao36 t874.length co36] 24 (0, 0)) (by (with_reducible repeat (first | refine blk_drewN ?_ _ | refine blk_drew ?_ | refine blk_alloc ?_ _)); exact BK878.out) hb)
            have n8_ := Aside0.mk (below_step (by repeat (first | (with_reducible first | exact HB.out | apply below_alloc | apply pw_below_drewN | apply below_drew1 | refine below_set ?_ GE848.out | refine below_set ?_ GE863.out | refine below_set ?_ GE870.out | refine below_set ?_ GE878.out) | exact HB.out)) hb)
            clear HO_864003
            clear HO_871003
            clear HO_879003
            clear BK848
            clear BK863
            clear BK870
            clear BK878
            clear HB
            have HO_864003 := n0_
            have HO_871003 := n1_
            have HO_879003 := n2_
            have HO885 := n3_
            have BK848 := n4_
            have BK863 := n5_
            have BK870 := n6_
            have BK878 := n7_
            have HB := n8_
            clear n0_ n1_ n2_ n3_ n4_ n5_ n6_ n7_ n8_
            (try clear hb)
            (try clear hb2)
            (try clear hk)
            (try clear hi)
            (try clear ho0)
            obtain ⟨Ao177, co177, eo177⟩ := Kd.R_slice HO885.out
            (first | subst eo177 | (injection eo177 with f1_ f2_ f3_; have f4_ := f1_.symm; have f5_ := f3_.symm; clear f1_ f2_ f3_; subst f4_; subst f5_))
            refine hK.out _ _ ⟨(blk_cell BK870.out 0).trans rfl, (blk_cell BK870.out 1).trans rfl, (blk_cell BK870.out 2).trans rfl, (blk_cell BK870.out 3).trans rfl, (blk_cell BK848.out 0).trans rfl, (blk_cell BK848.out 1).trans rfl, (blk_cell BK848.out 2).trans rfl, (blk_cell BK848.out 3).trans rfl⟩ (fun hHeld => ?_)
            clear hK K
            refine norm_ (a' := ?_) ?_ ?_
            rotate_left
            · show Act.put _ (some 43) _ = _
              simp only [Act.put, List.setIfInBounds_toArray, List.set_cons_zero, List.set_cons_succ, i64_w, i32_w]
              rfl
            refine one_ (i := 3) (N := some 44) #[true, true, true, true, false] rfl rfl (by kernel_rfl) (by decide) (fun K hK => ?_)
            refine goes_ Try.func17 (by kernel_rfl) rfl #[.agg #[.int .i64 t864, .int .i64 t865, .int .i64 t866, .slice Ao29 t867.length co29], .agg #[.int .i64 t880, .int .i64 t881, .int .i64 t882, .slice Ao177 t883.length co177]] (by rfl) rfl rfl (by (try simp only [List.map_toArray, List.map_cons, List.map_nil]); first | done | rfl | (simp only [List.length_drop, List.length_take]; rfl)) ?_
            with_reducible refine (laws_eqMatrix.calls kj10 t864 t865 t866 _ _ t867 t880 t881 t882 _ _ t883 false _ ?side1 ?side2 ?side3 ?side4 A57.out).mono ?_
            (case side1 => repeat (first | exact (Kd.R_reads' HO_871003.out).2.2 | (with_reducible refine Kd.C_alloc ?_ _) | (with_reducible refine Kd.C_drewN ?_ _) | (with_reducible refine Kd.C_drew ?_)))
            (case side2 => exact (Kd.R_reads' HO_871003.out).2.1)
            (case side3 => repeat (first | exact (Kd.R_reads' HO885.out).2.2 | (with_reducible refine Kd.C_alloc ?_ _) | (with_reducible refine Kd.C_drewN ?_ _) | (with_reducible refine Kd.C_drew ?_)))
            (case side4 => exact (Kd.R_reads' HO885.out).2.1)
            rintro e w178 ⟨rfl, hb⟩
            refine ⟨_, rfl, ?_⟩
            have n0_ := Aside0.mk (Kd.R_below (by (with_reducible repeat (first | apply Kd.R_alloc | apply Kd.R_drewN | apply Kd.R_drew)); exact HO_864003.out) hb)
            have n1_ := Aside0.mk (Kd.R_below (by (with_reducible repeat (first | apply Kd.R_alloc | apply Kd.R_drewN | apply Kd.R_drew)); exact HO_871003.out) hb)
            have n2_ := Aside0.mk (Kd.R_below (by (with_reducible repeat (first | apply Kd.R_alloc | apply Kd.R_drewN | apply Kd.R_drew)); exact HO_879003.out) hb)
            have n3_ := Aside0.mk (Kd.R_below (by (with_reducible repeat (first | apply Kd.R_alloc | apply Kd.R_drewN | apply Kd.R_drew)); exact HO885.out) hb)
            have n4_ := Aside0.mk (blk_below (g := gb848) (o := .cells #[.int .i64 a0_0, .int .i64 a0_1, .int .i64 a0_2, .slice A0_3 l0_3.length c0_3] 32 (0, 0)) (by (with_reducible repeat (first | refine blk_drewN ?_ _ | refine blk_drew ?_ | refine blk_alloc ?_ _)); exact BK848.out) hb)
            have n5_ := Aside0.mk (blk_below (g := gb863) (o := .cells #[.int .i64 t856, .int .i64 t857, .int .i64 t858, .slice Ao22 t859.length co22] 24 (0, 0)) (by (with_reducible repeat (first | refine blk_drewN ?_ _ | refine blk_drew ?_ | refine blk_alloc ?_ _)); exact BK863.out) hb)
            have n6_ := Aside0.mk (blk_below (g := gb870) (o := .cells #[.int .i64 t864, .int .i64 t865, .int .i64 t866, .slice Ao29 t867.length co29] 24 (0, 0)) (by (with_reducible repeat (first | refine blk_drewN ?_ _ | refine blk_drew ?_ | refine blk_alloc ?_ _)); exact BK870.out) hb)
            have n7_ := Aside0.mk (blk_below (g := gb878) (o := .cells #[.int .i64 t871, .int .i64 t872, .int .i64 t873, .slice Ao36 t874.length co36] 24 (0, 0)) (by (with_reducible repeat (first | refine blk_drewN ?_ _ | refine blk_drew ?_ | refine blk_alloc ?_ _)); exact BK878.out) hb)
            have n8_ := Aside0.mk (below_step (by repeat (first | (with_reducible first | exact HB.out | apply below_alloc | apply pw_below_drewN | apply below_drew1 | refine below_set ?_ GE848.out | refine below_set ?_ GE863.out | refine below_set ?_ GE870.out | refine below_set ?_ GE878.out) | exact HB.out)) hb)
            clear HO_864003
            clear HO_871003
            clear HO_879003
            clear HO885
            clear BK848
            clear BK863
            clear BK870
            clear BK878
            clear HB
            have HO_864003 := n0_
            have HO_871003 := n1_
            have HO_879003 := n2_
            have HO885 := n3_
            have BK848 := n4_
            have BK863 := n5_
            have BK870 := n6_
            have BK878 := n7_
            have HB := n8_
            clear n0_ n1_ n2_ n3_ n4_ n5_ n6_ n7_ n8_
            (try clear hb)
            (try clear hb2)
            (try clear hk)
            (try clear hi)
            refine hK.out _ _ ⟨(blk_cell BK870.out 0).trans rfl, (blk_cell BK870.out 1).trans rfl, (blk_cell BK870.out 2).trans rfl, (blk_cell BK870.out 3).trans rfl, (blk_cell BK848.out 0).trans rfl, (blk_cell BK848.out 1).trans rfl, (blk_cell BK848.out 2).trans rfl, (blk_cell BK848.out 3).trans rfl⟩ (fun hHeld => ?_)
            clear hK K
            refine norm_ (a' := ?_) ?_ ?_
            rotate_left
            · show Act.put _ (some 44) _ = _
              simp only [Act.put, List.setIfInBounds_toArray, List.set_cons_zero, List.set_cons_succ, i64_w, i32_w]
              rfl
            refine pure_ (i := 4) (N := some 45) (v := ?_) (a' := ?_) #[true, true, true, true, true] rfl rfl (by kernel_rfl) (fun _ _ _ h => h) (Or.inl ⟨by rfl, ?_⟩) ?_ ?_
            rotate_left
            · intro w'
              go_simp
              with_reducible rfl
            rotate_left
            · simp only [Act.put, List.setIfInBounds_toArray, List.set_cons_zero, List.set_cons_succ, i64_w, i32_w]
              rfl
            refine done_ (by kernel_rfl) ?_
            try go_wp2
            go_ret
            exact ⟨by first | rfl | (simp [errW_none, errW_some] <;> rfl) | (simp [*, errW_none, errW_some] <;> rfl), by repeat (first | (with_reducible first | exact HB.out | apply below_alloc | apply pw_below_drewN | apply below_drew1 | refine below_set ?_ GE848.out | refine below_set ?_ GE863.out | refine below_set ?_ GE870.out | refine below_set ?_ GE878.out) | exact HB.out)⟩

/-- THE ONE PURE STATEMENT of laws_FnExactTranspose: yours. -/
def laws_FnExactTranspose.Pure : Prop := ∀ (a0_0 : Int) (a0_1 : Int) (a0_2 : Int) (l0_3 : List Int), (Lit.int .i64 a0_0).wf = true → (Lit.int .i64 a0_1).wf = true → (Lit.int .i64 a0_2).wf = true → l0_3.length ≤ maxLen → (∀ x ∈ l0_3, (Lit.int .i64 x).wf = true) → ∃ k, laws_FnExactTranspose.f k a0_0 a0_1 a0_2 l0_3 = some true
theorem laws_FnExactTranspose.walk (P : laws_FnExactTranspose.Pure) (a0_0 : Int) (a0_1 : Int) (a0_2 : Int) (a0_3 : Option Addr) (len0_3 cap0_3 : Nat) (z0_3 : List Int) (w : World) (w0_0 : (Lit.int .i64 a0_0).wf = true) (w0_1 : (Lit.int .i64 a0_1).wf = true) (w0_2 : (Lit.int .i64 a0_2).wf = true) (w0_3 : (a0_3 = none ∧ len0_3 = 0 ∧ cap0_3 = 0 ∧ z0_3 = []) ∨ ∃ x, a0_3 = some x ∧ len0_3 ≤ cap0_3 ∧ cap0_3 ≤ maxLen ∧ z0_3.length = cap0_3 ∧ (∀ i, i < z0_3.length → w.cell? (x.add i) = some (.int .i64 (z0_3.getD i 0))) ∧ ∀ n ∈ z0_3, (Lit.int .i64 n).wf = true) :
    Calls Try.prog 7 #[.agg #[.int .i64 a0_0, .int .i64 a0_1, .int .i64 a0_2, .slice a0_3 len0_3 cap0_3]] w fun e w' => e = .returned (.bool true) ∧ Below w.heap.size w w' := by
  obtain ⟨l0_3, rfl, hr0_3, hm0_3, hw0_3, hc0_3⟩ := ReadsInt.ofRowC w0_3
  obtain ⟨k, h⟩ := P a0_0 a0_1 a0_2 l0_3 w0_0 w0_1 w0_2 hm0_3 hw0_3
  refine (laws_FnExactTranspose.calls k a0_0 a0_1 a0_2 _ _ l0_3 true w (Kd.C_of_reads (d := (0 : Int)) (h1 := fun _ => rfl) hr0_3) hc0_3 h).mono ?_
  rintro e w' ⟨rfl, hd⟩
  exact ⟨rfl, hd⟩

end Go.Proofs.Ytioooobmfcmefaa.F
end
