-- Texts of this claim, merged by pack.py (a program of this session's).
import Derived.Test.YtioooobmfcmefaaQFnExactScaleMatrix0

section
namespace Go.Proofs.Ytioooobmfcmefaa.F
open Go.RowKit Go.Proofs.YtioooobmfcmefaaW.PrintWords Go.Proofs.YtioooobmfcmefaaW.PrintLast Go.Proofs.YtioooobmfcmefaaW.PrintMore
attribute [local go_sem] max2_int min2_int max_two min_two max_three min_three max_four min_four   -- for this text's walks alone
set_option linter.unusedVariables false
set_option linter.unusedSimpArgs false

/-! ### spec_l03Zero: function 50 -/
def spec_l03Zero.f (a0 : Int) (a1 : Int) (a2 : Int) : Option (Int × Int × Int × List Int) := if 0 ≤ (wrap64 (a1 * a2)) then (if (wrap64 (a1 * a2) : Int).toNat ≤ 35184372088832 then (some (a0, a1, a2, (List.replicate (wrap64 (a1 * a2) : Int).toNat 0))) else (none)) else (none)
set_option maxHeartbeats 8000000 in
set_option maxRecDepth 100000 in
theorem spec_l03Zero.calls (a0 : Int) (a1 : Int) (a2 : Int) (r1 : Int) (r2 : Int) (r3 : Int) (r4 : List Int) (w : World) (h : spec_l03Zero.f a0 a1 a2 = some (r1, r2, r3, r4)) :
    Calls Try.prog 50 #[.int .i64 a0, .int .i64 a1, .int .i64 a2] w fun e w' => ∃ v3_ : Value, e = .returned (.agg #[.int .i64 r1, .int .i64 r2, .int .i64 r3, v3_]) ∧ Kd.R (Kd.int .i64) 2 w' w.heap.size (fun _ => True) v3_ r4 ∧ Below w.heap.size w w' := by
  have hu24 := Try.underlying24
  have HB := Aside0.mk (Below.refl w.heap.size w)
  have H : (if 0 ≤ (wrap64 (a1 * a2)) then (if (wrap64 (a1 * a2) : Int).toNat ≤ 35184372088832 then (some (a0, a1, a2, (List.replicate (wrap64 (a1 * a2) : Int).toNat 0))) else (none)) else (none)) = some (r1, r2, r3, r4) := h
  clear h
  obtain ⟨ji4, hji4⟩ : ∃ j_ : Int, (wrap64 (a1 * a2)) = j_ := ⟨_, rfl⟩
  replace H : (if 0 ≤ (ji4) then (if (ji4 : Int).toNat ≤ 35184372088832 then (some (a0, a1, a2, (List.replicate (ji4 : Int).toNat 0))) else (none)) else (none)) = some (r1, r2, r3, r4) := by first | (rw [hji4] at H; exact H) | (simp only [hji4] at H ⊢; exact H)
  have hji4w : (IntKind.i64.wrap (a1 * a2)) = ji4 := (i64_w _).trans hji4
  by_cases c5 : 0 ≤ (ji4)
  · rw [if_pos c5] at H
    have c5b0 := eq_true c5
    have c5b1 : decide (0 ≤ (ji4)) = true := decide_eq_true c5
    clear c5
    by_cases c6 : (ji4 : Int).toNat ≤ 35184372088832
    · rw [if_pos c6] at H
      have c6b0 := eq_true c6
      have c6b1 : decide ((ji4 : Int).toNat ≤ 35184372088832) = true := decide_eq_true c6
      clear c6
      obtain ⟨y127, hy127⟩ : ∃ y_ : List Int, y_ = (List.replicate (ji4 : Int).toNat 0) := ⟨_, rfl⟩
      replace H : (some (a0, a1, a2, y127)) = some (r1, r2, r3, r4) := by first | (rw [hy127]; with_reducible exact H) | (have H2_ := (Option.bind_some _ _).symm.trans H; rw [hy127]; with_reducible exact H2_) | (have H2_ := (Option.bind_some _ _).symm.trans H; with_reducible exact H2_) | with_reducible exact H | (rw [hy127]; exact H) | exact H
      have Ny127 := Aside0.mk hy127
      clear hy127
      simp only [Option.some.injEq, Prod.mk.injEq] at H
      obtain ⟨rfl, rfl, rfl, rfl⟩ := H
      go_enter Try.func50, Try.ntmps50
      go_wp2_with (first | ((with_reducible refine gate_dst (N := 6) rfl ?_); refine box_event ?hg (N := 6) ?hd (cs := #[.int .i64 0, .int .i64 0, .int .i64 0, .slice none 0 0]) (t := 24) ?hr ?_; (case hd => rfl); (case hg => rfl); (case hr => first | (go_simp; done) | (go_simp; rfl)); intro gb126 hg w7 hbox hb; have n0_ := Aside0.mk (below_step (by repeat (first | (with_reducible first | exact HB.out | apply below_alloc | apply pw_below_drewN | apply below_drew1) | exact HB.out)) hb); have n1_ := Aside0.mk (hbox); have n2_ := Aside0.mk ((by rw [hg]; exact (below_size (by repeat (first | (with_reducible first | exact HB.out | apply below_alloc | apply pw_below_drewN | apply below_drew1) | exact HB.out))) : w.heap.size ≤ gb126)); have n3_ := Aside0.mk ((by rw [hg]; exact (below_size (by repeat (first | (with_reducible first | exact HB.out | apply below_alloc | apply pw_below_drewN | apply below_drew1) | exact HB.out))) : w.heap.size ≤ gb126)); clear HB; have HB := n0_; have BK126 := n1_; have GW126 := n2_; have GE126 := n3_; clear n0_ n1_ n2_ n3_; clear hb hbox hg) | ((with_reducible refine gate_dst (N := 13) rfl ?_); refine Kd.R_make (Kd.int .i64) _ 2 rfl (N := 13) rfl 22 _ _ rfl ji4 rfl rfl Try.underlying22 (.int .i64 0) 8 info2 rfl (by decide) (by omega) 0 (ok := fun _ => True) (okp := fun _ => True) rfl (fun _ hk => hk) trivial (of_decide_eq_true (by first | (with_reducible assumption) | assumption)) (Nat.le_trans (Nat.mul_le_mul_right _ (of_decide_eq_true (by first | (with_reducible assumption) | assumption) : ji4.toNat ≤ 35184372088832)) (by omega)) (Below.refl _ _) (Nat.le_refl _) ?_; intro v128 w8 ho9 hb hg_ hnew_; clear hg_ hnew_; (first | rw [← Ny127.out] at ho9 | (simp only [Int.reduceToNat] at ho9; rw [← Ny127.out] at ho9)); have n0_ := Aside0.mk (Kd.R_lower ho9 (below_size (by repeat (first | (with_reducible first | exact HB.out | apply below_alloc | apply pw_below_drewN | apply below_drew1 | refine below_set ?_ GE126.out) | exact HB.out)))); have n1_ := Aside0.mk (blk_below (g := gb126) (o := .cells #[.int .i64 0, .int .i64 0, .int .i64 0, .slice none 0 0] 24 (0, 0)) (by (with_reducible repeat (first | refine blk_drewN ?_ _ | refine blk_drew ?_ | refine blk_alloc ?_ _)); exact BK126.out) hb); have n2_ := Aside0.mk (below_step (by repeat (first | (with_reducible first | exact HB.out | apply below_alloc | apply pw_below_drewN | apply below_drew1 | refine below_set ?_ GE126.out) | exact HB.out)) hb); clear BK126; clear HB; have HO129 := n0_; have BK126 := n1_; have HB := n2_; clear n0_ n1_ n2_; clear hb ho9; obtain ⟨Ao10, co10, eo10⟩ := Kd.R_slice HO129.out; subst eo10; have hcz11_0 : w8.cell? ⟨gb126, 0, none⟩ = some (.int .i64 0) := (blk_cell BK126.out 0).trans rfl; have hcz11_1 : w8.cell? ⟨gb126, 1, none⟩ = some (.int .i64 0) := (blk_cell BK126.out 1).trans rfl; have hcz11_2 : w8.cell? ⟨gb126, 2, none⟩ = some (.int .i64 0) := (blk_cell BK126.out 2).trans rfl; have hcz11_3 : w8.cell? ⟨gb126, 3, none⟩ = some (.slice none 0 0) := (blk_cell BK126.out 3).trans rfl; have hfz11_0 := blk_frozen BK126.out 0; have hfz11_1 := blk_frozen BK126.out 1; have hfz11_2 := blk_frozen BK126.out 2; have hfz11_3 := blk_frozen BK126.out 3))
      refine bodyPost_ret (results_cell_row rfl _ _ gb126 24 #[.int .i64 a0, .int .i64 a1, .int .i64 a2, .slice Ao10 y127.length co10] (0, 0) _ rfl (by (with_reducible repeat (first | refine blk_drewN ?_ _ | refine blk_drew ?_ | refine blk_alloc ?_ _)); refine blk_put (cs := #[.int .i64 a0, .int .i64 a1, .int .i64 a2, .slice none 0 0]) ?_ 3 _ rfl; (with_reducible repeat (first | refine blk_drewN ?_ _ | refine blk_drew ?_ | refine blk_alloc ?_ _)); refine blk_put (cs := #[.int .i64 a0, .int .i64 a1, .int .i64 0, .slice none 0 0]) ?_ 2 _ rfl; (with_reducible repeat (first | refine blk_drewN ?_ _ | refine blk_drew ?_ | refine blk_alloc ?_ _)); refine blk_put (cs := #[.int .i64 a0, .int .i64 0, .int .i64 0, .slice none 0 0]) ?_ 1 _ rfl; (with_reducible repeat (first | refine blk_drewN ?_ _ | refine blk_drew ?_ | refine blk_alloc ?_ _)); refine blk_put (cs := #[.int .i64 0, .int .i64 0, .int .i64 0, .slice none 0 0]) ?_ 0 _ rfl; (with_reducible repeat (first | refine blk_drewN ?_ _ | refine blk_drew ?_ | refine blk_alloc ?_ _)); exact BK126.out) Try.underlying24 rfl (by kernel_rfl)) rfl ?_
      exact ⟨_, by first | rfl | (simp [errW_none, errW_some] <;> rfl) | (simp only [← hji4]; first | rfl | (simp [errW_none, errW_some] <;> rfl)) | (simp [*, errW_none, errW_some] <;> rfl), by (with_reducible repeat (first | apply Kd.R_alloc | apply Kd.R_drewN | apply Kd.R_drew)); exact Kd.R_mono (Kd.R_far (p := ⟨gb126, 3, none⟩) (Kd.R_far (p := ⟨gb126, 2, none⟩) (Kd.R_far (p := ⟨gb126, 1, none⟩) (Kd.R_far (p := ⟨gb126, 0, none⟩) (Kd.R_types HO129.out BK126.out (by decide)) (fun _ hk => hk.2) (.int .i64 a0)) (fun _ hk => hk.2) (.int .i64 a1)) (fun _ hk => hk.2) (.int .i64 a2)) (fun _ hk => hk.2) (.slice Ao10 y127.length co10)) (fun _ hk => trivial), by repeat (first | (with_reducible first | exact HB.out | apply below_alloc | apply pw_below_drewN | apply below_drew1 | refine below_set ?_ GE126.out) | exact HB.out)⟩
    · rw [if_neg c6] at H
      exact absurd H (by simp)
  · rw [if_neg c5] at H
    exact absurd H (by simp)

end Go.Proofs.Ytioooobmfcmefaa.F
end

section
namespace Go.Proofs.Ytioooobmfcmefaa.F
open Go.RowKit Go.Proofs.YtioooobmfcmefaaW.PrintWords Go.Proofs.YtioooobmfcmefaaW.PrintLast Go.Proofs.YtioooobmfcmefaaW.PrintMore
attribute [local go_sem] max2_int min2_int max_two min_two max_three min_three max_four min_four   -- for this text's walks alone
set_option linter.unusedVariables false
set_option linter.unusedSimpArgs false

/-! ### spec_l03Mod: function 94 -/
def spec_l03Mod.f (a0 : Int) (a1 : Int) : Option (Int) := if a1 = 0 then (none) else (some (Int.tmod (wrap64 ((Int.tmod a0 a1) + a1)) a1))
set_option maxHeartbeats 8000000 in
set_option maxRecDepth 100000 in
theorem spec_l03Mod.calls (a0 : Int) (a1 : Int) (r : Int) (w : World) (h : spec_l03Mod.f a0 a1 = some r) :
    Calls Try.prog 94 #[.int .i64 a0, .int .i64 a1] w fun e w' => e = .returned (.int .i64 r) ∧ Drawn0 w w' := by
  have H : (if a1 = 0 then (none) else (some (Int.tmod (wrap64 ((Int.tmod a0 a1) + a1)) a1))) = some r := h
  clear h
  by_cases c3 : a1 = 0
  · rw [if_pos c3] at H
    exact absurd H (by simp)
  · rw [if_neg c3] at H
    have c3b0 : (a1 == 0) = false := beq_eq_false_iff_ne.mpr c3
    have c3b1 : (a1 != 0) = true := bne_iff_ne.mpr c3
    obtain rfl := Option.some.inj H
    go_enter Try.func94, Try.ntmps94
    go_wp2
    go_ret
    exact ⟨by first | rfl | (simp; done) | (simp [*]; done), by repeat (first | exact Drawn0.refl _ | apply Drawn0.step)⟩

end Go.Proofs.Ytioooobmfcmefaa.F
end

section
namespace Go.Proofs.Ytioooobmfcmefaa.F
open Go.RowKit Go.Proofs.YtioooobmfcmefaaW.PrintWords Go.Proofs.YtioooobmfcmefaaW.PrintLast Go.Proofs.YtioooobmfcmefaaW.PrintMore
attribute [local go_sem] max2_int min2_int max_two min_two max_three min_three max_four min_four   -- for this text's walks alone
set_option linter.unusedVariables false
set_option linter.unusedSimpArgs false

/-! ### spec_l03Scale: function 74 -/
def spec_l03Scale.l0 : Nat → Int → Int → Int → Int → Int → List Int → Int → Int → Int → List Int → Option (Int × Int × Int × List Int)
  | 0, _, _, _, _, _, _, _, _, _, _ => none
  | k + 1, x1, x6, x655000, x655001, x655002, x655003, x663000, x663001, x663002, x663003 => if x6 < (x655003.length : Int) then (if 0 ≤ x6 then ((spec_l03Mod.f (wrap64 ((rd x655003 x6) * x1)) x655000).bind fun t664 => (if x6 < (x663003.length : Int) then (spec_l03Scale.l0 k x1 (wrap64 (x6 + 1)) x655000 x655001 x655002 x655003 x663000 x663001 x663002 (x663003.set (x6 : Int).toNat t664)) else (none))) else (none)) else (some (x663000, x663001, x663002, x663003))
def spec_l03Scale.f (k : Nat) (a0_0 : Int) (a0_1 : Int) (a0_2 : Int) (l0_3 : List Int) (a1 : Int) : Option (Int × Int × Int × List Int) := (spec_l03Zero.f a0_0 a0_1 a0_2).bind fun bt656 => (spec_l03Scale.l0 k a1 0 a0_0 a0_1 a0_2 l0_3 bt656.1 bt656.2.1 bt656.2.2.1 bt656.2.2.2)
theorem spec_l03Scale.mono_l : ∀ k, (∀ y0 y1 y2 y3 y4 y5 y6 y7 y8 y9, LeO (spec_l03Scale.l0 k y0 y1 y2 y3 y4 y5 y6 y7 y8 y9) (spec_l03Scale.l0 (k + 1) y0 y1 y2 y3 y4 y5 y6 y7 y8 y9))
  | 0 => fun _ _ _ _ _ _ _ _ _ _ r h => by simp [spec_l03Scale.l0] at h
  | k + 1 => by
    have ih0 := spec_l03Scale.mono_l k
    · intro y0 y1 y2 y3 y4 y5 y6 y7 y8 y9
      unfold spec_l03Scale.l0
      repeat' first
      | (with_reducible exact ih0 _ _ _ _ _ _ _ _ _ _)
      | (with_reducible exact LeO.refl _)
      | (with_reducible exact LeO.none _)
      | (with_reducible refine LeO.ite ?_ ?_)
      | (with_reducible refine LeO.bind ?_ (fun _ => ?_))
      | exact ih0 _ _ _ _ _ _ _ _ _ _
      | exact LeO.none _
      | refine LeO.ite ?_ ?_
      | refine LeO.bind ?_ (fun _ => ?_)
theorem spec_l03Scale.mono : ∀ a0 a1 a2 a3 a4 k, LeO (spec_l03Scale.f k a0 a1 a2 a3 a4) (spec_l03Scale.f (k + 1) a0 a1 a2 a3 a4) := by
  intro a0 a1 a2 a3 a4 k
  have ih0 := spec_l03Scale.mono_l k
  unfold spec_l03Scale.f
  repeat' first
      | (with_reducible exact ih0 _ _ _ _ _ _ _ _ _ _)
      | (with_reducible exact LeO.refl _)
      | (with_reducible exact LeO.none _)
      | (with_reducible refine LeO.ite ?_ ?_)
      | (with_reducible refine LeO.bind ?_ (fun _ => ?_))
      | exact ih0 _ _ _ _ _ _ _ _ _ _
      | exact LeO.none _
      | refine LeO.ite ?_ ?_
      | refine LeO.bind ?_ (fun _ => ?_)
def spec_l03Scale.T1 : Bool × List (List Nat × List Nat) := (true, [([], []), ([0], [0]), ([1], [1]), ([2], [2]), ([], []), ([4], [4]), ([5], [5]), ([6], [6]), ([], []), ([8], [8]), ([9], [9]), ([10], [10]), ([3, 7, 11], [3, 7, 11]), ([], []), ([13, 12, 12, 0, 1, 2, 3, 4, 5, 6, 7, 8, 9, 10, 11, 12, 13], [12, 13])])
def spec_l03Scale.B1 : List Nat := [0, 1, 3, 7, 0, 16, 48, 112, 0, 256, 768, 1792, 4095, 0, 16383]
theorem spec_l03Scale.tab1 : rtab .any (opsOf Try.f74 1) = spec_l03Scale.T1 := by kernel_rfl
theorem spec_l03Scale.bits1 : waitsOk spec_l03Scale.T1.2 spec_l03Scale.B1 = true := by kernel_rfl
def spec_l03Scale.T5 : Bool × List (List Nat × List Nat) := (true, [([], []), ([0], [0]), ([], []), ([], []), ([3], [3]), ([4], [4]), ([5], [5]), ([], []), ([6, 7], [6, 7]), ([8], [8]), ([], []), ([9, 10], [9, 10]), ([], []), ([12], [12]), ([13], [13]), ([14], [14]), ([11, 15], [11, 15]), ([1, 2, 0, 1, 2, 3, 4, 5, 6, 7, 8, 9, 10, 11, 12, 13, 14, 15, 16], [1, 2]), ([17, 16, 16, 0, 1, 2, 3, 4, 5, 6, 7, 8, 9, 10, 11, 12, 13, 14, 15, 16], [16, 17])])
def spec_l03Scale.B5 : List Nat := [0, 1, 0, 0, 8, 24, 56, 0, 248, 504, 0, 2040, 0, 4096, 12288, 28672, 65528, 131071, 262143]
theorem spec_l03Scale.tab5 : rtab .any (opsOf Try.f74 5) = spec_l03Scale.T5 := by kernel_rfl
theorem spec_l03Scale.bits5 : waitsOk spec_l03Scale.T5.2 spec_l03Scale.B5 = true := by kernel_rfl
theorem Z74.bb {w0 w w1 : World} {g : Nat} {o : Obj} (_B : Aside0 (w0.heap[g]? = some o)) (h : w.heap[g]? = some o) (hb : Below w.heap.size w w1) : w1.heap[g]? = some o := blk_below h hb
theorem Z74.bl {w0 w : World} {g : Nat} {o : Obj} (_B : Aside0 (w0.heap[g]? = some o)) (h : w.heap[g]? = some o) : g < w.heap.size := blk_lt h
theorem Z74.z9 {P : Prop} (h : P := by (with_reducible repeat (first | apply Kd.R_alloc | apply Kd.R_drewN | apply Kd.R_drew)); exact HO661.out) : P := h
theorem Z74.z8 {P : Prop} (h : P := by (with_reducible repeat (first | refine blk_drewN ?_ _ | refine blk_drew ?_ | refine blk_alloc ?_ _)); exact BK662.out) : P := h
theorem Z74.z7 {P : Prop} (h : P := by (try simp only [List.map_toArray, List.map_cons, List.map_nil]); first | done | rfl | (simp only [List.length_drop, List.length_take]; rfl)) : P := h
theorem Z74.z6 {P : Prop} (h : P := by repeat (first | (with_reducible first | exact HB.out | apply below_alloc | apply pw_below_drewN | apply below_drew1 | refine below_set ?_ GE654.out) | exact HB.out)) : P := h
theorem Z74.z5 {P : Prop} (h : P := by exact ⟨(blk_cell BK654.out 0).trans rfl, (blk_cell BK654.out 1).trans rfl, (blk_cell BK654.out 2).trans rfl, (blk_cell BK654.out 3).trans rfl⟩) : P := h
theorem Z74.z4 {P : Prop} (h : P := by (with_reducible repeat (first | refine blk_drewN ?_ _ | refine blk_drew ?_ | refine blk_alloc ?_ _)); exact BK655.out) : P := h
theorem Z74.z3 {P : Prop} (h : P := by repeat (first | (with_reducible first | exact HB.out | apply below_alloc | apply pw_below_drewN | apply below_drew1 | refine below_set ?_ GE654.out | refine below_set ?_ GE655.out | refine below_set ?_ GE662.out) | exact HB.out)) : P := h
theorem Z74.z2 {P : Prop} (h : P := by (with_reducible repeat (first | refine blk_drewN ?_ _ | refine blk_drew ?_ | refine blk_alloc ?_ _)); exact BK654.out) : P := h
theorem Z74.z1 {P : Prop} (h : P := by repeat (first | (with_reducible first | exact HB.out | apply below_alloc | apply pw_below_drewN | apply below_drew1 | refine below_set ?_ GE654.out | refine below_set ?_ GE655.out) | exact HB.out)) : P := h
theorem Z74.z0 {P : Prop} (h : P := by simp only [Act.put, List.setIfInBounds_toArray, List.set_cons_zero, List.set_cons_succ, i64_w, i32_w]; rfl) : P := h
set_option maxHeartbeats 8000000 in
set_option maxRecDepth 100000 in
theorem spec_l03Scale.calls (k : Nat) (a0_0 : Int) (a0_1 : Int) (a0_2 : Int) (A0_3 : Option Addr) (c0_3 : Nat) (l0_3 : List Int) (a1 : Int) (r1 : Int) (r2 : Int) (r3 : Int) (r4 : List Int) (w : World) (hr0_3 : Kd.C (Kd.int .i64) w A0_3 l0_3.length l0_3) (hc0_3 : l0_3.length ≤ c0_3) {g0_ : Nat} (hbk0_ : w.heap[g0_]? = some (.cells #[.int .i64 a0_0, .int .i64 a0_1, .int .i64 a0_2, .slice A0_3 l0_3.length c0_3] 24 (0, 0))) (h : spec_l03Scale.f k a0_0 a0_1 a0_2 l0_3 a1 = some (r1, r2, r3, r4)) :
  Calls Try.prog 74 #[.pointer (some ⟨g0_, 0, none⟩), .int .i64 a1] w fun e w' => ∃ v3_ : Value, e = .returned (.agg #[.int .i64 r1, .int .i64 r2, .int .i64 r3, v3_]) ∧ Kd.R (Kd.int .i64) 2 w' w.heap.size (fun _ => True) v3_ r4 ∧ Below w.heap.size w w' := by
 have hu24 := Try.underlying24
 have HR0_3 := Aside0.mk hr0_3
 have HC0_3 := Aside0.mk hc0_3
 clear hr0_3 hc0_3
 have HB := Aside0.mk (Below.refl w.heap.size w)
 have H : ((spec_l03Zero.f a0_0 a0_1 a0_2).bind fun bt656 => (spec_l03Scale.l0 k a1 0 a0_0 a0_1 a0_2 l0_3 bt656.1 bt656.2.1 bt656.2.2.1 bt656.2.2.2)) = some (r1, r2, r3, r4) := h
 clear h
 replace H := Option.bind_eq_some_iff.mp H
 obtain ⟨⟨t656, t657, t658, t659⟩, A30, H⟩ := H
 replace H : (spec_l03Scale.l0 k a1 0 a0_0 a0_1 a0_2 l0_3 t656 t657 t658 t659) = some (r1, r2, r3, r4) := H
 have A3 := Aside0.mk A30
 clear A30
 have H' := Aside0.mk H
 clear H
 go_enter Try.func74, Try.ntmps74
 have BK654 := Aside0.mk hbk0_
 try go_wp2_with (first | ((with_reducible refine gate_dst (N := 4) rfl ?_); refine box_event ?hg (N := 4) ?hd (cs := #[.int .i64 0, .int .i64 0, .int .i64 0, .slice none 0 0]) (t := 24) ?hr ?_; (case hd => rfl); (case hg => rfl); (case hr => first | (go_simp; done) | (go_simp; rfl)); intro gb655 hg w5 hbox hb; have n0_ := Aside0.mk (Z74.bb BK654 Z74.z2 hb); have n1_ := Aside0.mk (below_step Z74.z6 hb); have n2_ := Aside0.mk (hbox); have n3_ := Aside0.mk (show w.heap.size ≤ gb655 from (by rw [hg]; exact (below_size Z74.z6))); have n4_ := Aside0.mk (show w.heap.size ≤ gb655 from (by rw [hg]; exact (below_size Z74.z6))); have n5_ := Aside0.mk (show g0_ ≠ gb655 from (by rw [hg]; exact Nat.ne_of_lt (Z74.bl BK654 Z74.z2))); have n6_ := Aside0.mk (show gb655 ≠ g0_ from (by rw [hg]; exact Nat.ne_of_gt (Z74.bl BK654 Z74.z2))); clear BK654 HB; have BK654 := n0_; have HB := n1_; have BK655 := n2_; have GW655 := n3_; have GE655 := n4_; have NB654_655 := n5_; have NB655_654 := n6_; clear n0_ n1_ n2_ n3_ n4_ n5_ n6_; clear hb hbox hg))
 have n0_ := Aside0.mk (blk_drew BK654.out)
 have n1_ := Aside0.mk (blk_drew BK655.out)
 have n2_ := Aside0.mk (below_drew1 HB.out)
 clear BK654 BK655 HB
 have BK654 := n0_
 have BK655 := n1_
 have HB := n2_
 clear n0_ n1_ n2_
 refine start_ (n := 15) (S := fun w' => w'.cell? ⟨g0_, 0, none⟩ = some (.int .i64 a0_0) ∧ w'.cell? ⟨g0_, 1, none⟩ = some (.int .i64 a0_1) ∧ w'.cell? ⟨g0_, 2, none⟩ = some (.int .i64 a0_2) ∧ w'.cell? ⟨g0_, 3, none⟩ = some (.slice A0_3 l0_3.length c0_3)) (ds := []) #[false, false, false, false, false, false, false, false, false, false, false, false, false, false, false] (by kernel_rfl) rfl rfl Z74.z5 (fun hHeld => ?_); refine with_tabW spec_l03Scale.tab1 spec_l03Scale.bits1 (fun HT_ HW_ => ?_)
 generalize w5.drew = w6 at BK654 BK655 HB hHeld ⊢
 refine pure_ (i := 0) (N := some 7) (v := ?_) (a' := ?_) #[true, false, false, false, false, false, false, false, false, false, false, false, false, false, false] rfl rfl (any_of HT_.out (by kernel_rfl)) (fun _ _ _ h => h) (Or.inl ⟨(by rfl), ?_⟩) ?_ ?_
 rotate_left
 ·intro w'
  go_simp
  with_reducible rfl
 rotate_left
 ·exact Z74.z0
 refine pure_ (i := 1) (N := some 8) (v := ?_) (a' := ?_) #[true, true, false, false, false, false, false, false, false, false, false, false, false, false, false] rfl rfl (any_of HT_.out (by kernel_rfl)) (fun _ _ _ h => h) (Or.inl ⟨(by rfl), ?_⟩) ?_ ?_
 rotate_left
 ·intro w'
  go_simp
  with_reducible rfl
 rotate_left
 ·exact Z74.z0
 refine pure_ (i := 2) (N := some 9) (v := ?_) (a' := ?_) #[true, true, true, false, false, false, false, false, false, false, false, false, false, false, false] rfl rfl (any_of HT_.out (by kernel_rfl)) (fun _ _ _ h => h) (Or.inl ⟨(by rfl), ?_⟩) ?_ ?_
 rotate_left
 ·intro w'
  go_simp
  with_reducible rfl
 rotate_left
 ·exact Z74.z0
 refine pure_ (i := 4) (N := some 11) (v := ?_) (a' := ?_) #[true, true, true, false, true, false, false, false, false, false, false, false, false, false, false] rfl rfl (any_of HT_.out (by kernel_rfl)) (fun _ _ _ h => h) (Or.inl ⟨(by rfl), ?_⟩) ?_ ?_
 rotate_left
 ·intro w'
  go_simp
  with_reducible rfl
 rotate_left
 ·exact Z74.z0
 refine pure_ (i := 5) (N := some 12) (v := ?_) (a' := ?_) #[true, true, true, false, true, true, false, false, false, false, false, false, false, false, false] rfl rfl (any_of HT_.out (by kernel_rfl)) (fun _ _ _ h => h) (Or.inl ⟨(by rfl), ?_⟩) ?_ ?_
 rotate_left
 ·intro w'
  go_simp
  with_reducible rfl
 rotate_left
 ·exact Z74.z0
 refine pure_ (i := 6) (N := some 13) (v := ?_) (a' := ?_) #[true, true, true, false, true, true, true, false, false, false, false, false, false, false, false] rfl rfl (any_of HT_.out (by kernel_rfl)) (fun _ _ _ h => h) (Or.inl ⟨(by rfl), ?_⟩) ?_ ?_
 rotate_left
 ·intro w'
  go_simp
  with_reducible rfl
 rotate_left
 ·exact Z74.z0
 refine pure_ (i := 8) (N := some 15) (v := ?_) (a' := ?_) #[true, true, true, false, true, true, true, false, true, false, false, false, false, false, false] rfl rfl (any_of HT_.out (by kernel_rfl)) (fun _ _ _ h => h) (Or.inl ⟨(by rfl), ?_⟩) ?_ ?_
 rotate_left
 ·intro w'
  go_simp
  with_reducible rfl
 rotate_left
 ·exact Z74.z0
 refine pure_ (i := 9) (N := some 16) (v := ?_) (a' := ?_) #[true, true, true, false, true, true, true, false, true, true, false, false, false, false, false] rfl rfl (any_of HT_.out (by kernel_rfl)) (fun _ _ _ h => h) (Or.inl ⟨(by rfl), ?_⟩) ?_ ?_
 rotate_left
 ·intro w'
  go_simp
  with_reducible rfl
 rotate_left
 ·exact Z74.z0
 refine pure_ (i := 10) (N := some 17) (v := ?_) (a' := ?_) #[true, true, true, false, true, true, true, false, true, true, true, false, false, false, false] rfl rfl (any_of HT_.out (by kernel_rfl)) (fun _ _ _ h => h) (Or.inl ⟨(by rfl), ?_⟩) ?_ ?_
 rotate_left
 ·intro w'
  go_simp
  with_reducible rfl
 rotate_left
 ·exact Z74.z0
 refine take_ (i := 3) (N := some 10) (v := ?_) (a' := ?_) #[true, true, true, true, true, true, true, false, true, true, true, false, false, false, false] rfl rfl (take_ofW HT_.out HW_.out (by kernel_rfl)) (fun _ _ _ h => h) (Or.inl ⟨(by rfl), ?_⟩) hHeld ?_ ?_
 rotate_left
 ·rintro w' ⟨s0, s1, s2, s3⟩
  go_simp
  with_reducible rfl
 rotate_left
 ·exact Z74.z0
 refine take_ (i := 7) (N := some 14) (v := ?_) (a' := ?_) #[true, true, true, true, true, true, true, true, true, true, true, false, false, false, false] rfl rfl (take_ofW HT_.out HW_.out (by kernel_rfl)) (fun _ _ _ h => h) (Or.inl ⟨(by rfl), ?_⟩) hHeld ?_ ?_
 rotate_left
 ·rintro w' ⟨s0, s1, s2, s3⟩
  go_simp
  with_reducible rfl
 rotate_left
 ·exact Z74.z0
 refine take_ (i := 11) (N := some 18) (v := ?_) (a' := ?_) #[true, true, true, true, true, true, true, true, true, true, true, true, false, false, false] rfl rfl (take_ofW HT_.out HW_.out (by kernel_rfl)) (fun _ _ _ h => h) (Or.inl ⟨(by rfl), ?_⟩) hHeld ?_ ?_
 rotate_left
 ·rintro w' ⟨s0, s1, s2, s3⟩
  go_simp
  with_reducible rfl
 rotate_left
 ·exact Z74.z0
 refine join_ (σ := Value × Nat) 1 #[true, true, true, true, true, true, true, true, true, true, true, true, true, true, false] (fun s_ => [(19, .agg #[.int .i64 t656, .int .i64 t657, .int .i64 t658, s_.1]), (5, .pointer (some ⟨s_.2, 0, none⟩))]) (fun s_ w' => (w'.cell? ⟨g0_, 0, none⟩ = some (.int .i64 a0_0) ∧ w'.cell? ⟨g0_, 1, none⟩ = some (.int .i64 a0_1) ∧ w'.cell? ⟨g0_, 2, none⟩ = some (.int .i64 a0_2) ∧ w'.cell? ⟨g0_, 3, none⟩ = some (.slice A0_3 l0_3.length c0_3)) ∧ (Kd.R (Kd.int .i64) 2 w' w.heap.size (fun _ => True) s_.1 t659) ∧ (w'.heap[g0_]? = some (.cells #[.int .i64 a0_0, .int .i64 a0_1, .int .i64 a0_2, .slice A0_3 l0_3.length c0_3] 24 (0, 0))) ∧ (w'.heap[gb655]? = some (.cells #[.int .i64 0, .int .i64 0, .int .i64 0, .slice none 0 0] 24 (0, 0))) ∧ (w'.heap[s_.2]? = some (.cells #[.int .i64 0, .int .i64 0, .int .i64 0, .slice none 0 0] 24 (0, 0))) ∧ (w.heap.size ≤ s_.2) ∧ (w.heap.size ≤ s_.2) ∧ (g0_ ≠ s_.2) ∧ (s_.2 ≠ g0_) ∧ (gb655 ≠ s_.2) ∧ (s_.2 ≠ gb655) ∧ (Below w.heap.size w w')) ?_ ?_
 rotate_left
 ·intro hCont
  refine two_ (i := 12) (j := 13) (Ni := some 19) (Nj := some 5) #[true, true, true, true, true, true, true, true, true, true, true, true, true, false, false] #[true, true, true, true, true, true, true, true, true, true, true, true, false, true, false] rfl rfl rfl rfl (two_of HT_.out (by kernel_rfl)) (by decide) (by decide) (fun K hK => ?_) (fun K hK => ?_)
  ·skip
   refine goes_ Try.func50 (by kernel_rfl) rfl #[.int .i64 a0_0, .int .i64 a0_1, .int .i64 a0_2] (by rfl) rfl rfl Z74.z7 ?_
   with_reducible refine (spec_l03Zero.calls a0_0 a0_1 a0_2 t656 t657 t658 t659 _ A3.out).mono ?_
   rintro e w7 ⟨v660, rfl, ho0, hb⟩
   refine ⟨_, rfl, ?_⟩
   have n0_ := Aside0.mk (Kd.R_lower ho0 (below_size Z74.z1))
   have n1_ := Aside0.mk (Z74.bb BK654 Z74.z2 hb)
   have n2_ := Aside0.mk (Z74.bb BK655 Z74.z4 hb)
   have n3_ := Aside0.mk (below_step Z74.z1 hb)
   clear BK654 BK655 HB
   have HO661 := n0_
   have BK654 := n1_
   have BK655 := n2_
   have HB := n3_
   clear n0_ n1_ n2_ n3_
   (try clear hb)
   (try clear hb2)
   (try clear hk)
   (try clear hi)
   (try clear ho0)
   refine hK.out _ _ Z74.z5 (fun hHeld => ?_)
   clear hK K
   refine norm_ (a' := ?_) ?_ ?_
   rotate_left
   ·show Act.put _ (some 19) _ = _
    simp only [Act.put, List.setIfInBounds_toArray, List.set_cons_zero, List.set_cons_succ, i64_w, i32_w]
    rfl
   refine one_ (i := 13) (N := some 5) #[true, true, true, true, true, true, true, true, true, true, true, true, true, true, false] rfl rfl (one_of HT_.out (by kernel_rfl)) (by decide) (fun K hK => ?_)
   refine box_step ?hg (N := 5) ?hd (cs := #[.int .i64 0, .int .i64 0, .int .i64 0, .slice none 0 0]) (t := 24) ?hr ?_; (case hd => rfl); (case hg => rfl); (case hr => first | (go_simp; done) | (go_simp; rfl))
   intro gb662 hg w8 hbox hb
   have n0_ := Aside0.mk (Kd.R_below Z74.z9 hb)
   have n1_ := Aside0.mk (Z74.bb BK654 Z74.z2 hb)
   have n2_ := Aside0.mk (Z74.bb BK655 Z74.z4 hb)
   have n3_ := Aside0.mk (below_step Z74.z1 hb)
   have n4_ := Aside0.mk (hbox)
   have n5_ := Aside0.mk (show w.heap.size ≤ gb662 from (by rw [hg]; exact (below_size Z74.z1)))
   have n6_ := Aside0.mk (show w.heap.size ≤ gb662 from (by rw [hg]; exact (below_size Z74.z1)))
   have n7_ := Aside0.mk (show g0_ ≠ gb662 from (by rw [hg]; exact Nat.ne_of_lt (Z74.bl BK654 Z74.z2)))
   have n8_ := Aside0.mk (show gb662 ≠ g0_ from (by rw [hg]; exact Nat.ne_of_gt (Z74.bl BK654 Z74.z2)))
   have n9_ := Aside0.mk (show gb655 ≠ gb662 from (by rw [hg]; exact Nat.ne_of_lt (Z74.bl BK655 Z74.z4)))
   have n10_ := Aside0.mk (show gb662 ≠ gb655 from (by rw [hg]; exact Nat.ne_of_gt (Z74.bl BK655 Z74.z4)))
   clear HO661 BK654 BK655 HB
   have HO661 := n0_
   have BK654 := n1_
   have BK655 := n2_
   have HB := n3_
   have BK662 := n4_
   have GW662 := n5_
   have GE662 := n6_
   have NB654_662 := n7_
   have NB662_654 := n8_
   have NB655_662 := n9_
   have NB662_655 := n10_
   clear n0_ n1_ n2_ n3_ n4_ n5_ n6_ n7_ n8_ n9_ n10_ hb hbox hg
   refine hK.out _ _ Z74.z5 (fun hHeld => ?_)
   clear hK K
   refine norm_ (a' := ?_) ?_ ?_
   rotate_left
   ·show Act.put _ (some 5) _ = _
    simp only [Act.put, List.setIfInBounds_toArray, List.set_cons_zero, List.set_cons_succ, i64_w, i32_w]
    rfl
   exact norm_ (by simp only [putAll, Act.put, List.setIfInBounds_toArray, List.set_cons_zero, List.set_cons_succ]) (hCont (v660, gb662) _ ⟨hHeld, Z74.z9, Z74.z2, Z74.z4, Z74.z8, GW662.out, GE662.out, NB654_662.out, NB662_654.out, NB655_662.out, NB662_655.out, Z74.z3⟩)
  skip
  refine box_step ?hg (N := 5) ?hd (cs := #[.int .i64 0, .int .i64 0, .int .i64 0, .slice none 0 0]) (t := 24) ?hr ?_; (case hd => rfl); (case hg => rfl); (case hr => first | (go_simp; done) | (go_simp; rfl))
  intro gb662 hg w7 hbox hb
  have n0_ := Aside0.mk (Z74.bb BK654 Z74.z2 hb)
  have n1_ := Aside0.mk (Z74.bb BK655 Z74.z4 hb)
  have n2_ := Aside0.mk (below_step Z74.z1 hb)
  have n3_ := Aside0.mk (hbox)
  have n4_ := Aside0.mk (show w.heap.size ≤ gb662 from (by rw [hg]; exact (below_size Z74.z1)))
  have n5_ := Aside0.mk (show w.heap.size ≤ gb662 from (by rw [hg]; exact (below_size Z74.z1)))
  have n6_ := Aside0.mk (show g0_ ≠ gb662 from (by rw [hg]; exact Nat.ne_of_lt (Z74.bl BK654 Z74.z2)))
  have n7_ := Aside0.mk (show gb662 ≠ g0_ from (by rw [hg]; exact Nat.ne_of_gt (Z74.bl BK654 Z74.z2)))
  have n8_ := Aside0.mk (show gb655 ≠ gb662 from (by rw [hg]; exact Nat.ne_of_lt (Z74.bl BK655 Z74.z4)))
  have n9_ := Aside0.mk (show gb662 ≠ gb655 from (by rw [hg]; exact Nat.ne_of_gt (Z74.bl BK655 Z74.z4)))
  clear BK654 BK655 HB
  have BK654 := n0_
  have BK655 := n1_
  have HB := n2_
  have BK662 := n3_
  have GW662 := n4_
  have GE662 := n5_
  have NB654_662 := n6_
  have NB662_654 := n7_
  have NB655_662 := n8_
  have NB662_655 := n9_
  clear n0_ n1_ n2_ n3_ n4_ n5_ n6_ n7_ n8_ n9_ hb hbox hg
  refine hK.out _ _ Z74.z5 (fun hHeld => ?_)
  clear hK K
  refine norm_ (a' := ?_) ?_ ?_
  rotate_left
  ·show Act.put _ (some 5) _ = _
   simp only [Act.put, List.setIfInBounds_toArray, List.set_cons_zero, List.set_cons_succ, i64_w, i32_w]
   rfl
  refine one_ (i := 12) (N := some 19) #[true, true, true, true, true, true, true, true, true, true, true, true, true, true, false] rfl rfl (one_of HT_.out (by kernel_rfl)) (by decide) (fun K hK => ?_)
  refine goes_ Try.func50 (by kernel_rfl) rfl #[.int .i64 a0_0, .int .i64 a0_1, .int .i64 a0_2] (by rfl) rfl rfl Z74.z7 ?_
  with_reducible refine (spec_l03Zero.calls a0_0 a0_1 a0_2 t656 t657 t658 t659 _ A3.out).mono ?_
  rintro e w8 ⟨v660, rfl, ho0, hb⟩
  refine ⟨_, rfl, ?_⟩
  have n0_ := Aside0.mk (Kd.R_lower ho0 (below_size Z74.z3))
  have n1_ := Aside0.mk (Z74.bb BK654 Z74.z2 hb)
  have n2_ := Aside0.mk (Z74.bb BK655 Z74.z4 hb)
  have n3_ := Aside0.mk (Z74.bb BK662 Z74.z8 hb)
  have n4_ := Aside0.mk (below_step Z74.z3 hb)
  clear BK654 BK655 BK662 HB
  have HO661 := n0_
  have BK654 := n1_
  have BK655 := n2_
  have BK662 := n3_
  have HB := n4_
  clear n0_ n1_ n2_ n3_ n4_
  (try clear hb)
  (try clear hb2)
  (try clear hk)
  (try clear hi)
  (try clear ho0)
  refine hK.out _ _ Z74.z5 (fun hHeld => ?_)
  clear hK K
  refine norm_ (a' := ?_) ?_ ?_
  rotate_left
  ·show Act.put _ (some 19) _ = _
   simp only [Act.put, List.setIfInBounds_toArray, List.set_cons_zero, List.set_cons_succ, i64_w, i32_w]
   rfl
  exact norm_ (by simp only [putAll, Act.put, List.setIfInBounds_toArray, List.set_cons_zero, List.set_cons_succ]) (hCont (v660, gb662) _ ⟨hHeld, Z74.z9, Z74.z2, Z74.z4, Z74.z8, GW662.out, GE662.out, NB654_662.out, NB662_654.out, NB655_662.out, NB662_655.out, Z74.z3⟩)
 rintro ⟨v660, gb662⟩ w9 ⟨hS_, h0_, h1_, h2_, h3_, h4_, h5_, h6_, h7_, h8_, h9_, h10_⟩
 have n0_ : Aside0 (Kd.R (Kd.int .i64) 2 w9 w.heap.size (fun _ => True) v660 t659) := ⟨h0_⟩
 have n1_ : Aside0 (w9.heap[g0_]? = some (.cells #[.int .i64 a0_0, .int .i64 a0_1, .int .i64 a0_2, .slice A0_3 l0_3.length c0_3] 24 (0, 0))) := ⟨h1_⟩
 have n2_ : Aside0 (w9.heap[gb655]? = some (.cells #[.int .i64 0, .int .i64 0, .int .i64 0, .slice none 0 0] 24 (0, 0))) := ⟨h2_⟩
 have n3_ : Aside0 (w9.heap[gb662]? = some (.cells #[.int .i64 0, .int .i64 0, .int .i64 0, .slice none 0 0] 24 (0, 0))) := ⟨h3_⟩
 have n4_ : Aside0 (w.heap.size ≤ gb662) := ⟨h4_⟩
 have n5_ : Aside0 (w.heap.size ≤ gb662) := ⟨h5_⟩
 have n6_ : Aside0 (g0_ ≠ gb662) := ⟨h6_⟩
 have n7_ : Aside0 (gb662 ≠ g0_) := ⟨h7_⟩
 have n8_ : Aside0 (gb655 ≠ gb662) := ⟨h8_⟩
 have n9_ : Aside0 (gb662 ≠ gb655) := ⟨h9_⟩
 have n10_ : Aside0 (Below w.heap.size w w9) := ⟨h10_⟩
 clear BK654 BK655 HB h0_ h1_ h2_ h3_ h4_ h5_ h6_ h7_ h8_ h9_ h10_
 have HO661 := n0_
 have BK654 := n1_
 have BK655 := n2_
 have BK662 := n3_
 have GW662 := n4_
 have GE662 := n5_
 have NB654_662 := n6_
 have NB662_654 := n7_
 have NB655_662 := n8_
 have NB662_655 := n9_
 have HB := n10_
 clear n0_ n1_ n2_ n3_ n4_ n5_ n6_ n7_ n8_ n9_ n10_
 have hHeld : w9.cell? ⟨g0_, 0, none⟩ = some (.int .i64 a0_0) ∧ w9.cell? ⟨g0_, 1, none⟩ = some (.int .i64 a0_1) ∧ w9.cell? ⟨g0_, 2, none⟩ = some (.int .i64 a0_2) ∧ w9.cell? ⟨g0_, 3, none⟩ = some (.slice A0_3 l0_3.length c0_3) := hS_
 obtain ⟨Ao13, co13, eo13⟩ := Kd.R_slice HO661.out
 (first | subst eo13 | (injection eo13 with f1_ f2_ f3_; have f4_ := f1_.symm; have f5_ := f3_.symm; clear f1_ f2_ f3_; subst f4_; subst f5_))
 refine norm_ (a' := ?_) ?_ ?_
 rotate_left
 ·simp only [putAll, Act.put, List.setIfInBounds_toArray, List.set_cons_zero, List.set_cons_succ]
  rfl
 refine one_ (i := 14) (N := none) #[true, true, true, true, true, true, true, true, true, true, true, true, true, true, true] rfl rfl (one_of HT_.out (by kernel_rfl)) (by decide) (fun K hK => ?_)
 have hs10 : w9.cell? ⟨gb662, 0, none⟩ = some (.int .i64 0) := (blk_cell BK662.out 0).trans rfl
 have hfs10 := blk_frozen BK662.out 0
 have hns10_0 := NB654_662.out
 have hns10_1 := NB655_662.out
 have hms10_0 := NB662_654.out
 have hms10_1 := NB662_655.out
 have hs11 : w9.cell? ⟨gb662, 1, none⟩ = some (.int .i64 0) := (blk_cell BK662.out 1).trans rfl
 have hfs11 := blk_frozen BK662.out 1
 have hns11_0 := NB654_662.out
 have hns11_1 := NB655_662.out
 have hms11_0 := NB662_654.out
 have hms11_1 := NB662_655.out
 have hs12 : w9.cell? ⟨gb662, 2, none⟩ = some (.int .i64 0) := (blk_cell BK662.out 2).trans rfl
 have hfs12 := blk_frozen BK662.out 2
 have hns12_0 := NB654_662.out
 have hns12_1 := NB655_662.out
 have hms12_0 := NB662_654.out
 have hms12_1 := NB662_655.out
 have hs14 : w9.cell? ⟨gb662, 3, none⟩ = some (.slice none 0 0) := (blk_cell BK662.out 3).trans rfl
 have hfs14 := blk_frozen BK662.out 3
 have hns14_0 := NB654_662.out
 have hns14_1 := NB655_662.out
 have hms14_0 := NB662_654.out
 have hms14_1 := NB662_655.out
 refine skip_ (w1 := ?_) (by rfl) rfl ?_ ?_
 rotate_left
 ·go_simp
  rfl
 refine hK.out _ _ ⟨((cell_far (p := ⟨gb662, _, none⟩) NB654_662.out _).trans (((cell_far (p := ⟨gb662, _, none⟩) NB654_662.out _).trans (((cell_far (p := ⟨gb662, _, none⟩) NB654_662.out _).trans (((cell_far (p := ⟨gb662, _, none⟩) NB654_662.out _).trans (hHeld.1)))))))), ((cell_far (p := ⟨gb662, _, none⟩) NB654_662.out _).trans (((cell_far (p := ⟨gb662, _, none⟩) NB654_662.out _).trans (((cell_far (p := ⟨gb662, _, none⟩) NB654_662.out _).trans (((cell_far (p := ⟨gb662, _, none⟩) NB654_662.out _).trans (hHeld.2.1)))))))), ((cell_far (p := ⟨gb662, _, none⟩) NB654_662.out _).trans (((cell_far (p := ⟨gb662, _, none⟩) NB654_662.out _).trans (((cell_far (p := ⟨gb662, _, none⟩) NB654_662.out _).trans (((cell_far (p := ⟨gb662, _, none⟩) NB654_662.out _).trans (hHeld.2.2.1)))))))), ((cell_far (p := ⟨gb662, _, none⟩) NB654_662.out _).trans (((cell_far (p := ⟨gb662, _, none⟩) NB654_662.out _).trans (((cell_far (p := ⟨gb662, _, none⟩) NB654_662.out _).trans (((cell_far (p := ⟨gb662, _, none⟩) NB654_662.out _).trans (hHeld.2.2.2))))))))⟩ (fun hHeld => ?_)
 clear hK K
 refine done_ (done_of HT_.out (by kernel_rfl)) ?_
 try go_wp2
 go_loopg [6] k (fun kq v6 w' => ∃ (x6_1 : Int) (x663003_1 : List Int) (u663003 : Value), v6 = .int .i64 x6_1 ∧ Aside0 (spec_l03Scale.l0 kq a1 x6_1 a0_0 a0_1 a0_2 l0_3 t656 t657 t658 x663003_1 = some (r1, r2, r3, r4)) ∧ Aside0 (kq ≤ k) ∧ Aside0 (Kd.R (Kd.int .i64) 2 w' w.heap.size (fun _ => True) u663003 x663003_1) ∧ Aside0 (w'.heap[g0_]? = some (.cells #[.int .i64 a0_0, .int .i64 a0_1, .int .i64 a0_2, (.slice A0_3 l0_3.length c0_3)] 24 (0, 0))) ∧ Aside0 (w'.heap[gb655]? = some (.cells #[.int .i64 0, .int .i64 0, .int .i64 0, (.slice none 0 0)] 24 (0, 0))) ∧ Aside0 (w'.heap[gb662]? = some (.cells #[.int .i64 t656, .int .i64 t657, .int .i64 t658, u663003] 24 (0, 0))) ∧ Aside0 (Below w.heap.size w w'))
 case atStart => exact ⟨(0), (t659), (.slice Ao13 t659.length co13), (by first | rfl | (simp; done) | (simp [*]; done)), H', ⟨Nat.le_refl _⟩, ⟨(by (with_reducible repeat (first | apply Kd.R_alloc | apply Kd.R_drewN | apply Kd.R_drew)); exact Kd.R_mono (Kd.R_far (p := ⟨gb662, 3, none⟩) (Kd.R_far (p := ⟨gb662, 2, none⟩) (Kd.R_far (p := ⟨gb662, 1, none⟩) (Kd.R_far (p := ⟨gb662, 0, none⟩) (Kd.R_types HO661.out BK662.out (by decide)) (fun _ hk => hk.2) (.int .i64 t656)) (fun _ hk => hk.2) (.int .i64 t657)) (fun _ hk => hk.2) (.int .i64 t658)) (fun _ hk => hk.2) (.slice Ao13 t659.length co13)) (fun _ hk => trivial))⟩, ⟨(by (repeat (first | (with_reducible first | refine blk_drewN ?_ _ | refine blk_drew ?_ | refine blk_alloc ?_ _) | refine blk_far ?_ NB654_662.out _)); exact BK654.out)⟩, ⟨(by (repeat (first | (with_reducible first | refine blk_drewN ?_ _ | refine blk_drew ?_ | refine blk_alloc ?_ _) | refine blk_far ?_ NB655_662.out _)); exact BK655.out)⟩, ⟨(by (with_reducible repeat (first | refine blk_drewN ?_ _ | refine blk_drew ?_ | refine blk_alloc ?_ _)); refine blk_put (cs := #[.int .i64 t656, .int .i64 t657, .int .i64 t658, .slice none 0 0]) ?_ 3 _ rfl; (with_reducible repeat (first | refine blk_drewN ?_ _ | refine blk_drew ?_ | refine blk_alloc ?_ _)); refine blk_put (cs := #[.int .i64 t656, .int .i64 t657, .int .i64 0, .slice none 0 0]) ?_ 2 _ rfl; (with_reducible repeat (first | refine blk_drewN ?_ _ | refine blk_drew ?_ | refine blk_alloc ?_ _)); refine blk_put (cs := #[.int .i64 t656, .int .i64 0, .int .i64 0, .slice none 0 0]) ?_ 1 _ rfl; (with_reducible repeat (first | refine blk_drewN ?_ _ | refine blk_drew ?_ | refine blk_alloc ?_ _)); refine blk_put (cs := #[.int .i64 0, .int .i64 0, .int .i64 0, .slice none 0 0]) ?_ 0 _ rfl; (with_reducible repeat (first | refine blk_drewN ?_ _ | refine blk_drew ?_ | refine blk_alloc ?_ _)); exact BK662.out)⟩, ⟨Z74.z3⟩⟩
 case round =>
  clear H'
  try clear p2
  try clear c5
  try clear c7
  obtain ⟨x6_1, x663003_1, u663003, rfl, HA, HK1, HO_663003, BK654, BK655, BK662, HB⟩ := hrel
  cases gk with
  | zero => exact absurd HA.out (by simp [spec_l03Scale.l0])
  | succ k1 =>
   have H := HA.out
   clear HA
   simp only [spec_l03Scale.l0] at H
   by_cases c15 : x6_1 < (l0_3.length : Int)
   ·rw [if_pos c15] at H
    have c15b0 : decide (x6_1 < (l0_3.length : Int)) = true := decide_eq_true c15
    clear c15
    by_cases c16 : 0 ≤ x6_1
    ·rw [if_pos c16] at H
     have c16b0 : decide (0 ≤ x6_1) = true := decide_eq_true c16
     clear c16
     replace H := Option.bind_eq_some_iff.mp H
     obtain ⟨t664, A170, H⟩ := H
     replace H : (if x6_1 < (x663003_1.length : Int) then (spec_l03Scale.l0 k1 a1 (wrap64 (x6_1 + 1)) a0_0 a0_1 a0_2 l0_3 t656 t657 t658 (x663003_1.set (x6_1 : Int).toNat t664)) else (none)) = some (r1, r2, r3, r4) := H
     have A17 := Aside0.mk A170
     clear A170
     by_cases c18 : x6_1 < (x663003_1.length : Int)
     ·rw [if_pos c18] at H
      have c18b0 : decide (x6_1 < (x663003_1.length : Int)) = true := decide_eq_true c18
      clear c18
      obtain ⟨y665, hy665⟩ : ∃ y_ : List Int, y_ = (x663003_1.set (x6_1 : Int).toNat t664) := ⟨_, rfl⟩
      replace H : (spec_l03Scale.l0 k1 a1 (wrap64 (x6_1 + 1)) a0_0 a0_1 a0_2 l0_3 t656 t657 t658 y665) = some (r1, r2, r3, r4) := by first | (rw [hy665]; with_reducible exact H) | (have H2_ := (Option.bind_some _ _).symm.trans H; rw [hy665]; with_reducible exact H2_) | (have H2_ := (Option.bind_some _ _).symm.trans H; with_reducible exact H2_) | with_reducible exact H | (rw [hy665]; exact H) | exact H
      have Ny665 := Aside0.mk hy665
      clear hy665
      have H' := Aside0.mk H
      clear H
      have hnb20 := NB654_655.out
      have hnc20 := NB655_654.out
      have hnb21 := NB654_662.out
      have hnc21 := NB662_654.out
      have hcz22_0 : wr.cell? ⟨g0_, 0, none⟩ = some (.int .i64 a0_0) := (blk_cell BK654.out 0).trans rfl
      have hcz22_1 : wr.cell? ⟨g0_, 1, none⟩ = some (.int .i64 a0_1) := (blk_cell BK654.out 1).trans rfl
      have hcz22_2 : wr.cell? ⟨g0_, 2, none⟩ = some (.int .i64 a0_2) := (blk_cell BK654.out 2).trans rfl
      have hcz22_3 : wr.cell? ⟨g0_, 3, none⟩ = some (.slice A0_3 l0_3.length c0_3) := (blk_cell BK654.out 3).trans rfl
      have hfz22_0 := blk_frozen BK654.out 0
      have hfz22_1 := blk_frozen BK654.out 1
      have hfz22_2 := blk_frozen BK654.out 2
      have hfz22_3 := blk_frozen BK654.out 3
      try go_wp2
      have n0_ := Aside0.mk (Kd.R_drew HO_663003.out)
      have n1_ := Aside0.mk (blk_drew BK654.out)
      have n2_ := Aside0.mk (blk_drew BK655.out)
      have n3_ := Aside0.mk (blk_drew BK662.out)
      have n4_ := Aside0.mk (below_drew1 HB.out)
      clear HO_663003 BK654 BK655 BK662 HB
      have HO_663003 := n0_
      have BK654 := n1_
      have BK655 := n2_
      have BK662 := n3_
      have HB := n4_
      clear n0_ n1_ n2_ n3_ n4_
      have p663 : 0 ≤ (x6_1 : Int) := of_decide_eq_true (by first | (with_reducible assumption) | assumption)
      have q663 : x6_1 < (l0_3.length : Int) := of_decide_eq_true (by first | (with_reducible assumption) | assumption)
      obtain ⟨ad663, e663, hx663_0⟩ := Kd.at_int HR0_3.out x6_1 p663 q663
      have hw663_0 := hx663_0
      cases e663
      replace hx663_0 := (HB.out.cell (World.block_lt_of_cell? w _ hx663_0)).trans hx663_0
      replace p663 := eq_true p663
      replace q663 := eq_true q663
      refine start_ (n := 19) (S := fun w' => w'.cell? ⟨gb662, 0, none⟩ = some (.int .i64 t656) ∧ w'.cell? ⟨gb662, 1, none⟩ = some (.int .i64 t657) ∧ w'.cell? ⟨gb662, 2, none⟩ = some (.int .i64 t658) ∧ w'.cell? ⟨gb662, 3, none⟩ = some (u663003) ∧ w'.cell? ⟨g0_, 0, none⟩ = some (.int .i64 a0_0) ∧ w'.cell? ⟨g0_, 1, none⟩ = some (.int .i64 a0_1) ∧ w'.cell? ⟨g0_, 2, none⟩ = some (.int .i64 a0_2) ∧ w'.cell? ⟨g0_, 3, none⟩ = some (.slice (some ad663) l0_3.length c0_3) ∧ w'.cell? (ad663.add (x6_1).toNat) = some (.int .i64 (rd l0_3 x6_1))) (ds := [18]) #[false, false, false, false, false, false, false, false, false, false, false, false, false, false, false, false, false, false, false] (by kernel_rfl) rfl rfl ⟨(blk_cell BK662.out 0).trans rfl, (blk_cell BK662.out 1).trans rfl, (blk_cell BK662.out 2).trans rfl, (blk_cell BK662.out 3).trans rfl, (blk_cell BK654.out 0).trans rfl, (blk_cell BK654.out 1).trans rfl, (blk_cell BK654.out 2).trans rfl, (blk_cell BK654.out 3).trans rfl, ((HB.out.cell (World.block_lt_of_cell? w _ hw663_0)).trans hw663_0)⟩ (fun hHeld => ?_); refine with_tabW spec_l03Scale.tab5 spec_l03Scale.bits5 (fun HT_ HW_ => ?_)
      generalize wr.drew = w23 at HO_663003 BK654 BK655 BK662 HB hx663_0 hHeld ⊢
      refine pure_ (i := 0) (N := some 29) (v := ?_) (a' := ?_) #[true, false, false, false, false, false, false, false, false, false, false, false, false, false, false, false, false, false, false] rfl rfl (any_of HT_.out (by kernel_rfl)) (fun _ _ _ h => h) (Or.inl ⟨(by rfl), ?_⟩) ?_ ?_
      rotate_left
      ·intro w'
       go_simp
       with_reducible rfl
      rotate_left
      ·exact Z74.z0
      refine pure_ (i := 2) (N := some 31) (v := ?_) (a' := ?_) #[true, false, true, false, false, false, false, false, false, false, false, false, false, false, false, false, false, false, false] rfl rfl (any_of HT_.out (by kernel_rfl)) (fun _ _ _ h => h) (Or.inl ⟨(by rfl), ?_⟩) ?_ ?_
      rotate_left
      ·intro w'
       go_simp
       with_reducible rfl
      rotate_left
      ·exact Z74.z0
      refine pure_ (i := 3) (N := some 32) (v := ?_) (a' := ?_) #[true, false, true, true, false, false, false, false, false, false, false, false, false, false, false, false, false, false, false] rfl rfl (any_of HT_.out (by kernel_rfl)) (fun _ _ _ h => h) (Or.inl ⟨(by rfl), ?_⟩) ?_ ?_
      rotate_left
      ·intro w'
       go_simp
       with_reducible rfl
      rotate_left
      ·exact Z74.z0
      refine pure_ (i := 4) (N := some 33) (v := ?_) (a' := ?_) #[true, false, true, true, true, false, false, false, false, false, false, false, false, false, false, false, false, false, false] rfl rfl (any_of HT_.out (by kernel_rfl)) (fun _ _ _ h => h) (Or.inl ⟨(by rfl), ?_⟩) ?_ ?_
      rotate_left
      ·intro w'
       go_simp
       with_reducible rfl
      rotate_left
      ·exact Z74.z0
      refine pure_ (i := 5) (N := some 34) (v := ?_) (a' := ?_) #[true, false, true, true, true, true, false, false, false, false, false, false, false, false, false, false, false, false, false] rfl rfl (any_of HT_.out (by kernel_rfl)) (fun _ _ _ h => h) (Or.inl ⟨(by rfl), ?_⟩) ?_ ?_
      rotate_left
      ·intro w'
       go_simp
       with_reducible rfl
      rotate_left
      ·exact Z74.z0
      refine pure_ (i := 7) (N := some 36) (v := ?_) (a' := ?_) #[true, false, true, true, true, true, false, true, false, false, false, false, false, false, false, false, false, false, false] rfl rfl (any_of HT_.out (by kernel_rfl)) (fun _ _ _ h => h) (Or.inl ⟨(by rfl), ?_⟩) ?_ ?_
      rotate_left
      ·intro w'
       go_simp
       with_reducible rfl
      rotate_left
      ·exact Z74.z0
      refine pure_ (i := 10) (N := some 39) (v := ?_) (a' := ?_) #[true, false, true, true, true, true, false, true, false, false, true, false, false, false, false, false, false, false, false] rfl rfl (any_of HT_.out (by kernel_rfl)) (fun _ _ _ h => h) (Or.inl ⟨(by rfl), ?_⟩) ?_ ?_
      rotate_left
      ·intro w'
       go_simp
       with_reducible rfl
      rotate_left
      ·exact Z74.z0
      refine pure_ (i := 12) (N := some 41) (v := ?_) (a' := ?_) #[true, false, true, true, true, true, false, true, false, false, true, false, true, false, false, false, false, false, false] rfl rfl (any_of HT_.out (by kernel_rfl)) (fun _ _ _ h => h) (Or.inl ⟨(by rfl), ?_⟩) ?_ ?_
      rotate_left
      ·intro w'
       go_simp
       with_reducible rfl
      rotate_left
      ·exact Z74.z0
      refine pure_ (i := 13) (N := some 42) (v := ?_) (a' := ?_) #[true, false, true, true, true, true, false, true, false, false, true, false, true, true, false, false, false, false, false] rfl rfl (any_of HT_.out (by kernel_rfl)) (fun _ _ _ h => h) (Or.inl ⟨(by rfl), ?_⟩) ?_ ?_
      rotate_left
      ·intro w'
       go_simp
       with_reducible rfl
      rotate_left
      ·exact Z74.z0
      refine pure_ (i := 14) (N := some 43) (v := ?_) (a' := ?_) #[true, false, true, true, true, true, false, true, false, false, true, false, true, true, true, false, false, false, false] rfl rfl (any_of HT_.out (by kernel_rfl)) (fun _ _ _ h => h) (Or.inl ⟨(by rfl), ?_⟩) ?_ ?_
      rotate_left
      ·intro w'
       go_simp
       with_reducible rfl
      rotate_left
      ·exact Z74.z0
      refine take_ (i := 1) (N := some 30) (v := ?_) (a' := ?_) #[true, true, true, true, true, true, false, true, false, false, true, false, true, true, true, false, false, false, false] rfl rfl (take_ofW HT_.out HW_.out (by kernel_rfl)) (fun _ _ _ h => h) (Or.inl ⟨(by rfl), ?_⟩) hHeld ?_ ?_
      rotate_left
      ·rintro w' ⟨s0, s1, s2, s3, s4, s5, s6, s7, s8⟩
       go_simp
       with_reducible rfl
      rotate_left
      ·exact Z74.z0
      refine take_ (i := 6) (N := some 35) (v := ?_) (a' := ?_) #[true, true, true, true, true, true, true, true, false, false, true, false, true, true, true, false, false, false, false] rfl rfl (take_ofW HT_.out HW_.out (by kernel_rfl)) (fun _ _ _ h => h) (Or.inl ⟨(by rfl), ?_⟩) hHeld ?_ ?_
      rotate_left
      ·rintro w' ⟨s0, s1, s2, s3, s4, s5, s6, s7, s8⟩
       go_simp
       with_reducible rfl
      rotate_left
      ·exact Z74.z0
      refine pure_ (i := 8) (N := some 37) (v := ?_) (a' := ?_) #[true, true, true, true, true, true, true, true, true, false, true, false, true, true, true, false, false, false, false] rfl rfl (any_of HT_.out (by kernel_rfl)) (fun _ _ _ h => h) (Or.inl ⟨(by rfl), ?_⟩) ?_ ?_
      rotate_left
      ·intro w'
       go_simp
       with_reducible rfl
      rotate_left
      ·exact Z74.z0
      refine take_ (i := 9) (N := some 38) (v := ?_) (a' := ?_) #[true, true, true, true, true, true, true, true, true, true, true, false, true, true, true, false, false, false, false] rfl rfl (take_ofW HT_.out HW_.out (by kernel_rfl)) (fun _ _ _ h => h) (Or.inl ⟨(by rfl), ?_⟩) hHeld ?_ ?_
      rotate_left
      ·rintro w' ⟨s0, s1, s2, s3, s4, s5, s6, s7, s8⟩
       go_simp
       with_reducible rfl
      rotate_left
      ·exact Z74.z0
      refine pure_ (i := 11) (N := some 40) (v := ?_) (a' := ?_) #[true, true, true, true, true, true, true, true, true, true, true, true, true, true, true, false, false, false, false] rfl rfl (any_of HT_.out (by kernel_rfl)) (fun _ _ _ h => h) (Or.inl ⟨(by rfl), ?_⟩) ?_ ?_
      rotate_left
      ·intro w'
       go_simp
       with_reducible rfl
      rotate_left
      ·exact Z74.z0
      refine take_ (i := 15) (N := some 44) (v := ?_) (a' := ?_) #[true, true, true, true, true, true, true, true, true, true, true, true, true, true, true, true, false, false, false] rfl rfl (take_ofW HT_.out HW_.out (by kernel_rfl)) (fun _ _ _ h => h) (Or.inl ⟨(by rfl), ?_⟩) hHeld ?_ ?_
      rotate_left
      ·rintro w' ⟨s0, s1, s2, s3, s4, s5, s6, s7, s8⟩
       go_simp
       with_reducible rfl
      rotate_left
      ·exact Z74.z0
      refine one_ (i := 16) (N := some 45) #[true, true, true, true, true, true, true, true, true, true, true, true, true, true, true, true, true, false, false] rfl rfl (one_of HT_.out (by kernel_rfl)) (by decide) (fun K hK => ?_)
      refine goes_ Try.func94 (by kernel_rfl) rfl #[.int .i64 (wrap64 ((rd l0_3 x6_1) * a1)), .int .i64 a0_0] (by rfl) rfl rfl Z74.z7 ?_
      with_reducible refine (spec_l03Mod.calls (wrap64 ((rd l0_3 x6_1) * a1)) a0_0 t664 _ A17.out).mono ?_
      rintro e w' ⟨rfl, ⟨nd, rfl⟩⟩
      refine ⟨_, rfl, ?_⟩
      have p19 : 0 ≤ (x6_1 : Int) := of_decide_eq_true (by first | (with_reducible assumption) | assumption)
      have q19 : (x6_1 : Int) < ((x663003_1.length : Int) : Int) := of_decide_eq_true (by first | (with_reducible assumption) | assumption)
      obtain ⟨go19, co19, eo19, gb19, gl19, cl19, HG19⟩ := Kd.R_form HO_663003.out (by omega)
      (first | cases eo19 | (injection eo19 with ea_ en_ ec_; (first | subst ea_ | (injection ea_ with ea_; subst ea_)); subst ec_; clear en_))
      have GB19 := Aside0.mk gb19
      have GG19 := Aside0.mk HG19
      clear gb19 gl19 HG19
      obtain ⟨hx19_0, hf19_0⟩ := Kd.R_celln 0 HO_663003.out (x6_1 : Int) p19 q19
      replace p19 := eq_true p19
      replace q19 := eq_true q19
      have HP24 := Kd.R_putn HO_663003.out (x6_1 : Int) t664
      rw [← Ny665.out] at HP24
      have HQ24 := Aside0.mk HP24
      clear HP24
      refine hK.out _ _ ⟨(blk_cell BK662.out 0).trans rfl, (blk_cell BK662.out 1).trans rfl, (blk_cell BK662.out 2).trans rfl, (blk_cell BK662.out 3).trans rfl, (blk_cell BK654.out 0).trans rfl, (blk_cell BK654.out 1).trans rfl, (blk_cell BK654.out 2).trans rfl, (blk_cell BK654.out 3).trans rfl, ((HB.out.cell (World.block_lt_of_cell? w _ hw663_0)).trans hw663_0)⟩ (fun hHeld => ?_)
      clear hK K
      refine norm_ (a' := ?_) ?_ ?_
      rotate_left
      ·show Act.put _ (some 45) _ = _
       simp only [Act.put, List.setIfInBounds_toArray, List.set_cons_zero, List.set_cons_succ, i64_w, i32_w]
       rfl
      refine pure_ (i := 17) (N := some 46) (v := ?_) (a' := ?_) #[true, true, true, true, true, true, true, true, true, true, true, true, true, true, true, true, true, true, false] rfl rfl (any_of HT_.out (by kernel_rfl)) (fun _ _ _ h => h) (Or.inl ⟨(by rfl), ?_⟩) ?_ ?_
      rotate_left
      ·intro w'
       go_simp
       with_reducible rfl
      rotate_left
      ·exact Z74.z0
      refine last_ (i := 18) (N := none) #[true, true, true, true, true, true, true, true, true, true, true, true, true, true, true, true, true, true, true] rfl rfl (one_of HT_.out (by kernel_rfl)) (by decide) (fun K hK => ?_)
      refine skip_ (w1 := ?_) (by rfl) rfl ?_ ?_
      rotate_left
      ·go_simp
       rfl
      refine hK.out _ _ ?_
      clear hK K
      refine done_ (done_of HT_.out (by kernel_rfl)) ?_
      try go_wp2
      go_roundg k1
      case measure => have := HK1.out; omega
      case rel => exact ⟨(wrap64 (x6_1 + 1)), (y665), (.slice (some ⟨go19, 0, none⟩) x663003_1.length co19), (by first | rfl | (simp; done) | (simp [*]; done)), H', ⟨(by have := HK1.out; omega)⟩, ⟨(by (with_reducible repeat (first | apply Kd.R_alloc | apply Kd.R_drewN | apply Kd.R_drew)); exact HQ24.out)⟩, ⟨(by (with_reducible repeat (first | refine blk_drewN ?_ _ | refine blk_drew ?_ | refine blk_alloc ?_ _)); refine blk_far ?_ (by have h_ := Kd.R_ne HO_663003.out BK654.out (by decide); intro e_; exact h_ (by rw [e_]; rfl)) _; (with_reducible repeat (first | refine blk_drewN ?_ _ | refine blk_drew ?_ | refine blk_alloc ?_ _)); exact BK654.out)⟩, ⟨(by (with_reducible repeat (first | refine blk_drewN ?_ _ | refine blk_drew ?_ | refine blk_alloc ?_ _)); refine blk_far ?_ (by have h_ := Kd.R_ne HO_663003.out BK655.out (by decide); intro e_; exact h_ (by rw [e_]; rfl)) _; (with_reducible repeat (first | refine blk_drewN ?_ _ | refine blk_drew ?_ | refine blk_alloc ?_ _)); exact BK655.out)⟩, ⟨(by (with_reducible repeat (first | refine blk_drewN ?_ _ | refine blk_drew ?_ | refine blk_alloc ?_ _)); refine blk_far ?_ (by have h_ := Kd.R_ne HO_663003.out BK662.out (by decide); intro e_; exact h_ (by rw [e_]; rfl)) _; (with_reducible repeat (first | refine blk_drewN ?_ _ | refine blk_drew ?_ | refine blk_alloc ?_ _)); exact BK662.out)⟩, ⟨(by repeat (first | (with_reducible first | exact HB.out | apply below_alloc | apply pw_below_drewN | apply below_drew1 | refine below_set ?_ GB19.out | refine below_set ?_ GE654.out | refine below_set ?_ GE655.out | refine below_set ?_ GE662.out) | exact HB.out))⟩⟩
     rw [if_neg c18] at H
     exact absurd H (by simp)
    rw [if_neg c16] at H
    exact absurd H (by simp)
   rw [if_neg c15] at H
   have c15b0 : decide (x6_1 < (l0_3.length : Int)) = false := decide_eq_false c15
   clear c15
   simp only [Option.some.injEq, Prod.mk.injEq] at H
   obtain ⟨rfl, rfl, rfl, rfl⟩ := H
   have hnb25 := NB654_655.out
   have hnc25 := NB655_654.out
   have hnb26 := NB654_662.out
   have hnc26 := NB662_654.out
   have hcz27_0 : wr.cell? ⟨g0_, 0, none⟩ = some (.int .i64 a0_0) := (blk_cell BK654.out 0).trans rfl
   have hcz27_1 : wr.cell? ⟨g0_, 1, none⟩ = some (.int .i64 a0_1) := (blk_cell BK654.out 1).trans rfl
   have hcz27_2 : wr.cell? ⟨g0_, 2, none⟩ = some (.int .i64 a0_2) := (blk_cell BK654.out 2).trans rfl
   have hcz27_3 : wr.cell? ⟨g0_, 3, none⟩ = some (.slice A0_3 l0_3.length c0_3) := (blk_cell BK654.out 3).trans rfl
   have hfz27_0 := blk_frozen BK654.out 0
   have hfz27_1 := blk_frozen BK654.out 1
   have hfz27_2 := blk_frozen BK654.out 2
   have hfz27_3 := blk_frozen BK654.out 3
   have hnb28 := NB662_655.out
   have hnc28 := NB655_662.out
   have hcz29_0 : wr.cell? ⟨gb662, 0, none⟩ = some (.int .i64 t656) := (blk_cell BK662.out 0).trans rfl
   have hcz29_1 : wr.cell? ⟨gb662, 1, none⟩ = some (.int .i64 t657) := (blk_cell BK662.out 1).trans rfl
   have hcz29_2 : wr.cell? ⟨gb662, 2, none⟩ = some (.int .i64 t658) := (blk_cell BK662.out 2).trans rfl
   have hcz29_3 : wr.cell? ⟨gb662, 3, none⟩ = some (u663003) := (blk_cell BK662.out 3).trans rfl
   have hfz29_0 := blk_frozen BK662.out 0
   have hfz29_1 := blk_frozen BK662.out 1
   have hfz29_2 := blk_frozen BK662.out 2
   have hfz29_3 := blk_frozen BK662.out 3
   have hcz30_0 : wr.cell? ⟨gb655, 0, none⟩ = some (.int .i64 0) := (blk_cell BK655.out 0).trans rfl
   have hcz30_1 : wr.cell? ⟨gb655, 1, none⟩ = some (.int .i64 0) := (blk_cell BK655.out 1).trans rfl
   have hcz30_2 : wr.cell? ⟨gb655, 2, none⟩ = some (.int .i64 0) := (blk_cell BK655.out 2).trans rfl
   have hcz30_3 : wr.cell? ⟨gb655, 3, none⟩ = some (.slice none 0 0) := (blk_cell BK655.out 3).trans rfl
   have hfz30_0 := blk_frozen BK655.out 0
   have hfz30_1 := blk_frozen BK655.out 1
   have hfz30_2 := blk_frozen BK655.out 2
   have hfz30_3 := blk_frozen BK655.out 3
   obtain ⟨Ao31, co31, eo31⟩ := Kd.R_slice HO_663003.out
   subst eo31
   go_wp2
   refine bodyPost_ret (results_cell_row rfl _ _ gb655 24 #[.int .i64 t656, .int .i64 t657, .int .i64 t658, .slice Ao31 x663003_1.length co31] (0, 0) _ rfl (by (with_reducible repeat (first | refine blk_drewN ?_ _ | refine blk_drew ?_ | refine blk_alloc ?_ _)); refine blk_put (cs := #[.int .i64 t656, .int .i64 t657, .int .i64 t658, .slice none 0 0]) ?_ 3 _ rfl; (with_reducible repeat (first | refine blk_drewN ?_ _ | refine blk_drew ?_ | refine blk_alloc ?_ _)); refine blk_put (cs := #[.int .i64 t656, .int .i64 t657, .int .i64 0, .slice none 0 0]) ?_ 2 _ rfl; (with_reducible repeat (first | refine blk_drewN ?_ _ | refine blk_drew ?_ | refine blk_alloc ?_ _)); refine blk_put (cs := #[.int .i64 t656, .int .i64 0, .int .i64 0, .slice none 0 0]) ?_ 1 _ rfl; (with_reducible repeat (first | refine blk_drewN ?_ _ | refine blk_drew ?_ | refine blk_alloc ?_ _)); refine blk_put (cs := #[.int .i64 0, .int .i64 0, .int .i64 0, .slice none 0 0]) ?_ 0 _ rfl; (with_reducible repeat (first | refine blk_drewN ?_ _ | refine blk_drew ?_ | refine blk_alloc ?_ _)); exact BK655.out) Try.underlying24 rfl (by kernel_rfl)) rfl ?_
   exact ⟨_, (by first | rfl | (simp [errW_none, errW_some] <;> rfl) | (simp [*, errW_none, errW_some] <;> rfl)), (by (with_reducible repeat (first | apply Kd.R_alloc | apply Kd.R_drewN | apply Kd.R_drew)); exact Kd.R_mono (Kd.R_far (p := ⟨gb655, 3, none⟩) (Kd.R_far (p := ⟨gb655, 2, none⟩) (Kd.R_far (p := ⟨gb655, 1, none⟩) (Kd.R_far (p := ⟨gb655, 0, none⟩) (Kd.R_types HO_663003.out BK655.out (by decide)) (fun _ hk => hk.2) (.int .i64 t656)) (fun _ hk => hk.2) (.int .i64 t657)) (fun _ hk => hk.2) (.int .i64 t658)) (fun _ hk => hk.2) (.slice Ao31 x663003_1.length co31)) (fun _ hk => trivial)), Z74.z3⟩

end Go.Proofs.Ytioooobmfcmefaa.F
end
