-- Written by gprint.py, a program of this session's that drives the kit's print, for this claim. Not trusted: checked as any text.
import Derived.Test.YtmkcangcfammnaaFx0
import Derived.Test.YtmkcangcfammnaaFx2
import Derived.Test.YtmkcangcfammnaaFx4
import Derived.Test.YtmkcangcfammnaaFx6
import Derived.Test.YtmkcangcfammnaaFx8
import Derived.Test.YtmkcangcfammnaaFx10
namespace Go.Proofs.Ytmkcangcfammnaa.F
open Go.RowKit Go.Proofs.YtmkcangcfammnaaW.PrintWords Go.Proofs.YtmkcangcfammnaaW.PrintLast Go.Proofs.YtmkcangcfammnaaW.PrintMore
attribute [local go_sem] max2_int min2_int max_two min_two max_three min_three max_four min_four   -- for this text's walks alone
set_option linter.unusedVariables false
set_option linter.unusedSimpArgs false

/-! ### laws_FnExactSameMatrix: function 5 -/
def laws_FnExactSameMatrix.f (k : Nat) (a0_0 : Int) (a0_1 : Int) (a0_2 : Int) (l0_3 : List Int) (a1_0 : Int) (a1_1 : Int) (a1_2 : Int) (l1_3 : List Int) : Option (Bool) := (laws_szMatrix.f a0_0 a0_1 a0_2 l0_3 1048576).bind fun t103 => (if t103 < 0 then (some true) else ((laws_szMatrix.f a1_0 a1_1 a1_2 l1_3 t103).bind fun t104 => (if t104 < 0 then (some true) else ((laws_toMatrix.f k a0_0 a0_1 a0_2 l0_3).bind fun bt105 => ((laws_toMatrix.f k a1_0 a1_1 a1_2 l1_3).bind fun bt111 => ((spec_SameMatrix.f k bt105.1 bt105.2.1 bt105.2.2.1 bt105.2.2.2 bt111.1 bt111.2.1 bt111.2.2.1 bt111.2.2.2).bind fun t117 => ((laws_toMatrix.f k a0_0 a0_1 a0_2 l0_3).bind fun bt118 => ((laws_toMatrix.f k a1_0 a1_1 a1_2 l1_3).bind fun bt125 => ((impl_SameMatrix.f k bt118.1 bt118.2.1 bt118.2.2.1 bt118.2.2.2 bt125.1 bt125.2.1 bt125.2.2.1 bt125.2.2.2).bind fun t132 => (if (t132 != t117) = true then (some false) else ((laws_toMatrix.f k a0_0 a0_1 a0_2 l0_3).bind fun bt133 => ((laws_eqMatrix.f k bt118.1 bt118.2.1 bt118.2.2.1 bt118.2.2.2 bt133.1 bt133.2.1 bt133.2.2.1 bt133.2.2.2).bind fun t139 => (if t139 = true then ((laws_toMatrix.f k a1_0 a1_1 a1_2 l1_3).bind fun bt140 => ((laws_eqMatrix.f k bt125.1 bt125.2.1 bt125.2.2.1 bt125.2.2.2 bt140.1 bt140.2.1 bt140.2.2.1 bt140.2.2.2).bind fun t146 => (if t146 = true then (some true) else (some false)))) else (some false))))))))))))))
theorem laws_FnExactSameMatrix.mono : ∀ a0 a1 a2 a3 a4 a5 a6 a7 k, LeO (laws_FnExactSameMatrix.f k a0 a1 a2 a3 a4 a5 a6 a7) (laws_FnExactSameMatrix.f (k + 1) a0 a1 a2 a3 a4 a5 a6 a7) := by
  intro a0 a1 a2 a3 a4 a5 a6 a7 k
  unfold laws_FnExactSameMatrix.f
  repeat' first
      | (with_reducible exact impl_SameMatrix.mono _ _ _ _ _ _ _ _ _)
      | (with_reducible exact laws_eqMatrix.mono _ _ _ _ _ _ _ _ _)
      | (with_reducible exact laws_toMatrix.mono _ _ _ _ _)
      | (with_reducible exact spec_SameMatrix.mono _ _ _ _ _ _ _ _ _)
      | (with_reducible exact LeO.refl _)
      | (with_reducible exact LeO.none _)
      | (with_reducible refine LeO.ite ?_ ?_)
      | (with_reducible refine LeO.bind ?_ (fun _ => ?_))
      | exact impl_SameMatrix.mono _ _ _ _ _ _ _ _ _
      | exact laws_eqMatrix.mono _ _ _ _ _ _ _ _ _
      | exact laws_toMatrix.mono _ _ _ _ _
      | exact spec_SameMatrix.mono _ _ _ _ _ _ _ _ _
      | exact LeO.none _
      | refine LeO.ite ?_ ?_
      | refine LeO.bind ?_ (fun _ => ?_)
theorem Z5.bb {w0 w w1 : World} {g : Nat} {o : Obj} (_B : Aside0 (w0.heap[g]? = some o)) (h : w.heap[g]? = some o) (hb : Below w.heap.size w w1) : w1.heap[g]? = some o := blk_below h hb
theorem Z5.bl {w0 w : World} {g : Nat} {o : Obj} (_B : Aside0 (w0.heap[g]? = some o)) (h : w.heap[g]? = some o) : g < w.heap.size := blk_lt h
theorem Z5.z60 {P : Prop} (h : P := by rw [hg]; exact (below_size Z5.z12)) : P := h
theorem Z5.z59 {P : Prop} (h : P := by rw [hg]; exact (below_size Z5.z16)) : P := h
theorem Z5.z58 {P : Prop} (h : P := by repeat (first | exact (Kd.R_reads' HO130.out).2.2 | (with_reducible refine Kd.C_alloc ?_ _) | (with_reducible refine Kd.C_drewN ?_ _) | (with_reducible refine Kd.C_drew ?_))) : P := h
theorem Z5.z57 {P : Prop} (h : P := by repeat (first | exact (Kd.R_reads' HO145.out).2.2 | (with_reducible refine Kd.C_alloc ?_ _) | (with_reducible refine Kd.C_drewN ?_ _) | (with_reducible refine Kd.C_drew ?_))) : P := h
theorem Z5.z56 {P : Prop} (h : P := by rw [hg]; exact Nat.ne_of_gt (Z5.bl BK102 Z5.z2)) : P := h
theorem Z5.z55 {P : Prop} (h : P := by rw [hg]; exact Nat.ne_of_lt (Z5.bl BK102 Z5.z2)) : P := h
theorem Z5.z54 {P : Prop} (h : P := by repeat (first | exact (Kd.R_reads' HO123.out).2.2 | (with_reducible refine Kd.C_alloc ?_ _) | (with_reducible refine Kd.C_drewN ?_ _) | (with_reducible refine Kd.C_drew ?_))) : P := h
theorem Z5.z53 {P : Prop} (h : P := by repeat (first | exact (Kd.R_reads' HO138.out).2.2 | (with_reducible refine Kd.C_alloc ?_ _) | (with_reducible refine Kd.C_drewN ?_ _) | (with_reducible refine Kd.C_drew ?_))) : P := h
theorem Z5.z52 {P : Prop} (h : P := by rw [hg]; exact Nat.ne_of_gt (Z5.bl BK101 Z5.z1)) : P := h
theorem Z5.z51 {P : Prop} (h : P := by rw [hg]; exact Nat.ne_of_lt (Z5.bl BK101 Z5.z1)) : P := h
theorem Z5.z50 {P : Prop} (h : P := by first | rfl | (simp [errW_none, errW_some] <;> rfl) | (simp [*, errW_none, errW_some] <;> rfl)) : P := h
theorem Z5.z49 {P : Prop} (h : P := by (repeat (first | (with_reducible first | refine blk_drewN ?_ _ | refine blk_drew ?_ | refine blk_alloc ?_ _) | refine blk_far ?_ NB101_124.out _)); exact BK101.out) : P := h
theorem Z5.z48 {P : Prop} (h : P := by (repeat (first | (with_reducible first | refine blk_drewN ?_ _ | refine blk_drew ?_ | refine blk_alloc ?_ _) | refine blk_far ?_ NB101_131.out _)); exact BK101.out) : P := h
theorem Z5.z47 {P : Prop} (h : P := by (repeat (first | (with_reducible first | refine blk_drewN ?_ _ | refine blk_drew ?_ | refine blk_alloc ?_ _) | refine blk_far ?_ NB102_124.out _)); exact BK102.out) : P := h
theorem Z5.z46 {P : Prop} (h : P := by (repeat (first | (with_reducible first | refine blk_drewN ?_ _ | refine blk_drew ?_ | refine blk_alloc ?_ _) | refine blk_far ?_ NB102_131.out _)); exact BK102.out) : P := h
theorem Z5.z45 {P : Prop} (h : P := by (repeat (first | (with_reducible first | refine blk_drewN ?_ _ | refine blk_drew ?_ | refine blk_alloc ?_ _) | refine blk_far ?_ NB124_131.out _)); exact BK124.out) : P := h
theorem Z5.z44 {P : Prop} (h : P := by (with_reducible repeat (first | apply Kd.R_alloc | apply Kd.R_drewN | apply Kd.R_drew)); exact (Kd.R_mono (Kd.R_far (p := ⟨gb124, 3, none⟩) (Kd.R_far (p := ⟨gb124, 2, none⟩) (Kd.R_far (p := ⟨gb124, 1, none⟩) (Kd.R_far (p := ⟨gb124, 0, none⟩) (Kd.R_types HO110.out BK124.out (by decide)) (fun _ hk => hk.2) (.int .i64 t118)) (fun _ hk => hk.2) (.int .i64 t119)) (fun _ hk => hk.2) (.int .i64 t120)) (fun _ hk => hk.2) (.slice Ao45 t121.length co45)) (fun _ h_ => h_.1))) : P := h
theorem Z5.z43 {P : Prop} (h : P := by (with_reducible repeat (first | apply Kd.R_alloc | apply Kd.R_drewN | apply Kd.R_drew)); exact (Kd.R_mono (Kd.R_far (p := ⟨gb124, 3, none⟩) (Kd.R_far (p := ⟨gb124, 2, none⟩) (Kd.R_far (p := ⟨gb124, 1, none⟩) (Kd.R_far (p := ⟨gb124, 0, none⟩) (Kd.R_types HO110.out BK124.out (by decide)) (fun _ hk => hk.2) (.int .i64 t118)) (fun _ hk => hk.2) (.int .i64 t119)) (fun _ hk => hk.2) (.int .i64 t120)) (fun _ hk => hk.2) (.slice Ao81 t121.length co81)) (fun _ h_ => h_.1))) : P := h
theorem Z5.z42 {P : Prop} (h : P := by (with_reducible repeat (first | apply Kd.R_alloc | apply Kd.R_drewN | apply Kd.R_drew)); exact (Kd.R_mono (Kd.R_far (p := ⟨gb124, 3, none⟩) (Kd.R_far (p := ⟨gb124, 2, none⟩) (Kd.R_far (p := ⟨gb124, 1, none⟩) (Kd.R_far (p := ⟨gb124, 0, none⟩) (Kd.R_types HO116.out BK124.out (by decide)) (fun _ hk => hk.2) (.int .i64 t118)) (fun _ hk => hk.2) (.int .i64 t119)) (fun _ hk => hk.2) (.int .i64 t120)) (fun _ hk => hk.2) (.slice Ao45 t121.length co45)) (fun _ h_ => h_.1))) : P := h
theorem Z5.z41 {P : Prop} (h : P := by (with_reducible repeat (first | apply Kd.R_alloc | apply Kd.R_drewN | apply Kd.R_drew)); exact (Kd.R_mono (Kd.R_far (p := ⟨gb124, 3, none⟩) (Kd.R_far (p := ⟨gb124, 2, none⟩) (Kd.R_far (p := ⟨gb124, 1, none⟩) (Kd.R_far (p := ⟨gb124, 0, none⟩) (Kd.R_types HO116.out BK124.out (by decide)) (fun _ hk => hk.2) (.int .i64 t118)) (fun _ hk => hk.2) (.int .i64 t119)) (fun _ hk => hk.2) (.int .i64 t120)) (fun _ hk => hk.2) (.slice Ao81 t121.length co81)) (fun _ h_ => h_.1))) : P := h
theorem Z5.z40 {P : Prop} (h : P := by (with_reducible repeat (first | apply Kd.R_alloc | apply Kd.R_drewN | apply Kd.R_drew)); exact (Kd.R_mono (Kd.R_far (p := ⟨gb124, 3, none⟩) (Kd.R_far (p := ⟨gb124, 2, none⟩) (Kd.R_far (p := ⟨gb124, 1, none⟩) (Kd.R_far (p := ⟨gb124, 0, none⟩) (Kd.R_types HO123.out BK124.out (by decide)) (fun _ hk => hk.2) (.int .i64 t118)) (fun _ hk => hk.2) (.int .i64 t119)) (fun _ hk => hk.2) (.int .i64 t120)) (fun _ hk => hk.2) (.slice Ao45 t121.length co45)) (fun _ h_ => h_.1))) : P := h
theorem Z5.z39 {P : Prop} (h : P := by (with_reducible repeat (first | apply Kd.R_alloc | apply Kd.R_drewN | apply Kd.R_drew)); exact (Kd.R_mono (Kd.R_far (p := ⟨gb124, 3, none⟩) (Kd.R_far (p := ⟨gb124, 2, none⟩) (Kd.R_far (p := ⟨gb124, 1, none⟩) (Kd.R_far (p := ⟨gb124, 0, none⟩) (Kd.R_types HO123.out BK124.out (by decide)) (fun _ hk => hk.2) (.int .i64 t118)) (fun _ hk => hk.2) (.int .i64 t119)) (fun _ hk => hk.2) (.int .i64 t120)) (fun _ hk => hk.2) (.slice Ao81 t121.length co81)) (fun _ h_ => h_.1))) : P := h
theorem Z5.z38 {P : Prop} (h : P := by (with_reducible repeat (first | apply Kd.R_alloc | apply Kd.R_drewN | apply Kd.R_drew)); exact (Kd.R_mono (Kd.R_far (p := ⟨gb131, 3, none⟩) (Kd.R_far (p := ⟨gb131, 2, none⟩) (Kd.R_far (p := ⟨gb131, 1, none⟩) (Kd.R_far (p := ⟨gb131, 0, none⟩) (Kd.R_types HO123.out BK131.out (by decide)) (fun _ hk => hk.2) (.int .i64 t125)) (fun _ hk => hk.2) (.int .i64 t126)) (fun _ hk => hk.2) (.int .i64 t127)) (fun _ hk => hk.2) (.slice Ao53 t128.length co53)) (fun _ h_ => h_.1))) : P := h
theorem Z5.z37 {P : Prop} (h : P := by (with_reducible repeat (first | apply Kd.R_alloc | apply Kd.R_drewN | apply Kd.R_drew)); exact (Kd.R_mono (Kd.R_far (p := ⟨gb131, 3, none⟩) (Kd.R_far (p := ⟨gb131, 2, none⟩) (Kd.R_far (p := ⟨gb131, 1, none⟩) (Kd.R_far (p := ⟨gb131, 0, none⟩) (Kd.R_types HO123.out BK131.out (by decide)) (fun _ hk => hk.2) (.int .i64 t125)) (fun _ hk => hk.2) (.int .i64 t126)) (fun _ hk => hk.2) (.int .i64 t127)) (fun _ hk => hk.2) (.slice Ao89 t128.length co89)) (fun _ h_ => h_.1))) : P := h
theorem Z5.z36 {P : Prop} (h : P := by (with_reducible repeat (first | apply Kd.R_alloc | apply Kd.R_drewN | apply Kd.R_drew)); exact (Kd.R_mono (Kd.R_far (p := ⟨gb131, 3, none⟩) (Kd.R_far (p := ⟨gb131, 2, none⟩) (Kd.R_far (p := ⟨gb131, 1, none⟩) (Kd.R_far (p := ⟨gb131, 0, none⟩) (Kd.R_types HO130.out BK131.out (by decide)) (fun _ hk => hk.2) (.int .i64 t125)) (fun _ hk => hk.2) (.int .i64 t126)) (fun _ hk => hk.2) (.int .i64 t127)) (fun _ hk => hk.2) (.slice Ao53 t128.length co53)) (fun _ h_ => h_.1))) : P := h
theorem Z5.z35 {P : Prop} (h : P := by (with_reducible repeat (first | apply Kd.R_alloc | apply Kd.R_drewN | apply Kd.R_drew)); exact (Kd.R_mono (Kd.R_far (p := ⟨gb131, 3, none⟩) (Kd.R_far (p := ⟨gb131, 2, none⟩) (Kd.R_far (p := ⟨gb131, 1, none⟩) (Kd.R_far (p := ⟨gb131, 0, none⟩) (Kd.R_types HO130.out BK131.out (by decide)) (fun _ hk => hk.2) (.int .i64 t125)) (fun _ hk => hk.2) (.int .i64 t126)) (fun _ hk => hk.2) (.int .i64 t127)) (fun _ hk => hk.2) (.slice Ao89 t128.length co89)) (fun _ h_ => h_.1))) : P := h
theorem Z5.z34 {P : Prop} (h : P := by (with_reducible repeat (first | apply Kd.R_alloc | apply Kd.R_drewN | apply Kd.R_drew)); exact (Kd.R_mono (Kd.R_far (p := ⟨gb124, 3, none⟩) (Kd.R_far (p := ⟨gb124, 2, none⟩) (Kd.R_far (p := ⟨gb124, 1, none⟩) (Kd.R_far (p := ⟨gb124, 0, none⟩) (Kd.R_types HO110.out BK124.out (by decide)) (fun _ hk => hk.2) (.int .i64 t118)) (fun _ hk => hk.2) (.int .i64 t119)) (fun _ hk => hk.2) (.int .i64 t120)) (fun _ hk => hk.2) (.slice Ao119 t121.length co119)) (fun _ h_ => h_.1))) : P := h
theorem Z5.z33 {P : Prop} (h : P := by (with_reducible repeat (first | apply Kd.R_alloc | apply Kd.R_drewN | apply Kd.R_drew)); exact (Kd.R_mono (Kd.R_far (p := ⟨gb124, 3, none⟩) (Kd.R_far (p := ⟨gb124, 2, none⟩) (Kd.R_far (p := ⟨gb124, 1, none⟩) (Kd.R_far (p := ⟨gb124, 0, none⟩) (Kd.R_types HO110.out BK124.out (by decide)) (fun _ hk => hk.2) (.int .i64 t118)) (fun _ hk => hk.2) (.int .i64 t119)) (fun _ hk => hk.2) (.int .i64 t120)) (fun _ hk => hk.2) (.slice Ao157 t121.length co157)) (fun _ h_ => h_.1))) : P := h
theorem Z5.z32 {P : Prop} (h : P := by (with_reducible repeat (first | apply Kd.R_alloc | apply Kd.R_drewN | apply Kd.R_drew)); exact (Kd.R_mono (Kd.R_far (p := ⟨gb124, 3, none⟩) (Kd.R_far (p := ⟨gb124, 2, none⟩) (Kd.R_far (p := ⟨gb124, 1, none⟩) (Kd.R_far (p := ⟨gb124, 0, none⟩) (Kd.R_types HO116.out BK124.out (by decide)) (fun _ hk => hk.2) (.int .i64 t118)) (fun _ hk => hk.2) (.int .i64 t119)) (fun _ hk => hk.2) (.int .i64 t120)) (fun _ hk => hk.2) (.slice Ao119 t121.length co119)) (fun _ h_ => h_.1))) : P := h
theorem Z5.z31 {P : Prop} (h : P := by (with_reducible repeat (first | apply Kd.R_alloc | apply Kd.R_drewN | apply Kd.R_drew)); exact (Kd.R_mono (Kd.R_far (p := ⟨gb124, 3, none⟩) (Kd.R_far (p := ⟨gb124, 2, none⟩) (Kd.R_far (p := ⟨gb124, 1, none⟩) (Kd.R_far (p := ⟨gb124, 0, none⟩) (Kd.R_types HO116.out BK124.out (by decide)) (fun _ hk => hk.2) (.int .i64 t118)) (fun _ hk => hk.2) (.int .i64 t119)) (fun _ hk => hk.2) (.int .i64 t120)) (fun _ hk => hk.2) (.slice Ao157 t121.length co157)) (fun _ h_ => h_.1))) : P := h
theorem Z5.z30 {P : Prop} (h : P := by (with_reducible repeat (first | apply Kd.R_alloc | apply Kd.R_drewN | apply Kd.R_drew)); exact (Kd.R_mono (Kd.R_far (p := ⟨gb124, 3, none⟩) (Kd.R_far (p := ⟨gb124, 2, none⟩) (Kd.R_far (p := ⟨gb124, 1, none⟩) (Kd.R_far (p := ⟨gb124, 0, none⟩) (Kd.R_types HO123.out BK124.out (by decide)) (fun _ hk => hk.2) (.int .i64 t118)) (fun _ hk => hk.2) (.int .i64 t119)) (fun _ hk => hk.2) (.int .i64 t120)) (fun _ hk => hk.2) (.slice Ao119 t121.length co119)) (fun _ h_ => h_.1))) : P := h
theorem Z5.z29 {P : Prop} (h : P := by (with_reducible repeat (first | apply Kd.R_alloc | apply Kd.R_drewN | apply Kd.R_drew)); exact (Kd.R_mono (Kd.R_far (p := ⟨gb124, 3, none⟩) (Kd.R_far (p := ⟨gb124, 2, none⟩) (Kd.R_far (p := ⟨gb124, 1, none⟩) (Kd.R_far (p := ⟨gb124, 0, none⟩) (Kd.R_types HO123.out BK124.out (by decide)) (fun _ hk => hk.2) (.int .i64 t118)) (fun _ hk => hk.2) (.int .i64 t119)) (fun _ hk => hk.2) (.int .i64 t120)) (fun _ hk => hk.2) (.slice Ao157 t121.length co157)) (fun _ h_ => h_.1))) : P := h
theorem Z5.z28 {P : Prop} (h : P := by (with_reducible repeat (first | apply Kd.R_alloc | apply Kd.R_drewN | apply Kd.R_drew)); exact (Kd.R_mono (Kd.R_far (p := ⟨gb131, 3, none⟩) (Kd.R_far (p := ⟨gb131, 2, none⟩) (Kd.R_far (p := ⟨gb131, 1, none⟩) (Kd.R_far (p := ⟨gb131, 0, none⟩) (Kd.R_types HO123.out BK131.out (by decide)) (fun _ hk => hk.2) (.int .i64 t125)) (fun _ hk => hk.2) (.int .i64 t126)) (fun _ hk => hk.2) (.int .i64 t127)) (fun _ hk => hk.2) (.slice Ao127 t128.length co127)) (fun _ h_ => h_.1))) : P := h
theorem Z5.z27 {P : Prop} (h : P := by (with_reducible repeat (first | apply Kd.R_alloc | apply Kd.R_drewN | apply Kd.R_drew)); exact (Kd.R_mono (Kd.R_far (p := ⟨gb131, 3, none⟩) (Kd.R_far (p := ⟨gb131, 2, none⟩) (Kd.R_far (p := ⟨gb131, 1, none⟩) (Kd.R_far (p := ⟨gb131, 0, none⟩) (Kd.R_types HO123.out BK131.out (by decide)) (fun _ hk => hk.2) (.int .i64 t125)) (fun _ hk => hk.2) (.int .i64 t126)) (fun _ hk => hk.2) (.int .i64 t127)) (fun _ hk => hk.2) (.slice Ao165 t128.length co165)) (fun _ h_ => h_.1))) : P := h
theorem Z5.z26 {P : Prop} (h : P := by (with_reducible repeat (first | apply Kd.R_alloc | apply Kd.R_drewN | apply Kd.R_drew)); exact (Kd.R_mono (Kd.R_far (p := ⟨gb131, 3, none⟩) (Kd.R_far (p := ⟨gb131, 2, none⟩) (Kd.R_far (p := ⟨gb131, 1, none⟩) (Kd.R_far (p := ⟨gb131, 0, none⟩) (Kd.R_types HO130.out BK131.out (by decide)) (fun _ hk => hk.2) (.int .i64 t125)) (fun _ hk => hk.2) (.int .i64 t126)) (fun _ hk => hk.2) (.int .i64 t127)) (fun _ hk => hk.2) (.slice Ao127 t128.length co127)) (fun _ h_ => h_.1))) : P := h
theorem Z5.z25 {P : Prop} (h : P := by (with_reducible repeat (first | apply Kd.R_alloc | apply Kd.R_drewN | apply Kd.R_drew)); exact (Kd.R_mono (Kd.R_far (p := ⟨gb131, 3, none⟩) (Kd.R_far (p := ⟨gb131, 2, none⟩) (Kd.R_far (p := ⟨gb131, 1, none⟩) (Kd.R_far (p := ⟨gb131, 0, none⟩) (Kd.R_types HO130.out BK131.out (by decide)) (fun _ hk => hk.2) (.int .i64 t125)) (fun _ hk => hk.2) (.int .i64 t126)) (fun _ hk => hk.2) (.int .i64 t127)) (fun _ hk => hk.2) (.slice Ao165 t128.length co165)) (fun _ h_ => h_.1))) : P := h
theorem Z5.z24 {P : Prop} (h : P := by repeat (first | exact (Kd.R_reads' HO110.out).2.2 | (with_reducible refine Kd.C_alloc ?_ _) | (with_reducible refine Kd.C_drewN ?_ _) | (with_reducible refine Kd.C_drew ?_))) : P := h
theorem Z5.z23 {P : Prop} (h : P := by repeat (first | exact (Kd.R_reads' HO116.out).2.2 | (with_reducible refine Kd.C_alloc ?_ _) | (with_reducible refine Kd.C_drewN ?_ _) | (with_reducible refine Kd.C_drew ?_))) : P := h
theorem Z5.z22 {P : Prop} (h : P := by (with_reducible repeat (first | apply Kd.R_alloc | apply Kd.R_drewN | apply Kd.R_drew)); exact HO138.out) : P := h
theorem Z5.z21 {P : Prop} (h : P := by (with_reducible repeat (first | refine blk_drewN ?_ _ | refine blk_drew ?_ | refine blk_alloc ?_ _)); exact BK131.out) : P := h
theorem Z5.z20 {P : Prop} (h : P := by exact ⟨(blk_cell BK131.out 0).trans rfl, (blk_cell BK131.out 1).trans rfl, (blk_cell BK131.out 2).trans rfl, (blk_cell BK131.out 3).trans rfl, (blk_cell BK102.out 0).trans rfl, (blk_cell BK102.out 1).trans rfl, (blk_cell BK102.out 2).trans rfl, (blk_cell BK102.out 3).trans rfl⟩) : P := h
theorem Z5.z19 {P : Prop} (h : P := by (with_reducible repeat (first | apply Kd.R_alloc | apply Kd.R_drewN | apply Kd.R_drew)); exact HO130.out) : P := h
theorem Z5.z18 {P : Prop} (h : P := by repeat (first | exact (Kd.C_below HR1_3.out HB.out) | (with_reducible refine Kd.C_alloc ?_ _) | (with_reducible refine Kd.C_drewN ?_ _) | (with_reducible refine Kd.C_drew ?_))) : P := h
theorem Z5.z17 {P : Prop} (h : P := by (with_reducible repeat (first | apply Kd.R_alloc | apply Kd.R_drewN | apply Kd.R_drew)); exact HO123.out) : P := h
theorem Z5.z16 {P : Prop} (h : P := by repeat (first | (with_reducible first | exact HB.out | apply below_alloc | apply pw_below_drewN | apply below_drew1) | exact HB.out)) : P := h
theorem Z5.z15 {P : Prop} (h : P := by (with_reducible repeat (first | refine blk_drewN ?_ _ | refine blk_drew ?_ | refine blk_alloc ?_ _)); exact BK124.out) : P := h
theorem Z5.z14 {P : Prop} (h : P := by exact ⟨(blk_cell BK124.out 0).trans rfl, (blk_cell BK124.out 1).trans rfl, (blk_cell BK124.out 2).trans rfl, (blk_cell BK124.out 3).trans rfl, (blk_cell BK101.out 0).trans rfl, (blk_cell BK101.out 1).trans rfl, (blk_cell BK101.out 2).trans rfl, (blk_cell BK101.out 3).trans rfl⟩) : P := h
theorem Z5.z13 {P : Prop} (h : P := by simp only [Act.put, List.setIfInBounds_toArray, List.set_cons_zero, List.set_cons_succ, i64_w, i32_w]; rfl) : P := h
theorem Z5.z12 {P : Prop} (h : P := by repeat (first | (with_reducible first | exact HB.out | apply below_alloc | apply pw_below_drewN | apply below_drew1 | refine below_set ?_ GE101.out) | exact HB.out)) : P := h
theorem Z5.z11 {P : Prop} (h : P := by repeat (first | exact (Kd.C_below HR0_3.out HB.out) | (with_reducible refine Kd.C_alloc ?_ _) | (with_reducible refine Kd.C_drewN ?_ _) | (with_reducible refine Kd.C_drew ?_))) : P := h
theorem Z5.z10 {P : Prop} (h : P := by (with_reducible repeat (first | refine blk_drewN ?_ _ | refine blk_drew ?_ | refine blk_alloc ?_ _)); refine blk_put (cs := #[.int .i64 t118, .int .i64 t119, .int .i64 t120, .slice none 0 0]) ?_ 3 _ rfl; (with_reducible repeat (first | refine blk_drewN ?_ _ | refine blk_drew ?_ | refine blk_alloc ?_ _)); refine blk_put (cs := #[.int .i64 t118, .int .i64 t119, .int .i64 0, .slice none 0 0]) ?_ 2 _ rfl; (with_reducible repeat (first | refine blk_drewN ?_ _ | refine blk_drew ?_ | refine blk_alloc ?_ _)); refine blk_put (cs := #[.int .i64 t118, .int .i64 0, .int .i64 0, .slice none 0 0]) ?_ 1 _ rfl; (with_reducible repeat (first | refine blk_drewN ?_ _ | refine blk_drew ?_ | refine blk_alloc ?_ _)); refine blk_put (cs := #[.int .i64 0, .int .i64 0, .int .i64 0, .slice none 0 0]) ?_ 0 _ rfl; (with_reducible repeat (first | refine blk_drewN ?_ _ | refine blk_drew ?_ | refine blk_alloc ?_ _)); exact BK124.out) : P := h
theorem Z5.z9 {P : Prop} (h : P := by (with_reducible repeat (first | refine blk_drewN ?_ _ | refine blk_drew ?_ | refine blk_alloc ?_ _)); refine blk_put (cs := #[.int .i64 t125, .int .i64 t126, .int .i64 t127, .slice none 0 0]) ?_ 3 _ rfl; (with_reducible repeat (first | refine blk_drewN ?_ _ | refine blk_drew ?_ | refine blk_alloc ?_ _)); refine blk_put (cs := #[.int .i64 t125, .int .i64 t126, .int .i64 0, .slice none 0 0]) ?_ 2 _ rfl; (with_reducible repeat (first | refine blk_drewN ?_ _ | refine blk_drew ?_ | refine blk_alloc ?_ _)); refine blk_put (cs := #[.int .i64 t125, .int .i64 0, .int .i64 0, .slice none 0 0]) ?_ 1 _ rfl; (with_reducible repeat (first | refine blk_drewN ?_ _ | refine blk_drew ?_ | refine blk_alloc ?_ _)); refine blk_put (cs := #[.int .i64 0, .int .i64 0, .int .i64 0, .slice none 0 0]) ?_ 0 _ rfl; (with_reducible repeat (first | refine blk_drewN ?_ _ | refine blk_drew ?_ | refine blk_alloc ?_ _)); exact BK131.out) : P := h
theorem Z5.z8 {P : Prop} (h : P := by (with_reducible repeat (first | apply Kd.R_alloc | apply Kd.R_drewN | apply Kd.R_drew)); exact HO116.out) : P := h
theorem Z5.z7 {P : Prop} (h : P := by (with_reducible repeat (first | apply Kd.R_alloc | apply Kd.R_drewN | apply Kd.R_drew)); exact HO110.out) : P := h
theorem Z5.z6 {P : Prop} (h : P := by exact ⟨(blk_cell BK101.out 0).trans rfl, (blk_cell BK101.out 1).trans rfl, (blk_cell BK101.out 2).trans rfl, (blk_cell BK101.out 3).trans rfl, (blk_cell BK102.out 0).trans rfl, (blk_cell BK102.out 1).trans rfl, (blk_cell BK102.out 2).trans rfl, (blk_cell BK102.out 3).trans rfl⟩) : P := h
theorem Z5.z5 {P : Prop} (h : P := by repeat (first | (with_reducible first | exact HB.out | apply below_alloc | apply pw_below_drewN | apply below_drew1 | refine below_set ?_ GE101.out | refine below_set ?_ GE102.out | refine below_set ?_ GE124.out) | exact HB.out)) : P := h
theorem Z5.z4 {P : Prop} (h : P := by (try simp only [List.map_toArray, List.map_cons, List.map_nil]); first | done | rfl | (simp only [List.length_drop, List.length_take]; rfl)) : P := h
theorem Z5.z3 {P : Prop} (h : P := by repeat (first | (with_reducible first | exact HB.out | apply below_alloc | apply pw_below_drewN | apply below_drew1 | refine below_set ?_ GE101.out | refine below_set ?_ GE102.out | refine below_set ?_ GE124.out | refine below_set ?_ GE131.out) | exact HB.out)) : P := h
theorem Z5.z2 {P : Prop} (h : P := by (with_reducible repeat (first | refine blk_drewN ?_ _ | refine blk_drew ?_ | refine blk_alloc ?_ _)); exact BK102.out) : P := h
theorem Z5.z1 {P : Prop} (h : P := by (with_reducible repeat (first | refine blk_drewN ?_ _ | refine blk_drew ?_ | refine blk_alloc ?_ _)); exact BK101.out) : P := h
theorem Z5.z0 {P : Prop} (h : P := by repeat (first | (with_reducible first | exact HB.out | apply below_alloc | apply pw_below_drewN | apply below_drew1 | refine below_set ?_ GE101.out | refine below_set ?_ GE102.out) | exact HB.out)) : P := h
set_option maxHeartbeats 8000000 in
set_option maxRecDepth 100000 in
theorem laws_FnExactSameMatrix.calls (k : Nat) (a0_0 : Int) (a0_1 : Int) (a0_2 : Int) (A0_3 : Option Addr) (c0_3 : Nat) (l0_3 : List Int) (a1_0 : Int) (a1_1 : Int) (a1_2 : Int) (A1_3 : Option Addr) (c1_3 : Nat) (l1_3 : List Int) (r : Bool) (w : World) (hr0_3 : Kd.C (Kd.int .i64) w A0_3 l0_3.length l0_3) (hc0_3 : l0_3.length ≤ c0_3) (hr1_3 : Kd.C (Kd.int .i64) w A1_3 l1_3.length l1_3) (hc1_3 : l1_3.length ≤ c1_3) (h : laws_FnExactSameMatrix.f k a0_0 a0_1 a0_2 l0_3 a1_0 a1_1 a1_2 l1_3 = some r) :
  Calls Try.prog 5 #[.agg #[.int .i64 a0_0, .int .i64 a0_1, .int .i64 a0_2, .slice A0_3 l0_3.length c0_3], .agg #[.int .i64 a1_0, .int .i64 a1_1, .int .i64 a1_2, .slice A1_3 l1_3.length c1_3]] w fun e w' => e = .returned (.bool r) ∧ Below w.heap.size w w' := by
 have hu27 := Try.underlying27
 have hu30 := Try.underlying30
 have HR0_3 := Aside0.mk hr0_3
 have HC0_3 := Aside0.mk hc0_3
 clear hr0_3 hc0_3
 have HR1_3 := Aside0.mk hr1_3
 have HC1_3 := Aside0.mk hc1_3
 clear hr1_3 hc1_3
 have HB := Aside0.mk (Below.refl w.heap.size w)
 have H : ((laws_szMatrix.f a0_0 a0_1 a0_2 l0_3 1048576).bind fun t103 => (if t103 < 0 then (some true) else ((laws_szMatrix.f a1_0 a1_1 a1_2 l1_3 t103).bind fun t104 => (if t104 < 0 then (some true) else ((laws_toMatrix.f k a0_0 a0_1 a0_2 l0_3).bind fun bt105 => ((laws_toMatrix.f k a1_0 a1_1 a1_2 l1_3).bind fun bt111 => ((spec_SameMatrix.f k bt105.1 bt105.2.1 bt105.2.2.1 bt105.2.2.2 bt111.1 bt111.2.1 bt111.2.2.1 bt111.2.2.2).bind fun t117 => ((laws_toMatrix.f k a0_0 a0_1 a0_2 l0_3).bind fun bt118 => ((laws_toMatrix.f k a1_0 a1_1 a1_2 l1_3).bind fun bt125 => ((impl_SameMatrix.f k bt118.1 bt118.2.1 bt118.2.2.1 bt118.2.2.2 bt125.1 bt125.2.1 bt125.2.2.1 bt125.2.2.2).bind fun t132 => (if (t132 != t117) = true then (some false) else ((laws_toMatrix.f k a0_0 a0_1 a0_2 l0_3).bind fun bt133 => ((laws_eqMatrix.f k bt118.1 bt118.2.1 bt118.2.2.1 bt118.2.2.2 bt133.1 bt133.2.1 bt133.2.2.1 bt133.2.2.2).bind fun t139 => (if t139 = true then ((laws_toMatrix.f k a1_0 a1_1 a1_2 l1_3).bind fun bt140 => ((laws_eqMatrix.f k bt125.1 bt125.2.1 bt125.2.2.1 bt125.2.2.2 bt140.1 bt140.2.1 bt140.2.2.1 bt140.2.2.2).bind fun t146 => (if t146 = true then (some true) else (some false)))) else (some false))))))))))))))) = some r := h
 clear h
 replace H := Option.bind_eq_some_iff.mp H
 obtain ⟨t103, A30, H⟩ := H
 replace H : (if t103 < 0 then (some true) else ((laws_szMatrix.f a1_0 a1_1 a1_2 l1_3 t103).bind fun t104 => (if t104 < 0 then (some true) else ((laws_toMatrix.f k a0_0 a0_1 a0_2 l0_3).bind fun bt105 => ((laws_toMatrix.f k a1_0 a1_1 a1_2 l1_3).bind fun bt111 => ((spec_SameMatrix.f k bt105.1 bt105.2.1 bt105.2.2.1 bt105.2.2.2 bt111.1 bt111.2.1 bt111.2.2.1 bt111.2.2.2).bind fun t117 => ((laws_toMatrix.f k a0_0 a0_1 a0_2 l0_3).bind fun bt118 => ((laws_toMatrix.f k a1_0 a1_1 a1_2 l1_3).bind fun bt125 => ((impl_SameMatrix.f k bt118.1 bt118.2.1 bt118.2.2.1 bt118.2.2.2 bt125.1 bt125.2.1 bt125.2.2.1 bt125.2.2.2).bind fun t132 => (if (t132 != t117) = true then (some false) else ((laws_toMatrix.f k a0_0 a0_1 a0_2 l0_3).bind fun bt133 => ((laws_eqMatrix.f k bt118.1 bt118.2.1 bt118.2.2.1 bt118.2.2.2 bt133.1 bt133.2.1 bt133.2.2.1 bt133.2.2.2).bind fun t139 => (if t139 = true then ((laws_toMatrix.f k a1_0 a1_1 a1_2 l1_3).bind fun bt140 => ((laws_eqMatrix.f k bt125.1 bt125.2.1 bt125.2.2.1 bt125.2.2.2 bt140.1 bt140.2.1 bt140.2.2.1 bt140.2.2.2).bind fun t146 => (if t146 = true then (some true) else (some false)))) else (some false)))))))))))))) = some r := H
 have A3 := Aside0.mk A30
 clear A30
 by_cases c4 : t103 < 0
 ·rw [if_pos c4] at H
  have c4b0 : decide (t103 < 0) = true := decide_eq_true c4
  clear c4
  obtain rfl := Option.some.inj H
  go_enter Try.func5, Try.ntmps5
  go_wp2_with (first | ((with_reducible refine gate_dst (N := 2) rfl ?_); refine box_event ?hg (N := 2) ?hd (cs := #[.int .i64 a0_0, .int .i64 a0_1, .int .i64 a0_2, .slice A0_3 l0_3.length c0_3]) (t := 27) ?hr ?_; (case hd => rfl); (case hg => rfl); (case hr => first | (go_simp; done) | (go_simp; rfl)); intro gb101 hg w5 hbox hb; have n0_ := Aside0.mk (below_step Z5.z16 hb); have n1_ := Aside0.mk (hbox); have n2_ := Aside0.mk (show w.heap.size ≤ gb101 from Z5.z59); have n3_ := Aside0.mk (show w.heap.size ≤ gb101 from Z5.z59); clear HB; have HB := n0_; have BK101 := n1_; have GW101 := n2_; have GE101 := n3_; clear n0_ n1_ n2_ n3_; clear hb hbox hg) | ((with_reducible refine gate_dst (N := 3) rfl ?_); refine box_event ?hg (N := 3) ?hd (cs := #[.int .i64 a1_0, .int .i64 a1_1, .int .i64 a1_2, .slice A1_3 l1_3.length c1_3]) (t := 27) ?hr ?_; (case hd => rfl); (case hg => rfl); (case hr => first | (go_simp; done) | (go_simp; rfl)); intro gb102 hg w6 hbox hb; have n0_ := Aside0.mk (Z5.bb BK101 Z5.z1 hb); have n1_ := Aside0.mk (below_step Z5.z12 hb); have n2_ := Aside0.mk (hbox); have n3_ := Aside0.mk (show w.heap.size ≤ gb102 from Z5.z60); have n4_ := Aside0.mk (show w.heap.size ≤ gb102 from Z5.z60); have n5_ := Aside0.mk (show gb101 ≠ gb102 from Z5.z51); have n6_ := Aside0.mk (show gb102 ≠ gb101 from Z5.z52); clear BK101 HB; have BK101 := n0_; have HB := n1_; have BK102 := n2_; have GW102 := n3_; have GE102 := n4_; have NB101_102 := n5_; have NB102_101 := n6_; clear n0_ n1_ n2_ n3_ n4_ n5_ n6_; clear hb hbox hg; have hnb7 := NB101_102.out; have hnc7 := NB102_101.out; have hcz8_0 : w6.cell? ⟨gb101, 0, none⟩ = some (.int .i64 a0_0) := (blk_cell BK101.out 0).trans rfl; have hcz8_1 : w6.cell? ⟨gb101, 1, none⟩ = some (.int .i64 a0_1) := (blk_cell BK101.out 1).trans rfl; have hcz8_2 : w6.cell? ⟨gb101, 2, none⟩ = some (.int .i64 a0_2) := (blk_cell BK101.out 2).trans rfl; have hcz8_3 : w6.cell? ⟨gb101, 3, none⟩ = some (.slice A0_3 l0_3.length c0_3) := (blk_cell BK101.out 3).trans rfl; have hfz8_0 := blk_frozen BK101.out 0; have hfz8_1 := blk_frozen BK101.out 1; have hfz8_2 := blk_frozen BK101.out 2; have hfz8_3 := blk_frozen BK101.out 3) | ((with_reducible refine gate_callee (f := 11) rfl ?_); refine goesL_ (some 12) rfl rfl Try.func11 (by kernel_rfl) rfl #[.agg #[.int .i64 a0_0, .int .i64 a0_1, .int .i64 a0_2, .slice A0_3 l0_3.length c0_3], .int .i64 1048576] rfl Z5.z4 ?_; (with_reducible refine (laws_szMatrix.calls a0_0 a0_1 a0_2 _ _ l0_3 1048576 t103 _ ?side1 ?side2 A3.out).mono ?_); (case side1 => exact Z5.z11); (case side2 => exact HC0_3.out); rintro e w9 ⟨rfl, hb⟩; refine ⟨_, rfl, ?_⟩; have n0_ := Aside0.mk (Z5.bb BK101 Z5.z1 hb); have n1_ := Aside0.mk (Z5.bb BK102 Z5.z2 hb); have n2_ := Aside0.mk (below_step Z5.z0 hb); clear BK101 BK102 HB; have BK101 := n0_; have BK102 := n1_; have HB := n2_; clear n0_ n1_ n2_; (try clear hb); (try clear hb2); (try clear hk); (try clear hi)))
  go_ret
  exact ⟨Z5.z50, Z5.z0⟩
 rw [if_neg c4] at H
 have c4b0 : decide (t103 < 0) = false := decide_eq_false c4
 clear c4
 replace H := Option.bind_eq_some_iff.mp H
 obtain ⟨t104, A100, H⟩ := H
 replace H : (if t104 < 0 then (some true) else ((laws_toMatrix.f k a0_0 a0_1 a0_2 l0_3).bind fun bt105 => ((laws_toMatrix.f k a1_0 a1_1 a1_2 l1_3).bind fun bt111 => ((spec_SameMatrix.f k bt105.1 bt105.2.1 bt105.2.2.1 bt105.2.2.2 bt111.1 bt111.2.1 bt111.2.2.1 bt111.2.2.2).bind fun t117 => ((laws_toMatrix.f k a0_0 a0_1 a0_2 l0_3).bind fun bt118 => ((laws_toMatrix.f k a1_0 a1_1 a1_2 l1_3).bind fun bt125 => ((impl_SameMatrix.f k bt118.1 bt118.2.1 bt118.2.2.1 bt118.2.2.2 bt125.1 bt125.2.1 bt125.2.2.1 bt125.2.2.2).bind fun t132 => (if (t132 != t117) = true then (some false) else ((laws_toMatrix.f k a0_0 a0_1 a0_2 l0_3).bind fun bt133 => ((laws_eqMatrix.f k bt118.1 bt118.2.1 bt118.2.2.1 bt118.2.2.2 bt133.1 bt133.2.1 bt133.2.2.1 bt133.2.2.2).bind fun t139 => (if t139 = true then ((laws_toMatrix.f k a1_0 a1_1 a1_2 l1_3).bind fun bt140 => ((laws_eqMatrix.f k bt125.1 bt125.2.1 bt125.2.2.1 bt125.2.2.2 bt140.1 bt140.2.1 bt140.2.2.1 bt140.2.2.2).bind fun t146 => (if t146 = true then (some true) else (some false)))) else (some false)))))))))))) = some r := H
 have A10 := Aside0.mk A100
 clear A100
 by_cases c11 : t104 < 0
 ·rw [if_pos c11] at H
  have c11b0 : decide (t104 < 0) = true := decide_eq_true c11
  clear c11
  obtain rfl := Option.some.inj H
  go_enter Try.func5, Try.ntmps5
  go_wp2_with (first | ((with_reducible refine gate_dst (N := 2) rfl ?_); refine box_event ?hg (N := 2) ?hd (cs := #[.int .i64 a0_0, .int .i64 a0_1, .int .i64 a0_2, .slice A0_3 l0_3.length c0_3]) (t := 27) ?hr ?_; (case hd => rfl); (case hg => rfl); (case hr => first | (go_simp; done) | (go_simp; rfl)); intro gb101 hg w12 hbox hb; have n0_ := Aside0.mk (below_step Z5.z16 hb); have n1_ := Aside0.mk (hbox); have n2_ := Aside0.mk (show w.heap.size ≤ gb101 from Z5.z59); have n3_ := Aside0.mk (show w.heap.size ≤ gb101 from Z5.z59); clear HB; have HB := n0_; have BK101 := n1_; have GW101 := n2_; have GE101 := n3_; clear n0_ n1_ n2_ n3_; clear hb hbox hg) | ((with_reducible refine gate_dst (N := 3) rfl ?_); refine box_event ?hg (N := 3) ?hd (cs := #[.int .i64 a1_0, .int .i64 a1_1, .int .i64 a1_2, .slice A1_3 l1_3.length c1_3]) (t := 27) ?hr ?_; (case hd => rfl); (case hg => rfl); (case hr => first | (go_simp; done) | (go_simp; rfl)); intro gb102 hg w13 hbox hb; have n0_ := Aside0.mk (Z5.bb BK101 Z5.z1 hb); have n1_ := Aside0.mk (below_step Z5.z12 hb); have n2_ := Aside0.mk (hbox); have n3_ := Aside0.mk (show w.heap.size ≤ gb102 from Z5.z60); have n4_ := Aside0.mk (show w.heap.size ≤ gb102 from Z5.z60); have n5_ := Aside0.mk (show gb101 ≠ gb102 from Z5.z51); have n6_ := Aside0.mk (show gb102 ≠ gb101 from Z5.z52); clear BK101 HB; have BK101 := n0_; have HB := n1_; have BK102 := n2_; have GW102 := n3_; have GE102 := n4_; have NB101_102 := n5_; have NB102_101 := n6_; clear n0_ n1_ n2_ n3_ n4_ n5_ n6_; clear hb hbox hg; have hnb14 := NB101_102.out; have hnc14 := NB102_101.out; have hcz15_0 : w13.cell? ⟨gb101, 0, none⟩ = some (.int .i64 a0_0) := (blk_cell BK101.out 0).trans rfl; have hcz15_1 : w13.cell? ⟨gb101, 1, none⟩ = some (.int .i64 a0_1) := (blk_cell BK101.out 1).trans rfl; have hcz15_2 : w13.cell? ⟨gb101, 2, none⟩ = some (.int .i64 a0_2) := (blk_cell BK101.out 2).trans rfl; have hcz15_3 : w13.cell? ⟨gb101, 3, none⟩ = some (.slice A0_3 l0_3.length c0_3) := (blk_cell BK101.out 3).trans rfl; have hfz15_0 := blk_frozen BK101.out 0; have hfz15_1 := blk_frozen BK101.out 1; have hfz15_2 := blk_frozen BK101.out 2; have hfz15_3 := blk_frozen BK101.out 3) | ((with_reducible refine gate_callee (f := 11) rfl ?_); refine goesL_ (some 12) rfl rfl Try.func11 (by kernel_rfl) rfl #[.agg #[.int .i64 a0_0, .int .i64 a0_1, .int .i64 a0_2, .slice A0_3 l0_3.length c0_3], .int .i64 1048576] rfl Z5.z4 ?_; (with_reducible refine (laws_szMatrix.calls a0_0 a0_1 a0_2 _ _ l0_3 1048576 t103 _ ?side1 ?side2 A3.out).mono ?_); (case side1 => exact Z5.z11); (case side2 => exact HC0_3.out); rintro e w16 ⟨rfl, hb⟩; refine ⟨_, rfl, ?_⟩; have n0_ := Aside0.mk (Z5.bb BK101 Z5.z1 hb); have n1_ := Aside0.mk (Z5.bb BK102 Z5.z2 hb); have n2_ := Aside0.mk (below_step Z5.z0 hb); clear BK101 BK102 HB; have BK101 := n0_; have BK102 := n1_; have HB := n2_; clear n0_ n1_ n2_; (try clear hb); (try clear hb2); (try clear hk); (try clear hi); have hcz17_0 : w16.cell? ⟨gb102, 0, none⟩ = some (.int .i64 a1_0) := (blk_cell BK102.out 0).trans rfl; have hcz17_1 : w16.cell? ⟨gb102, 1, none⟩ = some (.int .i64 a1_1) := (blk_cell BK102.out 1).trans rfl; have hcz17_2 : w16.cell? ⟨gb102, 2, none⟩ = some (.int .i64 a1_2) := (blk_cell BK102.out 2).trans rfl; have hcz17_3 : w16.cell? ⟨gb102, 3, none⟩ = some (.slice A1_3 l1_3.length c1_3) := (blk_cell BK102.out 3).trans rfl; have hfz17_0 := blk_frozen BK102.out 0; have hfz17_1 := blk_frozen BK102.out 1; have hfz17_2 := blk_frozen BK102.out 2; have hfz17_3 := blk_frozen BK102.out 3) | ((with_reducible refine gate_callee (f := 11) rfl ?_); refine goesL_ (some 17) rfl rfl Try.func11 (by kernel_rfl) rfl #[.agg #[.int .i64 a1_0, .int .i64 a1_1, .int .i64 a1_2, .slice A1_3 l1_3.length c1_3], .int .i64 t103] rfl Z5.z4 ?_; (with_reducible refine (laws_szMatrix.calls a1_0 a1_1 a1_2 _ _ l1_3 t103 t104 _ ?side1 ?side2 A10.out).mono ?_); (case side1 => exact Z5.z18); (case side2 => exact HC1_3.out); rintro e w18 ⟨rfl, hb⟩; refine ⟨_, rfl, ?_⟩; have n0_ := Aside0.mk (Z5.bb BK101 Z5.z1 hb); have n1_ := Aside0.mk (Z5.bb BK102 Z5.z2 hb); have n2_ := Aside0.mk (below_step Z5.z0 hb); clear BK101 BK102 HB; have BK101 := n0_; have BK102 := n1_; have HB := n2_; clear n0_ n1_ n2_; (try clear hb); (try clear hb2); (try clear hk); (try clear hi)))
  go_ret
  exact ⟨Z5.z50, Z5.z0⟩
 rw [if_neg c11] at H
 have c11b0 : decide (t104 < 0) = false := decide_eq_false c11
 clear c11
 replace H := Option.bind_eq_some_iff.mp H
 obtain ⟨⟨t105, t106, t107, t108⟩, A190, H⟩ := H
 replace H : ((laws_toMatrix.f k a1_0 a1_1 a1_2 l1_3).bind fun bt111 => ((spec_SameMatrix.f k t105 t106 t107 t108 bt111.1 bt111.2.1 bt111.2.2.1 bt111.2.2.2).bind fun t117 => ((laws_toMatrix.f k a0_0 a0_1 a0_2 l0_3).bind fun bt118 => ((laws_toMatrix.f k a1_0 a1_1 a1_2 l1_3).bind fun bt125 => ((impl_SameMatrix.f k bt118.1 bt118.2.1 bt118.2.2.1 bt118.2.2.2 bt125.1 bt125.2.1 bt125.2.2.1 bt125.2.2.2).bind fun t132 => (if (t132 != t117) = true then (some false) else ((laws_toMatrix.f k a0_0 a0_1 a0_2 l0_3).bind fun bt133 => ((laws_eqMatrix.f k bt118.1 bt118.2.1 bt118.2.2.1 bt118.2.2.2 bt133.1 bt133.2.1 bt133.2.2.1 bt133.2.2.2).bind fun t139 => (if t139 = true then ((laws_toMatrix.f k a1_0 a1_1 a1_2 l1_3).bind fun bt140 => ((laws_eqMatrix.f k bt125.1 bt125.2.1 bt125.2.2.1 bt125.2.2.2 bt140.1 bt140.2.1 bt140.2.2.1 bt140.2.2.2).bind fun t146 => (if t146 = true then (some true) else (some false)))) else (some false)))))))))) = some r := H
 have A19 := Aside0.mk A190
 clear A190
 replace H := Option.bind_eq_some_iff.mp H
 obtain ⟨⟨t111, t112, t113, t114⟩, A200, H⟩ := H
 replace H : ((spec_SameMatrix.f k t105 t106 t107 t108 t111 t112 t113 t114).bind fun t117 => ((laws_toMatrix.f k a0_0 a0_1 a0_2 l0_3).bind fun bt118 => ((laws_toMatrix.f k a1_0 a1_1 a1_2 l1_3).bind fun bt125 => ((impl_SameMatrix.f k bt118.1 bt118.2.1 bt118.2.2.1 bt118.2.2.2 bt125.1 bt125.2.1 bt125.2.2.1 bt125.2.2.2).bind fun t132 => (if (t132 != t117) = true then (some false) else ((laws_toMatrix.f k a0_0 a0_1 a0_2 l0_3).bind fun bt133 => ((laws_eqMatrix.f k bt118.1 bt118.2.1 bt118.2.2.1 bt118.2.2.2 bt133.1 bt133.2.1 bt133.2.2.1 bt133.2.2.2).bind fun t139 => (if t139 = true then ((laws_toMatrix.f k a1_0 a1_1 a1_2 l1_3).bind fun bt140 => ((laws_eqMatrix.f k bt125.1 bt125.2.1 bt125.2.2.1 bt125.2.2.2 bt140.1 bt140.2.1 bt140.2.2.1 bt140.2.2.2).bind fun t146 => (if t146 = true then (some true) else (some false)))) else (some false))))))))) = some r := H
 have A20 := Aside0.mk A200
 clear A200
 replace H := Option.bind_eq_some_iff.mp H
 obtain ⟨t117, A210, H⟩ := H
 replace H : ((laws_toMatrix.f k a0_0 a0_1 a0_2 l0_3).bind fun bt118 => ((laws_toMatrix.f k a1_0 a1_1 a1_2 l1_3).bind fun bt125 => ((impl_SameMatrix.f k bt118.1 bt118.2.1 bt118.2.2.1 bt118.2.2.2 bt125.1 bt125.2.1 bt125.2.2.1 bt125.2.2.2).bind fun t132 => (if (t132 != t117) = true then (some false) else ((laws_toMatrix.f k a0_0 a0_1 a0_2 l0_3).bind fun bt133 => ((laws_eqMatrix.f k bt118.1 bt118.2.1 bt118.2.2.1 bt118.2.2.2 bt133.1 bt133.2.1 bt133.2.2.1 bt133.2.2.2).bind fun t139 => (if t139 = true then ((laws_toMatrix.f k a1_0 a1_1 a1_2 l1_3).bind fun bt140 => ((laws_eqMatrix.f k bt125.1 bt125.2.1 bt125.2.2.1 bt125.2.2.2 bt140.1 bt140.2.1 bt140.2.2.1 bt140.2.2.2).bind fun t146 => (if t146 = true then (some true) else (some false)))) else (some false)))))))) = some r := H
 have A21 := Aside0.mk A210
 clear A210
 replace H := Option.bind_eq_some_iff.mp H
 obtain ⟨⟨t118, t119, t120, t121⟩, A220, H⟩ := H
 replace H : ((laws_toMatrix.f k a1_0 a1_1 a1_2 l1_3).bind fun bt125 => ((impl_SameMatrix.f k t118 t119 t120 t121 bt125.1 bt125.2.1 bt125.2.2.1 bt125.2.2.2).bind fun t132 => (if (t132 != t117) = true then (some false) else ((laws_toMatrix.f k a0_0 a0_1 a0_2 l0_3).bind fun bt133 => ((laws_eqMatrix.f k t118 t119 t120 t121 bt133.1 bt133.2.1 bt133.2.2.1 bt133.2.2.2).bind fun t139 => (if t139 = true then ((laws_toMatrix.f k a1_0 a1_1 a1_2 l1_3).bind fun bt140 => ((laws_eqMatrix.f k bt125.1 bt125.2.1 bt125.2.2.1 bt125.2.2.2 bt140.1 bt140.2.1 bt140.2.2.1 bt140.2.2.2).bind fun t146 => (if t146 = true then (some true) else (some false)))) else (some false))))))) = some r := H
 have A22 := Aside0.mk A220
 clear A220
 replace H := Option.bind_eq_some_iff.mp H
 obtain ⟨⟨t125, t126, t127, t128⟩, A230, H⟩ := H
 replace H : ((impl_SameMatrix.f k t118 t119 t120 t121 t125 t126 t127 t128).bind fun t132 => (if (t132 != t117) = true then (some false) else ((laws_toMatrix.f k a0_0 a0_1 a0_2 l0_3).bind fun bt133 => ((laws_eqMatrix.f k t118 t119 t120 t121 bt133.1 bt133.2.1 bt133.2.2.1 bt133.2.2.2).bind fun t139 => (if t139 = true then ((laws_toMatrix.f k a1_0 a1_1 a1_2 l1_3).bind fun bt140 => ((laws_eqMatrix.f k t125 t126 t127 t128 bt140.1 bt140.2.1 bt140.2.2.1 bt140.2.2.2).bind fun t146 => (if t146 = true then (some true) else (some false)))) else (some false)))))) = some r := H
 have A23 := Aside0.mk A230
 clear A230
 replace H := Option.bind_eq_some_iff.mp H
 obtain ⟨t132, A240, H⟩ := H
 replace H : (if (t132 != t117) = true then (some false) else ((laws_toMatrix.f k a0_0 a0_1 a0_2 l0_3).bind fun bt133 => ((laws_eqMatrix.f k t118 t119 t120 t121 bt133.1 bt133.2.1 bt133.2.2.1 bt133.2.2.2).bind fun t139 => (if t139 = true then ((laws_toMatrix.f k a1_0 a1_1 a1_2 l1_3).bind fun bt140 => ((laws_eqMatrix.f k t125 t126 t127 t128 bt140.1 bt140.2.1 bt140.2.2.1 bt140.2.2.2).bind fun t146 => (if t146 = true then (some true) else (some false)))) else (some false))))) = some r := H
 have A24 := Aside0.mk A240
 clear A240
 by_cases c25 : (t132 != t117) = true
 ·rw [if_pos c25] at H
  have c25b0 : (t132 != t117) = true := c25
  (try (have c25b1 : decide (t132 = t117) = false := by simpa using c25))
  (try (have c25b2 : (t132 == t117) = false := by simpa using c25))
  (try (have c25b3 : ¬ (t132 = t117) := by simpa using c25))
  clear c25
  obtain rfl := Option.some.inj H
  go_enter Try.func5, Try.ntmps5
  try go_wp2_with (first | ((with_reducible refine gate_dst (N := 2) rfl ?_); refine box_event ?hg (N := 2) ?hd (cs := #[.int .i64 a0_0, .int .i64 a0_1, .int .i64 a0_2, .slice A0_3 l0_3.length c0_3]) (t := 27) ?hr ?_; (case hd => rfl); (case hg => rfl); (case hr => first | (go_simp; done) | (go_simp; rfl)); intro gb101 hg w26 hbox hb; have n0_ := Aside0.mk (below_step Z5.z16 hb); have n1_ := Aside0.mk (hbox); have n2_ := Aside0.mk (show w.heap.size ≤ gb101 from Z5.z59); have n3_ := Aside0.mk (show w.heap.size ≤ gb101 from Z5.z59); clear HB; have HB := n0_; have BK101 := n1_; have GW101 := n2_; have GE101 := n3_; clear n0_ n1_ n2_ n3_; clear hb hbox hg) | ((with_reducible refine gate_dst (N := 3) rfl ?_); refine box_event ?hg (N := 3) ?hd (cs := #[.int .i64 a1_0, .int .i64 a1_1, .int .i64 a1_2, .slice A1_3 l1_3.length c1_3]) (t := 27) ?hr ?_; (case hd => rfl); (case hg => rfl); (case hr => first | (go_simp; done) | (go_simp; rfl)); intro gb102 hg w27 hbox hb; have n0_ := Aside0.mk (Z5.bb BK101 Z5.z1 hb); have n1_ := Aside0.mk (below_step Z5.z12 hb); have n2_ := Aside0.mk (hbox); have n3_ := Aside0.mk (show w.heap.size ≤ gb102 from Z5.z60); have n4_ := Aside0.mk (show w.heap.size ≤ gb102 from Z5.z60); have n5_ := Aside0.mk (show gb101 ≠ gb102 from Z5.z51); have n6_ := Aside0.mk (show gb102 ≠ gb101 from Z5.z52); clear BK101 HB; have BK101 := n0_; have HB := n1_; have BK102 := n2_; have GW102 := n3_; have GE102 := n4_; have NB101_102 := n5_; have NB102_101 := n6_; clear n0_ n1_ n2_ n3_ n4_ n5_ n6_; clear hb hbox hg; have hnb28 := NB101_102.out; have hnc28 := NB102_101.out; have hcz29_0 : w27.cell? ⟨gb101, 0, none⟩ = some (.int .i64 a0_0) := (blk_cell BK101.out 0).trans rfl; have hcz29_1 : w27.cell? ⟨gb101, 1, none⟩ = some (.int .i64 a0_1) := (blk_cell BK101.out 1).trans rfl; have hcz29_2 : w27.cell? ⟨gb101, 2, none⟩ = some (.int .i64 a0_2) := (blk_cell BK101.out 2).trans rfl; have hcz29_3 : w27.cell? ⟨gb101, 3, none⟩ = some (.slice A0_3 l0_3.length c0_3) := (blk_cell BK101.out 3).trans rfl; have hfz29_0 := blk_frozen BK101.out 0; have hfz29_1 := blk_frozen BK101.out 1; have hfz29_2 := blk_frozen BK101.out 2; have hfz29_3 := blk_frozen BK101.out 3) | ((with_reducible refine gate_callee (f := 11) rfl ?_); refine goesL_ (some 12) rfl rfl Try.func11 (by kernel_rfl) rfl #[.agg #[.int .i64 a0_0, .int .i64 a0_1, .int .i64 a0_2, .slice A0_3 l0_3.length c0_3], .int .i64 1048576] rfl Z5.z4 ?_; (with_reducible refine (laws_szMatrix.calls a0_0 a0_1 a0_2 _ _ l0_3 1048576 t103 _ ?side1 ?side2 A3.out).mono ?_); (case side1 => exact Z5.z11); (case side2 => exact HC0_3.out); rintro e w30 ⟨rfl, hb⟩; refine ⟨_, rfl, ?_⟩; have n0_ := Aside0.mk (Z5.bb BK101 Z5.z1 hb); have n1_ := Aside0.mk (Z5.bb BK102 Z5.z2 hb); have n2_ := Aside0.mk (below_step Z5.z0 hb); clear BK101 BK102 HB; have BK101 := n0_; have BK102 := n1_; have HB := n2_; clear n0_ n1_ n2_; (try clear hb); (try clear hb2); (try clear hk); (try clear hi); have hcz31_0 : w30.cell? ⟨gb102, 0, none⟩ = some (.int .i64 a1_0) := (blk_cell BK102.out 0).trans rfl; have hcz31_1 : w30.cell? ⟨gb102, 1, none⟩ = some (.int .i64 a1_1) := (blk_cell BK102.out 1).trans rfl; have hcz31_2 : w30.cell? ⟨gb102, 2, none⟩ = some (.int .i64 a1_2) := (blk_cell BK102.out 2).trans rfl; have hcz31_3 : w30.cell? ⟨gb102, 3, none⟩ = some (.slice A1_3 l1_3.length c1_3) := (blk_cell BK102.out 3).trans rfl; have hfz31_0 := blk_frozen BK102.out 0; have hfz31_1 := blk_frozen BK102.out 1; have hfz31_2 := blk_frozen BK102.out 2; have hfz31_3 := blk_frozen BK102.out 3) | ((with_reducible refine gate_callee (f := 11) rfl ?_); refine goesL_ (some 17) rfl rfl Try.func11 (by kernel_rfl) rfl #[.agg #[.int .i64 a1_0, .int .i64 a1_1, .int .i64 a1_2, .slice A1_3 l1_3.length c1_3], .int .i64 t103] rfl Z5.z4 ?_; (with_reducible refine (laws_szMatrix.calls a1_0 a1_1 a1_2 _ _ l1_3 t103 t104 _ ?side1 ?side2 A10.out).mono ?_); (case side1 => exact Z5.z18); (case side2 => exact HC1_3.out); rintro e w32 ⟨rfl, hb⟩; refine ⟨_, rfl, ?_⟩; have n0_ := Aside0.mk (Z5.bb BK101 Z5.z1 hb); have n1_ := Aside0.mk (Z5.bb BK102 Z5.z2 hb); have n2_ := Aside0.mk (below_step Z5.z0 hb); clear BK101 BK102 HB; have BK101 := n0_; have BK102 := n1_; have HB := n2_; clear n0_ n1_ n2_; (try clear hb); (try clear hb2); (try clear hk); (try clear hi)))
  have n0_ := Aside0.mk (blk_drew BK101.out)
  have n1_ := Aside0.mk (blk_drew BK102.out)
  have n2_ := Aside0.mk (below_drew1 HB.out)
  clear BK101 BK102 HB
  have BK101 := n0_
  have BK102 := n1_
  have HB := n2_
  clear n0_ n1_ n2_
  refine start_ (n := 6) (S := fun w' => w'.cell? ⟨gb101, 0, none⟩ = some (.int .i64 a0_0) ∧ w'.cell? ⟨gb101, 1, none⟩ = some (.int .i64 a0_1) ∧ w'.cell? ⟨gb101, 2, none⟩ = some (.int .i64 a0_2) ∧ w'.cell? ⟨gb101, 3, none⟩ = some (.slice A0_3 l0_3.length c0_3) ∧ w'.cell? ⟨gb102, 0, none⟩ = some (.int .i64 a1_0) ∧ w'.cell? ⟨gb102, 1, none⟩ = some (.int .i64 a1_1) ∧ w'.cell? ⟨gb102, 2, none⟩ = some (.int .i64 a1_2) ∧ w'.cell? ⟨gb102, 3, none⟩ = some (.slice A1_3 l1_3.length c1_3)) (ds := []) #[false, false, false, false, false, false] (by kernel_rfl) rfl rfl Z5.z6 (fun hHeld => ?_)
  generalize w32.drew = w33 at BK101 BK102 HB hHeld ⊢
  refine take_ (i := 0) (N := some 20) (v := ?_) (a' := ?_) #[true, false, false, false, false, false] rfl rfl (by kernel_rfl) (fun _ _ _ h => h) (Or.inl ⟨(by rfl), ?_⟩) hHeld ?_ ?_
  rotate_left
  ·rintro w' ⟨s0, s1, s2, s3, s4, s5, s6, s7⟩
   go_simp
   with_reducible rfl
  rotate_left
  ·exact Z5.z13
  refine take_ (i := 2) (N := some 22) (v := ?_) (a' := ?_) #[true, false, true, false, false, false] rfl rfl (by kernel_rfl) (fun _ _ _ h => h) (Or.inl ⟨(by rfl), ?_⟩) hHeld ?_ ?_
  rotate_left
  ·rintro w' ⟨s0, s1, s2, s3, s4, s5, s6, s7⟩
   go_simp
   with_reducible rfl
  rotate_left
  ·exact Z5.z13
  refine one_ (i := 1) (N := some 21) #[true, true, true, false, false, false] rfl rfl (by kernel_rfl) (by decide) (fun K hK => ?_)
  refine goes_ Try.func13 (by kernel_rfl) rfl #[.agg #[.int .i64 a0_0, .int .i64 a0_1, .int .i64 a0_2, .slice A0_3 l0_3.length c0_3]] (by rfl) rfl rfl Z5.z4 ?_
  with_reducible refine (laws_toMatrix.calls k a0_0 a0_1 a0_2 _ _ l0_3 t105 t106 t107 t108 _ ?side1 ?side2 A19.out).mono ?_
  (case side1 => exact Z5.z11)
  (case side2 => exact HC0_3.out)
  rintro e w34 ⟨v109, rfl, ho0, hb⟩
  refine ⟨_, rfl, ?_⟩
  have n0_ := Aside0.mk (Kd.R_lower ho0 (below_size Z5.z0))
  have n1_ := Aside0.mk (Z5.bb BK101 Z5.z1 hb)
  have n2_ := Aside0.mk (Z5.bb BK102 Z5.z2 hb)
  have n3_ := Aside0.mk (below_step Z5.z0 hb)
  clear BK101 BK102 HB
  have HO110 := n0_
  have BK101 := n1_
  have BK102 := n2_
  have HB := n3_
  clear n0_ n1_ n2_ n3_
  (try clear hb)
  (try clear hb2)
  (try clear hk)
  (try clear hi)
  (try clear ho0)
  refine hK.out _ _ Z5.z6 (fun hHeld => ?_)
  clear hK K
  refine norm_ (a' := ?_) ?_ ?_
  rotate_left
  ·show Act.put _ (some 21) _ = _
   simp only [Act.put, List.setIfInBounds_toArray, List.set_cons_zero, List.set_cons_succ, i64_w, i32_w]
   rfl
  refine one_ (i := 3) (N := some 23) #[true, true, true, true, false, false] rfl rfl (by kernel_rfl) (by decide) (fun K hK => ?_)
  refine goes_ Try.func13 (by kernel_rfl) rfl #[.agg #[.int .i64 a1_0, .int .i64 a1_1, .int .i64 a1_2, .slice A1_3 l1_3.length c1_3]] (by rfl) rfl rfl Z5.z4 ?_
  with_reducible refine (laws_toMatrix.calls k a1_0 a1_1 a1_2 _ _ l1_3 t111 t112 t113 t114 _ ?side1 ?side2 A20.out).mono ?_
  (case side1 => exact Z5.z18)
  (case side2 => exact HC1_3.out)
  rintro e w35 ⟨v115, rfl, ho0, hb⟩
  refine ⟨_, rfl, ?_⟩
  have n0_ := Aside0.mk (Kd.R_elder' Z5.z7 (Kd.R_base ho0) hb)
  have n1_ := Aside0.mk (Kd.R_lower (Kd.R_new' ho0 (Kd.R_lt Z5.z7)) (below_size Z5.z0))
  have n2_ := Aside0.mk (Z5.bb BK101 Z5.z1 hb)
  have n3_ := Aside0.mk (Z5.bb BK102 Z5.z2 hb)
  have n4_ := Aside0.mk (below_step Z5.z0 hb)
  clear HO110 BK101 BK102 HB
  have HO110 := n0_
  have HO116 := n1_
  have BK101 := n2_
  have BK102 := n3_
  have HB := n4_
  clear n0_ n1_ n2_ n3_ n4_
  (try clear hb)
  (try clear hb2)
  (try clear hk)
  (try clear hi)
  (try clear ho0)
  obtain ⟨Ao36, co36, eo36⟩ := Kd.R_slice HO110.out
  (first | subst eo36 | (injection eo36 with f1_ f2_ f3_; have f4_ := f1_.symm; have f5_ := f3_.symm; clear f1_ f2_ f3_; subst f4_; subst f5_))
  obtain ⟨Ao37, co37, eo37⟩ := Kd.R_slice HO116.out
  (first | subst eo37 | (injection eo37 with f1_ f2_ f3_; have f4_ := f1_.symm; have f5_ := f3_.symm; clear f1_ f2_ f3_; subst f4_; subst f5_))
  refine hK.out _ _ Z5.z6 (fun hHeld => ?_)
  clear hK K
  refine norm_ (a' := ?_) ?_ ?_
  rotate_left
  ·show Act.put _ (some 23) _ = _
   simp only [Act.put, List.setIfInBounds_toArray, List.set_cons_zero, List.set_cons_succ, i64_w, i32_w]
   rfl
  refine one_ (i := 4) (N := some 24) #[true, true, true, true, true, false] rfl rfl (by kernel_rfl) (by decide) (fun K hK => ?_)
  refine goes_ Try.func12 (by kernel_rfl) rfl #[.agg #[.int .i64 t105, .int .i64 t106, .int .i64 t107, .slice Ao36 t108.length co36], .agg #[.int .i64 t111, .int .i64 t112, .int .i64 t113, .slice Ao37 t114.length co37]] (by rfl) rfl rfl Z5.z4 ?_
  with_reducible refine (spec_SameMatrix.calls k t105 t106 t107 _ _ t108 t111 t112 t113 _ _ t114 t117 _ ?side1 ?side2 ?side3 ?side4 A21.out).mono ?_
  (case side1 => exact Z5.z24)
  (case side2 => exact (Kd.R_reads' HO110.out).2.1)
  (case side3 => exact Z5.z23)
  (case side4 => exact (Kd.R_reads' HO116.out).2.1)
  rintro e w38 ⟨rfl, hb⟩
  refine ⟨_, rfl, ?_⟩
  have n0_ := Aside0.mk (Kd.R_below Z5.z7 hb)
  have n1_ := Aside0.mk (Kd.R_below Z5.z8 hb)
  have n2_ := Aside0.mk (Z5.bb BK101 Z5.z1 hb)
  have n3_ := Aside0.mk (Z5.bb BK102 Z5.z2 hb)
  have n4_ := Aside0.mk (below_step Z5.z0 hb)
  clear HO110 HO116 BK101 BK102 HB
  have HO110 := n0_
  have HO116 := n1_
  have BK101 := n2_
  have BK102 := n3_
  have HB := n4_
  clear n0_ n1_ n2_ n3_ n4_
  (try clear hb)
  (try clear hb2)
  (try clear hk)
  (try clear hi)
  refine hK.out _ _ Z5.z6 (fun hHeld => ?_)
  clear hK K
  refine norm_ (a' := ?_) ?_ ?_
  rotate_left
  ·show Act.put _ (some 24) _ = _
   simp only [Act.put, List.setIfInBounds_toArray, List.set_cons_zero, List.set_cons_succ, i64_w, i32_w]
   rfl
  refine pure_ (i := 5) (N := some 6) (v := ?_) (a' := ?_) #[true, true, true, true, true, true] rfl rfl (by kernel_rfl) (fun _ _ _ h => h) (Or.inl ⟨(by rfl), ?_⟩) ?_ ?_
  rotate_left
  ·intro w'
   go_simp
   with_reducible rfl
  rotate_left
  ·exact Z5.z13
  refine done_ (by kernel_rfl) ?_
  have hcz39_0 : w38.cell? ⟨gb101, 0, none⟩ = some (.int .i64 a0_0) := (blk_cell BK101.out 0).trans rfl
  have hcz39_1 : w38.cell? ⟨gb101, 1, none⟩ = some (.int .i64 a0_1) := (blk_cell BK101.out 1).trans rfl
  have hcz39_2 : w38.cell? ⟨gb101, 2, none⟩ = some (.int .i64 a0_2) := (blk_cell BK101.out 2).trans rfl
  have hcz39_3 : w38.cell? ⟨gb101, 3, none⟩ = some (.slice A0_3 l0_3.length c0_3) := (blk_cell BK101.out 3).trans rfl
  have hfz39_0 := blk_frozen BK101.out 0
  have hfz39_1 := blk_frozen BK101.out 1
  have hfz39_2 := blk_frozen BK101.out 2
  have hfz39_3 := blk_frozen BK101.out 3
  try go_wp2_with (first | ((with_reducible refine gate_callee (f := 13) rfl ?_); refine goesL_ (some 26) rfl rfl Try.func13 (by kernel_rfl) rfl #[.agg #[.int .i64 a0_0, .int .i64 a0_1, .int .i64 a0_2, .slice A0_3 l0_3.length c0_3]] rfl Z5.z4 ?_; (with_reducible refine (laws_toMatrix.calls k a0_0 a0_1 a0_2 _ _ l0_3 t118 t119 t120 t121 _ ?side1 ?side2 A22.out).mono ?_); (case side1 => exact Z5.z11); (case side2 => exact HC0_3.out); rintro e w40 ⟨v122, rfl, ho0, hb⟩; refine ⟨_, rfl, ?_⟩; have n0_ := Aside0.mk (Kd.R_elder' Z5.z7 (Kd.R_base ho0) hb); have n1_ := Aside0.mk (Kd.R_elder' Z5.z8 (Kd.R_base ho0) hb); have n2_ := Aside0.mk (Kd.R_lower (Kd.R_new' (Kd.R_new' ho0 (Kd.R_lt Z5.z7)) (Kd.R_lt Z5.z8)) (below_size Z5.z0)); have n3_ := Aside0.mk (Z5.bb BK101 Z5.z1 hb); have n4_ := Aside0.mk (Z5.bb BK102 Z5.z2 hb); have n5_ := Aside0.mk (below_step Z5.z0 hb); clear HO110 HO116 BK101 BK102 HB; have HO110 := n0_; have HO116 := n1_; have HO123 := n2_; have BK101 := n3_; have BK102 := n4_; have HB := n5_; clear n0_ n1_ n2_ n3_ n4_ n5_; (try clear hb); (try clear hb2); (try clear hk); (try clear hi); (try clear ho0)) | ((with_reducible refine gate_dst (N := 7) rfl ?_); refine box_event ?hg (N := 7) ?hd (cs := #[.int .i64 0, .int .i64 0, .int .i64 0, .slice none 0 0]) (t := 30) ?hr ?_; (case hd => rfl); (case hg => rfl); (case hr => first | (go_simp; done) | (go_simp; rfl)); intro gb124 hg w41 hbox hb; have n0_ := Aside0.mk (Kd.R_below Z5.z7 hb); have n1_ := Aside0.mk (Kd.R_below Z5.z8 hb); have n2_ := Aside0.mk (Kd.R_below Z5.z17 hb); have n3_ := Aside0.mk (Z5.bb BK101 Z5.z1 hb); have n4_ := Aside0.mk (Z5.bb BK102 Z5.z2 hb); have n5_ := Aside0.mk (below_step Z5.z0 hb); have n6_ := Aside0.mk (hbox); have n7_ := Aside0.mk (show w.heap.size ≤ gb124 from (by rw [hg]; exact (below_size Z5.z0))); have n8_ := Aside0.mk (show w.heap.size ≤ gb124 from (by rw [hg]; exact (below_size Z5.z0))); have n9_ := Aside0.mk (show gb101 ≠ gb124 from Z5.z51); have n10_ := Aside0.mk (show gb124 ≠ gb101 from Z5.z52); have n11_ := Aside0.mk (show gb102 ≠ gb124 from Z5.z55); have n12_ := Aside0.mk (show gb124 ≠ gb102 from Z5.z56); clear HO110 HO116 HO123 BK101 BK102 HB; have HO110 := n0_; have HO116 := n1_; have HO123 := n2_; have BK101 := n3_; have BK102 := n4_; have HB := n5_; have BK124 := n6_; have GW124 := n7_; have GE124 := n8_; have NB101_124 := n9_; have NB124_101 := n10_; have NB102_124 := n11_; have NB124_102 := n12_; clear n0_ n1_ n2_ n3_ n4_ n5_ n6_ n7_ n8_ n9_ n10_ n11_ n12_; clear hb hbox hg; have hnb42 := NB124_101.out; have hnc42 := NB101_124.out; have hnb43 := NB124_102.out; have hnc43 := NB102_124.out; have hcz44_0 : w41.cell? ⟨gb124, 0, none⟩ = some (.int .i64 0) := (blk_cell BK124.out 0).trans rfl; have hcz44_1 : w41.cell? ⟨gb124, 1, none⟩ = some (.int .i64 0) := (blk_cell BK124.out 1).trans rfl; have hcz44_2 : w41.cell? ⟨gb124, 2, none⟩ = some (.int .i64 0) := (blk_cell BK124.out 2).trans rfl; have hcz44_3 : w41.cell? ⟨gb124, 3, none⟩ = some (.slice none 0 0) := (blk_cell BK124.out 3).trans rfl; have hfz44_0 := blk_frozen BK124.out 0; have hfz44_1 := blk_frozen BK124.out 1; have hfz44_2 := blk_frozen BK124.out 2; have hfz44_3 := blk_frozen BK124.out 3; obtain ⟨Ao45, co45, eo45⟩ := Kd.R_slice HO123.out; subst eo45; have hcz46_0 : w41.cell? ⟨gb102, 0, none⟩ = some (.int .i64 a1_0) := (blk_cell BK102.out 0).trans rfl; have hcz46_1 : w41.cell? ⟨gb102, 1, none⟩ = some (.int .i64 a1_1) := (blk_cell BK102.out 1).trans rfl; have hcz46_2 : w41.cell? ⟨gb102, 2, none⟩ = some (.int .i64 a1_2) := (blk_cell BK102.out 2).trans rfl; have hcz46_3 : w41.cell? ⟨gb102, 3, none⟩ = some (.slice A1_3 l1_3.length c1_3) := (blk_cell BK102.out 3).trans rfl; have hfz46_0 := blk_frozen BK102.out 0; have hfz46_1 := blk_frozen BK102.out 1; have hfz46_2 := blk_frozen BK102.out 2; have hfz46_3 := blk_frozen BK102.out 3) | ((with_reducible refine gate_callee (f := 13) rfl ?_); refine goesL_ (some 28) rfl rfl Try.func13 (by kernel_rfl) rfl #[.agg #[.int .i64 a1_0, .int .i64 a1_1, .int .i64 a1_2, .slice A1_3 l1_3.length c1_3]] rfl Z5.z4 ?_; (with_reducible refine (laws_toMatrix.calls k a1_0 a1_1 a1_2 _ _ l1_3 t125 t126 t127 t128 _ ?side1 ?side2 A23.out).mono ?_); (case side1 => exact (by exact Kd.C_below HR1_3.out Z5.z5)); (case side2 => exact HC1_3.out); rintro e w47 ⟨v129, rfl, ho0, hb⟩; refine ⟨_, rfl, ?_⟩; have n0_ := Aside0.mk (Kd.R_elder' Z5.z44 (Kd.R_base ho0) hb); have n1_ := Aside0.mk (Kd.R_elder' Z5.z42 (Kd.R_base ho0) hb); have n2_ := Aside0.mk (Kd.R_elder' Z5.z40 (Kd.R_base ho0) hb); have n3_ := Aside0.mk (Kd.R_lower (Kd.R_new' (Kd.R_new' (Kd.R_new' ho0 (Kd.R_lt Z5.z44)) (Kd.R_lt Z5.z42)) (Kd.R_lt Z5.z40)) (below_size Z5.z5)); have n4_ := Aside0.mk (Z5.bb BK101 Z5.z49 hb); have n5_ := Aside0.mk (Z5.bb BK102 Z5.z47 hb); have n6_ := Aside0.mk (blk_below (g := gb124) (o := .cells #[.int .i64 t118, .int .i64 t119, .int .i64 t120, .slice Ao45 t121.length co45] 30 (0, 0)) Z5.z10 hb); have n7_ := Aside0.mk (below_step Z5.z5 hb); clear HO110 HO116 HO123 BK101 BK102 BK124 HB; have HO110 := n0_; have HO116 := n1_; have HO123 := n2_; have HO130 := n3_; have BK101 := n4_; have BK102 := n5_; have BK124 := n6_; have HB := n7_; clear n0_ n1_ n2_ n3_ n4_ n5_ n6_ n7_; (try clear hb); (try clear hb2); (try clear hk); (try clear hi); (try clear ho0)) | ((with_reducible refine gate_dst (N := 8) rfl ?_); refine box_event ?hg (N := 8) ?hd (cs := #[.int .i64 0, .int .i64 0, .int .i64 0, .slice none 0 0]) (t := 30) ?hr ?_; (case hd => rfl); (case hg => rfl); (case hr => first | (go_simp; done) | (go_simp; rfl)); intro gb131 hg w48 hbox hb; have n0_ := Aside0.mk (Kd.R_below Z5.z7 hb); have n1_ := Aside0.mk (Kd.R_below Z5.z8 hb); have n2_ := Aside0.mk (Kd.R_below Z5.z17 hb); have n3_ := Aside0.mk (Kd.R_below Z5.z19 hb); have n4_ := Aside0.mk (Z5.bb BK101 Z5.z1 hb); have n5_ := Aside0.mk (Z5.bb BK102 Z5.z2 hb); have n6_ := Aside0.mk (Z5.bb BK124 Z5.z15 hb); have n7_ := Aside0.mk (below_step Z5.z5 hb); have n8_ := Aside0.mk (hbox); have n9_ := Aside0.mk (show w.heap.size ≤ gb131 from (by rw [hg]; exact (below_size Z5.z5))); have n10_ := Aside0.mk (show w.heap.size ≤ gb131 from (by rw [hg]; exact (below_size Z5.z5))); have n11_ := Aside0.mk (show gb101 ≠ gb131 from Z5.z51); have n12_ := Aside0.mk (show gb131 ≠ gb101 from Z5.z52); have n13_ := Aside0.mk (show gb102 ≠ gb131 from Z5.z55); have n14_ := Aside0.mk (show gb131 ≠ gb102 from Z5.z56); have n15_ := Aside0.mk (show gb124 ≠ gb131 from (by rw [hg]; exact Nat.ne_of_lt (Z5.bl BK124 Z5.z15))); have n16_ := Aside0.mk (show gb131 ≠ gb124 from (by rw [hg]; exact Nat.ne_of_gt (Z5.bl BK124 Z5.z15))); clear HO110 HO116 HO123 HO130 BK101 BK102 BK124 HB; have HO110 := n0_; have HO116 := n1_; have HO123 := n2_; have HO130 := n3_; have BK101 := n4_; have BK102 := n5_; have BK124 := n6_; have HB := n7_; have BK131 := n8_; have GW131 := n9_; have GE131 := n10_; have NB101_131 := n11_; have NB131_101 := n12_; have NB102_131 := n13_; have NB131_102 := n14_; have NB124_131 := n15_; have NB131_124 := n16_; clear n0_ n1_ n2_ n3_ n4_ n5_ n6_ n7_ n8_ n9_ n10_ n11_ n12_ n13_ n14_ n15_ n16_; clear hb hbox hg; have hnb49 := NB131_101.out; have hnc49 := NB101_131.out; have hnb50 := NB131_102.out; have hnc50 := NB102_131.out; have hnb51 := NB131_124.out; have hnc51 := NB124_131.out; have hcz52_0 : w48.cell? ⟨gb131, 0, none⟩ = some (.int .i64 0) := (blk_cell BK131.out 0).trans rfl; have hcz52_1 : w48.cell? ⟨gb131, 1, none⟩ = some (.int .i64 0) := (blk_cell BK131.out 1).trans rfl; have hcz52_2 : w48.cell? ⟨gb131, 2, none⟩ = some (.int .i64 0) := (blk_cell BK131.out 2).trans rfl; have hcz52_3 : w48.cell? ⟨gb131, 3, none⟩ = some (.slice none 0 0) := (blk_cell BK131.out 3).trans rfl; have hfz52_0 := blk_frozen BK131.out 0; have hfz52_1 := blk_frozen BK131.out 1; have hfz52_2 := blk_frozen BK131.out 2; have hfz52_3 := blk_frozen BK131.out 3; obtain ⟨Ao53, co53, eo53⟩ := Kd.R_slice HO130.out; subst eo53; have hcz54_0 : w48.cell? ⟨gb124, 0, none⟩ = some (.int .i64 t118) := (blk_cell BK124.out 0).trans rfl; have hcz54_1 : w48.cell? ⟨gb124, 1, none⟩ = some (.int .i64 t119) := (blk_cell BK124.out 1).trans rfl; have hcz54_2 : w48.cell? ⟨gb124, 2, none⟩ = some (.int .i64 t120) := (blk_cell BK124.out 2).trans rfl; have hcz54_3 : w48.cell? ⟨gb124, 3, none⟩ = some (.slice Ao45 t121.length co45) := (blk_cell BK124.out 3).trans rfl; have hfz54_0 := blk_frozen BK124.out 0; have hfz54_1 := blk_frozen BK124.out 1; have hfz54_2 := blk_frozen BK124.out 2; have hfz54_3 := blk_frozen BK124.out 3) | ((with_reducible refine gate_callee (f := 14) rfl ?_); refine goesL_ (some 31) rfl rfl Try.func14 (by kernel_rfl) rfl #[.agg #[.int .i64 t118, .int .i64 t119, .int .i64 t120, .slice Ao45 t121.length co45], .agg #[.int .i64 t125, .int .i64 t126, .int .i64 t127, .slice Ao53 t128.length co53]] rfl Z5.z4 ?_; (with_reducible refine (impl_SameMatrix.calls k t118 t119 t120 _ _ t121 t125 t126 t127 _ _ t128 t132 _ ?side1 ?side2 ?side3 ?side4 A24.out).mono ?_); (case side1 => exact (by refine (Kd.R_reads' (e := 2) (base := w.heap.size) (ok := fun k_ => (((True ∧ some k_ ≠ (.slice Ao36 t108.length co36 : Value).ownBlock) ∧ some k_ ≠ (.slice Ao37 t114.length co37 : Value).ownBlock) ∧ some k_ ≠ (.slice Ao53 t128.length co53 : Value).ownBlock)) (n := t121.length) (c := co45) ?_).2.2; exact Z5.z38)); (case side2 => exact (Kd.R_reads' HO123.out).2.1); (case side3 => exact (by refine (Kd.R_reads' (e := 2) (base := w.heap.size) (ok := fun k_ => (((True ∧ some k_ ≠ (.slice Ao36 t108.length co36 : Value).ownBlock) ∧ some k_ ≠ (.slice Ao37 t114.length co37 : Value).ownBlock) ∧ some k_ ≠ (.slice Ao45 t121.length co45 : Value).ownBlock)) (n := t128.length) (c := co53) ?_).2.2; exact Z5.z36)); (case side4 => exact (Kd.R_reads' HO130.out).2.1); rintro e w55 ⟨rfl, hb⟩; refine ⟨_, rfl, ?_⟩; have n0_ := Aside0.mk (Kd.R_below (by (with_reducible repeat (first | apply Kd.R_alloc | apply Kd.R_drewN | apply Kd.R_drew)); exact (Kd.R_mono (Kd.R_far (p := ⟨gb131, 3, none⟩) (Kd.R_far (p := ⟨gb131, 2, none⟩) (Kd.R_far (p := ⟨gb131, 1, none⟩) (Kd.R_far (p := ⟨gb131, 0, none⟩) (Kd.R_types HO110.out BK131.out (by decide)) (fun _ hk => hk.2) (.int .i64 t125)) (fun _ hk => hk.2) (.int .i64 t126)) (fun _ hk => hk.2) (.int .i64 t127)) (fun _ hk => hk.2) (.slice Ao53 t128.length co53)) (fun _ h_ => h_.1))) hb); have n1_ := Aside0.mk (Kd.R_below (by (with_reducible repeat (first | apply Kd.R_alloc | apply Kd.R_drewN | apply Kd.R_drew)); exact (Kd.R_mono (Kd.R_far (p := ⟨gb131, 3, none⟩) (Kd.R_far (p := ⟨gb131, 2, none⟩) (Kd.R_far (p := ⟨gb131, 1, none⟩) (Kd.R_far (p := ⟨gb131, 0, none⟩) (Kd.R_types HO116.out BK131.out (by decide)) (fun _ hk => hk.2) (.int .i64 t125)) (fun _ hk => hk.2) (.int .i64 t126)) (fun _ hk => hk.2) (.int .i64 t127)) (fun _ hk => hk.2) (.slice Ao53 t128.length co53)) (fun _ h_ => h_.1))) hb); have n2_ := Aside0.mk (Kd.R_below Z5.z38 hb); have n3_ := Aside0.mk (Kd.R_below Z5.z36 hb); have n4_ := Aside0.mk (Z5.bb BK101 Z5.z48 hb); have n5_ := Aside0.mk (Z5.bb BK102 Z5.z46 hb); have n6_ := Aside0.mk (Z5.bb BK124 Z5.z45 hb); have n7_ := Aside0.mk (blk_below (g := gb131) (o := .cells #[.int .i64 t125, .int .i64 t126, .int .i64 t127, .slice Ao53 t128.length co53] 30 (0, 0)) Z5.z9 hb); have n8_ := Aside0.mk (below_step Z5.z3 hb); clear HO110 HO116 HO123 HO130 BK101 BK102 BK124 BK131 HB; have HO110 := n0_; have HO116 := n1_; have HO123 := n2_; have HO130 := n3_; have BK101 := n4_; have BK102 := n5_; have BK124 := n6_; have BK131 := n7_; have HB := n8_; clear n0_ n1_ n2_ n3_ n4_ n5_ n6_ n7_ n8_; (try clear hb); (try clear hb2); (try clear hk); (try clear hi)))
  go_ret
  exact ⟨Z5.z50, Z5.z3⟩
 rw [if_neg c25] at H
 have c25b0 : (t132 != t117) = false := by simpa using c25
 (try (have c25b1 : decide (t132 = t117) = true := by simpa using c25))
 (try (have c25b2 : (t132 == t117) = true := by simpa using c25))
 clear c25
 replace H := Option.bind_eq_some_iff.mp H
 obtain ⟨⟨t133, t134, t135, t136⟩, A560, H⟩ := H
 replace H : ((laws_eqMatrix.f k t118 t119 t120 t121 t133 t134 t135 t136).bind fun t139 => (if t139 = true then ((laws_toMatrix.f k a1_0 a1_1 a1_2 l1_3).bind fun bt140 => ((laws_eqMatrix.f k t125 t126 t127 t128 bt140.1 bt140.2.1 bt140.2.2.1 bt140.2.2.2).bind fun t146 => (if t146 = true then (some true) else (some false)))) else (some false))) = some r := H
 have A56 := Aside0.mk A560
 clear A560
 replace H := Option.bind_eq_some_iff.mp H
 obtain ⟨t139, A570, H⟩ := H
 replace H : (if t139 = true then ((laws_toMatrix.f k a1_0 a1_1 a1_2 l1_3).bind fun bt140 => ((laws_eqMatrix.f k t125 t126 t127 t128 bt140.1 bt140.2.1 bt140.2.2.1 bt140.2.2.2).bind fun t146 => (if t146 = true then (some true) else (some false)))) else (some false)) = some r := H
 have A57 := Aside0.mk A570
 clear A570
 by_cases c58 : t139 = true
 ·subst c58
  have H1 : ((laws_toMatrix.f k a1_0 a1_1 a1_2 l1_3).bind fun bt140 => ((laws_eqMatrix.f k t125 t126 t127 t128 bt140.1 bt140.2.1 bt140.2.2.1 bt140.2.2.2).bind fun t146 => (if t146 = true then (some true) else (some false)))) = some r := by rw [if_pos rfl] at H; exact H
  clear H
  have H := H1
  clear H1
  replace H := Option.bind_eq_some_iff.mp H
  obtain ⟨⟨t140, t141, t142, t143⟩, A590, H⟩ := H
  replace H : ((laws_eqMatrix.f k t125 t126 t127 t128 t140 t141 t142 t143).bind fun t146 => (if t146 = true then (some true) else (some false))) = some r := H
  have A59 := Aside0.mk A590
  clear A590
  replace H := Option.bind_eq_some_iff.mp H
  obtain ⟨t146, A600, H⟩ := H
  replace H : (if t146 = true then (some true) else (some false)) = some r := H
  have A60 := Aside0.mk A600
  clear A600
  by_cases c61 : t146 = true
  ·subst c61
   have H1 : (some true) = some r := by rw [if_pos rfl] at H; exact H
   clear H
   have H := H1
   clear H1
   obtain rfl := Option.some.inj H
   go_enter Try.func5, Try.ntmps5
   try go_wp2_with (first | ((with_reducible refine gate_dst (N := 2) rfl ?_); refine box_event ?hg (N := 2) ?hd (cs := #[.int .i64 a0_0, .int .i64 a0_1, .int .i64 a0_2, .slice A0_3 l0_3.length c0_3]) (t := 27) ?hr ?_; (case hd => rfl); (case hg => rfl); (case hr => first | (go_simp; done) | (go_simp; rfl)); intro gb101 hg w62 hbox hb; have n0_ := Aside0.mk (below_step Z5.z16 hb); have n1_ := Aside0.mk (hbox); have n2_ := Aside0.mk (show w.heap.size ≤ gb101 from Z5.z59); have n3_ := Aside0.mk (show w.heap.size ≤ gb101 from Z5.z59); clear HB; have HB := n0_; have BK101 := n1_; have GW101 := n2_; have GE101 := n3_; clear n0_ n1_ n2_ n3_; clear hb hbox hg) | ((with_reducible refine gate_dst (N := 3) rfl ?_); refine box_event ?hg (N := 3) ?hd (cs := #[.int .i64 a1_0, .int .i64 a1_1, .int .i64 a1_2, .slice A1_3 l1_3.length c1_3]) (t := 27) ?hr ?_; (case hd => rfl); (case hg => rfl); (case hr => first | (go_simp; done) | (go_simp; rfl)); intro gb102 hg w63 hbox hb; have n0_ := Aside0.mk (Z5.bb BK101 Z5.z1 hb); have n1_ := Aside0.mk (below_step Z5.z12 hb); have n2_ := Aside0.mk (hbox); have n3_ := Aside0.mk (show w.heap.size ≤ gb102 from Z5.z60); have n4_ := Aside0.mk (show w.heap.size ≤ gb102 from Z5.z60); have n5_ := Aside0.mk (show gb101 ≠ gb102 from Z5.z51); have n6_ := Aside0.mk (show gb102 ≠ gb101 from Z5.z52); clear BK101 HB; have BK101 := n0_; have HB := n1_; have BK102 := n2_; have GW102 := n3_; have GE102 := n4_; have NB101_102 := n5_; have NB102_101 := n6_; clear n0_ n1_ n2_ n3_ n4_ n5_ n6_; clear hb hbox hg; have hnb64 := NB101_102.out; have hnc64 := NB102_101.out; have hcz65_0 : w63.cell? ⟨gb101, 0, none⟩ = some (.int .i64 a0_0) := (blk_cell BK101.out 0).trans rfl; have hcz65_1 : w63.cell? ⟨gb101, 1, none⟩ = some (.int .i64 a0_1) := (blk_cell BK101.out 1).trans rfl; have hcz65_2 : w63.cell? ⟨gb101, 2, none⟩ = some (.int .i64 a0_2) := (blk_cell BK101.out 2).trans rfl; have hcz65_3 : w63.cell? ⟨gb101, 3, none⟩ = some (.slice A0_3 l0_3.length c0_3) := (blk_cell BK101.out 3).trans rfl; have hfz65_0 := blk_frozen BK101.out 0; have hfz65_1 := blk_frozen BK101.out 1; have hfz65_2 := blk_frozen BK101.out 2; have hfz65_3 := blk_frozen BK101.out 3) | ((with_reducible refine gate_callee (f := 11) rfl ?_); refine goesL_ (some 12) rfl rfl Try.func11 (by kernel_rfl) rfl #[.agg #[.int .i64 a0_0, .int .i64 a0_1, .int .i64 a0_2, .slice A0_3 l0_3.length c0_3], .int .i64 1048576] rfl Z5.z4 ?_; (with_reducible refine (laws_szMatrix.calls a0_0 a0_1 a0_2 _ _ l0_3 1048576 t103 _ ?side1 ?side2 A3.out).mono ?_); (case side1 => exact Z5.z11); (case side2 => exact HC0_3.out); rintro e w66 ⟨rfl, hb⟩; refine ⟨_, rfl, ?_⟩; have n0_ := Aside0.mk (Z5.bb BK101 Z5.z1 hb); have n1_ := Aside0.mk (Z5.bb BK102 Z5.z2 hb); have n2_ := Aside0.mk (below_step Z5.z0 hb); clear BK101 BK102 HB; have BK101 := n0_; have BK102 := n1_; have HB := n2_; clear n0_ n1_ n2_; (try clear hb); (try clear hb2); (try clear hk); (try clear hi); have hcz67_0 : w66.cell? ⟨gb102, 0, none⟩ = some (.int .i64 a1_0) := (blk_cell BK102.out 0).trans rfl; have hcz67_1 : w66.cell? ⟨gb102, 1, none⟩ = some (.int .i64 a1_1) := (blk_cell BK102.out 1).trans rfl; have hcz67_2 : w66.cell? ⟨gb102, 2, none⟩ = some (.int .i64 a1_2) := (blk_cell BK102.out 2).trans rfl; have hcz67_3 : w66.cell? ⟨gb102, 3, none⟩ = some (.slice A1_3 l1_3.length c1_3) := (blk_cell BK102.out 3).trans rfl; have hfz67_0 := blk_frozen BK102.out 0; have hfz67_1 := blk_frozen BK102.out 1; have hfz67_2 := blk_frozen BK102.out 2; have hfz67_3 := blk_frozen BK102.out 3) | ((with_reducible refine gate_callee (f := 11) rfl ?_); refine goesL_ (some 17) rfl rfl Try.func11 (by kernel_rfl) rfl #[.agg #[.int .i64 a1_0, .int .i64 a1_1, .int .i64 a1_2, .slice A1_3 l1_3.length c1_3], .int .i64 t103] rfl Z5.z4 ?_; (with_reducible refine (laws_szMatrix.calls a1_0 a1_1 a1_2 _ _ l1_3 t103 t104 _ ?side1 ?side2 A10.out).mono ?_); (case side1 => exact Z5.z18); (case side2 => exact HC1_3.out); rintro e w68 ⟨rfl, hb⟩; refine ⟨_, rfl, ?_⟩; have n0_ := Aside0.mk (Z5.bb BK101 Z5.z1 hb); have n1_ := Aside0.mk (Z5.bb BK102 Z5.z2 hb); have n2_ := Aside0.mk (below_step Z5.z0 hb); clear BK101 BK102 HB; have BK101 := n0_; have BK102 := n1_; have HB := n2_; clear n0_ n1_ n2_; (try clear hb); (try clear hb2); (try clear hk); (try clear hi)))
   have n0_ := Aside0.mk (blk_drew BK101.out)
   have n1_ := Aside0.mk (blk_drew BK102.out)
   have n2_ := Aside0.mk (below_drew1 HB.out)
   clear BK101 BK102 HB
   have BK101 := n0_
   have BK102 := n1_
   have HB := n2_
   clear n0_ n1_ n2_
   refine start_ (n := 6) (S := fun w' => w'.cell? ⟨gb101, 0, none⟩ = some (.int .i64 a0_0) ∧ w'.cell? ⟨gb101, 1, none⟩ = some (.int .i64 a0_1) ∧ w'.cell? ⟨gb101, 2, none⟩ = some (.int .i64 a0_2) ∧ w'.cell? ⟨gb101, 3, none⟩ = some (.slice A0_3 l0_3.length c0_3) ∧ w'.cell? ⟨gb102, 0, none⟩ = some (.int .i64 a1_0) ∧ w'.cell? ⟨gb102, 1, none⟩ = some (.int .i64 a1_1) ∧ w'.cell? ⟨gb102, 2, none⟩ = some (.int .i64 a1_2) ∧ w'.cell? ⟨gb102, 3, none⟩ = some (.slice A1_3 l1_3.length c1_3)) (ds := []) #[false, false, false, false, false, false] (by kernel_rfl) rfl rfl Z5.z6 (fun hHeld => ?_)
   generalize w68.drew = w69 at BK101 BK102 HB hHeld ⊢
   refine take_ (i := 0) (N := some 20) (v := ?_) (a' := ?_) #[true, false, false, false, false, false] rfl rfl (by kernel_rfl) (fun _ _ _ h => h) (Or.inl ⟨(by rfl), ?_⟩) hHeld ?_ ?_
   rotate_left
   ·rintro w' ⟨s0, s1, s2, s3, s4, s5, s6, s7⟩
    go_simp
    with_reducible rfl
   rotate_left
   ·exact Z5.z13
   refine take_ (i := 2) (N := some 22) (v := ?_) (a' := ?_) #[true, false, true, false, false, false] rfl rfl (by kernel_rfl) (fun _ _ _ h => h) (Or.inl ⟨(by rfl), ?_⟩) hHeld ?_ ?_
   rotate_left
   ·rintro w' ⟨s0, s1, s2, s3, s4, s5, s6, s7⟩
    go_simp
    with_reducible rfl
   rotate_left
   ·exact Z5.z13
   refine one_ (i := 1) (N := some 21) #[true, true, true, false, false, false] rfl rfl (by kernel_rfl) (by decide) (fun K hK => ?_)
   refine goes_ Try.func13 (by kernel_rfl) rfl #[.agg #[.int .i64 a0_0, .int .i64 a0_1, .int .i64 a0_2, .slice A0_3 l0_3.length c0_3]] (by rfl) rfl rfl Z5.z4 ?_
   with_reducible refine (laws_toMatrix.calls k a0_0 a0_1 a0_2 _ _ l0_3 t105 t106 t107 t108 _ ?side1 ?side2 A19.out).mono ?_
   (case side1 => exact Z5.z11)
   (case side2 => exact HC0_3.out)
   rintro e w70 ⟨v109, rfl, ho0, hb⟩
   refine ⟨_, rfl, ?_⟩
   have n0_ := Aside0.mk (Kd.R_lower ho0 (below_size Z5.z0))
   have n1_ := Aside0.mk (Z5.bb BK101 Z5.z1 hb)
   have n2_ := Aside0.mk (Z5.bb BK102 Z5.z2 hb)
   have n3_ := Aside0.mk (below_step Z5.z0 hb)
   clear BK101 BK102 HB
   have HO110 := n0_
   have BK101 := n1_
   have BK102 := n2_
   have HB := n3_
   clear n0_ n1_ n2_ n3_
   (try clear hb)
   (try clear hb2)
   (try clear hk)
   (try clear hi)
   (try clear ho0)
   refine hK.out _ _ Z5.z6 (fun hHeld => ?_)
   clear hK K
   refine norm_ (a' := ?_) ?_ ?_
   rotate_left
   ·show Act.put _ (some 21) _ = _
    simp only [Act.put, List.setIfInBounds_toArray, List.set_cons_zero, List.set_cons_succ, i64_w, i32_w]
    rfl
   refine one_ (i := 3) (N := some 23) #[true, true, true, true, false, false] rfl rfl (by kernel_rfl) (by decide) (fun K hK => ?_)
   refine goes_ Try.func13 (by kernel_rfl) rfl #[.agg #[.int .i64 a1_0, .int .i64 a1_1, .int .i64 a1_2, .slice A1_3 l1_3.length c1_3]] (by rfl) rfl rfl Z5.z4 ?_
   with_reducible refine (laws_toMatrix.calls k a1_0 a1_1 a1_2 _ _ l1_3 t111 t112 t113 t114 _ ?side1 ?side2 A20.out).mono ?_
   (case side1 => exact Z5.z18)
   (case side2 => exact HC1_3.out)
   rintro e w71 ⟨v115, rfl, ho0, hb⟩
   refine ⟨_, rfl, ?_⟩
   have n0_ := Aside0.mk (Kd.R_elder' Z5.z7 (Kd.R_base ho0) hb)
   have n1_ := Aside0.mk (Kd.R_lower (Kd.R_new' ho0 (Kd.R_lt Z5.z7)) (below_size Z5.z0))
   have n2_ := Aside0.mk (Z5.bb BK101 Z5.z1 hb)
   have n3_ := Aside0.mk (Z5.bb BK102 Z5.z2 hb)
   have n4_ := Aside0.mk (below_step Z5.z0 hb)
   clear HO110 BK101 BK102 HB
   have HO110 := n0_
   have HO116 := n1_
   have BK101 := n2_
   have BK102 := n3_
   have HB := n4_
   clear n0_ n1_ n2_ n3_ n4_
   (try clear hb)
   (try clear hb2)
   (try clear hk)
   (try clear hi)
   (try clear ho0)
   obtain ⟨Ao72, co72, eo72⟩ := Kd.R_slice HO110.out
   (first | subst eo72 | (injection eo72 with f1_ f2_ f3_; have f4_ := f1_.symm; have f5_ := f3_.symm; clear f1_ f2_ f3_; subst f4_; subst f5_))
   obtain ⟨Ao73, co73, eo73⟩ := Kd.R_slice HO116.out
   (first | subst eo73 | (injection eo73 with f1_ f2_ f3_; have f4_ := f1_.symm; have f5_ := f3_.symm; clear f1_ f2_ f3_; subst f4_; subst f5_))
   refine hK.out _ _ Z5.z6 (fun hHeld => ?_)
   clear hK K
   refine norm_ (a' := ?_) ?_ ?_
   rotate_left
   ·show Act.put _ (some 23) _ = _
    simp only [Act.put, List.setIfInBounds_toArray, List.set_cons_zero, List.set_cons_succ, i64_w, i32_w]
    rfl
   refine one_ (i := 4) (N := some 24) #[true, true, true, true, true, false] rfl rfl (by kernel_rfl) (by decide) (fun K hK => ?_)
   refine goes_ Try.func12 (by kernel_rfl) rfl #[.agg #[.int .i64 t105, .int .i64 t106, .int .i64 t107, .slice Ao72 t108.length co72], .agg #[.int .i64 t111, .int .i64 t112, .int .i64 t113, .slice Ao73 t114.length co73]] (by rfl) rfl rfl Z5.z4 ?_
   with_reducible refine (spec_SameMatrix.calls k t105 t106 t107 _ _ t108 t111 t112 t113 _ _ t114 t117 _ ?side1 ?side2 ?side3 ?side4 A21.out).mono ?_
   (case side1 => exact Z5.z24)
   (case side2 => exact (Kd.R_reads' HO110.out).2.1)
   (case side3 => exact Z5.z23)
   (case side4 => exact (Kd.R_reads' HO116.out).2.1)
   rintro e w74 ⟨rfl, hb⟩
   refine ⟨_, rfl, ?_⟩
   have n0_ := Aside0.mk (Kd.R_below Z5.z7 hb)
   have n1_ := Aside0.mk (Kd.R_below Z5.z8 hb)
   have n2_ := Aside0.mk (Z5.bb BK101 Z5.z1 hb)
   have n3_ := Aside0.mk (Z5.bb BK102 Z5.z2 hb)
   have n4_ := Aside0.mk (below_step Z5.z0 hb)
   clear HO110 HO116 BK101 BK102 HB
   have HO110 := n0_
   have HO116 := n1_
   have BK101 := n2_
   have BK102 := n3_
   have HB := n4_
   clear n0_ n1_ n2_ n3_ n4_
   (try clear hb)
   (try clear hb2)
   (try clear hk)
   (try clear hi)
   refine hK.out _ _ Z5.z6 (fun hHeld => ?_)
   clear hK K
   refine norm_ (a' := ?_) ?_ ?_
   rotate_left
   ·show Act.put _ (some 24) _ = _
    simp only [Act.put, List.setIfInBounds_toArray, List.set_cons_zero, List.set_cons_succ, i64_w, i32_w]
    rfl
   refine pure_ (i := 5) (N := some 6) (v := ?_) (a' := ?_) #[true, true, true, true, true, true] rfl rfl (by kernel_rfl) (fun _ _ _ h => h) (Or.inl ⟨(by rfl), ?_⟩) ?_ ?_
   rotate_left
   ·intro w'
    go_simp
    with_reducible rfl
   rotate_left
   ·exact Z5.z13
   refine done_ (by kernel_rfl) ?_
   have hcz75_0 : w74.cell? ⟨gb101, 0, none⟩ = some (.int .i64 a0_0) := (blk_cell BK101.out 0).trans rfl
   have hcz75_1 : w74.cell? ⟨gb101, 1, none⟩ = some (.int .i64 a0_1) := (blk_cell BK101.out 1).trans rfl
   have hcz75_2 : w74.cell? ⟨gb101, 2, none⟩ = some (.int .i64 a0_2) := (blk_cell BK101.out 2).trans rfl
   have hcz75_3 : w74.cell? ⟨gb101, 3, none⟩ = some (.slice A0_3 l0_3.length c0_3) := (blk_cell BK101.out 3).trans rfl
   have hfz75_0 := blk_frozen BK101.out 0
   have hfz75_1 := blk_frozen BK101.out 1
   have hfz75_2 := blk_frozen BK101.out 2
   have hfz75_3 := blk_frozen BK101.out 3
   try go_wp2_with (first | ((with_reducible refine gate_callee (f := 13) rfl ?_); refine goesL_ (some 26) rfl rfl Try.func13 (by kernel_rfl) rfl #[.agg #[.int .i64 a0_0, .int .i64 a0_1, .int .i64 a0_2, .slice A0_3 l0_3.length c0_3]] rfl Z5.z4 ?_; (with_reducible refine (laws_toMatrix.calls k a0_0 a0_1 a0_2 _ _ l0_3 t118 t119 t120 t121 _ ?side1 ?side2 A22.out).mono ?_); (case side1 => exact Z5.z11); (case side2 => exact HC0_3.out); rintro e w76 ⟨v122, rfl, ho0, hb⟩; refine ⟨_, rfl, ?_⟩; have n0_ := Aside0.mk (Kd.R_elder' Z5.z7 (Kd.R_base ho0) hb); have n1_ := Aside0.mk (Kd.R_elder' Z5.z8 (Kd.R_base ho0) hb); have n2_ := Aside0.mk (Kd.R_lower (Kd.R_new' (Kd.R_new' ho0 (Kd.R_lt Z5.z7)) (Kd.R_lt Z5.z8)) (below_size Z5.z0)); have n3_ := Aside0.mk (Z5.bb BK101 Z5.z1 hb); have n4_ := Aside0.mk (Z5.bb BK102 Z5.z2 hb); have n5_ := Aside0.mk (below_step Z5.z0 hb); clear HO110 HO116 BK101 BK102 HB; have HO110 := n0_; have HO116 := n1_; have HO123 := n2_; have BK101 := n3_; have BK102 := n4_; have HB := n5_; clear n0_ n1_ n2_ n3_ n4_ n5_; (try clear hb); (try clear hb2); (try clear hk); (try clear hi); (try clear ho0)) | ((with_reducible refine gate_dst (N := 7) rfl ?_); refine box_event ?hg (N := 7) ?hd (cs := #[.int .i64 0, .int .i64 0, .int .i64 0, .slice none 0 0]) (t := 30) ?hr ?_; (case hd => rfl); (case hg => rfl); (case hr => first | (go_simp; done) | (go_simp; rfl)); intro gb124 hg w77 hbox hb; have n0_ := Aside0.mk (Kd.R_below Z5.z7 hb); have n1_ := Aside0.mk (Kd.R_below Z5.z8 hb); have n2_ := Aside0.mk (Kd.R_below Z5.z17 hb); have n3_ := Aside0.mk (Z5.bb BK101 Z5.z1 hb); have n4_ := Aside0.mk (Z5.bb BK102 Z5.z2 hb); have n5_ := Aside0.mk (below_step Z5.z0 hb); have n6_ := Aside0.mk (hbox); have n7_ := Aside0.mk (show w.heap.size ≤ gb124 from (by rw [hg]; exact (below_size Z5.z0))); have n8_ := Aside0.mk (show w.heap.size ≤ gb124 from (by rw [hg]; exact (below_size Z5.z0))); have n9_ := Aside0.mk (show gb101 ≠ gb124 from Z5.z51); have n10_ := Aside0.mk (show gb124 ≠ gb101 from Z5.z52); have n11_ := Aside0.mk (show gb102 ≠ gb124 from Z5.z55); have n12_ := Aside0.mk (show gb124 ≠ gb102 from Z5.z56); clear HO110 HO116 HO123 BK101 BK102 HB; have HO110 := n0_; have HO116 := n1_; have HO123 := n2_; have BK101 := n3_; have BK102 := n4_; have HB := n5_; have BK124 := n6_; have GW124 := n7_; have GE124 := n8_; have NB101_124 := n9_; have NB124_101 := n10_; have NB102_124 := n11_; have NB124_102 := n12_; clear n0_ n1_ n2_ n3_ n4_ n5_ n6_ n7_ n8_ n9_ n10_ n11_ n12_; clear hb hbox hg; have hnb78 := NB124_101.out; have hnc78 := NB101_124.out; have hnb79 := NB124_102.out; have hnc79 := NB102_124.out; have hcz80_0 : w77.cell? ⟨gb124, 0, none⟩ = some (.int .i64 0) := (blk_cell BK124.out 0).trans rfl; have hcz80_1 : w77.cell? ⟨gb124, 1, none⟩ = some (.int .i64 0) := (blk_cell BK124.out 1).trans rfl; have hcz80_2 : w77.cell? ⟨gb124, 2, none⟩ = some (.int .i64 0) := (blk_cell BK124.out 2).trans rfl; have hcz80_3 : w77.cell? ⟨gb124, 3, none⟩ = some (.slice none 0 0) := (blk_cell BK124.out 3).trans rfl; have hfz80_0 := blk_frozen BK124.out 0; have hfz80_1 := blk_frozen BK124.out 1; have hfz80_2 := blk_frozen BK124.out 2; have hfz80_3 := blk_frozen BK124.out 3; obtain ⟨Ao81, co81, eo81⟩ := Kd.R_slice HO123.out; subst eo81; have hcz82_0 : w77.cell? ⟨gb102, 0, none⟩ = some (.int .i64 a1_0) := (blk_cell BK102.out 0).trans rfl; have hcz82_1 : w77.cell? ⟨gb102, 1, none⟩ = some (.int .i64 a1_1) := (blk_cell BK102.out 1).trans rfl; have hcz82_2 : w77.cell? ⟨gb102, 2, none⟩ = some (.int .i64 a1_2) := (blk_cell BK102.out 2).trans rfl; have hcz82_3 : w77.cell? ⟨gb102, 3, none⟩ = some (.slice A1_3 l1_3.length c1_3) := (blk_cell BK102.out 3).trans rfl; have hfz82_0 := blk_frozen BK102.out 0; have hfz82_1 := blk_frozen BK102.out 1; have hfz82_2 := blk_frozen BK102.out 2; have hfz82_3 := blk_frozen BK102.out 3) | ((with_reducible refine gate_callee (f := 13) rfl ?_); refine goesL_ (some 28) rfl rfl Try.func13 (by kernel_rfl) rfl #[.agg #[.int .i64 a1_0, .int .i64 a1_1, .int .i64 a1_2, .slice A1_3 l1_3.length c1_3]] rfl Z5.z4 ?_; (with_reducible refine (laws_toMatrix.calls k a1_0 a1_1 a1_2 _ _ l1_3 t125 t126 t127 t128 _ ?side1 ?side2 A23.out).mono ?_); (case side1 => exact (by exact Kd.C_below HR1_3.out Z5.z5)); (case side2 => exact HC1_3.out); rintro e w83 ⟨v129, rfl, ho0, hb⟩; refine ⟨_, rfl, ?_⟩; have n0_ := Aside0.mk (Kd.R_elder' Z5.z43 (Kd.R_base ho0) hb); have n1_ := Aside0.mk (Kd.R_elder' Z5.z41 (Kd.R_base ho0) hb); have n2_ := Aside0.mk (Kd.R_elder' Z5.z39 (Kd.R_base ho0) hb); have n3_ := Aside0.mk (Kd.R_lower (Kd.R_new' (Kd.R_new' (Kd.R_new' ho0 (Kd.R_lt Z5.z43)) (Kd.R_lt Z5.z41)) (Kd.R_lt Z5.z39)) (below_size Z5.z5)); have n4_ := Aside0.mk (Z5.bb BK101 Z5.z49 hb); have n5_ := Aside0.mk (Z5.bb BK102 Z5.z47 hb); have n6_ := Aside0.mk (blk_below (g := gb124) (o := .cells #[.int .i64 t118, .int .i64 t119, .int .i64 t120, .slice Ao81 t121.length co81] 30 (0, 0)) Z5.z10 hb); have n7_ := Aside0.mk (below_step Z5.z5 hb); clear HO110 HO116 HO123 BK101 BK102 BK124 HB; have HO110 := n0_; have HO116 := n1_; have HO123 := n2_; have HO130 := n3_; have BK101 := n4_; have BK102 := n5_; have BK124 := n6_; have HB := n7_; clear n0_ n1_ n2_ n3_ n4_ n5_ n6_ n7_; (try clear hb); (try clear hb2); (try clear hk); (try clear hi); (try clear ho0)) | ((with_reducible refine gate_dst (N := 8) rfl ?_); refine box_event ?hg (N := 8) ?hd (cs := #[.int .i64 0, .int .i64 0, .int .i64 0, .slice none 0 0]) (t := 30) ?hr ?_; (case hd => rfl); (case hg => rfl); (case hr => first | (go_simp; done) | (go_simp; rfl)); intro gb131 hg w84 hbox hb; have n0_ := Aside0.mk (Kd.R_below Z5.z7 hb); have n1_ := Aside0.mk (Kd.R_below Z5.z8 hb); have n2_ := Aside0.mk (Kd.R_below Z5.z17 hb); have n3_ := Aside0.mk (Kd.R_below Z5.z19 hb); have n4_ := Aside0.mk (Z5.bb BK101 Z5.z1 hb); have n5_ := Aside0.mk (Z5.bb BK102 Z5.z2 hb); have n6_ := Aside0.mk (Z5.bb BK124 Z5.z15 hb); have n7_ := Aside0.mk (below_step Z5.z5 hb); have n8_ := Aside0.mk (hbox); have n9_ := Aside0.mk (show w.heap.size ≤ gb131 from (by rw [hg]; exact (below_size Z5.z5))); have n10_ := Aside0.mk (show w.heap.size ≤ gb131 from (by rw [hg]; exact (below_size Z5.z5))); have n11_ := Aside0.mk (show gb101 ≠ gb131 from Z5.z51); have n12_ := Aside0.mk (show gb131 ≠ gb101 from Z5.z52); have n13_ := Aside0.mk (show gb102 ≠ gb131 from Z5.z55); have n14_ := Aside0.mk (show gb131 ≠ gb102 from Z5.z56); have n15_ := Aside0.mk (show gb124 ≠ gb131 from (by rw [hg]; exact Nat.ne_of_lt (Z5.bl BK124 Z5.z15))); have n16_ := Aside0.mk (show gb131 ≠ gb124 from (by rw [hg]; exact Nat.ne_of_gt (Z5.bl BK124 Z5.z15))); clear HO110 HO116 HO123 HO130 BK101 BK102 BK124 HB; have HO110 := n0_; have HO116 := n1_; have HO123 := n2_; have HO130 := n3_; have BK101 := n4_; have BK102 := n5_; have BK124 := n6_; have HB := n7_; have BK131 := n8_; have GW131 := n9_; have GE131 := n10_; have NB101_131 := n11_; have NB131_101 := n12_; have NB102_131 := n13_; have NB131_102 := n14_; have NB124_131 := n15_; have NB131_124 := n16_; clear n0_ n1_ n2_ n3_ n4_ n5_ n6_ n7_ n8_ n9_ n10_ n11_ n12_ n13_ n14_ n15_ n16_; clear hb hbox hg; have hnb85 := NB131_101.out; have hnc85 := NB101_131.out; have hnb86 := NB131_102.out; have hnc86 := NB102_131.out; have hnb87 := NB131_124.out; have hnc87 := NB124_131.out; have hcz88_0 : w84.cell? ⟨gb131, 0, none⟩ = some (.int .i64 0) := (blk_cell BK131.out 0).trans rfl; have hcz88_1 : w84.cell? ⟨gb131, 1, none⟩ = some (.int .i64 0) := (blk_cell BK131.out 1).trans rfl; have hcz88_2 : w84.cell? ⟨gb131, 2, none⟩ = some (.int .i64 0) := (blk_cell BK131.out 2).trans rfl; have hcz88_3 : w84.cell? ⟨gb131, 3, none⟩ = some (.slice none 0 0) := (blk_cell BK131.out 3).trans rfl; have hfz88_0 := blk_frozen BK131.out 0; have hfz88_1 := blk_frozen BK131.out 1; have hfz88_2 := blk_frozen BK131.out 2; have hfz88_3 := blk_frozen BK131.out 3; obtain ⟨Ao89, co89, eo89⟩ := Kd.R_slice HO130.out; subst eo89; have hcz90_0 : w84.cell? ⟨gb124, 0, none⟩ = some (.int .i64 t118) := (blk_cell BK124.out 0).trans rfl; have hcz90_1 : w84.cell? ⟨gb124, 1, none⟩ = some (.int .i64 t119) := (blk_cell BK124.out 1).trans rfl; have hcz90_2 : w84.cell? ⟨gb124, 2, none⟩ = some (.int .i64 t120) := (blk_cell BK124.out 2).trans rfl; have hcz90_3 : w84.cell? ⟨gb124, 3, none⟩ = some (.slice Ao81 t121.length co81) := (blk_cell BK124.out 3).trans rfl; have hfz90_0 := blk_frozen BK124.out 0; have hfz90_1 := blk_frozen BK124.out 1; have hfz90_2 := blk_frozen BK124.out 2; have hfz90_3 := blk_frozen BK124.out 3) | ((with_reducible refine gate_callee (f := 14) rfl ?_); refine goesL_ (some 31) rfl rfl Try.func14 (by kernel_rfl) rfl #[.agg #[.int .i64 t118, .int .i64 t119, .int .i64 t120, .slice Ao81 t121.length co81], .agg #[.int .i64 t125, .int .i64 t126, .int .i64 t127, .slice Ao89 t128.length co89]] rfl Z5.z4 ?_; (with_reducible refine (impl_SameMatrix.calls k t118 t119 t120 _ _ t121 t125 t126 t127 _ _ t128 t132 _ ?side1 ?side2 ?side3 ?side4 A24.out).mono ?_); (case side1 => exact (by refine (Kd.R_reads' (e := 2) (base := w.heap.size) (ok := fun k_ => (((True ∧ some k_ ≠ (.slice Ao72 t108.length co72 : Value).ownBlock) ∧ some k_ ≠ (.slice Ao73 t114.length co73 : Value).ownBlock) ∧ some k_ ≠ (.slice Ao89 t128.length co89 : Value).ownBlock)) (n := t121.length) (c := co81) ?_).2.2; exact Z5.z37)); (case side2 => exact (Kd.R_reads' HO123.out).2.1); (case side3 => exact (by refine (Kd.R_reads' (e := 2) (base := w.heap.size) (ok := fun k_ => (((True ∧ some k_ ≠ (.slice Ao72 t108.length co72 : Value).ownBlock) ∧ some k_ ≠ (.slice Ao73 t114.length co73 : Value).ownBlock) ∧ some k_ ≠ (.slice Ao81 t121.length co81 : Value).ownBlock)) (n := t128.length) (c := co89) ?_).2.2; exact Z5.z35)); (case side4 => exact (Kd.R_reads' HO130.out).2.1); rintro e w91 ⟨rfl, hb⟩; refine ⟨_, rfl, ?_⟩; have n0_ := Aside0.mk (Kd.R_below (by (with_reducible repeat (first | apply Kd.R_alloc | apply Kd.R_drewN | apply Kd.R_drew)); exact (Kd.R_mono (Kd.R_far (p := ⟨gb131, 3, none⟩) (Kd.R_far (p := ⟨gb131, 2, none⟩) (Kd.R_far (p := ⟨gb131, 1, none⟩) (Kd.R_far (p := ⟨gb131, 0, none⟩) (Kd.R_types HO110.out BK131.out (by decide)) (fun _ hk => hk.2) (.int .i64 t125)) (fun _ hk => hk.2) (.int .i64 t126)) (fun _ hk => hk.2) (.int .i64 t127)) (fun _ hk => hk.2) (.slice Ao89 t128.length co89)) (fun _ h_ => h_.1))) hb); have n1_ := Aside0.mk (Kd.R_below (by (with_reducible repeat (first | apply Kd.R_alloc | apply Kd.R_drewN | apply Kd.R_drew)); exact (Kd.R_mono (Kd.R_far (p := ⟨gb131, 3, none⟩) (Kd.R_far (p := ⟨gb131, 2, none⟩) (Kd.R_far (p := ⟨gb131, 1, none⟩) (Kd.R_far (p := ⟨gb131, 0, none⟩) (Kd.R_types HO116.out BK131.out (by decide)) (fun _ hk => hk.2) (.int .i64 t125)) (fun _ hk => hk.2) (.int .i64 t126)) (fun _ hk => hk.2) (.int .i64 t127)) (fun _ hk => hk.2) (.slice Ao89 t128.length co89)) (fun _ h_ => h_.1))) hb); have n2_ := Aside0.mk (Kd.R_below Z5.z37 hb); have n3_ := Aside0.mk (Kd.R_below Z5.z35 hb); have n4_ := Aside0.mk (Z5.bb BK101 Z5.z48 hb); have n5_ := Aside0.mk (Z5.bb BK102 Z5.z46 hb); have n6_ := Aside0.mk (Z5.bb BK124 Z5.z45 hb); have n7_ := Aside0.mk (blk_below (g := gb131) (o := .cells #[.int .i64 t125, .int .i64 t126, .int .i64 t127, .slice Ao89 t128.length co89] 30 (0, 0)) Z5.z9 hb); have n8_ := Aside0.mk (below_step Z5.z3 hb); clear HO110 HO116 HO123 HO130 BK101 BK102 BK124 BK131 HB; have HO110 := n0_; have HO116 := n1_; have HO123 := n2_; have HO130 := n3_; have BK101 := n4_; have BK102 := n5_; have BK124 := n6_; have BK131 := n7_; have HB := n8_; clear n0_ n1_ n2_ n3_ n4_ n5_ n6_ n7_ n8_; (try clear hb); (try clear hb2); (try clear hk); (try clear hi)))
   have n0_ := Aside0.mk (Kd.R_drew HO110.out)
   have n1_ := Aside0.mk (Kd.R_drew HO116.out)
   have n2_ := Aside0.mk (Kd.R_drew HO123.out)
   have n3_ := Aside0.mk (Kd.R_drew HO130.out)
   have n4_ := Aside0.mk (blk_drew BK101.out)
   have n5_ := Aside0.mk (blk_drew BK102.out)
   have n6_ := Aside0.mk (blk_drew BK124.out)
   have n7_ := Aside0.mk (blk_drew BK131.out)
   have n8_ := Aside0.mk (below_drew1 HB.out)
   clear HO110 HO116 HO123 HO130 BK101 BK102 BK124 BK131 HB
   have HO110 := n0_
   have HO116 := n1_
   have HO123 := n2_
   have HO130 := n3_
   have BK101 := n4_
   have BK102 := n5_
   have BK124 := n6_
   have BK131 := n7_
   have HB := n8_
   clear n0_ n1_ n2_ n3_ n4_ n5_ n6_ n7_ n8_
   refine start_ (n := 5) (S := fun w' => w'.cell? ⟨gb124, 0, none⟩ = some (.int .i64 t118) ∧ w'.cell? ⟨gb124, 1, none⟩ = some (.int .i64 t119) ∧ w'.cell? ⟨gb124, 2, none⟩ = some (.int .i64 t120) ∧ w'.cell? ⟨gb124, 3, none⟩ = some (.slice Ao81 t121.length co81) ∧ w'.cell? ⟨gb101, 0, none⟩ = some (.int .i64 a0_0) ∧ w'.cell? ⟨gb101, 1, none⟩ = some (.int .i64 a0_1) ∧ w'.cell? ⟨gb101, 2, none⟩ = some (.int .i64 a0_2) ∧ w'.cell? ⟨gb101, 3, none⟩ = some (.slice A0_3 l0_3.length c0_3)) (ds := []) #[false, false, false, false, false] (by kernel_rfl) rfl rfl Z5.z14 (fun hHeld => ?_)
   generalize w91.drew = w92 at HO110 HO116 HO123 HO130 BK101 BK102 BK124 BK131 HB hHeld ⊢
   refine take_ (i := 0) (N := some 35) (v := ?_) (a' := ?_) #[true, false, false, false, false] rfl rfl (by kernel_rfl) (fun _ _ _ h => h) (Or.inl ⟨(by rfl), ?_⟩) hHeld ?_ ?_
   rotate_left
   ·rintro w' ⟨s0, s1, s2, s3, s4, s5, s6, s7⟩
    go_simp
    with_reducible rfl
   rotate_left
   ·exact Z5.z13
   refine take_ (i := 1) (N := some 36) (v := ?_) (a' := ?_) #[true, true, false, false, false] rfl rfl (by kernel_rfl) (fun _ _ _ h => h) (Or.inl ⟨(by rfl), ?_⟩) hHeld ?_ ?_
   rotate_left
   ·rintro w' ⟨s0, s1, s2, s3, s4, s5, s6, s7⟩
    go_simp
    with_reducible rfl
   rotate_left
   ·exact Z5.z13
   refine one_ (i := 2) (N := some 37) #[true, true, true, false, false] rfl rfl (by kernel_rfl) (by decide) (fun K hK => ?_)
   refine goes_ Try.func13 (by kernel_rfl) rfl #[.agg #[.int .i64 a0_0, .int .i64 a0_1, .int .i64 a0_2, .slice A0_3 l0_3.length c0_3]] (by rfl) rfl rfl Z5.z4 ?_
   with_reducible refine (laws_toMatrix.calls k a0_0 a0_1 a0_2 _ _ l0_3 t133 t134 t135 t136 _ ?side1 ?side2 A56.out).mono ?_
   (case side1 => exact Z5.z11)
   (case side2 => exact HC0_3.out)
   rintro e w93 ⟨v137, rfl, ho0, hb⟩
   refine ⟨_, rfl, ?_⟩
   have n0_ := Aside0.mk (Kd.R_elder' Z5.z7 (Kd.R_base ho0) hb)
   have n1_ := Aside0.mk (Kd.R_elder' Z5.z8 (Kd.R_base ho0) hb)
   have n2_ := Aside0.mk (Kd.R_elder' Z5.z17 (Kd.R_base ho0) hb)
   have n3_ := Aside0.mk (Kd.R_elder' Z5.z19 (Kd.R_base ho0) hb)
   have n4_ := Aside0.mk (Kd.R_lower (Kd.R_new' (Kd.R_new' (Kd.R_new' (Kd.R_new' ho0 (Kd.R_lt Z5.z7)) (Kd.R_lt Z5.z8)) (Kd.R_lt Z5.z17)) (Kd.R_lt Z5.z19)) (below_size Z5.z3))
   have n5_ := Aside0.mk (Z5.bb BK101 Z5.z1 hb)
   have n6_ := Aside0.mk (Z5.bb BK102 Z5.z2 hb)
   have n7_ := Aside0.mk (Z5.bb BK124 Z5.z15 hb)
   have n8_ := Aside0.mk (Z5.bb BK131 Z5.z21 hb)
   have n9_ := Aside0.mk (below_step Z5.z3 hb)
   clear HO110 HO116 HO123 HO130 BK101 BK102 BK124 BK131 HB
   have HO110 := n0_
   have HO116 := n1_
   have HO123 := n2_
   have HO130 := n3_
   have HO138 := n4_
   have BK101 := n5_
   have BK102 := n6_
   have BK124 := n7_
   have BK131 := n8_
   have HB := n9_
   clear n0_ n1_ n2_ n3_ n4_ n5_ n6_ n7_ n8_ n9_
   (try clear hb)
   (try clear hb2)
   (try clear hk)
   (try clear hi)
   (try clear ho0)
   obtain ⟨Ao94, co94, eo94⟩ := Kd.R_slice HO138.out
   (first | subst eo94 | (injection eo94 with f1_ f2_ f3_; have f4_ := f1_.symm; have f5_ := f3_.symm; clear f1_ f2_ f3_; subst f4_; subst f5_))
   refine hK.out _ _ Z5.z14 (fun hHeld => ?_)
   clear hK K
   refine norm_ (a' := ?_) ?_ ?_
   rotate_left
   ·show Act.put _ (some 37) _ = _
    simp only [Act.put, List.setIfInBounds_toArray, List.set_cons_zero, List.set_cons_succ, i64_w, i32_w]
    rfl
   refine one_ (i := 3) (N := some 38) #[true, true, true, true, false] rfl rfl (by kernel_rfl) (by decide) (fun K hK => ?_)
   refine goes_ Try.func15 (by kernel_rfl) rfl #[.agg #[.int .i64 t118, .int .i64 t119, .int .i64 t120, .slice Ao81 t121.length co81], .agg #[.int .i64 t133, .int .i64 t134, .int .i64 t135, .slice Ao94 t136.length co94]] (by rfl) rfl rfl Z5.z4 ?_
   with_reducible refine (laws_eqMatrix.calls k t118 t119 t120 _ _ t121 t133 t134 t135 _ _ t136 true _ ?side1 ?side2 ?side3 ?side4 A57.out).mono ?_
   (case side1 => exact Z5.z54)
   (case side2 => exact (Kd.R_reads' HO123.out).2.1)
   (case side3 => exact Z5.z53)
   (case side4 => exact (Kd.R_reads' HO138.out).2.1)
   rintro e w95 ⟨rfl, hb⟩
   refine ⟨_, rfl, ?_⟩
   have n0_ := Aside0.mk (Kd.R_below Z5.z7 hb)
   have n1_ := Aside0.mk (Kd.R_below Z5.z8 hb)
   have n2_ := Aside0.mk (Kd.R_below Z5.z17 hb)
   have n3_ := Aside0.mk (Kd.R_below Z5.z19 hb)
   have n4_ := Aside0.mk (Kd.R_below Z5.z22 hb)
   have n5_ := Aside0.mk (Z5.bb BK101 Z5.z1 hb)
   have n6_ := Aside0.mk (Z5.bb BK102 Z5.z2 hb)
   have n7_ := Aside0.mk (Z5.bb BK124 Z5.z15 hb)
   have n8_ := Aside0.mk (Z5.bb BK131 Z5.z21 hb)
   have n9_ := Aside0.mk (below_step Z5.z3 hb)
   clear HO110 HO116 HO123 HO130 HO138 BK101 BK102 BK124 BK131 HB
   have HO110 := n0_
   have HO116 := n1_
   have HO123 := n2_
   have HO130 := n3_
   have HO138 := n4_
   have BK101 := n5_
   have BK102 := n6_
   have BK124 := n7_
   have BK131 := n8_
   have HB := n9_
   clear n0_ n1_ n2_ n3_ n4_ n5_ n6_ n7_ n8_ n9_
   (try clear hb)
   (try clear hb2)
   (try clear hk)
   (try clear hi)
   refine hK.out _ _ Z5.z14 (fun hHeld => ?_)
   clear hK K
   refine norm_ (a' := ?_) ?_ ?_
   rotate_left
   ·show Act.put _ (some 38) _ = _
    simp only [Act.put, List.setIfInBounds_toArray, List.set_cons_zero, List.set_cons_succ, i64_w, i32_w]
    rfl
   refine pure_ (i := 4) (N := some 39) (v := ?_) (a' := ?_) #[true, true, true, true, true] rfl rfl (by kernel_rfl) (fun _ _ _ h => h) (Or.inl ⟨(by rfl), ?_⟩) ?_ ?_
   rotate_left
   ·intro w'
    go_simp
    with_reducible rfl
   rotate_left
   ·exact Z5.z13
   refine done_ (by kernel_rfl) ?_
   try go_wp2
   have n0_ := Aside0.mk (Kd.R_drew HO110.out)
   have n1_ := Aside0.mk (Kd.R_drew HO116.out)
   have n2_ := Aside0.mk (Kd.R_drew HO123.out)
   have n3_ := Aside0.mk (Kd.R_drew HO130.out)
   have n4_ := Aside0.mk (Kd.R_drew HO138.out)
   have n5_ := Aside0.mk (blk_drew BK101.out)
   have n6_ := Aside0.mk (blk_drew BK102.out)
   have n7_ := Aside0.mk (blk_drew BK124.out)
   have n8_ := Aside0.mk (blk_drew BK131.out)
   have n9_ := Aside0.mk (below_drew1 HB.out)
   clear HO110 HO116 HO123 HO130 HO138 BK101 BK102 BK124 BK131 HB
   have HO110 := n0_
   have HO116 := n1_
   have HO123 := n2_
   have HO130 := n3_
   have HO138 := n4_
   have BK101 := n5_
   have BK102 := n6_
   have BK124 := n7_
   have BK131 := n8_
   have HB := n9_
   clear n0_ n1_ n2_ n3_ n4_ n5_ n6_ n7_ n8_ n9_
   refine start_ (n := 5) (S := fun w' => w'.cell? ⟨gb131, 0, none⟩ = some (.int .i64 t125) ∧ w'.cell? ⟨gb131, 1, none⟩ = some (.int .i64 t126) ∧ w'.cell? ⟨gb131, 2, none⟩ = some (.int .i64 t127) ∧ w'.cell? ⟨gb131, 3, none⟩ = some (.slice Ao89 t128.length co89) ∧ w'.cell? ⟨gb102, 0, none⟩ = some (.int .i64 a1_0) ∧ w'.cell? ⟨gb102, 1, none⟩ = some (.int .i64 a1_1) ∧ w'.cell? ⟨gb102, 2, none⟩ = some (.int .i64 a1_2) ∧ w'.cell? ⟨gb102, 3, none⟩ = some (.slice A1_3 l1_3.length c1_3)) (ds := []) #[false, false, false, false, false] (by kernel_rfl) rfl rfl Z5.z20 (fun hHeld => ?_)
   generalize w95.drew = w96 at HO110 HO116 HO123 HO130 HO138 BK101 BK102 BK124 BK131 HB hHeld ⊢
   refine take_ (i := 0) (N := some 40) (v := ?_) (a' := ?_) #[true, false, false, false, false] rfl rfl (by kernel_rfl) (fun _ _ _ h => h) (Or.inl ⟨(by rfl), ?_⟩) hHeld ?_ ?_
   rotate_left
   ·rintro w' ⟨s0, s1, s2, s3, s4, s5, s6, s7⟩
    go_simp
    with_reducible rfl
   rotate_left
   ·exact Z5.z13
   refine take_ (i := 1) (N := some 41) (v := ?_) (a' := ?_) #[true, true, false, false, false] rfl rfl (by kernel_rfl) (fun _ _ _ h => h) (Or.inl ⟨(by rfl), ?_⟩) hHeld ?_ ?_
   rotate_left
   ·rintro w' ⟨s0, s1, s2, s3, s4, s5, s6, s7⟩
    go_simp
    with_reducible rfl
   rotate_left
   ·exact Z5.z13
   refine one_ (i := 2) (N := some 42) #[true, true, true, false, false] rfl rfl (by kernel_rfl) (by decide) (fun K hK => ?_)
   refine goes_ Try.func13 (by kernel_rfl) rfl #[.agg #[.int .i64 a1_0, .int .i64 a1_1, .int .i64 a1_2, .slice A1_3 l1_3.length c1_3]] (by rfl) rfl rfl Z5.z4 ?_
   with_reducible refine (laws_toMatrix.calls k a1_0 a1_1 a1_2 _ _ l1_3 t140 t141 t142 t143 _ ?side1 ?side2 A59.out).mono ?_
   (case side1 => exact Z5.z18)
   (case side2 => exact HC1_3.out)
   rintro e w97 ⟨v144, rfl, ho0, hb⟩
   refine ⟨_, rfl, ?_⟩
   have n0_ := Aside0.mk (Kd.R_elder' Z5.z7 (Kd.R_base ho0) hb)
   have n1_ := Aside0.mk (Kd.R_elder' Z5.z8 (Kd.R_base ho0) hb)
   have n2_ := Aside0.mk (Kd.R_elder' Z5.z17 (Kd.R_base ho0) hb)
   have n3_ := Aside0.mk (Kd.R_elder' Z5.z19 (Kd.R_base ho0) hb)
   have n4_ := Aside0.mk (Kd.R_elder' Z5.z22 (Kd.R_base ho0) hb)
   have n5_ := Aside0.mk (Kd.R_lower (Kd.R_new' (Kd.R_new' (Kd.R_new' (Kd.R_new' (Kd.R_new' ho0 (Kd.R_lt Z5.z7)) (Kd.R_lt Z5.z8)) (Kd.R_lt Z5.z17)) (Kd.R_lt Z5.z19)) (Kd.R_lt Z5.z22)) (below_size Z5.z3))
   have n6_ := Aside0.mk (Z5.bb BK101 Z5.z1 hb)
   have n7_ := Aside0.mk (Z5.bb BK102 Z5.z2 hb)
   have n8_ := Aside0.mk (Z5.bb BK124 Z5.z15 hb)
   have n9_ := Aside0.mk (Z5.bb BK131 Z5.z21 hb)
   have n10_ := Aside0.mk (below_step Z5.z3 hb)
   clear HO110 HO116 HO123 HO130 HO138 BK101 BK102 BK124 BK131 HB
   have HO110 := n0_
   have HO116 := n1_
   have HO123 := n2_
   have HO130 := n3_
   have HO138 := n4_
   have HO145 := n5_
   have BK101 := n6_
   have BK102 := n7_
   have BK124 := n8_
   have BK131 := n9_
   have HB := n10_
   clear n0_ n1_ n2_ n3_ n4_ n5_ n6_ n7_ n8_ n9_ n10_
   (try clear hb)
   (try clear hb2)
   (try clear hk)
   (try clear hi)
   (try clear ho0)
   obtain ⟨Ao98, co98, eo98⟩ := Kd.R_slice HO145.out
   (first | subst eo98 | (injection eo98 with f1_ f2_ f3_; have f4_ := f1_.symm; have f5_ := f3_.symm; clear f1_ f2_ f3_; subst f4_; subst f5_))
   refine hK.out _ _ Z5.z20 (fun hHeld => ?_)
   clear hK K
   refine norm_ (a' := ?_) ?_ ?_
   rotate_left
   ·show Act.put _ (some 42) _ = _
    simp only [Act.put, List.setIfInBounds_toArray, List.set_cons_zero, List.set_cons_succ, i64_w, i32_w]
    rfl
   refine one_ (i := 3) (N := some 43) #[true, true, true, true, false] rfl rfl (by kernel_rfl) (by decide) (fun K hK => ?_)
   refine goes_ Try.func15 (by kernel_rfl) rfl #[.agg #[.int .i64 t125, .int .i64 t126, .int .i64 t127, .slice Ao89 t128.length co89], .agg #[.int .i64 t140, .int .i64 t141, .int .i64 t142, .slice Ao98 t143.length co98]] (by rfl) rfl rfl Z5.z4 ?_
   with_reducible refine (laws_eqMatrix.calls k t125 t126 t127 _ _ t128 t140 t141 t142 _ _ t143 true _ ?side1 ?side2 ?side3 ?side4 A60.out).mono ?_
   (case side1 => exact Z5.z58)
   (case side2 => exact (Kd.R_reads' HO130.out).2.1)
   (case side3 => exact Z5.z57)
   (case side4 => exact (Kd.R_reads' HO145.out).2.1)
   rintro e w99 ⟨rfl, hb⟩
   refine ⟨_, rfl, ?_⟩
   have n0_ := Aside0.mk (Kd.R_below Z5.z7 hb)
   have n1_ := Aside0.mk (Kd.R_below Z5.z8 hb)
   have n2_ := Aside0.mk (Kd.R_below Z5.z17 hb)
   have n3_ := Aside0.mk (Kd.R_below Z5.z19 hb)
   have n4_ := Aside0.mk (Kd.R_below Z5.z22 hb)
   have n5_ := Aside0.mk (Kd.R_below (by (with_reducible repeat (first | apply Kd.R_alloc | apply Kd.R_drewN | apply Kd.R_drew)); exact HO145.out) hb)
   have n6_ := Aside0.mk (Z5.bb BK101 Z5.z1 hb)
   have n7_ := Aside0.mk (Z5.bb BK102 Z5.z2 hb)
   have n8_ := Aside0.mk (Z5.bb BK124 Z5.z15 hb)
   have n9_ := Aside0.mk (Z5.bb BK131 Z5.z21 hb)
   have n10_ := Aside0.mk (below_step Z5.z3 hb)
   clear HO110 HO116 HO123 HO130 HO138 HO145 BK101 BK102 BK124 BK131 HB
   have HO110 := n0_
   have HO116 := n1_
   have HO123 := n2_
   have HO130 := n3_
   have HO138 := n4_
   have HO145 := n5_
   have BK101 := n6_
   have BK102 := n7_
   have BK124 := n8_
   have BK131 := n9_
   have HB := n10_
   clear n0_ n1_ n2_ n3_ n4_ n5_ n6_ n7_ n8_ n9_ n10_
   (try clear hb)
   (try clear hb2)
   (try clear hk)
   (try clear hi)
   refine hK.out _ _ Z5.z20 (fun hHeld => ?_)
   clear hK K
   refine norm_ (a' := ?_) ?_ ?_
   rotate_left
   ·show Act.put _ (some 43) _ = _
    simp only [Act.put, List.setIfInBounds_toArray, List.set_cons_zero, List.set_cons_succ, i64_w, i32_w]
    rfl
   refine pure_ (i := 4) (N := some 44) (v := ?_) (a' := ?_) #[true, true, true, true, true] rfl rfl (by kernel_rfl) (fun _ _ _ h => h) (Or.inl ⟨(by rfl), ?_⟩) ?_ ?_
   rotate_left
   ·intro w'
    go_simp
    with_reducible rfl
   rotate_left
   ·exact Z5.z13
   refine done_ (by kernel_rfl) ?_
   try go_wp2
   go_ret
   exact ⟨Z5.z50, Z5.z3⟩
  replace c61 := Bool.eq_false_iff.mpr c61
  subst c61
  have H1 : (some false) = some r := by rw [if_neg (show ¬ (false = true) by decide)] at H; exact H
  clear H
  have H := H1
  clear H1
  obtain rfl := Option.some.inj H
  go_enter Try.func5, Try.ntmps5
  try go_wp2_with (first | ((with_reducible refine gate_dst (N := 2) rfl ?_); refine box_event ?hg (N := 2) ?hd (cs := #[.int .i64 a0_0, .int .i64 a0_1, .int .i64 a0_2, .slice A0_3 l0_3.length c0_3]) (t := 27) ?hr ?_; (case hd => rfl); (case hg => rfl); (case hr => first | (go_simp; done) | (go_simp; rfl)); intro gb101 hg w100 hbox hb; have n0_ := Aside0.mk (below_step Z5.z16 hb); have n1_ := Aside0.mk (hbox); have n2_ := Aside0.mk (show w.heap.size ≤ gb101 from Z5.z59); have n3_ := Aside0.mk (show w.heap.size ≤ gb101 from Z5.z59); clear HB; have HB := n0_; have BK101 := n1_; have GW101 := n2_; have GE101 := n3_; clear n0_ n1_ n2_ n3_; clear hb hbox hg) | ((with_reducible refine gate_dst (N := 3) rfl ?_); refine box_event ?hg (N := 3) ?hd (cs := #[.int .i64 a1_0, .int .i64 a1_1, .int .i64 a1_2, .slice A1_3 l1_3.length c1_3]) (t := 27) ?hr ?_; (case hd => rfl); (case hg => rfl); (case hr => first | (go_simp; done) | (go_simp; rfl)); intro gb102 hg w101 hbox hb; have n0_ := Aside0.mk (Z5.bb BK101 Z5.z1 hb); have n1_ := Aside0.mk (below_step Z5.z12 hb); have n2_ := Aside0.mk (hbox); have n3_ := Aside0.mk (show w.heap.size ≤ gb102 from Z5.z60); have n4_ := Aside0.mk (show w.heap.size ≤ gb102 from Z5.z60); have n5_ := Aside0.mk (show gb101 ≠ gb102 from Z5.z51); have n6_ := Aside0.mk (show gb102 ≠ gb101 from Z5.z52); clear BK101 HB; have BK101 := n0_; have HB := n1_; have BK102 := n2_; have GW102 := n3_; have GE102 := n4_; have NB101_102 := n5_; have NB102_101 := n6_; clear n0_ n1_ n2_ n3_ n4_ n5_ n6_; clear hb hbox hg; have hnb102 := NB101_102.out; have hnc102 := NB102_101.out; have hcz103_0 : w101.cell? ⟨gb101, 0, none⟩ = some (.int .i64 a0_0) := (blk_cell BK101.out 0).trans rfl; have hcz103_1 : w101.cell? ⟨gb101, 1, none⟩ = some (.int .i64 a0_1) := (blk_cell BK101.out 1).trans rfl; have hcz103_2 : w101.cell? ⟨gb101, 2, none⟩ = some (.int .i64 a0_2) := (blk_cell BK101.out 2).trans rfl; have hcz103_3 : w101.cell? ⟨gb101, 3, none⟩ = some (.slice A0_3 l0_3.length c0_3) := (blk_cell BK101.out 3).trans rfl; have hfz103_0 := blk_frozen BK101.out 0; have hfz103_1 := blk_frozen BK101.out 1; have hfz103_2 := blk_frozen BK101.out 2; have hfz103_3 := blk_frozen BK101.out 3) | ((with_reducible refine gate_callee (f := 11) rfl ?_); refine goesL_ (some 12) rfl rfl Try.func11 (by kernel_rfl) rfl #[.agg #[.int .i64 a0_0, .int .i64 a0_1, .int .i64 a0_2, .slice A0_3 l0_3.length c0_3], .int .i64 1048576] rfl Z5.z4 ?_; (with_reducible refine (laws_szMatrix.calls a0_0 a0_1 a0_2 _ _ l0_3 1048576 t103 _ ?side1 ?side2 A3.out).mono ?_); (case side1 => exact Z5.z11); (case side2 => exact HC0_3.out); rintro e w104 ⟨rfl, hb⟩; refine ⟨_, rfl, ?_⟩; have n0_ := Aside0.mk (Z5.bb BK101 Z5.z1 hb); have n1_ := Aside0.mk (Z5.bb BK102 Z5.z2 hb); have n2_ := Aside0.mk (below_step Z5.z0 hb); clear BK101 BK102 HB; have BK101 := n0_; have BK102 := n1_; have HB := n2_; clear n0_ n1_ n2_; (try clear hb); (try clear hb2); (try clear hk); (try clear hi); have hcz105_0 : w104.cell? ⟨gb102, 0, none⟩ = some (.int .i64 a1_0) := (blk_cell BK102.out 0).trans rfl; have hcz105_1 : w104.cell? ⟨gb102, 1, none⟩ = some (.int .i64 a1_1) := (blk_cell BK102.out 1).trans rfl; have hcz105_2 : w104.cell? ⟨gb102, 2, none⟩ = some (.int .i64 a1_2) := (blk_cell BK102.out 2).trans rfl; have hcz105_3 : w104.cell? ⟨gb102, 3, none⟩ = some (.slice A1_3 l1_3.length c1_3) := (blk_cell BK102.out 3).trans rfl; have hfz105_0 := blk_frozen BK102.out 0; have hfz105_1 := blk_frozen BK102.out 1; have hfz105_2 := blk_frozen BK102.out 2; have hfz105_3 := blk_frozen BK102.out 3) | ((with_reducible refine gate_callee (f := 11) rfl ?_); refine goesL_ (some 17) rfl rfl Try.func11 (by kernel_rfl) rfl #[.agg #[.int .i64 a1_0, .int .i64 a1_1, .int .i64 a1_2, .slice A1_3 l1_3.length c1_3], .int .i64 t103] rfl Z5.z4 ?_; (with_reducible refine (laws_szMatrix.calls a1_0 a1_1 a1_2 _ _ l1_3 t103 t104 _ ?side1 ?side2 A10.out).mono ?_); (case side1 => exact Z5.z18); (case side2 => exact HC1_3.out); rintro e w106 ⟨rfl, hb⟩; refine ⟨_, rfl, ?_⟩; have n0_ := Aside0.mk (Z5.bb BK101 Z5.z1 hb); have n1_ := Aside0.mk (Z5.bb BK102 Z5.z2 hb); have n2_ := Aside0.mk (below_step Z5.z0 hb); clear BK101 BK102 HB; have BK101 := n0_; have BK102 := n1_; have HB := n2_; clear n0_ n1_ n2_; (try clear hb); (try clear hb2); (try clear hk); (try clear hi)))
  have n0_ := Aside0.mk (blk_drew BK101.out)
  have n1_ := Aside0.mk (blk_drew BK102.out)
  have n2_ := Aside0.mk (below_drew1 HB.out)
  clear BK101 BK102 HB
  have BK101 := n0_
  have BK102 := n1_
  have HB := n2_
  clear n0_ n1_ n2_
  refine start_ (n := 6) (S := fun w' => w'.cell? ⟨gb101, 0, none⟩ = some (.int .i64 a0_0) ∧ w'.cell? ⟨gb101, 1, none⟩ = some (.int .i64 a0_1) ∧ w'.cell? ⟨gb101, 2, none⟩ = some (.int .i64 a0_2) ∧ w'.cell? ⟨gb101, 3, none⟩ = some (.slice A0_3 l0_3.length c0_3) ∧ w'.cell? ⟨gb102, 0, none⟩ = some (.int .i64 a1_0) ∧ w'.cell? ⟨gb102, 1, none⟩ = some (.int .i64 a1_1) ∧ w'.cell? ⟨gb102, 2, none⟩ = some (.int .i64 a1_2) ∧ w'.cell? ⟨gb102, 3, none⟩ = some (.slice A1_3 l1_3.length c1_3)) (ds := []) #[false, false, false, false, false, false] (by kernel_rfl) rfl rfl Z5.z6 (fun hHeld => ?_)
  generalize w106.drew = w107 at BK101 BK102 HB hHeld ⊢
  refine take_ (i := 0) (N := some 20) (v := ?_) (a' := ?_) #[true, false, false, false, false, false] rfl rfl (by kernel_rfl) (fun _ _ _ h => h) (Or.inl ⟨(by rfl), ?_⟩) hHeld ?_ ?_
  rotate_left
  ·rintro w' ⟨s0, s1, s2, s3, s4, s5, s6, s7⟩
   go_simp
   with_reducible rfl
  rotate_left
  ·exact Z5.z13
  refine take_ (i := 2) (N := some 22) (v := ?_) (a' := ?_) #[true, false, true, false, false, false] rfl rfl (by kernel_rfl) (fun _ _ _ h => h) (Or.inl ⟨(by rfl), ?_⟩) hHeld ?_ ?_
  rotate_left
  ·rintro w' ⟨s0, s1, s2, s3, s4, s5, s6, s7⟩
   go_simp
   with_reducible rfl
  rotate_left
  ·exact Z5.z13
  refine one_ (i := 1) (N := some 21) #[true, true, true, false, false, false] rfl rfl (by kernel_rfl) (by decide) (fun K hK => ?_)
  refine goes_ Try.func13 (by kernel_rfl) rfl #[.agg #[.int .i64 a0_0, .int .i64 a0_1, .int .i64 a0_2, .slice A0_3 l0_3.length c0_3]] (by rfl) rfl rfl Z5.z4 ?_
  with_reducible refine (laws_toMatrix.calls k a0_0 a0_1 a0_2 _ _ l0_3 t105 t106 t107 t108 _ ?side1 ?side2 A19.out).mono ?_
  (case side1 => exact Z5.z11)
  (case side2 => exact HC0_3.out)
  rintro e w108 ⟨v109, rfl, ho0, hb⟩
  refine ⟨_, rfl, ?_⟩
  have n0_ := Aside0.mk (Kd.R_lower ho0 (below_size Z5.z0))
  have n1_ := Aside0.mk (Z5.bb BK101 Z5.z1 hb)
  have n2_ := Aside0.mk (Z5.bb BK102 Z5.z2 hb)
  have n3_ := Aside0.mk (below_step Z5.z0 hb)
  clear BK101 BK102 HB
  have HO110 := n0_
  have BK101 := n1_
  have BK102 := n2_
  have HB := n3_
  clear n0_ n1_ n2_ n3_
  (try clear hb)
  (try clear hb2)
  (try clear hk)
  (try clear hi)
  (try clear ho0)
  refine hK.out _ _ Z5.z6 (fun hHeld => ?_)
  clear hK K
  refine norm_ (a' := ?_) ?_ ?_
  rotate_left
  ·show Act.put _ (some 21) _ = _
   simp only [Act.put, List.setIfInBounds_toArray, List.set_cons_zero, List.set_cons_succ, i64_w, i32_w]
   rfl
  refine one_ (i := 3) (N := some 23) #[true, true, true, true, false, false] rfl rfl (by kernel_rfl) (by decide) (fun K hK => ?_)
  refine goes_ Try.func13 (by kernel_rfl) rfl #[.agg #[.int .i64 a1_0, .int .i64 a1_1, .int .i64 a1_2, .slice A1_3 l1_3.length c1_3]] (by rfl) rfl rfl Z5.z4 ?_
  with_reducible refine (laws_toMatrix.calls k a1_0 a1_1 a1_2 _ _ l1_3 t111 t112 t113 t114 _ ?side1 ?side2 A20.out).mono ?_
  (case side1 => exact Z5.z18)
  (case side2 => exact HC1_3.out)
  rintro e w109 ⟨v115, rfl, ho0, hb⟩
  refine ⟨_, rfl, ?_⟩
  have n0_ := Aside0.mk (Kd.R_elder' Z5.z7 (Kd.R_base ho0) hb)
  have n1_ := Aside0.mk (Kd.R_lower (Kd.R_new' ho0 (Kd.R_lt Z5.z7)) (below_size Z5.z0))
  have n2_ := Aside0.mk (Z5.bb BK101 Z5.z1 hb)
  have n3_ := Aside0.mk (Z5.bb BK102 Z5.z2 hb)
  have n4_ := Aside0.mk (below_step Z5.z0 hb)
  clear HO110 BK101 BK102 HB
  have HO110 := n0_
  have HO116 := n1_
  have BK101 := n2_
  have BK102 := n3_
  have HB := n4_
  clear n0_ n1_ n2_ n3_ n4_
  (try clear hb)
  (try clear hb2)
  (try clear hk)
  (try clear hi)
  (try clear ho0)
  obtain ⟨Ao110, co110, eo110⟩ := Kd.R_slice HO110.out
  (first | subst eo110 | (injection eo110 with f1_ f2_ f3_; have f4_ := f1_.symm; have f5_ := f3_.symm; clear f1_ f2_ f3_; subst f4_; subst f5_))
  obtain ⟨Ao111, co111, eo111⟩ := Kd.R_slice HO116.out
  (first | subst eo111 | (injection eo111 with f1_ f2_ f3_; have f4_ := f1_.symm; have f5_ := f3_.symm; clear f1_ f2_ f3_; subst f4_; subst f5_))
  refine hK.out _ _ Z5.z6 (fun hHeld => ?_)
  clear hK K
  refine norm_ (a' := ?_) ?_ ?_
  rotate_left
  ·show Act.put _ (some 23) _ = _
   simp only [Act.put, List.setIfInBounds_toArray, List.set_cons_zero, List.set_cons_succ, i64_w, i32_w]
   rfl
  refine one_ (i := 4) (N := some 24) #[true, true, true, true, true, false] rfl rfl (by kernel_rfl) (by decide) (fun K hK => ?_)
  refine goes_ Try.func12 (by kernel_rfl) rfl #[.agg #[.int .i64 t105, .int .i64 t106, .int .i64 t107, .slice Ao110 t108.length co110], .agg #[.int .i64 t111, .int .i64 t112, .int .i64 t113, .slice Ao111 t114.length co111]] (by rfl) rfl rfl Z5.z4 ?_
  with_reducible refine (spec_SameMatrix.calls k t105 t106 t107 _ _ t108 t111 t112 t113 _ _ t114 t117 _ ?side1 ?side2 ?side3 ?side4 A21.out).mono ?_
  (case side1 => exact Z5.z24)
  (case side2 => exact (Kd.R_reads' HO110.out).2.1)
  (case side3 => exact Z5.z23)
  (case side4 => exact (Kd.R_reads' HO116.out).2.1)
  rintro e w112 ⟨rfl, hb⟩
  refine ⟨_, rfl, ?_⟩
  have n0_ := Aside0.mk (Kd.R_below Z5.z7 hb)
  have n1_ := Aside0.mk (Kd.R_below Z5.z8 hb)
  have n2_ := Aside0.mk (Z5.bb BK101 Z5.z1 hb)
  have n3_ := Aside0.mk (Z5.bb BK102 Z5.z2 hb)
  have n4_ := Aside0.mk (below_step Z5.z0 hb)
  clear HO110 HO116 BK101 BK102 HB
  have HO110 := n0_
  have HO116 := n1_
  have BK101 := n2_
  have BK102 := n3_
  have HB := n4_
  clear n0_ n1_ n2_ n3_ n4_
  (try clear hb)
  (try clear hb2)
  (try clear hk)
  (try clear hi)
  refine hK.out _ _ Z5.z6 (fun hHeld => ?_)
  clear hK K
  refine norm_ (a' := ?_) ?_ ?_
  rotate_left
  ·show Act.put _ (some 24) _ = _
   simp only [Act.put, List.setIfInBounds_toArray, List.set_cons_zero, List.set_cons_succ, i64_w, i32_w]
   rfl
  refine pure_ (i := 5) (N := some 6) (v := ?_) (a' := ?_) #[true, true, true, true, true, true] rfl rfl (by kernel_rfl) (fun _ _ _ h => h) (Or.inl ⟨(by rfl), ?_⟩) ?_ ?_
  rotate_left
  ·intro w'
   go_simp
   with_reducible rfl
  rotate_left
  ·exact Z5.z13
  refine done_ (by kernel_rfl) ?_
  have hcz113_0 : w112.cell? ⟨gb101, 0, none⟩ = some (.int .i64 a0_0) := (blk_cell BK101.out 0).trans rfl
  have hcz113_1 : w112.cell? ⟨gb101, 1, none⟩ = some (.int .i64 a0_1) := (blk_cell BK101.out 1).trans rfl
  have hcz113_2 : w112.cell? ⟨gb101, 2, none⟩ = some (.int .i64 a0_2) := (blk_cell BK101.out 2).trans rfl
  have hcz113_3 : w112.cell? ⟨gb101, 3, none⟩ = some (.slice A0_3 l0_3.length c0_3) := (blk_cell BK101.out 3).trans rfl
  have hfz113_0 := blk_frozen BK101.out 0
  have hfz113_1 := blk_frozen BK101.out 1
  have hfz113_2 := blk_frozen BK101.out 2
  have hfz113_3 := blk_frozen BK101.out 3
  try go_wp2_with (first | ((with_reducible refine gate_callee (f := 13) rfl ?_); refine goesL_ (some 26) rfl rfl Try.func13 (by kernel_rfl) rfl #[.agg #[.int .i64 a0_0, .int .i64 a0_1, .int .i64 a0_2, .slice A0_3 l0_3.length c0_3]] rfl Z5.z4 ?_; (with_reducible refine (laws_toMatrix.calls k a0_0 a0_1 a0_2 _ _ l0_3 t118 t119 t120 t121 _ ?side1 ?side2 A22.out).mono ?_); (case side1 => exact Z5.z11); (case side2 => exact HC0_3.out); rintro e w114 ⟨v122, rfl, ho0, hb⟩; refine ⟨_, rfl, ?_⟩; have n0_ := Aside0.mk (Kd.R_elder' Z5.z7 (Kd.R_base ho0) hb); have n1_ := Aside0.mk (Kd.R_elder' Z5.z8 (Kd.R_base ho0) hb); have n2_ := Aside0.mk (Kd.R_lower (Kd.R_new' (Kd.R_new' ho0 (Kd.R_lt Z5.z7)) (Kd.R_lt Z5.z8)) (below_size Z5.z0)); have n3_ := Aside0.mk (Z5.bb BK101 Z5.z1 hb); have n4_ := Aside0.mk (Z5.bb BK102 Z5.z2 hb); have n5_ := Aside0.mk (below_step Z5.z0 hb); clear HO110 HO116 BK101 BK102 HB; have HO110 := n0_; have HO116 := n1_; have HO123 := n2_; have BK101 := n3_; have BK102 := n4_; have HB := n5_; clear n0_ n1_ n2_ n3_ n4_ n5_; (try clear hb); (try clear hb2); (try clear hk); (try clear hi); (try clear ho0)) | ((with_reducible refine gate_dst (N := 7) rfl ?_); refine box_event ?hg (N := 7) ?hd (cs := #[.int .i64 0, .int .i64 0, .int .i64 0, .slice none 0 0]) (t := 30) ?hr ?_; (case hd => rfl); (case hg => rfl); (case hr => first | (go_simp; done) | (go_simp; rfl)); intro gb124 hg w115 hbox hb; have n0_ := Aside0.mk (Kd.R_below Z5.z7 hb); have n1_ := Aside0.mk (Kd.R_below Z5.z8 hb); have n2_ := Aside0.mk (Kd.R_below Z5.z17 hb); have n3_ := Aside0.mk (Z5.bb BK101 Z5.z1 hb); have n4_ := Aside0.mk (Z5.bb BK102 Z5.z2 hb); have n5_ := Aside0.mk (below_step Z5.z0 hb); have n6_ := Aside0.mk (hbox); have n7_ := Aside0.mk (show w.heap.size ≤ gb124 from (by rw [hg]; exact (below_size Z5.z0))); have n8_ := Aside0.mk (show w.heap.size ≤ gb124 from (by rw [hg]; exact (below_size Z5.z0))); have n9_ := Aside0.mk (show gb101 ≠ gb124 from Z5.z51); have n10_ := Aside0.mk (show gb124 ≠ gb101 from Z5.z52); have n11_ := Aside0.mk (show gb102 ≠ gb124 from Z5.z55); have n12_ := Aside0.mk (show gb124 ≠ gb102 from Z5.z56); clear HO110 HO116 HO123 BK101 BK102 HB; have HO110 := n0_; have HO116 := n1_; have HO123 := n2_; have BK101 := n3_; have BK102 := n4_; have HB := n5_; have BK124 := n6_; have GW124 := n7_; have GE124 := n8_; have NB101_124 := n9_; have NB124_101 := n10_; have NB102_124 := n11_; have NB124_102 := n12_; clear n0_ n1_ n2_ n3_ n4_ n5_ n6_ n7_ n8_ n9_ n10_ n11_ n12_; clear hb hbox hg; have hnb116 := NB124_101.out; have hnc116 := NB101_124.out; have hnb117 := NB124_102.out; have hnc117 := NB102_124.out; have hcz118_0 : w115.cell? ⟨gb124, 0, none⟩ = some (.int .i64 0) := (blk_cell BK124.out 0).trans rfl; have hcz118_1 : w115.cell? ⟨gb124, 1, none⟩ = some (.int .i64 0) := (blk_cell BK124.out 1).trans rfl; have hcz118_2 : w115.cell? ⟨gb124, 2, none⟩ = some (.int .i64 0) := (blk_cell BK124.out 2).trans rfl; have hcz118_3 : w115.cell? ⟨gb124, 3, none⟩ = some (.slice none 0 0) := (blk_cell BK124.out 3).trans rfl; have hfz118_0 := blk_frozen BK124.out 0; have hfz118_1 := blk_frozen BK124.out 1; have hfz118_2 := blk_frozen BK124.out 2; have hfz118_3 := blk_frozen BK124.out 3; obtain ⟨Ao119, co119, eo119⟩ := Kd.R_slice HO123.out; subst eo119; have hcz120_0 : w115.cell? ⟨gb102, 0, none⟩ = some (.int .i64 a1_0) := (blk_cell BK102.out 0).trans rfl; have hcz120_1 : w115.cell? ⟨gb102, 1, none⟩ = some (.int .i64 a1_1) := (blk_cell BK102.out 1).trans rfl; have hcz120_2 : w115.cell? ⟨gb102, 2, none⟩ = some (.int .i64 a1_2) := (blk_cell BK102.out 2).trans rfl; have hcz120_3 : w115.cell? ⟨gb102, 3, none⟩ = some (.slice A1_3 l1_3.length c1_3) := (blk_cell BK102.out 3).trans rfl; have hfz120_0 := blk_frozen BK102.out 0; have hfz120_1 := blk_frozen BK102.out 1; have hfz120_2 := blk_frozen BK102.out 2; have hfz120_3 := blk_frozen BK102.out 3) | ((with_reducible refine gate_callee (f := 13) rfl ?_); refine goesL_ (some 28) rfl rfl Try.func13 (by kernel_rfl) rfl #[.agg #[.int .i64 a1_0, .int .i64 a1_1, .int .i64 a1_2, .slice A1_3 l1_3.length c1_3]] rfl Z5.z4 ?_; (with_reducible refine (laws_toMatrix.calls k a1_0 a1_1 a1_2 _ _ l1_3 t125 t126 t127 t128 _ ?side1 ?side2 A23.out).mono ?_); (case side1 => exact (by exact Kd.C_below HR1_3.out Z5.z5)); (case side2 => exact HC1_3.out); rintro e w121 ⟨v129, rfl, ho0, hb⟩; refine ⟨_, rfl, ?_⟩; have n0_ := Aside0.mk (Kd.R_elder' Z5.z34 (Kd.R_base ho0) hb); have n1_ := Aside0.mk (Kd.R_elder' Z5.z32 (Kd.R_base ho0) hb); have n2_ := Aside0.mk (Kd.R_elder' Z5.z30 (Kd.R_base ho0) hb); have n3_ := Aside0.mk (Kd.R_lower (Kd.R_new' (Kd.R_new' (Kd.R_new' ho0 (Kd.R_lt Z5.z34)) (Kd.R_lt Z5.z32)) (Kd.R_lt Z5.z30)) (below_size Z5.z5)); have n4_ := Aside0.mk (Z5.bb BK101 Z5.z49 hb); have n5_ := Aside0.mk (Z5.bb BK102 Z5.z47 hb); have n6_ := Aside0.mk (blk_below (g := gb124) (o := .cells #[.int .i64 t118, .int .i64 t119, .int .i64 t120, .slice Ao119 t121.length co119] 30 (0, 0)) Z5.z10 hb); have n7_ := Aside0.mk (below_step Z5.z5 hb); clear HO110 HO116 HO123 BK101 BK102 BK124 HB; have HO110 := n0_; have HO116 := n1_; have HO123 := n2_; have HO130 := n3_; have BK101 := n4_; have BK102 := n5_; have BK124 := n6_; have HB := n7_; clear n0_ n1_ n2_ n3_ n4_ n5_ n6_ n7_; (try clear hb); (try clear hb2); (try clear hk); (try clear hi); (try clear ho0)) | ((with_reducible refine gate_dst (N := 8) rfl ?_); refine box_event ?hg (N := 8) ?hd (cs := #[.int .i64 0, .int .i64 0, .int .i64 0, .slice none 0 0]) (t := 30) ?hr ?_; (case hd => rfl); (case hg => rfl); (case hr => first | (go_simp; done) | (go_simp; rfl)); intro gb131 hg w122 hbox hb; have n0_ := Aside0.mk (Kd.R_below Z5.z7 hb); have n1_ := Aside0.mk (Kd.R_below Z5.z8 hb); have n2_ := Aside0.mk (Kd.R_below Z5.z17 hb); have n3_ := Aside0.mk (Kd.R_below Z5.z19 hb); have n4_ := Aside0.mk (Z5.bb BK101 Z5.z1 hb); have n5_ := Aside0.mk (Z5.bb BK102 Z5.z2 hb); have n6_ := Aside0.mk (Z5.bb BK124 Z5.z15 hb); have n7_ := Aside0.mk (below_step Z5.z5 hb); have n8_ := Aside0.mk (hbox); have n9_ := Aside0.mk (show w.heap.size ≤ gb131 from (by rw [hg]; exact (below_size Z5.z5))); have n10_ := Aside0.mk (show w.heap.size ≤ gb131 from (by rw [hg]; exact (below_size Z5.z5))); have n11_ := Aside0.mk (show gb101 ≠ gb131 from Z5.z51); have n12_ := Aside0.mk (show gb131 ≠ gb101 from Z5.z52); have n13_ := Aside0.mk (show gb102 ≠ gb131 from Z5.z55); have n14_ := Aside0.mk (show gb131 ≠ gb102 from Z5.z56); have n15_ := Aside0.mk (show gb124 ≠ gb131 from (by rw [hg]; exact Nat.ne_of_lt (Z5.bl BK124 Z5.z15))); have n16_ := Aside0.mk (show gb131 ≠ gb124 from (by rw [hg]; exact Nat.ne_of_gt (Z5.bl BK124 Z5.z15))); clear HO110 HO116 HO123 HO130 BK101 BK102 BK124 HB; have HO110 := n0_; have HO116 := n1_; have HO123 := n2_; have HO130 := n3_; have BK101 := n4_; have BK102 := n5_; have BK124 := n6_; have HB := n7_; have BK131 := n8_; have GW131 := n9_; have GE131 := n10_; have NB101_131 := n11_; have NB131_101 := n12_; have NB102_131 := n13_; have NB131_102 := n14_; have NB124_131 := n15_; have NB131_124 := n16_; clear n0_ n1_ n2_ n3_ n4_ n5_ n6_ n7_ n8_ n9_ n10_ n11_ n12_ n13_ n14_ n15_ n16_; clear hb hbox hg; have hnb123 := NB131_101.out; have hnc123 := NB101_131.out; have hnb124 := NB131_102.out; have hnc124 := NB102_131.out; have hnb125 := NB131_124.out; have hnc125 := NB124_131.out; have hcz126_0 : w122.cell? ⟨gb131, 0, none⟩ = some (.int .i64 0) := (blk_cell BK131.out 0).trans rfl; have hcz126_1 : w122.cell? ⟨gb131, 1, none⟩ = some (.int .i64 0) := (blk_cell BK131.out 1).trans rfl; have hcz126_2 : w122.cell? ⟨gb131, 2, none⟩ = some (.int .i64 0) := (blk_cell BK131.out 2).trans rfl; have hcz126_3 : w122.cell? ⟨gb131, 3, none⟩ = some (.slice none 0 0) := (blk_cell BK131.out 3).trans rfl; have hfz126_0 := blk_frozen BK131.out 0; have hfz126_1 := blk_frozen BK131.out 1; have hfz126_2 := blk_frozen BK131.out 2; have hfz126_3 := blk_frozen BK131.out 3; obtain ⟨Ao127, co127, eo127⟩ := Kd.R_slice HO130.out; subst eo127; have hcz128_0 : w122.cell? ⟨gb124, 0, none⟩ = some (.int .i64 t118) := (blk_cell BK124.out 0).trans rfl; have hcz128_1 : w122.cell? ⟨gb124, 1, none⟩ = some (.int .i64 t119) := (blk_cell BK124.out 1).trans rfl; have hcz128_2 : w122.cell? ⟨gb124, 2, none⟩ = some (.int .i64 t120) := (blk_cell BK124.out 2).trans rfl; have hcz128_3 : w122.cell? ⟨gb124, 3, none⟩ = some (.slice Ao119 t121.length co119) := (blk_cell BK124.out 3).trans rfl; have hfz128_0 := blk_frozen BK124.out 0; have hfz128_1 := blk_frozen BK124.out 1; have hfz128_2 := blk_frozen BK124.out 2; have hfz128_3 := blk_frozen BK124.out 3) | ((with_reducible refine gate_callee (f := 14) rfl ?_); refine goesL_ (some 31) rfl rfl Try.func14 (by kernel_rfl) rfl #[.agg #[.int .i64 t118, .int .i64 t119, .int .i64 t120, .slice Ao119 t121.length co119], .agg #[.int .i64 t125, .int .i64 t126, .int .i64 t127, .slice Ao127 t128.length co127]] rfl Z5.z4 ?_; (with_reducible refine (impl_SameMatrix.calls k t118 t119 t120 _ _ t121 t125 t126 t127 _ _ t128 t132 _ ?side1 ?side2 ?side3 ?side4 A24.out).mono ?_); (case side1 => exact (by refine (Kd.R_reads' (e := 2) (base := w.heap.size) (ok := fun k_ => (((True ∧ some k_ ≠ (.slice Ao110 t108.length co110 : Value).ownBlock) ∧ some k_ ≠ (.slice Ao111 t114.length co111 : Value).ownBlock) ∧ some k_ ≠ (.slice Ao127 t128.length co127 : Value).ownBlock)) (n := t121.length) (c := co119) ?_).2.2; exact Z5.z28)); (case side2 => exact (Kd.R_reads' HO123.out).2.1); (case side3 => exact (by refine (Kd.R_reads' (e := 2) (base := w.heap.size) (ok := fun k_ => (((True ∧ some k_ ≠ (.slice Ao110 t108.length co110 : Value).ownBlock) ∧ some k_ ≠ (.slice Ao111 t114.length co111 : Value).ownBlock) ∧ some k_ ≠ (.slice Ao119 t121.length co119 : Value).ownBlock)) (n := t128.length) (c := co127) ?_).2.2; exact Z5.z26)); (case side4 => exact (Kd.R_reads' HO130.out).2.1); rintro e w129 ⟨rfl, hb⟩; refine ⟨_, rfl, ?_⟩; have n0_ := Aside0.mk (Kd.R_below (by (with_reducible repeat (first | apply Kd.R_alloc | apply Kd.R_drewN | apply Kd.R_drew)); exact (Kd.R_mono (Kd.R_far (p := ⟨gb131, 3, none⟩) (Kd.R_far (p := ⟨gb131, 2, none⟩) (Kd.R_far (p := ⟨gb131, 1, none⟩) (Kd.R_far (p := ⟨gb131, 0, none⟩) (Kd.R_types HO110.out BK131.out (by decide)) (fun _ hk => hk.2) (.int .i64 t125)) (fun _ hk => hk.2) (.int .i64 t126)) (fun _ hk => hk.2) (.int .i64 t127)) (fun _ hk => hk.2) (.slice Ao127 t128.length co127)) (fun _ h_ => h_.1))) hb); have n1_ := Aside0.mk (Kd.R_below (by (with_reducible repeat (first | apply Kd.R_alloc | apply Kd.R_drewN | apply Kd.R_drew)); exact (Kd.R_mono (Kd.R_far (p := ⟨gb131, 3, none⟩) (Kd.R_far (p := ⟨gb131, 2, none⟩) (Kd.R_far (p := ⟨gb131, 1, none⟩) (Kd.R_far (p := ⟨gb131, 0, none⟩) (Kd.R_types HO116.out BK131.out (by decide)) (fun _ hk => hk.2) (.int .i64 t125)) (fun _ hk => hk.2) (.int .i64 t126)) (fun _ hk => hk.2) (.int .i64 t127)) (fun _ hk => hk.2) (.slice Ao127 t128.length co127)) (fun _ h_ => h_.1))) hb); have n2_ := Aside0.mk (Kd.R_below Z5.z28 hb); have n3_ := Aside0.mk (Kd.R_below Z5.z26 hb); have n4_ := Aside0.mk (Z5.bb BK101 Z5.z48 hb); have n5_ := Aside0.mk (Z5.bb BK102 Z5.z46 hb); have n6_ := Aside0.mk (Z5.bb BK124 Z5.z45 hb); have n7_ := Aside0.mk (blk_below (g := gb131) (o := .cells #[.int .i64 t125, .int .i64 t126, .int .i64 t127, .slice Ao127 t128.length co127] 30 (0, 0)) Z5.z9 hb); have n8_ := Aside0.mk (below_step Z5.z3 hb); clear HO110 HO116 HO123 HO130 BK101 BK102 BK124 BK131 HB; have HO110 := n0_; have HO116 := n1_; have HO123 := n2_; have HO130 := n3_; have BK101 := n4_; have BK102 := n5_; have BK124 := n6_; have BK131 := n7_; have HB := n8_; clear n0_ n1_ n2_ n3_ n4_ n5_ n6_ n7_ n8_; (try clear hb); (try clear hb2); (try clear hk); (try clear hi)))
  have n0_ := Aside0.mk (Kd.R_drew HO110.out)
  have n1_ := Aside0.mk (Kd.R_drew HO116.out)
  have n2_ := Aside0.mk (Kd.R_drew HO123.out)
  have n3_ := Aside0.mk (Kd.R_drew HO130.out)
  have n4_ := Aside0.mk (blk_drew BK101.out)
  have n5_ := Aside0.mk (blk_drew BK102.out)
  have n6_ := Aside0.mk (blk_drew BK124.out)
  have n7_ := Aside0.mk (blk_drew BK131.out)
  have n8_ := Aside0.mk (below_drew1 HB.out)
  clear HO110 HO116 HO123 HO130 BK101 BK102 BK124 BK131 HB
  have HO110 := n0_
  have HO116 := n1_
  have HO123 := n2_
  have HO130 := n3_
  have BK101 := n4_
  have BK102 := n5_
  have BK124 := n6_
  have BK131 := n7_
  have HB := n8_
  clear n0_ n1_ n2_ n3_ n4_ n5_ n6_ n7_ n8_
  refine start_ (n := 5) (S := fun w' => w'.cell? ⟨gb124, 0, none⟩ = some (.int .i64 t118) ∧ w'.cell? ⟨gb124, 1, none⟩ = some (.int .i64 t119) ∧ w'.cell? ⟨gb124, 2, none⟩ = some (.int .i64 t120) ∧ w'.cell? ⟨gb124, 3, none⟩ = some (.slice Ao119 t121.length co119) ∧ w'.cell? ⟨gb101, 0, none⟩ = some (.int .i64 a0_0) ∧ w'.cell? ⟨gb101, 1, none⟩ = some (.int .i64 a0_1) ∧ w'.cell? ⟨gb101, 2, none⟩ = some (.int .i64 a0_2) ∧ w'.cell? ⟨gb101, 3, none⟩ = some (.slice A0_3 l0_3.length c0_3)) (ds := []) #[false, false, false, false, false] (by kernel_rfl) rfl rfl Z5.z14 (fun hHeld => ?_)
  generalize w129.drew = w130 at HO110 HO116 HO123 HO130 BK101 BK102 BK124 BK131 HB hHeld ⊢
  refine take_ (i := 0) (N := some 35) (v := ?_) (a' := ?_) #[true, false, false, false, false] rfl rfl (by kernel_rfl) (fun _ _ _ h => h) (Or.inl ⟨(by rfl), ?_⟩) hHeld ?_ ?_
  rotate_left
  ·rintro w' ⟨s0, s1, s2, s3, s4, s5, s6, s7⟩
   go_simp
   with_reducible rfl
  rotate_left
  ·exact Z5.z13
  refine take_ (i := 1) (N := some 36) (v := ?_) (a' := ?_) #[true, true, false, false, false] rfl rfl (by kernel_rfl) (fun _ _ _ h => h) (Or.inl ⟨(by rfl), ?_⟩) hHeld ?_ ?_
  rotate_left
  ·rintro w' ⟨s0, s1, s2, s3, s4, s5, s6, s7⟩
   go_simp
   with_reducible rfl
  rotate_left
  ·exact Z5.z13
  refine one_ (i := 2) (N := some 37) #[true, true, true, false, false] rfl rfl (by kernel_rfl) (by decide) (fun K hK => ?_)
  refine goes_ Try.func13 (by kernel_rfl) rfl #[.agg #[.int .i64 a0_0, .int .i64 a0_1, .int .i64 a0_2, .slice A0_3 l0_3.length c0_3]] (by rfl) rfl rfl Z5.z4 ?_
  with_reducible refine (laws_toMatrix.calls k a0_0 a0_1 a0_2 _ _ l0_3 t133 t134 t135 t136 _ ?side1 ?side2 A56.out).mono ?_
  (case side1 => exact Z5.z11)
  (case side2 => exact HC0_3.out)
  rintro e w131 ⟨v137, rfl, ho0, hb⟩
  refine ⟨_, rfl, ?_⟩
  have n0_ := Aside0.mk (Kd.R_elder' Z5.z7 (Kd.R_base ho0) hb)
  have n1_ := Aside0.mk (Kd.R_elder' Z5.z8 (Kd.R_base ho0) hb)
  have n2_ := Aside0.mk (Kd.R_elder' Z5.z17 (Kd.R_base ho0) hb)
  have n3_ := Aside0.mk (Kd.R_elder' Z5.z19 (Kd.R_base ho0) hb)
  have n4_ := Aside0.mk (Kd.R_lower (Kd.R_new' (Kd.R_new' (Kd.R_new' (Kd.R_new' ho0 (Kd.R_lt Z5.z7)) (Kd.R_lt Z5.z8)) (Kd.R_lt Z5.z17)) (Kd.R_lt Z5.z19)) (below_size Z5.z3))
  have n5_ := Aside0.mk (Z5.bb BK101 Z5.z1 hb)
  have n6_ := Aside0.mk (Z5.bb BK102 Z5.z2 hb)
  have n7_ := Aside0.mk (Z5.bb BK124 Z5.z15 hb)
  have n8_ := Aside0.mk (Z5.bb BK131 Z5.z21 hb)
  have n9_ := Aside0.mk (below_step Z5.z3 hb)
  clear HO110 HO116 HO123 HO130 BK101 BK102 BK124 BK131 HB
  have HO110 := n0_
  have HO116 := n1_
  have HO123 := n2_
  have HO130 := n3_
  have HO138 := n4_
  have BK101 := n5_
  have BK102 := n6_
  have BK124 := n7_
  have BK131 := n8_
  have HB := n9_
  clear n0_ n1_ n2_ n3_ n4_ n5_ n6_ n7_ n8_ n9_
  (try clear hb)
  (try clear hb2)
  (try clear hk)
  (try clear hi)
  (try clear ho0)
  obtain ⟨Ao132, co132, eo132⟩ := Kd.R_slice HO138.out
  (first | subst eo132 | (injection eo132 with f1_ f2_ f3_; have f4_ := f1_.symm; have f5_ := f3_.symm; clear f1_ f2_ f3_; subst f4_; subst f5_))
  refine hK.out _ _ Z5.z14 (fun hHeld => ?_)
  clear hK K
  refine norm_ (a' := ?_) ?_ ?_
  rotate_left
  ·show Act.put _ (some 37) _ = _
   simp only [Act.put, List.setIfInBounds_toArray, List.set_cons_zero, List.set_cons_succ, i64_w, i32_w]
   rfl
  refine one_ (i := 3) (N := some 38) #[true, true, true, true, false] rfl rfl (by kernel_rfl) (by decide) (fun K hK => ?_)
  refine goes_ Try.func15 (by kernel_rfl) rfl #[.agg #[.int .i64 t118, .int .i64 t119, .int .i64 t120, .slice Ao119 t121.length co119], .agg #[.int .i64 t133, .int .i64 t134, .int .i64 t135, .slice Ao132 t136.length co132]] (by rfl) rfl rfl Z5.z4 ?_
  with_reducible refine (laws_eqMatrix.calls k t118 t119 t120 _ _ t121 t133 t134 t135 _ _ t136 true _ ?side1 ?side2 ?side3 ?side4 A57.out).mono ?_
  (case side1 => exact Z5.z54)
  (case side2 => exact (Kd.R_reads' HO123.out).2.1)
  (case side3 => exact Z5.z53)
  (case side4 => exact (Kd.R_reads' HO138.out).2.1)
  rintro e w133 ⟨rfl, hb⟩
  refine ⟨_, rfl, ?_⟩
  have n0_ := Aside0.mk (Kd.R_below Z5.z7 hb)
  have n1_ := Aside0.mk (Kd.R_below Z5.z8 hb)
  have n2_ := Aside0.mk (Kd.R_below Z5.z17 hb)
  have n3_ := Aside0.mk (Kd.R_below Z5.z19 hb)
  have n4_ := Aside0.mk (Kd.R_below Z5.z22 hb)
  have n5_ := Aside0.mk (Z5.bb BK101 Z5.z1 hb)
  have n6_ := Aside0.mk (Z5.bb BK102 Z5.z2 hb)
  have n7_ := Aside0.mk (Z5.bb BK124 Z5.z15 hb)
  have n8_ := Aside0.mk (Z5.bb BK131 Z5.z21 hb)
  have n9_ := Aside0.mk (below_step Z5.z3 hb)
  clear HO110 HO116 HO123 HO130 HO138 BK101 BK102 BK124 BK131 HB
  have HO110 := n0_
  have HO116 := n1_
  have HO123 := n2_
  have HO130 := n3_
  have HO138 := n4_
  have BK101 := n5_
  have BK102 := n6_
  have BK124 := n7_
  have BK131 := n8_
  have HB := n9_
  clear n0_ n1_ n2_ n3_ n4_ n5_ n6_ n7_ n8_ n9_
  (try clear hb)
  (try clear hb2)
  (try clear hk)
  (try clear hi)
  refine hK.out _ _ Z5.z14 (fun hHeld => ?_)
  clear hK K
  refine norm_ (a' := ?_) ?_ ?_
  rotate_left
  ·show Act.put _ (some 38) _ = _
   simp only [Act.put, List.setIfInBounds_toArray, List.set_cons_zero, List.set_cons_succ, i64_w, i32_w]
   rfl
  refine pure_ (i := 4) (N := some 39) (v := ?_) (a' := ?_) #[true, true, true, true, true] rfl rfl (by kernel_rfl) (fun _ _ _ h => h) (Or.inl ⟨(by rfl), ?_⟩) ?_ ?_
  rotate_left
  ·intro w'
   go_simp
   with_reducible rfl
  rotate_left
  ·exact Z5.z13
  refine done_ (by kernel_rfl) ?_
  try go_wp2
  have n0_ := Aside0.mk (Kd.R_drew HO110.out)
  have n1_ := Aside0.mk (Kd.R_drew HO116.out)
  have n2_ := Aside0.mk (Kd.R_drew HO123.out)
  have n3_ := Aside0.mk (Kd.R_drew HO130.out)
  have n4_ := Aside0.mk (Kd.R_drew HO138.out)
  have n5_ := Aside0.mk (blk_drew BK101.out)
  have n6_ := Aside0.mk (blk_drew BK102.out)
  have n7_ := Aside0.mk (blk_drew BK124.out)
  have n8_ := Aside0.mk (blk_drew BK131.out)
  have n9_ := Aside0.mk (below_drew1 HB.out)
  clear HO110 HO116 HO123 HO130 HO138 BK101 BK102 BK124 BK131 HB
  have HO110 := n0_
  have HO116 := n1_
  have HO123 := n2_
  have HO130 := n3_
  have HO138 := n4_
  have BK101 := n5_
  have BK102 := n6_
  have BK124 := n7_
  have BK131 := n8_
  have HB := n9_
  clear n0_ n1_ n2_ n3_ n4_ n5_ n6_ n7_ n8_ n9_
  refine start_ (n := 5) (S := fun w' => w'.cell? ⟨gb131, 0, none⟩ = some (.int .i64 t125) ∧ w'.cell? ⟨gb131, 1, none⟩ = some (.int .i64 t126) ∧ w'.cell? ⟨gb131, 2, none⟩ = some (.int .i64 t127) ∧ w'.cell? ⟨gb131, 3, none⟩ = some (.slice Ao127 t128.length co127) ∧ w'.cell? ⟨gb102, 0, none⟩ = some (.int .i64 a1_0) ∧ w'.cell? ⟨gb102, 1, none⟩ = some (.int .i64 a1_1) ∧ w'.cell? ⟨gb102, 2, none⟩ = some (.int .i64 a1_2) ∧ w'.cell? ⟨gb102, 3, none⟩ = some (.slice A1_3 l1_3.length c1_3)) (ds := []) #[false, false, false, false, false] (by kernel_rfl) rfl rfl Z5.z20 (fun hHeld => ?_)
  generalize w133.drew = w134 at HO110 HO116 HO123 HO130 HO138 BK101 BK102 BK124 BK131 HB hHeld ⊢
  refine take_ (i := 0) (N := some 40) (v := ?_) (a' := ?_) #[true, false, false, false, false] rfl rfl (by kernel_rfl) (fun _ _ _ h => h) (Or.inl ⟨(by rfl), ?_⟩) hHeld ?_ ?_
  rotate_left
  ·rintro w' ⟨s0, s1, s2, s3, s4, s5, s6, s7⟩
   go_simp
   with_reducible rfl
  rotate_left
  ·exact Z5.z13
  refine take_ (i := 1) (N := some 41) (v := ?_) (a' := ?_) #[true, true, false, false, false] rfl rfl (by kernel_rfl) (fun _ _ _ h => h) (Or.inl ⟨(by rfl), ?_⟩) hHeld ?_ ?_
  rotate_left
  ·rintro w' ⟨s0, s1, s2, s3, s4, s5, s6, s7⟩
   go_simp
   with_reducible rfl
  rotate_left
  ·exact Z5.z13
  refine one_ (i := 2) (N := some 42) #[true, true, true, false, false] rfl rfl (by kernel_rfl) (by decide) (fun K hK => ?_)
  refine goes_ Try.func13 (by kernel_rfl) rfl #[.agg #[.int .i64 a1_0, .int .i64 a1_1, .int .i64 a1_2, .slice A1_3 l1_3.length c1_3]] (by rfl) rfl rfl Z5.z4 ?_
  with_reducible refine (laws_toMatrix.calls k a1_0 a1_1 a1_2 _ _ l1_3 t140 t141 t142 t143 _ ?side1 ?side2 A59.out).mono ?_
  (case side1 => exact Z5.z18)
  (case side2 => exact HC1_3.out)
  rintro e w135 ⟨v144, rfl, ho0, hb⟩
  refine ⟨_, rfl, ?_⟩
  have n0_ := Aside0.mk (Kd.R_elder' Z5.z7 (Kd.R_base ho0) hb)
  have n1_ := Aside0.mk (Kd.R_elder' Z5.z8 (Kd.R_base ho0) hb)
  have n2_ := Aside0.mk (Kd.R_elder' Z5.z17 (Kd.R_base ho0) hb)
  have n3_ := Aside0.mk (Kd.R_elder' Z5.z19 (Kd.R_base ho0) hb)
  have n4_ := Aside0.mk (Kd.R_elder' Z5.z22 (Kd.R_base ho0) hb)
  have n5_ := Aside0.mk (Kd.R_lower (Kd.R_new' (Kd.R_new' (Kd.R_new' (Kd.R_new' (Kd.R_new' ho0 (Kd.R_lt Z5.z7)) (Kd.R_lt Z5.z8)) (Kd.R_lt Z5.z17)) (Kd.R_lt Z5.z19)) (Kd.R_lt Z5.z22)) (below_size Z5.z3))
  have n6_ := Aside0.mk (Z5.bb BK101 Z5.z1 hb)
  have n7_ := Aside0.mk (Z5.bb BK102 Z5.z2 hb)
  have n8_ := Aside0.mk (Z5.bb BK124 Z5.z15 hb)
  have n9_ := Aside0.mk (Z5.bb BK131 Z5.z21 hb)
  have n10_ := Aside0.mk (below_step Z5.z3 hb)
  clear HO110 HO116 HO123 HO130 HO138 BK101 BK102 BK124 BK131 HB
  have HO110 := n0_
  have HO116 := n1_
  have HO123 := n2_
  have HO130 := n3_
  have HO138 := n4_
  have HO145 := n5_
  have BK101 := n6_
  have BK102 := n7_
  have BK124 := n8_
  have BK131 := n9_
  have HB := n10_
  clear n0_ n1_ n2_ n3_ n4_ n5_ n6_ n7_ n8_ n9_ n10_
  (try clear hb)
  (try clear hb2)
  (try clear hk)
  (try clear hi)
  (try clear ho0)
  obtain ⟨Ao136, co136, eo136⟩ := Kd.R_slice HO145.out
  (first | subst eo136 | (injection eo136 with f1_ f2_ f3_; have f4_ := f1_.symm; have f5_ := f3_.symm; clear f1_ f2_ f3_; subst f4_; subst f5_))
  refine hK.out _ _ Z5.z20 (fun hHeld => ?_)
  clear hK K
  refine norm_ (a' := ?_) ?_ ?_
  rotate_left
  ·show Act.put _ (some 42) _ = _
   simp only [Act.put, List.setIfInBounds_toArray, List.set_cons_zero, List.set_cons_succ, i64_w, i32_w]
   rfl
  refine one_ (i := 3) (N := some 43) #[true, true, true, true, false] rfl rfl (by kernel_rfl) (by decide) (fun K hK => ?_)
  refine goes_ Try.func15 (by kernel_rfl) rfl #[.agg #[.int .i64 t125, .int .i64 t126, .int .i64 t127, .slice Ao127 t128.length co127], .agg #[.int .i64 t140, .int .i64 t141, .int .i64 t142, .slice Ao136 t143.length co136]] (by rfl) rfl rfl Z5.z4 ?_
  with_reducible refine (laws_eqMatrix.calls k t125 t126 t127 _ _ t128 t140 t141 t142 _ _ t143 false _ ?side1 ?side2 ?side3 ?side4 A60.out).mono ?_
  (case side1 => exact Z5.z58)
  (case side2 => exact (Kd.R_reads' HO130.out).2.1)
  (case side3 => exact Z5.z57)
  (case side4 => exact (Kd.R_reads' HO145.out).2.1)
  rintro e w137 ⟨rfl, hb⟩
  refine ⟨_, rfl, ?_⟩
  have n0_ := Aside0.mk (Kd.R_below Z5.z7 hb)
  have n1_ := Aside0.mk (Kd.R_below Z5.z8 hb)
  have n2_ := Aside0.mk (Kd.R_below Z5.z17 hb)
  have n3_ := Aside0.mk (Kd.R_below Z5.z19 hb)
  have n4_ := Aside0.mk (Kd.R_below Z5.z22 hb)
  have n5_ := Aside0.mk (Kd.R_below (by (with_reducible repeat (first | apply Kd.R_alloc | apply Kd.R_drewN | apply Kd.R_drew)); exact HO145.out) hb)
  have n6_ := Aside0.mk (Z5.bb BK101 Z5.z1 hb)
  have n7_ := Aside0.mk (Z5.bb BK102 Z5.z2 hb)
  have n8_ := Aside0.mk (Z5.bb BK124 Z5.z15 hb)
  have n9_ := Aside0.mk (Z5.bb BK131 Z5.z21 hb)
  have n10_ := Aside0.mk (below_step Z5.z3 hb)
  clear HO110 HO116 HO123 HO130 HO138 HO145 BK101 BK102 BK124 BK131 HB
  have HO110 := n0_
  have HO116 := n1_
  have HO123 := n2_
  have HO130 := n3_
  have HO138 := n4_
  have HO145 := n5_
  have BK101 := n6_
  have BK102 := n7_
  have BK124 := n8_
  have BK131 := n9_
  have HB := n10_
  clear n0_ n1_ n2_ n3_ n4_ n5_ n6_ n7_ n8_ n9_ n10_
  (try clear hb)
  (try clear hb2)
  (try clear hk)
  (try clear hi)
  refine hK.out _ _ Z5.z20 (fun hHeld => ?_)
  clear hK K
  refine norm_ (a' := ?_) ?_ ?_
  rotate_left
  ·show Act.put _ (some 43) _ = _
   simp only [Act.put, List.setIfInBounds_toArray, List.set_cons_zero, List.set_cons_succ, i64_w, i32_w]
   rfl
  refine pure_ (i := 4) (N := some 44) (v := ?_) (a' := ?_) #[true, true, true, true, true] rfl rfl (by kernel_rfl) (fun _ _ _ h => h) (Or.inl ⟨(by rfl), ?_⟩) ?_ ?_
  rotate_left
  ·intro w'
   go_simp
   with_reducible rfl
  rotate_left
  ·exact Z5.z13
  refine done_ (by kernel_rfl) ?_
  try go_wp2
  go_ret
  exact ⟨Z5.z50, Z5.z3⟩
 replace c58 := Bool.eq_false_iff.mpr c58
 subst c58
 have H1 : (some false) = some r := by rw [if_neg (show ¬ (false = true) by decide)] at H; exact H
 clear H
 have H := H1
 clear H1
 obtain rfl := Option.some.inj H
 go_enter Try.func5, Try.ntmps5
 try go_wp2_with (first | ((with_reducible refine gate_dst (N := 2) rfl ?_); refine box_event ?hg (N := 2) ?hd (cs := #[.int .i64 a0_0, .int .i64 a0_1, .int .i64 a0_2, .slice A0_3 l0_3.length c0_3]) (t := 27) ?hr ?_; (case hd => rfl); (case hg => rfl); (case hr => first | (go_simp; done) | (go_simp; rfl)); intro gb101 hg w138 hbox hb; have n0_ := Aside0.mk (below_step Z5.z16 hb); have n1_ := Aside0.mk (hbox); have n2_ := Aside0.mk (show w.heap.size ≤ gb101 from Z5.z59); have n3_ := Aside0.mk (show w.heap.size ≤ gb101 from Z5.z59); clear HB; have HB := n0_; have BK101 := n1_; have GW101 := n2_; have GE101 := n3_; clear n0_ n1_ n2_ n3_; clear hb hbox hg) | ((with_reducible refine gate_dst (N := 3) rfl ?_); refine box_event ?hg (N := 3) ?hd (cs := #[.int .i64 a1_0, .int .i64 a1_1, .int .i64 a1_2, .slice A1_3 l1_3.length c1_3]) (t := 27) ?hr ?_; (case hd => rfl); (case hg => rfl); (case hr => first | (go_simp; done) | (go_simp; rfl)); intro gb102 hg w139 hbox hb; have n0_ := Aside0.mk (Z5.bb BK101 Z5.z1 hb); have n1_ := Aside0.mk (below_step Z5.z12 hb); have n2_ := Aside0.mk (hbox); have n3_ := Aside0.mk (show w.heap.size ≤ gb102 from Z5.z60); have n4_ := Aside0.mk (show w.heap.size ≤ gb102 from Z5.z60); have n5_ := Aside0.mk (show gb101 ≠ gb102 from Z5.z51); have n6_ := Aside0.mk (show gb102 ≠ gb101 from Z5.z52); clear BK101 HB; have BK101 := n0_; have HB := n1_; have BK102 := n2_; have GW102 := n3_; have GE102 := n4_; have NB101_102 := n5_; have NB102_101 := n6_; clear n0_ n1_ n2_ n3_ n4_ n5_ n6_; clear hb hbox hg; have hnb140 := NB101_102.out; have hnc140 := NB102_101.out; have hcz141_0 : w139.cell? ⟨gb101, 0, none⟩ = some (.int .i64 a0_0) := (blk_cell BK101.out 0).trans rfl; have hcz141_1 : w139.cell? ⟨gb101, 1, none⟩ = some (.int .i64 a0_1) := (blk_cell BK101.out 1).trans rfl; have hcz141_2 : w139.cell? ⟨gb101, 2, none⟩ = some (.int .i64 a0_2) := (blk_cell BK101.out 2).trans rfl; have hcz141_3 : w139.cell? ⟨gb101, 3, none⟩ = some (.slice A0_3 l0_3.length c0_3) := (blk_cell BK101.out 3).trans rfl; have hfz141_0 := blk_frozen BK101.out 0; have hfz141_1 := blk_frozen BK101.out 1; have hfz141_2 := blk_frozen BK101.out 2; have hfz141_3 := blk_frozen BK101.out 3) | ((with_reducible refine gate_callee (f := 11) rfl ?_); refine goesL_ (some 12) rfl rfl Try.func11 (by kernel_rfl) rfl #[.agg #[.int .i64 a0_0, .int .i64 a0_1, .int .i64 a0_2, .slice A0_3 l0_3.length c0_3], .int .i64 1048576] rfl Z5.z4 ?_; (with_reducible refine (laws_szMatrix.calls a0_0 a0_1 a0_2 _ _ l0_3 1048576 t103 _ ?side1 ?side2 A3.out).mono ?_); (case side1 => exact Z5.z11); (case side2 => exact HC0_3.out); rintro e w142 ⟨rfl, hb⟩; refine ⟨_, rfl, ?_⟩; have n0_ := Aside0.mk (Z5.bb BK101 Z5.z1 hb); have n1_ := Aside0.mk (Z5.bb BK102 Z5.z2 hb); have n2_ := Aside0.mk (below_step Z5.z0 hb); clear BK101 BK102 HB; have BK101 := n0_; have BK102 := n1_; have HB := n2_; clear n0_ n1_ n2_; (try clear hb); (try clear hb2); (try clear hk); (try clear hi); have hcz143_0 : w142.cell? ⟨gb102, 0, none⟩ = some (.int .i64 a1_0) := (blk_cell BK102.out 0).trans rfl; have hcz143_1 : w142.cell? ⟨gb102, 1, none⟩ = some (.int .i64 a1_1) := (blk_cell BK102.out 1).trans rfl; have hcz143_2 : w142.cell? ⟨gb102, 2, none⟩ = some (.int .i64 a1_2) := (blk_cell BK102.out 2).trans rfl; have hcz143_3 : w142.cell? ⟨gb102, 3, none⟩ = some (.slice A1_3 l1_3.length c1_3) := (blk_cell BK102.out 3).trans rfl; have hfz143_0 := blk_frozen BK102.out 0; have hfz143_1 := blk_frozen BK102.out 1; have hfz143_2 := blk_frozen BK102.out 2; have hfz143_3 := blk_frozen BK102.out 3) | ((with_reducible refine gate_callee (f := 11) rfl ?_); refine goesL_ (some 17) rfl rfl Try.func11 (by kernel_rfl) rfl #[.agg #[.int .i64 a1_0, .int .i64 a1_1, .int .i64 a1_2, .slice A1_3 l1_3.length c1_3], .int .i64 t103] rfl Z5.z4 ?_; (with_reducible refine (laws_szMatrix.calls a1_0 a1_1 a1_2 _ _ l1_3 t103 t104 _ ?side1 ?side2 A10.out).mono ?_); (case side1 => exact Z5.z18); (case side2 => exact HC1_3.out); rintro e w144 ⟨rfl, hb⟩; refine ⟨_, rfl, ?_⟩; have n0_ := Aside0.mk (Z5.bb BK101 Z5.z1 hb); have n1_ := Aside0.mk (Z5.bb BK102 Z5.z2 hb); have n2_ := Aside0.mk (below_step Z5.z0 hb); clear BK101 BK102 HB; have BK101 := n0_; have BK102 := n1_; have HB := n2_; clear n0_ n1_ n2_; (try clear hb); (try clear hb2); (try clear hk); (try clear hi)))
 have n0_ := Aside0.mk (blk_drew BK101.out)
 have n1_ := Aside0.mk (blk_drew BK102.out)
 have n2_ := Aside0.mk (below_drew1 HB.out)
 clear BK101 BK102 HB
 have BK101 := n0_
 have BK102 := n1_
 have HB := n2_
 clear n0_ n1_ n2_
 refine start_ (n := 6) (S := fun w' => w'.cell? ⟨gb101, 0, none⟩ = some (.int .i64 a0_0) ∧ w'.cell? ⟨gb101, 1, none⟩ = some (.int .i64 a0_1) ∧ w'.cell? ⟨gb101, 2, none⟩ = some (.int .i64 a0_2) ∧ w'.cell? ⟨gb101, 3, none⟩ = some (.slice A0_3 l0_3.length c0_3) ∧ w'.cell? ⟨gb102, 0, none⟩ = some (.int .i64 a1_0) ∧ w'.cell? ⟨gb102, 1, none⟩ = some (.int .i64 a1_1) ∧ w'.cell? ⟨gb102, 2, none⟩ = some (.int .i64 a1_2) ∧ w'.cell? ⟨gb102, 3, none⟩ = some (.slice A1_3 l1_3.length c1_3)) (ds := []) #[false, false, false, false, false, false] (by kernel_rfl) rfl rfl Z5.z6 (fun hHeld => ?_)
 generalize w144.drew = w145 at BK101 BK102 HB hHeld ⊢
 refine take_ (i := 0) (N := some 20) (v := ?_) (a' := ?_) #[true, false, false, false, false, false] rfl rfl (by kernel_rfl) (fun _ _ _ h => h) (Or.inl ⟨(by rfl), ?_⟩) hHeld ?_ ?_
 rotate_left
 ·rintro w' ⟨s0, s1, s2, s3, s4, s5, s6, s7⟩
  go_simp
  with_reducible rfl
 rotate_left
 ·exact Z5.z13
 refine take_ (i := 2) (N := some 22) (v := ?_) (a' := ?_) #[true, false, true, false, false, false] rfl rfl (by kernel_rfl) (fun _ _ _ h => h) (Or.inl ⟨(by rfl), ?_⟩) hHeld ?_ ?_
 rotate_left
 ·rintro w' ⟨s0, s1, s2, s3, s4, s5, s6, s7⟩
  go_simp
  with_reducible rfl
 rotate_left
 ·exact Z5.z13
 refine one_ (i := 1) (N := some 21) #[true, true, true, false, false, false] rfl rfl (by kernel_rfl) (by decide) (fun K hK => ?_)
 refine goes_ Try.func13 (by kernel_rfl) rfl #[.agg #[.int .i64 a0_0, .int .i64 a0_1, .int .i64 a0_2, .slice A0_3 l0_3.length c0_3]] (by rfl) rfl rfl Z5.z4 ?_
 with_reducible refine (laws_toMatrix.calls k a0_0 a0_1 a0_2 _ _ l0_3 t105 t106 t107 t108 _ ?side1 ?side2 A19.out).mono ?_
 (case side1 => exact Z5.z11)
 (case side2 => exact HC0_3.out)
 rintro e w146 ⟨v109, rfl, ho0, hb⟩
 refine ⟨_, rfl, ?_⟩
 have n0_ := Aside0.mk (Kd.R_lower ho0 (below_size Z5.z0))
 have n1_ := Aside0.mk (Z5.bb BK101 Z5.z1 hb)
 have n2_ := Aside0.mk (Z5.bb BK102 Z5.z2 hb)
 have n3_ := Aside0.mk (below_step Z5.z0 hb)
 clear BK101 BK102 HB
 have HO110 := n0_
 have BK101 := n1_
 have BK102 := n2_
 have HB := n3_
 clear n0_ n1_ n2_ n3_
 (try clear hb)
 (try clear hb2)
 (try clear hk)
 (try clear hi)
 (try clear ho0)
 refine hK.out _ _ Z5.z6 (fun hHeld => ?_)
 clear hK K
 refine norm_ (a' := ?_) ?_ ?_
 rotate_left
 ·show Act.put _ (some 21) _ = _
  simp only [Act.put, List.setIfInBounds_toArray, List.set_cons_zero, List.set_cons_succ, i64_w, i32_w]
  rfl
 refine one_ (i := 3) (N := some 23) #[true, true, true, true, false, false] rfl rfl (by kernel_rfl) (by decide) (fun K hK => ?_)
 refine goes_ Try.func13 (by kernel_rfl) rfl #[.agg #[.int .i64 a1_0, .int .i64 a1_1, .int .i64 a1_2, .slice A1_3 l1_3.length c1_3]] (by rfl) rfl rfl Z5.z4 ?_
 with_reducible refine (laws_toMatrix.calls k a1_0 a1_1 a1_2 _ _ l1_3 t111 t112 t113 t114 _ ?side1 ?side2 A20.out).mono ?_
 (case side1 => exact Z5.z18)
 (case side2 => exact HC1_3.out)
 rintro e w147 ⟨v115, rfl, ho0, hb⟩
 refine ⟨_, rfl, ?_⟩
 have n0_ := Aside0.mk (Kd.R_elder' Z5.z7 (Kd.R_base ho0) hb)
 have n1_ := Aside0.mk (Kd.R_lower (Kd.R_new' ho0 (Kd.R_lt Z5.z7)) (below_size Z5.z0))
 have n2_ := Aside0.mk (Z5.bb BK101 Z5.z1 hb)
 have n3_ := Aside0.mk (Z5.bb BK102 Z5.z2 hb)
 have n4_ := Aside0.mk (below_step Z5.z0 hb)
 clear HO110 BK101 BK102 HB
 have HO110 := n0_
 have HO116 := n1_
 have BK101 := n2_
 have BK102 := n3_
 have HB := n4_
 clear n0_ n1_ n2_ n3_ n4_
 (try clear hb)
 (try clear hb2)
 (try clear hk)
 (try clear hi)
 (try clear ho0)
 obtain ⟨Ao148, co148, eo148⟩ := Kd.R_slice HO110.out
 (first | subst eo148 | (injection eo148 with f1_ f2_ f3_; have f4_ := f1_.symm; have f5_ := f3_.symm; clear f1_ f2_ f3_; subst f4_; subst f5_))
 obtain ⟨Ao149, co149, eo149⟩ := Kd.R_slice HO116.out
 (first | subst eo149 | (injection eo149 with f1_ f2_ f3_; have f4_ := f1_.symm; have f5_ := f3_.symm; clear f1_ f2_ f3_; subst f4_; subst f5_))
 refine hK.out _ _ Z5.z6 (fun hHeld => ?_)
 clear hK K
 refine norm_ (a' := ?_) ?_ ?_
 rotate_left
 ·show Act.put _ (some 23) _ = _
  simp only [Act.put, List.setIfInBounds_toArray, List.set_cons_zero, List.set_cons_succ, i64_w, i32_w]
  rfl
 refine one_ (i := 4) (N := some 24) #[true, true, true, true, true, false] rfl rfl (by kernel_rfl) (by decide) (fun K hK => ?_)
 refine goes_ Try.func12 (by kernel_rfl) rfl #[.agg #[.int .i64 t105, .int .i64 t106, .int .i64 t107, .slice Ao148 t108.length co148], .agg #[.int .i64 t111, .int .i64 t112, .int .i64 t113, .slice Ao149 t114.length co149]] (by rfl) rfl rfl Z5.z4 ?_
 with_reducible refine (spec_SameMatrix.calls k t105 t106 t107 _ _ t108 t111 t112 t113 _ _ t114 t117 _ ?side1 ?side2 ?side3 ?side4 A21.out).mono ?_
 (case side1 => exact Z5.z24)
 (case side2 => exact (Kd.R_reads' HO110.out).2.1)
 (case side3 => exact Z5.z23)
 (case side4 => exact (Kd.R_reads' HO116.out).2.1)
 rintro e w150 ⟨rfl, hb⟩
 refine ⟨_, rfl, ?_⟩
 have n0_ := Aside0.mk (Kd.R_below Z5.z7 hb)
 have n1_ := Aside0.mk (Kd.R_below Z5.z8 hb)
 have n2_ := Aside0.mk (Z5.bb BK101 Z5.z1 hb)
 have n3_ := Aside0.mk (Z5.bb BK102 Z5.z2 hb)
 have n4_ := Aside0.mk (below_step Z5.z0 hb)
 clear HO110 HO116 BK101 BK102 HB
 have HO110 := n0_
 have HO116 := n1_
 have BK101 := n2_
 have BK102 := n3_
 have HB := n4_
 clear n0_ n1_ n2_ n3_ n4_
 (try clear hb)
 (try clear hb2)
 (try clear hk)
 (try clear hi)
 refine hK.out _ _ Z5.z6 (fun hHeld => ?_)
 clear hK K
 refine norm_ (a' := ?_) ?_ ?_
 rotate_left
 ·show Act.put _ (some 24) _ = _
  simp only [Act.put, List.setIfInBounds_toArray, List.set_cons_zero, List.set_cons_succ, i64_w, i32_w]
  rfl
 refine pure_ (i := 5) (N := some 6) (v := ?_) (a' := ?_) #[true, true, true, true, true, true] rfl rfl (by kernel_rfl) (fun _ _ _ h => h) (Or.inl ⟨(by rfl), ?_⟩) ?_ ?_
 rotate_left
 ·intro w'
  go_simp
  with_reducible rfl
 rotate_left
 ·exact Z5.z13
 refine done_ (by kernel_rfl) ?_
 have hcz151_0 : w150.cell? ⟨gb101, 0, none⟩ = some (.int .i64 a0_0) := (blk_cell BK101.out 0).trans rfl
 have hcz151_1 : w150.cell? ⟨gb101, 1, none⟩ = some (.int .i64 a0_1) := (blk_cell BK101.out 1).trans rfl
 have hcz151_2 : w150.cell? ⟨gb101, 2, none⟩ = some (.int .i64 a0_2) := (blk_cell BK101.out 2).trans rfl
 have hcz151_3 : w150.cell? ⟨gb101, 3, none⟩ = some (.slice A0_3 l0_3.length c0_3) := (blk_cell BK101.out 3).trans rfl
 have hfz151_0 := blk_frozen BK101.out 0
 have hfz151_1 := blk_frozen BK101.out 1
 have hfz151_2 := blk_frozen BK101.out 2
 have hfz151_3 := blk_frozen BK101.out 3
 try go_wp2_with (first | ((with_reducible refine gate_callee (f := 13) rfl ?_); refine goesL_ (some 26) rfl rfl Try.func13 (by kernel_rfl) rfl #[.agg #[.int .i64 a0_0, .int .i64 a0_1, .int .i64 a0_2, .slice A0_3 l0_3.length c0_3]] rfl Z5.z4 ?_; (with_reducible refine (laws_toMatrix.calls k a0_0 a0_1 a0_2 _ _ l0_3 t118 t119 t120 t121 _ ?side1 ?side2 A22.out).mono ?_); (case side1 => exact Z5.z11); (case side2 => exact HC0_3.out); rintro e w152 ⟨v122, rfl, ho0, hb⟩; refine ⟨_, rfl, ?_⟩; have n0_ := Aside0.mk (Kd.R_elder' Z5.z7 (Kd.R_base ho0) hb); have n1_ := Aside0.mk (Kd.R_elder' Z5.z8 (Kd.R_base ho0) hb); have n2_ := Aside0.mk (Kd.R_lower (Kd.R_new' (Kd.R_new' ho0 (Kd.R_lt Z5.z7)) (Kd.R_lt Z5.z8)) (below_size Z5.z0)); have n3_ := Aside0.mk (Z5.bb BK101 Z5.z1 hb); have n4_ := Aside0.mk (Z5.bb BK102 Z5.z2 hb); have n5_ := Aside0.mk (below_step Z5.z0 hb); clear HO110 HO116 BK101 BK102 HB; have HO110 := n0_; have HO116 := n1_; have HO123 := n2_; have BK101 := n3_; have BK102 := n4_; have HB := n5_; clear n0_ n1_ n2_ n3_ n4_ n5_; (try clear hb); (try clear hb2); (try clear hk); (try clear hi); (try clear ho0)) | ((with_reducible refine gate_dst (N := 7) rfl ?_); refine box_event ?hg (N := 7) ?hd (cs := #[.int .i64 0, .int .i64 0, .int .i64 0, .slice none 0 0]) (t := 30) ?hr ?_; (case hd => rfl); (case hg => rfl); (case hr => first | (go_simp; done) | (go_simp; rfl)); intro gb124 hg w153 hbox hb; have n0_ := Aside0.mk (Kd.R_below Z5.z7 hb); have n1_ := Aside0.mk (Kd.R_below Z5.z8 hb); have n2_ := Aside0.mk (Kd.R_below Z5.z17 hb); have n3_ := Aside0.mk (Z5.bb BK101 Z5.z1 hb); have n4_ := Aside0.mk (Z5.bb BK102 Z5.z2 hb); have n5_ := Aside0.mk (below_step Z5.z0 hb); have n6_ := Aside0.mk (hbox); have n7_ := Aside0.mk (show w.heap.size ≤ gb124 from (by rw [hg]; exact (below_size Z5.z0))); have n8_ := Aside0.mk (show w.heap.size ≤ gb124 from (by rw [hg]; exact (below_size Z5.z0))); have n9_ := Aside0.mk (show gb101 ≠ gb124 from Z5.z51); have n10_ := Aside0.mk (show gb124 ≠ gb101 from Z5.z52); have n11_ := Aside0.mk (show gb102 ≠ gb124 from Z5.z55); have n12_ := Aside0.mk (show gb124 ≠ gb102 from Z5.z56); clear HO110 HO116 HO123 BK101 BK102 HB; have HO110 := n0_; have HO116 := n1_; have HO123 := n2_; have BK101 := n3_; have BK102 := n4_; have HB := n5_; have BK124 := n6_; have GW124 := n7_; have GE124 := n8_; have NB101_124 := n9_; have NB124_101 := n10_; have NB102_124 := n11_; have NB124_102 := n12_; clear n0_ n1_ n2_ n3_ n4_ n5_ n6_ n7_ n8_ n9_ n10_ n11_ n12_; clear hb hbox hg; have hnb154 := NB124_101.out; have hnc154 := NB101_124.out; have hnb155 := NB124_102.out; have hnc155 := NB102_124.out; have hcz156_0 : w153.cell? ⟨gb124, 0, none⟩ = some (.int .i64 0) := (blk_cell BK124.out 0).trans rfl; have hcz156_1 : w153.cell? ⟨gb124, 1, none⟩ = some (.int .i64 0) := (blk_cell BK124.out 1).trans rfl; have hcz156_2 : w153.cell? ⟨gb124, 2, none⟩ = some (.int .i64 0) := (blk_cell BK124.out 2).trans rfl; have hcz156_3 : w153.cell? ⟨gb124, 3, none⟩ = some (.slice none 0 0) := (blk_cell BK124.out 3).trans rfl; have hfz156_0 := blk_frozen BK124.out 0; have hfz156_1 := blk_frozen BK124.out 1; have hfz156_2 := blk_frozen BK124.out 2; have hfz156_3 := blk_frozen BK124.out 3; obtain ⟨Ao157, co157, eo157⟩ := Kd.R_slice HO123.out; subst eo157; have hcz158_0 : w153.cell? ⟨gb102, 0, none⟩ = some (.int .i64 a1_0) := (blk_cell BK102.out 0).trans rfl; have hcz158_1 : w153.cell? ⟨gb102, 1, none⟩ = some (.int .i64 a1_1) := (blk_cell BK102.out 1).trans rfl; have hcz158_2 : w153.cell? ⟨gb102, 2, none⟩ = some (.int .i64 a1_2) := (blk_cell BK102.out 2).trans rfl; have hcz158_3 : w153.cell? ⟨gb102, 3, none⟩ = some (.slice A1_3 l1_3.length c1_3) := (blk_cell BK102.out 3).trans rfl; have hfz158_0 := blk_frozen BK102.out 0; have hfz158_1 := blk_frozen BK102.out 1; have hfz158_2 := blk_frozen BK102.out 2; have hfz158_3 := blk_frozen BK102.out 3) | ((with_reducible refine gate_callee (f := 13) rfl ?_); refine goesL_ (some 28) rfl rfl Try.func13 (by kernel_rfl) rfl #[.agg #[.int .i64 a1_0, .int .i64 a1_1, .int .i64 a1_2, .slice A1_3 l1_3.length c1_3]] rfl Z5.z4 ?_; (with_reducible refine (laws_toMatrix.calls k a1_0 a1_1 a1_2 _ _ l1_3 t125 t126 t127 t128 _ ?side1 ?side2 A23.out).mono ?_); (case side1 => exact (by exact Kd.C_below HR1_3.out Z5.z5)); (case side2 => exact HC1_3.out); rintro e w159 ⟨v129, rfl, ho0, hb⟩; refine ⟨_, rfl, ?_⟩; have n0_ := Aside0.mk (Kd.R_elder' Z5.z33 (Kd.R_base ho0) hb); have n1_ := Aside0.mk (Kd.R_elder' Z5.z31 (Kd.R_base ho0) hb); have n2_ := Aside0.mk (Kd.R_elder' Z5.z29 (Kd.R_base ho0) hb); have n3_ := Aside0.mk (Kd.R_lower (Kd.R_new' (Kd.R_new' (Kd.R_new' ho0 (Kd.R_lt Z5.z33)) (Kd.R_lt Z5.z31)) (Kd.R_lt Z5.z29)) (below_size Z5.z5)); have n4_ := Aside0.mk (Z5.bb BK101 Z5.z49 hb); have n5_ := Aside0.mk (Z5.bb BK102 Z5.z47 hb); have n6_ := Aside0.mk (blk_below (g := gb124) (o := .cells #[.int .i64 t118, .int .i64 t119, .int .i64 t120, .slice Ao157 t121.length co157] 30 (0, 0)) Z5.z10 hb); have n7_ := Aside0.mk (below_step Z5.z5 hb); clear HO110 HO116 HO123 BK101 BK102 BK124 HB; have HO110 := n0_; have HO116 := n1_; have HO123 := n2_; have HO130 := n3_; have BK101 := n4_; have BK102 := n5_; have BK124 := n6_; have HB := n7_; clear n0_ n1_ n2_ n3_ n4_ n5_ n6_ n7_; (try clear hb); (try clear hb2); (try clear hk); (try clear hi); (try clear ho0)) | ((with_reducible refine gate_dst (N := 8) rfl ?_); refine box_event ?hg (N := 8) ?hd (cs := #[.int .i64 0, .int .i64 0, .int .i64 0, .slice none 0 0]) (t := 30) ?hr ?_; (case hd => rfl); (case hg => rfl); (case hr => first | (go_simp; done) | (go_simp; rfl)); intro gb131 hg w160 hbox hb; have n0_ := Aside0.mk (Kd.R_below Z5.z7 hb); have n1_ := Aside0.mk (Kd.R_below Z5.z8 hb); have n2_ := Aside0.mk (Kd.R_below Z5.z17 hb); have n3_ := Aside0.mk (Kd.R_below Z5.z19 hb); have n4_ := Aside0.mk (Z5.bb BK101 Z5.z1 hb); have n5_ := Aside0.mk (Z5.bb BK102 Z5.z2 hb); have n6_ := Aside0.mk (Z5.bb BK124 Z5.z15 hb); have n7_ := Aside0.mk (below_step Z5.z5 hb); have n8_ := Aside0.mk (hbox); have n9_ := Aside0.mk (show w.heap.size ≤ gb131 from (by rw [hg]; exact (below_size Z5.z5))); have n10_ := Aside0.mk (show w.heap.size ≤ gb131 from (by rw [hg]; exact (below_size Z5.z5))); have n11_ := Aside0.mk (show gb101 ≠ gb131 from Z5.z51); have n12_ := Aside0.mk (show gb131 ≠ gb101 from Z5.z52); have n13_ := Aside0.mk (show gb102 ≠ gb131 from Z5.z55); have n14_ := Aside0.mk (show gb131 ≠ gb102 from Z5.z56); have n15_ := Aside0.mk (show gb124 ≠ gb131 from (by rw [hg]; exact Nat.ne_of_lt (Z5.bl BK124 Z5.z15))); have n16_ := Aside0.mk (show gb131 ≠ gb124 from (by rw [hg]; exact Nat.ne_of_gt (Z5.bl BK124 Z5.z15))); clear HO110 HO116 HO123 HO130 BK101 BK102 BK124 HB; have HO110 := n0_; have HO116 := n1_; have HO123 := n2_; have HO130 := n3_; have BK101 := n4_; have BK102 := n5_; have BK124 := n6_; have HB := n7_; have BK131 := n8_; have GW131 := n9_; have GE131 := n10_; have NB101_131 := n11_; have NB131_101 := n12_; have NB102_131 := n13_; have NB131_102 := n14_; have NB124_131 := n15_; have NB131_124 := n16_; clear n0_ n1_ n2_ n3_ n4_ n5_ n6_ n7_ n8_ n9_ n10_ n11_ n12_ n13_ n14_ n15_ n16_; clear hb hbox hg; have hnb161 := NB131_101.out; have hnc161 := NB101_131.out; have hnb162 := NB131_102.out; have hnc162 := NB102_131.out; have hnb163 := NB131_124.out; have hnc163 := NB124_131.out; have hcz164_0 : w160.cell? ⟨gb131, 0, none⟩ = some (.int .i64 0) := (blk_cell BK131.out 0).trans rfl; have hcz164_1 : w160.cell? ⟨gb131, 1, none⟩ = some (.int .i64 0) := (blk_cell BK131.out 1).trans rfl; have hcz164_2 : w160.cell? ⟨gb131, 2, none⟩ = some (.int .i64 0) := (blk_cell BK131.out 2).trans rfl; have hcz164_3 : w160.cell? ⟨gb131, 3, none⟩ = some (.slice none 0 0) := (blk_cell BK131.out 3).trans rfl; have hfz164_0 := blk_frozen BK131.out 0; have hfz164_1 := blk_frozen BK131.out 1; have hfz164_2 := blk_frozen BK131.out 2; have hfz164_3 := blk_frozen BK131.out 3; obtain ⟨Ao165, co165, eo165⟩ := Kd.R_slice HO130.out; subst eo165; have hcz166_0 : w160.cell? ⟨gb124, 0, none⟩ = some (.int .i64 t118) := (blk_cell BK124.out 0).trans rfl; have hcz166_1 : w160.cell? ⟨gb124, 1, none⟩ = some (.int .i64 t119) := (blk_cell BK124.out 1).trans rfl; have hcz166_2 : w160.cell? ⟨gb124, 2, none⟩ = some (.int .i64 t120) := (blk_cell BK124.out 2).trans rfl; have hcz166_3 : w160.cell? ⟨gb124, 3, none⟩ = some (.slice Ao157 t121.length co157) := (blk_cell BK124.out 3).trans rfl; have hfz166_0 := blk_frozen BK124.out 0; have hfz166_1 := blk_frozen BK124.out 1; have hfz166_2 := blk_frozen BK124.out 2; have hfz166_3 := blk_frozen BK124.out 3) | ((with_reducible refine gate_callee (f := 14) rfl ?_); refine goesL_ (some 31) rfl rfl Try.func14 (by kernel_rfl) rfl #[.agg #[.int .i64 t118, .int .i64 t119, .int .i64 t120, .slice Ao157 t121.length co157], .agg #[.int .i64 t125, .int .i64 t126, .int .i64 t127, .slice Ao165 t128.length co165]] rfl Z5.z4 ?_; (with_reducible refine (impl_SameMatrix.calls k t118 t119 t120 _ _ t121 t125 t126 t127 _ _ t128 t132 _ ?side1 ?side2 ?side3 ?side4 A24.out).mono ?_); (case side1 => exact (by refine (Kd.R_reads' (e := 2) (base := w.heap.size) (ok := fun k_ => (((True ∧ some k_ ≠ (.slice Ao148 t108.length co148 : Value).ownBlock) ∧ some k_ ≠ (.slice Ao149 t114.length co149 : Value).ownBlock) ∧ some k_ ≠ (.slice Ao165 t128.length co165 : Value).ownBlock)) (n := t121.length) (c := co157) ?_).2.2; exact Z5.z27)); (case side2 => exact (Kd.R_reads' HO123.out).2.1); (case side3 => exact (by refine (Kd.R_reads' (e := 2) (base := w.heap.size) (ok := fun k_ => (((True ∧ some k_ ≠ (.slice Ao148 t108.length co148 : Value).ownBlock) ∧ some k_ ≠ (.slice Ao149 t114.length co149 : Value).ownBlock) ∧ some k_ ≠ (.slice Ao157 t121.length co157 : Value).ownBlock)) (n := t128.length) (c := co165) ?_).2.2; exact Z5.z25)); (case side4 => exact (Kd.R_reads' HO130.out).2.1); rintro e w167 ⟨rfl, hb⟩; refine ⟨_, rfl, ?_⟩; have n0_ := Aside0.mk (Kd.R_below (by (with_reducible repeat (first | apply Kd.R_alloc | apply Kd.R_drewN | apply Kd.R_drew)); exact (Kd.R_mono (Kd.R_far (p := ⟨gb131, 3, none⟩) (Kd.R_far (p := ⟨gb131, 2, none⟩) (Kd.R_far (p := ⟨gb131, 1, none⟩) (Kd.R_far (p := ⟨gb131, 0, none⟩) (Kd.R_types HO110.out BK131.out (by decide)) (fun _ hk => hk.2) (.int .i64 t125)) (fun _ hk => hk.2) (.int .i64 t126)) (fun _ hk => hk.2) (.int .i64 t127)) (fun _ hk => hk.2) (.slice Ao165 t128.length co165)) (fun _ h_ => h_.1))) hb); have n1_ := Aside0.mk (Kd.R_below (by (with_reducible repeat (first | apply Kd.R_alloc | apply Kd.R_drewN | apply Kd.R_drew)); exact (Kd.R_mono (Kd.R_far (p := ⟨gb131, 3, none⟩) (Kd.R_far (p := ⟨gb131, 2, none⟩) (Kd.R_far (p := ⟨gb131, 1, none⟩) (Kd.R_far (p := ⟨gb131, 0, none⟩) (Kd.R_types HO116.out BK131.out (by decide)) (fun _ hk => hk.2) (.int .i64 t125)) (fun _ hk => hk.2) (.int .i64 t126)) (fun _ hk => hk.2) (.int .i64 t127)) (fun _ hk => hk.2) (.slice Ao165 t128.length co165)) (fun _ h_ => h_.1))) hb); have n2_ := Aside0.mk (Kd.R_below Z5.z27 hb); have n3_ := Aside0.mk (Kd.R_below Z5.z25 hb); have n4_ := Aside0.mk (Z5.bb BK101 Z5.z48 hb); have n5_ := Aside0.mk (Z5.bb BK102 Z5.z46 hb); have n6_ := Aside0.mk (Z5.bb BK124 Z5.z45 hb); have n7_ := Aside0.mk (blk_below (g := gb131) (o := .cells #[.int .i64 t125, .int .i64 t126, .int .i64 t127, .slice Ao165 t128.length co165] 30 (0, 0)) Z5.z9 hb); have n8_ := Aside0.mk (below_step Z5.z3 hb); clear HO110 HO116 HO123 HO130 BK101 BK102 BK124 BK131 HB; have HO110 := n0_; have HO116 := n1_; have HO123 := n2_; have HO130 := n3_; have BK101 := n4_; have BK102 := n5_; have BK124 := n6_; have BK131 := n7_; have HB := n8_; clear n0_ n1_ n2_ n3_ n4_ n5_ n6_ n7_ n8_; (try clear hb); (try clear hb2); (try clear hk); (try clear hi)))
 have n0_ := Aside0.mk (Kd.R_drew HO110.out)
 have n1_ := Aside0.mk (Kd.R_drew HO116.out)
 have n2_ := Aside0.mk (Kd.R_drew HO123.out)
 have n3_ := Aside0.mk (Kd.R_drew HO130.out)
 have n4_ := Aside0.mk (blk_drew BK101.out)
 have n5_ := Aside0.mk (blk_drew BK102.out)
 have n6_ := Aside0.mk (blk_drew BK124.out)
 have n7_ := Aside0.mk (blk_drew BK131.out)
 have n8_ := Aside0.mk (below_drew1 HB.out)
 clear HO110 HO116 HO123 HO130 BK101 BK102 BK124 BK131 HB
 have HO110 := n0_
 have HO116 := n1_
 have HO123 := n2_
 have HO130 := n3_
 have BK101 := n4_
 have BK102 := n5_
 have BK124 := n6_
 have BK131 := n7_
 have HB := n8_
 clear n0_ n1_ n2_ n3_ n4_ n5_ n6_ n7_ n8_
 refine start_ (n := 5) (S := fun w' => w'.cell? ⟨gb124, 0, none⟩ = some (.int .i64 t118) ∧ w'.cell? ⟨gb124, 1, none⟩ = some (.int .i64 t119) ∧ w'.cell? ⟨gb124, 2, none⟩ = some (.int .i64 t120) ∧ w'.cell? ⟨gb124, 3, none⟩ = some (.slice Ao157 t121.length co157) ∧ w'.cell? ⟨gb101, 0, none⟩ = some (.int .i64 a0_0) ∧ w'.cell? ⟨gb101, 1, none⟩ = some (.int .i64 a0_1) ∧ w'.cell? ⟨gb101, 2, none⟩ = some (.int .i64 a0_2) ∧ w'.cell? ⟨gb101, 3, none⟩ = some (.slice A0_3 l0_3.length c0_3)) (ds := []) #[false, false, false, false, false] (by kernel_rfl) rfl rfl Z5.z14 (fun hHeld => ?_)
 generalize w167.drew = w168 at HO110 HO116 HO123 HO130 BK101 BK102 BK124 BK131 HB hHeld ⊢
 refine take_ (i := 0) (N := some 35) (v := ?_) (a' := ?_) #[true, false, false, false, false] rfl rfl (by kernel_rfl) (fun _ _ _ h => h) (Or.inl ⟨(by rfl), ?_⟩) hHeld ?_ ?_
 rotate_left
 ·rintro w' ⟨s0, s1, s2, s3, s4, s5, s6, s7⟩
  go_simp
  with_reducible rfl
 rotate_left
 ·exact Z5.z13
 refine take_ (i := 1) (N := some 36) (v := ?_) (a' := ?_) #[true, true, false, false, false] rfl rfl (by kernel_rfl) (fun _ _ _ h => h) (Or.inl ⟨(by rfl), ?_⟩) hHeld ?_ ?_
 rotate_left
 ·rintro w' ⟨s0, s1, s2, s3, s4, s5, s6, s7⟩
  go_simp
  with_reducible rfl
 rotate_left
 ·exact Z5.z13
 refine one_ (i := 2) (N := some 37) #[true, true, true, false, false] rfl rfl (by kernel_rfl) (by decide) (fun K hK => ?_)
 refine goes_ Try.func13 (by kernel_rfl) rfl #[.agg #[.int .i64 a0_0, .int .i64 a0_1, .int .i64 a0_2, .slice A0_3 l0_3.length c0_3]] (by rfl) rfl rfl Z5.z4 ?_
 with_reducible refine (laws_toMatrix.calls k a0_0 a0_1 a0_2 _ _ l0_3 t133 t134 t135 t136 _ ?side1 ?side2 A56.out).mono ?_
 (case side1 => exact Z5.z11)
 (case side2 => exact HC0_3.out)
 rintro e w169 ⟨v137, rfl, ho0, hb⟩
 refine ⟨_, rfl, ?_⟩
 have n0_ := Aside0.mk (Kd.R_elder' Z5.z7 (Kd.R_base ho0) hb)
 have n1_ := Aside0.mk (Kd.R_elder' Z5.z8 (Kd.R_base ho0) hb)
 have n2_ := Aside0.mk (Kd.R_elder' Z5.z17 (Kd.R_base ho0) hb)
 have n3_ := Aside0.mk (Kd.R_elder' Z5.z19 (Kd.R_base ho0) hb)
 have n4_ := Aside0.mk (Kd.R_lower (Kd.R_new' (Kd.R_new' (Kd.R_new' (Kd.R_new' ho0 (Kd.R_lt Z5.z7)) (Kd.R_lt Z5.z8)) (Kd.R_lt Z5.z17)) (Kd.R_lt Z5.z19)) (below_size Z5.z3))
 have n5_ := Aside0.mk (Z5.bb BK101 Z5.z1 hb)
 have n6_ := Aside0.mk (Z5.bb BK102 Z5.z2 hb)
 have n7_ := Aside0.mk (Z5.bb BK124 Z5.z15 hb)
 have n8_ := Aside0.mk (Z5.bb BK131 Z5.z21 hb)
 have n9_ := Aside0.mk (below_step Z5.z3 hb)
 clear HO110 HO116 HO123 HO130 BK101 BK102 BK124 BK131 HB
 have HO110 := n0_
 have HO116 := n1_
 have HO123 := n2_
 have HO130 := n3_
 have HO138 := n4_
 have BK101 := n5_
 have BK102 := n6_
 have BK124 := n7_
 have BK131 := n8_
 have HB := n9_
 clear n0_ n1_ n2_ n3_ n4_ n5_ n6_ n7_ n8_ n9_
 (try clear hb)
 (try clear hb2)
 (try clear hk)
 (try clear hi)
 (try clear ho0)
 obtain ⟨Ao170, co170, eo170⟩ := Kd.R_slice HO138.out
 (first | subst eo170 | (injection eo170 with f1_ f2_ f3_; have f4_ := f1_.symm; have f5_ := f3_.symm; clear f1_ f2_ f3_; subst f4_; subst f5_))
 refine hK.out _ _ Z5.z14 (fun hHeld => ?_)
 clear hK K
 refine norm_ (a' := ?_) ?_ ?_
 rotate_left
 ·show Act.put _ (some 37) _ = _
  simp only [Act.put, List.setIfInBounds_toArray, List.set_cons_zero, List.set_cons_succ, i64_w, i32_w]
  rfl
 refine one_ (i := 3) (N := some 38) #[true, true, true, true, false] rfl rfl (by kernel_rfl) (by decide) (fun K hK => ?_)
 refine goes_ Try.func15 (by kernel_rfl) rfl #[.agg #[.int .i64 t118, .int .i64 t119, .int .i64 t120, .slice Ao157 t121.length co157], .agg #[.int .i64 t133, .int .i64 t134, .int .i64 t135, .slice Ao170 t136.length co170]] (by rfl) rfl rfl Z5.z4 ?_
 with_reducible refine (laws_eqMatrix.calls k t118 t119 t120 _ _ t121 t133 t134 t135 _ _ t136 false _ ?side1 ?side2 ?side3 ?side4 A57.out).mono ?_
 (case side1 => exact Z5.z54)
 (case side2 => exact (Kd.R_reads' HO123.out).2.1)
 (case side3 => exact Z5.z53)
 (case side4 => exact (Kd.R_reads' HO138.out).2.1)
 rintro e w171 ⟨rfl, hb⟩
 refine ⟨_, rfl, ?_⟩
 have n0_ := Aside0.mk (Kd.R_below Z5.z7 hb)
 have n1_ := Aside0.mk (Kd.R_below Z5.z8 hb)
 have n2_ := Aside0.mk (Kd.R_below Z5.z17 hb)
 have n3_ := Aside0.mk (Kd.R_below Z5.z19 hb)
 have n4_ := Aside0.mk (Kd.R_below Z5.z22 hb)
 have n5_ := Aside0.mk (Z5.bb BK101 Z5.z1 hb)
 have n6_ := Aside0.mk (Z5.bb BK102 Z5.z2 hb)
 have n7_ := Aside0.mk (Z5.bb BK124 Z5.z15 hb)
 have n8_ := Aside0.mk (Z5.bb BK131 Z5.z21 hb)
 have n9_ := Aside0.mk (below_step Z5.z3 hb)
 clear HO110 HO116 HO123 HO130 HO138 BK101 BK102 BK124 BK131 HB
 have HO110 := n0_
 have HO116 := n1_
 have HO123 := n2_
 have HO130 := n3_
 have HO138 := n4_
 have BK101 := n5_
 have BK102 := n6_
 have BK124 := n7_
 have BK131 := n8_
 have HB := n9_
 clear n0_ n1_ n2_ n3_ n4_ n5_ n6_ n7_ n8_ n9_
 (try clear hb)
 (try clear hb2)
 (try clear hk)
 (try clear hi)
 refine hK.out _ _ Z5.z14 (fun hHeld => ?_)
 clear hK K
 refine norm_ (a' := ?_) ?_ ?_
 rotate_left
 ·show Act.put _ (some 38) _ = _
  simp only [Act.put, List.setIfInBounds_toArray, List.set_cons_zero, List.set_cons_succ, i64_w, i32_w]
  rfl
 refine pure_ (i := 4) (N := some 39) (v := ?_) (a' := ?_) #[true, true, true, true, true] rfl rfl (by kernel_rfl) (fun _ _ _ h => h) (Or.inl ⟨(by rfl), ?_⟩) ?_ ?_
 rotate_left
 ·intro w'
  go_simp
  with_reducible rfl
 rotate_left
 ·exact Z5.z13
 refine done_ (by kernel_rfl) ?_
 try go_wp2
 go_ret
 exact ⟨Z5.z50, Z5.z3⟩

/-- THE ONE PURE STATEMENT of laws_FnExactSameMatrix: yours. -/
def laws_FnExactSameMatrix.Pure : Prop := ∀ (a0_0 : Int) (a0_1 : Int) (a0_2 : Int) (l0_3 : List Int) (a1_0 : Int) (a1_1 : Int) (a1_2 : Int) (l1_3 : List Int), (Lit.int .i64 a0_0).wf = true → (Lit.int .i64 a0_1).wf = true → (Lit.int .i64 a0_2).wf = true → l0_3.length ≤ maxLen → (∀ x ∈ l0_3, (Lit.int .i64 x).wf = true) → (Lit.int .i64 a1_0).wf = true → (Lit.int .i64 a1_1).wf = true → (Lit.int .i64 a1_2).wf = true → l1_3.length ≤ maxLen → (∀ x ∈ l1_3, (Lit.int .i64 x).wf = true) → ∃ k, laws_FnExactSameMatrix.f k a0_0 a0_1 a0_2 l0_3 a1_0 a1_1 a1_2 l1_3 = some true
theorem laws_FnExactSameMatrix.walk (P : laws_FnExactSameMatrix.Pure) (a0_0 : Int) (a0_1 : Int) (a0_2 : Int) (a0_3 : Option Addr) (len0_3 cap0_3 : Nat) (z0_3 : List Int) (a1_0 : Int) (a1_1 : Int) (a1_2 : Int) (a1_3 : Option Addr) (len1_3 cap1_3 : Nat) (z1_3 : List Int) (w : World) (w0_0 : (Lit.int .i64 a0_0).wf = true) (w0_1 : (Lit.int .i64 a0_1).wf = true) (w0_2 : (Lit.int .i64 a0_2).wf = true) (w0_3 : (a0_3 = none ∧ len0_3 = 0 ∧ cap0_3 = 0 ∧ z0_3 = []) ∨ ∃ x, a0_3 = some x ∧ len0_3 ≤ cap0_3 ∧ cap0_3 ≤ maxLen ∧ z0_3.length = cap0_3 ∧ (∀ i, i < z0_3.length → w.cell? (x.add i) = some (.int .i64 (z0_3.getD i 0))) ∧ ∀ n ∈ z0_3, (Lit.int .i64 n).wf = true) (w1_0 : (Lit.int .i64 a1_0).wf = true) (w1_1 : (Lit.int .i64 a1_1).wf = true) (w1_2 : (Lit.int .i64 a1_2).wf = true) (w1_3 : (a1_3 = none ∧ len1_3 = 0 ∧ cap1_3 = 0 ∧ z1_3 = []) ∨ ∃ x, a1_3 = some x ∧ len1_3 ≤ cap1_3 ∧ cap1_3 ≤ maxLen ∧ z1_3.length = cap1_3 ∧ (∀ i, i < z1_3.length → w.cell? (x.add i) = some (.int .i64 (z1_3.getD i 0))) ∧ ∀ n ∈ z1_3, (Lit.int .i64 n).wf = true) :
    Calls Try.prog 5 #[.agg #[.int .i64 a0_0, .int .i64 a0_1, .int .i64 a0_2, .slice a0_3 len0_3 cap0_3], .agg #[.int .i64 a1_0, .int .i64 a1_1, .int .i64 a1_2, .slice a1_3 len1_3 cap1_3]] w fun e w' => e = .returned (.bool true) ∧ Below w.heap.size w w' := by
  obtain ⟨l0_3, rfl, hr0_3, hm0_3, hw0_3, hc0_3⟩ := ReadsInt.ofRowC w0_3
  obtain ⟨l1_3, rfl, hr1_3, hm1_3, hw1_3, hc1_3⟩ := ReadsInt.ofRowC w1_3
  obtain ⟨k, h⟩ := P a0_0 a0_1 a0_2 l0_3 a1_0 a1_1 a1_2 l1_3 w0_0 w0_1 w0_2 hm0_3 hw0_3 w1_0 w1_1 w1_2 hm1_3 hw1_3
  refine (laws_FnExactSameMatrix.calls k a0_0 a0_1 a0_2 _ _ l0_3 a1_0 a1_1 a1_2 _ _ l1_3 true w (Kd.C_of_reads (d := (0 : Int)) (h1 := fun _ => rfl) hr0_3) hc0_3 (Kd.C_of_reads (d := (0 : Int)) (h1 := fun _ => rfl) hr1_3) hc1_3 h).mono ?_
  rintro e w' ⟨rfl, hd⟩
  exact ⟨rfl, hd⟩

end Go.Proofs.Ytmkcangcfammnaa.F
