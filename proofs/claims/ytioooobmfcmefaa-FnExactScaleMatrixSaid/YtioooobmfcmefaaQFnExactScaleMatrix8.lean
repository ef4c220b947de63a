-- Texts of this claim, merged by pack.py (a program of this session's).
import Derived.Test.YtioooobmfcmefaaQFnExactScaleMatrix0
import Derived.Test.YtioooobmfcmefaaQFnExactScaleMatrix1
import Derived.Test.YtioooobmfcmefaaQFnExactScaleMatrix4
import Derived.Test.YtioooobmfcmefaaQFnExactScaleMatrix7

section
namespace Go.Proofs.Ytioooobmfcmefaa.F
open Go.RowKit Go.Proofs.YtioooobmfcmefaaW.PrintWords Go.Proofs.YtioooobmfcmefaaW.PrintLast Go.Proofs.YtioooobmfcmefaaW.PrintMore
attribute [local go_sem] max2_int min2_int max_two min_two max_three min_three max_four min_four   -- for this text's walks alone
set_option linter.unusedVariables false
set_option linter.unusedSimpArgs false

/-! ### laws_FnExactScaleMatrix: function 11 -/
mutual
def laws_FnExactScaleMatrix.j0 : Nat → Int → Int → Int → Bool → Int → Int → Int → List Int → Int → Int → Int → List Int → Int → Int → Int → List Int → Int → Int → Int → List Int → Option (Bool)
  | 0, _, _, _, _, _, _, _, _, _, _, _, _, _, _, _, _, _, _, _, _ => none
  | k + 1, x1, x7, x10, x44, x701000, x701001, x701002, x701003, x716000, x716001, x716002, x716003, x723000, x723001, x723002, x723003, x731000, x731001, x731002, x731003 => if x44 = true then (some false) else ((laws_toMatrix.f k x701000 x701001 x701002 x701003).bind fun bt732 => ((laws_eqMatrix.f k x723000 x723001 x723002 x723003 bt732.1 bt732.2.1 bt732.2.2.1 bt732.2.2.2).bind fun t738 => (if t738 = true then ((laws_markMatrix.f k x723000 x723001 x723002 x723003 1).bind fun bt739 => (if bt739.1 < 0 then (laws_FnExactScaleMatrix.j1 k x1 x7 true x701000 x701001 x701002 x701003 x716000 x716001 x716002 x716003 x731000 x731001 x731002 x731003) else ((laws_eqMatrix.f k x731000 x731001 x731002 x731003 x716000 x716001 x716002 x716003).bind fun t741 => (if t741 = true then (laws_FnExactScaleMatrix.j1 k x1 x7 (x10 != x7) x701000 x701001 x701002 x701003 x716000 x716001 x716002 x716003 x731000 x731001 x731002 x731003) else (laws_FnExactScaleMatrix.j1 k x1 x7 true x701000 x701001 x701002 x701003 x716000 x716001 x716002 x716003 x731000 x731001 x731002 x731003))))) else (some false))))
def laws_FnExactScaleMatrix.j1 : Nat → Int → Int → Bool → Int → Int → Int → List Int → Int → Int → Int → List Int → Int → Int → Int → List Int → Option (Bool)
  | 0, _, _, _, _, _, _, _, _, _, _, _, _, _, _, _ => none
  | k + 1, x1, x7, x65, x701000, x701001, x701002, x701003, x716000, x716001, x716002, x716003, x731000, x731001, x731002, x731003 => if x65 = true then (some false) else ((laws_markMatrix.f k x731000 x731001 x731002 x731003 1).bind fun bt742 => ((laws_heldMatrix.f k x731000 x731001 x731002 bt742.2 1).bind fun t744 => (if t744 < 0 then (some false) else (if t744 = bt742.1 then ((laws_toMatrix.f k x701000 x701001 x701002 x701003).bind fun bt745 => ((impl_ScaleMatrix.f k bt745.1 bt745.2.1 bt745.2.2.1 bt745.2.2.2 x1).bind fun bt751 => ((laws_eqMatrix.f k bt751.1 bt751.2.1 bt751.2.2.1 bt751.2.2.2.1 x716000 x716001 x716002 x716003).bind fun t759 => (if t759 = true then (laws_FnExactScaleMatrix.j2 k bt742.1 (bt751.2.2.2.2 != x7) x731000 x731001 x731002 bt742.2) else (laws_FnExactScaleMatrix.j2 k bt742.1 true x731000 x731001 x731002 bt742.2))))) else (some false)))))
def laws_FnExactScaleMatrix.j2 : Nat → Int → Bool → Int → Int → Int → List Int → Option (Bool)
  | 0, _, _, _, _, _, _ => none
  | k + 1, x12, x92, x731000, x731001, x731002, x731003 => if x92 = true then (some false) else ((laws_heldMatrix.f k x731000 x731001 x731002 x731003 1).bind fun t760 => (if t760 < 0 then (some false) else (if t760 = x12 then (some true) else (some false))))
end
def laws_FnExactScaleMatrix.f (k : Nat) (a0_0 : Int) (a0_1 : Int) (a0_2 : Int) (l0_3 : List Int) (a1 : Int) : Option (Bool) := (laws_szMatrix.f a0_0 a0_1 a0_2 l0_3 1048576).bind fun t701 => (if t701 < 0 then (some true) else ((laws_toMatrix.f k a0_0 a0_1 a0_2 l0_3).bind fun bt702 => ((spec_ScaleMatrix.f k bt702.1 bt702.2.1 bt702.2.2.1 bt702.2.2.2 a1).bind fun bt708 => ((laws_toMatrix.f k a0_0 a0_1 a0_2 l0_3).bind fun bt716 => ((impl_ScaleMatrix.f k bt716.1 bt716.2.1 bt716.2.2.1 bt716.2.2.2 a1).bind fun bt723 => ((laws_eqMatrix.f k bt723.1 bt723.2.1 bt723.2.2.1 bt723.2.2.2.1 bt708.1 bt708.2.1 bt708.2.2.1 bt708.2.2.2.1).bind fun t731 => (if t731 = true then (laws_FnExactScaleMatrix.j0 k a1 bt708.2.2.2.2 bt723.2.2.2.2 (bt723.2.2.2.2 != bt708.2.2.2.2) a0_0 a0_1 a0_2 l0_3 bt708.1 bt708.2.1 bt708.2.2.1 bt708.2.2.2.1 bt716.1 bt716.2.1 bt716.2.2.1 bt716.2.2.2 bt723.1 bt723.2.1 bt723.2.2.1 bt723.2.2.2.1) else (laws_FnExactScaleMatrix.j0 k a1 bt708.2.2.2.2 bt723.2.2.2.2 true a0_0 a0_1 a0_2 l0_3 bt708.1 bt708.2.1 bt708.2.2.1 bt708.2.2.2.1 bt716.1 bt716.2.1 bt716.2.2.1 bt716.2.2.2 bt723.1 bt723.2.1 bt723.2.2.1 bt723.2.2.2.1))))))))
theorem laws_FnExactScaleMatrix.mono_l : ∀ k, (∀ y0 y1 y2 y3 y4 y5 y6 y7 y8 y9 y10 y11 y12 y13 y14 y15 y16 y17 y18 y19, LeO (laws_FnExactScaleMatrix.j0 k y0 y1 y2 y3 y4 y5 y6 y7 y8 y9 y10 y11 y12 y13 y14 y15 y16 y17 y18 y19) (laws_FnExactScaleMatrix.j0 (k + 1) y0 y1 y2 y3 y4 y5 y6 y7 y8 y9 y10 y11 y12 y13 y14 y15 y16 y17 y18 y19)) ∧ (∀ y0 y1 y2 y3 y4 y5 y6 y7 y8 y9 y10 y11 y12 y13 y14, LeO (laws_FnExactScaleMatrix.j1 k y0 y1 y2 y3 y4 y5 y6 y7 y8 y9 y10 y11 y12 y13 y14) (laws_FnExactScaleMatrix.j1 (k + 1) y0 y1 y2 y3 y4 y5 y6 y7 y8 y9 y10 y11 y12 y13 y14)) ∧ (∀ y0 y1 y2 y3 y4 y5, LeO (laws_FnExactScaleMatrix.j2 k y0 y1 y2 y3 y4 y5) (laws_FnExactScaleMatrix.j2 (k + 1) y0 y1 y2 y3 y4 y5))
  | 0 => ⟨fun _ _ _ _ _ _ _ _ _ _ _ _ _ _ _ _ _ _ _ _ r h => by simp [laws_FnExactScaleMatrix.j0] at h, fun _ _ _ _ _ _ _ _ _ _ _ _ _ _ _ r h => by simp [laws_FnExactScaleMatrix.j1] at h, fun _ _ _ _ _ _ r h => by simp [laws_FnExactScaleMatrix.j2] at h⟩
  | k + 1 => by
    obtain ⟨ih0, ih1, ih2⟩ := laws_FnExactScaleMatrix.mono_l k
    refine ⟨?_, ?_, ?_⟩
    · intro y0 y1 y2 y3 y4 y5 y6 y7 y8 y9 y10 y11 y12 y13 y14 y15 y16 y17 y18 y19
      unfold laws_FnExactScaleMatrix.j0
      repeat' first
      | (with_reducible exact ih0 _ _ _ _ _ _ _ _ _ _ _ _ _ _ _ _ _ _ _ _)
      | (with_reducible exact ih1 _ _ _ _ _ _ _ _ _ _ _ _ _ _ _)
      | (with_reducible exact ih2 _ _ _ _ _ _)
      | (with_reducible exact impl_ScaleMatrix.mono _ _ _ _ _ _)
      | (with_reducible exact laws_eqMatrix.mono _ _ _ _ _ _ _ _ _)
      | (with_reducible exact laws_heldMatrix.mono _ _ _ _ _ _)
      | (with_reducible exact laws_markMatrix.mono _ _ _ _ _ _)
      | (with_reducible exact laws_toMatrix.mono _ _ _ _ _)
      | (with_reducible exact spec_ScaleMatrix.mono _ _ _ _ _ _)
      | (with_reducible exact LeO.refl _)
      | (with_reducible exact LeO.none _)
      | (with_reducible refine LeO.ite ?_ ?_)
      | (with_reducible refine LeO.bind ?_ (fun _ => ?_))
      | exact ih0 _ _ _ _ _ _ _ _ _ _ _ _ _ _ _ _ _ _ _ _
      | exact ih1 _ _ _ _ _ _ _ _ _ _ _ _ _ _ _
      | exact ih2 _ _ _ _ _ _
      | exact impl_ScaleMatrix.mono _ _ _ _ _ _
      | exact laws_eqMatrix.mono _ _ _ _ _ _ _ _ _
      | exact laws_heldMatrix.mono _ _ _ _ _ _
      | exact laws_markMatrix.mono _ _ _ _ _ _
      | exact laws_toMatrix.mono _ _ _ _ _
      | exact spec_ScaleMatrix.mono _ _ _ _ _ _
      | exact LeO.none _
      | refine LeO.ite ?_ ?_
      | refine LeO.bind ?_ (fun _ => ?_)
    · intro y0 y1 y2 y3 y4 y5 y6 y7 y8 y9 y10 y11 y12 y13 y14
      unfold laws_FnExactScaleMatrix.j1
      repeat' first
      | (with_reducible exact ih0 _ _ _ _ _ _ _ _ _ _ _ _ _ _ _ _ _ _ _ _)
      | (with_reducible exact ih1 _ _ _ _ _ _ _ _ _ _ _ _ _ _ _)
      | (with_reducible exact ih2 _ _ _ _ _ _)
      | (with_reducible exact impl_ScaleMatrix.mono _ _ _ _ _ _)
      | (with_reducible exact laws_eqMatrix.mono _ _ _ _ _ _ _ _ _)
      | (with_reducible exact laws_heldMatrix.mono _ _ _ _ _ _)
      | (with_reducible exact laws_markMatrix.mono _ _ _ _ _ _)
      | (with_reducible exact laws_toMatrix.mono _ _ _ _ _)
      | (with_reducible exact spec_ScaleMatrix.mono _ _ _ _ _ _)
      | (with_reducible exact LeO.refl _)
      | (with_reducible exact LeO.none _)
      | (with_reducible refine LeO.ite ?_ ?_)
      | (with_reducible refine LeO.bind ?_ (fun _ => ?_))
      | exact ih0 _ _ _ _ _ _ _ _ _ _ _ _ _ _ _ _ _ _ _ _
      | exact ih1 _ _ _ _ _ _ _ _ _ _ _ _ _ _ _
      | exact ih2 _ _ _ _ _ _
      | exact impl_ScaleMatrix.mono _ _ _ _ _ _
      | exact laws_eqMatrix.mono _ _ _ _ _ _ _ _ _
      | exact laws_heldMatrix.mono _ _ _ _ _ _
      | exact laws_markMatrix.mono _ _ _ _ _ _
      | exact laws_toMatrix.mono _ _ _ _ _
      | exact spec_ScaleMatrix.mono _ _ _ _ _ _
      | exact LeO.none _
      | refine LeO.ite ?_ ?_
      | refine LeO.bind ?_ (fun _ => ?_)
    · intro y0 y1 y2 y3 y4 y5
      unfold laws_FnExactScaleMatrix.j2
      repeat' first
      | (with_reducible exact ih0 _ _ _ _ _ _ _ _ _ _ _ _ _ _ _ _ _ _ _ _)
      | (with_reducible exact ih1 _ _ _ _ _ _ _ _ _ _ _ _ _ _ _)
      | (with_reducible exact ih2 _ _ _ _ _ _)
      | (with_reducible exact impl_ScaleMatrix.mono _ _ _ _ _ _)
      | (with_reducible exact laws_eqMatrix.mono _ _ _ _ _ _ _ _ _)
      | (with_reducible exact laws_heldMatrix.mono _ _ _ _ _ _)
      | (with_reducible exact laws_markMatrix.mono _ _ _ _ _ _)
      | (with_reducible exact laws_toMatrix.mono _ _ _ _ _)
      | (with_reducible exact spec_ScaleMatrix.mono _ _ _ _ _ _)
      | (with_reducible exact LeO.refl _)
      | (with_reducible exact LeO.none _)
      | (with_reducible refine LeO.ite ?_ ?_)
      | (with_reducible refine LeO.bind ?_ (fun _ => ?_))
      | exact ih0 _ _ _ _ _ _ _ _ _ _ _ _ _ _ _ _ _ _ _ _
      | exact ih1 _ _ _ _ _ _ _ _ _ _ _ _ _ _ _
      | exact ih2 _ _ _ _ _ _
      | exact impl_ScaleMatrix.mono _ _ _ _ _ _
      | exact laws_eqMatrix.mono _ _ _ _ _ _ _ _ _
      | exact laws_heldMatrix.mono _ _ _ _ _ _
      | exact laws_markMatrix.mono _ _ _ _ _ _
      | exact laws_toMatrix.mono _ _ _ _ _
      | exact spec_ScaleMatrix.mono _ _ _ _ _ _
      | exact LeO.none _
      | refine LeO.ite ?_ ?_
      | refine LeO.bind ?_ (fun _ => ?_)
theorem laws_FnExactScaleMatrix.mono : ∀ a0 a1 a2 a3 a4 k, LeO (laws_FnExactScaleMatrix.f k a0 a1 a2 a3 a4) (laws_FnExactScaleMatrix.f (k + 1) a0 a1 a2 a3 a4) := by
  intro a0 a1 a2 a3 a4 k
  obtain ⟨ih0, ih1, ih2⟩ := laws_FnExactScaleMatrix.mono_l k
  unfold laws_FnExactScaleMatrix.f
  repeat' first
      | (with_reducible exact ih0 _ _ _ _ _ _ _ _ _ _ _ _ _ _ _ _ _ _ _ _)
      | (with_reducible exact ih1 _ _ _ _ _ _ _ _ _ _ _ _ _ _ _)
      | (with_reducible exact ih2 _ _ _ _ _ _)
      | (with_reducible exact impl_ScaleMatrix.mono _ _ _ _ _ _)
      | (with_reducible exact laws_eqMatrix.mono _ _ _ _ _ _ _ _ _)
      | (with_reducible exact laws_heldMatrix.mono _ _ _ _ _ _)
      | (with_reducible exact laws_markMatrix.mono _ _ _ _ _ _)
      | (with_reducible exact laws_toMatrix.mono _ _ _ _ _)
      | (with_reducible exact spec_ScaleMatrix.mono _ _ _ _ _ _)
      | (with_reducible exact LeO.refl _)
      | (with_reducible exact LeO.none _)
      | (with_reducible refine LeO.ite ?_ ?_)
      | (with_reducible refine LeO.bind ?_ (fun _ => ?_))
      | exact ih0 _ _ _ _ _ _ _ _ _ _ _ _ _ _ _ _ _ _ _ _
      | exact ih1 _ _ _ _ _ _ _ _ _ _ _ _ _ _ _
      | exact ih2 _ _ _ _ _ _
      | exact impl_ScaleMatrix.mono _ _ _ _ _ _
      | exact laws_eqMatrix.mono _ _ _ _ _ _ _ _ _
      | exact laws_heldMatrix.mono _ _ _ _ _ _
      | exact laws_markMatrix.mono _ _ _ _ _ _
      | exact laws_toMatrix.mono _ _ _ _ _
      | exact spec_ScaleMatrix.mono _ _ _ _ _ _
      | exact LeO.none _
      | refine LeO.ite ?_ ?_
      | refine LeO.bind ?_ (fun _ => ?_)
theorem Z11.bb {w0 w w1 : World} {g : Nat} {o : Obj} (_B : Aside0 (w0.heap[g]? = some o)) (h : w.heap[g]? = some o) (hb : Below w.heap.size w w1) : w1.heap[g]? = some o := blk_below h hb
theorem Z11.bl {w0 w : World} {g : Nat} {o : Obj} (_B : Aside0 (w0.heap[g]? = some o)) (h : w.heap[g]? = some o) : g < w.heap.size := blk_lt h
theorem Z11.z72 {P : Prop} (h : P := by (with_reducible repeat (first | apply Kd.R_alloc | apply Kd.R_drewN | apply Kd.R_drew)); exact Kd.R_mono HO713.out (fun _ hk => ⟨hk.1.2, hk.2⟩)) : P := h
theorem Z11.z71 {P : Prop} (h : P := by (with_reducible repeat (first | apply Kd.R_alloc | apply Kd.R_drewN | apply Kd.R_drew)); exact Kd.R_mono HO721.out (fun _ hk => ⟨hk.1.2, hk.2⟩)) : P := h
theorem Z11.z70 {P : Prop} (h : P := by (with_reducible repeat (first | apply Kd.R_alloc | apply Kd.R_drewN | apply Kd.R_drew)); exact Kd.R_mono HO728.out (fun _ hk => ⟨hk.1.2, hk.2⟩)) : P := h
theorem Z11.z69 {P : Prop} (h : P := by (try simp only [hl723003_60]); (with_reducible repeat (first | refine blk_drewN ?_ _ | refine blk_drew ?_ | refine blk_alloc ?_ _)); exact BK700.out) : P := h
theorem Z11.z68 {P : Prop} (h : P := by (try simp only [hl723003_60]); (with_reducible repeat (first | refine blk_drewN ?_ _ | refine blk_drew ?_ | refine blk_alloc ?_ _)); exact BK715.out) : P := h
theorem Z11.z67 {P : Prop} (h : P := by (try simp only [hl723003_60]); (with_reducible repeat (first | refine blk_drewN ?_ _ | refine blk_drew ?_ | refine blk_alloc ?_ _)); exact BK722.out) : P := h
theorem Z11.z66 {P : Prop} (h : P := by (try simp only [hl723003_60]); (with_reducible repeat (first | refine blk_drewN ?_ _ | refine blk_drew ?_ | refine blk_alloc ?_ _)); exact BK730.out) : P := h
theorem Z11.z65 {P : Prop} (h : P := by (try simp only [hl723003_60]); (with_reducible repeat (first | refine blk_drewN ?_ _ | refine blk_drew ?_ | refine blk_alloc ?_ _)); exact BK758.out) : P := h
theorem Z11.z64 {P : Prop} (h : P := by first | rfl | (simp; done) | (simp [*]; done)) : P := h
theorem Z11.z63 {P : Prop} (h : P := by (repeat (first | (with_reducible first | refine blk_drewN ?_ _ | refine blk_drew ?_ | refine blk_alloc ?_ _) | refine blk_far ?_ NB700_730.out _)); exact BK700.out) : P := h
theorem Z11.z62 {P : Prop} (h : P := by (repeat (first | (with_reducible first | refine blk_drewN ?_ _ | refine blk_drew ?_ | refine blk_alloc ?_ _) | refine blk_far ?_ NB700_758.out _)); exact BK700.out) : P := h
theorem Z11.z61 {P : Prop} (h : P := by (repeat (first | (with_reducible first | refine blk_drewN ?_ _ | refine blk_drew ?_ | refine blk_alloc ?_ _) | refine blk_far ?_ NB715_730.out _)); exact BK715.out) : P := h
theorem Z11.z60 {P : Prop} (h : P := by (repeat (first | (with_reducible first | refine blk_drewN ?_ _ | refine blk_drew ?_ | refine blk_alloc ?_ _) | refine blk_far ?_ NB715_758.out _)); exact BK715.out) : P := h
theorem Z11.z59 {P : Prop} (h : P := by (repeat (first | (with_reducible first | refine blk_drewN ?_ _ | refine blk_drew ?_ | refine blk_alloc ?_ _) | refine blk_far ?_ NB722_730.out _)); exact BK722.out) : P := h
theorem Z11.z58 {P : Prop} (h : P := by (repeat (first | (with_reducible first | refine blk_drewN ?_ _ | refine blk_drew ?_ | refine blk_alloc ?_ _) | refine blk_far ?_ NB722_758.out _)); exact BK722.out) : P := h
theorem Z11.z57 {P : Prop} (h : P := by (repeat (first | (with_reducible first | refine blk_drewN ?_ _ | refine blk_drew ?_ | refine blk_alloc ?_ _) | refine blk_far ?_ NB730_758.out _)); exact BK730.out) : P := h
theorem Z11.z56 {P : Prop} (h : P := by repeat (first | exact (Kd.R_reads' HO737.out).2.2 | (with_reducible refine Kd.C_alloc ?_ _) | (with_reducible refine Kd.C_drewN ?_ _) | (with_reducible refine Kd.C_drew ?_))) : P := h
theorem Z11.z55 {P : Prop} (h : P := by repeat (first | exact (Kd.R_reads' HO_716003.out).2.2 | (with_reducible refine Kd.C_alloc ?_ _) | (with_reducible refine Kd.C_drewN ?_ _) | (with_reducible refine Kd.C_drew ?_))) : P := h
theorem Z11.z54 {P : Prop} (h : P := by repeat (first | exact (Kd.R_reads' HO_723003.out).2.2 | (with_reducible refine Kd.C_alloc ?_ _) | (with_reducible refine Kd.C_drewN ?_ _) | (with_reducible refine Kd.C_drew ?_))) : P := h
theorem Z11.z53 {P : Prop} (h : P := by (with_reducible repeat (first | apply Kd.R_alloc | apply Kd.R_drewN | apply Kd.R_drew)); exact HO713.out) : P := h
theorem Z11.z52 {P : Prop} (h : P := by (with_reducible repeat (first | apply Kd.R_alloc | apply Kd.R_drewN | apply Kd.R_drew)); exact HO750.out) : P := h
theorem Z11.z51 {P : Prop} (h : P := by (try simp only [hl723003_60]); (with_reducible repeat (first | apply Kd.R_alloc | apply Kd.R_drewN | apply Kd.R_drew)); exact Kd.R_mono HO756.out (fun _ hk => ⟨hk.1.1.1.2, ⟨hk.1.1.2, hk.1.2⟩⟩)) : P := h
theorem Z11.z50 {P : Prop} (h : P := by (try simp only [hl723003_60]); (with_reducible repeat (first | apply Kd.R_alloc | apply Kd.R_drewN | apply Kd.R_drew)); exact Kd.R_mono HO_716003.out (fun _ hk => ⟨hk.1.1.1, ⟨hk.1.1.2, hk.2⟩⟩)) : P := h
theorem Z11.z49 {P : Prop} (h : P := by (try simp only [hl723003_60]); (with_reducible repeat (first | apply Kd.R_alloc | apply Kd.R_drewN | apply Kd.R_drew)); exact Kd.R_mono HO_723003.out (fun _ hk => ⟨hk.1.1.1, ⟨hk.1.1.2, hk.2⟩⟩)) : P := h
theorem Z11.z48 {P : Prop} (h : P := by (try simp only [hl723003_60]); (with_reducible repeat (first | apply Kd.R_alloc | apply Kd.R_drewN | apply Kd.R_drew)); exact Kd.R_mono HO_731003.out (fun _ hk => ⟨hk.1.1.1, ⟨hk.1.1.2, hk.2⟩⟩)) : P := h
theorem Z11.z47 {P : Prop} (h : P := by (with_reducible repeat (first | apply Kd.R_alloc | apply Kd.R_drewN | apply Kd.R_drew)); exact HO_759003.out) : P := h
theorem Z11.z46 {P : Prop} (h : P := by rw [show t743.length = t726.length from (Kd.R_reads' HO_731003.out).1.symm]; exact (Kd.R_reads' HO_731003.out).2.1) : P := h
theorem Z11.z45 {P : Prop} (h : P := by (with_reducible repeat (first | refine blk_drewN ?_ _ | refine blk_drew ?_ | refine blk_alloc ?_ _)); exact BK758.out) : P := h
theorem Z11.z44 {P : Prop} (h : P := by (with_reducible repeat (first | apply Kd.R_alloc | apply Kd.R_drewN | apply Kd.R_drew)); exact HO737.out) : P := h
theorem Z11.z43 {P : Prop} (h : P := by (with_reducible repeat (first | apply Kd.R_alloc | apply Kd.R_drewN | apply Kd.R_drew)); exact Kd.R_mono HO_716003.out (fun _ hk => ⟨hk.1, hk.2.1⟩)) : P := h
theorem Z11.z42 {P : Prop} (h : P := by (with_reducible repeat (first | apply Kd.R_alloc | apply Kd.R_drewN | apply Kd.R_drew)); exact Kd.R_mono HO_731003.out (fun _ hk => ⟨hk.1, hk.2.1⟩)) : P := h
theorem Z11.z41 {P : Prop} (h : P := by (with_reducible repeat (first | apply Kd.R_alloc | apply Kd.R_drewN | apply Kd.R_drew)); exact Kd.R_mono HO_723003.out (fun _ hk => ⟨hk.1.1, hk.1.2⟩)) : P := h
theorem Z11.z40 {P : Prop} (h : P := by refine (Kd.R_reads' (e := 2) (base := w.heap.size) (ok := fun k_ => (((True ∧ some k_ ≠ (.slice Ao18 t705.length co18 : Value).ownBlock) ∧ some k_ ≠ (.slice Ao23 t711.length co23 : Value).ownBlock) ∧ some k_ ≠ (.slice Ao30 t719.length co30 : Value).ownBlock)) (n := t726.length) (c := co37) ?_).2.2; exact Z11.z12) : P := h
theorem Z11.z39 {P : Prop} (h : P := by refine (Kd.R_reads' (e := 2) (base := w.heap.size) (ok := fun k_ => (((True ∧ some k_ ≠ (.slice Ao18 t705.length co18 : Value).ownBlock) ∧ some k_ ≠ (.slice Ao30 t719.length co30 : Value).ownBlock) ∧ some k_ ≠ (.slice Ao37 t726.length co37 : Value).ownBlock)) (n := t711.length) (c := co23) ?_).2.2; exact Z11.z13) : P := h
theorem Z11.z38 {P : Prop} (h : P := by (with_reducible repeat (first | apply Kd.R_alloc | apply Kd.R_drewN | apply Kd.R_drew)); exact HO707.out) : P := h
theorem Z11.z37 {P : Prop} (h : P := by refine (Kd.R_reads' (e := 2) (base := w.heap.size) (ok := fun k_ => (((some k_ ≠ (.slice Ao30 t740.length co30 : Value).ownBlock ∧ some k_ ≠ (.slice Ao37 t726.length co37 : Value).ownBlock) ∧ some k_ ≠ (.slice Ao116 t748.length co116 : Value).ownBlock) ∧ some k_ ≠ (.slice Ao124 t754.length co124 : Value).ownBlock)) (n := t711.length) (c := co23) ?_).2.2; exact Z11.z10) : P := h
theorem Z11.z36 {P : Prop} (h : P := by refine (Kd.R_reads' (e := 2) (base := w.heap.size) (ok := fun k_ => ((((True ∧ some k_ ≠ (.slice Ao23 t711.length co23 : Value).ownBlock) ∧ some k_ ≠ (.slice Ao30 t740.length co30 : Value).ownBlock) ∧ some k_ ≠ (.slice Ao37 t726.length co37 : Value).ownBlock) ∧ some k_ ≠ (.slice Ao116 t748.length co116 : Value).ownBlock)) (n := t754.length) (c := co124) ?_).2.2; exact Z11.z11) : P := h
theorem Z11.z35 {P : Prop} (h : P := by (try simp only [List.map_toArray, List.map_cons, List.map_nil]); first | done | (rw [show t743.length = t726.length from (Kd.R_reads' HO_731003.out).1.symm] <;> rfl) | rfl | (simp only [List.length_drop, List.length_take]; rfl)) : P := h
theorem Z11.z34 {P : Prop} (h : P := by simp only [Act.put, List.setIfInBounds_toArray, List.set_cons_zero, List.set_cons_succ, i64_w, i32_w]; rfl) : P := h
theorem Z11.z33 {P : Prop} (h : P := by (with_reducible repeat (first | apply Kd.R_alloc | apply Kd.R_drewN | apply Kd.R_drew)); exact (Kd.R_mono (Kd.R_far (p := ⟨gb715, 3, none⟩) (Kd.R_far (p := ⟨gb715, 2, none⟩) (Kd.R_far (p := ⟨gb715, 1, none⟩) (Kd.R_far (p := ⟨gb715, 0, none⟩) (Kd.R_types HO707.out BK715.out (by decide)) (fun _ hk => hk.2) (.int .i64 t708)) (fun _ hk => hk.2) (.int .i64 t709)) (fun _ hk => hk.2) (.int .i64 t710)) (fun _ hk => hk.2) (.slice Ao23 t711.length co23)) (fun _ h_ => h_.1))) : P := h
theorem Z11.z32 {P : Prop} (h : P := by (with_reducible repeat (first | apply Kd.R_alloc | apply Kd.R_drewN | apply Kd.R_drew)); exact (Kd.R_mono (Kd.R_far (p := ⟨gb715, 3, none⟩) (Kd.R_far (p := ⟨gb715, 2, none⟩) (Kd.R_far (p := ⟨gb715, 1, none⟩) (Kd.R_far (p := ⟨gb715, 0, none⟩) (Kd.R_types HO713.out BK715.out (by decide)) (fun _ hk => hk.2) (.int .i64 t708)) (fun _ hk => hk.2) (.int .i64 t709)) (fun _ hk => hk.2) (.int .i64 t710)) (fun _ hk => hk.2) (.slice Ao23 t711.length co23)) (fun _ h_ => h_.1))) : P := h
theorem Z11.z31 {P : Prop} (h : P := by (with_reducible repeat (first | apply Kd.R_alloc | apply Kd.R_drewN | apply Kd.R_drew)); exact (Kd.R_mono (Kd.R_far (p := ⟨gb722, 3, none⟩) (Kd.R_far (p := ⟨gb722, 2, none⟩) (Kd.R_far (p := ⟨gb722, 1, none⟩) (Kd.R_far (p := ⟨gb722, 0, none⟩) (Kd.R_types HO707.out BK722.out (by decide)) (fun _ hk => hk.2) (.int .i64 t716)) (fun _ hk => hk.2) (.int .i64 t717)) (fun _ hk => hk.2) (.int .i64 t718)) (fun _ hk => hk.2) (.slice Ao30 t719.length co30)) (fun _ h_ => h_.1))) : P := h
theorem Z11.z30 {P : Prop} (h : P := by (with_reducible repeat (first | apply Kd.R_alloc | apply Kd.R_drewN | apply Kd.R_drew)); exact (Kd.R_mono (Kd.R_far (p := ⟨gb722, 3, none⟩) (Kd.R_far (p := ⟨gb722, 2, none⟩) (Kd.R_far (p := ⟨gb722, 1, none⟩) (Kd.R_far (p := ⟨gb722, 0, none⟩) (Kd.R_types HO713.out BK722.out (by decide)) (fun _ hk => hk.2) (.int .i64 t716)) (fun _ hk => hk.2) (.int .i64 t717)) (fun _ hk => hk.2) (.int .i64 t718)) (fun _ hk => hk.2) (.slice Ao30 t719.length co30)) (fun _ h_ => h_.1))) : P := h
theorem Z11.z29 {P : Prop} (h : P := by (with_reducible repeat (first | apply Kd.R_alloc | apply Kd.R_drewN | apply Kd.R_drew)); exact (Kd.R_mono (Kd.R_far (p := ⟨gb730, 3, none⟩) (Kd.R_far (p := ⟨gb730, 2, none⟩) (Kd.R_far (p := ⟨gb730, 1, none⟩) (Kd.R_far (p := ⟨gb730, 0, none⟩) (Kd.R_types HO707.out BK730.out (by decide)) (fun _ hk => hk.2) (.int .i64 t723)) (fun _ hk => hk.2) (.int .i64 t724)) (fun _ hk => hk.2) (.int .i64 t725)) (fun _ hk => hk.2) (.slice Ao37 t726.length co37)) (fun _ h_ => h_.1))) : P := h
theorem Z11.z28 {P : Prop} (h : P := by (with_reducible repeat (first | apply Kd.R_alloc | apply Kd.R_drewN | apply Kd.R_drew)); exact (Kd.R_mono (Kd.R_far (p := ⟨gb730, 3, none⟩) (Kd.R_far (p := ⟨gb730, 2, none⟩) (Kd.R_far (p := ⟨gb730, 1, none⟩) (Kd.R_far (p := ⟨gb730, 0, none⟩) (Kd.R_types HO721.out BK730.out (by decide)) (fun _ hk => hk.2) (.int .i64 t723)) (fun _ hk => hk.2) (.int .i64 t724)) (fun _ hk => hk.2) (.int .i64 t725)) (fun _ hk => hk.2) (.slice Ao37 t726.length co37)) (fun _ h_ => h_.1))) : P := h
theorem Z11.z27 {P : Prop} (h : P := by (with_reducible repeat (first | apply Kd.R_alloc | apply Kd.R_drewN | apply Kd.R_drew)); exact (Kd.R_mono (Kd.R_far (p := ⟨gb758, 3, none⟩) (Kd.R_far (p := ⟨gb758, 2, none⟩) (Kd.R_far (p := ⟨gb758, 1, none⟩) (Kd.R_far (p := ⟨gb758, 0, none⟩) (Kd.R_types HO750.out BK758.out (by decide)) (fun _ hk => hk.2) (.int .i64 t751)) (fun _ hk => hk.2) (.int .i64 t752)) (fun _ hk => hk.2) (.int .i64 t753)) (fun _ hk => hk.2) (.slice Ao124 t754.length co124)) (fun _ h_ => h_.1))) : P := h
theorem Z11.z26 {P : Prop} (h : P := by (with_reducible repeat (first | apply Kd.R_alloc | apply Kd.R_drewN | apply Kd.R_drew)); exact (Kd.R_mono (Kd.R_far (p := ⟨gb758, 3, none⟩) (Kd.R_far (p := ⟨gb758, 2, none⟩) (Kd.R_far (p := ⟨gb758, 1, none⟩) (Kd.R_far (p := ⟨gb758, 0, none⟩) (Kd.R_types HO_723003.out BK758.out (by decide)) (fun _ hk => hk.2) (.int .i64 t751)) (fun _ hk => hk.2) (.int .i64 t752)) (fun _ hk => hk.2) (.int .i64 t753)) (fun _ hk => hk.2) (.slice Ao124 t754.length co124)) (fun _ h_ => h_.1))) : P := h
theorem Z11.z25 {P : Prop} (h : P := by (with_reducible repeat (first | apply Kd.R_alloc | apply Kd.R_drewN | apply Kd.R_drew)); exact (Kd.R_mono (Kd.R_far (p := ⟨gb758, 3, none⟩) (Kd.R_far (p := ⟨gb758, 2, none⟩) (Kd.R_far (p := ⟨gb758, 1, none⟩) (Kd.R_far (p := ⟨gb758, 0, none⟩) (Kd.R_types HO_731003.out BK758.out (by decide)) (fun _ hk => hk.2) (.int .i64 t751)) (fun _ hk => hk.2) (.int .i64 t752)) (fun _ hk => hk.2) (.int .i64 t753)) (fun _ hk => hk.2) (.slice Ao124 t754.length co124)) (fun _ h_ => h_.1))) : P := h
theorem Z11.z24 {P : Prop} (h : P := by repeat (first | (with_reducible first | exact HB.out | apply below_alloc | apply pw_below_drewN | apply below_drew1) | exact HB.out)) : P := h
theorem Z11.z23 {P : Prop} (h : P := by first | rfl | (simp [errW_none, errW_some] <;> rfl) | (simp [*, errW_none, errW_some] <;> rfl)) : P := h
theorem Z11.z22 {P : Prop} (h : P := by repeat (first | exact (Kd.C_below HR0_3.out HB.out) | (with_reducible refine Kd.C_alloc ?_ _) | (with_reducible refine Kd.C_drewN ?_ _) | (with_reducible refine Kd.C_drew ?_))) : P := h
theorem Z11.z21 {P : Prop} (h : P := by repeat (first | (with_reducible first | exact HB.out | apply below_alloc | apply pw_below_drewN | apply below_drew1 | refine below_set ?_ GE700.out | refine below_set ?_ GE715.out | refine below_set ?_ GE722.out) | exact HB.out)) : P := h
theorem Z11.z20 {P : Prop} (h : P := by repeat (first | (with_reducible first | exact HB.out | apply below_alloc | apply pw_below_drewN | apply below_drew1 | refine below_set ?_ GE700.out | refine below_set ?_ GE715.out) | exact HB.out)) : P := h
theorem Z11.z19 {P : Prop} (h : P := by (with_reducible repeat (first | apply Kd.R_alloc | apply Kd.R_drewN | apply Kd.R_drew)); exact (Kd.R_mono (Kd.R_far (p := ⟨gb722, 3, none⟩) (Kd.R_far (p := ⟨gb722, 2, none⟩) (Kd.R_far (p := ⟨gb722, 1, none⟩) (Kd.R_far (p := ⟨gb722, 0, none⟩) (Kd.R_types HO721.out BK722.out (by decide)) (fun _ hk => hk.2) (.int .i64 t716)) (fun _ hk => hk.2) (.int .i64 t717)) (fun _ hk => hk.2) (.int .i64 t718)) (fun _ hk => hk.2) (.slice Ao30 t719.length co30)) (fun _ h_ => h_.1))) : P := h
theorem Z11.z18 {P : Prop} (h : P := by (with_reducible repeat (first | refine blk_drewN ?_ _ | refine blk_drew ?_ | refine blk_alloc ?_ _)); refine blk_put (cs := #[.int .i64 t723, .int .i64 t724, .int .i64 t725, .slice none 0 0]) ?_ 3 _ rfl; (with_reducible repeat (first | refine blk_drewN ?_ _ | refine blk_drew ?_ | refine blk_alloc ?_ _)); refine blk_put (cs := #[.int .i64 t723, .int .i64 t724, .int .i64 0, .slice none 0 0]) ?_ 2 _ rfl; (with_reducible repeat (first | refine blk_drewN ?_ _ | refine blk_drew ?_ | refine blk_alloc ?_ _)); refine blk_put (cs := #[.int .i64 t723, .int .i64 0, .int .i64 0, .slice none 0 0]) ?_ 1 _ rfl; (with_reducible repeat (first | refine blk_drewN ?_ _ | refine blk_drew ?_ | refine blk_alloc ?_ _)); refine blk_put (cs := #[.int .i64 0, .int .i64 0, .int .i64 0, .slice none 0 0]) ?_ 0 _ rfl; (with_reducible repeat (first | refine blk_drewN ?_ _ | refine blk_drew ?_ | refine blk_alloc ?_ _)); exact BK730.out) : P := h
theorem Z11.z17 {P : Prop} (h : P := by (with_reducible repeat (first | refine blk_drewN ?_ _ | refine blk_drew ?_ | refine blk_alloc ?_ _)); refine blk_put (cs := #[.int .i64 t751, .int .i64 t752, .int .i64 t753, .slice none 0 0]) ?_ 3 _ rfl; (with_reducible repeat (first | refine blk_drewN ?_ _ | refine blk_drew ?_ | refine blk_alloc ?_ _)); refine blk_put (cs := #[.int .i64 t751, .int .i64 t752, .int .i64 0, .slice none 0 0]) ?_ 2 _ rfl; (with_reducible repeat (first | refine blk_drewN ?_ _ | refine blk_drew ?_ | refine blk_alloc ?_ _)); refine blk_put (cs := #[.int .i64 t751, .int .i64 0, .int .i64 0, .slice none 0 0]) ?_ 1 _ rfl; (with_reducible repeat (first | refine blk_drewN ?_ _ | refine blk_drew ?_ | refine blk_alloc ?_ _)); refine blk_put (cs := #[.int .i64 0, .int .i64 0, .int .i64 0, .slice none 0 0]) ?_ 0 _ rfl; (with_reducible repeat (first | refine blk_drewN ?_ _ | refine blk_drew ?_ | refine blk_alloc ?_ _)); exact BK758.out) : P := h
theorem Z11.z16 {P : Prop} (h : P := by repeat (first | exact (Kd.R_reads' HO_731003.out).2.2 | (with_reducible refine Kd.C_alloc ?_ _) | (with_reducible refine Kd.C_drewN ?_ _) | (with_reducible refine Kd.C_drew ?_))) : P := h
theorem Z11.z15 {P : Prop} (h : P := by repeat (first | (with_reducible first | exact HB.out | apply below_alloc | apply pw_below_drewN | apply below_drew1 | refine below_set ?_ GE700.out) | exact HB.out)) : P := h
theorem Z11.z14 {P : Prop} (h : P := by exact ⟨(blk_cell BK722.out 0).trans rfl, (blk_cell BK722.out 1).trans rfl, (blk_cell BK722.out 2).trans rfl, (blk_cell BK722.out 3).trans rfl, (blk_cell BK700.out 0).trans rfl, (blk_cell BK700.out 1).trans rfl, (blk_cell BK700.out 2).trans rfl, (blk_cell BK700.out 3).trans rfl⟩) : P := h
theorem Z11.z13 {P : Prop} (h : P := by (with_reducible repeat (first | apply Kd.R_alloc | apply Kd.R_drewN | apply Kd.R_drew)); exact (Kd.R_mono (Kd.R_far (p := ⟨gb730, 3, none⟩) (Kd.R_far (p := ⟨gb730, 2, none⟩) (Kd.R_far (p := ⟨gb730, 1, none⟩) (Kd.R_far (p := ⟨gb730, 0, none⟩) (Kd.R_types HO713.out BK730.out (by decide)) (fun _ hk => hk.2) (.int .i64 t723)) (fun _ hk => hk.2) (.int .i64 t724)) (fun _ hk => hk.2) (.int .i64 t725)) (fun _ hk => hk.2) (.slice Ao37 t726.length co37)) (fun _ h_ => h_.1))) : P := h
theorem Z11.z12 {P : Prop} (h : P := by (with_reducible repeat (first | apply Kd.R_alloc | apply Kd.R_drewN | apply Kd.R_drew)); exact (Kd.R_mono (Kd.R_far (p := ⟨gb730, 3, none⟩) (Kd.R_far (p := ⟨gb730, 2, none⟩) (Kd.R_far (p := ⟨gb730, 1, none⟩) (Kd.R_far (p := ⟨gb730, 0, none⟩) (Kd.R_types HO728.out BK730.out (by decide)) (fun _ hk => hk.2) (.int .i64 t723)) (fun _ hk => hk.2) (.int .i64 t724)) (fun _ hk => hk.2) (.int .i64 t725)) (fun _ hk => hk.2) (.slice Ao37 t726.length co37)) (fun _ h_ => h_.1))) : P := h
theorem Z11.z11 {P : Prop} (h : P := by (with_reducible repeat (first | apply Kd.R_alloc | apply Kd.R_drewN | apply Kd.R_drew)); exact (Kd.R_mono (Kd.R_far (p := ⟨gb758, 3, none⟩) (Kd.R_far (p := ⟨gb758, 2, none⟩) (Kd.R_far (p := ⟨gb758, 1, none⟩) (Kd.R_far (p := ⟨gb758, 0, none⟩) (Kd.R_types HO756.out BK758.out (by decide)) (fun _ hk => hk.2) (.int .i64 t751)) (fun _ hk => hk.2) (.int .i64 t752)) (fun _ hk => hk.2) (.int .i64 t753)) (fun _ hk => hk.2) (.slice Ao124 t754.length co124)) (fun _ h_ => h_.1))) : P := h
theorem Z11.z10 {P : Prop} (h : P := by (with_reducible repeat (first | apply Kd.R_alloc | apply Kd.R_drewN | apply Kd.R_drew)); exact (Kd.R_mono (Kd.R_far (p := ⟨gb758, 3, none⟩) (Kd.R_far (p := ⟨gb758, 2, none⟩) (Kd.R_far (p := ⟨gb758, 1, none⟩) (Kd.R_far (p := ⟨gb758, 0, none⟩) (Kd.R_types HO_716003.out BK758.out (by decide)) (fun _ hk => hk.2) (.int .i64 t751)) (fun _ hk => hk.2) (.int .i64 t752)) (fun _ hk => hk.2) (.int .i64 t753)) (fun _ hk => hk.2) (.slice Ao124 t754.length co124)) (fun _ h_ => h_.1))) : P := h
theorem Z11.z9 {P : Prop} (h : P := by (with_reducible repeat (first | apply Kd.R_alloc | apply Kd.R_drewN | apply Kd.R_drew)); exact HO_716003.out) : P := h
theorem Z11.z8 {P : Prop} (h : P := by (with_reducible repeat (first | apply Kd.R_alloc | apply Kd.R_drewN | apply Kd.R_drew)); exact HO_723003.out) : P := h
theorem Z11.z7 {P : Prop} (h : P := by (with_reducible repeat (first | apply Kd.R_alloc | apply Kd.R_drewN | apply Kd.R_drew)); exact HO_731003.out) : P := h
theorem Z11.z6 {P : Prop} (h : P := by (with_reducible repeat (first | refine blk_drewN ?_ _ | refine blk_drew ?_ | refine blk_alloc ?_ _)); exact BK730.out) : P := h
theorem Z11.z5 {P : Prop} (h : P := by (try simp only [List.map_toArray, List.map_cons, List.map_nil]); first | done | rfl | (simp only [List.length_drop, List.length_take]; rfl)) : P := h
theorem Z11.z4 {P : Prop} (h : P := by (with_reducible repeat (first | refine blk_drewN ?_ _ | refine blk_drew ?_ | refine blk_alloc ?_ _)); exact BK722.out) : P := h
theorem Z11.z3 {P : Prop} (h : P := by repeat (first | (with_reducible first | exact HB.out | apply below_alloc | apply pw_below_drewN | apply below_drew1 | refine below_set ?_ GE700.out | refine below_set ?_ GE715.out | refine below_set ?_ GE722.out | refine below_set ?_ GE730.out | refine below_set ?_ GE758.out) | exact HB.out)) : P := h
theorem Z11.z2 {P : Prop} (h : P := by (with_reducible repeat (first | refine blk_drewN ?_ _ | refine blk_drew ?_ | refine blk_alloc ?_ _)); exact BK715.out) : P := h
theorem Z11.z1 {P : Prop} (h : P := by (with_reducible repeat (first | refine blk_drewN ?_ _ | refine blk_drew ?_ | refine blk_alloc ?_ _)); exact BK700.out) : P := h
theorem Z11.z0 {P : Prop} (h : P := by repeat (first | (with_reducible first | exact HB.out | apply below_alloc | apply pw_below_drewN | apply below_drew1 | refine below_set ?_ GE700.out | refine below_set ?_ GE715.out | refine below_set ?_ GE722.out | refine below_set ?_ GE730.out) | exact HB.out)) : P := h
set_option maxHeartbeats 8000000 in
set_option maxRecDepth 100000 in
theorem laws_FnExactScaleMatrix.calls (k : Nat) (a0_0 : Int) (a0_1 : Int) (a0_2 : Int) (A0_3 : Option Addr) (c0_3 : Nat) (l0_3 : List Int) (a1 : Int) (r : Bool) (w : World) (hr0_3 : Kd.C (Kd.int .i64) w A0_3 l0_3.length l0_3) (hc0_3 : l0_3.length ≤ c0_3) (h : laws_FnExactScaleMatrix.f k a0_0 a0_1 a0_2 l0_3 a1 = some r) :
  Calls Try.prog 11 #[.agg #[.int .i64 a0_0, .int .i64 a0_1, .int .i64 a0_2, .slice A0_3 l0_3.length c0_3], .int .i64 a1] w fun e w' => e = .returned (.bool r) ∧ Below w.heap.size w w' := by
 have hu32 := Try.underlying32
 have hu24 := Try.underlying24
 have HR0_3 := Aside0.mk hr0_3
 have HC0_3 := Aside0.mk hc0_3
 clear hr0_3 hc0_3
 have HB := Aside0.mk (Below.refl w.heap.size w)
 have H : ((laws_szMatrix.f a0_0 a0_1 a0_2 l0_3 1048576).bind fun t701 => (if t701 < 0 then (some true) else ((laws_toMatrix.f k a0_0 a0_1 a0_2 l0_3).bind fun bt702 => ((spec_ScaleMatrix.f k bt702.1 bt702.2.1 bt702.2.2.1 bt702.2.2.2 a1).bind fun bt708 => ((laws_toMatrix.f k a0_0 a0_1 a0_2 l0_3).bind fun bt716 => ((impl_ScaleMatrix.f k bt716.1 bt716.2.1 bt716.2.2.1 bt716.2.2.2 a1).bind fun bt723 => ((laws_eqMatrix.f k bt723.1 bt723.2.1 bt723.2.2.1 bt723.2.2.2.1 bt708.1 bt708.2.1 bt708.2.2.1 bt708.2.2.2.1).bind fun t731 => (if t731 = true then (laws_FnExactScaleMatrix.j0 k a1 bt708.2.2.2.2 bt723.2.2.2.2 (bt723.2.2.2.2 != bt708.2.2.2.2) a0_0 a0_1 a0_2 l0_3 bt708.1 bt708.2.1 bt708.2.2.1 bt708.2.2.2.1 bt716.1 bt716.2.1 bt716.2.2.1 bt716.2.2.2 bt723.1 bt723.2.1 bt723.2.2.1 bt723.2.2.2.1) else (laws_FnExactScaleMatrix.j0 k a1 bt708.2.2.2.2 bt723.2.2.2.2 true a0_0 a0_1 a0_2 l0_3 bt708.1 bt708.2.1 bt708.2.2.1 bt708.2.2.2.1 bt716.1 bt716.2.1 bt716.2.2.1 bt716.2.2.2 bt723.1 bt723.2.1 bt723.2.2.1 bt723.2.2.2.1))))))))) = some r := h
 clear h
 replace H := Option.bind_eq_some_iff.mp H
 obtain ⟨t701, A30, H⟩ := H
 replace H : (if t701 < 0 then (some true) else ((laws_toMatrix.f k a0_0 a0_1 a0_2 l0_3).bind fun bt702 => ((spec_ScaleMatrix.f k bt702.1 bt702.2.1 bt702.2.2.1 bt702.2.2.2 a1).bind fun bt708 => ((laws_toMatrix.f k a0_0 a0_1 a0_2 l0_3).bind fun bt716 => ((impl_ScaleMatrix.f k bt716.1 bt716.2.1 bt716.2.2.1 bt716.2.2.2 a1).bind fun bt723 => ((laws_eqMatrix.f k bt723.1 bt723.2.1 bt723.2.2.1 bt723.2.2.2.1 bt708.1 bt708.2.1 bt708.2.2.1 bt708.2.2.2.1).bind fun t731 => (if t731 = true then (laws_FnExactScaleMatrix.j0 k a1 bt708.2.2.2.2 bt723.2.2.2.2 (bt723.2.2.2.2 != bt708.2.2.2.2) a0_0 a0_1 a0_2 l0_3 bt708.1 bt708.2.1 bt708.2.2.1 bt708.2.2.2.1 bt716.1 bt716.2.1 bt716.2.2.1 bt716.2.2.2 bt723.1 bt723.2.1 bt723.2.2.1 bt723.2.2.2.1) else (laws_FnExactScaleMatrix.j0 k a1 bt708.2.2.2.2 bt723.2.2.2.2 true a0_0 a0_1 a0_2 l0_3 bt708.1 bt708.2.1 bt708.2.2.1 bt708.2.2.2.1 bt716.1 bt716.2.1 bt716.2.2.1 bt716.2.2.2 bt723.1 bt723.2.1 bt723.2.2.1 bt723.2.2.2.1)))))))) = some r := H
 have A3 := Aside0.mk A30
 clear A30
 by_cases c4 : t701 < 0
 ·rw [if_pos c4] at H
  have c4b0 : decide (t701 < 0) = true := decide_eq_true c4
  clear c4
  obtain rfl := Option.some.inj H
  go_enter Try.func11, Try.ntmps11
  go_wp2_with (first | ((with_reducible refine gate_dst (N := 2) rfl ?_); refine box_event ?hg (N := 2) ?hd (cs := #[.int .i64 a0_0, .int .i64 a0_1, .int .i64 a0_2, .slice A0_3 l0_3.length c0_3]) (t := 32) ?hr ?_; (case hd => rfl); (case hg => rfl); (case hr => first | (go_simp; done) | (go_simp; rfl)); intro gb700 hg w5 hbox hb; have n0_ := Aside0.mk (below_step Z11.z24 hb); have n1_ := Aside0.mk (hbox); have n2_ := Aside0.mk (show w.heap.size ≤ gb700 from (by rw [hg]; exact (below_size Z11.z24))); have n3_ := Aside0.mk (show w.heap.size ≤ gb700 from (by rw [hg]; exact (below_size Z11.z24))); clear HB; have HB := n0_; have BK700 := n1_; have GW700 := n2_; have GE700 := n3_; clear n0_ n1_ n2_ n3_; clear hb hbox hg; have hcz6_0 : w5.cell? ⟨gb700, 0, none⟩ = some (.int .i64 a0_0) := (blk_cell BK700.out 0).trans rfl; have hcz6_1 : w5.cell? ⟨gb700, 1, none⟩ = some (.int .i64 a0_1) := (blk_cell BK700.out 1).trans rfl; have hcz6_2 : w5.cell? ⟨gb700, 2, none⟩ = some (.int .i64 a0_2) := (blk_cell BK700.out 2).trans rfl; have hcz6_3 : w5.cell? ⟨gb700, 3, none⟩ = some (.slice A0_3 l0_3.length c0_3) := (blk_cell BK700.out 3).trans rfl; have hfz6_0 := blk_frozen BK700.out 0; have hfz6_1 := blk_frozen BK700.out 1; have hfz6_2 := blk_frozen BK700.out 2; have hfz6_3 := blk_frozen BK700.out 3) | ((with_reducible refine gate_callee (f := 22) rfl ?_); refine goesL_ (some 18) rfl rfl Try.func22 (by kernel_rfl) rfl #[.agg #[.int .i64 a0_0, .int .i64 a0_1, .int .i64 a0_2, .slice A0_3 l0_3.length c0_3], .int .i64 1048576] rfl Z11.z5 ?_; (with_reducible refine (laws_szMatrix.calls a0_0 a0_1 a0_2 _ _ l0_3 1048576 t701 _ ?side1 ?side2 A3.out).mono ?_); (case side1 => exact Z11.z22); (case side2 => exact HC0_3.out); rintro e w7 ⟨rfl, hb⟩; refine ⟨_, rfl, ?_⟩; have n0_ := Aside0.mk (Z11.bb BK700 Z11.z1 hb); have n1_ := Aside0.mk (below_step Z11.z15 hb); clear BK700 HB; have BK700 := n0_; have HB := n1_; clear n0_ n1_; (try clear hb); (try clear hb2); (try clear hk); (try clear hi)))
  go_ret
  exact ⟨Z11.z23, Z11.z15⟩
 rw [if_neg c4] at H
 have c4b0 : decide (t701 < 0) = false := decide_eq_false c4
 clear c4
 replace H := Option.bind_eq_some_iff.mp H
 obtain ⟨⟨t702, t703, t704, t705⟩, A80, H⟩ := H
 replace H : ((spec_ScaleMatrix.f k t702 t703 t704 t705 a1).bind fun bt708 => ((laws_toMatrix.f k a0_0 a0_1 a0_2 l0_3).bind fun bt716 => ((impl_ScaleMatrix.f k bt716.1 bt716.2.1 bt716.2.2.1 bt716.2.2.2 a1).bind fun bt723 => ((laws_eqMatrix.f k bt723.1 bt723.2.1 bt723.2.2.1 bt723.2.2.2.1 bt708.1 bt708.2.1 bt708.2.2.1 bt708.2.2.2.1).bind fun t731 => (if t731 = true then (laws_FnExactScaleMatrix.j0 k a1 bt708.2.2.2.2 bt723.2.2.2.2 (bt723.2.2.2.2 != bt708.2.2.2.2) a0_0 a0_1 a0_2 l0_3 bt708.1 bt708.2.1 bt708.2.2.1 bt708.2.2.2.1 bt716.1 bt716.2.1 bt716.2.2.1 bt716.2.2.2 bt723.1 bt723.2.1 bt723.2.2.1 bt723.2.2.2.1) else (laws_FnExactScaleMatrix.j0 k a1 bt708.2.2.2.2 bt723.2.2.2.2 true a0_0 a0_1 a0_2 l0_3 bt708.1 bt708.2.1 bt708.2.2.1 bt708.2.2.2.1 bt716.1 bt716.2.1 bt716.2.2.1 bt716.2.2.2 bt723.1 bt723.2.1 bt723.2.2.1 bt723.2.2.2.1)))))) = some r := H
 have A8 := Aside0.mk A80
 clear A80
 replace H := Option.bind_eq_some_iff.mp H
 obtain ⟨⟨t708, t709, t710, t711, t714⟩, A90, H⟩ := H
 replace H : ((laws_toMatrix.f k a0_0 a0_1 a0_2 l0_3).bind fun bt716 => ((impl_ScaleMatrix.f k bt716.1 bt716.2.1 bt716.2.2.1 bt716.2.2.2 a1).bind fun bt723 => ((laws_eqMatrix.f k bt723.1 bt723.2.1 bt723.2.2.1 bt723.2.2.2.1 t708 t709 t710 t711).bind fun t731 => (if t731 = true then (laws_FnExactScaleMatrix.j0 k a1 t714 bt723.2.2.2.2 (bt723.2.2.2.2 != t714) a0_0 a0_1 a0_2 l0_3 t708 t709 t710 t711 bt716.1 bt716.2.1 bt716.2.2.1 bt716.2.2.2 bt723.1 bt723.2.1 bt723.2.2.1 bt723.2.2.2.1) else (laws_FnExactScaleMatrix.j0 k a1 t714 bt723.2.2.2.2 true a0_0 a0_1 a0_2 l0_3 t708 t709 t710 t711 bt716.1 bt716.2.1 bt716.2.2.1 bt716.2.2.2 bt723.1 bt723.2.1 bt723.2.2.1 bt723.2.2.2.1))))) = some r := H
 have A9 := Aside0.mk A90
 clear A90
 replace H := Option.bind_eq_some_iff.mp H
 obtain ⟨⟨t716, t717, t718, t719⟩, A100, H⟩ := H
 replace H : ((impl_ScaleMatrix.f k t716 t717 t718 t719 a1).bind fun bt723 => ((laws_eqMatrix.f k bt723.1 bt723.2.1 bt723.2.2.1 bt723.2.2.2.1 t708 t709 t710 t711).bind fun t731 => (if t731 = true then (laws_FnExactScaleMatrix.j0 k a1 t714 bt723.2.2.2.2 (bt723.2.2.2.2 != t714) a0_0 a0_1 a0_2 l0_3 t708 t709 t710 t711 t716 t717 t718 t719 bt723.1 bt723.2.1 bt723.2.2.1 bt723.2.2.2.1) else (laws_FnExactScaleMatrix.j0 k a1 t714 bt723.2.2.2.2 true a0_0 a0_1 a0_2 l0_3 t708 t709 t710 t711 t716 t717 t718 t719 bt723.1 bt723.2.1 bt723.2.2.1 bt723.2.2.2.1)))) = some r := H
 have A10 := Aside0.mk A100
 clear A100
 replace H := Option.bind_eq_some_iff.mp H
 obtain ⟨⟨t723, t724, t725, t726, t729⟩, A110, H⟩ := H
 replace H : ((laws_eqMatrix.f k t723 t724 t725 t726 t708 t709 t710 t711).bind fun t731 => (if t731 = true then (laws_FnExactScaleMatrix.j0 k a1 t714 t729 (t729 != t714) a0_0 a0_1 a0_2 l0_3 t708 t709 t710 t711 t716 t717 t718 t719 t723 t724 t725 t726) else (laws_FnExactScaleMatrix.j0 k a1 t714 t729 true a0_0 a0_1 a0_2 l0_3 t708 t709 t710 t711 t716 t717 t718 t719 t723 t724 t725 t726))) = some r := H
 have A11 := Aside0.mk A110
 clear A110
 have HC12 := Aside0.mk H
 clear H
 go_enter Try.func11, Try.ntmps11
 go_upto_region 8 with (first | ((with_reducible refine gate_dst (N := 2) rfl ?_); refine box_event ?hg (N := 2) ?hd (cs := #[.int .i64 a0_0, .int .i64 a0_1, .int .i64 a0_2, .slice A0_3 l0_3.length c0_3]) (t := 32) ?hr ?_; (case hd => rfl); (case hg => rfl); (case hr => first | (go_simp; done) | (go_simp; rfl)); intro gb700 hg w13 hbox hb; have n0_ := Aside0.mk (below_step Z11.z24 hb); have n1_ := Aside0.mk (hbox); have n2_ := Aside0.mk (show w.heap.size ≤ gb700 from (by rw [hg]; exact (below_size Z11.z24))); have n3_ := Aside0.mk (show w.heap.size ≤ gb700 from (by rw [hg]; exact (below_size Z11.z24))); clear HB; have HB := n0_; have BK700 := n1_; have GW700 := n2_; have GE700 := n3_; clear n0_ n1_ n2_ n3_; clear hb hbox hg; have hcz14_0 : w13.cell? ⟨gb700, 0, none⟩ = some (.int .i64 a0_0) := (blk_cell BK700.out 0).trans rfl; have hcz14_1 : w13.cell? ⟨gb700, 1, none⟩ = some (.int .i64 a0_1) := (blk_cell BK700.out 1).trans rfl; have hcz14_2 : w13.cell? ⟨gb700, 2, none⟩ = some (.int .i64 a0_2) := (blk_cell BK700.out 2).trans rfl; have hcz14_3 : w13.cell? ⟨gb700, 3, none⟩ = some (.slice A0_3 l0_3.length c0_3) := (blk_cell BK700.out 3).trans rfl; have hfz14_0 := blk_frozen BK700.out 0; have hfz14_1 := blk_frozen BK700.out 1; have hfz14_2 := blk_frozen BK700.out 2; have hfz14_3 := blk_frozen BK700.out 3) | ((with_reducible refine gate_callee (f := 22) rfl ?_); refine goesL_ (some 18) rfl rfl Try.func22 (by kernel_rfl) rfl #[.agg #[.int .i64 a0_0, .int .i64 a0_1, .int .i64 a0_2, .slice A0_3 l0_3.length c0_3], .int .i64 1048576] rfl Z11.z5 ?_; (with_reducible refine (laws_szMatrix.calls a0_0 a0_1 a0_2 _ _ l0_3 1048576 t701 _ ?side1 ?side2 A3.out).mono ?_); (case side1 => exact Z11.z22); (case side2 => exact HC0_3.out); rintro e w15 ⟨rfl, hb⟩; refine ⟨_, rfl, ?_⟩; have n0_ := Aside0.mk (Z11.bb BK700 Z11.z1 hb); have n1_ := Aside0.mk (below_step Z11.z15 hb); clear BK700 HB; have BK700 := n0_; have HB := n1_; clear n0_ n1_; (try clear hb); (try clear hb2); (try clear hk); (try clear hi); have hcz16_0 : w15.cell? ⟨gb700, 0, none⟩ = some (.int .i64 a0_0) := (blk_cell BK700.out 0).trans rfl; have hcz16_1 : w15.cell? ⟨gb700, 1, none⟩ = some (.int .i64 a0_1) := (blk_cell BK700.out 1).trans rfl; have hcz16_2 : w15.cell? ⟨gb700, 2, none⟩ = some (.int .i64 a0_2) := (blk_cell BK700.out 2).trans rfl; have hcz16_3 : w15.cell? ⟨gb700, 3, none⟩ = some (.slice A0_3 l0_3.length c0_3) := (blk_cell BK700.out 3).trans rfl; have hfz16_0 := blk_frozen BK700.out 0; have hfz16_1 := blk_frozen BK700.out 1; have hfz16_2 := blk_frozen BK700.out 2; have hfz16_3 := blk_frozen BK700.out 3) | ((with_reducible refine gate_callee (f := 24) rfl ?_); refine goesL_ (some 23) rfl rfl Try.func24 (by kernel_rfl) rfl #[.agg #[.int .i64 a0_0, .int .i64 a0_1, .int .i64 a0_2, .slice A0_3 l0_3.length c0_3]] rfl Z11.z5 ?_; (with_reducible refine (laws_toMatrix.calls k a0_0 a0_1 a0_2 _ _ l0_3 t702 t703 t704 t705 _ ?side1 ?side2 A8.out).mono ?_); (case side1 => exact Z11.z22); (case side2 => exact HC0_3.out); rintro e w17 ⟨v706, rfl, ho0, hb⟩; refine ⟨_, rfl, ?_⟩; have n0_ := Aside0.mk (Kd.R_lower ho0 (below_size Z11.z15)); have n1_ := Aside0.mk (Z11.bb BK700 Z11.z1 hb); have n2_ := Aside0.mk (below_step Z11.z15 hb); clear BK700 HB; have HO707 := n0_; have BK700 := n1_; have HB := n2_; clear n0_ n1_ n2_; (try clear hb); (try clear hb2); (try clear hk); (try clear hi); (try clear ho0); obtain ⟨Ao18, co18, eo18⟩ := Kd.R_slice HO707.out; subst eo18) | ((with_reducible refine gate_callee (f := 40) rfl ?_); refine goesL_ (some 25) rfl rfl Try.func40 (by kernel_rfl) rfl #[.agg #[.int .i64 t702, .int .i64 t703, .int .i64 t704, .slice Ao18 t705.length co18], .int .i64 a1] rfl Z11.z5 ?_; (with_reducible refine (spec_ScaleMatrix.calls k t702 t703 t704 _ _ t705 a1 t708 t709 t710 t711 t714 _ ?side1 ?side2 A9.out).mono ?_); (case side1 => exact (by repeat (first | exact (Kd.R_reads' HO707.out).2.2 | (with_reducible refine Kd.C_alloc ?_ _) | (with_reducible refine Kd.C_drewN ?_ _) | (with_reducible refine Kd.C_drew ?_)))); (case side2 => exact (Kd.R_reads' HO707.out).2.1); rintro e w19 ⟨v712, rfl, ho0, hb⟩; refine ⟨_, rfl, ?_⟩; have n0_ := Aside0.mk (Kd.R_elder' Z11.z38 (Kd.R_base ho0) hb); have n1_ := Aside0.mk (Kd.R_lower (Kd.R_new' ho0 (Kd.R_lt Z11.z38)) (below_size Z11.z15)); have n2_ := Aside0.mk (Z11.bb BK700 Z11.z1 hb); have n3_ := Aside0.mk (below_step Z11.z15 hb); clear HO707 BK700 HB; have HO707 := n0_; have HO713 := n1_; have BK700 := n2_; have HB := n3_; clear n0_ n1_ n2_ n3_; (try clear hb); (try clear hb2); (try clear hk); (try clear hi); (try clear ho0)) | ((with_reducible refine gate_dst (N := 6) rfl ?_); refine box_event ?hg (N := 6) ?hd (cs := #[.int .i64 0, .int .i64 0, .int .i64 0, .slice none 0 0]) (t := 24) ?hr ?_; (case hd => rfl); (case hg => rfl); (case hr => first | (go_simp; done) | (go_simp; rfl)); intro gb715 hg w20 hbox hb; have n0_ := Aside0.mk (Kd.R_below Z11.z38 hb); have n1_ := Aside0.mk (Kd.R_below Z11.z53 hb); have n2_ := Aside0.mk (Z11.bb BK700 Z11.z1 hb); have n3_ := Aside0.mk (below_step Z11.z15 hb); have n4_ := Aside0.mk (hbox); have n5_ := Aside0.mk (show w.heap.size ≤ gb715 from (by rw [hg]; exact (below_size Z11.z15))); have n6_ := Aside0.mk (show w.heap.size ≤ gb715 from (by rw [hg]; exact (below_size Z11.z15))); have n7_ := Aside0.mk (show gb700 ≠ gb715 from (by rw [hg]; exact Nat.ne_of_lt (Z11.bl BK700 Z11.z1))); have n8_ := Aside0.mk (show gb715 ≠ gb700 from (by rw [hg]; exact Nat.ne_of_gt (Z11.bl BK700 Z11.z1))); clear HO707 HO713 BK700 HB; have HO707 := n0_; have HO713 := n1_; have BK700 := n2_; have HB := n3_; have BK715 := n4_; have GW715 := n5_; have GE715 := n6_; have NB700_715 := n7_; have NB715_700 := n8_; clear n0_ n1_ n2_ n3_ n4_ n5_ n6_ n7_ n8_; clear hb hbox hg; have hnb21 := NB715_700.out; have hnc21 := NB700_715.out; have hcz22_0 : w20.cell? ⟨gb715, 0, none⟩ = some (.int .i64 0) := (blk_cell BK715.out 0).trans rfl; have hcz22_1 : w20.cell? ⟨gb715, 1, none⟩ = some (.int .i64 0) := (blk_cell BK715.out 1).trans rfl; have hcz22_2 : w20.cell? ⟨gb715, 2, none⟩ = some (.int .i64 0) := (blk_cell BK715.out 2).trans rfl; have hcz22_3 : w20.cell? ⟨gb715, 3, none⟩ = some (.slice none 0 0) := (blk_cell BK715.out 3).trans rfl; have hfz22_0 := blk_frozen BK715.out 0; have hfz22_1 := blk_frozen BK715.out 1; have hfz22_2 := blk_frozen BK715.out 2; have hfz22_3 := blk_frozen BK715.out 3; obtain ⟨Ao23, co23, eo23⟩ := Kd.R_slice HO713.out; subst eo23; have hcz24_0 : w20.cell? ⟨gb700, 0, none⟩ = some (.int .i64 a0_0) := (blk_cell BK700.out 0).trans rfl; have hcz24_1 : w20.cell? ⟨gb700, 1, none⟩ = some (.int .i64 a0_1) := (blk_cell BK700.out 1).trans rfl; have hcz24_2 : w20.cell? ⟨gb700, 2, none⟩ = some (.int .i64 a0_2) := (blk_cell BK700.out 2).trans rfl; have hcz24_3 : w20.cell? ⟨gb700, 3, none⟩ = some (.slice A0_3 l0_3.length c0_3) := (blk_cell BK700.out 3).trans rfl; have hfz24_0 := blk_frozen BK700.out 0; have hfz24_1 := blk_frozen BK700.out 1; have hfz24_2 := blk_frozen BK700.out 2; have hfz24_3 := blk_frozen BK700.out 3) | ((with_reducible refine gate_callee (f := 24) rfl ?_); refine goesL_ (some 29) rfl rfl Try.func24 (by kernel_rfl) rfl #[.agg #[.int .i64 a0_0, .int .i64 a0_1, .int .i64 a0_2, .slice A0_3 l0_3.length c0_3]] rfl Z11.z5 ?_; (with_reducible refine (laws_toMatrix.calls k a0_0 a0_1 a0_2 _ _ l0_3 t716 t717 t718 t719 _ ?side1 ?side2 A10.out).mono ?_); (case side1 => exact (by exact Kd.C_below HR0_3.out Z11.z20)); (case side2 => exact HC0_3.out); rintro e w25 ⟨v720, rfl, ho0, hb⟩; refine ⟨_, rfl, ?_⟩; have n0_ := Aside0.mk (Kd.R_elder' Z11.z33 (Kd.R_base ho0) hb); have n1_ := Aside0.mk (Kd.R_elder' Z11.z32 (Kd.R_base ho0) hb); have n2_ := Aside0.mk (Kd.R_lower (Kd.R_new' (Kd.R_new' ho0 (Kd.R_lt Z11.z33)) (Kd.R_lt Z11.z32)) (below_size Z11.z20)); have n3_ := Aside0.mk (Z11.bb BK700 (by (repeat (first | (with_reducible first | refine blk_drewN ?_ _ | refine blk_drew ?_ | refine blk_alloc ?_ _) | refine blk_far ?_ NB700_715.out _)); exact BK700.out) hb); have n4_ := Aside0.mk (blk_below (g := gb715) (o := .cells #[.int .i64 t708, .int .i64 t709, .int .i64 t710, .slice Ao23 t711.length co23] 24 (0, 0)) (by (with_reducible repeat (first | refine blk_drewN ?_ _ | refine blk_drew ?_ | refine blk_alloc ?_ _)); refine blk_put (cs := #[.int .i64 t708, .int .i64 t709, .int .i64 t710, .slice none 0 0]) ?_ 3 _ rfl; (with_reducible repeat (first | refine blk_drewN ?_ _ | refine blk_drew ?_ | refine blk_alloc ?_ _)); refine blk_put (cs := #[.int .i64 t708, .int .i64 t709, .int .i64 0, .slice none 0 0]) ?_ 2 _ rfl; (with_reducible repeat (first | refine blk_drewN ?_ _ | refine blk_drew ?_ | refine blk_alloc ?_ _)); refine blk_put (cs := #[.int .i64 t708, .int .i64 0, .int .i64 0, .slice none 0 0]) ?_ 1 _ rfl; (with_reducible repeat (first | refine blk_drewN ?_ _ | refine blk_drew ?_ | refine blk_alloc ?_ _)); refine blk_put (cs := #[.int .i64 0, .int .i64 0, .int .i64 0, .slice none 0 0]) ?_ 0 _ rfl; (with_reducible repeat (first | refine blk_drewN ?_ _ | refine blk_drew ?_ | refine blk_alloc ?_ _)); exact BK715.out) hb); have n5_ := Aside0.mk (below_step Z11.z20 hb); clear HO707 HO713 BK700 BK715 HB; have HO707 := n0_; have HO713 := n1_; have HO721 := n2_; have BK700 := n3_; have BK715 := n4_; have HB := n5_; clear n0_ n1_ n2_ n3_ n4_ n5_; (try clear hb); (try clear hb2); (try clear hk); (try clear hi); (try clear ho0)) | ((with_reducible refine gate_dst (N := 8) rfl ?_); refine box_event ?hg (N := 8) ?hd (cs := #[.int .i64 0, .int .i64 0, .int .i64 0, .slice none 0 0]) (t := 24) ?hr ?_; (case hd => rfl); (case hg => rfl); (case hr => first | (go_simp; done) | (go_simp; rfl)); intro gb722 hg w26 hbox hb; have n0_ := Aside0.mk (Kd.R_below Z11.z38 hb); have n1_ := Aside0.mk (Kd.R_below Z11.z53 hb); have n2_ := Aside0.mk (Kd.R_below (by (with_reducible repeat (first | apply Kd.R_alloc | apply Kd.R_drewN | apply Kd.R_drew)); exact HO721.out) hb); have n3_ := Aside0.mk (Z11.bb BK700 Z11.z1 hb); have n4_ := Aside0.mk (Z11.bb BK715 Z11.z2 hb); have n5_ := Aside0.mk (below_step Z11.z20 hb); have n6_ := Aside0.mk (hbox); have n7_ := Aside0.mk (show w.heap.size ≤ gb722 from (by rw [hg]; exact (below_size Z11.z20))); have n8_ := Aside0.mk (show w.heap.size ≤ gb722 from (by rw [hg]; exact (below_size Z11.z20))); have n9_ := Aside0.mk (show gb700 ≠ gb722 from (by rw [hg]; exact Nat.ne_of_lt (Z11.bl BK700 Z11.z1))); have n10_ := Aside0.mk (show gb722 ≠ gb700 from (by rw [hg]; exact Nat.ne_of_gt (Z11.bl BK700 Z11.z1))); have n11_ := Aside0.mk (show gb715 ≠ gb722 from (by rw [hg]; exact Nat.ne_of_lt (Z11.bl BK715 Z11.z2))); have n12_ := Aside0.mk (show gb722 ≠ gb715 from (by rw [hg]; exact Nat.ne_of_gt (Z11.bl BK715 Z11.z2))); clear HO707 HO713 HO721 BK700 BK715 HB; have HO707 := n0_; have HO713 := n1_; have HO721 := n2_; have BK700 := n3_; have BK715 := n4_; have HB := n5_; have BK722 := n6_; have GW722 := n7_; have GE722 := n8_; have NB700_722 := n9_; have NB722_700 := n10_; have NB715_722 := n11_; have NB722_715 := n12_; clear n0_ n1_ n2_ n3_ n4_ n5_ n6_ n7_ n8_ n9_ n10_ n11_ n12_; clear hb hbox hg; have hnb27 := NB722_700.out; have hnc27 := NB700_722.out; have hnb28 := NB722_715.out; have hnc28 := NB715_722.out; have hcz29_0 : w26.cell? ⟨gb722, 0, none⟩ = some (.int .i64 0) := (blk_cell BK722.out 0).trans rfl; have hcz29_1 : w26.cell? ⟨gb722, 1, none⟩ = some (.int .i64 0) := (blk_cell BK722.out 1).trans rfl; have hcz29_2 : w26.cell? ⟨gb722, 2, none⟩ = some (.int .i64 0) := (blk_cell BK722.out 2).trans rfl; have hcz29_3 : w26.cell? ⟨gb722, 3, none⟩ = some (.slice none 0 0) := (blk_cell BK722.out 3).trans rfl; have hfz29_0 := blk_frozen BK722.out 0; have hfz29_1 := blk_frozen BK722.out 1; have hfz29_2 := blk_frozen BK722.out 2; have hfz29_3 := blk_frozen BK722.out 3; obtain ⟨Ao30, co30, eo30⟩ := Kd.R_slice HO721.out; subst eo30) | ((with_reducible refine gate_callee (f := 41) rfl ?_); refine goesL_ (some 33) rfl rfl Try.func41 (by kernel_rfl) rfl #[.agg #[.int .i64 t716, .int .i64 t717, .int .i64 t718, .slice Ao30 t719.length co30], .int .i64 a1] rfl Z11.z5 ?_; (with_reducible refine (impl_ScaleMatrix.calls k t716 t717 t718 _ _ t719 a1 t723 t724 t725 t726 t729 _ ?side1 ?side2 A11.out).mono ?_); (case side1 => exact (by refine (Kd.R_reads' (e := 2) (base := w.heap.size) (ok := fun k_ => ((True ∧ some k_ ≠ (.slice Ao18 t705.length co18 : Value).ownBlock) ∧ some k_ ≠ (.slice Ao23 t711.length co23 : Value).ownBlock)) (n := t719.length) (c := co30) ?_).2.2; exact Z11.z19)); (case side2 => exact (Kd.R_reads' HO721.out).2.1); rintro e w31 ⟨v727, rfl, ho0, hb⟩; refine ⟨_, rfl, ?_⟩; have n0_ := Aside0.mk (Kd.R_elder' Z11.z31 (Kd.R_base ho0) hb); have n1_ := Aside0.mk (Kd.R_elder' Z11.z30 (Kd.R_base ho0) hb); have n2_ := Aside0.mk (Kd.R_elder' Z11.z19 (Kd.R_base ho0) hb); have n3_ := Aside0.mk (Kd.R_lower (Kd.R_new' (Kd.R_new' (Kd.R_new' ho0 (Kd.R_lt Z11.z31)) (Kd.R_lt Z11.z30)) (Kd.R_lt Z11.z19)) (below_size Z11.z21)); have n4_ := Aside0.mk (Z11.bb BK700 (by (repeat (first | (with_reducible first | refine blk_drewN ?_ _ | refine blk_drew ?_ | refine blk_alloc ?_ _) | refine blk_far ?_ NB700_722.out _)); exact BK700.out) hb); have n5_ := Aside0.mk (Z11.bb BK715 (by (repeat (first | (with_reducible first | refine blk_drewN ?_ _ | refine blk_drew ?_ | refine blk_alloc ?_ _) | refine blk_far ?_ NB715_722.out _)); exact BK715.out) hb); have n6_ := Aside0.mk (blk_below (g := gb722) (o := .cells #[.int .i64 t716, .int .i64 t717, .int .i64 t718, .slice Ao30 t719.length co30] 24 (0, 0)) (by (with_reducible repeat (first | refine blk_drewN ?_ _ | refine blk_drew ?_ | refine blk_alloc ?_ _)); refine blk_put (cs := #[.int .i64 t716, .int .i64 t717, .int .i64 t718, .slice none 0 0]) ?_ 3 _ rfl; (with_reducible repeat (first | refine blk_drewN ?_ _ | refine blk_drew ?_ | refine blk_alloc ?_ _)); refine blk_put (cs := #[.int .i64 t716, .int .i64 t717, .int .i64 0, .slice none 0 0]) ?_ 2 _ rfl; (with_reducible repeat (first | refine blk_drewN ?_ _ | refine blk_drew ?_ | refine blk_alloc ?_ _)); refine blk_put (cs := #[.int .i64 t716, .int .i64 0, .int .i64 0, .slice none 0 0]) ?_ 1 _ rfl; (with_reducible repeat (first | refine blk_drewN ?_ _ | refine blk_drew ?_ | refine blk_alloc ?_ _)); refine blk_put (cs := #[.int .i64 0, .int .i64 0, .int .i64 0, .slice none 0 0]) ?_ 0 _ rfl; (with_reducible repeat (first | refine blk_drewN ?_ _ | refine blk_drew ?_ | refine blk_alloc ?_ _)); exact BK722.out) hb); have n7_ := Aside0.mk (below_step Z11.z21 hb); clear HO707 HO713 HO721 BK700 BK715 BK722 HB; have HO707 := n0_; have HO713 := n1_; have HO721 := n2_; have HO728 := n3_; have BK700 := n4_; have BK715 := n5_; have BK722 := n6_; have HB := n7_; clear n0_ n1_ n2_ n3_ n4_ n5_ n6_ n7_; (try clear hb); (try clear hb2); (try clear hk); (try clear hi); (try clear ho0)) | ((with_reducible refine gate_dst (N := 9) rfl ?_); refine box_event ?hg (N := 9) ?hd (cs := #[.int .i64 0, .int .i64 0, .int .i64 0, .slice none 0 0]) (t := 24) ?hr ?_; (case hd => rfl); (case hg => rfl); (case hr => first | (go_simp; done) | (go_simp; rfl)); intro gb730 hg w32 hbox hb; have n0_ := Aside0.mk (Kd.R_below Z11.z38 hb); have n1_ := Aside0.mk (Kd.R_below Z11.z53 hb); have n2_ := Aside0.mk (Kd.R_below (by (with_reducible repeat (first | apply Kd.R_alloc | apply Kd.R_drewN | apply Kd.R_drew)); exact HO721.out) hb); have n3_ := Aside0.mk (Kd.R_below (by (with_reducible repeat (first | apply Kd.R_alloc | apply Kd.R_drewN | apply Kd.R_drew)); exact HO728.out) hb); have n4_ := Aside0.mk (Z11.bb BK700 Z11.z1 hb); have n5_ := Aside0.mk (Z11.bb BK715 Z11.z2 hb); have n6_ := Aside0.mk (Z11.bb BK722 Z11.z4 hb); have n7_ := Aside0.mk (below_step Z11.z21 hb); have n8_ := Aside0.mk (hbox); have n9_ := Aside0.mk (show w.heap.size ≤ gb730 from (by rw [hg]; exact (below_size Z11.z21))); have n10_ := Aside0.mk (show w.heap.size ≤ gb730 from (by rw [hg]; exact (below_size Z11.z21))); have n11_ := Aside0.mk (show gb700 ≠ gb730 from (by rw [hg]; exact Nat.ne_of_lt (Z11.bl BK700 Z11.z1))); have n12_ := Aside0.mk (show gb730 ≠ gb700 from (by rw [hg]; exact Nat.ne_of_gt (Z11.bl BK700 Z11.z1))); have n13_ := Aside0.mk (show gb715 ≠ gb730 from (by rw [hg]; exact Nat.ne_of_lt (Z11.bl BK715 Z11.z2))); have n14_ := Aside0.mk (show gb730 ≠ gb715 from (by rw [hg]; exact Nat.ne_of_gt (Z11.bl BK715 Z11.z2))); have n15_ := Aside0.mk (show gb722 ≠ gb730 from (by rw [hg]; exact Nat.ne_of_lt (Z11.bl BK722 Z11.z4))); have n16_ := Aside0.mk (show gb730 ≠ gb722 from (by rw [hg]; exact Nat.ne_of_gt (Z11.bl BK722 Z11.z4))); clear HO707 HO713 HO721 HO728 BK700 BK715 BK722 HB; have HO707 := n0_; have HO713 := n1_; have HO721 := n2_; have HO728 := n3_; have BK700 := n4_; have BK715 := n5_; have BK722 := n6_; have HB := n7_; have BK730 := n8_; have GW730 := n9_; have GE730 := n10_; have NB700_730 := n11_; have NB730_700 := n12_; have NB715_730 := n13_; have NB730_715 := n14_; have NB722_730 := n15_; have NB730_722 := n16_; clear n0_ n1_ n2_ n3_ n4_ n5_ n6_ n7_ n8_ n9_ n10_ n11_ n12_ n13_ n14_ n15_ n16_; clear hb hbox hg; have hnb33 := NB730_700.out; have hnc33 := NB700_730.out; have hnb34 := NB730_715.out; have hnc34 := NB715_730.out; have hnb35 := NB730_722.out; have hnc35 := NB722_730.out; have hcz36_0 : w32.cell? ⟨gb730, 0, none⟩ = some (.int .i64 0) := (blk_cell BK730.out 0).trans rfl; have hcz36_1 : w32.cell? ⟨gb730, 1, none⟩ = some (.int .i64 0) := (blk_cell BK730.out 1).trans rfl; have hcz36_2 : w32.cell? ⟨gb730, 2, none⟩ = some (.int .i64 0) := (blk_cell BK730.out 2).trans rfl; have hcz36_3 : w32.cell? ⟨gb730, 3, none⟩ = some (.slice none 0 0) := (blk_cell BK730.out 3).trans rfl; have hfz36_0 := blk_frozen BK730.out 0; have hfz36_1 := blk_frozen BK730.out 1; have hfz36_2 := blk_frozen BK730.out 2; have hfz36_3 := blk_frozen BK730.out 3; obtain ⟨Ao37, co37, eo37⟩ := Kd.R_slice HO728.out; subst eo37))
 (try simp only [Act.put, List.setIfInBounds_toArray, List.set_cons_zero, List.set_cons_succ])
 go_cut [44] (fun v44 wc => ∃ (kq : Nat) (x44_11 : Bool), v44 = .bool x44_11 ∧ Aside0 (laws_FnExactScaleMatrix.j0 kq a1 t714 t729 x44_11 a0_0 a0_1 a0_2 l0_3 t708 t709 t710 t711 t716 t717 t718 t719 t723 t724 t725 t726 = some r) ∧ Aside0 (kq ≤ k) ∧ Aside0 (Kd.R (Kd.int .i64) 2 wc w.heap.size (fun k_ => some k_ ≠ ((.slice Ao30 t719.length co30) : Value).ownBlock ∧ some k_ ≠ ((.slice Ao37 t726.length co37) : Value).ownBlock) (.slice Ao23 t711.length co23) t711) ∧ Aside0 (Kd.R (Kd.int .i64) 2 wc w.heap.size (fun k_ => some k_ ≠ ((.slice Ao23 t711.length co23) : Value).ownBlock ∧ some k_ ≠ ((.slice Ao37 t726.length co37) : Value).ownBlock) (.slice Ao30 t719.length co30) t719) ∧ Aside0 (Kd.R (Kd.int .i64) 2 wc w.heap.size (fun k_ => some k_ ≠ ((.slice Ao23 t711.length co23) : Value).ownBlock ∧ some k_ ≠ ((.slice Ao30 t719.length co30) : Value).ownBlock) (.slice Ao37 t726.length co37) t726) ∧ Aside0 (wc.heap[gb700]? = some (.cells #[.int .i64 a0_0, .int .i64 a0_1, .int .i64 a0_2, (.slice A0_3 l0_3.length c0_3)] 32 (0, 0))) ∧ Aside0 (wc.heap[gb715]? = some (.cells #[.int .i64 t708, .int .i64 t709, .int .i64 t710, (.slice Ao23 t711.length co23)] 24 (0, 0))) ∧ Aside0 (wc.heap[gb722]? = some (.cells #[.int .i64 t716, .int .i64 t717, .int .i64 t718, (.slice Ao30 t719.length co30)] 24 (0, 0))) ∧ Aside0 (wc.heap[gb730]? = some (.cells #[.int .i64 t723, .int .i64 t724, .int .i64 t725, (.slice Ao37 t726.length co37)] 24 (0, 0))) ∧ Aside0 (Below w.heap.size w wc))
 case first =>
  have H := HC12.out
  clear HC12
  replace H := Option.bind_eq_some_iff.mp H
  obtain ⟨t731, A380, H⟩ := H
  replace H : (if t731 = true then (laws_FnExactScaleMatrix.j0 k a1 t714 t729 (t729 != t714) a0_0 a0_1 a0_2 l0_3 t708 t709 t710 t711 t716 t717 t718 t719 t723 t724 t725 t726) else (laws_FnExactScaleMatrix.j0 k a1 t714 t729 true a0_0 a0_1 a0_2 l0_3 t708 t709 t710 t711 t716 t717 t718 t719 t723 t724 t725 t726)) = some r := H
  have A38 := Aside0.mk A380
  clear A380
  by_cases c39 : t731 = true
  ·subst c39
   have H1 : (laws_FnExactScaleMatrix.j0 k a1 t714 t729 (t729 != t714) a0_0 a0_1 a0_2 l0_3 t708 t709 t710 t711 t716 t717 t718 t719 t723 t724 t725 t726) = some r := by rw [if_pos rfl] at H; exact H
   clear H
   have H := H1
   clear H1
   have H' := Aside0.mk H
   clear H
   have hnb40 := NB730_700.out
   have hnc40 := NB700_730.out
   have hnb41 := NB730_715.out
   have hnc41 := NB715_730.out
   have hnb42 := NB730_722.out
   have hnc42 := NB722_730.out
   have hcz43_0 : w32.cell? ⟨gb730, 0, none⟩ = some (.int .i64 0) := (blk_cell BK730.out 0).trans rfl
   have hcz43_1 : w32.cell? ⟨gb730, 1, none⟩ = some (.int .i64 0) := (blk_cell BK730.out 1).trans rfl
   have hcz43_2 : w32.cell? ⟨gb730, 2, none⟩ = some (.int .i64 0) := (blk_cell BK730.out 2).trans rfl
   have hcz43_3 : w32.cell? ⟨gb730, 3, none⟩ = some (.slice none 0 0) := (blk_cell BK730.out 3).trans rfl
   have hfz43_0 := blk_frozen BK730.out 0
   have hfz43_1 := blk_frozen BK730.out 1
   have hfz43_2 := blk_frozen BK730.out 2
   have hfz43_3 := blk_frozen BK730.out 3
   have hnb44 := NB715_700.out
   have hnc44 := NB700_715.out
   have hnb45 := NB715_722.out
   have hnc45 := NB722_715.out
   have hcz46_0 : w32.cell? ⟨gb715, 0, none⟩ = some (.int .i64 t708) := (blk_cell BK715.out 0).trans rfl
   have hcz46_1 : w32.cell? ⟨gb715, 1, none⟩ = some (.int .i64 t709) := (blk_cell BK715.out 1).trans rfl
   have hcz46_2 : w32.cell? ⟨gb715, 2, none⟩ = some (.int .i64 t710) := (blk_cell BK715.out 2).trans rfl
   have hcz46_3 : w32.cell? ⟨gb715, 3, none⟩ = some (.slice Ao23 t711.length co23) := (blk_cell BK715.out 3).trans rfl
   have hfz46_0 := blk_frozen BK715.out 0
   have hfz46_1 := blk_frozen BK715.out 1
   have hfz46_2 := blk_frozen BK715.out 2
   have hfz46_3 := blk_frozen BK715.out 3
   go_wp2_with (first | ((with_reducible refine gate_callee (f := 17) rfl ?_); refine goesL_ (some 38) rfl rfl Try.func17 (by kernel_rfl) rfl #[.agg #[.int .i64 t723, .int .i64 t724, .int .i64 t725, .slice Ao37 t726.length co37], .agg #[.int .i64 t708, .int .i64 t709, .int .i64 t710, .slice Ao23 t711.length co23]] rfl Z11.z5 ?_; (with_reducible refine (laws_eqMatrix.calls k t723 t724 t725 _ _ t726 t708 t709 t710 _ _ t711 true _ ?side1 ?side2 ?side3 ?side4 A38.out).mono ?_); (case side1 => exact Z11.z40); (case side2 => exact (Kd.R_reads' HO728.out).2.1); (case side3 => exact Z11.z39); (case side4 => exact (Kd.R_reads' HO713.out).2.1); rintro e w47 ⟨rfl, hb⟩; refine ⟨_, rfl, ?_⟩; have n0_ := Aside0.mk (Kd.R_below Z11.z29 hb); have n1_ := Aside0.mk (Kd.R_below Z11.z13 hb); have n2_ := Aside0.mk (Kd.R_below Z11.z28 hb); have n3_ := Aside0.mk (Kd.R_below Z11.z12 hb); have n4_ := Aside0.mk (Z11.bb BK700 Z11.z63 hb); have n5_ := Aside0.mk (Z11.bb BK715 Z11.z61 hb); have n6_ := Aside0.mk (Z11.bb BK722 Z11.z59 hb); have n7_ := Aside0.mk (blk_below (g := gb730) (o := .cells #[.int .i64 t723, .int .i64 t724, .int .i64 t725, .slice Ao37 t726.length co37] 24 (0, 0)) Z11.z18 hb); have n8_ := Aside0.mk (below_step Z11.z0 hb); clear HO707 HO713 HO721 HO728 BK700 BK715 BK722 BK730 HB; have HO707 := n0_; have HO713 := n1_; have HO721 := n2_; have HO728 := n3_; have BK700 := n4_; have BK715 := n5_; have BK722 := n6_; have BK730 := n7_; have HB := n8_; clear n0_ n1_ n2_ n3_ n4_ n5_ n6_ n7_ n8_; (try clear hb); (try clear hb2); (try clear hk); (try clear hi)))
   go_meet
   case rel => exact ⟨_, ((t729 != t714)), Z11.z64, H', ⟨(by first | omega | exact Nat.le_refl _)⟩, ⟨Z11.z72⟩, ⟨Z11.z71⟩, ⟨Z11.z70⟩, ⟨Z11.z1⟩, ⟨Z11.z2⟩, ⟨Z11.z4⟩, ⟨Z11.z6⟩, ⟨Z11.z0⟩⟩
  replace c39 := Bool.eq_false_iff.mpr c39
  subst c39
  have H1 : (laws_FnExactScaleMatrix.j0 k a1 t714 t729 true a0_0 a0_1 a0_2 l0_3 t708 t709 t710 t711 t716 t717 t718 t719 t723 t724 t725 t726) = some r := by rw [if_neg (show ¬ (false = true) by decide)] at H; exact H
  clear H
  have H := H1
  clear H1
  have H' := Aside0.mk H
  clear H
  have hnb48 := NB730_700.out
  have hnc48 := NB700_730.out
  have hnb49 := NB730_715.out
  have hnc49 := NB715_730.out
  have hnb50 := NB730_722.out
  have hnc50 := NB722_730.out
  have hcz51_0 : w32.cell? ⟨gb730, 0, none⟩ = some (.int .i64 0) := (blk_cell BK730.out 0).trans rfl
  have hcz51_1 : w32.cell? ⟨gb730, 1, none⟩ = some (.int .i64 0) := (blk_cell BK730.out 1).trans rfl
  have hcz51_2 : w32.cell? ⟨gb730, 2, none⟩ = some (.int .i64 0) := (blk_cell BK730.out 2).trans rfl
  have hcz51_3 : w32.cell? ⟨gb730, 3, none⟩ = some (.slice none 0 0) := (blk_cell BK730.out 3).trans rfl
  have hfz51_0 := blk_frozen BK730.out 0
  have hfz51_1 := blk_frozen BK730.out 1
  have hfz51_2 := blk_frozen BK730.out 2
  have hfz51_3 := blk_frozen BK730.out 3
  have hnb52 := NB715_700.out
  have hnc52 := NB700_715.out
  have hnb53 := NB715_722.out
  have hnc53 := NB722_715.out
  have hcz54_0 : w32.cell? ⟨gb715, 0, none⟩ = some (.int .i64 t708) := (blk_cell BK715.out 0).trans rfl
  have hcz54_1 : w32.cell? ⟨gb715, 1, none⟩ = some (.int .i64 t709) := (blk_cell BK715.out 1).trans rfl
  have hcz54_2 : w32.cell? ⟨gb715, 2, none⟩ = some (.int .i64 t710) := (blk_cell BK715.out 2).trans rfl
  have hcz54_3 : w32.cell? ⟨gb715, 3, none⟩ = some (.slice Ao23 t711.length co23) := (blk_cell BK715.out 3).trans rfl
  have hfz54_0 := blk_frozen BK715.out 0
  have hfz54_1 := blk_frozen BK715.out 1
  have hfz54_2 := blk_frozen BK715.out 2
  have hfz54_3 := blk_frozen BK715.out 3
  go_wp2_with (first | ((with_reducible refine gate_callee (f := 17) rfl ?_); refine goesL_ (some 38) rfl rfl Try.func17 (by kernel_rfl) rfl #[.agg #[.int .i64 t723, .int .i64 t724, .int .i64 t725, .slice Ao37 t726.length co37], .agg #[.int .i64 t708, .int .i64 t709, .int .i64 t710, .slice Ao23 t711.length co23]] rfl Z11.z5 ?_; (with_reducible refine (laws_eqMatrix.calls k t723 t724 t725 _ _ t726 t708 t709 t710 _ _ t711 false _ ?side1 ?side2 ?side3 ?side4 A38.out).mono ?_); (case side1 => exact Z11.z40); (case side2 => exact (Kd.R_reads' HO728.out).2.1); (case side3 => exact Z11.z39); (case side4 => exact (Kd.R_reads' HO713.out).2.1); rintro e w55 ⟨rfl, hb⟩; refine ⟨_, rfl, ?_⟩; have n0_ := Aside0.mk (Kd.R_below Z11.z29 hb); have n1_ := Aside0.mk (Kd.R_below Z11.z13 hb); have n2_ := Aside0.mk (Kd.R_below Z11.z28 hb); have n3_ := Aside0.mk (Kd.R_below Z11.z12 hb); have n4_ := Aside0.mk (Z11.bb BK700 Z11.z63 hb); have n5_ := Aside0.mk (Z11.bb BK715 Z11.z61 hb); have n6_ := Aside0.mk (Z11.bb BK722 Z11.z59 hb); have n7_ := Aside0.mk (blk_below (g := gb730) (o := .cells #[.int .i64 t723, .int .i64 t724, .int .i64 t725, .slice Ao37 t726.length co37] 24 (0, 0)) Z11.z18 hb); have n8_ := Aside0.mk (below_step Z11.z0 hb); clear HO707 HO713 HO721 HO728 BK700 BK715 BK722 BK730 HB; have HO707 := n0_; have HO713 := n1_; have HO721 := n2_; have HO728 := n3_; have BK700 := n4_; have BK715 := n5_; have BK722 := n6_; have BK730 := n7_; have HB := n8_; clear n0_ n1_ n2_ n3_ n4_ n5_ n6_ n7_ n8_; (try clear hb); (try clear hb2); (try clear hk); (try clear hi)))
  go_meet
  case rel => exact ⟨_, (true), Z11.z64, H', ⟨(by first | omega | exact Nat.le_refl _)⟩, ⟨Z11.z72⟩, ⟨Z11.z71⟩, ⟨Z11.z70⟩, ⟨Z11.z1⟩, ⟨Z11.z2⟩, ⟨Z11.z4⟩, ⟨Z11.z6⟩, ⟨Z11.z0⟩⟩
 case rest =>
  clear HC12
  try clear c1
  try clear c2
  try clear p2
  try clear c3
  try clear c4
  try clear c4b0
  try clear c5
  try clear c11
  try clear c17
  try clear c21
  try clear c22
  try clear c24
  try clear c27
  try clear c28
  try clear c33
  try clear c34
  try clear c35
  try clear c39
  try clear c40
  try clear c41
  try clear c42
  try clear c44
  try clear c45
  try clear c48
  try clear c49
  try clear c50
  try clear c52
  try clear c53
  try clear hcz14_0
  try clear hcz14_1
  try clear hcz14_2
  try clear hcz14_3
  try clear hcz16_0
  try clear hcz16_1
  try clear hcz16_2
  try clear hcz16_3
  try clear hcz22_0
  try clear hcz22_1
  try clear hcz22_2
  try clear hcz22_3
  try clear hcz24_0
  try clear hcz24_1
  try clear hcz24_2
  try clear hcz24_3
  try clear hcz29_0
  try clear hcz29_1
  try clear hcz29_2
  try clear hcz29_3
  try clear hcz36_0
  try clear hcz36_1
  try clear hcz36_2
  try clear hcz36_3
  try clear hcz43_0
  try clear hcz43_1
  try clear hcz43_2
  try clear hcz43_3
  try clear hcz46_0
  try clear hcz46_1
  try clear hcz46_2
  try clear hcz46_3
  try clear hcz51_0
  try clear hcz51_1
  try clear hcz51_2
  try clear hcz51_3
  try clear hcz54_0
  try clear hcz54_1
  try clear hcz54_2
  try clear hcz54_3
  try clear hcz6_0
  try clear hcz6_1
  try clear hcz6_2
  try clear hcz6_3
  try clear hfz14_0
  try clear hfz14_1
  try clear hfz14_2
  try clear hfz14_3
  try clear hfz16_0
  try clear hfz16_1
  try clear hfz16_2
  try clear hfz16_3
  try clear hfz22_0
  try clear hfz22_1
  try clear hfz22_2
  try clear hfz22_3
  try clear hfz24_0
  try clear hfz24_1
  try clear hfz24_2
  try clear hfz24_3
  try clear hfz29_0
  try clear hfz29_1
  try clear hfz29_2
  try clear hfz29_3
  try clear hfz36_0
  try clear hfz36_1
  try clear hfz36_2
  try clear hfz36_3
  try clear hfz43_0
  try clear hfz43_1
  try clear hfz43_2
  try clear hfz43_3
  try clear hfz46_0
  try clear hfz46_1
  try clear hfz46_2
  try clear hfz46_3
  try clear hfz51_0
  try clear hfz51_1
  try clear hfz51_2
  try clear hfz51_3
  try clear hfz54_0
  try clear hfz54_1
  try clear hfz54_2
  try clear hfz54_3
  try clear hfz6_0
  try clear hfz6_1
  try clear hfz6_2
  try clear hfz6_3
  obtain ⟨kq, x44_11, rfl, HA, HJ11, HO_716003, HO_723003, HO_731003, BK700, BK715, BK722, BK730, HB⟩ := hcut
  cases kq with
  | zero => exact absurd HA.out (by simp [laws_FnExactScaleMatrix.j0])
  | succ kj11 =>
   have H := HA.out
   clear HA
   simp only [laws_FnExactScaleMatrix.j0] at H
   by_cases c56 : x44_11 = true
   ·subst c56
    have H1 : (some false) = some r := by rw [if_pos rfl] at H; exact H
    clear H
    have H := H1
    clear H1
    obtain rfl := Option.some.inj H
    go_wp2
    go_ret
    exact ⟨Z11.z23, Z11.z0⟩
   replace c56 := Bool.eq_false_iff.mpr c56
   subst c56
   have H1 : ((laws_toMatrix.f kj11 a0_0 a0_1 a0_2 l0_3).bind fun bt732 => ((laws_eqMatrix.f kj11 t716 t717 t718 t719 bt732.1 bt732.2.1 bt732.2.2.1 bt732.2.2.2).bind fun t738 => (if t738 = true then ((laws_markMatrix.f kj11 t716 t717 t718 t719 1).bind fun bt739 => (if bt739.1 < 0 then (laws_FnExactScaleMatrix.j1 kj11 a1 t714 true a0_0 a0_1 a0_2 l0_3 t708 t709 t710 t711 t723 t724 t725 t726) else ((laws_eqMatrix.f kj11 t723 t724 t725 t726 t708 t709 t710 t711).bind fun t741 => (if t741 = true then (laws_FnExactScaleMatrix.j1 kj11 a1 t714 (t729 != t714) a0_0 a0_1 a0_2 l0_3 t708 t709 t710 t711 t723 t724 t725 t726) else (laws_FnExactScaleMatrix.j1 kj11 a1 t714 true a0_0 a0_1 a0_2 l0_3 t708 t709 t710 t711 t723 t724 t725 t726))))) else (some false)))) = some r := by rw [if_neg (show ¬ (false = true) by decide)] at H; exact H
   clear H
   have H := H1
   clear H1
   replace H := Option.bind_eq_some_iff.mp H
   obtain ⟨⟨t732, t733, t734, t735⟩, A570, H⟩ := H
   replace H : ((laws_eqMatrix.f kj11 t716 t717 t718 t719 t732 t733 t734 t735).bind fun t738 => (if t738 = true then ((laws_markMatrix.f kj11 t716 t717 t718 t719 1).bind fun bt739 => (if bt739.1 < 0 then (laws_FnExactScaleMatrix.j1 kj11 a1 t714 true a0_0 a0_1 a0_2 l0_3 t708 t709 t710 t711 t723 t724 t725 t726) else ((laws_eqMatrix.f kj11 t723 t724 t725 t726 t708 t709 t710 t711).bind fun t741 => (if t741 = true then (laws_FnExactScaleMatrix.j1 kj11 a1 t714 (t729 != t714) a0_0 a0_1 a0_2 l0_3 t708 t709 t710 t711 t723 t724 t725 t726) else (laws_FnExactScaleMatrix.j1 kj11 a1 t714 true a0_0 a0_1 a0_2 l0_3 t708 t709 t710 t711 t723 t724 t725 t726))))) else (some false))) = some r := H
   have A57 := Aside0.mk A570
   clear A570
   replace H := Option.bind_eq_some_iff.mp H
   obtain ⟨t738, A580, H⟩ := H
   replace H : (if t738 = true then ((laws_markMatrix.f kj11 t716 t717 t718 t719 1).bind fun bt739 => (if bt739.1 < 0 then (laws_FnExactScaleMatrix.j1 kj11 a1 t714 true a0_0 a0_1 a0_2 l0_3 t708 t709 t710 t711 t723 t724 t725 t726) else ((laws_eqMatrix.f kj11 t723 t724 t725 t726 t708 t709 t710 t711).bind fun t741 => (if t741 = true then (laws_FnExactScaleMatrix.j1 kj11 a1 t714 (t729 != t714) a0_0 a0_1 a0_2 l0_3 t708 t709 t710 t711 t723 t724 t725 t726) else (laws_FnExactScaleMatrix.j1 kj11 a1 t714 true a0_0 a0_1 a0_2 l0_3 t708 t709 t710 t711 t723 t724 t725 t726))))) else (some false)) = some r := H
   have A58 := Aside0.mk A580
   clear A580
   by_cases c59 : t738 = true
   ·subst c59
    have H1 : ((laws_markMatrix.f kj11 t716 t717 t718 t719 1).bind fun bt739 => (if bt739.1 < 0 then (laws_FnExactScaleMatrix.j1 kj11 a1 t714 true a0_0 a0_1 a0_2 l0_3 t708 t709 t710 t711 t723 t724 t725 t726) else ((laws_eqMatrix.f kj11 t723 t724 t725 t726 t708 t709 t710 t711).bind fun t741 => (if t741 = true then (laws_FnExactScaleMatrix.j1 kj11 a1 t714 (t729 != t714) a0_0 a0_1 a0_2 l0_3 t708 t709 t710 t711 t723 t724 t725 t726) else (laws_FnExactScaleMatrix.j1 kj11 a1 t714 true a0_0 a0_1 a0_2 l0_3 t708 t709 t710 t711 t723 t724 t725 t726))))) = some r := by rw [if_pos rfl] at H; exact H
    clear H
    have H := H1
    clear H1
    replace H := Option.bind_eq_some_iff.mp H
    obtain ⟨⟨t739, t740⟩, A600, H⟩ := H
    replace H : (if t739 < 0 then (laws_FnExactScaleMatrix.j1 kj11 a1 t714 true a0_0 a0_1 a0_2 l0_3 t708 t709 t710 t711 t723 t724 t725 t726) else ((laws_eqMatrix.f kj11 t723 t724 t725 t726 t708 t709 t710 t711).bind fun t741 => (if t741 = true then (laws_FnExactScaleMatrix.j1 kj11 a1 t714 (t729 != t714) a0_0 a0_1 a0_2 l0_3 t708 t709 t710 t711 t723 t724 t725 t726) else (laws_FnExactScaleMatrix.j1 kj11 a1 t714 true a0_0 a0_1 a0_2 l0_3 t708 t709 t710 t711 t723 t724 t725 t726)))) = some r := H
    have A60 := Aside0.mk A600
    clear A600
    have HC61 := Aside0.mk H
    clear H
    try go_wp2
    have n0_ := Aside0.mk (Kd.R_drew HO_716003.out)
    have n1_ := Aside0.mk (Kd.R_drew HO_723003.out)
    have n2_ := Aside0.mk (Kd.R_drew HO_731003.out)
    have n3_ := Aside0.mk (blk_drew BK700.out)
    have n4_ := Aside0.mk (blk_drew BK715.out)
    have n5_ := Aside0.mk (blk_drew BK722.out)
    have n6_ := Aside0.mk (blk_drew BK730.out)
    have n7_ := Aside0.mk (below_drew1 HB.out)
    clear HO_716003 HO_723003 HO_731003 BK700 BK715 BK722 BK730 HB
    have HO_716003 := n0_
    have HO_723003 := n1_
    have HO_731003 := n2_
    have BK700 := n3_
    have BK715 := n4_
    have BK722 := n5_
    have BK730 := n6_
    have HB := n7_
    clear n0_ n1_ n2_ n3_ n4_ n5_ n6_ n7_
    refine start_ (n := 5) (S := fun w' => w'.cell? ⟨gb722, 0, none⟩ = some (.int .i64 t716) ∧ w'.cell? ⟨gb722, 1, none⟩ = some (.int .i64 t717) ∧ w'.cell? ⟨gb722, 2, none⟩ = some (.int .i64 t718) ∧ w'.cell? ⟨gb722, 3, none⟩ = some (.slice Ao30 t719.length co30) ∧ w'.cell? ⟨gb700, 0, none⟩ = some (.int .i64 a0_0) ∧ w'.cell? ⟨gb700, 1, none⟩ = some (.int .i64 a0_1) ∧ w'.cell? ⟨gb700, 2, none⟩ = some (.int .i64 a0_2) ∧ w'.cell? ⟨gb700, 3, none⟩ = some (.slice A0_3 l0_3.length c0_3)) (ds := []) #[false, false, false, false, false] (by kernel_rfl) rfl rfl Z11.z14 (fun hHeld => ?_)
    generalize wc.drew = w62 at HO_716003 HO_723003 HO_731003 BK700 BK715 BK722 BK730 HB hHeld ⊢
    refine take_ (i := 0) (N := some 45) (v := ?_) (a' := ?_) #[true, false, false, false, false] rfl rfl (by kernel_rfl) (fun _ _ _ h => h) (Or.inl ⟨(by rfl), ?_⟩) hHeld ?_ ?_
    rotate_left
    ·rintro w' ⟨s0, s1, s2, s3, s4, s5, s6, s7⟩
     go_simp
     with_reducible rfl
    rotate_left
    ·exact Z11.z34
    refine take_ (i := 1) (N := some 46) (v := ?_) (a' := ?_) #[true, true, false, false, false] rfl rfl (by kernel_rfl) (fun _ _ _ h => h) (Or.inl ⟨(by rfl), ?_⟩) hHeld ?_ ?_
    rotate_left
    ·rintro w' ⟨s0, s1, s2, s3, s4, s5, s6, s7⟩
     go_simp
     with_reducible rfl
    rotate_left
    ·exact Z11.z34
    refine one_ (i := 2) (N := some 47) #[true, true, true, false, false] rfl rfl (by kernel_rfl) (by decide) (fun K hK => ?_)
    refine goes_ Try.func24 (by kernel_rfl) rfl #[.agg #[.int .i64 a0_0, .int .i64 a0_1, .int .i64 a0_2, .slice A0_3 l0_3.length c0_3]] (by rfl) rfl rfl Z11.z5 ?_
    with_reducible refine (laws_toMatrix.calls kj11 a0_0 a0_1 a0_2 _ _ l0_3 t732 t733 t734 t735 _ ?side1 ?side2 A57.out).mono ?_
    (case side1 => exact Z11.z22)
    (case side2 => exact HC0_3.out)
    rintro e w63 ⟨v736, rfl, ho0, hb⟩
    refine ⟨_, rfl, ?_⟩
    have n0_ := Aside0.mk (Kd.R_elder' Z11.z9 (Kd.R_base ho0) hb)
    have n1_ := Aside0.mk (Kd.R_elder' Z11.z8 (Kd.R_base ho0) hb)
    have n2_ := Aside0.mk (Kd.R_elder' Z11.z7 (Kd.R_base ho0) hb)
    have n3_ := Aside0.mk (Kd.R_lower (Kd.R_new' (Kd.R_new' (Kd.R_new' ho0 (Kd.R_lt Z11.z9)) (Kd.R_lt Z11.z8)) (Kd.R_lt Z11.z7)) (below_size Z11.z0))
    have n4_ := Aside0.mk (Z11.bb BK700 Z11.z1 hb)
    have n5_ := Aside0.mk (Z11.bb BK715 Z11.z2 hb)
    have n6_ := Aside0.mk (Z11.bb BK722 Z11.z4 hb)
    have n7_ := Aside0.mk (Z11.bb BK730 Z11.z6 hb)
    have n8_ := Aside0.mk (below_step Z11.z0 hb)
    clear HO_716003 HO_723003 HO_731003 BK700 BK715 BK722 BK730 HB
    have HO_716003 := n0_
    have HO_723003 := n1_
    have HO_731003 := n2_
    have HO737 := n3_
    have BK700 := n4_
    have BK715 := n5_
    have BK722 := n6_
    have BK730 := n7_
    have HB := n8_
    clear n0_ n1_ n2_ n3_ n4_ n5_ n6_ n7_ n8_
    (try clear hb)
    (try clear hb2)
    (try clear hk)
    (try clear hi)
    (try clear ho0)
    obtain ⟨Ao64, co64, eo64⟩ := Kd.R_slice HO737.out
    (first | subst eo64 | (injection eo64 with f1_ f2_ f3_; have f4_ := f1_.symm; have f5_ := f3_.symm; clear f1_ f2_ f3_; subst f4_; subst f5_))
    refine hK.out _ _ Z11.z14 (fun hHeld => ?_)
    clear hK K
    refine norm_ (a' := ?_) ?_ ?_
    rotate_left
    ·show Act.put _ (some 47) _ = _
     simp only [Act.put, List.setIfInBounds_toArray, List.set_cons_zero, List.set_cons_succ, i64_w, i32_w]
     rfl
    refine one_ (i := 3) (N := some 48) #[true, true, true, true, false] rfl rfl (by kernel_rfl) (by decide) (fun K hK => ?_)
    refine goes_ Try.func17 (by kernel_rfl) rfl #[.agg #[.int .i64 t716, .int .i64 t717, .int .i64 t718, .slice Ao30 t719.length co30], .agg #[.int .i64 t732, .int .i64 t733, .int .i64 t734, .slice Ao64 t735.length co64]] (by rfl) rfl rfl Z11.z5 ?_
    with_reducible refine (laws_eqMatrix.calls kj11 t716 t717 t718 _ _ t719 t732 t733 t734 _ _ t735 true _ ?side1 ?side2 ?side3 ?side4 A58.out).mono ?_
    (case side1 => exact Z11.z54)
    (case side2 => exact (Kd.R_reads' HO_723003.out).2.1)
    (case side3 => exact Z11.z56)
    (case side4 => exact (Kd.R_reads' HO737.out).2.1)
    rintro e w65 ⟨rfl, hb⟩
    refine ⟨_, rfl, ?_⟩
    have n0_ := Aside0.mk (Kd.R_below Z11.z9 hb)
    have n1_ := Aside0.mk (Kd.R_below Z11.z8 hb)
    have n2_ := Aside0.mk (Kd.R_below Z11.z7 hb)
    have n3_ := Aside0.mk (Kd.R_below Z11.z44 hb)
    have n4_ := Aside0.mk (Z11.bb BK700 Z11.z1 hb)
    have n5_ := Aside0.mk (Z11.bb BK715 Z11.z2 hb)
    have n6_ := Aside0.mk (Z11.bb BK722 Z11.z4 hb)
    have n7_ := Aside0.mk (Z11.bb BK730 Z11.z6 hb)
    have n8_ := Aside0.mk (below_step Z11.z0 hb)
    clear HO_716003 HO_723003 HO_731003 HO737 BK700 BK715 BK722 BK730 HB
    have HO_716003 := n0_
    have HO_723003 := n1_
    have HO_731003 := n2_
    have HO737 := n3_
    have BK700 := n4_
    have BK715 := n5_
    have BK722 := n6_
    have BK730 := n7_
    have HB := n8_
    clear n0_ n1_ n2_ n3_ n4_ n5_ n6_ n7_ n8_
    (try clear hb)
    (try clear hb2)
    (try clear hk)
    (try clear hi)
    refine hK.out _ _ Z11.z14 (fun hHeld => ?_)
    clear hK K
    refine norm_ (a' := ?_) ?_ ?_
    rotate_left
    ·show Act.put _ (some 48) _ = _
     simp only [Act.put, List.setIfInBounds_toArray, List.set_cons_zero, List.set_cons_succ, i64_w, i32_w]
     rfl
    refine pure_ (i := 4) (N := some 49) (v := ?_) (a' := ?_) #[true, true, true, true, true] rfl rfl (by kernel_rfl) (fun _ _ _ h => h) (Or.inl ⟨(by rfl), ?_⟩) ?_ ?_
    rotate_left
    ·intro w'
     go_simp
     with_reducible rfl
    rotate_left
    ·exact Z11.z34
    refine done_ (by kernel_rfl) ?_
    have hnb66 := NB722_700.out
    have hnc66 := NB700_722.out
    have hnb67 := NB722_715.out
    have hnc67 := NB715_722.out
    have hnb68 := NB722_730.out
    have hnc68 := NB730_722.out
    have hcz69_0 : w65.cell? ⟨gb722, 0, none⟩ = some (.int .i64 t716) := (blk_cell BK722.out 0).trans rfl
    have hcz69_1 : w65.cell? ⟨gb722, 1, none⟩ = some (.int .i64 t717) := (blk_cell BK722.out 1).trans rfl
    have hcz69_2 : w65.cell? ⟨gb722, 2, none⟩ = some (.int .i64 t718) := (blk_cell BK722.out 2).trans rfl
    have hcz69_3 : w65.cell? ⟨gb722, 3, none⟩ = some (.slice Ao30 t719.length co30) := (blk_cell BK722.out 3).trans rfl
    have hfz69_0 := blk_frozen BK722.out 0
    have hfz69_1 := blk_frozen BK722.out 1
    have hfz69_2 := blk_frozen BK722.out 2
    have hfz69_3 := blk_frozen BK722.out 3
    go_upto_region 14 with (first | ((with_reducible refine gate_callee (f := 18) rfl ?_); refine goesL_ (some 52) rfl rfl Try.func18 (by kernel_rfl) rfl #[.agg #[.int .i64 t716, .int .i64 t717, .int .i64 t718, .slice Ao30 t719.length co30], .int .i64 1] rfl Z11.z5 ?_; (with_reducible refine (laws_markMatrix.calls kj11 t716 t717 t718 (fun k_ => some k_ = (.slice Ao30 t719.length co30 : Value).ownBlock) (.slice Ao30 t719.length co30) t719 1 t739 t740 w _ ?side1 ?side2 A60.out).mono ?_); (case side1 => exact Z11.z0); (case side2 => exact Kd.R_tight rfl HO_723003.out); rintro e w70 ⟨rfl, hy0, hb, hkp⟩; refine ⟨_, rfl, ?_⟩; have n0_ := Aside0.mk (Kd.R_mono (ok' := fun k_ => some k_ ≠ (.slice Ao30 t719.length co30 : Value).ownBlock ∧ some k_ ≠ (.slice Ao37 t726.length co37 : Value).ownBlock ∧ some k_ ≠ (.slice Ao64 t735.length co64 : Value).ownBlock) (Kd.R_keptB (HO_716003.out) hkp (fun k_ hk_ hs_ => (hk_.1.1) hs_)) (fun k_ hk_ => ⟨hk_.1.1.1, hk_.1.1.2, hk_.1.2⟩)); have n1_ := Aside0.mk (Kd.R_reok rfl hy0 (fun k_ e_ => HO_723003.out.1 k_ e_)); have n2_ := Aside0.mk (Kd.R_mono (ok' := fun k_ => some k_ ≠ (.slice Ao23 t711.length co23 : Value).ownBlock ∧ some k_ ≠ (.slice Ao30 t719.length co30 : Value).ownBlock ∧ some k_ ≠ (.slice Ao64 t735.length co64 : Value).ownBlock) (Kd.R_keptB (HO_731003.out) hkp (fun k_ hk_ hs_ => (hk_.1.2) hs_)) (fun k_ hk_ => ⟨hk_.1.1.1, hk_.1.1.2, hk_.1.2⟩)); have n3_ := Aside0.mk (blk_kept Z11.z1 hkp (fun hs_ => (fun e_ => (Kd.R_ne HO_723003.out BK700.out (by decide)) e_) hs_)); have n4_ := Aside0.mk (blk_kept Z11.z2 hkp (fun hs_ => (fun e_ => (Kd.R_ne HO_723003.out BK715.out (by decide)) e_) hs_)); have n5_ := Aside0.mk (blk_kept Z11.z4 hkp (fun hs_ => (fun e_ => (Kd.R_ne HO_723003.out BK722.out (by decide)) e_) hs_)); have n6_ := Aside0.mk (blk_kept Z11.z6 hkp (fun hs_ => (fun e_ => (Kd.R_ne HO_723003.out BK730.out (by decide)) e_) hs_)); have n7_ := Aside0.mk (Kd.R_mono (ok' := fun k_ => some k_ ≠ (.slice Ao23 t711.length co23 : Value).ownBlock ∧ some k_ ≠ (.slice Ao30 t719.length co30 : Value).ownBlock ∧ some k_ ≠ (.slice Ao37 t726.length co37 : Value).ownBlock) (Kd.R_keptB (HO737.out) hkp (fun k_ hk_ hs_ => (hk_.1.2) hs_)) (fun k_ hk_ => ⟨hk_.1.1.1.2, hk_.1.1.2, hk_.1.2⟩)); have n8_ := Aside0.mk (hb); clear HO_716003 HO_723003 HO_731003 BK700 BK715 BK722 BK730 HO737 HB; have HO_716003 := n0_; have HO_723003 := n1_; have HO_731003 := n2_; have BK700 := n3_; have BK715 := n4_; have BK722 := n5_; have BK730 := n6_; have HO737 := n7_; have HB := n8_; clear n0_ n1_ n2_ n3_ n4_ n5_ n6_ n7_ n8_; (try clear hb); (try clear hkp); (try clear hy0)))
    (try simp only [Act.put, List.setIfInBounds_toArray, List.set_cons_zero, List.set_cons_succ])
    go_cut [65] (fun v65 wc => ∃ (kq : Nat) (x65_60 : Bool), v65 = .bool x65_60 ∧ Aside0 (laws_FnExactScaleMatrix.j1 kq a1 t714 x65_60 a0_0 a0_1 a0_2 l0_3 t708 t709 t710 t711 t723 t724 t725 t726 = some r) ∧ Aside0 (kq ≤ kj11) ∧ Aside0 (Kd.R (Kd.int .i64) 2 wc w.heap.size (fun k_ => some k_ ≠ ((.slice Ao30 t719.length co30) : Value).ownBlock ∧ some k_ ≠ ((.slice Ao37 t726.length co37) : Value).ownBlock) (.slice Ao23 t711.length co23) t711) ∧ Aside0 (Kd.R (Kd.int .i64) 2 wc w.heap.size (fun k_ => some k_ ≠ ((.slice Ao23 t711.length co23) : Value).ownBlock ∧ some k_ ≠ ((.slice Ao37 t726.length co37) : Value).ownBlock) (.slice Ao30 t719.length co30) t740) ∧ Aside0 (Kd.R (Kd.int .i64) 2 wc w.heap.size (fun k_ => some k_ ≠ ((.slice Ao23 t711.length co23) : Value).ownBlock ∧ some k_ ≠ ((.slice Ao30 t719.length co30) : Value).ownBlock) (.slice Ao37 t726.length co37) t726) ∧ Aside0 (wc.heap[gb700]? = some (.cells #[.int .i64 a0_0, .int .i64 a0_1, .int .i64 a0_2, (.slice A0_3 l0_3.length c0_3)] 32 (0, 0))) ∧ Aside0 (wc.heap[gb715]? = some (.cells #[.int .i64 t708, .int .i64 t709, .int .i64 t710, (.slice Ao23 t711.length co23)] 24 (0, 0))) ∧ Aside0 (wc.heap[gb722]? = some (.cells #[.int .i64 t716, .int .i64 t717, .int .i64 t718, (.slice Ao30 t719.length co30)] 24 (0, 0))) ∧ Aside0 (wc.heap[gb730]? = some (.cells #[.int .i64 t723, .int .i64 t724, .int .i64 t725, (.slice Ao37 t726.length co37)] 24 (0, 0))) ∧ Aside0 (Below w.heap.size w wc))
    case first =>
     have H := HC61.out
     clear HC61
     by_cases c71 : t739 < 0
     ·rw [if_pos c71] at H
      have c71b0 : decide (t739 < 0) = true := decide_eq_true c71
      clear c71
      (first | rw [c71b0] | (simp only [i64_w, i32_w]; rw [c71b0]) | skip)
      have H' := Aside0.mk H
      clear H
      go_wp2
      go_meet
      case rel => exact ⟨_, (true), Z11.z64, H', ⟨(by have := HJ11.out; first | omega | exact Nat.le_refl _)⟩, ⟨Z11.z43⟩, ⟨Z11.z41⟩, ⟨Z11.z42⟩, ⟨Z11.z1⟩, ⟨Z11.z2⟩, ⟨Z11.z4⟩, ⟨Z11.z6⟩, ⟨Z11.z0⟩⟩
     rw [if_neg c71] at H
     have c71b0 : decide (t739 < 0) = false := decide_eq_false c71
     clear c71
     (first | rw [c71b0] | (simp only [i64_w, i32_w]; rw [c71b0]) | skip)
     replace H := Option.bind_eq_some_iff.mp H
     obtain ⟨t741, A720, H⟩ := H
     replace H : (if t741 = true then (laws_FnExactScaleMatrix.j1 kj11 a1 t714 (t729 != t714) a0_0 a0_1 a0_2 l0_3 t708 t709 t710 t711 t723 t724 t725 t726) else (laws_FnExactScaleMatrix.j1 kj11 a1 t714 true a0_0 a0_1 a0_2 l0_3 t708 t709 t710 t711 t723 t724 t725 t726)) = some r := H
     have A72 := Aside0.mk A720
     clear A720
     by_cases c73 : t741 = true
     ·subst c73
      have H1 : (laws_FnExactScaleMatrix.j1 kj11 a1 t714 (t729 != t714) a0_0 a0_1 a0_2 l0_3 t708 t709 t710 t711 t723 t724 t725 t726) = some r := by rw [if_pos rfl] at H; exact H
      clear H
      have H := H1
      clear H1
      have H' := Aside0.mk H
      clear H
      have hnb74 := NB730_700.out
      have hnc74 := NB700_730.out
      have hnb75 := NB730_715.out
      have hnc75 := NB715_730.out
      have hnb76 := NB730_722.out
      have hnc76 := NB722_730.out
      have hcz77_0 : w70.cell? ⟨gb730, 0, none⟩ = some (.int .i64 t723) := (blk_cell BK730.out 0).trans rfl
      have hcz77_1 : w70.cell? ⟨gb730, 1, none⟩ = some (.int .i64 t724) := (blk_cell BK730.out 1).trans rfl
      have hcz77_2 : w70.cell? ⟨gb730, 2, none⟩ = some (.int .i64 t725) := (blk_cell BK730.out 2).trans rfl
      have hcz77_3 : w70.cell? ⟨gb730, 3, none⟩ = some (.slice Ao37 t726.length co37) := (blk_cell BK730.out 3).trans rfl
      have hfz77_0 := blk_frozen BK730.out 0
      have hfz77_1 := blk_frozen BK730.out 1
      have hfz77_2 := blk_frozen BK730.out 2
      have hfz77_3 := blk_frozen BK730.out 3
      have hnb78 := NB715_700.out
      have hnc78 := NB700_715.out
      have hnb79 := NB715_722.out
      have hnc79 := NB722_715.out
      have hcz80_0 : w70.cell? ⟨gb715, 0, none⟩ = some (.int .i64 t708) := (blk_cell BK715.out 0).trans rfl
      have hcz80_1 : w70.cell? ⟨gb715, 1, none⟩ = some (.int .i64 t709) := (blk_cell BK715.out 1).trans rfl
      have hcz80_2 : w70.cell? ⟨gb715, 2, none⟩ = some (.int .i64 t710) := (blk_cell BK715.out 2).trans rfl
      have hcz80_3 : w70.cell? ⟨gb715, 3, none⟩ = some (.slice Ao23 t711.length co23) := (blk_cell BK715.out 3).trans rfl
      have hfz80_0 := blk_frozen BK715.out 0
      have hfz80_1 := blk_frozen BK715.out 1
      have hfz80_2 := blk_frozen BK715.out 2
      have hfz80_3 := blk_frozen BK715.out 3
      go_wp2_with (first | (go_at_call 17; (with_reducible refine (laws_eqMatrix.calls kj11 t723 t724 t725 _ _ t726 t708 t709 t710 _ _ t711 true _ ?side1 ?side2 ?side3 ?side4 A72.out).mono ?_); (case side1 => exact Z11.z16); (case side2 => exact (Kd.R_reads' HO_731003.out).2.1); (case side3 => exact Z11.z55); (case side4 => exact (Kd.R_reads' HO_716003.out).2.1); rintro e w81 ⟨rfl, hb⟩; have n0_ := Aside0.mk (Kd.R_below Z11.z9 hb); have n1_ := Aside0.mk (Kd.R_below Z11.z8 hb); have n2_ := Aside0.mk (Kd.R_below Z11.z7 hb); have n3_ := Aside0.mk (Kd.R_below Z11.z44 hb); have n4_ := Aside0.mk (Z11.bb BK700 Z11.z1 hb); have n5_ := Aside0.mk (Z11.bb BK715 Z11.z2 hb); have n6_ := Aside0.mk (Z11.bb BK722 Z11.z4 hb); have n7_ := Aside0.mk (Z11.bb BK730 Z11.z6 hb); have n8_ := Aside0.mk (below_step Z11.z0 hb); clear HO_716003 HO_723003 HO_731003 HO737 BK700 BK715 BK722 BK730 HB; have HO_716003 := n0_; have HO_723003 := n1_; have HO_731003 := n2_; have HO737 := n3_; have BK700 := n4_; have BK715 := n5_; have BK722 := n6_; have BK730 := n7_; have HB := n8_; clear n0_ n1_ n2_ n3_ n4_ n5_ n6_ n7_ n8_; (try clear hb); (try clear hb2); (try clear hk); (try clear hi)))
      go_meet
      case rel => exact ⟨_, ((t729 != t714)), Z11.z64, H', ⟨(by have := HJ11.out; first | omega | exact Nat.le_refl _)⟩, ⟨Z11.z43⟩, ⟨Z11.z41⟩, ⟨Z11.z42⟩, ⟨Z11.z1⟩, ⟨Z11.z2⟩, ⟨Z11.z4⟩, ⟨Z11.z6⟩, ⟨Z11.z0⟩⟩
     replace c73 := Bool.eq_false_iff.mpr c73
     subst c73
     have H1 : (laws_FnExactScaleMatrix.j1 kj11 a1 t714 true a0_0 a0_1 a0_2 l0_3 t708 t709 t710 t711 t723 t724 t725 t726) = some r := by rw [if_neg (show ¬ (false = true) by decide)] at H; exact H
     clear H
     have H := H1
     clear H1
     have H' := Aside0.mk H
     clear H
     have hnb82 := NB730_700.out
     have hnc82 := NB700_730.out
     have hnb83 := NB730_715.out
     have hnc83 := NB715_730.out
     have hnb84 := NB730_722.out
     have hnc84 := NB722_730.out
     have hcz85_0 : w70.cell? ⟨gb730, 0, none⟩ = some (.int .i64 t723) := (blk_cell BK730.out 0).trans rfl
     have hcz85_1 : w70.cell? ⟨gb730, 1, none⟩ = some (.int .i64 t724) := (blk_cell BK730.out 1).trans rfl
     have hcz85_2 : w70.cell? ⟨gb730, 2, none⟩ = some (.int .i64 t725) := (blk_cell BK730.out 2).trans rfl
     have hcz85_3 : w70.cell? ⟨gb730, 3, none⟩ = some (.slice Ao37 t726.length co37) := (blk_cell BK730.out 3).trans rfl
     have hfz85_0 := blk_frozen BK730.out 0
     have hfz85_1 := blk_frozen BK730.out 1
     have hfz85_2 := blk_frozen BK730.out 2
     have hfz85_3 := blk_frozen BK730.out 3
     have hnb86 := NB715_700.out
     have hnc86 := NB700_715.out
     have hnb87 := NB715_722.out
     have hnc87 := NB722_715.out
     have hcz88_0 : w70.cell? ⟨gb715, 0, none⟩ = some (.int .i64 t708) := (blk_cell BK715.out 0).trans rfl
     have hcz88_1 : w70.cell? ⟨gb715, 1, none⟩ = some (.int .i64 t709) := (blk_cell BK715.out 1).trans rfl
     have hcz88_2 : w70.cell? ⟨gb715, 2, none⟩ = some (.int .i64 t710) := (blk_cell BK715.out 2).trans rfl
     have hcz88_3 : w70.cell? ⟨gb715, 3, none⟩ = some (.slice Ao23 t711.length co23) := (blk_cell BK715.out 3).trans rfl
     have hfz88_0 := blk_frozen BK715.out 0
     have hfz88_1 := blk_frozen BK715.out 1
     have hfz88_2 := blk_frozen BK715.out 2
     have hfz88_3 := blk_frozen BK715.out 3
     go_wp2_with (first | (go_at_call 17; (with_reducible refine (laws_eqMatrix.calls kj11 t723 t724 t725 _ _ t726 t708 t709 t710 _ _ t711 false _ ?side1 ?side2 ?side3 ?side4 A72.out).mono ?_); (case side1 => exact Z11.z16); (case side2 => exact (Kd.R_reads' HO_731003.out).2.1); (case side3 => exact Z11.z55); (case side4 => exact (Kd.R_reads' HO_716003.out).2.1); rintro e w89 ⟨rfl, hb⟩; have n0_ := Aside0.mk (Kd.R_below Z11.z9 hb); have n1_ := Aside0.mk (Kd.R_below Z11.z8 hb); have n2_ := Aside0.mk (Kd.R_below Z11.z7 hb); have n3_ := Aside0.mk (Kd.R_below Z11.z44 hb); have n4_ := Aside0.mk (Z11.bb BK700 Z11.z1 hb); have n5_ := Aside0.mk (Z11.bb BK715 Z11.z2 hb); have n6_ := Aside0.mk (Z11.bb BK722 Z11.z4 hb); have n7_ := Aside0.mk (Z11.bb BK730 Z11.z6 hb); have n8_ := Aside0.mk (below_step Z11.z0 hb); clear HO_716003 HO_723003 HO_731003 HO737 BK700 BK715 BK722 BK730 HB; have HO_716003 := n0_; have HO_723003 := n1_; have HO_731003 := n2_; have HO737 := n3_; have BK700 := n4_; have BK715 := n5_; have BK722 := n6_; have BK730 := n7_; have HB := n8_; clear n0_ n1_ n2_ n3_ n4_ n5_ n6_ n7_ n8_; (try clear hb); (try clear hb2); (try clear hk); (try clear hi)))
     go_meet
     case rel => exact ⟨_, (true), Z11.z64, H', ⟨(by have := HJ11.out; first | omega | exact Nat.le_refl _)⟩, ⟨Z11.z43⟩, ⟨Z11.z41⟩, ⟨Z11.z42⟩, ⟨Z11.z1⟩, ⟨Z11.z2⟩, ⟨Z11.z4⟩, ⟨Z11.z6⟩, ⟨Z11.z0⟩⟩
    case rest =>
     clear HC61
     try clear c1
     try clear c2
     try clear p2
     try clear c3
     try clear c4
     try clear c4b0
     try clear c5
     try clear c6
     try clear c7
     try clear c8
     try clear c11
     try clear c17
     try clear c18
     try clear c21
     try clear c22
     try clear c24
     try clear c27
     try clear c28
     try clear c33
     try clear c34
     try clear c35
     try clear c39
     try clear c40
     try clear c41
     try clear c42
     try clear c44
     try clear c45
     try clear c48
     try clear c49
     try clear c50
     try clear c52
     try clear c53
     try clear c56
     try clear c59
     try clear c66
     try clear c67
     try clear c68
     try clear c71
     try clear c71b0
     try clear c73
     try clear c74
     try clear c75
     try clear c76
     try clear c78
     try clear c79
     try clear c82
     try clear c83
     try clear c84
     try clear c86
     try clear c87
     try clear hcz14_0
     try clear hcz14_1
     try clear hcz14_2
     try clear hcz14_3
     try clear hcz16_0
     try clear hcz16_1
     try clear hcz16_2
     try clear hcz16_3
     try clear hcz22_0
     try clear hcz22_1
     try clear hcz22_2
     try clear hcz22_3
     try clear hcz24_0
     try clear hcz24_1
     try clear hcz24_2
     try clear hcz24_3
     try clear hcz29_0
     try clear hcz29_1
     try clear hcz29_2
     try clear hcz29_3
     try clear hcz36_0
     try clear hcz36_1
     try clear hcz36_2
     try clear hcz36_3
     try clear hcz43_0
     try clear hcz43_1
     try clear hcz43_2
     try clear hcz43_3
     try clear hcz46_0
     try clear hcz46_1
     try clear hcz46_2
     try clear hcz46_3
     try clear hcz51_0
     try clear hcz51_1
     try clear hcz51_2
     try clear hcz51_3
     try clear hcz54_0
     try clear hcz54_1
     try clear hcz54_2
     try clear hcz54_3
     try clear hcz69_0
     try clear hcz69_1
     try clear hcz69_2
     try clear hcz69_3
     try clear hcz6_0
     try clear hcz6_1
     try clear hcz6_2
     try clear hcz6_3
     try clear hcz77_0
     try clear hcz77_1
     try clear hcz77_2
     try clear hcz77_3
     try clear hcz80_0
     try clear hcz80_1
     try clear hcz80_2
     try clear hcz80_3
     try clear hcz85_0
     try clear hcz85_1
     try clear hcz85_2
     try clear hcz85_3
     try clear hcz88_0
     try clear hcz88_1
     try clear hcz88_2
     try clear hcz88_3
     try clear hfz14_0
     try clear hfz14_1
     try clear hfz14_2
     try clear hfz14_3
     try clear hfz16_0
     try clear hfz16_1
     try clear hfz16_2
     try clear hfz16_3
     try clear hfz22_0
     try clear hfz22_1
     try clear hfz22_2
     try clear hfz22_3
     try clear hfz24_0
     try clear hfz24_1
     try clear hfz24_2
     try clear hfz24_3
     try clear hfz29_0
     try clear hfz29_1
     try clear hfz29_2
     try clear hfz29_3
     try clear hfz36_0
     try clear hfz36_1
     try clear hfz36_2
     try clear hfz36_3
     try clear hfz43_0
     try clear hfz43_1
     try clear hfz43_2
     try clear hfz43_3
     try clear hfz46_0
     try clear hfz46_1
     try clear hfz46_2
     try clear hfz46_3
     try clear hfz51_0
     try clear hfz51_1
     try clear hfz51_2
     try clear hfz51_3
     try clear hfz54_0
     try clear hfz54_1
     try clear hfz54_2
     try clear hfz54_3
     try clear hfz69_0
     try clear hfz69_1
     try clear hfz69_2
     try clear hfz69_3
     try clear hfz6_0
     try clear hfz6_1
     try clear hfz6_2
     try clear hfz6_3
     try clear hfz77_0
     try clear hfz77_1
     try clear hfz77_2
     try clear hfz77_3
     try clear hfz80_0
     try clear hfz80_1
     try clear hfz80_2
     try clear hfz80_3
     try clear hfz85_0
     try clear hfz85_1
     try clear hfz85_2
     try clear hfz85_3
     try clear hfz88_0
     try clear hfz88_1
     try clear hfz88_2
     try clear hfz88_3
     try clear p2
     obtain ⟨kq, x65_60, rfl, HA, HJ60, HO_716003, HO_723003, HO_731003, BK700, BK715, BK722, BK730, HB⟩ := hcut
     have hl723003_60 := (Kd.R_reads' HO_723003.out).1
     rw [hl723003_60] at HO_723003
     (try simp only [hl723003_60])
     (try simp only [hl723003_60] at BK700)
     (try simp only [hl723003_60] at BK715)
     (try simp only [hl723003_60] at BK722)
     (try simp only [hl723003_60] at BK730)
     (try simp only [hl723003_60] at HO_716003)
     (try simp only [hl723003_60] at HO_731003)
     cases kq with
     | zero => exact absurd HA.out (by simp [laws_FnExactScaleMatrix.j1])
     | succ kj60 =>
      have H := HA.out
      clear HA
      simp only [laws_FnExactScaleMatrix.j1] at H
      by_cases c90 : x65_60 = true
      ·subst c90
       have H1 : (some false) = some r := by rw [if_pos rfl] at H; exact H
       clear H
       have H := H1
       clear H1
       obtain rfl := Option.some.inj H
       go_wp2
       go_ret
       exact ⟨Z11.z23, Z11.z0⟩
      replace c90 := Bool.eq_false_iff.mpr c90
      subst c90
      have H1 : ((laws_markMatrix.f kj60 t723 t724 t725 t726 1).bind fun bt742 => ((laws_heldMatrix.f kj60 t723 t724 t725 bt742.2 1).bind fun t744 => (if t744 < 0 then (some false) else (if t744 = bt742.1 then ((laws_toMatrix.f kj60 a0_0 a0_1 a0_2 l0_3).bind fun bt745 => ((impl_ScaleMatrix.f kj60 bt745.1 bt745.2.1 bt745.2.2.1 bt745.2.2.2 a1).bind fun bt751 => ((laws_eqMatrix.f kj60 bt751.1 bt751.2.1 bt751.2.2.1 bt751.2.2.2.1 t708 t709 t710 t711).bind fun t759 => (if t759 = true then (laws_FnExactScaleMatrix.j2 kj60 bt742.1 (bt751.2.2.2.2 != t714) t723 t724 t725 bt742.2) else (laws_FnExactScaleMatrix.j2 kj60 bt742.1 true t723 t724 t725 bt742.2))))) else (some false))))) = some r := by rw [if_neg (show ¬ (false = true) by decide)] at H; exact H
      clear H
      have H := H1
      clear H1
      replace H := Option.bind_eq_some_iff.mp H
      obtain ⟨⟨t742, t743⟩, A910, H⟩ := H
      replace H : ((laws_heldMatrix.f kj60 t723 t724 t725 t743 1).bind fun t744 => (if t744 < 0 then (some false) else (if t744 = t742 then ((laws_toMatrix.f kj60 a0_0 a0_1 a0_2 l0_3).bind fun bt745 => ((impl_ScaleMatrix.f kj60 bt745.1 bt745.2.1 bt745.2.2.1 bt745.2.2.2 a1).bind fun bt751 => ((laws_eqMatrix.f kj60 bt751.1 bt751.2.1 bt751.2.2.1 bt751.2.2.2.1 t708 t709 t710 t711).bind fun t759 => (if t759 = true then (laws_FnExactScaleMatrix.j2 kj60 t742 (bt751.2.2.2.2 != t714) t723 t724 t725 t743) else (laws_FnExactScaleMatrix.j2 kj60 t742 true t723 t724 t725 t743))))) else (some false)))) = some r := H
      have A91 := Aside0.mk A910
      clear A910
      replace H := Option.bind_eq_some_iff.mp H
      obtain ⟨t744, A920, H⟩ := H
      replace H : (if t744 < 0 then (some false) else (if t744 = t742 then ((laws_toMatrix.f kj60 a0_0 a0_1 a0_2 l0_3).bind fun bt745 => ((impl_ScaleMatrix.f kj60 bt745.1 bt745.2.1 bt745.2.2.1 bt745.2.2.2 a1).bind fun bt751 => ((laws_eqMatrix.f kj60 bt751.1 bt751.2.1 bt751.2.2.1 bt751.2.2.2.1 t708 t709 t710 t711).bind fun t759 => (if t759 = true then (laws_FnExactScaleMatrix.j2 kj60 t742 (bt751.2.2.2.2 != t714) t723 t724 t725 t743) else (laws_FnExactScaleMatrix.j2 kj60 t742 true t723 t724 t725 t743))))) else (some false))) = some r := H
      have A92 := Aside0.mk A920
      clear A920
      by_cases c93 : t744 < 0
      ·rw [if_pos c93] at H
       have c93b0 : decide (t744 < 0) = true := decide_eq_true c93
       clear c93
       obtain rfl := Option.some.inj H
       have hnb94 := NB730_700.out
       have hnc94 := NB700_730.out
       have hnb95 := NB730_715.out
       have hnc95 := NB715_730.out
       have hnb96 := NB730_722.out
       have hnc96 := NB722_730.out
       have hcz97_0 : wc.cell? ⟨gb730, 0, none⟩ = some (.int .i64 t723) := (blk_cell BK730.out 0).trans rfl
       have hcz97_1 : wc.cell? ⟨gb730, 1, none⟩ = some (.int .i64 t724) := (blk_cell BK730.out 1).trans rfl
       have hcz97_2 : wc.cell? ⟨gb730, 2, none⟩ = some (.int .i64 t725) := (blk_cell BK730.out 2).trans rfl
       have hcz97_3 : wc.cell? ⟨gb730, 3, none⟩ = some (.slice Ao37 t726.length co37) := (blk_cell BK730.out 3).trans rfl
       have hfz97_0 := blk_frozen BK730.out 0
       have hfz97_1 := blk_frozen BK730.out 1
       have hfz97_2 := blk_frozen BK730.out 2
       have hfz97_3 := blk_frozen BK730.out 3
       go_wp2_with (first | ((with_reducible refine gate_callee (f := 18) rfl ?_); refine goesL_ (some 68) rfl rfl Try.func18 (by kernel_rfl) rfl #[.agg #[.int .i64 t723, .int .i64 t724, .int .i64 t725, .slice Ao37 t726.length co37], .int .i64 1] rfl Z11.z5 ?_; (with_reducible refine (laws_markMatrix.calls kj60 t723 t724 t725 (fun k_ => some k_ = (.slice Ao37 t726.length co37 : Value).ownBlock) (.slice Ao37 t726.length co37) t726 1 t742 t743 w _ ?side1 ?side2 A91.out).mono ?_); (case side1 => exact Z11.z0); (case side2 => exact Kd.R_tight rfl HO_731003.out); rintro e w98 ⟨rfl, hy0, hb, hkp⟩; refine ⟨_, rfl, ?_⟩; have n0_ := Aside0.mk (Kd.R_mono (ok' := fun k_ => some k_ ≠ (.slice Ao30 t740.length co30 : Value).ownBlock ∧ some k_ ≠ (.slice Ao37 t726.length co37 : Value).ownBlock) (Kd.R_keptB (HO_716003.out) hkp (fun k_ hk_ hs_ => (hk_.2) hs_)) (fun k_ hk_ => ⟨hk_.1.1, hk_.1.2⟩)); have n1_ := Aside0.mk (Kd.R_mono (ok' := fun k_ => some k_ ≠ (.slice Ao23 t711.length co23 : Value).ownBlock ∧ some k_ ≠ (.slice Ao37 t726.length co37 : Value).ownBlock) (Kd.R_keptB (HO_723003.out) hkp (fun k_ hk_ hs_ => (hk_.2) hs_)) (fun k_ hk_ => ⟨hk_.1.1, hk_.1.2⟩)); have n2_ := Aside0.mk (Kd.R_reok rfl hy0 (fun k_ e_ => HO_731003.out.1 k_ e_)); have n3_ := Aside0.mk (blk_kept Z11.z1 hkp (fun hs_ => (fun e_ => (Kd.R_ne HO_731003.out BK700.out (by decide)) e_) hs_)); have n4_ := Aside0.mk (blk_kept Z11.z2 hkp (fun hs_ => (fun e_ => (Kd.R_ne HO_731003.out BK715.out (by decide)) e_) hs_)); have n5_ := Aside0.mk (blk_kept Z11.z4 hkp (fun hs_ => (fun e_ => (Kd.R_ne HO_731003.out BK722.out (by decide)) e_) hs_)); have n6_ := Aside0.mk (blk_kept Z11.z6 hkp (fun hs_ => (fun e_ => (Kd.R_ne HO_731003.out BK730.out (by decide)) e_) hs_)); have n7_ := Aside0.mk (hb); clear HO_716003 HO_723003 HO_731003 BK700 BK715 BK722 BK730 HB; have HO_716003 := n0_; have HO_723003 := n1_; have HO_731003 := n2_; have BK700 := n3_; have BK715 := n4_; have BK722 := n5_; have BK730 := n6_; have HB := n7_; clear n0_ n1_ n2_ n3_ n4_ n5_ n6_ n7_; (try clear hb); (try clear hkp); (try clear hy0); have hcz99_0 : w98.cell? ⟨gb730, 0, none⟩ = some (.int .i64 t723) := (blk_cell BK730.out 0).trans rfl; have hcz99_1 : w98.cell? ⟨gb730, 1, none⟩ = some (.int .i64 t724) := (blk_cell BK730.out 1).trans rfl; have hcz99_2 : w98.cell? ⟨gb730, 2, none⟩ = some (.int .i64 t725) := (blk_cell BK730.out 2).trans rfl; have hcz99_3 : w98.cell? ⟨gb730, 3, none⟩ = some (.slice Ao37 t726.length co37) := (blk_cell BK730.out 3).trans rfl; have hfz99_0 := blk_frozen BK730.out 0; have hfz99_1 := blk_frozen BK730.out 1; have hfz99_2 := blk_frozen BK730.out 2; have hfz99_3 := blk_frozen BK730.out 3) | ((with_reducible refine gate_callee (f := 19) rfl ?_); refine goesL_ (some 71) rfl rfl Try.func19 (by kernel_rfl) rfl #[.agg #[.int .i64 t723, .int .i64 t724, .int .i64 t725, .slice Ao37 t743.length co37], .int .i64 1] rfl Z11.z35 ?_; (with_reducible refine (laws_heldMatrix.calls kj60 t723 t724 t725 _ _ t743 1 t744 _ ?side1 ?side2 A92.out).mono ?_); (case side1 => exact Z11.z16); (case side2 => exact Z11.z46); rintro e w100 ⟨rfl, hb⟩; refine ⟨_, rfl, ?_⟩; have n0_ := Aside0.mk (Kd.R_below Z11.z9 hb); have n1_ := Aside0.mk (Kd.R_below Z11.z8 hb); have n2_ := Aside0.mk (Kd.R_below Z11.z7 hb); have n3_ := Aside0.mk (Z11.bb BK700 Z11.z1 hb); have n4_ := Aside0.mk (Z11.bb BK715 Z11.z2 hb); have n5_ := Aside0.mk (Z11.bb BK722 Z11.z4 hb); have n6_ := Aside0.mk (Z11.bb BK730 Z11.z6 hb); have n7_ := Aside0.mk (below_step Z11.z0 hb); clear HO_716003 HO_723003 HO_731003 BK700 BK715 BK722 BK730 HB; have HO_716003 := n0_; have HO_723003 := n1_; have HO_731003 := n2_; have BK700 := n3_; have BK715 := n4_; have BK722 := n5_; have BK730 := n6_; have HB := n7_; clear n0_ n1_ n2_ n3_ n4_ n5_ n6_ n7_; (try clear hb); (try clear hb2); (try clear hk); (try clear hi)))
       go_ret
       exact ⟨Z11.z23, Z11.z0⟩
      rw [if_neg c93] at H
      have c93b0 : decide (t744 < 0) = false := decide_eq_false c93
      clear c93
      by_cases c101 : t744 = t742
      ·rw [if_pos c101] at H
       have c101b0 : (t744 == t742) = true := beq_iff_eq.mpr c101
       have c101b1 : (t744 != t742) = false := bne_eq_false_iff_eq.mpr c101
       clear c101
       replace H := Option.bind_eq_some_iff.mp H
       obtain ⟨⟨t745, t746, t747, t748⟩, A1020, H⟩ := H
       replace H : ((impl_ScaleMatrix.f kj60 t745 t746 t747 t748 a1).bind fun bt751 => ((laws_eqMatrix.f kj60 bt751.1 bt751.2.1 bt751.2.2.1 bt751.2.2.2.1 t708 t709 t710 t711).bind fun t759 => (if t759 = true then (laws_FnExactScaleMatrix.j2 kj60 t742 (bt751.2.2.2.2 != t714) t723 t724 t725 t743) else (laws_FnExactScaleMatrix.j2 kj60 t742 true t723 t724 t725 t743)))) = some r := H
       have A102 := Aside0.mk A1020
       clear A1020
       replace H := Option.bind_eq_some_iff.mp H
       obtain ⟨⟨t751, t752, t753, t754, t757⟩, A1030, H⟩ := H
       replace H : ((laws_eqMatrix.f kj60 t751 t752 t753 t754 t708 t709 t710 t711).bind fun t759 => (if t759 = true then (laws_FnExactScaleMatrix.j2 kj60 t742 (t757 != t714) t723 t724 t725 t743) else (laws_FnExactScaleMatrix.j2 kj60 t742 true t723 t724 t725 t743))) = some r := H
       have A103 := Aside0.mk A1030
       clear A1030
       have HC104 := Aside0.mk H
       clear H
       have hnb105 := NB730_700.out
       have hnc105 := NB700_730.out
       have hnb106 := NB730_715.out
       have hnc106 := NB715_730.out
       have hnb107 := NB730_722.out
       have hnc107 := NB722_730.out
       have hcz108_0 : wc.cell? ⟨gb730, 0, none⟩ = some (.int .i64 t723) := (blk_cell BK730.out 0).trans rfl
       have hcz108_1 : wc.cell? ⟨gb730, 1, none⟩ = some (.int .i64 t724) := (blk_cell BK730.out 1).trans rfl
       have hcz108_2 : wc.cell? ⟨gb730, 2, none⟩ = some (.int .i64 t725) := (blk_cell BK730.out 2).trans rfl
       have hcz108_3 : wc.cell? ⟨gb730, 3, none⟩ = some (.slice Ao37 t726.length co37) := (blk_cell BK730.out 3).trans rfl
       have hfz108_0 := blk_frozen BK730.out 0
       have hfz108_1 := blk_frozen BK730.out 1
       have hfz108_2 := blk_frozen BK730.out 2
       have hfz108_3 := blk_frozen BK730.out 3
       go_upto_region 25 with (first | ((with_reducible refine gate_callee (f := 18) rfl ?_); refine goesL_ (some 68) rfl rfl Try.func18 (by kernel_rfl) rfl #[.agg #[.int .i64 t723, .int .i64 t724, .int .i64 t725, .slice Ao37 t726.length co37], .int .i64 1] rfl Z11.z5 ?_; (with_reducible refine (laws_markMatrix.calls kj60 t723 t724 t725 (fun k_ => some k_ = (.slice Ao37 t726.length co37 : Value).ownBlock) (.slice Ao37 t726.length co37) t726 1 t742 t743 w _ ?side1 ?side2 A91.out).mono ?_); (case side1 => exact Z11.z0); (case side2 => exact Kd.R_tight rfl HO_731003.out); rintro e w109 ⟨rfl, hy0, hb, hkp⟩; refine ⟨_, rfl, ?_⟩; have n0_ := Aside0.mk (Kd.R_mono (ok' := fun k_ => some k_ ≠ (.slice Ao30 t740.length co30 : Value).ownBlock ∧ some k_ ≠ (.slice Ao37 t726.length co37 : Value).ownBlock) (Kd.R_keptB (HO_716003.out) hkp (fun k_ hk_ hs_ => (hk_.2) hs_)) (fun k_ hk_ => ⟨hk_.1.1, hk_.1.2⟩)); have n1_ := Aside0.mk (Kd.R_mono (ok' := fun k_ => some k_ ≠ (.slice Ao23 t711.length co23 : Value).ownBlock ∧ some k_ ≠ (.slice Ao37 t726.length co37 : Value).ownBlock) (Kd.R_keptB (HO_723003.out) hkp (fun k_ hk_ hs_ => (hk_.2) hs_)) (fun k_ hk_ => ⟨hk_.1.1, hk_.1.2⟩)); have n2_ := Aside0.mk (Kd.R_reok rfl hy0 (fun k_ e_ => HO_731003.out.1 k_ e_)); have n3_ := Aside0.mk (blk_kept Z11.z1 hkp (fun hs_ => (fun e_ => (Kd.R_ne HO_731003.out BK700.out (by decide)) e_) hs_)); have n4_ := Aside0.mk (blk_kept Z11.z2 hkp (fun hs_ => (fun e_ => (Kd.R_ne HO_731003.out BK715.out (by decide)) e_) hs_)); have n5_ := Aside0.mk (blk_kept Z11.z4 hkp (fun hs_ => (fun e_ => (Kd.R_ne HO_731003.out BK722.out (by decide)) e_) hs_)); have n6_ := Aside0.mk (blk_kept Z11.z6 hkp (fun hs_ => (fun e_ => (Kd.R_ne HO_731003.out BK730.out (by decide)) e_) hs_)); have n7_ := Aside0.mk (hb); clear HO_716003 HO_723003 HO_731003 BK700 BK715 BK722 BK730 HB; have HO_716003 := n0_; have HO_723003 := n1_; have HO_731003 := n2_; have BK700 := n3_; have BK715 := n4_; have BK722 := n5_; have BK730 := n6_; have HB := n7_; clear n0_ n1_ n2_ n3_ n4_ n5_ n6_ n7_; (try clear hb); (try clear hkp); (try clear hy0); have hcz110_0 : w109.cell? ⟨gb730, 0, none⟩ = some (.int .i64 t723) := (blk_cell BK730.out 0).trans rfl; have hcz110_1 : w109.cell? ⟨gb730, 1, none⟩ = some (.int .i64 t724) := (blk_cell BK730.out 1).trans rfl; have hcz110_2 : w109.cell? ⟨gb730, 2, none⟩ = some (.int .i64 t725) := (blk_cell BK730.out 2).trans rfl; have hcz110_3 : w109.cell? ⟨gb730, 3, none⟩ = some (.slice Ao37 t726.length co37) := (blk_cell BK730.out 3).trans rfl; have hfz110_0 := blk_frozen BK730.out 0; have hfz110_1 := blk_frozen BK730.out 1; have hfz110_2 := blk_frozen BK730.out 2; have hfz110_3 := blk_frozen BK730.out 3) | ((with_reducible refine gate_callee (f := 19) rfl ?_); refine goesL_ (some 71) rfl rfl Try.func19 (by kernel_rfl) rfl #[.agg #[.int .i64 t723, .int .i64 t724, .int .i64 t725, .slice Ao37 t743.length co37], .int .i64 1] rfl Z11.z35 ?_; (with_reducible refine (laws_heldMatrix.calls kj60 t723 t724 t725 _ _ t743 1 t744 _ ?side1 ?side2 A92.out).mono ?_); (case side1 => exact Z11.z16); (case side2 => exact Z11.z46); rintro e w111 ⟨rfl, hb⟩; refine ⟨_, rfl, ?_⟩; have n0_ := Aside0.mk (Kd.R_below Z11.z9 hb); have n1_ := Aside0.mk (Kd.R_below Z11.z8 hb); have n2_ := Aside0.mk (Kd.R_below Z11.z7 hb); have n3_ := Aside0.mk (Z11.bb BK700 Z11.z1 hb); have n4_ := Aside0.mk (Z11.bb BK715 Z11.z2 hb); have n5_ := Aside0.mk (Z11.bb BK722 Z11.z4 hb); have n6_ := Aside0.mk (Z11.bb BK730 Z11.z6 hb); have n7_ := Aside0.mk (below_step Z11.z0 hb); clear HO_716003 HO_723003 HO_731003 BK700 BK715 BK722 BK730 HB; have HO_716003 := n0_; have HO_723003 := n1_; have HO_731003 := n2_; have BK700 := n3_; have BK715 := n4_; have BK722 := n5_; have BK730 := n6_; have HB := n7_; clear n0_ n1_ n2_ n3_ n4_ n5_ n6_ n7_; (try clear hb); (try clear hb2); (try clear hk); (try clear hi); have hnb112 := NB700_715.out; have hnc112 := NB715_700.out; have hnb113 := NB700_722.out; have hnc113 := NB722_700.out; have hcz114_0 : w111.cell? ⟨gb700, 0, none⟩ = some (.int .i64 a0_0) := (blk_cell BK700.out 0).trans rfl; have hcz114_1 : w111.cell? ⟨gb700, 1, none⟩ = some (.int .i64 a0_1) := (blk_cell BK700.out 1).trans rfl; have hcz114_2 : w111.cell? ⟨gb700, 2, none⟩ = some (.int .i64 a0_2) := (blk_cell BK700.out 2).trans rfl; have hcz114_3 : w111.cell? ⟨gb700, 3, none⟩ = some (.slice A0_3 l0_3.length c0_3) := (blk_cell BK700.out 3).trans rfl; have hfz114_0 := blk_frozen BK700.out 0; have hfz114_1 := blk_frozen BK700.out 1; have hfz114_2 := blk_frozen BK700.out 2; have hfz114_3 := blk_frozen BK700.out 3) | ((with_reducible refine gate_callee (f := 24) rfl ?_); refine goesL_ (some 79) rfl rfl Try.func24 (by kernel_rfl) rfl #[.agg #[.int .i64 a0_0, .int .i64 a0_1, .int .i64 a0_2, .slice A0_3 l0_3.length c0_3]] rfl Z11.z5 ?_; (with_reducible refine (laws_toMatrix.calls kj60 a0_0 a0_1 a0_2 _ _ l0_3 t745 t746 t747 t748 _ ?side1 ?side2 A102.out).mono ?_); (case side1 => exact Z11.z22); (case side2 => exact HC0_3.out); rintro e w115 ⟨v749, rfl, ho0, hb⟩; refine ⟨_, rfl, ?_⟩; have n0_ := Aside0.mk (Kd.R_elder' Z11.z9 (Kd.R_base ho0) hb); have n1_ := Aside0.mk (Kd.R_elder' Z11.z8 (Kd.R_base ho0) hb); have n2_ := Aside0.mk (Kd.R_elder' Z11.z7 (Kd.R_base ho0) hb); have n3_ := Aside0.mk (Kd.R_lower (Kd.R_new' (Kd.R_new' (Kd.R_new' ho0 (Kd.R_lt Z11.z9)) (Kd.R_lt Z11.z8)) (Kd.R_lt Z11.z7)) (below_size Z11.z0)); have n4_ := Aside0.mk (Z11.bb BK700 Z11.z1 hb); have n5_ := Aside0.mk (Z11.bb BK715 Z11.z2 hb); have n6_ := Aside0.mk (Z11.bb BK722 Z11.z4 hb); have n7_ := Aside0.mk (Z11.bb BK730 Z11.z6 hb); have n8_ := Aside0.mk (below_step Z11.z0 hb); clear HO_716003 HO_723003 HO_731003 BK700 BK715 BK722 BK730 HB; have HO_716003 := n0_; have HO_723003 := n1_; have HO_731003 := n2_; have HO750 := n3_; have BK700 := n4_; have BK715 := n5_; have BK722 := n6_; have BK730 := n7_; have HB := n8_; clear n0_ n1_ n2_ n3_ n4_ n5_ n6_ n7_ n8_; (try clear hb); (try clear hb2); (try clear hk); (try clear hi); (try clear ho0); obtain ⟨Ao116, co116, eo116⟩ := Kd.R_slice HO750.out; subst eo116) | ((with_reducible refine gate_callee (f := 41) rfl ?_); refine goesL_ (some 81) rfl rfl Try.func41 (by kernel_rfl) rfl #[.agg #[.int .i64 t745, .int .i64 t746, .int .i64 t747, .slice Ao116 t748.length co116], .int .i64 a1] rfl Z11.z5 ?_; (with_reducible refine (impl_ScaleMatrix.calls kj60 t745 t746 t747 _ _ t748 a1 t751 t752 t753 t754 t757 _ ?side1 ?side2 A103.out).mono ?_); (case side1 => exact (by repeat (first | exact (Kd.R_reads' HO750.out).2.2 | (with_reducible refine Kd.C_alloc ?_ _) | (with_reducible refine Kd.C_drewN ?_ _) | (with_reducible refine Kd.C_drew ?_)))); (case side2 => exact (Kd.R_reads' HO750.out).2.1); rintro e w117 ⟨v755, rfl, ho0, hb⟩; refine ⟨_, rfl, ?_⟩; have n0_ := Aside0.mk (Kd.R_elder' Z11.z9 (Kd.R_base ho0) hb); have n1_ := Aside0.mk (Kd.R_elder' Z11.z8 (Kd.R_base ho0) hb); have n2_ := Aside0.mk (Kd.R_elder' Z11.z7 (Kd.R_base ho0) hb); have n3_ := Aside0.mk (Kd.R_elder' Z11.z52 (Kd.R_base ho0) hb); have n4_ := Aside0.mk (Kd.R_lower (Kd.R_new' (Kd.R_new' (Kd.R_new' (Kd.R_new' ho0 (Kd.R_lt Z11.z9)) (Kd.R_lt Z11.z8)) (Kd.R_lt Z11.z7)) (Kd.R_lt Z11.z52)) (below_size Z11.z0)); have n5_ := Aside0.mk (Z11.bb BK700 Z11.z1 hb); have n6_ := Aside0.mk (Z11.bb BK715 Z11.z2 hb); have n7_ := Aside0.mk (Z11.bb BK722 Z11.z4 hb); have n8_ := Aside0.mk (Z11.bb BK730 Z11.z6 hb); have n9_ := Aside0.mk (below_step Z11.z0 hb); clear HO_716003 HO_723003 HO_731003 HO750 BK700 BK715 BK722 BK730 HB; have HO_716003 := n0_; have HO_723003 := n1_; have HO_731003 := n2_; have HO750 := n3_; have HO756 := n4_; have BK700 := n5_; have BK715 := n6_; have BK722 := n7_; have BK730 := n8_; have HB := n9_; clear n0_ n1_ n2_ n3_ n4_ n5_ n6_ n7_ n8_ n9_; (try clear hb); (try clear hb2); (try clear hk); (try clear hi); (try clear ho0)) | ((with_reducible refine gate_dst (N := 14) rfl ?_); refine box_event ?hg (N := 14) ?hd (cs := #[.int .i64 0, .int .i64 0, .int .i64 0, .slice none 0 0]) (t := 24) ?hr ?_; (case hd => rfl); (case hg => rfl); (case hr => first | (go_simp; done) | (go_simp; rfl)); intro gb758 hg w118 hbox hb; have n0_ := Aside0.mk (Kd.R_below Z11.z9 hb); have n1_ := Aside0.mk (Kd.R_below Z11.z8 hb); have n2_ := Aside0.mk (Kd.R_below Z11.z7 hb); have n3_ := Aside0.mk (Kd.R_below Z11.z52 hb); have n4_ := Aside0.mk (Kd.R_below (by (with_reducible repeat (first | apply Kd.R_alloc | apply Kd.R_drewN | apply Kd.R_drew)); exact HO756.out) hb); have n5_ := Aside0.mk (Z11.bb BK700 Z11.z1 hb); have n6_ := Aside0.mk (Z11.bb BK715 Z11.z2 hb); have n7_ := Aside0.mk (Z11.bb BK722 Z11.z4 hb); have n8_ := Aside0.mk (Z11.bb BK730 Z11.z6 hb); have n9_ := Aside0.mk (below_step Z11.z0 hb); have n10_ := Aside0.mk (hbox); have n11_ := Aside0.mk (show w.heap.size ≤ gb758 from (by rw [hg]; exact (below_size Z11.z0))); have n12_ := Aside0.mk (show w.heap.size ≤ gb758 from (by rw [hg]; exact (below_size Z11.z0))); have n13_ := Aside0.mk (show gb700 ≠ gb758 from (by rw [hg]; exact Nat.ne_of_lt (Z11.bl BK700 Z11.z1))); have n14_ := Aside0.mk (show gb758 ≠ gb700 from (by rw [hg]; exact Nat.ne_of_gt (Z11.bl BK700 Z11.z1))); have n15_ := Aside0.mk (show gb715 ≠ gb758 from (by rw [hg]; exact Nat.ne_of_lt (Z11.bl BK715 Z11.z2))); have n16_ := Aside0.mk (show gb758 ≠ gb715 from (by rw [hg]; exact Nat.ne_of_gt (Z11.bl BK715 Z11.z2))); have n17_ := Aside0.mk (show gb722 ≠ gb758 from (by rw [hg]; exact Nat.ne_of_lt (Z11.bl BK722 Z11.z4))); have n18_ := Aside0.mk (show gb758 ≠ gb722 from (by rw [hg]; exact Nat.ne_of_gt (Z11.bl BK722 Z11.z4))); have n19_ := Aside0.mk (show gb730 ≠ gb758 from (by rw [hg]; exact Nat.ne_of_lt (Z11.bl BK730 Z11.z6))); have n20_ := Aside0.mk (show gb758 ≠ gb730 from (by rw [hg]; exact Nat.ne_of_gt (Z11.bl BK730 Z11.z6))); clear HO_716003 HO_723003 HO_731003 HO750 HO756 BK700 BK715 BK722 BK730 HB; have HO_716003 := n0_; have HO_723003 := n1_; have HO_731003 := n2_; have HO750 := n3_; have HO756 := n4_; have BK700 := n5_; have BK715 := n6_; have BK722 := n7_; have BK730 := n8_; have HB := n9_; have BK758 := n10_; have GW758 := n11_; have GE758 := n12_; have NB700_758 := n13_; have NB758_700 := n14_; have NB715_758 := n15_; have NB758_715 := n16_; have NB722_758 := n17_; have NB758_722 := n18_; have NB730_758 := n19_; have NB758_730 := n20_; clear n0_ n1_ n2_ n3_ n4_ n5_ n6_ n7_ n8_ n9_ n10_ n11_ n12_ n13_ n14_ n15_ n16_ n17_ n18_ n19_ n20_; clear hb hbox hg; have hnb119 := NB758_700.out; have hnc119 := NB700_758.out; have hnb120 := NB758_715.out; have hnc120 := NB715_758.out; have hnb121 := NB758_722.out; have hnc121 := NB722_758.out; have hnb122 := NB758_730.out; have hnc122 := NB730_758.out; have hcz123_0 : w118.cell? ⟨gb758, 0, none⟩ = some (.int .i64 0) := (blk_cell BK758.out 0).trans rfl; have hcz123_1 : w118.cell? ⟨gb758, 1, none⟩ = some (.int .i64 0) := (blk_cell BK758.out 1).trans rfl; have hcz123_2 : w118.cell? ⟨gb758, 2, none⟩ = some (.int .i64 0) := (blk_cell BK758.out 2).trans rfl; have hcz123_3 : w118.cell? ⟨gb758, 3, none⟩ = some (.slice none 0 0) := (blk_cell BK758.out 3).trans rfl; have hfz123_0 := blk_frozen BK758.out 0; have hfz123_1 := blk_frozen BK758.out 1; have hfz123_2 := blk_frozen BK758.out 2; have hfz123_3 := blk_frozen BK758.out 3; obtain ⟨Ao124, co124, eo124⟩ := Kd.R_slice HO756.out; subst eo124))
       (try simp only [Act.put, List.setIfInBounds_toArray, List.set_cons_zero, List.set_cons_succ])
       go_cut [92] (fun v92 wc => ∃ (kq : Nat) (x92_103 : Bool), v92 = .bool x92_103 ∧ Aside0 (laws_FnExactScaleMatrix.j2 kq t742 x92_103 t723 t724 t725 t743 = some r) ∧ Aside0 (kq ≤ kj60) ∧ Aside0 (Kd.R (Kd.int .i64) 2 wc w.heap.size (fun k_ => some k_ ≠ ((.slice Ao30 t740.length co30) : Value).ownBlock ∧ some k_ ≠ ((.slice Ao37 t726.length co37) : Value).ownBlock ∧ some k_ ≠ ((.slice Ao124 t754.length co124) : Value).ownBlock) (.slice Ao23 t711.length co23) t711) ∧ Aside0 (Kd.R (Kd.int .i64) 2 wc w.heap.size (fun k_ => some k_ ≠ ((.slice Ao23 t711.length co23) : Value).ownBlock ∧ some k_ ≠ ((.slice Ao37 t726.length co37) : Value).ownBlock ∧ some k_ ≠ ((.slice Ao124 t754.length co124) : Value).ownBlock) (.slice Ao30 t740.length co30) t740) ∧ Aside0 (Kd.R (Kd.int .i64) 2 wc w.heap.size (fun k_ => some k_ ≠ ((.slice Ao23 t711.length co23) : Value).ownBlock ∧ some k_ ≠ ((.slice Ao30 t740.length co30) : Value).ownBlock ∧ some k_ ≠ ((.slice Ao124 t754.length co124) : Value).ownBlock) (.slice Ao37 t726.length co37) t743) ∧ Aside0 (Kd.R (Kd.int .i64) 2 wc w.heap.size (fun k_ => some k_ ≠ ((.slice Ao23 t711.length co23) : Value).ownBlock ∧ some k_ ≠ ((.slice Ao30 t740.length co30) : Value).ownBlock ∧ some k_ ≠ ((.slice Ao37 t726.length co37) : Value).ownBlock) (.slice Ao124 t754.length co124) t754) ∧ Aside0 (wc.heap[gb700]? = some (.cells #[.int .i64 a0_0, .int .i64 a0_1, .int .i64 a0_2, (.slice A0_3 l0_3.length c0_3)] 32 (0, 0))) ∧ Aside0 (wc.heap[gb715]? = some (.cells #[.int .i64 t708, .int .i64 t709, .int .i64 t710, (.slice Ao23 t711.length co23)] 24 (0, 0))) ∧ Aside0 (wc.heap[gb722]? = some (.cells #[.int .i64 t716, .int .i64 t717, .int .i64 t718, (.slice Ao30 t740.length co30)] 24 (0, 0))) ∧ Aside0 (wc.heap[gb730]? = some (.cells #[.int .i64 t723, .int .i64 t724, .int .i64 t725, (.slice Ao37 t726.length co37)] 24 (0, 0))) ∧ Aside0 (wc.heap[gb758]? = some (.cells #[.int .i64 t751, .int .i64 t752, .int .i64 t753, (.slice Ao124 t754.length co124)] 24 (0, 0))) ∧ Aside0 (Below w.heap.size w wc))
       case first =>
        have H := HC104.out
        clear HC104
        replace H := Option.bind_eq_some_iff.mp H
        obtain ⟨t759, A1250, H⟩ := H
        replace H : (if t759 = true then (laws_FnExactScaleMatrix.j2 kj60 t742 (t757 != t714) t723 t724 t725 t743) else (laws_FnExactScaleMatrix.j2 kj60 t742 true t723 t724 t725 t743)) = some r := H
        have A125 := Aside0.mk A1250
        clear A1250
        by_cases c126 : t759 = true
        ·subst c126
         have H1 : (laws_FnExactScaleMatrix.j2 kj60 t742 (t757 != t714) t723 t724 t725 t743) = some r := by rw [if_pos rfl] at H; exact H
         clear H
         have H := H1
         clear H1
         have H' := Aside0.mk H
         clear H
         have hnb127 := NB758_700.out
         have hnc127 := NB700_758.out
         have hnb128 := NB758_715.out
         have hnc128 := NB715_758.out
         have hnb129 := NB758_722.out
         have hnc129 := NB722_758.out
         have hnb130 := NB758_730.out
         have hnc130 := NB730_758.out
         have hcz131_0 : w118.cell? ⟨gb758, 0, none⟩ = some (.int .i64 0) := (blk_cell BK758.out 0).trans rfl
         have hcz131_1 : w118.cell? ⟨gb758, 1, none⟩ = some (.int .i64 0) := (blk_cell BK758.out 1).trans rfl
         have hcz131_2 : w118.cell? ⟨gb758, 2, none⟩ = some (.int .i64 0) := (blk_cell BK758.out 2).trans rfl
         have hcz131_3 : w118.cell? ⟨gb758, 3, none⟩ = some (.slice none 0 0) := (blk_cell BK758.out 3).trans rfl
         have hfz131_0 := blk_frozen BK758.out 0
         have hfz131_1 := blk_frozen BK758.out 1
         have hfz131_2 := blk_frozen BK758.out 2
         have hfz131_3 := blk_frozen BK758.out 3
         have hnb132 := NB715_700.out
         have hnc132 := NB700_715.out
         have hnb133 := NB715_722.out
         have hnc133 := NB722_715.out
         have hnb134 := NB715_730.out
         have hnc134 := NB730_715.out
         have hcz135_0 : w118.cell? ⟨gb715, 0, none⟩ = some (.int .i64 t708) := (blk_cell BK715.out 0).trans rfl
         have hcz135_1 : w118.cell? ⟨gb715, 1, none⟩ = some (.int .i64 t709) := (blk_cell BK715.out 1).trans rfl
         have hcz135_2 : w118.cell? ⟨gb715, 2, none⟩ = some (.int .i64 t710) := (blk_cell BK715.out 2).trans rfl
         have hcz135_3 : w118.cell? ⟨gb715, 3, none⟩ = some (.slice Ao23 t711.length co23) := (blk_cell BK715.out 3).trans rfl
         have hfz135_0 := blk_frozen BK715.out 0
         have hfz135_1 := blk_frozen BK715.out 1
         have hfz135_2 := blk_frozen BK715.out 2
         have hfz135_3 := blk_frozen BK715.out 3
         go_wp2_with (first | ((with_reducible refine gate_callee (f := 17) rfl ?_); refine goesL_ (some 86) rfl rfl Try.func17 (by kernel_rfl) rfl #[.agg #[.int .i64 t751, .int .i64 t752, .int .i64 t753, .slice Ao124 t754.length co124], .agg #[.int .i64 t708, .int .i64 t709, .int .i64 t710, .slice Ao23 t711.length co23]] rfl Z11.z5 ?_; (with_reducible refine (laws_eqMatrix.calls kj60 t751 t752 t753 _ _ t754 t708 t709 t710 _ _ t711 true _ ?side1 ?side2 ?side3 ?side4 A125.out).mono ?_); (case side1 => exact Z11.z36); (case side2 => exact (Kd.R_reads' HO756.out).2.1); (case side3 => exact Z11.z37); (case side4 => exact (Kd.R_reads' HO_716003.out).2.1); rintro e w136 ⟨rfl, hb⟩; refine ⟨_, rfl, ?_⟩; have n0_ := Aside0.mk (Kd.R_below Z11.z10 hb); have n1_ := Aside0.mk (Kd.R_below Z11.z26 hb); have n2_ := Aside0.mk (Kd.R_below Z11.z25 hb); have n3_ := Aside0.mk (Kd.R_below Z11.z27 hb); have n4_ := Aside0.mk (Kd.R_below Z11.z11 hb); have n5_ := Aside0.mk (Z11.bb BK700 Z11.z62 hb); have n6_ := Aside0.mk (Z11.bb BK715 Z11.z60 hb); have n7_ := Aside0.mk (Z11.bb BK722 Z11.z58 hb); have n8_ := Aside0.mk (Z11.bb BK730 Z11.z57 hb); have n9_ := Aside0.mk (blk_below (g := gb758) (o := .cells #[.int .i64 t751, .int .i64 t752, .int .i64 t753, .slice Ao124 t754.length co124] 24 (0, 0)) Z11.z17 hb); have n10_ := Aside0.mk (below_step Z11.z3 hb); clear HO_716003 HO_723003 HO_731003 HO750 HO756 BK700 BK715 BK722 BK730 BK758 HB; have HO_716003 := n0_; have HO_723003 := n1_; have HO_731003 := n2_; have HO750 := n3_; have HO756 := n4_; have BK700 := n5_; have BK715 := n6_; have BK722 := n7_; have BK730 := n8_; have BK758 := n9_; have HB := n10_; clear n0_ n1_ n2_ n3_ n4_ n5_ n6_ n7_ n8_ n9_ n10_; (try clear hb); (try clear hb2); (try clear hk); (try clear hi)))
         go_meet
         case rel => exact ⟨_, ((t757 != t714)), Z11.z64, H', ⟨(by have := HJ11.out; have := HJ60.out; first | omega | exact Nat.le_refl _)⟩, ⟨Z11.z50⟩, ⟨Z11.z49⟩, ⟨Z11.z48⟩, ⟨Z11.z51⟩, ⟨Z11.z69⟩, ⟨Z11.z68⟩, ⟨Z11.z67⟩, ⟨Z11.z66⟩, ⟨Z11.z65⟩, ⟨Z11.z3⟩⟩
        replace c126 := Bool.eq_false_iff.mpr c126
        subst c126
        have H1 : (laws_FnExactScaleMatrix.j2 kj60 t742 true t723 t724 t725 t743) = some r := by rw [if_neg (show ¬ (false = true) by decide)] at H; exact H
        clear H
        have H := H1
        clear H1
        have H' := Aside0.mk H
        clear H
        have hnb137 := NB758_700.out
        have hnc137 := NB700_758.out
        have hnb138 := NB758_715.out
        have hnc138 := NB715_758.out
        have hnb139 := NB758_722.out
        have hnc139 := NB722_758.out
        have hnb140 := NB758_730.out
        have hnc140 := NB730_758.out
        have hcz141_0 : w118.cell? ⟨gb758, 0, none⟩ = some (.int .i64 0) := (blk_cell BK758.out 0).trans rfl
        have hcz141_1 : w118.cell? ⟨gb758, 1, none⟩ = some (.int .i64 0) := (blk_cell BK758.out 1).trans rfl
        have hcz141_2 : w118.cell? ⟨gb758, 2, none⟩ = some (.int .i64 0) := (blk_cell BK758.out 2).trans rfl
        have hcz141_3 : w118.cell? ⟨gb758, 3, none⟩ = some (.slice none 0 0) := (blk_cell BK758.out 3).trans rfl
        have hfz141_0 := blk_frozen BK758.out 0
        have hfz141_1 := blk_frozen BK758.out 1
        have hfz141_2 := blk_frozen BK758.out 2
        have hfz141_3 := blk_frozen BK758.out 3
        have hnb142 := NB715_700.out
        have hnc142 := NB700_715.out
        have hnb143 := NB715_722.out
        have hnc143 := NB722_715.out
        have hnb144 := NB715_730.out
        have hnc144 := NB730_715.out
        have hcz145_0 : w118.cell? ⟨gb715, 0, none⟩ = some (.int .i64 t708) := (blk_cell BK715.out 0).trans rfl
        have hcz145_1 : w118.cell? ⟨gb715, 1, none⟩ = some (.int .i64 t709) := (blk_cell BK715.out 1).trans rfl
        have hcz145_2 : w118.cell? ⟨gb715, 2, none⟩ = some (.int .i64 t710) := (blk_cell BK715.out 2).trans rfl
        have hcz145_3 : w118.cell? ⟨gb715, 3, none⟩ = some (.slice Ao23 t711.length co23) := (blk_cell BK715.out 3).trans rfl
        have hfz145_0 := blk_frozen BK715.out 0
        have hfz145_1 := blk_frozen BK715.out 1
        have hfz145_2 := blk_frozen BK715.out 2
        have hfz145_3 := blk_frozen BK715.out 3
        go_wp2_with (first | ((with_reducible refine gate_callee (f := 17) rfl ?_); refine goesL_ (some 86) rfl rfl Try.func17 (by kernel_rfl) rfl #[.agg #[.int .i64 t751, .int .i64 t752, .int .i64 t753, .slice Ao124 t754.length co124], .agg #[.int .i64 t708, .int .i64 t709, .int .i64 t710, .slice Ao23 t711.length co23]] rfl Z11.z5 ?_; (with_reducible refine (laws_eqMatrix.calls kj60 t751 t752 t753 _ _ t754 t708 t709 t710 _ _ t711 false _ ?side1 ?side2 ?side3 ?side4 A125.out).mono ?_); (case side1 => exact Z11.z36); (case side2 => exact (Kd.R_reads' HO756.out).2.1); (case side3 => exact Z11.z37); (case side4 => exact (Kd.R_reads' HO_716003.out).2.1); rintro e w146 ⟨rfl, hb⟩; refine ⟨_, rfl, ?_⟩; have n0_ := Aside0.mk (Kd.R_below Z11.z10 hb); have n1_ := Aside0.mk (Kd.R_below Z11.z26 hb); have n2_ := Aside0.mk (Kd.R_below Z11.z25 hb); have n3_ := Aside0.mk (Kd.R_below Z11.z27 hb); have n4_ := Aside0.mk (Kd.R_below Z11.z11 hb); have n5_ := Aside0.mk (Z11.bb BK700 Z11.z62 hb); have n6_ := Aside0.mk (Z11.bb BK715 Z11.z60 hb); have n7_ := Aside0.mk (Z11.bb BK722 Z11.z58 hb); have n8_ := Aside0.mk (Z11.bb BK730 Z11.z57 hb); have n9_ := Aside0.mk (blk_below (g := gb758) (o := .cells #[.int .i64 t751, .int .i64 t752, .int .i64 t753, .slice Ao124 t754.length co124] 24 (0, 0)) Z11.z17 hb); have n10_ := Aside0.mk (below_step Z11.z3 hb); clear HO_716003 HO_723003 HO_731003 HO750 HO756 BK700 BK715 BK722 BK730 BK758 HB; have HO_716003 := n0_; have HO_723003 := n1_; have HO_731003 := n2_; have HO750 := n3_; have HO756 := n4_; have BK700 := n5_; have BK715 := n6_; have BK722 := n7_; have BK730 := n8_; have BK758 := n9_; have HB := n10_; clear n0_ n1_ n2_ n3_ n4_ n5_ n6_ n7_ n8_ n9_ n10_; (try clear hb); (try clear hb2); (try clear hk); (try clear hi)))
        go_meet
        case rel => exact ⟨_, (true), Z11.z64, H', ⟨(by have := HJ11.out; have := HJ60.out; first | omega | exact Nat.le_refl _)⟩, ⟨Z11.z50⟩, ⟨Z11.z49⟩, ⟨Z11.z48⟩, ⟨Z11.z51⟩, ⟨Z11.z69⟩, ⟨Z11.z68⟩, ⟨Z11.z67⟩, ⟨Z11.z66⟩, ⟨Z11.z65⟩, ⟨Z11.z3⟩⟩
       case rest =>
        clear HC104
        try clear c1
        try clear c2
        try clear p2
        try clear c3
        try clear c4
        try clear c4b0
        try clear c5
        try clear c6
        try clear c7
        try clear c8
        try clear c9
        try clear c10
        try clear c11
        try clear c12
        try clear c13
        try clear c14
        try clear c17
        try clear c18
        try clear c19
        try clear c21
        try clear c22
        try clear c24
        try clear c27
        try clear c28
        try clear c33
        try clear c34
        try clear c35
        try clear c39
        try clear c40
        try clear c41
        try clear c42
        try clear c44
        try clear c45
        try clear c48
        try clear c49
        try clear c50
        try clear c52
        try clear c53
        try clear c56
        try clear c59
        try clear c66
        try clear c67
        try clear c68
        try clear c71
        try clear c71b0
        try clear c73
        try clear c74
        try clear c75
        try clear c76
        try clear c78
        try clear c79
        try clear c82
        try clear c83
        try clear c84
        try clear c86
        try clear c87
        try clear c90
        try clear c93
        try clear c93b0
        try clear c94
        try clear c95
        try clear c96
        try clear c101
        try clear c101b0
        try clear c101b1
        try clear c105
        try clear c106
        try clear c107
        try clear c112
        try clear c113
        try clear c119
        try clear c120
        try clear c121
        try clear c122
        try clear c126
        try clear c127
        try clear c128
        try clear c129
        try clear c130
        try clear c132
        try clear c133
        try clear c134
        try clear c137
        try clear c138
        try clear c139
        try clear c140
        try clear c142
        try clear c143
        try clear c144
        try clear hcz108_0
        try clear hcz108_1
        try clear hcz108_2
        try clear hcz108_3
        try clear hcz110_0
        try clear hcz110_1
        try clear hcz110_2
        try clear hcz110_3
        try clear hcz114_0
        try clear hcz114_1
        try clear hcz114_2
        try clear hcz114_3
        try clear hcz123_0
        try clear hcz123_1
        try clear hcz123_2
        try clear hcz123_3
        try clear hcz131_0
        try clear hcz131_1
        try clear hcz131_2
        try clear hcz131_3
        try clear hcz135_0
        try clear hcz135_1
        try clear hcz135_2
        try clear hcz135_3
        try clear hcz141_0
        try clear hcz141_1
        try clear hcz141_2
        try clear hcz141_3
        try clear hcz145_0
        try clear hcz145_1
        try clear hcz145_2
        try clear hcz145_3
        try clear hcz14_0
        try clear hcz14_1
        try clear hcz14_2
        try clear hcz14_3
        try clear hcz16_0
        try clear hcz16_1
        try clear hcz16_2
        try clear hcz16_3
        try clear hcz22_0
        try clear hcz22_1
        try clear hcz22_2
        try clear hcz22_3
        try clear hcz24_0
        try clear hcz24_1
        try clear hcz24_2
        try clear hcz24_3
        try clear hcz29_0
        try clear hcz29_1
        try clear hcz29_2
        try clear hcz29_3
        try clear hcz36_0
        try clear hcz36_1
        try clear hcz36_2
        try clear hcz36_3
        try clear hcz43_0
        try clear hcz43_1
        try clear hcz43_2
        try clear hcz43_3
        try clear hcz46_0
        try clear hcz46_1
        try clear hcz46_2
        try clear hcz46_3
        try clear hcz51_0
        try clear hcz51_1
        try clear hcz51_2
        try clear hcz51_3
        try clear hcz54_0
        try clear hcz54_1
        try clear hcz54_2
        try clear hcz54_3
        try clear hcz69_0
        try clear hcz69_1
        try clear hcz69_2
        try clear hcz69_3
        try clear hcz6_0
        try clear hcz6_1
        try clear hcz6_2
        try clear hcz6_3
        try clear hcz77_0
        try clear hcz77_1
        try clear hcz77_2
        try clear hcz77_3
        try clear hcz80_0
        try clear hcz80_1
        try clear hcz80_2
        try clear hcz80_3
        try clear hcz85_0
        try clear hcz85_1
        try clear hcz85_2
        try clear hcz85_3
        try clear hcz88_0
        try clear hcz88_1
        try clear hcz88_2
        try clear hcz88_3
        try clear hcz97_0
        try clear hcz97_1
        try clear hcz97_2
        try clear hcz97_3
        try clear hcz99_0
        try clear hcz99_1
        try clear hcz99_2
        try clear hcz99_3
        try clear hfz108_0
        try clear hfz108_1
        try clear hfz108_2
        try clear hfz108_3
        try clear hfz110_0
        try clear hfz110_1
        try clear hfz110_2
        try clear hfz110_3
        try clear hfz114_0
        try clear hfz114_1
        try clear hfz114_2
        try clear hfz114_3
        try clear hfz123_0
        try clear hfz123_1
        try clear hfz123_2
        try clear hfz123_3
        try clear hfz131_0
        try clear hfz131_1
        try clear hfz131_2
        try clear hfz131_3
        try clear hfz135_0
        try clear hfz135_1
        try clear hfz135_2
        try clear hfz135_3
        try clear hfz141_0
        try clear hfz141_1
        try clear hfz141_2
        try clear hfz141_3
        try clear hfz145_0
        try clear hfz145_1
        try clear hfz145_2
        try clear hfz145_3
        try clear hfz14_0
        try clear hfz14_1
        try clear hfz14_2
        try clear hfz14_3
        try clear hfz16_0
        try clear hfz16_1
        try clear hfz16_2
        try clear hfz16_3
        try clear hfz22_0
        try clear hfz22_1
        try clear hfz22_2
        try clear hfz22_3
        try clear hfz24_0
        try clear hfz24_1
        try clear hfz24_2
        try clear hfz24_3
        try clear hfz29_0
        try clear hfz29_1
        try clear hfz29_2
        try clear hfz29_3
        try clear hfz36_0
        try clear hfz36_1
        try clear hfz36_2
        try clear hfz36_3
        try clear hfz43_0
        try clear hfz43_1
        try clear hfz43_2
        try clear hfz43_3
        try clear hfz46_0
        try clear hfz46_1
        try clear hfz46_2
        try clear hfz46_3
        try clear hfz51_0
        try clear hfz51_1
        try clear hfz51_2
        try clear hfz51_3
        try clear hfz54_0
        try clear hfz54_1
        try clear hfz54_2
        try clear hfz54_3
        try clear hfz69_0
        try clear hfz69_1
        try clear hfz69_2
        try clear hfz69_3
        try clear hfz6_0
        try clear hfz6_1
        try clear hfz6_2
        try clear hfz6_3
        try clear hfz77_0
        try clear hfz77_1
        try clear hfz77_2
        try clear hfz77_3
        try clear hfz80_0
        try clear hfz80_1
        try clear hfz80_2
        try clear hfz80_3
        try clear hfz85_0
        try clear hfz85_1
        try clear hfz85_2
        try clear hfz85_3
        try clear hfz88_0
        try clear hfz88_1
        try clear hfz88_2
        try clear hfz88_3
        try clear hfz97_0
        try clear hfz97_1
        try clear hfz97_2
        try clear hfz97_3
        try clear hfz99_0
        try clear hfz99_1
        try clear hfz99_2
        try clear hfz99_3
        try clear p2
        obtain ⟨kq, x92_103, rfl, HA, HJ103, HO_716003, HO_723003, HO_731003, HO_759003, BK700, BK715, BK722, BK730, BK758, HB⟩ := hcut
        have hl731003_103 := (Kd.R_reads' HO_731003.out).1
        rw [hl731003_103] at HO_731003
        (try simp only [hl731003_103])
        (try simp only [hl731003_103] at BK700)
        (try simp only [hl731003_103] at BK715)
        (try simp only [hl731003_103] at BK722)
        (try simp only [hl731003_103] at BK730)
        (try simp only [hl731003_103] at BK758)
        (try simp only [hl731003_103] at HO_716003)
        (try simp only [hl731003_103] at HO_723003)
        (try simp only [hl731003_103] at HO_759003)
        cases kq with
        | zero => exact absurd HA.out (by simp [laws_FnExactScaleMatrix.j2])
        | succ kj103 =>
         have H := HA.out
         clear HA
         simp only [laws_FnExactScaleMatrix.j2] at H
         by_cases c147 : x92_103 = true
         ·subst c147
          have H1 : (some false) = some r := by rw [if_pos rfl] at H; exact H
          clear H
          have H := H1
          clear H1
          obtain rfl := Option.some.inj H
          go_wp2
          go_ret
          exact ⟨Z11.z23, Z11.z3⟩
         replace c147 := Bool.eq_false_iff.mpr c147
         subst c147
         have H1 : ((laws_heldMatrix.f kj103 t723 t724 t725 t743 1).bind fun t760 => (if t760 < 0 then (some false) else (if t760 = t742 then (some true) else (some false)))) = some r := by rw [if_neg (show ¬ (false = true) by decide)] at H; exact H
         clear H
         have H := H1
         clear H1
         replace H := Option.bind_eq_some_iff.mp H
         obtain ⟨t760, A1480, H⟩ := H
         replace H : (if t760 < 0 then (some false) else (if t760 = t742 then (some true) else (some false))) = some r := H
         have A148 := Aside0.mk A1480
         clear A1480
         by_cases c149 : t760 < 0
         ·rw [if_pos c149] at H
          have c149b0 : decide (t760 < 0) = true := decide_eq_true c149
          clear c149
          obtain rfl := Option.some.inj H
          have hnb150 := NB730_700.out
          have hnc150 := NB700_730.out
          have hnb151 := NB730_715.out
          have hnc151 := NB715_730.out
          have hnb152 := NB730_722.out
          have hnc152 := NB722_730.out
          have hnb153 := NB730_758.out
          have hnc153 := NB758_730.out
          have hcz154_0 : wc.cell? ⟨gb730, 0, none⟩ = some (.int .i64 t723) := (blk_cell BK730.out 0).trans rfl
          have hcz154_1 : wc.cell? ⟨gb730, 1, none⟩ = some (.int .i64 t724) := (blk_cell BK730.out 1).trans rfl
          have hcz154_2 : wc.cell? ⟨gb730, 2, none⟩ = some (.int .i64 t725) := (blk_cell BK730.out 2).trans rfl
          have hcz154_3 : wc.cell? ⟨gb730, 3, none⟩ = some (.slice Ao37 t743.length co37) := (blk_cell BK730.out 3).trans rfl
          have hfz154_0 := blk_frozen BK730.out 0
          have hfz154_1 := blk_frozen BK730.out 1
          have hfz154_2 := blk_frozen BK730.out 2
          have hfz154_3 := blk_frozen BK730.out 3
          go_wp2_with (first | ((with_reducible refine gate_callee (f := 19) rfl ?_); refine goesL_ (some 95) rfl rfl Try.func19 (by kernel_rfl) rfl #[.agg #[.int .i64 t723, .int .i64 t724, .int .i64 t725, .slice Ao37 t743.length co37], .int .i64 1] rfl Z11.z5 ?_; (with_reducible refine (laws_heldMatrix.calls kj103 t723 t724 t725 _ _ t743 1 t760 _ ?side1 ?side2 A148.out).mono ?_); (case side1 => exact Z11.z16); (case side2 => exact (Kd.R_reads' HO_731003.out).2.1); rintro e w155 ⟨rfl, hb⟩; refine ⟨_, rfl, ?_⟩; have n0_ := Aside0.mk (Kd.R_below Z11.z9 hb); have n1_ := Aside0.mk (Kd.R_below Z11.z8 hb); have n2_ := Aside0.mk (Kd.R_below Z11.z7 hb); have n3_ := Aside0.mk (Kd.R_below Z11.z47 hb); have n4_ := Aside0.mk (Z11.bb BK700 Z11.z1 hb); have n5_ := Aside0.mk (Z11.bb BK715 Z11.z2 hb); have n6_ := Aside0.mk (Z11.bb BK722 Z11.z4 hb); have n7_ := Aside0.mk (Z11.bb BK730 Z11.z6 hb); have n8_ := Aside0.mk (Z11.bb BK758 Z11.z45 hb); have n9_ := Aside0.mk (below_step Z11.z3 hb); clear HO_716003 HO_723003 HO_731003 HO_759003 BK700 BK715 BK722 BK730 BK758 HB; have HO_716003 := n0_; have HO_723003 := n1_; have HO_731003 := n2_; have HO_759003 := n3_; have BK700 := n4_; have BK715 := n5_; have BK722 := n6_; have BK730 := n7_; have BK758 := n8_; have HB := n9_; clear n0_ n1_ n2_ n3_ n4_ n5_ n6_ n7_ n8_ n9_; (try clear hb); (try clear hb2); (try clear hk); (try clear hi)))
          go_ret
          exact ⟨Z11.z23, Z11.z3⟩
         rw [if_neg c149] at H
         have c149b0 : decide (t760 < 0) = false := decide_eq_false c149
         clear c149
         by_cases c156 : t760 = t742
         ·rw [if_pos c156] at H
          have c156b0 : (t760 == t742) = true := beq_iff_eq.mpr c156
          have c156b1 : (t760 != t742) = false := bne_eq_false_iff_eq.mpr c156
          clear c156
          obtain rfl := Option.some.inj H
          have hnb157 := NB730_700.out
          have hnc157 := NB700_730.out
          have hnb158 := NB730_715.out
          have hnc158 := NB715_730.out
          have hnb159 := NB730_722.out
          have hnc159 := NB722_730.out
          have hnb160 := NB730_758.out
          have hnc160 := NB758_730.out
          have hcz161_0 : wc.cell? ⟨gb730, 0, none⟩ = some (.int .i64 t723) := (blk_cell BK730.out 0).trans rfl
          have hcz161_1 : wc.cell? ⟨gb730, 1, none⟩ = some (.int .i64 t724) := (blk_cell BK730.out 1).trans rfl
          have hcz161_2 : wc.cell? ⟨gb730, 2, none⟩ = some (.int .i64 t725) := (blk_cell BK730.out 2).trans rfl
          have hcz161_3 : wc.cell? ⟨gb730, 3, none⟩ = some (.slice Ao37 t743.length co37) := (blk_cell BK730.out 3).trans rfl
          have hfz161_0 := blk_frozen BK730.out 0
          have hfz161_1 := blk_frozen BK730.out 1
          have hfz161_2 := blk_frozen BK730.out 2
          have hfz161_3 := blk_frozen BK730.out 3
          go_wp2_with (first | ((with_reducible refine gate_callee (f := 19) rfl ?_); refine goesL_ (some 95) rfl rfl Try.func19 (by kernel_rfl) rfl #[.agg #[.int .i64 t723, .int .i64 t724, .int .i64 t725, .slice Ao37 t743.length co37], .int .i64 1] rfl Z11.z5 ?_; (with_reducible refine (laws_heldMatrix.calls kj103 t723 t724 t725 _ _ t743 1 t760 _ ?side1 ?side2 A148.out).mono ?_); (case side1 => exact Z11.z16); (case side2 => exact (Kd.R_reads' HO_731003.out).2.1); rintro e w162 ⟨rfl, hb⟩; refine ⟨_, rfl, ?_⟩; have n0_ := Aside0.mk (Kd.R_below Z11.z9 hb); have n1_ := Aside0.mk (Kd.R_below Z11.z8 hb); have n2_ := Aside0.mk (Kd.R_below Z11.z7 hb); have n3_ := Aside0.mk (Kd.R_below Z11.z47 hb); have n4_ := Aside0.mk (Z11.bb BK700 Z11.z1 hb); have n5_ := Aside0.mk (Z11.bb BK715 Z11.z2 hb); have n6_ := Aside0.mk (Z11.bb BK722 Z11.z4 hb); have n7_ := Aside0.mk (Z11.bb BK730 Z11.z6 hb); have n8_ := Aside0.mk (Z11.bb BK758 Z11.z45 hb); have n9_ := Aside0.mk (below_step Z11.z3 hb); clear HO_716003 HO_723003 HO_731003 HO_759003 BK700 BK715 BK722 BK730 BK758 HB; have HO_716003 := n0_; have HO_723003 := n1_; have HO_731003 := n2_; have HO_759003 := n3_; have BK700 := n4_; have BK715 := n5_; have BK722 := n6_; have BK730 := n7_; have BK758 := n8_; have HB := n9_; clear n0_ n1_ n2_ n3_ n4_ n5_ n6_ n7_ n8_ n9_; (try clear hb); (try clear hb2); (try clear hk); (try clear hi)))
          go_ret
          exact ⟨Z11.z23, Z11.z3⟩
         rw [if_neg c156] at H
         have c156b0 : (t760 == t742) = false := beq_eq_false_iff_ne.mpr c156
         have c156b1 : (t760 != t742) = true := bne_iff_ne.mpr c156
         obtain rfl := Option.some.inj H
         have hnb163 := NB730_700.out
         have hnc163 := NB700_730.out
         have hnb164 := NB730_715.out
         have hnc164 := NB715_730.out
         have hnb165 := NB730_722.out
         have hnc165 := NB722_730.out
         have hnb166 := NB730_758.out
         have hnc166 := NB758_730.out
         have hcz167_0 : wc.cell? ⟨gb730, 0, none⟩ = some (.int .i64 t723) := (blk_cell BK730.out 0).trans rfl
         have hcz167_1 : wc.cell? ⟨gb730, 1, none⟩ = some (.int .i64 t724) := (blk_cell BK730.out 1).trans rfl
         have hcz167_2 : wc.cell? ⟨gb730, 2, none⟩ = some (.int .i64 t725) := (blk_cell BK730.out 2).trans rfl
         have hcz167_3 : wc.cell? ⟨gb730, 3, none⟩ = some (.slice Ao37 t743.length co37) := (blk_cell BK730.out 3).trans rfl
         have hfz167_0 := blk_frozen BK730.out 0
         have hfz167_1 := blk_frozen BK730.out 1
         have hfz167_2 := blk_frozen BK730.out 2
         have hfz167_3 := blk_frozen BK730.out 3
         go_wp2_with (first | ((with_reducible refine gate_callee (f := 19) rfl ?_); refine goesL_ (some 95) rfl rfl Try.func19 (by kernel_rfl) rfl #[.agg #[.int .i64 t723, .int .i64 t724, .int .i64 t725, .slice Ao37 t743.length co37], .int .i64 1] rfl Z11.z5 ?_; (with_reducible refine (laws_heldMatrix.calls kj103 t723 t724 t725 _ _ t743 1 t760 _ ?side1 ?side2 A148.out).mono ?_); (case side1 => exact Z11.z16); (case side2 => exact (Kd.R_reads' HO_731003.out).2.1); rintro e w168 ⟨rfl, hb⟩; refine ⟨_, rfl, ?_⟩; have n0_ := Aside0.mk (Kd.R_below Z11.z9 hb); have n1_ := Aside0.mk (Kd.R_below Z11.z8 hb); have n2_ := Aside0.mk (Kd.R_below Z11.z7 hb); have n3_ := Aside0.mk (Kd.R_below Z11.z47 hb); have n4_ := Aside0.mk (Z11.bb BK700 Z11.z1 hb); have n5_ := Aside0.mk (Z11.bb BK715 Z11.z2 hb); have n6_ := Aside0.mk (Z11.bb BK722 Z11.z4 hb); have n7_ := Aside0.mk (Z11.bb BK730 Z11.z6 hb); have n8_ := Aside0.mk (Z11.bb BK758 Z11.z45 hb); have n9_ := Aside0.mk (below_step Z11.z3 hb); clear HO_716003 HO_723003 HO_731003 HO_759003 BK700 BK715 BK722 BK730 BK758 HB; have HO_716003 := n0_; have HO_723003 := n1_; have HO_731003 := n2_; have HO_759003 := n3_; have BK700 := n4_; have BK715 := n5_; have BK722 := n6_; have BK730 := n7_; have BK758 := n8_; have HB := n9_; clear n0_ n1_ n2_ n3_ n4_ n5_ n6_ n7_ n8_ n9_; (try clear hb); (try clear hb2); (try clear hk); (try clear hi)))
         go_ret
         exact ⟨Z11.z23, Z11.z3⟩
      rw [if_neg c101] at H
      have c101b0 : (t744 == t742) = false := beq_eq_false_iff_ne.mpr c101
      have c101b1 : (t744 != t742) = true := bne_iff_ne.mpr c101
      obtain rfl := Option.some.inj H
      have hnb169 := NB730_700.out
      have hnc169 := NB700_730.out
      have hnb170 := NB730_715.out
      have hnc170 := NB715_730.out
      have hnb171 := NB730_722.out
      have hnc171 := NB722_730.out
      have hcz172_0 : wc.cell? ⟨gb730, 0, none⟩ = some (.int .i64 t723) := (blk_cell BK730.out 0).trans rfl
      have hcz172_1 : wc.cell? ⟨gb730, 1, none⟩ = some (.int .i64 t724) := (blk_cell BK730.out 1).trans rfl
      have hcz172_2 : wc.cell? ⟨gb730, 2, none⟩ = some (.int .i64 t725) := (blk_cell BK730.out 2).trans rfl
      have hcz172_3 : wc.cell? ⟨gb730, 3, none⟩ = some (.slice Ao37 t726.length co37) := (blk_cell BK730.out 3).trans rfl
      have hfz172_0 := blk_frozen BK730.out 0
      have hfz172_1 := blk_frozen BK730.out 1
      have hfz172_2 := blk_frozen BK730.out 2
      have hfz172_3 := blk_frozen BK730.out 3
      go_wp2_with (first | ((with_reducible refine gate_callee (f := 18) rfl ?_); refine goesL_ (some 68) rfl rfl Try.func18 (by kernel_rfl) rfl #[.agg #[.int .i64 t723, .int .i64 t724, .int .i64 t725, .slice Ao37 t726.length co37], .int .i64 1] rfl Z11.z5 ?_; (with_reducible refine (laws_markMatrix.calls kj60 t723 t724 t725 (fun k_ => some k_ = (.slice Ao37 t726.length co37 : Value).ownBlock) (.slice Ao37 t726.length co37) t726 1 t742 t743 w _ ?side1 ?side2 A91.out).mono ?_); (case side1 => exact Z11.z0); (case side2 => exact Kd.R_tight rfl HO_731003.out); rintro e w173 ⟨rfl, hy0, hb, hkp⟩; refine ⟨_, rfl, ?_⟩; have n0_ := Aside0.mk (Kd.R_mono (ok' := fun k_ => some k_ ≠ (.slice Ao30 t740.length co30 : Value).ownBlock ∧ some k_ ≠ (.slice Ao37 t726.length co37 : Value).ownBlock) (Kd.R_keptB (HO_716003.out) hkp (fun k_ hk_ hs_ => (hk_.2) hs_)) (fun k_ hk_ => ⟨hk_.1.1, hk_.1.2⟩)); have n1_ := Aside0.mk (Kd.R_mono (ok' := fun k_ => some k_ ≠ (.slice Ao23 t711.length co23 : Value).ownBlock ∧ some k_ ≠ (.slice Ao37 t726.length co37 : Value).ownBlock) (Kd.R_keptB (HO_723003.out) hkp (fun k_ hk_ hs_ => (hk_.2) hs_)) (fun k_ hk_ => ⟨hk_.1.1, hk_.1.2⟩)); have n2_ := Aside0.mk (Kd.R_reok rfl hy0 (fun k_ e_ => HO_731003.out.1 k_ e_)); have n3_ := Aside0.mk (blk_kept Z11.z1 hkp (fun hs_ => (fun e_ => (Kd.R_ne HO_731003.out BK700.out (by decide)) e_) hs_)); have n4_ := Aside0.mk (blk_kept Z11.z2 hkp (fun hs_ => (fun e_ => (Kd.R_ne HO_731003.out BK715.out (by decide)) e_) hs_)); have n5_ := Aside0.mk (blk_kept Z11.z4 hkp (fun hs_ => (fun e_ => (Kd.R_ne HO_731003.out BK722.out (by decide)) e_) hs_)); have n6_ := Aside0.mk (blk_kept Z11.z6 hkp (fun hs_ => (fun e_ => (Kd.R_ne HO_731003.out BK730.out (by decide)) e_) hs_)); have n7_ := Aside0.mk (hb); clear HO_716003 HO_723003 HO_731003 BK700 BK715 BK722 BK730 HB; have HO_716003 := n0_; have HO_723003 := n1_; have HO_731003 := n2_; have BK700 := n3_; have BK715 := n4_; have BK722 := n5_; have BK730 := n6_; have HB := n7_; clear n0_ n1_ n2_ n3_ n4_ n5_ n6_ n7_; (try clear hb); (try clear hkp); (try clear hy0); have hcz174_0 : w173.cell? ⟨gb730, 0, none⟩ = some (.int .i64 t723) := (blk_cell BK730.out 0).trans rfl; have hcz174_1 : w173.cell? ⟨gb730, 1, none⟩ = some (.int .i64 t724) := (blk_cell BK730.out 1).trans rfl; have hcz174_2 : w173.cell? ⟨gb730, 2, none⟩ = some (.int .i64 t725) := (blk_cell BK730.out 2).trans rfl; have hcz174_3 : w173.cell? ⟨gb730, 3, none⟩ = some (.slice Ao37 t726.length co37) := (blk_cell BK730.out 3).trans rfl; have hfz174_0 := blk_frozen BK730.out 0; have hfz174_1 := blk_frozen BK730.out 1; have hfz174_2 := blk_frozen BK730.out 2; have hfz174_3 := blk_frozen BK730.out 3) | ((with_reducible refine gate_callee (f := 19) rfl ?_); refine goesL_ (some 71) rfl rfl Try.func19 (by kernel_rfl) rfl #[.agg #[.int .i64 t723, .int .i64 t724, .int .i64 t725, .slice Ao37 t743.length co37], .int .i64 1] rfl Z11.z35 ?_; (with_reducible refine (laws_heldMatrix.calls kj60 t723 t724 t725 _ _ t743 1 t744 _ ?side1 ?side2 A92.out).mono ?_); (case side1 => exact Z11.z16); (case side2 => exact Z11.z46); rintro e w175 ⟨rfl, hb⟩; refine ⟨_, rfl, ?_⟩; have n0_ := Aside0.mk (Kd.R_below Z11.z9 hb); have n1_ := Aside0.mk (Kd.R_below Z11.z8 hb); have n2_ := Aside0.mk (Kd.R_below Z11.z7 hb); have n3_ := Aside0.mk (Z11.bb BK700 Z11.z1 hb); have n4_ := Aside0.mk (Z11.bb BK715 Z11.z2 hb); have n5_ := Aside0.mk (Z11.bb BK722 Z11.z4 hb); have n6_ := Aside0.mk (Z11.bb BK730 Z11.z6 hb); have n7_ := Aside0.mk (below_step Z11.z0 hb); clear HO_716003 HO_723003 HO_731003 BK700 BK715 BK722 BK730 HB; have HO_716003 := n0_; have HO_723003 := n1_; have HO_731003 := n2_; have BK700 := n3_; have BK715 := n4_; have BK722 := n5_; have BK730 := n6_; have HB := n7_; clear n0_ n1_ n2_ n3_ n4_ n5_ n6_ n7_; (try clear hb); (try clear hb2); (try clear hk); (try clear hi)))
      go_ret
      exact ⟨Z11.z23, Z11.z0⟩
   replace c59 := Bool.eq_false_iff.mpr c59
   subst c59
   have H1 : (some false) = some r := by rw [if_neg (show ¬ (false = true) by decide)] at H; exact H
   clear H
   have H := H1
   clear H1
   obtain rfl := Option.some.inj H
   try go_wp2
   have n0_ := Aside0.mk (Kd.R_drew HO_716003.out)
   have n1_ := Aside0.mk (Kd.R_drew HO_723003.out)
   have n2_ := Aside0.mk (Kd.R_drew HO_731003.out)
   have n3_ := Aside0.mk (blk_drew BK700.out)
   have n4_ := Aside0.mk (blk_drew BK715.out)
   have n5_ := Aside0.mk (blk_drew BK722.out)
   have n6_ := Aside0.mk (blk_drew BK730.out)
   have n7_ := Aside0.mk (below_drew1 HB.out)
   clear HO_716003 HO_723003 HO_731003 BK700 BK715 BK722 BK730 HB
   have HO_716003 := n0_
   have HO_723003 := n1_
   have HO_731003 := n2_
   have BK700 := n3_
   have BK715 := n4_
   have BK722 := n5_
   have BK730 := n6_
   have HB := n7_
   clear n0_ n1_ n2_ n3_ n4_ n5_ n6_ n7_
   refine start_ (n := 5) (S := fun w' => w'.cell? ⟨gb722, 0, none⟩ = some (.int .i64 t716) ∧ w'.cell? ⟨gb722, 1, none⟩ = some (.int .i64 t717) ∧ w'.cell? ⟨gb722, 2, none⟩ = some (.int .i64 t718) ∧ w'.cell? ⟨gb722, 3, none⟩ = some (.slice Ao30 t719.length co30) ∧ w'.cell? ⟨gb700, 0, none⟩ = some (.int .i64 a0_0) ∧ w'.cell? ⟨gb700, 1, none⟩ = some (.int .i64 a0_1) ∧ w'.cell? ⟨gb700, 2, none⟩ = some (.int .i64 a0_2) ∧ w'.cell? ⟨gb700, 3, none⟩ = some (.slice A0_3 l0_3.length c0_3)) (ds := []) #[false, false, false, false, false] (by kernel_rfl) rfl rfl Z11.z14 (fun hHeld => ?_)
   generalize wc.drew = w176 at HO_716003 HO_723003 HO_731003 BK700 BK715 BK722 BK730 HB hHeld ⊢
   refine take_ (i := 0) (N := some 45) (v := ?_) (a' := ?_) #[true, false, false, false, false] rfl rfl (by kernel_rfl) (fun _ _ _ h => h) (Or.inl ⟨(by rfl), ?_⟩) hHeld ?_ ?_
   rotate_left
   ·rintro w' ⟨s0, s1, s2, s3, s4, s5, s6, s7⟩
    go_simp
    with_reducible rfl
   rotate_left
   ·exact Z11.z34
   refine take_ (i := 1) (N := some 46) (v := ?_) (a' := ?_) #[true, true, false, false, false] rfl rfl (by kernel_rfl) (fun _ _ _ h => h) (Or.inl ⟨(by rfl), ?_⟩) hHeld ?_ ?_
   rotate_left
   ·rintro w' ⟨s0, s1, s2, s3, s4, s5, s6, s7⟩
    go_simp
    with_reducible rfl
   rotate_left
   ·exact Z11.z34
   refine one_ (i := 2) (N := some 47) #[true, true, true, false, false] rfl rfl (by kernel_rfl) (by decide) (fun K hK => ?_)
   refine goes_ Try.func24 (by kernel_rfl) rfl #[.agg #[.int .i64 a0_0, .int .i64 a0_1, .int .i64 a0_2, .slice A0_3 l0_3.length c0_3]] (by rfl) rfl rfl Z11.z5 ?_
   with_reducible refine (laws_toMatrix.calls kj11 a0_0 a0_1 a0_2 _ _ l0_3 t732 t733 t734 t735 _ ?side1 ?side2 A57.out).mono ?_
   (case side1 => exact Z11.z22)
   (case side2 => exact HC0_3.out)
   rintro e w177 ⟨v736, rfl, ho0, hb⟩
   refine ⟨_, rfl, ?_⟩
   have n0_ := Aside0.mk (Kd.R_elder' Z11.z9 (Kd.R_base ho0) hb)
   have n1_ := Aside0.mk (Kd.R_elder' Z11.z8 (Kd.R_base ho0) hb)
   have n2_ := Aside0.mk (Kd.R_elder' Z11.z7 (Kd.R_base ho0) hb)
   have n3_ := Aside0.mk (Kd.R_lower (Kd.R_new' (Kd.R_new' (Kd.R_new' ho0 (Kd.R_lt Z11.z9)) (Kd.R_lt Z11.z8)) (Kd.R_lt Z11.z7)) (below_size Z11.z0))
   have n4_ := Aside0.mk (Z11.bb BK700 Z11.z1 hb)
   have n5_ := Aside0.mk (Z11.bb BK715 Z11.z2 hb)
   have n6_ := Aside0.mk (Z11.bb BK722 Z11.z4 hb)
   have n7_ := Aside0.mk (Z11.bb BK730 Z11.z6 hb)
   have n8_ := Aside0.mk (below_step Z11.z0 hb)
   clear HO_716003 HO_723003 HO_731003 BK700 BK715 BK722 BK730 HB
   have HO_716003 := n0_
   have HO_723003 := n1_
   have HO_731003 := n2_
   have HO737 := n3_
   have BK700 := n4_
   have BK715 := n5_
   have BK722 := n6_
   have BK730 := n7_
   have HB := n8_
   clear n0_ n1_ n2_ n3_ n4_ n5_ n6_ n7_ n8_
   (try clear hb)
   (try clear hb2)
   (try clear hk)
   (try clear hi)
   (try clear ho0)
   obtain ⟨Ao178, co178, eo178⟩ := Kd.R_slice HO737.out
   (first | subst eo178 | (injection eo178 with f1_ f2_ f3_; have f4_ := f1_.symm; have f5_ := f3_.symm; clear f1_ f2_ f3_; subst f4_; subst f5_))
   refine hK.out _ _ Z11.z14 (fun hHeld => ?_)
   clear hK K
   refine norm_ (a' := ?_) ?_ ?_
   rotate_left
   ·show Act.put _ (some 47) _ = _
    simp only [Act.put, List.setIfInBounds_toArray, List.set_cons_zero, List.set_cons_succ, i64_w, i32_w]
    rfl
   refine one_ (i := 3) (N := some 48) #[true, true, true, true, false] rfl rfl (by kernel_rfl) (by decide) (fun K hK => ?_)
   refine goes_ Try.func17 (by kernel_rfl) rfl #[.agg #[.int .i64 t716, .int .i64 t717, .int .i64 t718, .slice Ao30 t719.length co30], .agg #[.int .i64 t732, .int .i64 t733, .int .i64 t734, .slice Ao178 t735.length co178]] (by rfl) rfl rfl Z11.z5 ?_
   with_reducible refine (laws_eqMatrix.calls kj11 t716 t717 t718 _ _ t719 t732 t733 t734 _ _ t735 false _ ?side1 ?side2 ?side3 ?side4 A58.out).mono ?_
   (case side1 => exact Z11.z54)
   (case side2 => exact (Kd.R_reads' HO_723003.out).2.1)
   (case side3 => exact Z11.z56)
   (case side4 => exact (Kd.R_reads' HO737.out).2.1)
   rintro e w179 ⟨rfl, hb⟩
   refine ⟨_, rfl, ?_⟩
   have n0_ := Aside0.mk (Kd.R_below Z11.z9 hb)
   have n1_ := Aside0.mk (Kd.R_below Z11.z8 hb)
   have n2_ := Aside0.mk (Kd.R_below Z11.z7 hb)
   have n3_ := Aside0.mk (Kd.R_below Z11.z44 hb)
   have n4_ := Aside0.mk (Z11.bb BK700 Z11.z1 hb)
   have n5_ := Aside0.mk (Z11.bb BK715 Z11.z2 hb)
   have n6_ := Aside0.mk (Z11.bb BK722 Z11.z4 hb)
   have n7_ := Aside0.mk (Z11.bb BK730 Z11.z6 hb)
   have n8_ := Aside0.mk (below_step Z11.z0 hb)
   clear HO_716003 HO_723003 HO_731003 HO737 BK700 BK715 BK722 BK730 HB
   have HO_716003 := n0_
   have HO_723003 := n1_
   have HO_731003 := n2_
   have HO737 := n3_
   have BK700 := n4_
   have BK715 := n5_
   have BK722 := n6_
   have BK730 := n7_
   have HB := n8_
   clear n0_ n1_ n2_ n3_ n4_ n5_ n6_ n7_ n8_
   (try clear hb)
   (try clear hb2)
   (try clear hk)
   (try clear hi)
   refine hK.out _ _ Z11.z14 (fun hHeld => ?_)
   clear hK K
   refine norm_ (a' := ?_) ?_ ?_
   rotate_left
   ·show Act.put _ (some 48) _ = _
    simp only [Act.put, List.setIfInBounds_toArray, List.set_cons_zero, List.set_cons_succ, i64_w, i32_w]
    rfl
   refine pure_ (i := 4) (N := some 49) (v := ?_) (a' := ?_) #[true, true, true, true, true] rfl rfl (by kernel_rfl) (fun _ _ _ h => h) (Or.inl ⟨(by rfl), ?_⟩) ?_ ?_
   rotate_left
   ·intro w'
    go_simp
    with_reducible rfl
   rotate_left
   ·exact Z11.z34
   refine done_ (by kernel_rfl) ?_
   try go_wp2
   go_ret
   exact ⟨Z11.z23, Z11.z0⟩

/-- THE ONE PURE STATEMENT of laws_FnExactScaleMatrix: yours. -/
def laws_FnExactScaleMatrix.Pure : Prop := ∀ (a0_0 : Int) (a0_1 : Int) (a0_2 : Int) (l0_3 : List Int) (a1 : Int), (Lit.int .i64 a0_0).wf = true → (Lit.int .i64 a0_1).wf = true → (Lit.int .i64 a0_2).wf = true → l0_3.length ≤ maxLen → (∀ x ∈ l0_3, (Lit.int .i64 x).wf = true) → (Lit.int .i64 a1).wf = true → ∃ k, laws_FnExactScaleMatrix.f k a0_0 a0_1 a0_2 l0_3 a1 = some true
theorem laws_FnExactScaleMatrix.walk (P : laws_FnExactScaleMatrix.Pure) (a0_0 : Int) (a0_1 : Int) (a0_2 : Int) (a0_3 : Option Addr) (len0_3 cap0_3 : Nat) (z0_3 : List Int) (a1 : Int) (w : World) (w0_0 : (Lit.int .i64 a0_0).wf = true) (w0_1 : (Lit.int .i64 a0_1).wf = true) (w0_2 : (Lit.int .i64 a0_2).wf = true) (w0_3 : (a0_3 = none ∧ len0_3 = 0 ∧ cap0_3 = 0 ∧ z0_3 = []) ∨ ∃ x, a0_3 = some x ∧ len0_3 ≤ cap0_3 ∧ cap0_3 ≤ maxLen ∧ z0_3.length = cap0_3 ∧ (∀ i, i < z0_3.length → w.cell? (x.add i) = some (.int .i64 (z0_3.getD i 0))) ∧ ∀ n ∈ z0_3, (Lit.int .i64 n).wf = true) (w1 : (Lit.int .i64 a1).wf = true) :
    Calls Try.prog 11 #[.agg #[.int .i64 a0_0, .int .i64 a0_1, .int .i64 a0_2, .slice a0_3 len0_3 cap0_3], .int .i64 a1] w fun e w' => e = .returned (.bool true) ∧ Below w.heap.size w w' := by
  obtain ⟨l0_3, rfl, hr0_3, hm0_3, hw0_3, hc0_3⟩ := ReadsInt.ofRowC w0_3
  obtain ⟨k, h⟩ := P a0_0 a0_1 a0_2 l0_3 a1 w0_0 w0_1 w0_2 hm0_3 hw0_3 w1
  refine (laws_FnExactScaleMatrix.calls k a0_0 a0_1 a0_2 _ _ l0_3 a1 true w (Kd.C_of_reads (d := (0 : Int)) (h1 := fun _ => rfl) hr0_3) hc0_3 h).mono ?_
  rintro e w' ⟨rfl, hd⟩
  exact ⟨rfl, hd⟩

end Go.Proofs.Ytioooobmfcmefaa.F
end
