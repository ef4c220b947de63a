-- Texts of this claim, merged by pack.py (a program of this session's).
import Derived.Test.YthnijchgjfmgaaaQFnExactReducedForm0
import Derived.Test.YthnijchgjfmgaaaQFnExactReducedForm1
import Derived.Test.YthnijchgjfmgaaaQFnExactReducedForm3
import Derived.Test.YthnijchgjfmgaaaQFnExactReducedForm5

section
namespace Go.Proofs.Ythnijchgjfmgaaa.F
open Go.RowKit Go.Proofs.YthnijchgjfmgaaaW.PrintWords Go.Proofs.YthnijchgjfmgaaaW.PrintLast Go.Proofs.YthnijchgjfmgaaaW.PrintMore
attribute [local go_sem] max2_int min2_int max_two min_two max_three min_three max_four min_four   -- for this text's walks alone
set_option linter.unusedVariables false
set_option linter.unusedSimpArgs false

/-! ### laws_FnExactReducedForm: function 7 -/
theorem laws_FnExactReducedForm.R_at {α : Type} {d : Kd α} {e base m : Nat} {ok : Nat → Prop} {v : Value} {xs : List α} {w w' : World} (hq : w.drewN m = w') (h : d.R e w base ok v xs) : d.R e w' base ok v xs := by subst hq; exact Kd.R_drewN h m
mutual
def laws_FnExactReducedForm.j0 : Nat → List Int → Int → List Int → Int → Bool → Int → Int → Int → List Int → Int → Int → Int → List Int → Int → Int → Int → List Int → Int → Int → Int → List Int → Option (Bool)
  | 0, _, _, _, _, _, _, _, _, _, _, _, _, _, _, _, _, _, _, _, _, _ => none
  | k + 1, x5, x6, x9, x10, x51, x102000, x102001, x102002, x102003, x120000, x120001, x120002, x120003, x127000, x127001, x127002, x127003, x138000, x138001, x138002, x138003 => if x51 = true then (some false) else ((laws_toMatrix.f k x102000 x102001 x102002 x102003).bind fun bt140 => ((laws_eqMatrix.f k x127000 x127001 x127002 x127003 bt140.1 bt140.2.1 bt140.2.2.1 bt140.2.2.2).bind fun t146 => (if t146 = true then ((laws_markMatrix.f k x127000 x127001 x127002 x127003 1).bind fun bt147 => (if bt147.1 < 0 then (laws_FnExactReducedForm.j1 k x5 x6 x9 true x102000 x102001 x102002 x102003 x120000 x120001 x120002 x120003 x138000 x138001 x138002 x138003) else ((laws_eqMatrix.f k x138000 x138001 x138002 x138003 x120000 x120001 x120002 x120003).bind fun t149 => (if t149 = true then ((laws_eqInt64S.f k x9 x5).bind fun t150 => (if t150 = true then (laws_FnExactReducedForm.j1 k x5 x6 x9 (x10 != x6) x102000 x102001 x102002 x102003 x120000 x120001 x120002 x120003 x138000 x138001 x138002 x138003) else (laws_FnExactReducedForm.j1 k x5 x6 x9 true x102000 x102001 x102002 x102003 x120000 x120001 x120002 x120003 x138000 x138001 x138002 x138003))) else (laws_FnExactReducedForm.j1 k x5 x6 x9 true x102000 x102001 x102002 x102003 x120000 x120001 x120002 x120003 x138000 x138001 x138002 x138003))))) else (some false))))
def laws_FnExactReducedForm.j1 : Nat → List Int → Int → List Int → Bool → Int → Int → Int → List Int → Int → Int → Int → List Int → Int → Int → Int → List Int → Option (Bool)
  | 0, _, _, _, _, _, _, _, _, _, _, _, _, _, _, _, _ => none
  | k + 1, x5, x6, x9, x78, x102000, x102001, x102002, x102003, x120000, x120001, x120002, x120003, x138000, x138001, x138002, x138003 => if x78 = true then (some false) else ((laws_markMatrix.f k x138000 x138001 x138002 x138003 1).bind fun bt151 => ((laws_markInt64S.f k x9 bt151.1).bind fun bt153 => ((laws_heldMatrix.f k x138000 x138001 x138002 bt151.2 1).bind fun t155 => (if t155 < 0 then (some false) else ((laws_heldInt64S.f k bt153.2 t155).bind fun t156 => (if t156 < 0 then (some false) else (if t156 = bt153.1 then ((laws_toMatrix.f k x102000 x102001 x102002 x102003).bind fun bt157 => ((impl_ReducedForm.f k bt157.1 bt157.2.1 bt157.2.2.1 bt157.2.2.2).bind fun bt163 => ((laws_eqMatrix.f k bt163.1 bt163.2.1 bt163.2.2.1 bt163.2.2.2.1 x120000 x120001 x120002 x120003).bind fun t174 => (if t174 = true then ((laws_eqInt64S.f k bt163.2.2.2.2.1 x5).bind fun t175 => (if t175 = true then (laws_FnExactReducedForm.j2 k bt153.2 bt153.1 (bt163.2.2.2.2.2 != x6) x138000 x138001 x138002 bt151.2) else (laws_FnExactReducedForm.j2 k bt153.2 bt153.1 true x138000 x138001 x138002 bt151.2))) else (laws_FnExactReducedForm.j2 k bt153.2 bt153.1 true x138000 x138001 x138002 bt151.2))))) else (some false))))))))
def laws_FnExactReducedForm.j2 : Nat → List Int → Int → Bool → Int → Int → Int → List Int → Option (Bool)
  | 0, _, _, _, _, _, _, _ => none
  | k + 1, x9, x12, x119, x138000, x138001, x138002, x138003 => if x119 = true then (some false) else ((laws_heldMatrix.f k x138000 x138001 x138002 x138003 1).bind fun t176 => (if t176 < 0 then (some false) else ((laws_heldInt64S.f k x9 t176).bind fun t177 => (if t177 < 0 then (some false) else (if t177 = x12 then (some true) else (some false))))))
end
def laws_FnExactReducedForm.f (k : Nat) (a0_0 : Int) (a0_1 : Int) (a0_2 : Int) (l0_3 : List Int) : Option (Bool) := (laws_szMatrix.f a0_0 a0_1 a0_2 l0_3 1048576).bind fun t102 => (if t102 < 0 then (some true) else ((laws_toMatrix.f k a0_0 a0_1 a0_2 l0_3).bind fun bt103 => ((spec_ReducedForm.f k bt103.1 bt103.2.1 bt103.2.2.1 bt103.2.2.2).bind fun bt109 => ((laws_toMatrix.f k a0_0 a0_1 a0_2 l0_3).bind fun bt120 => ((impl_ReducedForm.f k bt120.1 bt120.2.1 bt120.2.2.1 bt120.2.2.2).bind fun bt127 => ((laws_eqMatrix.f k bt127.1 bt127.2.1 bt127.2.2.1 bt127.2.2.2.1 bt109.1 bt109.2.1 bt109.2.2.1 bt109.2.2.2.1).bind fun t138 => (if t138 = true then ((laws_eqInt64S.f k bt127.2.2.2.2.1 bt109.2.2.2.2.1).bind fun t139 => (if t139 = true then (laws_FnExactReducedForm.j0 k bt109.2.2.2.2.1 bt109.2.2.2.2.2 bt127.2.2.2.2.1 bt127.2.2.2.2.2 (bt127.2.2.2.2.2 != bt109.2.2.2.2.2) a0_0 a0_1 a0_2 l0_3 bt109.1 bt109.2.1 bt109.2.2.1 bt109.2.2.2.1 bt120.1 bt120.2.1 bt120.2.2.1 bt120.2.2.2 bt127.1 bt127.2.1 bt127.2.2.1 bt127.2.2.2.1) else (laws_FnExactReducedForm.j0 k bt109.2.2.2.2.1 bt109.2.2.2.2.2 bt127.2.2.2.2.1 bt127.2.2.2.2.2 true a0_0 a0_1 a0_2 l0_3 bt109.1 bt109.2.1 bt109.2.2.1 bt109.2.2.2.1 bt120.1 bt120.2.1 bt120.2.2.1 bt120.2.2.2 bt127.1 bt127.2.1 bt127.2.2.1 bt127.2.2.2.1))) else (laws_FnExactReducedForm.j0 k bt109.2.2.2.2.1 bt109.2.2.2.2.2 bt127.2.2.2.2.1 bt127.2.2.2.2.2 true a0_0 a0_1 a0_2 l0_3 bt109.1 bt109.2.1 bt109.2.2.1 bt109.2.2.2.1 bt120.1 bt120.2.1 bt120.2.2.1 bt120.2.2.2 bt127.1 bt127.2.1 bt127.2.2.1 bt127.2.2.2.1))))))))
theorem laws_FnExactReducedForm.mono_l : ∀ k, (∀ y0 y1 y2 y3 y4 y5 y6 y7 y8 y9 y10 y11 y12 y13 y14 y15 y16 y17 y18 y19 y20, LeO (laws_FnExactReducedForm.j0 k y0 y1 y2 y3 y4 y5 y6 y7 y8 y9 y10 y11 y12 y13 y14 y15 y16 y17 y18 y19 y20) (laws_FnExactReducedForm.j0 (k + 1) y0 y1 y2 y3 y4 y5 y6 y7 y8 y9 y10 y11 y12 y13 y14 y15 y16 y17 y18 y19 y20)) ∧ (∀ y0 y1 y2 y3 y4 y5 y6 y7 y8 y9 y10 y11 y12 y13 y14 y15, LeO (laws_FnExactReducedForm.j1 k y0 y1 y2 y3 y4 y5 y6 y7 y8 y9 y10 y11 y12 y13 y14 y15) (laws_FnExactReducedForm.j1 (k + 1) y0 y1 y2 y3 y4 y5 y6 y7 y8 y9 y10 y11 y12 y13 y14 y15)) ∧ (∀ y0 y1 y2 y3 y4 y5 y6, LeO (laws_FnExactReducedForm.j2 k y0 y1 y2 y3 y4 y5 y6) (laws_FnExactReducedForm.j2 (k + 1) y0 y1 y2 y3 y4 y5 y6))
  | 0 => ⟨fun _ _ _ _ _ _ _ _ _ _ _ _ _ _ _ _ _ _ _ _ _ r h => by simp [laws_FnExactReducedForm.j0] at h, fun _ _ _ _ _ _ _ _ _ _ _ _ _ _ _ _ r h => by simp [laws_FnExactReducedForm.j1] at h, fun _ _ _ _ _ _ _ r h => by simp [laws_FnExactReducedForm.j2] at h⟩
  | k + 1 => by
    obtain ⟨ih0, ih1, ih2⟩ := laws_FnExactReducedForm.mono_l k
    refine ⟨?_, ?_, ?_⟩
    · intro y0 y1 y2 y3 y4 y5 y6 y7 y8 y9 y10 y11 y12 y13 y14 y15 y16 y17 y18 y19 y20
      unfold laws_FnExactReducedForm.j0
      repeat' first
      | (with_reducible exact ih0 _ _ _ _ _ _ _ _ _ _ _ _ _ _ _ _ _ _ _ _ _)
      | (with_reducible exact ih1 _ _ _ _ _ _ _ _ _ _ _ _ _ _ _ _)
      | (with_reducible exact ih2 _ _ _ _ _ _ _)
      | (with_reducible exact impl_ReducedForm.mono _ _ _ _ _)
      | (with_reducible exact laws_eqInt64S.mono _ _ _)
      | (with_reducible exact laws_eqMatrix.mono _ _ _ _ _ _ _ _ _)
      | (with_reducible exact laws_heldInt64S.mono _ _ _)
      | (with_reducible exact laws_heldMatrix.mono _ _ _ _ _ _)
      | (with_reducible exact laws_markInt64S.mono _ _ _)
      | (with_reducible exact laws_markMatrix.mono _ _ _ _ _ _)
      | (with_reducible exact laws_toMatrix.mono _ _ _ _ _)
      | (with_reducible exact spec_ReducedForm.mono _ _ _ _ _)
      | (with_reducible exact LeO.refl _)
      | (with_reducible exact LeO.none _)
      | (with_reducible refine LeO.ite ?_ ?_)
      | (with_reducible refine LeO.bind ?_ (fun _ => ?_))
      | exact ih0 _ _ _ _ _ _ _ _ _ _ _ _ _ _ _ _ _ _ _ _ _
      | exact ih1 _ _ _ _ _ _ _ _ _ _ _ _ _ _ _ _
      | exact ih2 _ _ _ _ _ _ _
      | exact impl_ReducedForm.mono _ _ _ _ _
      | exact laws_eqInt64S.mono _ _ _
      | exact laws_eqMatrix.mono _ _ _ _ _ _ _ _ _
      | exact laws_heldInt64S.mono _ _ _
      | exact laws_heldMatrix.mono _ _ _ _ _ _
      | exact laws_markInt64S.mono _ _ _
      | exact laws_markMatrix.mono _ _ _ _ _ _
      | exact laws_toMatrix.mono _ _ _ _ _
      | exact spec_ReducedForm.mono _ _ _ _ _
      | exact LeO.none _
      | refine LeO.ite ?_ ?_
      | refine LeO.bind ?_ (fun _ => ?_)
    · intro y0 y1 y2 y3 y4 y5 y6 y7 y8 y9 y10 y11 y12 y13 y14 y15
      unfold laws_FnExactReducedForm.j1
      repeat' first
      | (with_reducible exact ih0 _ _ _ _ _ _ _ _ _ _ _ _ _ _ _ _ _ _ _ _ _)
      | (with_reducible exact ih1 _ _ _ _ _ _ _ _ _ _ _ _ _ _ _ _)
      | (with_reducible exact ih2 _ _ _ _ _ _ _)
      | (with_reducible exact impl_ReducedForm.mono _ _ _ _ _)
      | (with_reducible exact laws_eqInt64S.mono _ _ _)
      | (with_reducible exact laws_eqMatrix.mono _ _ _ _ _ _ _ _ _)
      | (with_reducible exact laws_heldInt64S.mono _ _ _)
      | (with_reducible exact laws_heldMatrix.mono _ _ _ _ _ _)
      | (with_reducible exact laws_markInt64S.mono _ _ _)
      | (with_reducible exact laws_markMatrix.mono _ _ _ _ _ _)
      | (with_reducible exact laws_toMatrix.mono _ _ _ _ _)
      | (with_reducible exact spec_ReducedForm.mono _ _ _ _ _)
      | (with_reducible exact LeO.refl _)
      | (with_reducible exact LeO.none _)
      | (with_reducible refine LeO.ite ?_ ?_)
      | (with_reducible refine LeO.bind ?_ (fun _ => ?_))
      | exact ih0 _ _ _ _ _ _ _ _ _ _ _ _ _ _ _ _ _ _ _ _ _
      | exact ih1 _ _ _ _ _ _ _ _ _ _ _ _ _ _ _ _
      | exact ih2 _ _ _ _ _ _ _
      | exact impl_ReducedForm.mono _ _ _ _ _
      | exact laws_eqInt64S.mono _ _ _
      | exact laws_eqMatrix.mono _ _ _ _ _ _ _ _ _
      | exact laws_heldInt64S.mono _ _ _
      | exact laws_heldMatrix.mono _ _ _ _ _ _
      | exact laws_markInt64S.mono _ _ _
      | exact laws_markMatrix.mono _ _ _ _ _ _
      | exact laws_toMatrix.mono _ _ _ _ _
      | exact spec_ReducedForm.mono _ _ _ _ _
      | exact LeO.none _
      | refine LeO.ite ?_ ?_
      | refine LeO.bind ?_ (fun _ => ?_)
    · intro y0 y1 y2 y3 y4 y5 y6
      unfold laws_FnExactReducedForm.j2
      repeat' first
      | (with_reducible exact ih0 _ _ _ _ _ _ _ _ _ _ _ _ _ _ _ _ _ _ _ _ _)
      | (with_reducible exact ih1 _ _ _ _ _ _ _ _ _ _ _ _ _ _ _ _)
      | (with_reducible exact ih2 _ _ _ _ _ _ _)
      | (with_reducible exact impl_ReducedForm.mono _ _ _ _ _)
      | (with_reducible exact laws_eqInt64S.mono _ _ _)
      | (with_reducible exact laws_eqMatrix.mono _ _ _ _ _ _ _ _ _)
      | (with_reducible exact laws_heldInt64S.mono _ _ _)
      | (with_reducible exact laws_heldMatrix.mono _ _ _ _ _ _)
      | (with_reducible exact laws_markInt64S.mono _ _ _)
      | (with_reducible exact laws_markMatrix.mono _ _ _ _ _ _)
      | (with_reducible exact laws_toMatrix.mono _ _ _ _ _)
      | (with_reducible exact spec_ReducedForm.mono _ _ _ _ _)
      | (with_reducible exact LeO.refl _)
      | (with_reducible exact LeO.none _)
      | (with_reducible refine LeO.ite ?_ ?_)
      | (with_reducible refine LeO.bind ?_ (fun _ => ?_))
      | exact ih0 _ _ _ _ _ _ _ _ _ _ _ _ _ _ _ _ _ _ _ _ _
      | exact ih1 _ _ _ _ _ _ _ _ _ _ _ _ _ _ _ _
      | exact ih2 _ _ _ _ _ _ _
      | exact impl_ReducedForm.mono _ _ _ _ _
      | exact laws_eqInt64S.mono _ _ _
      | exact laws_eqMatrix.mono _ _ _ _ _ _ _ _ _
      | exact laws_heldInt64S.mono _ _ _
      | exact laws_heldMatrix.mono _ _ _ _ _ _
      | exact laws_markInt64S.mono _ _ _
      | exact laws_markMatrix.mono _ _ _ _ _ _
      | exact laws_toMatrix.mono _ _ _ _ _
      | exact spec_ReducedForm.mono _ _ _ _ _
      | exact LeO.none _
      | refine LeO.ite ?_ ?_
      | refine LeO.bind ?_ (fun _ => ?_)
theorem laws_FnExactReducedForm.mono : ∀ a0 a1 a2 a3 k, LeO (laws_FnExactReducedForm.f k a0 a1 a2 a3) (laws_FnExactReducedForm.f (k + 1) a0 a1 a2 a3) := by
  intro a0 a1 a2 a3 k
  obtain ⟨ih0, ih1, ih2⟩ := laws_FnExactReducedForm.mono_l k
  unfold laws_FnExactReducedForm.f
  repeat' first
      | (with_reducible exact ih0 _ _ _ _ _ _ _ _ _ _ _ _ _ _ _ _ _ _ _ _ _)
      | (with_reducible exact ih1 _ _ _ _ _ _ _ _ _ _ _ _ _ _ _ _)
      | (with_reducible exact ih2 _ _ _ _ _ _ _)
      | (with_reducible exact impl_ReducedForm.mono _ _ _ _ _)
      | (with_reducible exact laws_eqInt64S.mono _ _ _)
      | (with_reducible exact laws_eqMatrix.mono _ _ _ _ _ _ _ _ _)
      | (with_reducible exact laws_heldInt64S.mono _ _ _)
      | (with_reducible exact laws_heldMatrix.mono _ _ _ _ _ _)
      | (with_reducible exact laws_markInt64S.mono _ _ _)
      | (with_reducible exact laws_markMatrix.mono _ _ _ _ _ _)
      | (with_reducible exact laws_toMatrix.mono _ _ _ _ _)
      | (with_reducible exact spec_ReducedForm.mono _ _ _ _ _)
      | (with_reducible exact LeO.refl _)
      | (with_reducible exact LeO.none _)
      | (with_reducible refine LeO.ite ?_ ?_)
      | (with_reducible refine LeO.bind ?_ (fun _ => ?_))
      | exact ih0 _ _ _ _ _ _ _ _ _ _ _ _ _ _ _ _ _ _ _ _ _
      | exact ih1 _ _ _ _ _ _ _ _ _ _ _ _ _ _ _ _
      | exact ih2 _ _ _ _ _ _ _
      | exact impl_ReducedForm.mono _ _ _ _ _
      | exact laws_eqInt64S.mono _ _ _
      | exact laws_eqMatrix.mono _ _ _ _ _ _ _ _ _
      | exact laws_heldInt64S.mono _ _ _
      | exact laws_heldMatrix.mono _ _ _ _ _ _
      | exact laws_markInt64S.mono _ _ _
      | exact laws_markMatrix.mono _ _ _ _ _ _
      | exact laws_toMatrix.mono _ _ _ _ _
      | exact spec_ReducedForm.mono _ _ _ _ _
      | exact LeO.none _
      | refine LeO.ite ?_ ?_
      | refine LeO.bind ?_ (fun _ => ?_)
theorem Z7.bb {w0 w w1 : World} {g : Nat} {o : Obj} (_B : Aside0 (w0.heap[g]? = some o)) (h : w.heap[g]? = some o) (hb : Below w.heap.size w w1) : w1.heap[g]? = some o := blk_below h hb
theorem Z7.bl {w0 w : World} {g : Nat} {o : Obj} (_B : Aside0 (w0.heap[g]? = some o)) (h : w.heap[g]? = some o) : g < w.heap.size := blk_lt h
theorem Z7.k {p : Prop} (h : p) : Aside0 p := ⟨h⟩
theorem Z7.z94 {P : Prop} (h : P := by repeat (first | exact (Kd.R_reads' HO117.out).2.2 | (with_reducible refine Kd.C_alloc ?_ _) | (with_reducible refine Kd.C_drewN ?_ _) | (with_reducible refine Kd.C_drew ?_))) : P := h
theorem Z7.z93 {P : Prop} (h : P := by repeat (first | exact (Kd.R_reads' HO135.out).2.2 | (with_reducible refine Kd.C_alloc ?_ _) | (with_reducible refine Kd.C_drewN ?_ _) | (with_reducible refine Kd.C_drew ?_))) : P := h
theorem Z7.z92 {P : Prop} (h : P := by repeat (first | exact (Kd.R_reads' HO145.out).2.2 | (with_reducible refine Kd.C_alloc ?_ _) | (with_reducible refine Kd.C_drewN ?_ _) | (with_reducible refine Kd.C_drew ?_))) : P := h
theorem Z7.z91 {P : Prop} (h : P := by repeat (first | exact (Kd.R_reads' HO171.out).2.2 | (with_reducible refine Kd.C_alloc ?_ _) | (with_reducible refine Kd.C_drewN ?_ _) | (with_reducible refine Kd.C_drew ?_))) : P := h
theorem Z7.z90 {P : Prop} (h : P := by repeat (first | exact (Kd.R_reads' HO_127003.out).2.2 | (with_reducible refine Kd.C_alloc ?_ _) | (with_reducible refine Kd.C_drewN ?_ _) | (with_reducible refine Kd.C_drew ?_))) : P := h
theorem Z7.z89 {P : Prop} (h : P := by (with_reducible repeat (first | apply Kd.R_alloc | apply Kd.R_drewN | apply Kd.R_drew)); exact HO114.out) : P := h
theorem Z7.z88 {P : Prop} (h : P := by (with_reducible repeat (first | apply Kd.R_alloc | apply Kd.R_drewN | apply Kd.R_drew)); exact HO117.out) : P := h
theorem Z7.z87 {P : Prop} (h : P := by rw [show t154.length = t133.length from (Kd.R_reads' HO_9.out).1.symm]; exact (Kd.R_reads' HO_9.out).2.1) : P := h
theorem Z7.z86 {P : Prop} (h : P := by first | rfl | (simp; done) | (simp [*]; done)) : P := h
theorem Z7.z85 {P : Prop} (h : P := by (with_reducible repeat (first | apply Kd.R_alloc | apply Kd.R_drewN | apply Kd.R_drew)); exact HO162.out) : P := h
theorem Z7.z84 {P : Prop} (h : P := by (try simp only [hl127003_73]); (with_reducible repeat (first | refine blk_drewN ?_ _ | refine blk_drew ?_ | refine blk_alloc ?_ _)); exact BK101.out) : P := h
theorem Z7.z83 {P : Prop} (h : P := by (try simp only [hl127003_73]); (with_reducible repeat (first | refine blk_drewN ?_ _ | refine blk_drew ?_ | refine blk_alloc ?_ _)); exact BK119.out) : P := h
theorem Z7.z82 {P : Prop} (h : P := by (try simp only [hl127003_73]); (with_reducible repeat (first | refine blk_drewN ?_ _ | refine blk_drew ?_ | refine blk_alloc ?_ _)); exact BK126.out) : P := h
theorem Z7.z81 {P : Prop} (h : P := by (try simp only [hl127003_73]); (with_reducible repeat (first | refine blk_drewN ?_ _ | refine blk_drew ?_ | refine blk_alloc ?_ _)); exact BK137.out) : P := h
theorem Z7.z80 {P : Prop} (h : P := by (try simp only [hl127003_73]); (with_reducible repeat (first | refine blk_drewN ?_ _ | refine blk_drew ?_ | refine blk_alloc ?_ _)); exact BK173.out) : P := h
theorem Z7.z79 {P : Prop} (h : P := by (with_reducible repeat (first | apply Kd.R_alloc | apply Kd.R_drewN | apply Kd.R_drew)); exact HO_174003.out) : P := h
theorem Z7.z78 {P : Prop} (h : P := by rw [show t152.length = t130.length from (Kd.R_reads' HO_138003.out).1.symm]; exact (Kd.R_reads' HO_138003.out).2.1) : P := h
theorem Z7.z77 {P : Prop} (h : P := by (repeat (first | (with_reducible first | refine blk_drewN ?_ _ | refine blk_drew ?_ | refine blk_alloc ?_ _) | refine blk_far ?_ NB101_137.out _)); exact BK101.out) : P := h
theorem Z7.z76 {P : Prop} (h : P := by (repeat (first | (with_reducible first | refine blk_drewN ?_ _ | refine blk_drew ?_ | refine blk_alloc ?_ _) | refine blk_far ?_ NB101_173.out _)); exact BK101.out) : P := h
theorem Z7.z75 {P : Prop} (h : P := by (repeat (first | (with_reducible first | refine blk_drewN ?_ _ | refine blk_drew ?_ | refine blk_alloc ?_ _) | refine blk_far ?_ NB119_137.out _)); exact BK119.out) : P := h
theorem Z7.z74 {P : Prop} (h : P := by (repeat (first | (with_reducible first | refine blk_drewN ?_ _ | refine blk_drew ?_ | refine blk_alloc ?_ _) | refine blk_far ?_ NB119_173.out _)); exact BK119.out) : P := h
theorem Z7.z73 {P : Prop} (h : P := by (repeat (first | (with_reducible first | refine blk_drewN ?_ _ | refine blk_drew ?_ | refine blk_alloc ?_ _) | refine blk_far ?_ NB126_137.out _)); exact BK126.out) : P := h
theorem Z7.z72 {P : Prop} (h : P := by (repeat (first | (with_reducible first | refine blk_drewN ?_ _ | refine blk_drew ?_ | refine blk_alloc ?_ _) | refine blk_far ?_ NB126_173.out _)); exact BK126.out) : P := h
theorem Z7.z71 {P : Prop} (h : P := by (repeat (first | (with_reducible first | refine blk_drewN ?_ _ | refine blk_drew ?_ | refine blk_alloc ?_ _) | refine blk_far ?_ NB137_173.out _)); exact BK137.out) : P := h
theorem Z7.z70 {P : Prop} (h : P := by (with_reducible repeat (first | refine blk_drewN ?_ _ | refine blk_drew ?_ | refine blk_alloc ?_ _)); exact BK173.out) : P := h
theorem Z7.z69 {P : Prop} (h : P := by (with_reducible repeat (first | apply Kd.R_alloc | apply Kd.R_drewN | apply Kd.R_drew)); exact Kd.R_mono HO114.out (fun _ hk => ⟨hk.1.1.1.1, ⟨hk.2, ⟨hk.1.1.2, hk.1.2⟩⟩⟩)) : P := h
theorem Z7.z68 {P : Prop} (h : P := by (with_reducible repeat (first | apply Kd.R_alloc | apply Kd.R_drewN | apply Kd.R_drew)); exact Kd.R_mono HO117.out (fun _ hk => ⟨hk.2, ⟨hk.1.1.1.1, ⟨hk.1.1.2, hk.1.2⟩⟩⟩)) : P := h
theorem Z7.z67 {P : Prop} (h : P := by (with_reducible repeat (first | apply Kd.R_alloc | apply Kd.R_drewN | apply Kd.R_drew)); exact Kd.R_mono HO125.out (fun _ hk => ⟨hk.1.1.2, ⟨hk.2, ⟨hk.1.1.1.2, hk.1.2⟩⟩⟩)) : P := h
theorem Z7.z66 {P : Prop} (h : P := by (with_reducible repeat (first | apply Kd.R_alloc | apply Kd.R_drewN | apply Kd.R_drew)); exact Kd.R_mono HO132.out (fun _ hk => ⟨hk.1.2, ⟨hk.1.1.1.1, ⟨hk.1.1.2, hk.2⟩⟩⟩)) : P := h
theorem Z7.z65 {P : Prop} (h : P := by (with_reducible repeat (first | apply Kd.R_alloc | apply Kd.R_drewN | apply Kd.R_drew)); exact Kd.R_mono HO135.out (fun _ hk => ⟨hk.1.2, ⟨hk.1.1.2, ⟨hk.2, hk.1.1.1.1⟩⟩⟩)) : P := h
theorem Z7.z64 {P : Prop} (h : P := by repeat (first | exact (Kd.R_reads' HO_120003.out).2.2 | (with_reducible refine Kd.C_alloc ?_ _) | (with_reducible refine Kd.C_drewN ?_ _) | (with_reducible refine Kd.C_drew ?_))) : P := h
theorem Z7.z63 {P : Prop} (h : P := by (with_reducible repeat (first | apply Kd.R_alloc | apply Kd.R_drewN | apply Kd.R_drew)); exact HO145.out) : P := h
theorem Z7.z62 {P : Prop} (h : P := by (try simp only [hl127003_73]); (with_reducible repeat (first | apply Kd.R_alloc | apply Kd.R_drewN | apply Kd.R_drew)); exact Kd.R_mono HO168.out (fun _ hk => ⟨hk.1.1.1.1.2, ⟨hk.1.1.1.2, ⟨hk.1.1.2, hk.1.2⟩⟩⟩)) : P := h
theorem Z7.z61 {P : Prop} (h : P := by (try simp only [hl127003_73]); (with_reducible repeat (first | apply Kd.R_alloc | apply Kd.R_drewN | apply Kd.R_drew)); exact Kd.R_mono HO_9.out (fun _ hk => ⟨hk.1.1.1.2.1, ⟨hk.1.1.1.2.2.1, ⟨hk.1.1.1.2.2.2, hk.1.2⟩⟩⟩)) : P := h
theorem Z7.z60 {P : Prop} (h : P := by (try simp only [List.map_toArray, List.map_cons, List.map_nil]); first | done | (rw [show t154.length = t133.length from (Kd.R_reads' HO_9.out).1.symm] <;> rfl) | rfl | (simp only [List.length_drop, List.length_take]; rfl)) : P := h
theorem Z7.z59 {P : Prop} (h : P := by (try simp only [hl127003_73]); (with_reducible repeat (first | apply Kd.R_alloc | apply Kd.R_drewN | apply Kd.R_drew)); exact Kd.R_mono HO_120003.out (fun _ hk => ⟨hk.1.1.1.2.1, ⟨hk.1.1.1.2.2.1, ⟨hk.1.1.1.2.2.2, hk.1.2⟩⟩⟩)) : P := h
theorem Z7.z58 {P : Prop} (h : P := by (try simp only [hl127003_73]); (with_reducible repeat (first | apply Kd.R_alloc | apply Kd.R_drewN | apply Kd.R_drew)); exact Kd.R_mono HO_127003.out (fun _ hk => ⟨hk.1.1.1.2.1, ⟨hk.1.1.1.2.2.1, ⟨hk.1.1.1.2.2.2, hk.1.2⟩⟩⟩)) : P := h
theorem Z7.z57 {P : Prop} (h : P := by (try simp only [hl127003_73]); (with_reducible repeat (first | apply Kd.R_alloc | apply Kd.R_drewN | apply Kd.R_drew)); exact Kd.R_mono HO_138003.out (fun _ hk => ⟨hk.1.1.1.2.1, ⟨hk.1.1.1.2.2.1, ⟨hk.1.1.1.2.2.2, hk.1.2⟩⟩⟩)) : P := h
theorem Z7.z56 {P : Prop} (h : P := by (with_reducible repeat (first | apply Kd.R_alloc | apply Kd.R_drewN | apply Kd.R_drew)); exact HO108.out) : P := h
theorem Z7.z55 {P : Prop} (h : P := by simp only [Act.put, List.setIfInBounds_toArray, List.set_cons_zero, List.set_cons_succ, i64_w, i32_w]; rfl) : P := h
theorem Z7.z54 {P : Prop} (h : P := by (with_reducible repeat (first | apply Kd.R_alloc | apply Kd.R_drewN | apply Kd.R_drew)); exact Kd.R_mono HO_5.out (fun _ hk => ⟨hk.1, ⟨hk.2.1, ⟨hk.2.2.1, hk.2.2.2.1⟩⟩⟩)) : P := h
theorem Z7.z53 {P : Prop} (h : P := by (with_reducible repeat (first | apply Kd.R_alloc | apply Kd.R_drewN | apply Kd.R_drew)); exact Kd.R_mono HO_9.out (fun _ hk => ⟨hk.1, ⟨hk.2.1, ⟨hk.2.2.1, hk.2.2.2.1⟩⟩⟩)) : P := h
theorem Z7.z52 {P : Prop} (h : P := by (with_reducible repeat (first | apply Kd.R_alloc | apply Kd.R_drewN | apply Kd.R_drew)); exact (Kd.R_mono (Kd.R_far (p := ⟨gb119, 3, none⟩) (Kd.R_far (p := ⟨gb119, 2, none⟩) (Kd.R_far (p := ⟨gb119, 1, none⟩) (Kd.R_far (p := ⟨gb119, 0, none⟩) (Kd.R_types HO108.out BK119.out (by decide)) (fun _ hk => hk.2) (.int .i64 t109)) (fun _ hk => hk.2) (.int .i64 t110)) (fun _ hk => hk.2) (.int .i64 t111)) (fun _ hk => hk.2) (.slice Ao22 t112.length co22)) (fun _ h_ => h_.1))) : P := h
theorem Z7.z51 {P : Prop} (h : P := by (with_reducible repeat (first | apply Kd.R_alloc | apply Kd.R_drewN | apply Kd.R_drew)); exact (Kd.R_mono (Kd.R_far (p := ⟨gb119, 3, none⟩) (Kd.R_far (p := ⟨gb119, 2, none⟩) (Kd.R_far (p := ⟨gb119, 1, none⟩) (Kd.R_far (p := ⟨gb119, 0, none⟩) (Kd.R_types HO114.out BK119.out (by decide)) (fun _ hk => hk.2) (.int .i64 t109)) (fun _ hk => hk.2) (.int .i64 t110)) (fun _ hk => hk.2) (.int .i64 t111)) (fun _ hk => hk.2) (.slice Ao22 t112.length co22)) (fun _ h_ => h_.1))) : P := h
theorem Z7.z50 {P : Prop} (h : P := by (with_reducible repeat (first | apply Kd.R_alloc | apply Kd.R_drewN | apply Kd.R_drew)); exact (Kd.R_mono (Kd.R_far (p := ⟨gb119, 3, none⟩) (Kd.R_far (p := ⟨gb119, 2, none⟩) (Kd.R_far (p := ⟨gb119, 1, none⟩) (Kd.R_far (p := ⟨gb119, 0, none⟩) (Kd.R_types HO117.out BK119.out (by decide)) (fun _ hk => hk.2) (.int .i64 t109)) (fun _ hk => hk.2) (.int .i64 t110)) (fun _ hk => hk.2) (.int .i64 t111)) (fun _ hk => hk.2) (.slice Ao22 t112.length co22)) (fun _ h_ => h_.1))) : P := h
theorem Z7.z49 {P : Prop} (h : P := by repeat (first | exact (Kd.R_reads' HO_5.out).2.2 | (with_reducible refine Kd.C_alloc ?_ _) | (with_reducible refine Kd.C_drewN ?_ _) | (with_reducible refine Kd.C_drew ?_))) : P := h
theorem Z7.z48 {P : Prop} (h : P := by (with_reducible repeat (first | apply Kd.R_alloc | apply Kd.R_drewN | apply Kd.R_drew)); exact Kd.R_mono HO_120003.out (fun _ hk => ⟨hk.1, ⟨hk.2.1, ⟨hk.2.2.1, hk.2.2.2.1⟩⟩⟩)) : P := h
theorem Z7.z47 {P : Prop} (h : P := by (with_reducible repeat (first | apply Kd.R_alloc | apply Kd.R_drewN | apply Kd.R_drew)); exact Kd.R_mono HO_138003.out (fun _ hk => ⟨hk.1, ⟨hk.2.1, ⟨hk.2.2.1, hk.2.2.2.1⟩⟩⟩)) : P := h
theorem Z7.z46 {P : Prop} (h : P := by (with_reducible repeat (first | apply Kd.R_alloc | apply Kd.R_drewN | apply Kd.R_drew)); exact Kd.R_mono HO_127003.out (fun _ hk => ⟨hk.1.1, ⟨hk.1.2.1, ⟨hk.1.2.2.1, hk.1.2.2.2⟩⟩⟩)) : P := h
theorem Z7.z45 {P : Prop} (h : P := by repeat (first | (with_reducible first | exact HB.out | apply below_alloc | apply pw_below_drewN | apply below_drew1) | exact HB.out)) : P := h
theorem Z7.z44 {P : Prop} (h : P := by (try simp only [List.map_toArray, List.map_cons, List.map_nil]); first | done | (rw [show t152.length = t130.length from (Kd.R_reads' HO_138003.out).1.symm] <;> rfl) | rfl | (simp only [List.length_drop, List.length_take]; rfl)) : P := h
theorem Z7.z43 {P : Prop} (h : P := by refine (Kd.R_reads' (e := 2) (base := w.heap.size) (ok := fun k_ => ((((some k_ ≠ (v134 : Value).ownBlock ∧ some k_ ≠ (.slice Ao17 t106.length co17 : Value).ownBlock) ∧ some k_ ≠ (.slice Ao22 t112.length co22 : Value).ownBlock) ∧ some k_ ≠ (v116 : Value).ownBlock) ∧ some k_ ≠ (.slice Ao29 t123.length co29 : Value).ownBlock)) (n := t130.length) (c := co36) ?_).2.2; exact Z7.z9) : P := h
theorem Z7.z42 {P : Prop} (h : P := by refine (Kd.R_reads' (e := 2) (base := w.heap.size) (ok := fun k_ => ((((some k_ ≠ (v116 : Value).ownBlock ∧ some k_ ≠ (.slice Ao17 t106.length co17 : Value).ownBlock) ∧ some k_ ≠ (.slice Ao29 t123.length co29 : Value).ownBlock) ∧ some k_ ≠ (.slice Ao36 t130.length co36 : Value).ownBlock) ∧ some k_ ≠ (v134 : Value).ownBlock)) (n := t112.length) (c := co22) ?_).2.2; exact Z7.z10) : P := h
theorem Z7.z41 {P : Prop} (h : P := by repeat (first | exact (Kd.C_below HR0_3.out HB.out) | (with_reducible refine Kd.C_alloc ?_ _) | (with_reducible refine Kd.C_drewN ?_ _) | (with_reducible refine Kd.C_drew ?_))) : P := h
theorem Z7.z40 {P : Prop} (h : P := by first | rfl | (simp [errW_none, errW_some] <;> rfl) | (simp [*, errW_none, errW_some] <;> rfl)) : P := h
theorem Z7.z39 {P : Prop} (h : P := by repeat (first | (with_reducible first | exact HB.out | apply below_alloc | apply pw_below_drewN | apply below_drew1 | refine below_set ?_ GE101.out | refine below_set ?_ GE119.out) | exact HB.out)) : P := h
theorem Z7.z38 {P : Prop} (h : P := by (with_reducible repeat (first | apply Kd.R_alloc | apply Kd.R_drewN | apply Kd.R_drew)); exact (Kd.R_mono (Kd.R_far (p := ⟨gb126, 3, none⟩) (Kd.R_far (p := ⟨gb126, 2, none⟩) (Kd.R_far (p := ⟨gb126, 1, none⟩) (Kd.R_far (p := ⟨gb126, 0, none⟩) (Kd.R_types HO108.out BK126.out (by decide)) (fun _ hk => hk.2) (.int .i64 t120)) (fun _ hk => hk.2) (.int .i64 t121)) (fun _ hk => hk.2) (.int .i64 t122)) (fun _ hk => hk.2) (.slice Ao29 t123.length co29)) (fun _ h_ => h_.1))) : P := h
theorem Z7.z37 {P : Prop} (h : P := by (with_reducible repeat (first | apply Kd.R_alloc | apply Kd.R_drewN | apply Kd.R_drew)); exact (Kd.R_mono (Kd.R_far (p := ⟨gb126, 3, none⟩) (Kd.R_far (p := ⟨gb126, 2, none⟩) (Kd.R_far (p := ⟨gb126, 1, none⟩) (Kd.R_far (p := ⟨gb126, 0, none⟩) (Kd.R_types HO114.out BK126.out (by decide)) (fun _ hk => hk.2) (.int .i64 t120)) (fun _ hk => hk.2) (.int .i64 t121)) (fun _ hk => hk.2) (.int .i64 t122)) (fun _ hk => hk.2) (.slice Ao29 t123.length co29)) (fun _ h_ => h_.1))) : P := h
theorem Z7.z36 {P : Prop} (h : P := by (with_reducible repeat (first | apply Kd.R_alloc | apply Kd.R_drewN | apply Kd.R_drew)); exact (Kd.R_mono (Kd.R_far (p := ⟨gb126, 3, none⟩) (Kd.R_far (p := ⟨gb126, 2, none⟩) (Kd.R_far (p := ⟨gb126, 1, none⟩) (Kd.R_far (p := ⟨gb126, 0, none⟩) (Kd.R_types HO117.out BK126.out (by decide)) (fun _ hk => hk.2) (.int .i64 t120)) (fun _ hk => hk.2) (.int .i64 t121)) (fun _ hk => hk.2) (.int .i64 t122)) (fun _ hk => hk.2) (.slice Ao29 t123.length co29)) (fun _ h_ => h_.1))) : P := h
theorem Z7.z35 {P : Prop} (h : P := by (with_reducible repeat (first | apply Kd.R_alloc | apply Kd.R_drewN | apply Kd.R_drew)); exact (Kd.R_mono (Kd.R_far (p := ⟨gb137, 3, none⟩) (Kd.R_far (p := ⟨gb137, 2, none⟩) (Kd.R_far (p := ⟨gb137, 1, none⟩) (Kd.R_far (p := ⟨gb137, 0, none⟩) (Kd.R_types HO108.out BK137.out (by decide)) (fun _ hk => hk.2) (.int .i64 t127)) (fun _ hk => hk.2) (.int .i64 t128)) (fun _ hk => hk.2) (.int .i64 t129)) (fun _ hk => hk.2) (.slice Ao36 t130.length co36)) (fun _ h_ => h_.1))) : P := h
theorem Z7.z34 {P : Prop} (h : P := by (with_reducible repeat (first | apply Kd.R_alloc | apply Kd.R_drewN | apply Kd.R_drew)); exact (Kd.R_mono (Kd.R_far (p := ⟨gb137, 3, none⟩) (Kd.R_far (p := ⟨gb137, 2, none⟩) (Kd.R_far (p := ⟨gb137, 1, none⟩) (Kd.R_far (p := ⟨gb137, 0, none⟩) (Kd.R_types HO117.out BK137.out (by decide)) (fun _ hk => hk.2) (.int .i64 t127)) (fun _ hk => hk.2) (.int .i64 t128)) (fun _ hk => hk.2) (.int .i64 t129)) (fun _ hk => hk.2) (.slice Ao36 t130.length co36)) (fun _ h_ => h_.1))) : P := h
theorem Z7.z33 {P : Prop} (h : P := by (with_reducible repeat (first | apply Kd.R_alloc | apply Kd.R_drewN | apply Kd.R_drew)); exact (Kd.R_mono (Kd.R_far (p := ⟨gb137, 3, none⟩) (Kd.R_far (p := ⟨gb137, 2, none⟩) (Kd.R_far (p := ⟨gb137, 1, none⟩) (Kd.R_far (p := ⟨gb137, 0, none⟩) (Kd.R_types HO125.out BK137.out (by decide)) (fun _ hk => hk.2) (.int .i64 t127)) (fun _ hk => hk.2) (.int .i64 t128)) (fun _ hk => hk.2) (.int .i64 t129)) (fun _ hk => hk.2) (.slice Ao36 t130.length co36)) (fun _ h_ => h_.1))) : P := h
theorem Z7.z32 {P : Prop} (h : P := by (with_reducible repeat (first | apply Kd.R_alloc | apply Kd.R_drewN | apply Kd.R_drew)); exact (Kd.R_mono (Kd.R_far (p := ⟨gb137, 3, none⟩) (Kd.R_far (p := ⟨gb137, 2, none⟩) (Kd.R_far (p := ⟨gb137, 1, none⟩) (Kd.R_far (p := ⟨gb137, 0, none⟩) (Kd.R_types HO135.out BK137.out (by decide)) (fun _ hk => hk.2) (.int .i64 t127)) (fun _ hk => hk.2) (.int .i64 t128)) (fun _ hk => hk.2) (.int .i64 t129)) (fun _ hk => hk.2) (.slice Ao36 t130.length co36)) (fun _ h_ => h_.1))) : P := h
theorem Z7.z31 {P : Prop} (h : P := by (with_reducible repeat (first | apply Kd.R_alloc | apply Kd.R_drewN | apply Kd.R_drew)); exact (Kd.R_mono (Kd.R_far (p := ⟨gb173, 3, none⟩) (Kd.R_far (p := ⟨gb173, 2, none⟩) (Kd.R_far (p := ⟨gb173, 1, none⟩) (Kd.R_far (p := ⟨gb173, 0, none⟩) (Kd.R_types HO_5.out BK173.out (by decide)) (fun _ hk => hk.2) (.int .i64 t163)) (fun _ hk => hk.2) (.int .i64 t164)) (fun _ hk => hk.2) (.int .i64 t165)) (fun _ hk => hk.2) (.slice Ao167 t166.length co167)) (fun _ h_ => h_.1))) : P := h
theorem Z7.z30 {P : Prop} (h : P := by (with_reducible repeat (first | apply Kd.R_alloc | apply Kd.R_drewN | apply Kd.R_drew)); exact (Kd.R_mono (Kd.R_far (p := ⟨gb173, 3, none⟩) (Kd.R_far (p := ⟨gb173, 2, none⟩) (Kd.R_far (p := ⟨gb173, 1, none⟩) (Kd.R_far (p := ⟨gb173, 0, none⟩) (Kd.R_types HO_9.out BK173.out (by decide)) (fun _ hk => hk.2) (.int .i64 t163)) (fun _ hk => hk.2) (.int .i64 t164)) (fun _ hk => hk.2) (.int .i64 t165)) (fun _ hk => hk.2) (.slice Ao167 t166.length co167)) (fun _ h_ => h_.1))) : P := h
theorem Z7.z29 {P : Prop} (h : P := by (with_reducible repeat (first | apply Kd.R_alloc | apply Kd.R_drewN | apply Kd.R_drew)); exact (Kd.R_mono (Kd.R_far (p := ⟨gb173, 3, none⟩) (Kd.R_far (p := ⟨gb173, 2, none⟩) (Kd.R_far (p := ⟨gb173, 1, none⟩) (Kd.R_far (p := ⟨gb173, 0, none⟩) (Kd.R_types HO162.out BK173.out (by decide)) (fun _ hk => hk.2) (.int .i64 t163)) (fun _ hk => hk.2) (.int .i64 t164)) (fun _ hk => hk.2) (.int .i64 t165)) (fun _ hk => hk.2) (.slice Ao167 t166.length co167)) (fun _ h_ => h_.1))) : P := h
theorem Z7.z28 {P : Prop} (h : P := by (with_reducible repeat (first | apply Kd.R_alloc | apply Kd.R_drewN | apply Kd.R_drew)); exact (Kd.R_mono (Kd.R_far (p := ⟨gb173, 3, none⟩) (Kd.R_far (p := ⟨gb173, 2, none⟩) (Kd.R_far (p := ⟨gb173, 1, none⟩) (Kd.R_far (p := ⟨gb173, 0, none⟩) (Kd.R_types HO171.out BK173.out (by decide)) (fun _ hk => hk.2) (.int .i64 t163)) (fun _ hk => hk.2) (.int .i64 t164)) (fun _ hk => hk.2) (.int .i64 t165)) (fun _ hk => hk.2) (.slice Ao167 t166.length co167)) (fun _ h_ => h_.1))) : P := h
theorem Z7.z27 {P : Prop} (h : P := by (with_reducible repeat (first | apply Kd.R_alloc | apply Kd.R_drewN | apply Kd.R_drew)); exact (Kd.R_mono (Kd.R_far (p := ⟨gb173, 3, none⟩) (Kd.R_far (p := ⟨gb173, 2, none⟩) (Kd.R_far (p := ⟨gb173, 1, none⟩) (Kd.R_far (p := ⟨gb173, 0, none⟩) (Kd.R_types HO_127003.out BK173.out (by decide)) (fun _ hk => hk.2) (.int .i64 t163)) (fun _ hk => hk.2) (.int .i64 t164)) (fun _ hk => hk.2) (.int .i64 t165)) (fun _ hk => hk.2) (.slice Ao167 t166.length co167)) (fun _ h_ => h_.1))) : P := h
theorem Z7.z26 {P : Prop} (h : P := by (with_reducible repeat (first | apply Kd.R_alloc | apply Kd.R_drewN | apply Kd.R_drew)); exact (Kd.R_mono (Kd.R_far (p := ⟨gb173, 3, none⟩) (Kd.R_far (p := ⟨gb173, 2, none⟩) (Kd.R_far (p := ⟨gb173, 1, none⟩) (Kd.R_far (p := ⟨gb173, 0, none⟩) (Kd.R_types HO_138003.out BK173.out (by decide)) (fun _ hk => hk.2) (.int .i64 t163)) (fun _ hk => hk.2) (.int .i64 t164)) (fun _ hk => hk.2) (.int .i64 t165)) (fun _ hk => hk.2) (.slice Ao167 t166.length co167)) (fun _ h_ => h_.1))) : P := h
theorem Z7.z25 {P : Prop} (h : P := by refine (Kd.R_reads' (e := 2) (base := w.heap.size) (ok := fun k_ => ((((((some k_ ≠ (v170 : Value).ownBlock ∧ some k_ ≠ (v116 : Value).ownBlock) ∧ some k_ ≠ (.slice Ao151 t133.length co151 : Value).ownBlock) ∧ some k_ ≠ (.slice Ao22 t112.length co22 : Value).ownBlock) ∧ some k_ ≠ (.slice Ao29 t148.length co29 : Value).ownBlock) ∧ some k_ ≠ (.slice Ao36 t130.length co36 : Value).ownBlock) ∧ some k_ ≠ (.slice Ao159 t160.length co159 : Value).ownBlock)) (n := t166.length) (c := co167) ?_).2.2; exact Z7.z8) : P := h
theorem Z7.z24 {P : Prop} (h : P := by refine (Kd.R_reads' (e := 2) (base := w.heap.size) (ok := fun k_ => ((((some k_ ≠ (v116 : Value).ownBlock ∧ (some k_ ≠ (.slice Ao151 t133.length co151 : Value).ownBlock ∧ (some k_ ≠ (.slice Ao29 t148.length co29 : Value).ownBlock ∧ some k_ ≠ (.slice Ao36 t130.length co36 : Value).ownBlock))) ∧ some k_ ≠ (.slice Ao159 t160.length co159 : Value).ownBlock) ∧ some k_ ≠ (.slice Ao167 t166.length co167 : Value).ownBlock) ∧ some k_ ≠ (v170 : Value).ownBlock)) (n := t112.length) (c := co22) ?_).2.2; exact Z7.z7) : P := h
theorem Z7.z23 {P : Prop} (h : P := by repeat (first | (with_reducible first | exact HB.out | apply below_alloc | apply pw_below_drewN | apply below_drew1 | refine below_set ?_ GE101.out | refine below_set ?_ GE119.out | refine below_set ?_ GE126.out) | exact HB.out)) : P := h
theorem Z7.z22 {P : Prop} (h : P := by repeat (first | exact (Kd.R_reads' HO_9.out).2.2 | (with_reducible refine Kd.C_alloc ?_ _) | (with_reducible refine Kd.C_drewN ?_ _) | (with_reducible refine Kd.C_drew ?_))) : P := h
theorem Z7.z21 {P : Prop} (h : P := by exact ⟨(blk_cell BK126.out 0).trans rfl, (blk_cell BK126.out 1).trans rfl, (blk_cell BK126.out 2).trans rfl, (blk_cell BK126.out 3).trans rfl, (blk_cell BK101.out 0).trans rfl, (blk_cell BK101.out 1).trans rfl, (blk_cell BK101.out 2).trans rfl, (blk_cell BK101.out 3).trans rfl⟩) : P := h
theorem Z7.z20 {P : Prop} (h : P := by (with_reducible repeat (first | apply Kd.R_alloc | apply Kd.R_drewN | apply Kd.R_drew)); exact (Kd.R_mono (Kd.R_far (p := ⟨gb126, 3, none⟩) (Kd.R_far (p := ⟨gb126, 2, none⟩) (Kd.R_far (p := ⟨gb126, 1, none⟩) (Kd.R_far (p := ⟨gb126, 0, none⟩) (Kd.R_types HO125.out BK126.out (by decide)) (fun _ hk => hk.2) (.int .i64 t120)) (fun _ hk => hk.2) (.int .i64 t121)) (fun _ hk => hk.2) (.int .i64 t122)) (fun _ hk => hk.2) (.slice Ao29 t123.length co29)) (fun _ h_ => h_.1))) : P := h
theorem Z7.z19 {P : Prop} (h : P := by repeat (first | (with_reducible first | exact HB.out | apply below_alloc | apply pw_below_drewN | apply below_drew1 | refine below_set ?_ GE101.out) | exact HB.out)) : P := h
theorem Z7.z18 {P : Prop} (h : P := by (with_reducible repeat (first | apply Kd.R_alloc | apply Kd.R_drewN | apply Kd.R_drew)); exact HO_5.out) : P := h
theorem Z7.z17 {P : Prop} (h : P := by repeat (first | exact (Kd.R_reads' HO_138003.out).2.2 | (with_reducible refine Kd.C_alloc ?_ _) | (with_reducible refine Kd.C_drewN ?_ _) | (with_reducible refine Kd.C_drew ?_))) : P := h
theorem Z7.z16 {P : Prop} (h : P := by (with_reducible repeat (first | apply Kd.R_alloc | apply Kd.R_drewN | apply Kd.R_drew)); exact HO_9.out) : P := h
theorem Z7.z15 {P : Prop} (h : P := by (with_reducible repeat (first | refine blk_drewN ?_ _ | refine blk_drew ?_ | refine blk_alloc ?_ _)); refine blk_put (cs := #[.int .i64 t127, .int .i64 t128, .int .i64 t129, .slice none 0 0]) ?_ 3 _ rfl; (with_reducible repeat (first | refine blk_drewN ?_ _ | refine blk_drew ?_ | refine blk_alloc ?_ _)); refine blk_put (cs := #[.int .i64 t127, .int .i64 t128, .int .i64 0, .slice none 0 0]) ?_ 2 _ rfl; (with_reducible repeat (first | refine blk_drewN ?_ _ | refine blk_drew ?_ | refine blk_alloc ?_ _)); refine blk_put (cs := #[.int .i64 t127, .int .i64 0, .int .i64 0, .slice none 0 0]) ?_ 1 _ rfl; (with_reducible repeat (first | refine blk_drewN ?_ _ | refine blk_drew ?_ | refine blk_alloc ?_ _)); refine blk_put (cs := #[.int .i64 0, .int .i64 0, .int .i64 0, .slice none 0 0]) ?_ 0 _ rfl; (with_reducible repeat (first | refine blk_drewN ?_ _ | refine blk_drew ?_ | refine blk_alloc ?_ _)); exact BK137.out) : P := h
theorem Z7.z14 {P : Prop} (h : P := by (with_reducible repeat (first | refine blk_drewN ?_ _ | refine blk_drew ?_ | refine blk_alloc ?_ _)); refine blk_put (cs := #[.int .i64 t163, .int .i64 t164, .int .i64 t165, .slice none 0 0]) ?_ 3 _ rfl; (with_reducible repeat (first | refine blk_drewN ?_ _ | refine blk_drew ?_ | refine blk_alloc ?_ _)); refine blk_put (cs := #[.int .i64 t163, .int .i64 t164, .int .i64 0, .slice none 0 0]) ?_ 2 _ rfl; (with_reducible repeat (first | refine blk_drewN ?_ _ | refine blk_drew ?_ | refine blk_alloc ?_ _)); refine blk_put (cs := #[.int .i64 t163, .int .i64 0, .int .i64 0, .slice none 0 0]) ?_ 1 _ rfl; (with_reducible repeat (first | refine blk_drewN ?_ _ | refine blk_drew ?_ | refine blk_alloc ?_ _)); refine blk_put (cs := #[.int .i64 0, .int .i64 0, .int .i64 0, .slice none 0 0]) ?_ 0 _ rfl; (with_reducible repeat (first | refine blk_drewN ?_ _ | refine blk_drew ?_ | refine blk_alloc ?_ _)); exact BK173.out) : P := h
theorem Z7.z13 {P : Prop} (h : P := by (with_reducible repeat (first | apply Kd.R_alloc | apply Kd.R_drewN | apply Kd.R_drew)); exact HO_120003.out) : P := h
theorem Z7.z12 {P : Prop} (h : P := by (with_reducible repeat (first | apply Kd.R_alloc | apply Kd.R_drewN | apply Kd.R_drew)); exact HO_127003.out) : P := h
theorem Z7.z11 {P : Prop} (h : P := by (with_reducible repeat (first | apply Kd.R_alloc | apply Kd.R_drewN | apply Kd.R_drew)); exact HO_138003.out) : P := h
theorem Z7.z10 {P : Prop} (h : P := by (with_reducible repeat (first | apply Kd.R_alloc | apply Kd.R_drewN | apply Kd.R_drew)); exact (Kd.R_mono (Kd.R_far (p := ⟨gb137, 3, none⟩) (Kd.R_far (p := ⟨gb137, 2, none⟩) (Kd.R_far (p := ⟨gb137, 1, none⟩) (Kd.R_far (p := ⟨gb137, 0, none⟩) (Kd.R_types HO114.out BK137.out (by decide)) (fun _ hk => hk.2) (.int .i64 t127)) (fun _ hk => hk.2) (.int .i64 t128)) (fun _ hk => hk.2) (.int .i64 t129)) (fun _ hk => hk.2) (.slice Ao36 t130.length co36)) (fun _ h_ => h_.1))) : P := h
theorem Z7.z9 {P : Prop} (h : P := by (with_reducible repeat (first | apply Kd.R_alloc | apply Kd.R_drewN | apply Kd.R_drew)); exact (Kd.R_mono (Kd.R_far (p := ⟨gb137, 3, none⟩) (Kd.R_far (p := ⟨gb137, 2, none⟩) (Kd.R_far (p := ⟨gb137, 1, none⟩) (Kd.R_far (p := ⟨gb137, 0, none⟩) (Kd.R_types HO132.out BK137.out (by decide)) (fun _ hk => hk.2) (.int .i64 t127)) (fun _ hk => hk.2) (.int .i64 t128)) (fun _ hk => hk.2) (.int .i64 t129)) (fun _ hk => hk.2) (.slice Ao36 t130.length co36)) (fun _ h_ => h_.1))) : P := h
theorem Z7.z8 {P : Prop} (h : P := by (with_reducible repeat (first | apply Kd.R_alloc | apply Kd.R_drewN | apply Kd.R_drew)); exact (Kd.R_mono (Kd.R_far (p := ⟨gb173, 3, none⟩) (Kd.R_far (p := ⟨gb173, 2, none⟩) (Kd.R_far (p := ⟨gb173, 1, none⟩) (Kd.R_far (p := ⟨gb173, 0, none⟩) (Kd.R_types HO168.out BK173.out (by decide)) (fun _ hk => hk.2) (.int .i64 t163)) (fun _ hk => hk.2) (.int .i64 t164)) (fun _ hk => hk.2) (.int .i64 t165)) (fun _ hk => hk.2) (.slice Ao167 t166.length co167)) (fun _ h_ => h_.1))) : P := h
theorem Z7.z7 {P : Prop} (h : P := by (with_reducible repeat (first | apply Kd.R_alloc | apply Kd.R_drewN | apply Kd.R_drew)); exact (Kd.R_mono (Kd.R_far (p := ⟨gb173, 3, none⟩) (Kd.R_far (p := ⟨gb173, 2, none⟩) (Kd.R_far (p := ⟨gb173, 1, none⟩) (Kd.R_far (p := ⟨gb173, 0, none⟩) (Kd.R_types HO_120003.out BK173.out (by decide)) (fun _ hk => hk.2) (.int .i64 t163)) (fun _ hk => hk.2) (.int .i64 t164)) (fun _ hk => hk.2) (.int .i64 t165)) (fun _ hk => hk.2) (.slice Ao167 t166.length co167)) (fun _ h_ => h_.1))) : P := h
theorem Z7.z6 {P : Prop} (h : P := by (with_reducible repeat (first | refine blk_drewN ?_ _ | refine blk_drew ?_ | refine blk_alloc ?_ _)); exact BK137.out) : P := h
theorem Z7.z5 {P : Prop} (h : P := by (with_reducible repeat (first | refine blk_drewN ?_ _ | refine blk_drew ?_ | refine blk_alloc ?_ _)); exact BK126.out) : P := h
theorem Z7.z4 {P : Prop} (h : P := by repeat (first | (with_reducible first | exact HB.out | apply below_alloc | apply pw_below_drewN | apply below_drew1 | refine below_set ?_ GE101.out | refine below_set ?_ GE119.out | refine below_set ?_ GE126.out | refine below_set ?_ GE137.out | refine below_set ?_ GE173.out) | exact HB.out)) : P := h
theorem Z7.z3 {P : Prop} (h : P := by (try simp only [List.map_toArray, List.map_cons, List.map_nil]); first | done | rfl | (simp only [List.length_drop, List.length_take]; rfl)) : P := h
theorem Z7.z2 {P : Prop} (h : P := by (with_reducible repeat (first | refine blk_drewN ?_ _ | refine blk_drew ?_ | refine blk_alloc ?_ _)); exact BK119.out) : P := h
theorem Z7.z1 {P : Prop} (h : P := by (with_reducible repeat (first | refine blk_drewN ?_ _ | refine blk_drew ?_ | refine blk_alloc ?_ _)); exact BK101.out) : P := h
theorem Z7.z0 {P : Prop} (h : P := by repeat (first | (with_reducible first | exact HB.out | apply below_alloc | apply pw_below_drewN | apply below_drew1 | refine below_set ?_ GE101.out | refine below_set ?_ GE119.out | refine below_set ?_ GE126.out | refine below_set ?_ GE137.out) | exact HB.out)) : P := h
set_option maxHeartbeats 8000000 in
set_option maxRecDepth 100000 in
theorem laws_FnExactReducedForm.calls (k : Nat) (a0_0 : Int) (a0_1 : Int) (a0_2 : Int) (A0_3 : Option Addr) (c0_3 : Nat) (l0_3 : List Int) (r : Bool) (w : World) (hr0_3 : Kd.C (Kd.int .i64) w A0_3 l0_3.length l0_3) (hc0_3 : l0_3.length ≤ c0_3) (h : laws_FnExactReducedForm.f k a0_0 a0_1 a0_2 l0_3 = some r) :
  Calls Try.prog 7 #[.agg #[.int .i64 a0_0, .int .i64 a0_1, .int .i64 a0_2, .slice A0_3 l0_3.length c0_3]] w fun e w' => e = .returned (.bool r) ∧ Below w.heap.size w w' := by
 have hu24 := Try.underlying24
 have hu28 := Try.underlying28
 have HR0_3 := Z7.k hr0_3
 have HC0_3 := Z7.k hc0_3
 clear hr0_3 hc0_3
 have HB := Z7.k (Below.refl w.heap.size w)
 have H : ((laws_szMatrix.f a0_0 a0_1 a0_2 l0_3 1048576).bind fun t102 => (if t102 < 0 then (some true) else ((laws_toMatrix.f k a0_0 a0_1 a0_2 l0_3).bind fun bt103 => ((spec_ReducedForm.f k bt103.1 bt103.2.1 bt103.2.2.1 bt103.2.2.2).bind fun bt109 => ((laws_toMatrix.f k a0_0 a0_1 a0_2 l0_3).bind fun bt120 => ((impl_ReducedForm.f k bt120.1 bt120.2.1 bt120.2.2.1 bt120.2.2.2).bind fun bt127 => ((laws_eqMatrix.f k bt127.1 bt127.2.1 bt127.2.2.1 bt127.2.2.2.1 bt109.1 bt109.2.1 bt109.2.2.1 bt109.2.2.2.1).bind fun t138 => (if t138 = true then ((laws_eqInt64S.f k bt127.2.2.2.2.1 bt109.2.2.2.2.1).bind fun t139 => (if t139 = true then (laws_FnExactReducedForm.j0 k bt109.2.2.2.2.1 bt109.2.2.2.2.2 bt127.2.2.2.2.1 bt127.2.2.2.2.2 (bt127.2.2.2.2.2 != bt109.2.2.2.2.2) a0_0 a0_1 a0_2 l0_3 bt109.1 bt109.2.1 bt109.2.2.1 bt109.2.2.2.1 bt120.1 bt120.2.1 bt120.2.2.1 bt120.2.2.2 bt127.1 bt127.2.1 bt127.2.2.1 bt127.2.2.2.1) else (laws_FnExactReducedForm.j0 k bt109.2.2.2.2.1 bt109.2.2.2.2.2 bt127.2.2.2.2.1 bt127.2.2.2.2.2 true a0_0 a0_1 a0_2 l0_3 bt109.1 bt109.2.1 bt109.2.2.1 bt109.2.2.2.1 bt120.1 bt120.2.1 bt120.2.2.1 bt120.2.2.2 bt127.1 bt127.2.1 bt127.2.2.1 bt127.2.2.2.1))) else (laws_FnExactReducedForm.j0 k bt109.2.2.2.2.1 bt109.2.2.2.2.2 bt127.2.2.2.2.1 bt127.2.2.2.2.2 true a0_0 a0_1 a0_2 l0_3 bt109.1 bt109.2.1 bt109.2.2.1 bt109.2.2.2.1 bt120.1 bt120.2.1 bt120.2.2.1 bt120.2.2.2 bt127.1 bt127.2.1 bt127.2.2.1 bt127.2.2.2.1))))))))) = some r := h
 clear h
 replace H := Option.bind_eq_some_iff.mp H
 obtain ⟨t102, A20, H⟩ := H
 replace H : (if t102 < 0 then (some true) else ((laws_toMatrix.f k a0_0 a0_1 a0_2 l0_3).bind fun bt103 => ((spec_ReducedForm.f k bt103.1 bt103.2.1 bt103.2.2.1 bt103.2.2.2).bind fun bt109 => ((laws_toMatrix.f k a0_0 a0_1 a0_2 l0_3).bind fun bt120 => ((impl_ReducedForm.f k bt120.1 bt120.2.1 bt120.2.2.1 bt120.2.2.2).bind fun bt127 => ((laws_eqMatrix.f k bt127.1 bt127.2.1 bt127.2.2.1 bt127.2.2.2.1 bt109.1 bt109.2.1 bt109.2.2.1 bt109.2.2.2.1).bind fun t138 => (if t138 = true then ((laws_eqInt64S.f k bt127.2.2.2.2.1 bt109.2.2.2.2.1).bind fun t139 => (if t139 = true then (laws_FnExactReducedForm.j0 k bt109.2.2.2.2.1 bt109.2.2.2.2.2 bt127.2.2.2.2.1 bt127.2.2.2.2.2 (bt127.2.2.2.2.2 != bt109.2.2.2.2.2) a0_0 a0_1 a0_2 l0_3 bt109.1 bt109.2.1 bt109.2.2.1 bt109.2.2.2.1 bt120.1 bt120.2.1 bt120.2.2.1 bt120.2.2.2 bt127.1 bt127.2.1 bt127.2.2.1 bt127.2.2.2.1) else (laws_FnExactReducedForm.j0 k bt109.2.2.2.2.1 bt109.2.2.2.2.2 bt127.2.2.2.2.1 bt127.2.2.2.2.2 true a0_0 a0_1 a0_2 l0_3 bt109.1 bt109.2.1 bt109.2.2.1 bt109.2.2.2.1 bt120.1 bt120.2.1 bt120.2.2.1 bt120.2.2.2 bt127.1 bt127.2.1 bt127.2.2.1 bt127.2.2.2.1))) else (laws_FnExactReducedForm.j0 k bt109.2.2.2.2.1 bt109.2.2.2.2.2 bt127.2.2.2.2.1 bt127.2.2.2.2.2 true a0_0 a0_1 a0_2 l0_3 bt109.1 bt109.2.1 bt109.2.2.1 bt109.2.2.2.1 bt120.1 bt120.2.1 bt120.2.2.1 bt120.2.2.2 bt127.1 bt127.2.1 bt127.2.2.1 bt127.2.2.2.1)))))))) = some r := H
 have A2 := Z7.k A20
 clear A20
 by_cases c3 : t102 < 0
 ·rw [if_pos c3] at H
  have c3b0 : decide (t102 < 0) = true := decide_eq_true c3
  clear c3
  obtain rfl := Option.some.inj H
  go_enter Try.func7, Try.ntmps7
  go_wp2_with (first | ((with_reducible refine gate_dst (N := 1) rfl ?_); refine box_event ?hg (N := 1) ?hd (cs := #[.int .i64 a0_0, .int .i64 a0_1, .int .i64 a0_2, .slice A0_3 l0_3.length c0_3]) (t := 24) ?hr ?_; (case hd => rfl); (case hg => rfl); (case hr => first | (go_simp; done) | (go_simp; rfl)); intro gb101 hg w4 hbox hb; have n0_ := Z7.k (below_step Z7.z45 hb); have n1_ := Z7.k (hbox); have n2_ := Z7.k (show w.heap.size ≤ gb101 from (by rw [hg]; exact (below_size Z7.z45))); have n3_ := Z7.k (show w.heap.size ≤ gb101 from (by rw [hg]; exact (below_size Z7.z45))); clear HB; have HB := n0_; have BK101 := n1_; have GW101 := n2_; have GE101 := n3_; clear n0_ n1_ n2_ n3_; clear hb hbox hg; have hcz5_0 : w4.cell? ⟨gb101, 0, none⟩ = some (.int .i64 a0_0) := (blk_cell BK101.out 0).trans rfl; have hcz5_1 : w4.cell? ⟨gb101, 1, none⟩ = some (.int .i64 a0_1) := (blk_cell BK101.out 1).trans rfl; have hcz5_2 : w4.cell? ⟨gb101, 2, none⟩ = some (.int .i64 a0_2) := (blk_cell BK101.out 2).trans rfl; have hcz5_3 : w4.cell? ⟨gb101, 3, none⟩ = some (.slice A0_3 l0_3.length c0_3) := (blk_cell BK101.out 3).trans rfl; have hfz5_0 := blk_frozen BK101.out 0; have hfz5_1 := blk_frozen BK101.out 1; have hfz5_2 := blk_frozen BK101.out 2; have hfz5_3 := blk_frozen BK101.out 3) | ((with_reducible refine gate_callee (f := 8) rfl ?_); refine goesL_ (some 19) rfl rfl Try.func8 (by kernel_rfl) rfl #[.agg #[.int .i64 a0_0, .int .i64 a0_1, .int .i64 a0_2, .slice A0_3 l0_3.length c0_3], .int .i64 1048576] rfl Z7.z3 ?_; (with_reducible refine (laws_szMatrix.calls a0_0 a0_1 a0_2 _ _ l0_3 1048576 t102 _ ?side1 ?side2 A2.out).mono ?_); (case side1 => exact Z7.z41); (case side2 => exact HC0_3.out); rintro e w6 ⟨rfl, hb⟩; refine ⟨_, rfl, ?_⟩; have n0_ := Z7.k (Z7.bb BK101 Z7.z1 hb); have n1_ := Z7.k (below_step Z7.z19 hb); clear BK101 HB; have BK101 := n0_; have HB := n1_; clear n0_ n1_; (try clear hb); (try clear hb2); (try clear hk); (try clear hi)))
  go_ret
  exact ⟨Z7.z40, Z7.z19⟩
 rw [if_neg c3] at H
 have c3b0 : decide (t102 < 0) = false := decide_eq_false c3
 clear c3
 replace H := Option.bind_eq_some_iff.mp H
 obtain ⟨⟨t103, t104, t105, t106⟩, A70, H⟩ := H
 replace H : ((spec_ReducedForm.f k t103 t104 t105 t106).bind fun bt109 => ((laws_toMatrix.f k a0_0 a0_1 a0_2 l0_3).bind fun bt120 => ((impl_ReducedForm.f k bt120.1 bt120.2.1 bt120.2.2.1 bt120.2.2.2).bind fun bt127 => ((laws_eqMatrix.f k bt127.1 bt127.2.1 bt127.2.2.1 bt127.2.2.2.1 bt109.1 bt109.2.1 bt109.2.2.1 bt109.2.2.2.1).bind fun t138 => (if t138 = true then ((laws_eqInt64S.f k bt127.2.2.2.2.1 bt109.2.2.2.2.1).bind fun t139 => (if t139 = true then (laws_FnExactReducedForm.j0 k bt109.2.2.2.2.1 bt109.2.2.2.2.2 bt127.2.2.2.2.1 bt127.2.2.2.2.2 (bt127.2.2.2.2.2 != bt109.2.2.2.2.2) a0_0 a0_1 a0_2 l0_3 bt109.1 bt109.2.1 bt109.2.2.1 bt109.2.2.2.1 bt120.1 bt120.2.1 bt120.2.2.1 bt120.2.2.2 bt127.1 bt127.2.1 bt127.2.2.1 bt127.2.2.2.1) else (laws_FnExactReducedForm.j0 k bt109.2.2.2.2.1 bt109.2.2.2.2.2 bt127.2.2.2.2.1 bt127.2.2.2.2.2 true a0_0 a0_1 a0_2 l0_3 bt109.1 bt109.2.1 bt109.2.2.1 bt109.2.2.2.1 bt120.1 bt120.2.1 bt120.2.2.1 bt120.2.2.2 bt127.1 bt127.2.1 bt127.2.2.1 bt127.2.2.2.1))) else (laws_FnExactReducedForm.j0 k bt109.2.2.2.2.1 bt109.2.2.2.2.2 bt127.2.2.2.2.1 bt127.2.2.2.2.2 true a0_0 a0_1 a0_2 l0_3 bt109.1 bt109.2.1 bt109.2.2.1 bt109.2.2.2.1 bt120.1 bt120.2.1 bt120.2.2.1 bt120.2.2.2 bt127.1 bt127.2.1 bt127.2.2.1 bt127.2.2.2.1)))))) = some r := H
 have A7 := Z7.k A70
 clear A70
 replace H := Option.bind_eq_some_iff.mp H
 obtain ⟨⟨t109, t110, t111, t112, t115, t118⟩, A80, H⟩ := H
 replace H : ((laws_toMatrix.f k a0_0 a0_1 a0_2 l0_3).bind fun bt120 => ((impl_ReducedForm.f k bt120.1 bt120.2.1 bt120.2.2.1 bt120.2.2.2).bind fun bt127 => ((laws_eqMatrix.f k bt127.1 bt127.2.1 bt127.2.2.1 bt127.2.2.2.1 t109 t110 t111 t112).bind fun t138 => (if t138 = true then ((laws_eqInt64S.f k bt127.2.2.2.2.1 t115).bind fun t139 => (if t139 = true then (laws_FnExactReducedForm.j0 k t115 t118 bt127.2.2.2.2.1 bt127.2.2.2.2.2 (bt127.2.2.2.2.2 != t118) a0_0 a0_1 a0_2 l0_3 t109 t110 t111 t112 bt120.1 bt120.2.1 bt120.2.2.1 bt120.2.2.2 bt127.1 bt127.2.1 bt127.2.2.1 bt127.2.2.2.1) else (laws_FnExactReducedForm.j0 k t115 t118 bt127.2.2.2.2.1 bt127.2.2.2.2.2 true a0_0 a0_1 a0_2 l0_3 t109 t110 t111 t112 bt120.1 bt120.2.1 bt120.2.2.1 bt120.2.2.2 bt127.1 bt127.2.1 bt127.2.2.1 bt127.2.2.2.1))) else (laws_FnExactReducedForm.j0 k t115 t118 bt127.2.2.2.2.1 bt127.2.2.2.2.2 true a0_0 a0_1 a0_2 l0_3 t109 t110 t111 t112 bt120.1 bt120.2.1 bt120.2.2.1 bt120.2.2.2 bt127.1 bt127.2.1 bt127.2.2.1 bt127.2.2.2.1))))) = some r := H
 have A8 := Z7.k A80
 clear A80
 replace H := Option.bind_eq_some_iff.mp H
 obtain ⟨⟨t120, t121, t122, t123⟩, A90, H⟩ := H
 replace H : ((impl_ReducedForm.f k t120 t121 t122 t123).bind fun bt127 => ((laws_eqMatrix.f k bt127.1 bt127.2.1 bt127.2.2.1 bt127.2.2.2.1 t109 t110 t111 t112).bind fun t138 => (if t138 = true then ((laws_eqInt64S.f k bt127.2.2.2.2.1 t115).bind fun t139 => (if t139 = true then (laws_FnExactReducedForm.j0 k t115 t118 bt127.2.2.2.2.1 bt127.2.2.2.2.2 (bt127.2.2.2.2.2 != t118) a0_0 a0_1 a0_2 l0_3 t109 t110 t111 t112 t120 t121 t122 t123 bt127.1 bt127.2.1 bt127.2.2.1 bt127.2.2.2.1) else (laws_FnExactReducedForm.j0 k t115 t118 bt127.2.2.2.2.1 bt127.2.2.2.2.2 true a0_0 a0_1 a0_2 l0_3 t109 t110 t111 t112 t120 t121 t122 t123 bt127.1 bt127.2.1 bt127.2.2.1 bt127.2.2.2.1))) else (laws_FnExactReducedForm.j0 k t115 t118 bt127.2.2.2.2.1 bt127.2.2.2.2.2 true a0_0 a0_1 a0_2 l0_3 t109 t110 t111 t112 t120 t121 t122 t123 bt127.1 bt127.2.1 bt127.2.2.1 bt127.2.2.2.1)))) = some r := H
 have A9 := Z7.k A90
 clear A90
 replace H := Option.bind_eq_some_iff.mp H
 obtain ⟨⟨t127, t128, t129, t130, t133, t136⟩, A100, H⟩ := H
 replace H : ((laws_eqMatrix.f k t127 t128 t129 t130 t109 t110 t111 t112).bind fun t138 => (if t138 = true then ((laws_eqInt64S.f k t133 t115).bind fun t139 => (if t139 = true then (laws_FnExactReducedForm.j0 k t115 t118 t133 t136 (t136 != t118) a0_0 a0_1 a0_2 l0_3 t109 t110 t111 t112 t120 t121 t122 t123 t127 t128 t129 t130) else (laws_FnExactReducedForm.j0 k t115 t118 t133 t136 true a0_0 a0_1 a0_2 l0_3 t109 t110 t111 t112 t120 t121 t122 t123 t127 t128 t129 t130))) else (laws_FnExactReducedForm.j0 k t115 t118 t133 t136 true a0_0 a0_1 a0_2 l0_3 t109 t110 t111 t112 t120 t121 t122 t123 t127 t128 t129 t130))) = some r := H
 have A10 := Z7.k A100
 clear A100
 have HC11 := Z7.k H
 clear H
 go_enter Try.func7, Try.ntmps7
 go_upto_region 8 with (first | ((with_reducible refine gate_dst (N := 1) rfl ?_); refine box_event ?hg (N := 1) ?hd (cs := #[.int .i64 a0_0, .int .i64 a0_1, .int .i64 a0_2, .slice A0_3 l0_3.length c0_3]) (t := 24) ?hr ?_; (case hd => rfl); (case hg => rfl); (case hr => first | (go_simp; done) | (go_simp; rfl)); intro gb101 hg w12 hbox hb; have n0_ := Z7.k (below_step Z7.z45 hb); have n1_ := Z7.k (hbox); have n2_ := Z7.k (show w.heap.size ≤ gb101 from (by rw [hg]; exact (below_size Z7.z45))); have n3_ := Z7.k (show w.heap.size ≤ gb101 from (by rw [hg]; exact (below_size Z7.z45))); clear HB; have HB := n0_; have BK101 := n1_; have GW101 := n2_; have GE101 := n3_; clear n0_ n1_ n2_ n3_; clear hb hbox hg; have hcz13_0 : w12.cell? ⟨gb101, 0, none⟩ = some (.int .i64 a0_0) := (blk_cell BK101.out 0).trans rfl; have hcz13_1 : w12.cell? ⟨gb101, 1, none⟩ = some (.int .i64 a0_1) := (blk_cell BK101.out 1).trans rfl; have hcz13_2 : w12.cell? ⟨gb101, 2, none⟩ = some (.int .i64 a0_2) := (blk_cell BK101.out 2).trans rfl; have hcz13_3 : w12.cell? ⟨gb101, 3, none⟩ = some (.slice A0_3 l0_3.length c0_3) := (blk_cell BK101.out 3).trans rfl; have hfz13_0 := blk_frozen BK101.out 0; have hfz13_1 := blk_frozen BK101.out 1; have hfz13_2 := blk_frozen BK101.out 2; have hfz13_3 := blk_frozen BK101.out 3) | ((with_reducible refine gate_callee (f := 8) rfl ?_); refine goesL_ (some 19) rfl rfl Try.func8 (by kernel_rfl) rfl #[.agg #[.int .i64 a0_0, .int .i64 a0_1, .int .i64 a0_2, .slice A0_3 l0_3.length c0_3], .int .i64 1048576] rfl Z7.z3 ?_; (with_reducible refine (laws_szMatrix.calls a0_0 a0_1 a0_2 _ _ l0_3 1048576 t102 _ ?side1 ?side2 A2.out).mono ?_); (case side1 => exact Z7.z41); (case side2 => exact HC0_3.out); rintro e w14 ⟨rfl, hb⟩; refine ⟨_, rfl, ?_⟩; have n0_ := Z7.k (Z7.bb BK101 Z7.z1 hb); have n1_ := Z7.k (below_step Z7.z19 hb); clear BK101 HB; have BK101 := n0_; have HB := n1_; clear n0_ n1_; (try clear hb); (try clear hb2); (try clear hk); (try clear hi); have hcz15_0 : w14.cell? ⟨gb101, 0, none⟩ = some (.int .i64 a0_0) := (blk_cell BK101.out 0).trans rfl; have hcz15_1 : w14.cell? ⟨gb101, 1, none⟩ = some (.int .i64 a0_1) := (blk_cell BK101.out 1).trans rfl; have hcz15_2 : w14.cell? ⟨gb101, 2, none⟩ = some (.int .i64 a0_2) := (blk_cell BK101.out 2).trans rfl; have hcz15_3 : w14.cell? ⟨gb101, 3, none⟩ = some (.slice A0_3 l0_3.length c0_3) := (blk_cell BK101.out 3).trans rfl; have hfz15_0 := blk_frozen BK101.out 0; have hfz15_1 := blk_frozen BK101.out 1; have hfz15_2 := blk_frozen BK101.out 2; have hfz15_3 := blk_frozen BK101.out 3) | ((with_reducible refine gate_callee (f := 10) rfl ?_); refine goesL_ (some 24) rfl rfl Try.func10 (by kernel_rfl) rfl #[.agg #[.int .i64 a0_0, .int .i64 a0_1, .int .i64 a0_2, .slice A0_3 l0_3.length c0_3]] rfl Z7.z3 ?_; (with_reducible refine (laws_toMatrix.calls k a0_0 a0_1 a0_2 _ _ l0_3 t103 t104 t105 t106 _ ?side1 ?side2 A7.out).mono ?_); (case side1 => exact Z7.z41); (case side2 => exact HC0_3.out); rintro e w16 ⟨v107, rfl, ho0, hb⟩; refine ⟨_, rfl, ?_⟩; have n0_ := Z7.k (Kd.R_lower ho0 (below_size Z7.z19)); have n1_ := Z7.k (Z7.bb BK101 Z7.z1 hb); have n2_ := Z7.k (below_step Z7.z19 hb); clear BK101 HB; have HO108 := n0_; have BK101 := n1_; have HB := n2_; clear n0_ n1_ n2_; (try clear hb); (try clear hb2); (try clear hk); (try clear hi); (try clear ho0); obtain ⟨Ao17, co17, eo17⟩ := Kd.R_slice HO108.out; subst eo17) | ((with_reducible refine gate_callee (f := 21) rfl ?_); refine goesL_ (some 25) rfl rfl Try.func21 (by kernel_rfl) rfl #[.agg #[.int .i64 t103, .int .i64 t104, .int .i64 t105, .slice Ao17 t106.length co17]] rfl Z7.z3 ?_; (with_reducible refine (spec_ReducedForm.calls k t103 t104 t105 _ _ t106 t109 t110 t111 t112 t115 t118 _ ?side1 ?side2 A8.out).mono ?_); (case side1 => exact (by repeat (first | exact (Kd.R_reads' HO108.out).2.2 | (with_reducible refine Kd.C_alloc ?_ _) | (with_reducible refine Kd.C_drewN ?_ _) | (with_reducible refine Kd.C_drew ?_)))); (case side2 => exact (Kd.R_reads' HO108.out).2.1); rintro e w18 ⟨v113, v116, rfl, ho0, ho1, hb⟩; refine ⟨_, rfl, ?_⟩; have n0_ := Z7.k (Kd.R_mono (Kd.R_told (Kd.R_told (Kd.R_old Z7.z56 hb) (Kd.R_base ho0)) (Kd.R_base ho1)) (fun _ h_ => h_.1)); have n1_ := Z7.k (Kd.R_lower (Kd.R_new' ho0 (Kd.R_lt Z7.z56)) (below_size Z7.z19)); have n2_ := Z7.k (Kd.R_lower (Kd.R_new' ho1 (Kd.R_lt Z7.z56)) (below_size Z7.z19)); have n3_ := Z7.k (Z7.bb BK101 Z7.z1 hb); have n4_ := Z7.k (below_step Z7.z19 hb); clear HO108 BK101 HB; have HO108 := n0_; have HO114 := n1_; have HO117 := n2_; have BK101 := n3_; have HB := n4_; clear n0_ n1_ n2_ n3_ n4_; (try clear hb); (try clear hb2); (try clear hk); (try clear hi); (try clear ho0); (try clear ho1)) | ((with_reducible refine gate_dst (N := 4) rfl ?_); refine box_event ?hg (N := 4) ?hd (cs := #[.int .i64 0, .int .i64 0, .int .i64 0, .slice none 0 0]) (t := 28) ?hr ?_; (case hd => rfl); (case hg => rfl); (case hr => first | (go_simp; done) | (go_simp; rfl)); intro gb119 hg w19 hbox hb; have n0_ := Z7.k (Kd.R_below Z7.z56 hb); have n1_ := Z7.k (Kd.R_below Z7.z89 hb); have n2_ := Z7.k (Kd.R_below Z7.z88 hb); have n3_ := Z7.k (Z7.bb BK101 Z7.z1 hb); have n4_ := Z7.k (below_step Z7.z19 hb); have n5_ := Z7.k (hbox); have n6_ := Z7.k (show w.heap.size ≤ gb119 from (by rw [hg]; exact (below_size Z7.z19))); have n7_ := Z7.k (show w.heap.size ≤ gb119 from (by rw [hg]; exact (below_size Z7.z19))); have n8_ := Z7.k (show gb101 ≠ gb119 from (by rw [hg]; exact Nat.ne_of_lt (Z7.bl BK101 Z7.z1))); have n9_ := Z7.k (show gb119 ≠ gb101 from (by rw [hg]; exact Nat.ne_of_gt (Z7.bl BK101 Z7.z1))); clear HO108 HO114 HO117 BK101 HB; have HO108 := n0_; have HO114 := n1_; have HO117 := n2_; have BK101 := n3_; have HB := n4_; have BK119 := n5_; have GW119 := n6_; have GE119 := n7_; have NB101_119 := n8_; have NB119_101 := n9_; clear n0_ n1_ n2_ n3_ n4_ n5_ n6_ n7_ n8_ n9_; clear hb hbox hg; have hnb20 := NB119_101.out; have hnc20 := NB101_119.out; have hcz21_0 : w19.cell? ⟨gb119, 0, none⟩ = some (.int .i64 0) := (blk_cell BK119.out 0).trans rfl; have hcz21_1 : w19.cell? ⟨gb119, 1, none⟩ = some (.int .i64 0) := (blk_cell BK119.out 1).trans rfl; have hcz21_2 : w19.cell? ⟨gb119, 2, none⟩ = some (.int .i64 0) := (blk_cell BK119.out 2).trans rfl; have hcz21_3 : w19.cell? ⟨gb119, 3, none⟩ = some (.slice none 0 0) := (blk_cell BK119.out 3).trans rfl; have hfz21_0 := blk_frozen BK119.out 0; have hfz21_1 := blk_frozen BK119.out 1; have hfz21_2 := blk_frozen BK119.out 2; have hfz21_3 := blk_frozen BK119.out 3; obtain ⟨Ao22, co22, eo22⟩ := Kd.R_slice HO114.out; subst eo22; have hcz23_0 : w19.cell? ⟨gb101, 0, none⟩ = some (.int .i64 a0_0) := (blk_cell BK101.out 0).trans rfl; have hcz23_1 : w19.cell? ⟨gb101, 1, none⟩ = some (.int .i64 a0_1) := (blk_cell BK101.out 1).trans rfl; have hcz23_2 : w19.cell? ⟨gb101, 2, none⟩ = some (.int .i64 a0_2) := (blk_cell BK101.out 2).trans rfl; have hcz23_3 : w19.cell? ⟨gb101, 3, none⟩ = some (.slice A0_3 l0_3.length c0_3) := (blk_cell BK101.out 3).trans rfl; have hfz23_0 := blk_frozen BK101.out 0; have hfz23_1 := blk_frozen BK101.out 1; have hfz23_2 := blk_frozen BK101.out 2; have hfz23_3 := blk_frozen BK101.out 3) | ((with_reducible refine gate_callee (f := 10) rfl ?_); refine goesL_ (some 30) rfl rfl Try.func10 (by kernel_rfl) rfl #[.agg #[.int .i64 a0_0, .int .i64 a0_1, .int .i64 a0_2, .slice A0_3 l0_3.length c0_3]] rfl Z7.z3 ?_; (with_reducible refine (laws_toMatrix.calls k a0_0 a0_1 a0_2 _ _ l0_3 t120 t121 t122 t123 _ ?side1 ?side2 A9.out).mono ?_); (case side1 => exact (by exact Kd.C_below HR0_3.out Z7.z39)); (case side2 => exact HC0_3.out); rintro e w24 ⟨v124, rfl, ho0, hb⟩; refine ⟨_, rfl, ?_⟩; have n0_ := Z7.k (Kd.R_elder' Z7.z52 (Kd.R_base ho0) hb); have n1_ := Z7.k (Kd.R_elder' Z7.z51 (Kd.R_base ho0) hb); have n2_ := Z7.k (Kd.R_elder' Z7.z50 (Kd.R_base ho0) hb); have n3_ := Z7.k (Kd.R_lower (Kd.R_new' (Kd.R_new' (Kd.R_new' ho0 (Kd.R_lt Z7.z52)) (Kd.R_lt Z7.z51)) (Kd.R_lt Z7.z50)) (below_size Z7.z39)); have n4_ := Z7.k (Z7.bb BK101 (by (repeat (first | (with_reducible first | refine blk_drewN ?_ _ | refine blk_drew ?_ | refine blk_alloc ?_ _) | refine blk_far ?_ NB101_119.out _)); exact BK101.out) hb); have n5_ := Z7.k (blk_below (g := gb119) (o := .cells #[.int .i64 t109, .int .i64 t110, .int .i64 t111, .slice Ao22 t112.length co22] 28 (0, 0)) (by (with_reducible repeat (first | refine blk_drewN ?_ _ | refine blk_drew ?_ | refine blk_alloc ?_ _)); refine blk_put (cs := #[.int .i64 t109, .int .i64 t110, .int .i64 t111, .slice none 0 0]) ?_ 3 _ rfl; (with_reducible repeat (first | refine blk_drewN ?_ _ | refine blk_drew ?_ | refine blk_alloc ?_ _)); refine blk_put (cs := #[.int .i64 t109, .int .i64 t110, .int .i64 0, .slice none 0 0]) ?_ 2 _ rfl; (with_reducible repeat (first | refine blk_drewN ?_ _ | refine blk_drew ?_ | refine blk_alloc ?_ _)); refine blk_put (cs := #[.int .i64 t109, .int .i64 0, .int .i64 0, .slice none 0 0]) ?_ 1 _ rfl; (with_reducible repeat (first | refine blk_drewN ?_ _ | refine blk_drew ?_ | refine blk_alloc ?_ _)); refine blk_put (cs := #[.int .i64 0, .int .i64 0, .int .i64 0, .slice none 0 0]) ?_ 0 _ rfl; (with_reducible repeat (first | refine blk_drewN ?_ _ | refine blk_drew ?_ | refine blk_alloc ?_ _)); exact BK119.out) hb); have n6_ := Z7.k (below_step Z7.z39 hb); clear HO108 HO114 HO117 BK101 BK119 HB; have HO108 := n0_; have HO114 := n1_; have HO117 := n2_; have HO125 := n3_; have BK101 := n4_; have BK119 := n5_; have HB := n6_; clear n0_ n1_ n2_ n3_ n4_ n5_ n6_; (try clear hb); (try clear hb2); (try clear hk); (try clear hi); (try clear ho0)) | ((with_reducible refine gate_dst (N := 7) rfl ?_); refine box_event ?hg (N := 7) ?hd (cs := #[.int .i64 0, .int .i64 0, .int .i64 0, .slice none 0 0]) (t := 28) ?hr ?_; (case hd => rfl); (case hg => rfl); (case hr => first | (go_simp; done) | (go_simp; rfl)); intro gb126 hg w25 hbox hb; have n0_ := Z7.k (Kd.R_below Z7.z56 hb); have n1_ := Z7.k (Kd.R_below Z7.z89 hb); have n2_ := Z7.k (Kd.R_below Z7.z88 hb); have n3_ := Z7.k (Kd.R_below (by (with_reducible repeat (first | apply Kd.R_alloc | apply Kd.R_drewN | apply Kd.R_drew)); exact HO125.out) hb); have n4_ := Z7.k (Z7.bb BK101 Z7.z1 hb); have n5_ := Z7.k (Z7.bb BK119 Z7.z2 hb); have n6_ := Z7.k (below_step Z7.z39 hb); have n7_ := Z7.k (hbox); have n8_ := Z7.k (show w.heap.size ≤ gb126 from (by rw [hg]; exact (below_size Z7.z39))); have n9_ := Z7.k (show w.heap.size ≤ gb126 from (by rw [hg]; exact (below_size Z7.z39))); have n10_ := Z7.k (show gb101 ≠ gb126 from (by rw [hg]; exact Nat.ne_of_lt (Z7.bl BK101 Z7.z1))); have n11_ := Z7.k (show gb126 ≠ gb101 from (by rw [hg]; exact Nat.ne_of_gt (Z7.bl BK101 Z7.z1))); have n12_ := Z7.k (show gb119 ≠ gb126 from (by rw [hg]; exact Nat.ne_of_lt (Z7.bl BK119 Z7.z2))); have n13_ := Z7.k (show gb126 ≠ gb119 from (by rw [hg]; exact Nat.ne_of_gt (Z7.bl BK119 Z7.z2))); clear HO108 HO114 HO117 HO125 BK101 BK119 HB; have HO108 := n0_; have HO114 := n1_; have HO117 := n2_; have HO125 := n3_; have BK101 := n4_; have BK119 := n5_; have HB := n6_; have BK126 := n7_; have GW126 := n8_; have GE126 := n9_; have NB101_126 := n10_; have NB126_101 := n11_; have NB119_126 := n12_; have NB126_119 := n13_; clear n0_ n1_ n2_ n3_ n4_ n5_ n6_ n7_ n8_ n9_ n10_ n11_ n12_ n13_; clear hb hbox hg; have hnb26 := NB126_101.out; have hnc26 := NB101_126.out; have hnb27 := NB126_119.out; have hnc27 := NB119_126.out; have hcz28_0 : w25.cell? ⟨gb126, 0, none⟩ = some (.int .i64 0) := (blk_cell BK126.out 0).trans rfl; have hcz28_1 : w25.cell? ⟨gb126, 1, none⟩ = some (.int .i64 0) := (blk_cell BK126.out 1).trans rfl; have hcz28_2 : w25.cell? ⟨gb126, 2, none⟩ = some (.int .i64 0) := (blk_cell BK126.out 2).trans rfl; have hcz28_3 : w25.cell? ⟨gb126, 3, none⟩ = some (.slice none 0 0) := (blk_cell BK126.out 3).trans rfl; have hfz28_0 := blk_frozen BK126.out 0; have hfz28_1 := blk_frozen BK126.out 1; have hfz28_2 := blk_frozen BK126.out 2; have hfz28_3 := blk_frozen BK126.out 3; obtain ⟨Ao29, co29, eo29⟩ := Kd.R_slice HO125.out; subst eo29) | ((with_reducible refine gate_callee (f := 22) rfl ?_); refine goesL_ (some 33) rfl rfl Try.func22 (by kernel_rfl) rfl #[.agg #[.int .i64 t120, .int .i64 t121, .int .i64 t122, .slice Ao29 t123.length co29]] rfl Z7.z3 ?_; (with_reducible refine (impl_ReducedForm.calls k t120 t121 t122 _ _ t123 t127 t128 t129 t130 t133 t136 _ ?side1 ?side2 A10.out).mono ?_); (case side1 => exact (by refine (Kd.R_reads' (e := 2) (base := w.heap.size) (ok := fun k_ => (((True ∧ some k_ ≠ (.slice Ao17 t106.length co17 : Value).ownBlock) ∧ some k_ ≠ (.slice Ao22 t112.length co22 : Value).ownBlock) ∧ some k_ ≠ (v116 : Value).ownBlock)) (n := t123.length) (c := co29) ?_).2.2; exact Z7.z20)); (case side2 => exact (Kd.R_reads' HO125.out).2.1); rintro e w30 ⟨v131, v134, rfl, ho0, ho1, hb⟩; refine ⟨_, rfl, ?_⟩; have n0_ := Z7.k (Kd.R_mono (Kd.R_told (Kd.R_told (Kd.R_old Z7.z38 hb) (Kd.R_base ho0)) (Kd.R_base ho1)) (fun _ h_ => h_.1)); have n1_ := Z7.k (Kd.R_mono (Kd.R_told (Kd.R_told (Kd.R_old Z7.z37 hb) (Kd.R_base ho0)) (Kd.R_base ho1)) (fun _ h_ => h_.1)); have n2_ := Z7.k (Kd.R_mono (Kd.R_told (Kd.R_told (Kd.R_old Z7.z36 hb) (Kd.R_base ho0)) (Kd.R_base ho1)) (fun _ h_ => h_.1)); have n3_ := Z7.k (Kd.R_mono (Kd.R_told (Kd.R_told (Kd.R_old Z7.z20 hb) (Kd.R_base ho0)) (Kd.R_base ho1)) (fun _ h_ => h_.1)); have n4_ := Z7.k (Kd.R_lower (Kd.R_new' (Kd.R_new' (Kd.R_new' (Kd.R_new' ho0 (Kd.R_lt Z7.z38)) (Kd.R_lt Z7.z37)) (Kd.R_lt Z7.z36)) (Kd.R_lt Z7.z20)) (below_size Z7.z23)); have n5_ := Z7.k (Kd.R_lower (Kd.R_new' (Kd.R_new' (Kd.R_new' (Kd.R_new' ho1 (Kd.R_lt Z7.z38)) (Kd.R_lt Z7.z37)) (Kd.R_lt Z7.z36)) (Kd.R_lt Z7.z20)) (below_size Z7.z23)); have n6_ := Z7.k (Z7.bb BK101 (by (repeat (first | (with_reducible first | refine blk_drewN ?_ _ | refine blk_drew ?_ | refine blk_alloc ?_ _) | refine blk_far ?_ NB101_126.out _)); exact BK101.out) hb); have n7_ := Z7.k (Z7.bb BK119 (by (repeat (first | (with_reducible first | refine blk_drewN ?_ _ | refine blk_drew ?_ | refine blk_alloc ?_ _) | refine blk_far ?_ NB119_126.out _)); exact BK119.out) hb); have n8_ := Z7.k (blk_below (g := gb126) (o := .cells #[.int .i64 t120, .int .i64 t121, .int .i64 t122, .slice Ao29 t123.length co29] 28 (0, 0)) (by (with_reducible repeat (first | refine blk_drewN ?_ _ | refine blk_drew ?_ | refine blk_alloc ?_ _)); refine blk_put (cs := #[.int .i64 t120, .int .i64 t121, .int .i64 t122, .slice none 0 0]) ?_ 3 _ rfl; (with_reducible repeat (first | refine blk_drewN ?_ _ | refine blk_drew ?_ | refine blk_alloc ?_ _)); refine blk_put (cs := #[.int .i64 t120, .int .i64 t121, .int .i64 0, .slice none 0 0]) ?_ 2 _ rfl; (with_reducible repeat (first | refine blk_drewN ?_ _ | refine blk_drew ?_ | refine blk_alloc ?_ _)); refine blk_put (cs := #[.int .i64 t120, .int .i64 0, .int .i64 0, .slice none 0 0]) ?_ 1 _ rfl; (with_reducible repeat (first | refine blk_drewN ?_ _ | refine blk_drew ?_ | refine blk_alloc ?_ _)); refine blk_put (cs := #[.int .i64 0, .int .i64 0, .int .i64 0, .slice none 0 0]) ?_ 0 _ rfl; (with_reducible repeat (first | refine blk_drewN ?_ _ | refine blk_drew ?_ | refine blk_alloc ?_ _)); exact BK126.out) hb); have n9_ := Z7.k (below_step Z7.z23 hb); clear HO108 HO114 HO117 HO125 BK101 BK119 BK126 HB; have HO108 := n0_; have HO114 := n1_; have HO117 := n2_; have HO125 := n3_; have HO132 := n4_; have HO135 := n5_; have BK101 := n6_; have BK119 := n7_; have BK126 := n8_; have HB := n9_; clear n0_ n1_ n2_ n3_ n4_ n5_ n6_ n7_ n8_ n9_; (try clear hb); (try clear hb2); (try clear hk); (try clear hi); (try clear ho0); (try clear ho1)) | ((with_reducible refine gate_dst (N := 8) rfl ?_); refine box_event ?hg (N := 8) ?hd (cs := #[.int .i64 0, .int .i64 0, .int .i64 0, .slice none 0 0]) (t := 28) ?hr ?_; (case hd => rfl); (case hg => rfl); (case hr => first | (go_simp; done) | (go_simp; rfl)); intro gb137 hg w31 hbox hb; have n0_ := Z7.k (Kd.R_below Z7.z56 hb); have n1_ := Z7.k (Kd.R_below Z7.z89 hb); have n2_ := Z7.k (Kd.R_below Z7.z88 hb); have n3_ := Z7.k (Kd.R_below (by (with_reducible repeat (first | apply Kd.R_alloc | apply Kd.R_drewN | apply Kd.R_drew)); exact HO125.out) hb); have n4_ := Z7.k (Kd.R_below (by (with_reducible repeat (first | apply Kd.R_alloc | apply Kd.R_drewN | apply Kd.R_drew)); exact HO132.out) hb); have n5_ := Z7.k (Kd.R_below (by (with_reducible repeat (first | apply Kd.R_alloc | apply Kd.R_drewN | apply Kd.R_drew)); exact HO135.out) hb); have n6_ := Z7.k (Z7.bb BK101 Z7.z1 hb); have n7_ := Z7.k (Z7.bb BK119 Z7.z2 hb); have n8_ := Z7.k (Z7.bb BK126 Z7.z5 hb); have n9_ := Z7.k (below_step Z7.z23 hb); have n10_ := Z7.k (hbox); have n11_ := Z7.k (show w.heap.size ≤ gb137 from (by rw [hg]; exact (below_size Z7.z23))); have n12_ := Z7.k (show w.heap.size ≤ gb137 from (by rw [hg]; exact (below_size Z7.z23))); have n13_ := Z7.k (show gb101 ≠ gb137 from (by rw [hg]; exact Nat.ne_of_lt (Z7.bl BK101 Z7.z1))); have n14_ := Z7.k (show gb137 ≠ gb101 from (by rw [hg]; exact Nat.ne_of_gt (Z7.bl BK101 Z7.z1))); have n15_ := Z7.k (show gb119 ≠ gb137 from (by rw [hg]; exact Nat.ne_of_lt (Z7.bl BK119 Z7.z2))); have n16_ := Z7.k (show gb137 ≠ gb119 from (by rw [hg]; exact Nat.ne_of_gt (Z7.bl BK119 Z7.z2))); have n17_ := Z7.k (show gb126 ≠ gb137 from (by rw [hg]; exact Nat.ne_of_lt (Z7.bl BK126 Z7.z5))); have n18_ := Z7.k (show gb137 ≠ gb126 from (by rw [hg]; exact Nat.ne_of_gt (Z7.bl BK126 Z7.z5))); clear HO108 HO114 HO117 HO125 HO132 HO135 BK101 BK119 BK126 HB; have HO108 := n0_; have HO114 := n1_; have HO117 := n2_; have HO125 := n3_; have HO132 := n4_; have HO135 := n5_; have BK101 := n6_; have BK119 := n7_; have BK126 := n8_; have HB := n9_; have BK137 := n10_; have GW137 := n11_; have GE137 := n12_; have NB101_137 := n13_; have NB137_101 := n14_; have NB119_137 := n15_; have NB137_119 := n16_; have NB126_137 := n17_; have NB137_126 := n18_; clear n0_ n1_ n2_ n3_ n4_ n5_ n6_ n7_ n8_ n9_ n10_ n11_ n12_ n13_ n14_ n15_ n16_ n17_ n18_; clear hb hbox hg; have hnb32 := NB137_101.out; have hnc32 := NB101_137.out; have hnb33 := NB137_119.out; have hnc33 := NB119_137.out; have hnb34 := NB137_126.out; have hnc34 := NB126_137.out; have hcz35_0 : w31.cell? ⟨gb137, 0, none⟩ = some (.int .i64 0) := (blk_cell BK137.out 0).trans rfl; have hcz35_1 : w31.cell? ⟨gb137, 1, none⟩ = some (.int .i64 0) := (blk_cell BK137.out 1).trans rfl; have hcz35_2 : w31.cell? ⟨gb137, 2, none⟩ = some (.int .i64 0) := (blk_cell BK137.out 2).trans rfl; have hcz35_3 : w31.cell? ⟨gb137, 3, none⟩ = some (.slice none 0 0) := (blk_cell BK137.out 3).trans rfl; have hfz35_0 := blk_frozen BK137.out 0; have hfz35_1 := blk_frozen BK137.out 1; have hfz35_2 := blk_frozen BK137.out 2; have hfz35_3 := blk_frozen BK137.out 3; obtain ⟨Ao36, co36, eo36⟩ := Kd.R_slice HO132.out; subst eo36))
 (try simp only [Act.put, List.setIfInBounds_toArray, List.set_cons_zero, List.set_cons_succ])
 go_cut [51] (fun v51 wc => ∃ (kq : Nat) (x51_10 : Bool), v51 = .bool x51_10 ∧ Aside0 (laws_FnExactReducedForm.j0 kq t115 t118 t133 t136 x51_10 a0_0 a0_1 a0_2 l0_3 t109 t110 t111 t112 t120 t121 t122 t123 t127 t128 t129 t130 = some r) ∧ Aside0 (kq ≤ k) ∧ Aside0 (Kd.R (Kd.int .i64) 2 wc w.heap.size (fun k_ => some k_ ≠ (v134 : Value).ownBlock ∧ some k_ ≠ ((.slice Ao22 t112.length co22) : Value).ownBlock ∧ some k_ ≠ ((.slice Ao29 t123.length co29) : Value).ownBlock ∧ some k_ ≠ ((.slice Ao36 t130.length co36) : Value).ownBlock) v116 t115) ∧ Aside0 (Kd.R (Kd.int .i64) 2 wc w.heap.size (fun k_ => some k_ ≠ (v116 : Value).ownBlock ∧ some k_ ≠ ((.slice Ao22 t112.length co22) : Value).ownBlock ∧ some k_ ≠ ((.slice Ao29 t123.length co29) : Value).ownBlock ∧ some k_ ≠ ((.slice Ao36 t130.length co36) : Value).ownBlock) v134 t133) ∧ Aside0 (Kd.R (Kd.int .i64) 2 wc w.heap.size (fun k_ => some k_ ≠ (v116 : Value).ownBlock ∧ some k_ ≠ (v134 : Value).ownBlock ∧ some k_ ≠ ((.slice Ao29 t123.length co29) : Value).ownBlock ∧ some k_ ≠ ((.slice Ao36 t130.length co36) : Value).ownBlock) (.slice Ao22 t112.length co22) t112) ∧ Aside0 (Kd.R (Kd.int .i64) 2 wc w.heap.size (fun k_ => some k_ ≠ (v116 : Value).ownBlock ∧ some k_ ≠ (v134 : Value).ownBlock ∧ some k_ ≠ ((.slice Ao22 t112.length co22) : Value).ownBlock ∧ some k_ ≠ ((.slice Ao36 t130.length co36) : Value).ownBlock) (.slice Ao29 t123.length co29) t123) ∧ Aside0 (Kd.R (Kd.int .i64) 2 wc w.heap.size (fun k_ => some k_ ≠ (v116 : Value).ownBlock ∧ some k_ ≠ (v134 : Value).ownBlock ∧ some k_ ≠ ((.slice Ao22 t112.length co22) : Value).ownBlock ∧ some k_ ≠ ((.slice Ao29 t123.length co29) : Value).ownBlock) (.slice Ao36 t130.length co36) t130) ∧ Aside0 (wc.heap[gb101]? = some (.cells #[.int .i64 a0_0, .int .i64 a0_1, .int .i64 a0_2, (.slice A0_3 l0_3.length c0_3)] 24 (0, 0))) ∧ Aside0 (wc.heap[gb119]? = some (.cells #[.int .i64 t109, .int .i64 t110, .int .i64 t111, (.slice Ao22 t112.length co22)] 28 (0, 0))) ∧ Aside0 (wc.heap[gb126]? = some (.cells #[.int .i64 t120, .int .i64 t121, .int .i64 t122, (.slice Ao29 t123.length co29)] 28 (0, 0))) ∧ Aside0 (wc.heap[gb137]? = some (.cells #[.int .i64 t127, .int .i64 t128, .int .i64 t129, (.slice Ao36 t130.length co36)] 28 (0, 0))) ∧ Aside0 (Below w.heap.size w wc))
 case first =>
  have H := HC11.out
  clear HC11
  replace H := Option.bind_eq_some_iff.mp H
  obtain ⟨t138, A370, H⟩ := H
  replace H : (if t138 = true then ((laws_eqInt64S.f k t133 t115).bind fun t139 => (if t139 = true then (laws_FnExactReducedForm.j0 k t115 t118 t133 t136 (t136 != t118) a0_0 a0_1 a0_2 l0_3 t109 t110 t111 t112 t120 t121 t122 t123 t127 t128 t129 t130) else (laws_FnExactReducedForm.j0 k t115 t118 t133 t136 true a0_0 a0_1 a0_2 l0_3 t109 t110 t111 t112 t120 t121 t122 t123 t127 t128 t129 t130))) else (laws_FnExactReducedForm.j0 k t115 t118 t133 t136 true a0_0 a0_1 a0_2 l0_3 t109 t110 t111 t112 t120 t121 t122 t123 t127 t128 t129 t130)) = some r := H
  have A37 := Z7.k A370
  clear A370
  by_cases c38 : t138 = true
  ·subst c38
   have H1 : ((laws_eqInt64S.f k t133 t115).bind fun t139 => (if t139 = true then (laws_FnExactReducedForm.j0 k t115 t118 t133 t136 (t136 != t118) a0_0 a0_1 a0_2 l0_3 t109 t110 t111 t112 t120 t121 t122 t123 t127 t128 t129 t130) else (laws_FnExactReducedForm.j0 k t115 t118 t133 t136 true a0_0 a0_1 a0_2 l0_3 t109 t110 t111 t112 t120 t121 t122 t123 t127 t128 t129 t130))) = some r := by rw [if_pos rfl] at H; exact H
   clear H
   have H := H1
   clear H1
   replace H := Option.bind_eq_some_iff.mp H
   obtain ⟨t139, A390, H⟩ := H
   replace H : (if t139 = true then (laws_FnExactReducedForm.j0 k t115 t118 t133 t136 (t136 != t118) a0_0 a0_1 a0_2 l0_3 t109 t110 t111 t112 t120 t121 t122 t123 t127 t128 t129 t130) else (laws_FnExactReducedForm.j0 k t115 t118 t133 t136 true a0_0 a0_1 a0_2 l0_3 t109 t110 t111 t112 t120 t121 t122 t123 t127 t128 t129 t130)) = some r := H
   have A39 := Z7.k A390
   clear A390
   by_cases c40 : t139 = true
   ·subst c40
    have H1 : (laws_FnExactReducedForm.j0 k t115 t118 t133 t136 (t136 != t118) a0_0 a0_1 a0_2 l0_3 t109 t110 t111 t112 t120 t121 t122 t123 t127 t128 t129 t130) = some r := by rw [if_pos rfl] at H; exact H
    clear H
    have H := H1
    clear H1
    have H' := Z7.k H
    clear H
    have hnb41 := NB137_101.out
    have hnc41 := NB101_137.out
    have hnb42 := NB137_119.out
    have hnc42 := NB119_137.out
    have hnb43 := NB137_126.out
    have hnc43 := NB126_137.out
    have hcz44_0 : w31.cell? ⟨gb137, 0, none⟩ = some (.int .i64 0) := (blk_cell BK137.out 0).trans rfl
    have hcz44_1 : w31.cell? ⟨gb137, 1, none⟩ = some (.int .i64 0) := (blk_cell BK137.out 1).trans rfl
    have hcz44_2 : w31.cell? ⟨gb137, 2, none⟩ = some (.int .i64 0) := (blk_cell BK137.out 2).trans rfl
    have hcz44_3 : w31.cell? ⟨gb137, 3, none⟩ = some (.slice none 0 0) := (blk_cell BK137.out 3).trans rfl
    have hfz44_0 := blk_frozen BK137.out 0
    have hfz44_1 := blk_frozen BK137.out 1
    have hfz44_2 := blk_frozen BK137.out 2
    have hfz44_3 := blk_frozen BK137.out 3
    have hnb45 := NB119_101.out
    have hnc45 := NB101_119.out
    have hnb46 := NB119_126.out
    have hnc46 := NB126_119.out
    have hcz47_0 : w31.cell? ⟨gb119, 0, none⟩ = some (.int .i64 t109) := (blk_cell BK119.out 0).trans rfl
    have hcz47_1 : w31.cell? ⟨gb119, 1, none⟩ = some (.int .i64 t110) := (blk_cell BK119.out 1).trans rfl
    have hcz47_2 : w31.cell? ⟨gb119, 2, none⟩ = some (.int .i64 t111) := (blk_cell BK119.out 2).trans rfl
    have hcz47_3 : w31.cell? ⟨gb119, 3, none⟩ = some (.slice Ao22 t112.length co22) := (blk_cell BK119.out 3).trans rfl
    have hfz47_0 := blk_frozen BK119.out 0
    have hfz47_1 := blk_frozen BK119.out 1
    have hfz47_2 := blk_frozen BK119.out 2
    have hfz47_3 := blk_frozen BK119.out 3
    go_wp2_with (first | ((with_reducible refine gate_callee (f := 12) rfl ?_); refine goesL_ (some 39) rfl rfl Try.func12 (by kernel_rfl) rfl #[.agg #[.int .i64 t127, .int .i64 t128, .int .i64 t129, .slice Ao36 t130.length co36], .agg #[.int .i64 t109, .int .i64 t110, .int .i64 t111, .slice Ao22 t112.length co22]] rfl Z7.z3 ?_; (with_reducible refine (laws_eqMatrix.calls k t127 t128 t129 _ _ t130 t109 t110 t111 _ _ t112 true _ ?side1 ?side2 ?side3 ?side4 A37.out).mono ?_); (case side1 => exact Z7.z43); (case side2 => exact (Kd.R_reads' HO132.out).2.1); (case side3 => exact Z7.z42); (case side4 => exact (Kd.R_reads' HO114.out).2.1); rintro e w48 ⟨rfl, hb⟩; refine ⟨_, rfl, ?_⟩; have n0_ := Z7.k (Kd.R_below Z7.z35 hb); have n1_ := Z7.k (Kd.R_below Z7.z10 hb); have n2_ := Z7.k (Kd.R_below Z7.z34 hb); have n3_ := Z7.k (Kd.R_below Z7.z33 hb); have n4_ := Z7.k (Kd.R_below Z7.z9 hb); have n5_ := Z7.k (Kd.R_below Z7.z32 hb); have n6_ := Z7.k (Z7.bb BK101 Z7.z77 hb); have n7_ := Z7.k (Z7.bb BK119 Z7.z75 hb); have n8_ := Z7.k (Z7.bb BK126 Z7.z73 hb); have n9_ := Z7.k (blk_below (g := gb137) (o := .cells #[.int .i64 t127, .int .i64 t128, .int .i64 t129, .slice Ao36 t130.length co36] 28 (0, 0)) Z7.z15 hb); have n10_ := Z7.k (below_step Z7.z0 hb); clear HO108 HO114 HO117 HO125 HO132 HO135 BK101 BK119 BK126 BK137 HB; have HO108 := n0_; have HO114 := n1_; have HO117 := n2_; have HO125 := n3_; have HO132 := n4_; have HO135 := n5_; have BK101 := n6_; have BK119 := n7_; have BK126 := n8_; have BK137 := n9_; have HB := n10_; clear n0_ n1_ n2_ n3_ n4_ n5_ n6_ n7_ n8_ n9_ n10_; (try clear hb); (try clear hb2); (try clear hk); (try clear hi); obtain ⟨Ao49, co49, eo49⟩ := Kd.R_slice HO135.out; subst eo49; obtain ⟨Ao50, co50, eo50⟩ := Kd.R_slice HO117.out; subst eo50) | (go_at_call 23; (with_reducible refine (laws_eqInt64S.calls k _ _ t133 _ _ t115 true _ ?side1 ?side2 ?side3 ?side4 A39.out).mono ?_); (case side1 => exact Z7.z93); (case side2 => exact (Kd.R_reads' HO135.out).2.1); (case side3 => exact Z7.z94); (case side4 => exact (Kd.R_reads' HO117.out).2.1); rintro e w' ⟨rfl, ⟨nd, rfl⟩⟩))
    go_meet
    case rel => exact ⟨_, ((t136 != t118)), Z7.z86, H', ⟨(by first | omega | exact Nat.le_refl _)⟩, ⟨Z7.z68⟩, ⟨Z7.z65⟩, ⟨Z7.z69⟩, ⟨Z7.z67⟩, ⟨Z7.z66⟩, ⟨Z7.z1⟩, ⟨Z7.z2⟩, ⟨Z7.z5⟩, ⟨Z7.z6⟩, ⟨Z7.z0⟩⟩
   replace c40 := Bool.eq_false_iff.mpr c40
   subst c40
   have H1 : (laws_FnExactReducedForm.j0 k t115 t118 t133 t136 true a0_0 a0_1 a0_2 l0_3 t109 t110 t111 t112 t120 t121 t122 t123 t127 t128 t129 t130) = some r := by rw [if_neg (show ¬ (false = true) by decide)] at H; exact H
   clear H
   have H := H1
   clear H1
   have H' := Z7.k H
   clear H
   have hnb51 := NB137_101.out
   have hnc51 := NB101_137.out
   have hnb52 := NB137_119.out
   have hnc52 := NB119_137.out
   have hnb53 := NB137_126.out
   have hnc53 := NB126_137.out
   have hcz54_0 : w31.cell? ⟨gb137, 0, none⟩ = some (.int .i64 0) := (blk_cell BK137.out 0).trans rfl
   have hcz54_1 : w31.cell? ⟨gb137, 1, none⟩ = some (.int .i64 0) := (blk_cell BK137.out 1).trans rfl
   have hcz54_2 : w31.cell? ⟨gb137, 2, none⟩ = some (.int .i64 0) := (blk_cell BK137.out 2).trans rfl
   have hcz54_3 : w31.cell? ⟨gb137, 3, none⟩ = some (.slice none 0 0) := (blk_cell BK137.out 3).trans rfl
   have hfz54_0 := blk_frozen BK137.out 0
   have hfz54_1 := blk_frozen BK137.out 1
   have hfz54_2 := blk_frozen BK137.out 2
   have hfz54_3 := blk_frozen BK137.out 3
   have hnb55 := NB119_101.out
   have hnc55 := NB101_119.out
   have hnb56 := NB119_126.out
   have hnc56 := NB126_119.out
   have hcz57_0 : w31.cell? ⟨gb119, 0, none⟩ = some (.int .i64 t109) := (blk_cell BK119.out 0).trans rfl
   have hcz57_1 : w31.cell? ⟨gb119, 1, none⟩ = some (.int .i64 t110) := (blk_cell BK119.out 1).trans rfl
   have hcz57_2 : w31.cell? ⟨gb119, 2, none⟩ = some (.int .i64 t111) := (blk_cell BK119.out 2).trans rfl
   have hcz57_3 : w31.cell? ⟨gb119, 3, none⟩ = some (.slice Ao22 t112.length co22) := (blk_cell BK119.out 3).trans rfl
   have hfz57_0 := blk_frozen BK119.out 0
   have hfz57_1 := blk_frozen BK119.out 1
   have hfz57_2 := blk_frozen BK119.out 2
   have hfz57_3 := blk_frozen BK119.out 3
   go_wp2_with (first | ((with_reducible refine gate_callee (f := 12) rfl ?_); refine goesL_ (some 39) rfl rfl Try.func12 (by kernel_rfl) rfl #[.agg #[.int .i64 t127, .int .i64 t128, .int .i64 t129, .slice Ao36 t130.length co36], .agg #[.int .i64 t109, .int .i64 t110, .int .i64 t111, .slice Ao22 t112.length co22]] rfl Z7.z3 ?_; (with_reducible refine (laws_eqMatrix.calls k t127 t128 t129 _ _ t130 t109 t110 t111 _ _ t112 true _ ?side1 ?side2 ?side3 ?side4 A37.out).mono ?_); (case side1 => exact Z7.z43); (case side2 => exact (Kd.R_reads' HO132.out).2.1); (case side3 => exact Z7.z42); (case side4 => exact (Kd.R_reads' HO114.out).2.1); rintro e w58 ⟨rfl, hb⟩; refine ⟨_, rfl, ?_⟩; have n0_ := Z7.k (Kd.R_below Z7.z35 hb); have n1_ := Z7.k (Kd.R_below Z7.z10 hb); have n2_ := Z7.k (Kd.R_below Z7.z34 hb); have n3_ := Z7.k (Kd.R_below Z7.z33 hb); have n4_ := Z7.k (Kd.R_below Z7.z9 hb); have n5_ := Z7.k (Kd.R_below Z7.z32 hb); have n6_ := Z7.k (Z7.bb BK101 Z7.z77 hb); have n7_ := Z7.k (Z7.bb BK119 Z7.z75 hb); have n8_ := Z7.k (Z7.bb BK126 Z7.z73 hb); have n9_ := Z7.k (blk_below (g := gb137) (o := .cells #[.int .i64 t127, .int .i64 t128, .int .i64 t129, .slice Ao36 t130.length co36] 28 (0, 0)) Z7.z15 hb); have n10_ := Z7.k (below_step Z7.z0 hb); clear HO108 HO114 HO117 HO125 HO132 HO135 BK101 BK119 BK126 BK137 HB; have HO108 := n0_; have HO114 := n1_; have HO117 := n2_; have HO125 := n3_; have HO132 := n4_; have HO135 := n5_; have BK101 := n6_; have BK119 := n7_; have BK126 := n8_; have BK137 := n9_; have HB := n10_; clear n0_ n1_ n2_ n3_ n4_ n5_ n6_ n7_ n8_ n9_ n10_; (try clear hb); (try clear hb2); (try clear hk); (try clear hi); obtain ⟨Ao59, co59, eo59⟩ := Kd.R_slice HO135.out; subst eo59; obtain ⟨Ao60, co60, eo60⟩ := Kd.R_slice HO117.out; subst eo60) | (go_at_call 23; (with_reducible refine (laws_eqInt64S.calls k _ _ t133 _ _ t115 false _ ?side1 ?side2 ?side3 ?side4 A39.out).mono ?_); (case side1 => exact Z7.z93); (case side2 => exact (Kd.R_reads' HO135.out).2.1); (case side3 => exact Z7.z94); (case side4 => exact (Kd.R_reads' HO117.out).2.1); rintro e w' ⟨rfl, ⟨nd, rfl⟩⟩))
   go_meet
   case rel => exact ⟨_, (true), Z7.z86, H', ⟨(by first | omega | exact Nat.le_refl _)⟩, ⟨Z7.z68⟩, ⟨Z7.z65⟩, ⟨Z7.z69⟩, ⟨Z7.z67⟩, ⟨Z7.z66⟩, ⟨Z7.z1⟩, ⟨Z7.z2⟩, ⟨Z7.z5⟩, ⟨Z7.z6⟩, ⟨Z7.z0⟩⟩
  replace c38 := Bool.eq_false_iff.mpr c38
  subst c38
  have H1 : (laws_FnExactReducedForm.j0 k t115 t118 t133 t136 true a0_0 a0_1 a0_2 l0_3 t109 t110 t111 t112 t120 t121 t122 t123 t127 t128 t129 t130) = some r := by rw [if_neg (show ¬ (false = true) by decide)] at H; exact H
  clear H
  have H := H1
  clear H1
  have H' := Z7.k H
  clear H
  have hnb61 := NB137_101.out
  have hnc61 := NB101_137.out
  have hnb62 := NB137_119.out
  have hnc62 := NB119_137.out
  have hnb63 := NB137_126.out
  have hnc63 := NB126_137.out
  have hcz64_0 : w31.cell? ⟨gb137, 0, none⟩ = some (.int .i64 0) := (blk_cell BK137.out 0).trans rfl
  have hcz64_1 : w31.cell? ⟨gb137, 1, none⟩ = some (.int .i64 0) := (blk_cell BK137.out 1).trans rfl
  have hcz64_2 : w31.cell? ⟨gb137, 2, none⟩ = some (.int .i64 0) := (blk_cell BK137.out 2).trans rfl
  have hcz64_3 : w31.cell? ⟨gb137, 3, none⟩ = some (.slice none 0 0) := (blk_cell BK137.out 3).trans rfl
  have hfz64_0 := blk_frozen BK137.out 0
  have hfz64_1 := blk_frozen BK137.out 1
  have hfz64_2 := blk_frozen BK137.out 2
  have hfz64_3 := blk_frozen BK137.out 3
  have hnb65 := NB119_101.out
  have hnc65 := NB101_119.out
  have hnb66 := NB119_126.out
  have hnc66 := NB126_119.out
  have hcz67_0 : w31.cell? ⟨gb119, 0, none⟩ = some (.int .i64 t109) := (blk_cell BK119.out 0).trans rfl
  have hcz67_1 : w31.cell? ⟨gb119, 1, none⟩ = some (.int .i64 t110) := (blk_cell BK119.out 1).trans rfl
  have hcz67_2 : w31.cell? ⟨gb119, 2, none⟩ = some (.int .i64 t111) := (blk_cell BK119.out 2).trans rfl
  have hcz67_3 : w31.cell? ⟨gb119, 3, none⟩ = some (.slice Ao22 t112.length co22) := (blk_cell BK119.out 3).trans rfl
  have hfz67_0 := blk_frozen BK119.out 0
  have hfz67_1 := blk_frozen BK119.out 1
  have hfz67_2 := blk_frozen BK119.out 2
  have hfz67_3 := blk_frozen BK119.out 3
  go_wp2_with (first | ((with_reducible refine gate_callee (f := 12) rfl ?_); refine goesL_ (some 39) rfl rfl Try.func12 (by kernel_rfl) rfl #[.agg #[.int .i64 t127, .int .i64 t128, .int .i64 t129, .slice Ao36 t130.length co36], .agg #[.int .i64 t109, .int .i64 t110, .int .i64 t111, .slice Ao22 t112.length co22]] rfl Z7.z3 ?_; (with_reducible refine (laws_eqMatrix.calls k t127 t128 t129 _ _ t130 t109 t110 t111 _ _ t112 false _ ?side1 ?side2 ?side3 ?side4 A37.out).mono ?_); (case side1 => exact Z7.z43); (case side2 => exact (Kd.R_reads' HO132.out).2.1); (case side3 => exact Z7.z42); (case side4 => exact (Kd.R_reads' HO114.out).2.1); rintro e w68 ⟨rfl, hb⟩; refine ⟨_, rfl, ?_⟩; have n0_ := Z7.k (Kd.R_below Z7.z35 hb); have n1_ := Z7.k (Kd.R_below Z7.z10 hb); have n2_ := Z7.k (Kd.R_below Z7.z34 hb); have n3_ := Z7.k (Kd.R_below Z7.z33 hb); have n4_ := Z7.k (Kd.R_below Z7.z9 hb); have n5_ := Z7.k (Kd.R_below Z7.z32 hb); have n6_ := Z7.k (Z7.bb BK101 Z7.z77 hb); have n7_ := Z7.k (Z7.bb BK119 Z7.z75 hb); have n8_ := Z7.k (Z7.bb BK126 Z7.z73 hb); have n9_ := Z7.k (blk_below (g := gb137) (o := .cells #[.int .i64 t127, .int .i64 t128, .int .i64 t129, .slice Ao36 t130.length co36] 28 (0, 0)) Z7.z15 hb); have n10_ := Z7.k (below_step Z7.z0 hb); clear HO108 HO114 HO117 HO125 HO132 HO135 BK101 BK119 BK126 BK137 HB; have HO108 := n0_; have HO114 := n1_; have HO117 := n2_; have HO125 := n3_; have HO132 := n4_; have HO135 := n5_; have BK101 := n6_; have BK119 := n7_; have BK126 := n8_; have BK137 := n9_; have HB := n10_; clear n0_ n1_ n2_ n3_ n4_ n5_ n6_ n7_ n8_ n9_ n10_; (try clear hb); (try clear hb2); (try clear hk); (try clear hi)))
  go_meet
  case rel => exact ⟨_, (true), Z7.z86, H', ⟨(by first | omega | exact Nat.le_refl _)⟩, ⟨Z7.z68⟩, ⟨Z7.z65⟩, ⟨Z7.z69⟩, ⟨Z7.z67⟩, ⟨Z7.z66⟩, ⟨Z7.z1⟩, ⟨Z7.z2⟩, ⟨Z7.z5⟩, ⟨Z7.z6⟩, ⟨Z7.z0⟩⟩
 case rest =>
  clear HC11
  try clear c1
  try clear c2
  try clear p2
  try clear c3
  try clear c3b0
  try clear c4
  try clear c5
  try clear c6
  try clear c7
  try clear c8
  try clear c10
  try clear c12
  try clear c20
  try clear c21
  try clear c22
  try clear c26
  try clear c27
  try clear c32
  try clear c33
  try clear c34
  try clear c38
  try clear c40
  try clear c41
  try clear c42
  try clear c43
  try clear c45
  try clear c46
  try clear c51
  try clear c52
  try clear c53
  try clear c55
  try clear c56
  try clear c61
  try clear c62
  try clear c63
  try clear c65
  try clear c66
  try clear hcz13_0
  try clear hcz13_1
  try clear hcz13_2
  try clear hcz13_3
  try clear hcz15_0
  try clear hcz15_1
  try clear hcz15_2
  try clear hcz15_3
  try clear hcz21_0
  try clear hcz21_1
  try clear hcz21_2
  try clear hcz21_3
  try clear hcz23_0
  try clear hcz23_1
  try clear hcz23_2
  try clear hcz23_3
  try clear hcz28_0
  try clear hcz28_1
  try clear hcz28_2
  try clear hcz28_3
  try clear hcz35_0
  try clear hcz35_1
  try clear hcz35_2
  try clear hcz35_3
  try clear hcz44_0
  try clear hcz44_1
  try clear hcz44_2
  try clear hcz44_3
  try clear hcz47_0
  try clear hcz47_1
  try clear hcz47_2
  try clear hcz47_3
  try clear hcz54_0
  try clear hcz54_1
  try clear hcz54_2
  try clear hcz54_3
  try clear hcz57_0
  try clear hcz57_1
  try clear hcz57_2
  try clear hcz57_3
  try clear hcz5_0
  try clear hcz5_1
  try clear hcz5_2
  try clear hcz5_3
  try clear hcz64_0
  try clear hcz64_1
  try clear hcz64_2
  try clear hcz64_3
  try clear hcz67_0
  try clear hcz67_1
  try clear hcz67_2
  try clear hcz67_3
  try clear hfz13_0
  try clear hfz13_1
  try clear hfz13_2
  try clear hfz13_3
  try clear hfz15_0
  try clear hfz15_1
  try clear hfz15_2
  try clear hfz15_3
  try clear hfz21_0
  try clear hfz21_1
  try clear hfz21_2
  try clear hfz21_3
  try clear hfz23_0
  try clear hfz23_1
  try clear hfz23_2
  try clear hfz23_3
  try clear hfz28_0
  try clear hfz28_1
  try clear hfz28_2
  try clear hfz28_3
  try clear hfz35_0
  try clear hfz35_1
  try clear hfz35_2
  try clear hfz35_3
  try clear hfz44_0
  try clear hfz44_1
  try clear hfz44_2
  try clear hfz44_3
  try clear hfz47_0
  try clear hfz47_1
  try clear hfz47_2
  try clear hfz47_3
  try clear hfz54_0
  try clear hfz54_1
  try clear hfz54_2
  try clear hfz54_3
  try clear hfz57_0
  try clear hfz57_1
  try clear hfz57_2
  try clear hfz57_3
  try clear hfz5_0
  try clear hfz5_1
  try clear hfz5_2
  try clear hfz5_3
  try clear hfz64_0
  try clear hfz64_1
  try clear hfz64_2
  try clear hfz64_3
  try clear hfz67_0
  try clear hfz67_1
  try clear hfz67_2
  try clear hfz67_3
  obtain ⟨kq, x51_10, rfl, HA, HJ10, HO_5, HO_9, HO_120003, HO_127003, HO_138003, BK101, BK119, BK126, BK137, HB⟩ := hcut
  cases kq with
  | zero => exact absurd HA.out (by simp [laws_FnExactReducedForm.j0])
  | succ kj10 =>
   have H := HA.out
   clear HA
   simp only [laws_FnExactReducedForm.j0] at H
   by_cases c69 : x51_10 = true
   ·subst c69
    have H1 : (some false) = some r := by rw [if_pos rfl] at H; exact H
    clear H
    have H := H1
    clear H1
    obtain rfl := Option.some.inj H
    go_wp2
    go_ret
    exact ⟨Z7.z40, Z7.z0⟩
   replace c69 := Bool.eq_false_iff.mpr c69
   subst c69
   have H1 : ((laws_toMatrix.f kj10 a0_0 a0_1 a0_2 l0_3).bind fun bt140 => ((laws_eqMatrix.f kj10 t120 t121 t122 t123 bt140.1 bt140.2.1 bt140.2.2.1 bt140.2.2.2).bind fun t146 => (if t146 = true then ((laws_markMatrix.f kj10 t120 t121 t122 t123 1).bind fun bt147 => (if bt147.1 < 0 then (laws_FnExactReducedForm.j1 kj10 t115 t118 t133 true a0_0 a0_1 a0_2 l0_3 t109 t110 t111 t112 t127 t128 t129 t130) else ((laws_eqMatrix.f kj10 t127 t128 t129 t130 t109 t110 t111 t112).bind fun t149 => (if t149 = true then ((laws_eqInt64S.f kj10 t133 t115).bind fun t150 => (if t150 = true then (laws_FnExactReducedForm.j1 kj10 t115 t118 t133 (t136 != t118) a0_0 a0_1 a0_2 l0_3 t109 t110 t111 t112 t127 t128 t129 t130) else (laws_FnExactReducedForm.j1 kj10 t115 t118 t133 true a0_0 a0_1 a0_2 l0_3 t109 t110 t111 t112 t127 t128 t129 t130))) else (laws_FnExactReducedForm.j1 kj10 t115 t118 t133 true a0_0 a0_1 a0_2 l0_3 t109 t110 t111 t112 t127 t128 t129 t130))))) else (some false)))) = some r := by rw [if_neg (show ¬ (false = true) by decide)] at H; exact H
   clear H
   have H := H1
   clear H1
   replace H := Option.bind_eq_some_iff.mp H
   obtain ⟨⟨t140, t141, t142, t143⟩, A700, H⟩ := H
   replace H : ((laws_eqMatrix.f kj10 t120 t121 t122 t123 t140 t141 t142 t143).bind fun t146 => (if t146 = true then ((laws_markMatrix.f kj10 t120 t121 t122 t123 1).bind fun bt147 => (if bt147.1 < 0 then (laws_FnExactReducedForm.j1 kj10 t115 t118 t133 true a0_0 a0_1 a0_2 l0_3 t109 t110 t111 t112 t127 t128 t129 t130) else ((laws_eqMatrix.f kj10 t127 t128 t129 t130 t109 t110 t111 t112).bind fun t149 => (if t149 = true then ((laws_eqInt64S.f kj10 t133 t115).bind fun t150 => (if t150 = true then (laws_FnExactReducedForm.j1 kj10 t115 t118 t133 (t136 != t118) a0_0 a0_1 a0_2 l0_3 t109 t110 t111 t112 t127 t128 t129 t130) else (laws_FnExactReducedForm.j1 kj10 t115 t118 t133 true a0_0 a0_1 a0_2 l0_3 t109 t110 t111 t112 t127 t128 t129 t130))) else (laws_FnExactReducedForm.j1 kj10 t115 t118 t133 true a0_0 a0_1 a0_2 l0_3 t109 t110 t111 t112 t127 t128 t129 t130))))) else (some false))) = some r := H
   have A70 := Z7.k A700
   clear A700
   replace H := Option.bind_eq_some_iff.mp H
   obtain ⟨t146, A710, H⟩ := H
   replace H : (if t146 = true then ((laws_markMatrix.f kj10 t120 t121 t122 t123 1).bind fun bt147 => (if bt147.1 < 0 then (laws_FnExactReducedForm.j1 kj10 t115 t118 t133 true a0_0 a0_1 a0_2 l0_3 t109 t110 t111 t112 t127 t128 t129 t130) else ((laws_eqMatrix.f kj10 t127 t128 t129 t130 t109 t110 t111 t112).bind fun t149 => (if t149 = true then ((laws_eqInt64S.f kj10 t133 t115).bind fun t150 => (if t150 = true then (laws_FnExactReducedForm.j1 kj10 t115 t118 t133 (t136 != t118) a0_0 a0_1 a0_2 l0_3 t109 t110 t111 t112 t127 t128 t129 t130) else (laws_FnExactReducedForm.j1 kj10 t115 t118 t133 true a0_0 a0_1 a0_2 l0_3 t109 t110 t111 t112 t127 t128 t129 t130))) else (laws_FnExactReducedForm.j1 kj10 t115 t118 t133 true a0_0 a0_1 a0_2 l0_3 t109 t110 t111 t112 t127 t128 t129 t130))))) else (some false)) = some r := H
   have A71 := Z7.k A710
   clear A710
   by_cases c72 : t146 = true
   ·subst c72
    have H1 : ((laws_markMatrix.f kj10 t120 t121 t122 t123 1).bind fun bt147 => (if bt147.1 < 0 then (laws_FnExactReducedForm.j1 kj10 t115 t118 t133 true a0_0 a0_1 a0_2 l0_3 t109 t110 t111 t112 t127 t128 t129 t130) else ((laws_eqMatrix.f kj10 t127 t128 t129 t130 t109 t110 t111 t112).bind fun t149 => (if t149 = true then ((laws_eqInt64S.f kj10 t133 t115).bind fun t150 => (if t150 = true then (laws_FnExactReducedForm.j1 kj10 t115 t118 t133 (t136 != t118) a0_0 a0_1 a0_2 l0_3 t109 t110 t111 t112 t127 t128 t129 t130) else (laws_FnExactReducedForm.j1 kj10 t115 t118 t133 true a0_0 a0_1 a0_2 l0_3 t109 t110 t111 t112 t127 t128 t129 t130))) else (laws_FnExactReducedForm.j1 kj10 t115 t118 t133 true a0_0 a0_1 a0_2 l0_3 t109 t110 t111 t112 t127 t128 t129 t130))))) = some r := by rw [if_pos rfl] at H; exact H
    clear H
    have H := H1
    clear H1
    replace H := Option.bind_eq_some_iff.mp H
    obtain ⟨⟨t147, t148⟩, A730, H⟩ := H
    replace H : (if t147 < 0 then (laws_FnExactReducedForm.j1 kj10 t115 t118 t133 true a0_0 a0_1 a0_2 l0_3 t109 t110 t111 t112 t127 t128 t129 t130) else ((laws_eqMatrix.f kj10 t127 t128 t129 t130 t109 t110 t111 t112).bind fun t149 => (if t149 = true then ((laws_eqInt64S.f kj10 t133 t115).bind fun t150 => (if t150 = true then (laws_FnExactReducedForm.j1 kj10 t115 t118 t133 (t136 != t118) a0_0 a0_1 a0_2 l0_3 t109 t110 t111 t112 t127 t128 t129 t130) else (laws_FnExactReducedForm.j1 kj10 t115 t118 t133 true a0_0 a0_1 a0_2 l0_3 t109 t110 t111 t112 t127 t128 t129 t130))) else (laws_FnExactReducedForm.j1 kj10 t115 t118 t133 true a0_0 a0_1 a0_2 l0_3 t109 t110 t111 t112 t127 t128 t129 t130)))) = some r := H
    have A73 := Z7.k A730
    clear A730
    have HC74 := Z7.k H
    clear H
    try go_wp2
    have n0_ := Z7.k (Kd.R_drew HO_5.out)
    have n1_ := Z7.k (Kd.R_drew HO_9.out)
    have n2_ := Z7.k (Kd.R_drew HO_120003.out)
    have n3_ := Z7.k (Kd.R_drew HO_127003.out)
    have n4_ := Z7.k (Kd.R_drew HO_138003.out)
    have n5_ := Z7.k (blk_drew BK101.out)
    have n6_ := Z7.k (blk_drew BK119.out)
    have n7_ := Z7.k (blk_drew BK126.out)
    have n8_ := Z7.k (blk_drew BK137.out)
    have n9_ := Z7.k (below_drew1 HB.out)
    clear HO_5 HO_9 HO_120003 HO_127003 HO_138003 BK101 BK119 BK126 BK137 HB
    have HO_5 := n0_
    have HO_9 := n1_
    have HO_120003 := n2_
    have HO_127003 := n3_
    have HO_138003 := n4_
    have BK101 := n5_
    have BK119 := n6_
    have BK126 := n7_
    have BK137 := n8_
    have HB := n9_
    clear n0_ n1_ n2_ n3_ n4_ n5_ n6_ n7_ n8_ n9_
    refine start_ (n := 5) (S := fun w' => w'.cell? ⟨gb126, 0, none⟩ = some (.int .i64 t120) ∧ w'.cell? ⟨gb126, 1, none⟩ = some (.int .i64 t121) ∧ w'.cell? ⟨gb126, 2, none⟩ = some (.int .i64 t122) ∧ w'.cell? ⟨gb126, 3, none⟩ = some (.slice Ao29 t123.length co29) ∧ w'.cell? ⟨gb101, 0, none⟩ = some (.int .i64 a0_0) ∧ w'.cell? ⟨gb101, 1, none⟩ = some (.int .i64 a0_1) ∧ w'.cell? ⟨gb101, 2, none⟩ = some (.int .i64 a0_2) ∧ w'.cell? ⟨gb101, 3, none⟩ = some (.slice A0_3 l0_3.length c0_3)) (ds := []) #[false, false, false, false, false] (by kernel_rfl) rfl rfl Z7.z21 (fun hHeld => ?_)
    generalize wc.drew = w75 at HO_5 HO_9 HO_120003 HO_127003 HO_138003 BK101 BK119 BK126 BK137 HB hHeld ⊢
    refine take_ (i := 0) (N := some 52) (v := ?_) (a' := ?_) #[true, false, false, false, false] rfl rfl (by kernel_rfl) (fun _ _ _ h => h) (Or.inl ⟨(by rfl), ?_⟩) hHeld ?_ ?_
    rotate_left
    ·rintro w' ⟨s0, s1, s2, s3, s4, s5, s6, s7⟩
     go_simp
     with_reducible rfl
    rotate_left
    ·exact Z7.z55
    refine take_ (i := 1) (N := some 53) (v := ?_) (a' := ?_) #[true, true, false, false, false] rfl rfl (by kernel_rfl) (fun _ _ _ h => h) (Or.inl ⟨(by rfl), ?_⟩) hHeld ?_ ?_
    rotate_left
    ·rintro w' ⟨s0, s1, s2, s3, s4, s5, s6, s7⟩
     go_simp
     with_reducible rfl
    rotate_left
    ·exact Z7.z55
    refine one_ (i := 2) (N := some 54) #[true, true, true, false, false] rfl rfl (by kernel_rfl) (by decide) (fun K hK => ?_)
    refine goes_ Try.func10 (by kernel_rfl) rfl #[.agg #[.int .i64 a0_0, .int .i64 a0_1, .int .i64 a0_2, .slice A0_3 l0_3.length c0_3]] (by rfl) rfl rfl Z7.z3 ?_
    with_reducible refine (laws_toMatrix.calls kj10 a0_0 a0_1 a0_2 _ _ l0_3 t140 t141 t142 t143 _ ?side1 ?side2 A70.out).mono ?_
    (case side1 => exact Z7.z41)
    (case side2 => exact HC0_3.out)
    rintro e w76 ⟨v144, rfl, ho0, hb⟩
    refine ⟨_, rfl, ?_⟩
    have n0_ := Z7.k (Kd.R_elder' Z7.z18 (Kd.R_base ho0) hb)
    have n1_ := Z7.k (Kd.R_elder' Z7.z16 (Kd.R_base ho0) hb)
    have n2_ := Z7.k (Kd.R_elder' Z7.z13 (Kd.R_base ho0) hb)
    have n3_ := Z7.k (Kd.R_elder' Z7.z12 (Kd.R_base ho0) hb)
    have n4_ := Z7.k (Kd.R_elder' Z7.z11 (Kd.R_base ho0) hb)
    have n5_ := Z7.k (Kd.R_lower (Kd.R_new' (Kd.R_new' (Kd.R_new' (Kd.R_new' (Kd.R_new' ho0 (Kd.R_lt Z7.z18)) (Kd.R_lt Z7.z16)) (Kd.R_lt Z7.z13)) (Kd.R_lt Z7.z12)) (Kd.R_lt Z7.z11)) (below_size Z7.z0))
    have n6_ := Z7.k (Z7.bb BK101 Z7.z1 hb)
    have n7_ := Z7.k (Z7.bb BK119 Z7.z2 hb)
    have n8_ := Z7.k (Z7.bb BK126 Z7.z5 hb)
    have n9_ := Z7.k (Z7.bb BK137 Z7.z6 hb)
    have n10_ := Z7.k (below_step Z7.z0 hb)
    clear HO_5 HO_9 HO_120003 HO_127003 HO_138003 BK101 BK119 BK126 BK137 HB
    have HO_5 := n0_
    have HO_9 := n1_
    have HO_120003 := n2_
    have HO_127003 := n3_
    have HO_138003 := n4_
    have HO145 := n5_
    have BK101 := n6_
    have BK119 := n7_
    have BK126 := n8_
    have BK137 := n9_
    have HB := n10_
    clear n0_ n1_ n2_ n3_ n4_ n5_ n6_ n7_ n8_ n9_ n10_
    (try clear hb)
    (try clear hb2)
    (try clear hk)
    (try clear hi)
    (try clear ho0)
    obtain ⟨Ao77, co77, eo77⟩ := Kd.R_slice HO145.out
    (first | subst eo77 | (injection eo77 with f1_ f2_ f3_; have f4_ := f1_.symm; have f5_ := f3_.symm; clear f1_ f2_ f3_; subst f4_; subst f5_))
    refine hK.out _ _ Z7.z21 (fun hHeld => ?_)
    clear hK K
    refine norm_ (a' := ?_) ?_ ?_
    rotate_left
    ·show Act.put _ (some 54) _ = _
     simp only [Act.put, List.setIfInBounds_toArray, List.set_cons_zero, List.set_cons_succ, i64_w, i32_w]
     rfl
    refine one_ (i := 3) (N := some 55) #[true, true, true, true, false] rfl rfl (by kernel_rfl) (by decide) (fun K hK => ?_)
    refine goes_ Try.func12 (by kernel_rfl) rfl #[.agg #[.int .i64 t120, .int .i64 t121, .int .i64 t122, .slice Ao29 t123.length co29], .agg #[.int .i64 t140, .int .i64 t141, .int .i64 t142, .slice Ao77 t143.length co77]] (by rfl) rfl rfl Z7.z3 ?_
    with_reducible refine (laws_eqMatrix.calls kj10 t120 t121 t122 _ _ t123 t140 t141 t142 _ _ t143 true _ ?side1 ?side2 ?side3 ?side4 A71.out).mono ?_
    (case side1 => exact Z7.z90)
    (case side2 => exact (Kd.R_reads' HO_127003.out).2.1)
    (case side3 => exact Z7.z92)
    (case side4 => exact (Kd.R_reads' HO145.out).2.1)
    rintro e w78 ⟨rfl, hb⟩
    refine ⟨_, rfl, ?_⟩
    have n0_ := Z7.k (Kd.R_below Z7.z18 hb)
    have n1_ := Z7.k (Kd.R_below Z7.z16 hb)
    have n2_ := Z7.k (Kd.R_below Z7.z13 hb)
    have n3_ := Z7.k (Kd.R_below Z7.z12 hb)
    have n4_ := Z7.k (Kd.R_below Z7.z11 hb)
    have n5_ := Z7.k (Kd.R_below Z7.z63 hb)
    have n6_ := Z7.k (Z7.bb BK101 Z7.z1 hb)
    have n7_ := Z7.k (Z7.bb BK119 Z7.z2 hb)
    have n8_ := Z7.k (Z7.bb BK126 Z7.z5 hb)
    have n9_ := Z7.k (Z7.bb BK137 Z7.z6 hb)
    have n10_ := Z7.k (below_step Z7.z0 hb)
    clear HO_5 HO_9 HO_120003 HO_127003 HO_138003 HO145 BK101 BK119 BK126 BK137 HB
    have HO_5 := n0_
    have HO_9 := n1_
    have HO_120003 := n2_
    have HO_127003 := n3_
    have HO_138003 := n4_
    have HO145 := n5_
    have BK101 := n6_
    have BK119 := n7_
    have BK126 := n8_
    have BK137 := n9_
    have HB := n10_
    clear n0_ n1_ n2_ n3_ n4_ n5_ n6_ n7_ n8_ n9_ n10_
    (try clear hb)
    (try clear hb2)
    (try clear hk)
    (try clear hi)
    refine hK.out _ _ Z7.z21 (fun hHeld => ?_)
    clear hK K
    refine norm_ (a' := ?_) ?_ ?_
    rotate_left
    ·show Act.put _ (some 55) _ = _
     simp only [Act.put, List.setIfInBounds_toArray, List.set_cons_zero, List.set_cons_succ, i64_w, i32_w]
     rfl
    refine pure_ (i := 4) (N := some 56) (v := ?_) (a' := ?_) #[true, true, true, true, true] rfl rfl (by kernel_rfl) (fun _ _ _ h => h) (Or.inl ⟨(by rfl), ?_⟩) ?_ ?_
    rotate_left
    ·intro w'
     go_simp
     with_reducible rfl
    rotate_left
    ·exact Z7.z55
    refine done_ (by kernel_rfl) ?_
    have hnb79 := NB126_101.out
    have hnc79 := NB101_126.out
    have hnb80 := NB126_119.out
    have hnc80 := NB119_126.out
    have hnb81 := NB126_137.out
    have hnc81 := NB137_126.out
    have hcz82_0 : w78.cell? ⟨gb126, 0, none⟩ = some (.int .i64 t120) := (blk_cell BK126.out 0).trans rfl
    have hcz82_1 : w78.cell? ⟨gb126, 1, none⟩ = some (.int .i64 t121) := (blk_cell BK126.out 1).trans rfl
    have hcz82_2 : w78.cell? ⟨gb126, 2, none⟩ = some (.int .i64 t122) := (blk_cell BK126.out 2).trans rfl
    have hcz82_3 : w78.cell? ⟨gb126, 3, none⟩ = some (.slice Ao29 t123.length co29) := (blk_cell BK126.out 3).trans rfl
    have hfz82_0 := blk_frozen BK126.out 0
    have hfz82_1 := blk_frozen BK126.out 1
    have hfz82_2 := blk_frozen BK126.out 2
    have hfz82_3 := blk_frozen BK126.out 3
    go_upto_region 14 with (first | ((with_reducible refine gate_callee (f := 17) rfl ?_); refine goesL_ (some 59) rfl rfl Try.func17 (by kernel_rfl) rfl #[.agg #[.int .i64 t120, .int .i64 t121, .int .i64 t122, .slice Ao29 t123.length co29], .int .i64 1] rfl Z7.z3 ?_; (with_reducible refine (laws_markMatrix.calls kj10 t120 t121 t122 (fun k_ => some k_ = (.slice Ao29 t123.length co29 : Value).ownBlock) (.slice Ao29 t123.length co29) t123 1 t147 t148 w _ ?side1 ?side2 A73.out).mono ?_); (case side1 => exact Z7.z0); (case side2 => exact Kd.R_tight rfl HO_127003.out); rintro e w83 ⟨rfl, hy0, hb, hkp⟩; refine ⟨_, rfl, ?_⟩; have n0_ := Z7.k (Kd.R_mono (ok' := fun k_ => some k_ ≠ (v134 : Value).ownBlock ∧ some k_ ≠ (.slice Ao22 t112.length co22 : Value).ownBlock ∧ some k_ ≠ (.slice Ao29 t123.length co29 : Value).ownBlock ∧ some k_ ≠ (.slice Ao36 t130.length co36 : Value).ownBlock ∧ some k_ ≠ (.slice Ao77 t143.length co77 : Value).ownBlock) (Kd.R_keptB (HO_5.out) hkp (fun k_ hk_ hs_ => (hk_.1.2.2.1) hs_)) (fun k_ hk_ => ⟨hk_.1.1.1, hk_.1.1.2.1, hk_.1.1.2.2.1, hk_.1.1.2.2.2, hk_.1.2⟩)); have n1_ := Z7.k (Kd.R_mono (ok' := fun k_ => some k_ ≠ (v116 : Value).ownBlock ∧ some k_ ≠ (.slice Ao22 t112.length co22 : Value).ownBlock ∧ some k_ ≠ (.slice Ao29 t123.length co29 : Value).ownBlock ∧ some k_ ≠ (.slice Ao36 t130.length co36 : Value).ownBlock ∧ some k_ ≠ (.slice Ao77 t143.length co77 : Value).ownBlock) (Kd.R_keptB (HO_9.out) hkp (fun k_ hk_ hs_ => (hk_.1.2.2.1) hs_)) (fun k_ hk_ => ⟨hk_.1.1.1, hk_.1.1.2.1, hk_.1.1.2.2.1, hk_.1.1.2.2.2, hk_.1.2⟩)); have n2_ := Z7.k (Kd.R_mono (ok' := fun k_ => some k_ ≠ (v116 : Value).ownBlock ∧ some k_ ≠ (v134 : Value).ownBlock ∧ some k_ ≠ (.slice Ao29 t123.length co29 : Value).ownBlock ∧ some k_ ≠ (.slice Ao36 t130.length co36 : Value).ownBlock ∧ some k_ ≠ (.slice Ao77 t143.length co77 : Value).ownBlock) (Kd.R_keptB (HO_120003.out) hkp (fun k_ hk_ hs_ => (hk_.1.2.2.1) hs_)) (fun k_ hk_ => ⟨hk_.1.1.1, hk_.1.1.2.1, hk_.1.1.2.2.1, hk_.1.1.2.2.2, hk_.1.2⟩)); have n3_ := Z7.k (Kd.R_reok rfl hy0 (fun k_ e_ => HO_127003.out.1 k_ e_)); have n4_ := Z7.k (Kd.R_mono (ok' := fun k_ => some k_ ≠ (v116 : Value).ownBlock ∧ some k_ ≠ (v134 : Value).ownBlock ∧ some k_ ≠ (.slice Ao22 t112.length co22 : Value).ownBlock ∧ some k_ ≠ (.slice Ao29 t123.length co29 : Value).ownBlock ∧ some k_ ≠ (.slice Ao77 t143.length co77 : Value).ownBlock) (Kd.R_keptB (HO_138003.out) hkp (fun k_ hk_ hs_ => (hk_.1.2.2.2) hs_)) (fun k_ hk_ => ⟨hk_.1.1.1, hk_.1.1.2.1, hk_.1.1.2.2.1, hk_.1.1.2.2.2, hk_.1.2⟩)); have n5_ := Z7.k (blk_kept Z7.z1 hkp (fun hs_ => (fun e_ => (Kd.R_ne HO_127003.out BK101.out (by decide)) e_) hs_)); have n6_ := Z7.k (blk_kept Z7.z2 hkp (fun hs_ => (fun e_ => (Kd.R_ne HO_127003.out BK119.out (by decide)) e_) hs_)); have n7_ := Z7.k (blk_kept Z7.z5 hkp (fun hs_ => (fun e_ => (Kd.R_ne HO_127003.out BK126.out (by decide)) e_) hs_)); have n8_ := Z7.k (blk_kept Z7.z6 hkp (fun hs_ => (fun e_ => (Kd.R_ne HO_127003.out BK137.out (by decide)) e_) hs_)); have n9_ := Z7.k (Kd.R_mono (ok' := fun k_ => some k_ ≠ (v116 : Value).ownBlock ∧ some k_ ≠ (v134 : Value).ownBlock ∧ some k_ ≠ (.slice Ao22 t112.length co22 : Value).ownBlock ∧ some k_ ≠ (.slice Ao29 t123.length co29 : Value).ownBlock ∧ some k_ ≠ (.slice Ao36 t130.length co36 : Value).ownBlock) (Kd.R_keptB (HO145.out) hkp (fun k_ hk_ hs_ => (hk_.1.2) hs_)) (fun k_ hk_ => ⟨hk_.1.1.1.1.1.2, hk_.1.1.1.1.2, hk_.1.1.1.2, hk_.1.1.2, hk_.1.2⟩)); have n10_ := Z7.k (hb); clear HO_5 HO_9 HO_120003 HO_127003 HO_138003 BK101 BK119 BK126 BK137 HO145 HB; have HO_5 := n0_; have HO_9 := n1_; have HO_120003 := n2_; have HO_127003 := n3_; have HO_138003 := n4_; have BK101 := n5_; have BK119 := n6_; have BK126 := n7_; have BK137 := n8_; have HO145 := n9_; have HB := n10_; clear n0_ n1_ n2_ n3_ n4_ n5_ n6_ n7_ n8_ n9_ n10_; (try clear hb); (try clear hkp); (try clear hy0)))
    (try simp only [Act.put, List.setIfInBounds_toArray, List.set_cons_zero, List.set_cons_succ])
    go_cut [78] (fun v78 wc => ∃ (kq : Nat) (x78_73 : Bool), v78 = .bool x78_73 ∧ Aside0 (laws_FnExactReducedForm.j1 kq t115 t118 t133 x78_73 a0_0 a0_1 a0_2 l0_3 t109 t110 t111 t112 t127 t128 t129 t130 = some r) ∧ Aside0 (kq ≤ kj10) ∧ Aside0 (Kd.R (Kd.int .i64) 2 wc w.heap.size (fun k_ => some k_ ≠ (v134 : Value).ownBlock ∧ some k_ ≠ ((.slice Ao22 t112.length co22) : Value).ownBlock ∧ some k_ ≠ ((.slice Ao29 t123.length co29) : Value).ownBlock ∧ some k_ ≠ ((.slice Ao36 t130.length co36) : Value).ownBlock) v116 t115) ∧ Aside0 (Kd.R (Kd.int .i64) 2 wc w.heap.size (fun k_ => some k_ ≠ (v116 : Value).ownBlock ∧ some k_ ≠ ((.slice Ao22 t112.length co22) : Value).ownBlock ∧ some k_ ≠ ((.slice Ao29 t123.length co29) : Value).ownBlock ∧ some k_ ≠ ((.slice Ao36 t130.length co36) : Value).ownBlock) v134 t133) ∧ Aside0 (Kd.R (Kd.int .i64) 2 wc w.heap.size (fun k_ => some k_ ≠ (v116 : Value).ownBlock ∧ some k_ ≠ (v134 : Value).ownBlock ∧ some k_ ≠ ((.slice Ao29 t123.length co29) : Value).ownBlock ∧ some k_ ≠ ((.slice Ao36 t130.length co36) : Value).ownBlock) (.slice Ao22 t112.length co22) t112) ∧ Aside0 (Kd.R (Kd.int .i64) 2 wc w.heap.size (fun k_ => some k_ ≠ (v116 : Value).ownBlock ∧ some k_ ≠ (v134 : Value).ownBlock ∧ some k_ ≠ ((.slice Ao22 t112.length co22) : Value).ownBlock ∧ some k_ ≠ ((.slice Ao36 t130.length co36) : Value).ownBlock) (.slice Ao29 t123.length co29) t148) ∧ Aside0 (Kd.R (Kd.int .i64) 2 wc w.heap.size (fun k_ => some k_ ≠ (v116 : Value).ownBlock ∧ some k_ ≠ (v134 : Value).ownBlock ∧ some k_ ≠ ((.slice Ao22 t112.length co22) : Value).ownBlock ∧ some k_ ≠ ((.slice Ao29 t123.length co29) : Value).ownBlock) (.slice Ao36 t130.length co36) t130) ∧ Aside0 (wc.heap[gb101]? = some (.cells #[.int .i64 a0_0, .int .i64 a0_1, .int .i64 a0_2, (.slice A0_3 l0_3.length c0_3)] 24 (0, 0))) ∧ Aside0 (wc.heap[gb119]? = some (.cells #[.int .i64 t109, .int .i64 t110, .int .i64 t111, (.slice Ao22 t112.length co22)] 28 (0, 0))) ∧ Aside0 (wc.heap[gb126]? = some (.cells #[.int .i64 t120, .int .i64 t121, .int .i64 t122, (.slice Ao29 t123.length co29)] 28 (0, 0))) ∧ Aside0 (wc.heap[gb137]? = some (.cells #[.int .i64 t127, .int .i64 t128, .int .i64 t129, (.slice Ao36 t130.length co36)] 28 (0, 0))) ∧ Aside0 (Below w.heap.size w wc))
    case first =>
     have H := HC74.out
     clear HC74
     by_cases c84 : t147 < 0
     ·rw [if_pos c84] at H
      have c84b0 : decide (t147 < 0) = true := decide_eq_true c84
      clear c84
      (first | rw [c84b0] | (simp only [i64_w, i32_w]; rw [c84b0]) | skip)
      have H' := Z7.k H
      clear H
      go_wp2
      go_meet
      case rel => exact ⟨_, (true), Z7.z86, H', ⟨(by have := HJ10.out; first | omega | exact Nat.le_refl _)⟩, ⟨Z7.z54⟩, ⟨Z7.z53⟩, ⟨Z7.z48⟩, ⟨Z7.z46⟩, ⟨Z7.z47⟩, ⟨Z7.z1⟩, ⟨Z7.z2⟩, ⟨Z7.z5⟩, ⟨Z7.z6⟩, ⟨Z7.z0⟩⟩
     rw [if_neg c84] at H
     have c84b0 : decide (t147 < 0) = false := decide_eq_false c84
     clear c84
     (first | rw [c84b0] | (simp only [i64_w, i32_w]; rw [c84b0]) | skip)
     replace H := Option.bind_eq_some_iff.mp H
     obtain ⟨t149, A850, H⟩ := H
     replace H : (if t149 = true then ((laws_eqInt64S.f kj10 t133 t115).bind fun t150 => (if t150 = true then (laws_FnExactReducedForm.j1 kj10 t115 t118 t133 (t136 != t118) a0_0 a0_1 a0_2 l0_3 t109 t110 t111 t112 t127 t128 t129 t130) else (laws_FnExactReducedForm.j1 kj10 t115 t118 t133 true a0_0 a0_1 a0_2 l0_3 t109 t110 t111 t112 t127 t128 t129 t130))) else (laws_FnExactReducedForm.j1 kj10 t115 t118 t133 true a0_0 a0_1 a0_2 l0_3 t109 t110 t111 t112 t127 t128 t129 t130)) = some r := H
     have A85 := Z7.k A850
     clear A850
     by_cases c86 : t149 = true
     ·subst c86
      have H1 : ((laws_eqInt64S.f kj10 t133 t115).bind fun t150 => (if t150 = true then (laws_FnExactReducedForm.j1 kj10 t115 t118 t133 (t136 != t118) a0_0 a0_1 a0_2 l0_3 t109 t110 t111 t112 t127 t128 t129 t130) else (laws_FnExactReducedForm.j1 kj10 t115 t118 t133 true a0_0 a0_1 a0_2 l0_3 t109 t110 t111 t112 t127 t128 t129 t130))) = some r := by rw [if_pos rfl] at H; exact H
      clear H
      have H := H1
      clear H1
      replace H := Option.bind_eq_some_iff.mp H
      obtain ⟨t150, A870, H⟩ := H
      replace H : (if t150 = true then (laws_FnExactReducedForm.j1 kj10 t115 t118 t133 (t136 != t118) a0_0 a0_1 a0_2 l0_3 t109 t110 t111 t112 t127 t128 t129 t130) else (laws_FnExactReducedForm.j1 kj10 t115 t118 t133 true a0_0 a0_1 a0_2 l0_3 t109 t110 t111 t112 t127 t128 t129 t130)) = some r := H
      have A87 := Z7.k A870
      clear A870
      by_cases c88 : t150 = true
      ·subst c88
       have H1 : (laws_FnExactReducedForm.j1 kj10 t115 t118 t133 (t136 != t118) a0_0 a0_1 a0_2 l0_3 t109 t110 t111 t112 t127 t128 t129 t130) = some r := by rw [if_pos rfl] at H; exact H
       clear H
       have H := H1
       clear H1
       have H' := Z7.k H
       clear H
       have hnb89 := NB137_101.out
       have hnc89 := NB101_137.out
       have hnb90 := NB137_119.out
       have hnc90 := NB119_137.out
       have hnb91 := NB137_126.out
       have hnc91 := NB126_137.out
       have hcz92_0 : w83.cell? ⟨gb137, 0, none⟩ = some (.int .i64 t127) := (blk_cell BK137.out 0).trans rfl
       have hcz92_1 : w83.cell? ⟨gb137, 1, none⟩ = some (.int .i64 t128) := (blk_cell BK137.out 1).trans rfl
       have hcz92_2 : w83.cell? ⟨gb137, 2, none⟩ = some (.int .i64 t129) := (blk_cell BK137.out 2).trans rfl
       have hcz92_3 : w83.cell? ⟨gb137, 3, none⟩ = some (.slice Ao36 t130.length co36) := (blk_cell BK137.out 3).trans rfl
       have hfz92_0 := blk_frozen BK137.out 0
       have hfz92_1 := blk_frozen BK137.out 1
       have hfz92_2 := blk_frozen BK137.out 2
       have hfz92_3 := blk_frozen BK137.out 3
       have hnb93 := NB119_101.out
       have hnc93 := NB101_119.out
       have hnb94 := NB119_126.out
       have hnc94 := NB126_119.out
       have hcz95_0 : w83.cell? ⟨gb119, 0, none⟩ = some (.int .i64 t109) := (blk_cell BK119.out 0).trans rfl
       have hcz95_1 : w83.cell? ⟨gb119, 1, none⟩ = some (.int .i64 t110) := (blk_cell BK119.out 1).trans rfl
       have hcz95_2 : w83.cell? ⟨gb119, 2, none⟩ = some (.int .i64 t111) := (blk_cell BK119.out 2).trans rfl
       have hcz95_3 : w83.cell? ⟨gb119, 3, none⟩ = some (.slice Ao22 t112.length co22) := (blk_cell BK119.out 3).trans rfl
       have hfz95_0 := blk_frozen BK119.out 0
       have hfz95_1 := blk_frozen BK119.out 1
       have hfz95_2 := blk_frozen BK119.out 2
       have hfz95_3 := blk_frozen BK119.out 3
       go_wp2_with (first | (go_at_call 12; (with_reducible refine (laws_eqMatrix.calls kj10 t127 t128 t129 _ _ t130 t109 t110 t111 _ _ t112 true _ ?side1 ?side2 ?side3 ?side4 A85.out).mono ?_); (case side1 => exact Z7.z17); (case side2 => exact (Kd.R_reads' HO_138003.out).2.1); (case side3 => exact Z7.z64); (case side4 => exact (Kd.R_reads' HO_120003.out).2.1); rintro e w96 ⟨rfl, hb⟩; have n0_ := Z7.k (Kd.R_below Z7.z18 hb); have n1_ := Z7.k (Kd.R_below Z7.z16 hb); have n2_ := Z7.k (Kd.R_below Z7.z13 hb); have n3_ := Z7.k (Kd.R_below Z7.z12 hb); have n4_ := Z7.k (Kd.R_below Z7.z11 hb); have n5_ := Z7.k (Kd.R_below Z7.z63 hb); have n6_ := Z7.k (Z7.bb BK101 Z7.z1 hb); have n7_ := Z7.k (Z7.bb BK119 Z7.z2 hb); have n8_ := Z7.k (Z7.bb BK126 Z7.z5 hb); have n9_ := Z7.k (Z7.bb BK137 Z7.z6 hb); have n10_ := Z7.k (below_step Z7.z0 hb); clear HO_5 HO_9 HO_120003 HO_127003 HO_138003 HO145 BK101 BK119 BK126 BK137 HB; have HO_5 := n0_; have HO_9 := n1_; have HO_120003 := n2_; have HO_127003 := n3_; have HO_138003 := n4_; have HO145 := n5_; have BK101 := n6_; have BK119 := n7_; have BK126 := n8_; have BK137 := n9_; have HB := n10_; clear n0_ n1_ n2_ n3_ n4_ n5_ n6_ n7_ n8_ n9_ n10_; (try clear hb); (try clear hb2); (try clear hk); (try clear hi); obtain ⟨Ao97, co97, eo97⟩ := Kd.R_slice HO_9.out; subst eo97; obtain ⟨Ao98, co98, eo98⟩ := Kd.R_slice HO_5.out; subst eo98) | (go_at_call 23; (with_reducible refine (laws_eqInt64S.calls kj10 _ _ t133 _ _ t115 true _ ?side1 ?side2 ?side3 ?side4 A87.out).mono ?_); (case side1 => exact Z7.z22); (case side2 => exact (Kd.R_reads' HO_9.out).2.1); (case side3 => exact Z7.z49); (case side4 => exact (Kd.R_reads' HO_5.out).2.1); rintro e w' ⟨rfl, ⟨nd, rfl⟩⟩))
       go_meet
       case rel => exact ⟨_, ((t136 != t118)), Z7.z86, H', ⟨(by have := HJ10.out; first | omega | exact Nat.le_refl _)⟩, ⟨Z7.z54⟩, ⟨Z7.z53⟩, ⟨Z7.z48⟩, ⟨Z7.z46⟩, ⟨Z7.z47⟩, ⟨Z7.z1⟩, ⟨Z7.z2⟩, ⟨Z7.z5⟩, ⟨Z7.z6⟩, ⟨Z7.z0⟩⟩
      replace c88 := Bool.eq_false_iff.mpr c88
      subst c88
      have H1 : (laws_FnExactReducedForm.j1 kj10 t115 t118 t133 true a0_0 a0_1 a0_2 l0_3 t109 t110 t111 t112 t127 t128 t129 t130) = some r := by rw [if_neg (show ¬ (false = true) by decide)] at H; exact H
      clear H
      have H := H1
      clear H1
      have H' := Z7.k H
      clear H
      have hnb99 := NB137_101.out
      have hnc99 := NB101_137.out
      have hnb100 := NB137_119.out
      have hnc100 := NB119_137.out
      have hnb101 := NB137_126.out
      have hnc101 := NB126_137.out
      have hcz102_0 : w83.cell? ⟨gb137, 0, none⟩ = some (.int .i64 t127) := (blk_cell BK137.out 0).trans rfl
      have hcz102_1 : w83.cell? ⟨gb137, 1, none⟩ = some (.int .i64 t128) := (blk_cell BK137.out 1).trans rfl
      have hcz102_2 : w83.cell? ⟨gb137, 2, none⟩ = some (.int .i64 t129) := (blk_cell BK137.out 2).trans rfl
      have hcz102_3 : w83.cell? ⟨gb137, 3, none⟩ = some (.slice Ao36 t130.length co36) := (blk_cell BK137.out 3).trans rfl
      have hfz102_0 := blk_frozen BK137.out 0
      have hfz102_1 := blk_frozen BK137.out 1
      have hfz102_2 := blk_frozen BK137.out 2
      have hfz102_3 := blk_frozen BK137.out 3
      have hnb103 := NB119_101.out
      have hnc103 := NB101_119.out
      have hnb104 := NB119_126.out
      have hnc104 := NB126_119.out
      have hcz105_0 : w83.cell? ⟨gb119, 0, none⟩ = some (.int .i64 t109) := (blk_cell BK119.out 0).trans rfl
      have hcz105_1 : w83.cell? ⟨gb119, 1, none⟩ = some (.int .i64 t110) := (blk_cell BK119.out 1).trans rfl
      have hcz105_2 : w83.cell? ⟨gb119, 2, none⟩ = some (.int .i64 t111) := (blk_cell BK119.out 2).trans rfl
      have hcz105_3 : w83.cell? ⟨gb119, 3, none⟩ = some (.slice Ao22 t112.length co22) := (blk_cell BK119.out 3).trans rfl
      have hfz105_0 := blk_frozen BK119.out 0
      have hfz105_1 := blk_frozen BK119.out 1
      have hfz105_2 := blk_frozen BK119.out 2
      have hfz105_3 := blk_frozen BK119.out 3
      go_wp2_with (first | (go_at_call 12; (with_reducible refine (laws_eqMatrix.calls kj10 t127 t128 t129 _ _ t130 t109 t110 t111 _ _ t112 true _ ?side1 ?side2 ?side3 ?side4 A85.out).mono ?_); (case side1 => exact Z7.z17); (case side2 => exact (Kd.R_reads' HO_138003.out).2.1); (case side3 => exact Z7.z64); (case side4 => exact (Kd.R_reads' HO_120003.out).2.1); rintro e w106 ⟨rfl, hb⟩; have n0_ := Z7.k (Kd.R_below Z7.z18 hb); have n1_ := Z7.k (Kd.R_below Z7.z16 hb); have n2_ := Z7.k (Kd.R_below Z7.z13 hb); have n3_ := Z7.k (Kd.R_below Z7.z12 hb); have n4_ := Z7.k (Kd.R_below Z7.z11 hb); have n5_ := Z7.k (Kd.R_below Z7.z63 hb); have n6_ := Z7.k (Z7.bb BK101 Z7.z1 hb); have n7_ := Z7.k (Z7.bb BK119 Z7.z2 hb); have n8_ := Z7.k (Z7.bb BK126 Z7.z5 hb); have n9_ := Z7.k (Z7.bb BK137 Z7.z6 hb); have n10_ := Z7.k (below_step Z7.z0 hb); clear HO_5 HO_9 HO_120003 HO_127003 HO_138003 HO145 BK101 BK119 BK126 BK137 HB; have HO_5 := n0_; have HO_9 := n1_; have HO_120003 := n2_; have HO_127003 := n3_; have HO_138003 := n4_; have HO145 := n5_; have BK101 := n6_; have BK119 := n7_; have BK126 := n8_; have BK137 := n9_; have HB := n10_; clear n0_ n1_ n2_ n3_ n4_ n5_ n6_ n7_ n8_ n9_ n10_; (try clear hb); (try clear hb2); (try clear hk); (try clear hi); obtain ⟨Ao107, co107, eo107⟩ := Kd.R_slice HO_9.out; subst eo107; obtain ⟨Ao108, co108, eo108⟩ := Kd.R_slice HO_5.out; subst eo108) | (go_at_call 23; (with_reducible refine (laws_eqInt64S.calls kj10 _ _ t133 _ _ t115 false _ ?side1 ?side2 ?side3 ?side4 A87.out).mono ?_); (case side1 => exact Z7.z22); (case side2 => exact (Kd.R_reads' HO_9.out).2.1); (case side3 => exact Z7.z49); (case side4 => exact (Kd.R_reads' HO_5.out).2.1); rintro e w' ⟨rfl, ⟨nd, rfl⟩⟩))
      go_meet
      case rel => exact ⟨_, (true), Z7.z86, H', ⟨(by have := HJ10.out; first | omega | exact Nat.le_refl _)⟩, ⟨Z7.z54⟩, ⟨Z7.z53⟩, ⟨Z7.z48⟩, ⟨Z7.z46⟩, ⟨Z7.z47⟩, ⟨Z7.z1⟩, ⟨Z7.z2⟩, ⟨Z7.z5⟩, ⟨Z7.z6⟩, ⟨Z7.z0⟩⟩
     replace c86 := Bool.eq_false_iff.mpr c86
     subst c86
     have H1 : (laws_FnExactReducedForm.j1 kj10 t115 t118 t133 true a0_0 a0_1 a0_2 l0_3 t109 t110 t111 t112 t127 t128 t129 t130) = some r := by rw [if_neg (show ¬ (false = true) by decide)] at H; exact H
     clear H
     have H := H1
     clear H1
     have H' := Z7.k H
     clear H
     have hnb109 := NB137_101.out
     have hnc109 := NB101_137.out
     have hnb110 := NB137_119.out
     have hnc110 := NB119_137.out
     have hnb111 := NB137_126.out
     have hnc111 := NB126_137.out
     have hcz112_0 : w83.cell? ⟨gb137, 0, none⟩ = some (.int .i64 t127) := (blk_cell BK137.out 0).trans rfl
     have hcz112_1 : w83.cell? ⟨gb137, 1, none⟩ = some (.int .i64 t128) := (blk_cell BK137.out 1).trans rfl
     have hcz112_2 : w83.cell? ⟨gb137, 2, none⟩ = some (.int .i64 t129) := (blk_cell BK137.out 2).trans rfl
     have hcz112_3 : w83.cell? ⟨gb137, 3, none⟩ = some (.slice Ao36 t130.length co36) := (blk_cell BK137.out 3).trans rfl
     have hfz112_0 := blk_frozen BK137.out 0
     have hfz112_1 := blk_frozen BK137.out 1
     have hfz112_2 := blk_frozen BK137.out 2
     have hfz112_3 := blk_frozen BK137.out 3
     have hnb113 := NB119_101.out
     have hnc113 := NB101_119.out
     have hnb114 := NB119_126.out
     have hnc114 := NB126_119.out
     have hcz115_0 : w83.cell? ⟨gb119, 0, none⟩ = some (.int .i64 t109) := (blk_cell BK119.out 0).trans rfl
     have hcz115_1 : w83.cell? ⟨gb119, 1, none⟩ = some (.int .i64 t110) := (blk_cell BK119.out 1).trans rfl
     have hcz115_2 : w83.cell? ⟨gb119, 2, none⟩ = some (.int .i64 t111) := (blk_cell BK119.out 2).trans rfl
     have hcz115_3 : w83.cell? ⟨gb119, 3, none⟩ = some (.slice Ao22 t112.length co22) := (blk_cell BK119.out 3).trans rfl
     have hfz115_0 := blk_frozen BK119.out 0
     have hfz115_1 := blk_frozen BK119.out 1
     have hfz115_2 := blk_frozen BK119.out 2
     have hfz115_3 := blk_frozen BK119.out 3
     go_wp2_with (first | (go_at_call 12; (with_reducible refine (laws_eqMatrix.calls kj10 t127 t128 t129 _ _ t130 t109 t110 t111 _ _ t112 false _ ?side1 ?side2 ?side3 ?side4 A85.out).mono ?_); (case side1 => exact Z7.z17); (case side2 => exact (Kd.R_reads' HO_138003.out).2.1); (case side3 => exact Z7.z64); (case side4 => exact (Kd.R_reads' HO_120003.out).2.1); rintro e w116 ⟨rfl, hb⟩; have n0_ := Z7.k (Kd.R_below Z7.z18 hb); have n1_ := Z7.k (Kd.R_below Z7.z16 hb); have n2_ := Z7.k (Kd.R_below Z7.z13 hb); have n3_ := Z7.k (Kd.R_below Z7.z12 hb); have n4_ := Z7.k (Kd.R_below Z7.z11 hb); have n5_ := Z7.k (Kd.R_below Z7.z63 hb); have n6_ := Z7.k (Z7.bb BK101 Z7.z1 hb); have n7_ := Z7.k (Z7.bb BK119 Z7.z2 hb); have n8_ := Z7.k (Z7.bb BK126 Z7.z5 hb); have n9_ := Z7.k (Z7.bb BK137 Z7.z6 hb); have n10_ := Z7.k (below_step Z7.z0 hb); clear HO_5 HO_9 HO_120003 HO_127003 HO_138003 HO145 BK101 BK119 BK126 BK137 HB; have HO_5 := n0_; have HO_9 := n1_; have HO_120003 := n2_; have HO_127003 := n3_; have HO_138003 := n4_; have HO145 := n5_; have BK101 := n6_; have BK119 := n7_; have BK126 := n8_; have BK137 := n9_; have HB := n10_; clear n0_ n1_ n2_ n3_ n4_ n5_ n6_ n7_ n8_ n9_ n10_; (try clear hb); (try clear hb2); (try clear hk); (try clear hi)))
     go_meet
     case rel => exact ⟨_, (true), Z7.z86, H', ⟨(by have := HJ10.out; first | omega | exact Nat.le_refl _)⟩, ⟨Z7.z54⟩, ⟨Z7.z53⟩, ⟨Z7.z48⟩, ⟨Z7.z46⟩, ⟨Z7.z47⟩, ⟨Z7.z1⟩, ⟨Z7.z2⟩, ⟨Z7.z5⟩, ⟨Z7.z6⟩, ⟨Z7.z0⟩⟩
    case rest =>
     clear HC74
     try clear c1
     try clear c2
     try clear p2
     try clear c3
     try clear c3b0
     try clear c4
     try clear c5
     try clear c6
     try clear c7
     try clear c8
     try clear c9
     try clear c10
     try clear c11
     try clear c12
     try clear c17
     try clear c20
     try clear c21
     try clear c22
     try clear c26
     try clear c27
     try clear c32
     try clear c33
     try clear c34
     try clear c38
     try clear c40
     try clear c41
     try clear c42
     try clear c43
     try clear c45
     try clear c46
     try clear c51
     try clear c52
     try clear c53
     try clear c55
     try clear c56
     try clear c61
     try clear c62
     try clear c63
     try clear c65
     try clear c66
     try clear c69
     try clear c72
     try clear c79
     try clear c80
     try clear c81
     try clear c84
     try clear c84b0
     try clear c86
     try clear c88
     try clear c89
     try clear c90
     try clear c91
     try clear c93
     try clear c94
     try clear c99
     try clear c100
     try clear c101
     try clear c103
     try clear c104
     try clear c109
     try clear c110
     try clear c111
     try clear c113
     try clear c114
     try clear hcz102_0
     try clear hcz102_1
     try clear hcz102_2
     try clear hcz102_3
     try clear hcz105_0
     try clear hcz105_1
     try clear hcz105_2
     try clear hcz105_3
     try clear hcz112_0
     try clear hcz112_1
     try clear hcz112_2
     try clear hcz112_3
     try clear hcz115_0
     try clear hcz115_1
     try clear hcz115_2
     try clear hcz115_3
     try clear hcz13_0
     try clear hcz13_1
     try clear hcz13_2
     try clear hcz13_3
     try clear hcz15_0
     try clear hcz15_1
     try clear hcz15_2
     try clear hcz15_3
     try clear hcz21_0
     try clear hcz21_1
     try clear hcz21_2
     try clear hcz21_3
     try clear hcz23_0
     try clear hcz23_1
     try clear hcz23_2
     try clear hcz23_3
     try clear hcz28_0
     try clear hcz28_1
     try clear hcz28_2
     try clear hcz28_3
     try clear hcz35_0
     try clear hcz35_1
     try clear hcz35_2
     try clear hcz35_3
     try clear hcz44_0
     try clear hcz44_1
     try clear hcz44_2
     try clear hcz44_3
     try clear hcz47_0
     try clear hcz47_1
     try clear hcz47_2
     try clear hcz47_3
     try clear hcz54_0
     try clear hcz54_1
     try clear hcz54_2
     try clear hcz54_3
     try clear hcz57_0
     try clear hcz57_1
     try clear hcz57_2
     try clear hcz57_3
     try clear hcz5_0
     try clear hcz5_1
     try clear hcz5_2
     try clear hcz5_3
     try clear hcz64_0
     try clear hcz64_1
     try clear hcz64_2
     try clear hcz64_3
     try clear hcz67_0
     try clear hcz67_1
     try clear hcz67_2
     try clear hcz67_3
     try clear hcz82_0
     try clear hcz82_1
     try clear hcz82_2
     try clear hcz82_3
     try clear hcz92_0
     try clear hcz92_1
     try clear hcz92_2
     try clear hcz92_3
     try clear hcz95_0
     try clear hcz95_1
     try clear hcz95_2
     try clear hcz95_3
     try clear hfz102_0
     try clear hfz102_1
     try clear hfz102_2
     try clear hfz102_3
     try clear hfz105_0
     try clear hfz105_1
     try clear hfz105_2
     try clear hfz105_3
     try clear hfz112_0
     try clear hfz112_1
     try clear hfz112_2
     try clear hfz112_3
     try clear hfz115_0
     try clear hfz115_1
     try clear hfz115_2
     try clear hfz115_3
     try clear hfz13_0
     try clear hfz13_1
     try clear hfz13_2
     try clear hfz13_3
     try clear hfz15_0
     try clear hfz15_1
     try clear hfz15_2
     try clear hfz15_3
     try clear hfz21_0
     try clear hfz21_1
     try clear hfz21_2
     try clear hfz21_3
     try clear hfz23_0
     try clear hfz23_1
     try clear hfz23_2
     try clear hfz23_3
     try clear hfz28_0
     try clear hfz28_1
     try clear hfz28_2
     try clear hfz28_3
     try clear hfz35_0
     try clear hfz35_1
     try clear hfz35_2
     try clear hfz35_3
     try clear hfz44_0
     try clear hfz44_1
     try clear hfz44_2
     try clear hfz44_3
     try clear hfz47_0
     try clear hfz47_1
     try clear hfz47_2
     try clear hfz47_3
     try clear hfz54_0
     try clear hfz54_1
     try clear hfz54_2
     try clear hfz54_3
     try clear hfz57_0
     try clear hfz57_1
     try clear hfz57_2
     try clear hfz57_3
     try clear hfz5_0
     try clear hfz5_1
     try clear hfz5_2
     try clear hfz5_3
     try clear hfz64_0
     try clear hfz64_1
     try clear hfz64_2
     try clear hfz64_3
     try clear hfz67_0
     try clear hfz67_1
     try clear hfz67_2
     try clear hfz67_3
     try clear hfz82_0
     try clear hfz82_1
     try clear hfz82_2
     try clear hfz82_3
     try clear hfz92_0
     try clear hfz92_1
     try clear hfz92_2
     try clear hfz92_3
     try clear hfz95_0
     try clear hfz95_1
     try clear hfz95_2
     try clear hfz95_3
     try clear p2
     obtain ⟨kq, x78_73, rfl, HA, HJ73, HO_5, HO_9, HO_120003, HO_127003, HO_138003, BK101, BK119, BK126, BK137, HB⟩ := hcut
     have hl127003_73 := (Kd.R_reads' HO_127003.out).1
     rw [hl127003_73] at HO_127003
     (try simp only [hl127003_73])
     (try simp only [hl127003_73] at BK101)
     (try simp only [hl127003_73] at BK119)
     (try simp only [hl127003_73] at BK126)
     (try simp only [hl127003_73] at BK137)
     (try simp only [hl127003_73] at HO_5)
     (try simp only [hl127003_73] at HO_9)
     (try simp only [hl127003_73] at HO_120003)
     (try simp only [hl127003_73] at HO_138003)
     cases kq with
     | zero => exact absurd HA.out (by simp [laws_FnExactReducedForm.j1])
     | succ kj73 =>
      have H := HA.out
      clear HA
      simp only [laws_FnExactReducedForm.j1] at H
      by_cases c117 : x78_73 = true
      ·subst c117
       have H1 : (some false) = some r := by rw [if_pos rfl] at H; exact H
       clear H
       have H := H1
       clear H1
       obtain rfl := Option.some.inj H
       go_wp2
       go_ret
       exact ⟨Z7.z40, Z7.z0⟩
      replace c117 := Bool.eq_false_iff.mpr c117
      subst c117
      have H1 : ((laws_markMatrix.f kj73 t127 t128 t129 t130 1).bind fun bt151 => ((laws_markInt64S.f kj73 t133 bt151.1).bind fun bt153 => ((laws_heldMatrix.f kj73 t127 t128 t129 bt151.2 1).bind fun t155 => (if t155 < 0 then (some false) else ((laws_heldInt64S.f kj73 bt153.2 t155).bind fun t156 => (if t156 < 0 then (some false) else (if t156 = bt153.1 then ((laws_toMatrix.f kj73 a0_0 a0_1 a0_2 l0_3).bind fun bt157 => ((impl_ReducedForm.f kj73 bt157.1 bt157.2.1 bt157.2.2.1 bt157.2.2.2).bind fun bt163 => ((laws_eqMatrix.f kj73 bt163.1 bt163.2.1 bt163.2.2.1 bt163.2.2.2.1 t109 t110 t111 t112).bind fun t174 => (if t174 = true then ((laws_eqInt64S.f kj73 bt163.2.2.2.2.1 t115).bind fun t175 => (if t175 = true then (laws_FnExactReducedForm.j2 kj73 bt153.2 bt153.1 (bt163.2.2.2.2.2 != t118) t127 t128 t129 bt151.2) else (laws_FnExactReducedForm.j2 kj73 bt153.2 bt153.1 true t127 t128 t129 bt151.2))) else (laws_FnExactReducedForm.j2 kj73 bt153.2 bt153.1 true t127 t128 t129 bt151.2))))) else (some false)))))))) = some r := by rw [if_neg (show ¬ (false = true) by decide)] at H; exact H
      clear H
      have H := H1
      clear H1
      replace H := Option.bind_eq_some_iff.mp H
      obtain ⟨⟨t151, t152⟩, A1180, H⟩ := H
      replace H : ((laws_markInt64S.f kj73 t133 t151).bind fun bt153 => ((laws_heldMatrix.f kj73 t127 t128 t129 t152 1).bind fun t155 => (if t155 < 0 then (some false) else ((laws_heldInt64S.f kj73 bt153.2 t155).bind fun t156 => (if t156 < 0 then (some false) else (if t156 = bt153.1 then ((laws_toMatrix.f kj73 a0_0 a0_1 a0_2 l0_3).bind fun bt157 => ((impl_ReducedForm.f kj73 bt157.1 bt157.2.1 bt157.2.2.1 bt157.2.2.2).bind fun bt163 => ((laws_eqMatrix.f kj73 bt163.1 bt163.2.1 bt163.2.2.1 bt163.2.2.2.1 t109 t110 t111 t112).bind fun t174 => (if t174 = true then ((laws_eqInt64S.f kj73 bt163.2.2.2.2.1 t115).bind fun t175 => (if t175 = true then (laws_FnExactReducedForm.j2 kj73 bt153.2 bt153.1 (bt163.2.2.2.2.2 != t118) t127 t128 t129 t152) else (laws_FnExactReducedForm.j2 kj73 bt153.2 bt153.1 true t127 t128 t129 t152))) else (laws_FnExactReducedForm.j2 kj73 bt153.2 bt153.1 true t127 t128 t129 t152))))) else (some false))))))) = some r := H
      have A118 := Z7.k A1180
      clear A1180
      replace H := Option.bind_eq_some_iff.mp H
      obtain ⟨⟨t153, t154⟩, A1190, H⟩ := H
      replace H : ((laws_heldMatrix.f kj73 t127 t128 t129 t152 1).bind fun t155 => (if t155 < 0 then (some false) else ((laws_heldInt64S.f kj73 t154 t155).bind fun t156 => (if t156 < 0 then (some false) else (if t156 = t153 then ((laws_toMatrix.f kj73 a0_0 a0_1 a0_2 l0_3).bind fun bt157 => ((impl_ReducedForm.f kj73 bt157.1 bt157.2.1 bt157.2.2.1 bt157.2.2.2).bind fun bt163 => ((laws_eqMatrix.f kj73 bt163.1 bt163.2.1 bt163.2.2.1 bt163.2.2.2.1 t109 t110 t111 t112).bind fun t174 => (if t174 = true then ((laws_eqInt64S.f kj73 bt163.2.2.2.2.1 t115).bind fun t175 => (if t175 = true then (laws_FnExactReducedForm.j2 kj73 t154 t153 (bt163.2.2.2.2.2 != t118) t127 t128 t129 t152) else (laws_FnExactReducedForm.j2 kj73 t154 t153 true t127 t128 t129 t152))) else (laws_FnExactReducedForm.j2 kj73 t154 t153 true t127 t128 t129 t152))))) else (some false)))))) = some r := H
      have A119 := Z7.k A1190
      clear A1190
      replace H := Option.bind_eq_some_iff.mp H
      obtain ⟨t155, A1200, H⟩ := H
      replace H : (if t155 < 0 then (some false) else ((laws_heldInt64S.f kj73 t154 t155).bind fun t156 => (if t156 < 0 then (some false) else (if t156 = t153 then ((laws_toMatrix.f kj73 a0_0 a0_1 a0_2 l0_3).bind fun bt157 => ((impl_ReducedForm.f kj73 bt157.1 bt157.2.1 bt157.2.2.1 bt157.2.2.2).bind fun bt163 => ((laws_eqMatrix.f kj73 bt163.1 bt163.2.1 bt163.2.2.1 bt163.2.2.2.1 t109 t110 t111 t112).bind fun t174 => (if t174 = true then ((laws_eqInt64S.f kj73 bt163.2.2.2.2.1 t115).bind fun t175 => (if t175 = true then (laws_FnExactReducedForm.j2 kj73 t154 t153 (bt163.2.2.2.2.2 != t118) t127 t128 t129 t152) else (laws_FnExactReducedForm.j2 kj73 t154 t153 true t127 t128 t129 t152))) else (laws_FnExactReducedForm.j2 kj73 t154 t153 true t127 t128 t129 t152))))) else (some false))))) = some r := H
      have A120 := Z7.k A1200
      clear A1200
      by_cases c121 : t155 < 0
      ·rw [if_pos c121] at H
       have c121b0 : decide (t155 < 0) = true := decide_eq_true c121
       clear c121
       obtain rfl := Option.some.inj H
       have hnb122 := NB137_101.out
       have hnc122 := NB101_137.out
       have hnb123 := NB137_119.out
       have hnc123 := NB119_137.out
       have hnb124 := NB137_126.out
       have hnc124 := NB126_137.out
       have hcz125_0 : wc.cell? ⟨gb137, 0, none⟩ = some (.int .i64 t127) := (blk_cell BK137.out 0).trans rfl
       have hcz125_1 : wc.cell? ⟨gb137, 1, none⟩ = some (.int .i64 t128) := (blk_cell BK137.out 1).trans rfl
       have hcz125_2 : wc.cell? ⟨gb137, 2, none⟩ = some (.int .i64 t129) := (blk_cell BK137.out 2).trans rfl
       have hcz125_3 : wc.cell? ⟨gb137, 3, none⟩ = some (.slice Ao36 t130.length co36) := (blk_cell BK137.out 3).trans rfl
       have hfz125_0 := blk_frozen BK137.out 0
       have hfz125_1 := blk_frozen BK137.out 1
       have hfz125_2 := blk_frozen BK137.out 2
       have hfz125_3 := blk_frozen BK137.out 3
       go_wp2_with (first | ((with_reducible refine gate_callee (f := 17) rfl ?_); refine goesL_ (some 81) rfl rfl Try.func17 (by kernel_rfl) rfl #[.agg #[.int .i64 t127, .int .i64 t128, .int .i64 t129, .slice Ao36 t130.length co36], .int .i64 1] rfl Z7.z3 ?_; (with_reducible refine (laws_markMatrix.calls kj73 t127 t128 t129 (fun k_ => some k_ = (.slice Ao36 t130.length co36 : Value).ownBlock) (.slice Ao36 t130.length co36) t130 1 t151 t152 w _ ?side1 ?side2 A118.out).mono ?_); (case side1 => exact Z7.z0); (case side2 => exact Kd.R_tight rfl HO_138003.out); rintro e w126 ⟨rfl, hy0, hb, hkp⟩; refine ⟨_, rfl, ?_⟩; have n0_ := Z7.k (Kd.R_mono (ok' := fun k_ => some k_ ≠ (v134 : Value).ownBlock ∧ some k_ ≠ (.slice Ao22 t112.length co22 : Value).ownBlock ∧ some k_ ≠ (.slice Ao29 t148.length co29 : Value).ownBlock ∧ some k_ ≠ (.slice Ao36 t130.length co36 : Value).ownBlock) (Kd.R_keptB (HO_5.out) hkp (fun k_ hk_ hs_ => (hk_.2.2.2) hs_)) (fun k_ hk_ => ⟨hk_.1.1, hk_.1.2.1, hk_.1.2.2.1, hk_.1.2.2.2⟩)); have n1_ := Z7.k (Kd.R_mono (ok' := fun k_ => some k_ ≠ (v116 : Value).ownBlock ∧ some k_ ≠ (.slice Ao22 t112.length co22 : Value).ownBlock ∧ some k_ ≠ (.slice Ao29 t148.length co29 : Value).ownBlock ∧ some k_ ≠ (.slice Ao36 t130.length co36 : Value).ownBlock) (Kd.R_keptB (HO_9.out) hkp (fun k_ hk_ hs_ => (hk_.2.2.2) hs_)) (fun k_ hk_ => ⟨hk_.1.1, hk_.1.2.1, hk_.1.2.2.1, hk_.1.2.2.2⟩)); have n2_ := Z7.k (Kd.R_mono (ok' := fun k_ => some k_ ≠ (v116 : Value).ownBlock ∧ some k_ ≠ (v134 : Value).ownBlock ∧ some k_ ≠ (.slice Ao29 t148.length co29 : Value).ownBlock ∧ some k_ ≠ (.slice Ao36 t130.length co36 : Value).ownBlock) (Kd.R_keptB (HO_120003.out) hkp (fun k_ hk_ hs_ => (hk_.2.2.2) hs_)) (fun k_ hk_ => ⟨hk_.1.1, hk_.1.2.1, hk_.1.2.2.1, hk_.1.2.2.2⟩)); have n3_ := Z7.k (Kd.R_mono (ok' := fun k_ => some k_ ≠ (v116 : Value).ownBlock ∧ some k_ ≠ (v134 : Value).ownBlock ∧ some k_ ≠ (.slice Ao22 t112.length co22 : Value).ownBlock ∧ some k_ ≠ (.slice Ao36 t130.length co36 : Value).ownBlock) (Kd.R_keptB (HO_127003.out) hkp (fun k_ hk_ hs_ => (hk_.2.2.2) hs_)) (fun k_ hk_ => ⟨hk_.1.1, hk_.1.2.1, hk_.1.2.2.1, hk_.1.2.2.2⟩)); have n4_ := Z7.k (Kd.R_reok rfl hy0 (fun k_ e_ => HO_138003.out.1 k_ e_)); have n5_ := Z7.k (blk_kept Z7.z1 hkp (fun hs_ => (fun e_ => (Kd.R_ne HO_138003.out BK101.out (by decide)) e_) hs_)); have n6_ := Z7.k (blk_kept Z7.z2 hkp (fun hs_ => (fun e_ => (Kd.R_ne HO_138003.out BK119.out (by decide)) e_) hs_)); have n7_ := Z7.k (blk_kept Z7.z5 hkp (fun hs_ => (fun e_ => (Kd.R_ne HO_138003.out BK126.out (by decide)) e_) hs_)); have n8_ := Z7.k (blk_kept Z7.z6 hkp (fun hs_ => (fun e_ => (Kd.R_ne HO_138003.out BK137.out (by decide)) e_) hs_)); have n9_ := Z7.k (hb); clear HO_5 HO_9 HO_120003 HO_127003 HO_138003 BK101 BK119 BK126 BK137 HB; have HO_5 := n0_; have HO_9 := n1_; have HO_120003 := n2_; have HO_127003 := n3_; have HO_138003 := n4_; have BK101 := n5_; have BK119 := n6_; have BK126 := n7_; have BK137 := n8_; have HB := n9_; clear n0_ n1_ n2_ n3_ n4_ n5_ n6_ n7_ n8_ n9_; (try clear hb); (try clear hkp); (try clear hy0); obtain ⟨Ao127, co127, eo127⟩ := Kd.R_slice HO_9.out; subst eo127) | ((with_reducible refine gate_callee (f := 24) rfl ?_); refine goesL_ (some 84) rfl rfl Try.func24 (by kernel_rfl) rfl #[.slice Ao127 t133.length co127, .int .i64 t151] rfl Z7.z3 ?_; (with_reducible refine (laws_markInt64S.calls kj73 (fun k_ => some k_ = (.slice Ao127 t133.length co127 : Value).ownBlock) (.slice Ao127 t133.length co127) t133 t151 t153 t154 w _ ?side1 ?side2 A119.out).mono ?_); (case side1 => exact Z7.z0); (case side2 => exact Kd.R_tight rfl HO_9.out); rintro e w128 ⟨rfl, hy0, hb, hkp⟩; refine ⟨_, rfl, ?_⟩; have n0_ := Z7.k (Kd.R_mono (ok' := fun k_ => some k_ ≠ (.slice Ao127 t133.length co127 : Value).ownBlock ∧ some k_ ≠ (.slice Ao22 t112.length co22 : Value).ownBlock ∧ some k_ ≠ (.slice Ao29 t148.length co29 : Value).ownBlock ∧ some k_ ≠ (.slice Ao36 t130.length co36 : Value).ownBlock) (Kd.R_keptB (HO_5.out) hkp (fun k_ hk_ hs_ => (hk_.1) hs_)) (fun k_ hk_ => ⟨hk_.1.1, hk_.1.2.1, hk_.1.2.2.1, hk_.1.2.2.2⟩)); have n1_ := Z7.k (Kd.R_reok rfl hy0 (fun k_ e_ => HO_9.out.1 k_ e_)); have n2_ := Z7.k (Kd.R_mono (ok' := fun k_ => some k_ ≠ (v116 : Value).ownBlock ∧ some k_ ≠ (.slice Ao127 t133.length co127 : Value).ownBlock ∧ some k_ ≠ (.slice Ao29 t148.length co29 : Value).ownBlock ∧ some k_ ≠ (.slice Ao36 t130.length co36 : Value).ownBlock) (Kd.R_keptB (HO_120003.out) hkp (fun k_ hk_ hs_ => (hk_.2.1) hs_)) (fun k_ hk_ => ⟨hk_.1.1, hk_.1.2.1, hk_.1.2.2.1, hk_.1.2.2.2⟩)); have n3_ := Z7.k (Kd.R_mono (ok' := fun k_ => some k_ ≠ (v116 : Value).ownBlock ∧ some k_ ≠ (.slice Ao127 t133.length co127 : Value).ownBlock ∧ some k_ ≠ (.slice Ao22 t112.length co22 : Value).ownBlock ∧ some k_ ≠ (.slice Ao36 t130.length co36 : Value).ownBlock) (Kd.R_keptB (HO_127003.out) hkp (fun k_ hk_ hs_ => (hk_.2.1) hs_)) (fun k_ hk_ => ⟨hk_.1.1, hk_.1.2.1, hk_.1.2.2.1, hk_.1.2.2.2⟩)); have n4_ := Z7.k (Kd.R_mono (ok' := fun k_ => some k_ ≠ (v116 : Value).ownBlock ∧ some k_ ≠ (.slice Ao127 t133.length co127 : Value).ownBlock ∧ some k_ ≠ (.slice Ao22 t112.length co22 : Value).ownBlock ∧ some k_ ≠ (.slice Ao29 t148.length co29 : Value).ownBlock) (Kd.R_keptB (HO_138003.out) hkp (fun k_ hk_ hs_ => (hk_.2.1) hs_)) (fun k_ hk_ => ⟨hk_.1.1, hk_.1.2.1, hk_.1.2.2.1, hk_.1.2.2.2⟩)); have n5_ := Z7.k (blk_kept Z7.z1 hkp (fun hs_ => (fun e_ => (Kd.R_ne HO_9.out BK101.out (by decide)) e_) hs_)); have n6_ := Z7.k (blk_kept Z7.z2 hkp (fun hs_ => (fun e_ => (Kd.R_ne HO_9.out BK119.out (by decide)) e_) hs_)); have n7_ := Z7.k (blk_kept Z7.z5 hkp (fun hs_ => (fun e_ => (Kd.R_ne HO_9.out BK126.out (by decide)) e_) hs_)); have n8_ := Z7.k (blk_kept Z7.z6 hkp (fun hs_ => (fun e_ => (Kd.R_ne HO_9.out BK137.out (by decide)) e_) hs_)); have n9_ := Z7.k (hb); clear HO_5 HO_9 HO_120003 HO_127003 HO_138003 BK101 BK119 BK126 BK137 HB; have HO_5 := n0_; have HO_9 := n1_; have HO_120003 := n2_; have HO_127003 := n3_; have HO_138003 := n4_; have BK101 := n5_; have BK119 := n6_; have BK126 := n7_; have BK137 := n8_; have HB := n9_; clear n0_ n1_ n2_ n3_ n4_ n5_ n6_ n7_ n8_ n9_; (try clear hb); (try clear hkp); (try clear hy0); have hcz129_0 : w128.cell? ⟨gb137, 0, none⟩ = some (.int .i64 t127) := (blk_cell BK137.out 0).trans rfl; have hcz129_1 : w128.cell? ⟨gb137, 1, none⟩ = some (.int .i64 t128) := (blk_cell BK137.out 1).trans rfl; have hcz129_2 : w128.cell? ⟨gb137, 2, none⟩ = some (.int .i64 t129) := (blk_cell BK137.out 2).trans rfl; have hcz129_3 : w128.cell? ⟨gb137, 3, none⟩ = some (.slice Ao36 t130.length co36) := (blk_cell BK137.out 3).trans rfl; have hfz129_0 := blk_frozen BK137.out 0; have hfz129_1 := blk_frozen BK137.out 1; have hfz129_2 := blk_frozen BK137.out 2; have hfz129_3 := blk_frozen BK137.out 3) | ((with_reducible refine gate_callee (f := 18) rfl ?_); refine goesL_ (some 87) rfl rfl Try.func18 (by kernel_rfl) rfl #[.agg #[.int .i64 t127, .int .i64 t128, .int .i64 t129, .slice Ao36 t152.length co36], .int .i64 1] rfl Z7.z44 ?_; (with_reducible refine (laws_heldMatrix.calls kj73 t127 t128 t129 _ _ t152 1 t155 _ ?side1 ?side2 A120.out).mono ?_); (case side1 => exact Z7.z17); (case side2 => exact Z7.z78); rintro e w130 ⟨rfl, hb⟩; refine ⟨_, rfl, ?_⟩; have n0_ := Z7.k (Kd.R_below Z7.z18 hb); have n1_ := Z7.k (Kd.R_below Z7.z16 hb); have n2_ := Z7.k (Kd.R_below Z7.z13 hb); have n3_ := Z7.k (Kd.R_below Z7.z12 hb); have n4_ := Z7.k (Kd.R_below Z7.z11 hb); have n5_ := Z7.k (Z7.bb BK101 Z7.z1 hb); have n6_ := Z7.k (Z7.bb BK119 Z7.z2 hb); have n7_ := Z7.k (Z7.bb BK126 Z7.z5 hb); have n8_ := Z7.k (Z7.bb BK137 Z7.z6 hb); have n9_ := Z7.k (below_step Z7.z0 hb); clear HO_5 HO_9 HO_120003 HO_127003 HO_138003 BK101 BK119 BK126 BK137 HB; have HO_5 := n0_; have HO_9 := n1_; have HO_120003 := n2_; have HO_127003 := n3_; have HO_138003 := n4_; have BK101 := n5_; have BK119 := n6_; have BK126 := n7_; have BK137 := n8_; have HB := n9_; clear n0_ n1_ n2_ n3_ n4_ n5_ n6_ n7_ n8_ n9_; (try clear hb); (try clear hb2); (try clear hk); (try clear hi)))
       go_ret
       exact ⟨Z7.z40, Z7.z0⟩
      rw [if_neg c121] at H
      have c121b0 : decide (t155 < 0) = false := decide_eq_false c121
      clear c121
      replace H := Option.bind_eq_some_iff.mp H
      obtain ⟨t156, A1310, H⟩ := H
      replace H : (if t156 < 0 then (some false) else (if t156 = t153 then ((laws_toMatrix.f kj73 a0_0 a0_1 a0_2 l0_3).bind fun bt157 => ((impl_ReducedForm.f kj73 bt157.1 bt157.2.1 bt157.2.2.1 bt157.2.2.2).bind fun bt163 => ((laws_eqMatrix.f kj73 bt163.1 bt163.2.1 bt163.2.2.1 bt163.2.2.2.1 t109 t110 t111 t112).bind fun t174 => (if t174 = true then ((laws_eqInt64S.f kj73 bt163.2.2.2.2.1 t115).bind fun t175 => (if t175 = true then (laws_FnExactReducedForm.j2 kj73 t154 t153 (bt163.2.2.2.2.2 != t118) t127 t128 t129 t152) else (laws_FnExactReducedForm.j2 kj73 t154 t153 true t127 t128 t129 t152))) else (laws_FnExactReducedForm.j2 kj73 t154 t153 true t127 t128 t129 t152))))) else (some false))) = some r := H
      have A131 := Z7.k A1310
      clear A1310
      by_cases c132 : t156 < 0
      ·rw [if_pos c132] at H
       have c132b0 : decide (t156 < 0) = true := decide_eq_true c132
       clear c132
       obtain rfl := Option.some.inj H
       have hnb133 := NB137_101.out
       have hnc133 := NB101_137.out
       have hnb134 := NB137_119.out
       have hnc134 := NB119_137.out
       have hnb135 := NB137_126.out
       have hnc135 := NB126_137.out
       have hcz136_0 : wc.cell? ⟨gb137, 0, none⟩ = some (.int .i64 t127) := (blk_cell BK137.out 0).trans rfl
       have hcz136_1 : wc.cell? ⟨gb137, 1, none⟩ = some (.int .i64 t128) := (blk_cell BK137.out 1).trans rfl
       have hcz136_2 : wc.cell? ⟨gb137, 2, none⟩ = some (.int .i64 t129) := (blk_cell BK137.out 2).trans rfl
       have hcz136_3 : wc.cell? ⟨gb137, 3, none⟩ = some (.slice Ao36 t130.length co36) := (blk_cell BK137.out 3).trans rfl
       have hfz136_0 := blk_frozen BK137.out 0
       have hfz136_1 := blk_frozen BK137.out 1
       have hfz136_2 := blk_frozen BK137.out 2
       have hfz136_3 := blk_frozen BK137.out 3
       go_wp2_with (first | ((with_reducible refine gate_callee (f := 17) rfl ?_); refine goesL_ (some 81) rfl rfl Try.func17 (by kernel_rfl) rfl #[.agg #[.int .i64 t127, .int .i64 t128, .int .i64 t129, .slice Ao36 t130.length co36], .int .i64 1] rfl Z7.z3 ?_; (with_reducible refine (laws_markMatrix.calls kj73 t127 t128 t129 (fun k_ => some k_ = (.slice Ao36 t130.length co36 : Value).ownBlock) (.slice Ao36 t130.length co36) t130 1 t151 t152 w _ ?side1 ?side2 A118.out).mono ?_); (case side1 => exact Z7.z0); (case side2 => exact Kd.R_tight rfl HO_138003.out); rintro e w137 ⟨rfl, hy0, hb, hkp⟩; refine ⟨_, rfl, ?_⟩; have n0_ := Z7.k (Kd.R_mono (ok' := fun k_ => some k_ ≠ (v134 : Value).ownBlock ∧ some k_ ≠ (.slice Ao22 t112.length co22 : Value).ownBlock ∧ some k_ ≠ (.slice Ao29 t148.length co29 : Value).ownBlock ∧ some k_ ≠ (.slice Ao36 t130.length co36 : Value).ownBlock) (Kd.R_keptB (HO_5.out) hkp (fun k_ hk_ hs_ => (hk_.2.2.2) hs_)) (fun k_ hk_ => ⟨hk_.1.1, hk_.1.2.1, hk_.1.2.2.1, hk_.1.2.2.2⟩)); have n1_ := Z7.k (Kd.R_mono (ok' := fun k_ => some k_ ≠ (v116 : Value).ownBlock ∧ some k_ ≠ (.slice Ao22 t112.length co22 : Value).ownBlock ∧ some k_ ≠ (.slice Ao29 t148.length co29 : Value).ownBlock ∧ some k_ ≠ (.slice Ao36 t130.length co36 : Value).ownBlock) (Kd.R_keptB (HO_9.out) hkp (fun k_ hk_ hs_ => (hk_.2.2.2) hs_)) (fun k_ hk_ => ⟨hk_.1.1, hk_.1.2.1, hk_.1.2.2.1, hk_.1.2.2.2⟩)); have n2_ := Z7.k (Kd.R_mono (ok' := fun k_ => some k_ ≠ (v116 : Value).ownBlock ∧ some k_ ≠ (v134 : Value).ownBlock ∧ some k_ ≠ (.slice Ao29 t148.length co29 : Value).ownBlock ∧ some k_ ≠ (.slice Ao36 t130.length co36 : Value).ownBlock) (Kd.R_keptB (HO_120003.out) hkp (fun k_ hk_ hs_ => (hk_.2.2.2) hs_)) (fun k_ hk_ => ⟨hk_.1.1, hk_.1.2.1, hk_.1.2.2.1, hk_.1.2.2.2⟩)); have n3_ := Z7.k (Kd.R_mono (ok' := fun k_ => some k_ ≠ (v116 : Value).ownBlock ∧ some k_ ≠ (v134 : Value).ownBlock ∧ some k_ ≠ (.slice Ao22 t112.length co22 : Value).ownBlock ∧ some k_ ≠ (.slice Ao36 t130.length co36 : Value).ownBlock) (Kd.R_keptB (HO_127003.out) hkp (fun k_ hk_ hs_ => (hk_.2.2.2) hs_)) (fun k_ hk_ => ⟨hk_.1.1, hk_.1.2.1, hk_.1.2.2.1, hk_.1.2.2.2⟩)); have n4_ := Z7.k (Kd.R_reok rfl hy0 (fun k_ e_ => HO_138003.out.1 k_ e_)); have n5_ := Z7.k (blk_kept Z7.z1 hkp (fun hs_ => (fun e_ => (Kd.R_ne HO_138003.out BK101.out (by decide)) e_) hs_)); have n6_ := Z7.k (blk_kept Z7.z2 hkp (fun hs_ => (fun e_ => (Kd.R_ne HO_138003.out BK119.out (by decide)) e_) hs_)); have n7_ := Z7.k (blk_kept Z7.z5 hkp (fun hs_ => (fun e_ => (Kd.R_ne HO_138003.out BK126.out (by decide)) e_) hs_)); have n8_ := Z7.k (blk_kept Z7.z6 hkp (fun hs_ => (fun e_ => (Kd.R_ne HO_138003.out BK137.out (by decide)) e_) hs_)); have n9_ := Z7.k (hb); clear HO_5 HO_9 HO_120003 HO_127003 HO_138003 BK101 BK119 BK126 BK137 HB; have HO_5 := n0_; have HO_9 := n1_; have HO_120003 := n2_; have HO_127003 := n3_; have HO_138003 := n4_; have BK101 := n5_; have BK119 := n6_; have BK126 := n7_; have BK137 := n8_; have HB := n9_; clear n0_ n1_ n2_ n3_ n4_ n5_ n6_ n7_ n8_ n9_; (try clear hb); (try clear hkp); (try clear hy0); obtain ⟨Ao138, co138, eo138⟩ := Kd.R_slice HO_9.out; subst eo138) | ((with_reducible refine gate_callee (f := 24) rfl ?_); refine goesL_ (some 84) rfl rfl Try.func24 (by kernel_rfl) rfl #[.slice Ao138 t133.length co138, .int .i64 t151] rfl Z7.z3 ?_; (with_reducible refine (laws_markInt64S.calls kj73 (fun k_ => some k_ = (.slice Ao138 t133.length co138 : Value).ownBlock) (.slice Ao138 t133.length co138) t133 t151 t153 t154 w _ ?side1 ?side2 A119.out).mono ?_); (case side1 => exact Z7.z0); (case side2 => exact Kd.R_tight rfl HO_9.out); rintro e w139 ⟨rfl, hy0, hb, hkp⟩; refine ⟨_, rfl, ?_⟩; have n0_ := Z7.k (Kd.R_mono (ok' := fun k_ => some k_ ≠ (.slice Ao138 t133.length co138 : Value).ownBlock ∧ some k_ ≠ (.slice Ao22 t112.length co22 : Value).ownBlock ∧ some k_ ≠ (.slice Ao29 t148.length co29 : Value).ownBlock ∧ some k_ ≠ (.slice Ao36 t130.length co36 : Value).ownBlock) (Kd.R_keptB (HO_5.out) hkp (fun k_ hk_ hs_ => (hk_.1) hs_)) (fun k_ hk_ => ⟨hk_.1.1, hk_.1.2.1, hk_.1.2.2.1, hk_.1.2.2.2⟩)); have n1_ := Z7.k (Kd.R_reok rfl hy0 (fun k_ e_ => HO_9.out.1 k_ e_)); have n2_ := Z7.k (Kd.R_mono (ok' := fun k_ => some k_ ≠ (v116 : Value).ownBlock ∧ some k_ ≠ (.slice Ao138 t133.length co138 : Value).ownBlock ∧ some k_ ≠ (.slice Ao29 t148.length co29 : Value).ownBlock ∧ some k_ ≠ (.slice Ao36 t130.length co36 : Value).ownBlock) (Kd.R_keptB (HO_120003.out) hkp (fun k_ hk_ hs_ => (hk_.2.1) hs_)) (fun k_ hk_ => ⟨hk_.1.1, hk_.1.2.1, hk_.1.2.2.1, hk_.1.2.2.2⟩)); have n3_ := Z7.k (Kd.R_mono (ok' := fun k_ => some k_ ≠ (v116 : Value).ownBlock ∧ some k_ ≠ (.slice Ao138 t133.length co138 : Value).ownBlock ∧ some k_ ≠ (.slice Ao22 t112.length co22 : Value).ownBlock ∧ some k_ ≠ (.slice Ao36 t130.length co36 : Value).ownBlock) (Kd.R_keptB (HO_127003.out) hkp (fun k_ hk_ hs_ => (hk_.2.1) hs_)) (fun k_ hk_ => ⟨hk_.1.1, hk_.1.2.1, hk_.1.2.2.1, hk_.1.2.2.2⟩)); have n4_ := Z7.k (Kd.R_mono (ok' := fun k_ => some k_ ≠ (v116 : Value).ownBlock ∧ some k_ ≠ (.slice Ao138 t133.length co138 : Value).ownBlock ∧ some k_ ≠ (.slice Ao22 t112.length co22 : Value).ownBlock ∧ some k_ ≠ (.slice Ao29 t148.length co29 : Value).ownBlock) (Kd.R_keptB (HO_138003.out) hkp (fun k_ hk_ hs_ => (hk_.2.1) hs_)) (fun k_ hk_ => ⟨hk_.1.1, hk_.1.2.1, hk_.1.2.2.1, hk_.1.2.2.2⟩)); have n5_ := Z7.k (blk_kept Z7.z1 hkp (fun hs_ => (fun e_ => (Kd.R_ne HO_9.out BK101.out (by decide)) e_) hs_)); have n6_ := Z7.k (blk_kept Z7.z2 hkp (fun hs_ => (fun e_ => (Kd.R_ne HO_9.out BK119.out (by decide)) e_) hs_)); have n7_ := Z7.k (blk_kept Z7.z5 hkp (fun hs_ => (fun e_ => (Kd.R_ne HO_9.out BK126.out (by decide)) e_) hs_)); have n8_ := Z7.k (blk_kept Z7.z6 hkp (fun hs_ => (fun e_ => (Kd.R_ne HO_9.out BK137.out (by decide)) e_) hs_)); have n9_ := Z7.k (hb); clear HO_5 HO_9 HO_120003 HO_127003 HO_138003 BK101 BK119 BK126 BK137 HB; have HO_5 := n0_; have HO_9 := n1_; have HO_120003 := n2_; have HO_127003 := n3_; have HO_138003 := n4_; have BK101 := n5_; have BK119 := n6_; have BK126 := n7_; have BK137 := n8_; have HB := n9_; clear n0_ n1_ n2_ n3_ n4_ n5_ n6_ n7_ n8_ n9_; (try clear hb); (try clear hkp); (try clear hy0); have hcz140_0 : w139.cell? ⟨gb137, 0, none⟩ = some (.int .i64 t127) := (blk_cell BK137.out 0).trans rfl; have hcz140_1 : w139.cell? ⟨gb137, 1, none⟩ = some (.int .i64 t128) := (blk_cell BK137.out 1).trans rfl; have hcz140_2 : w139.cell? ⟨gb137, 2, none⟩ = some (.int .i64 t129) := (blk_cell BK137.out 2).trans rfl; have hcz140_3 : w139.cell? ⟨gb137, 3, none⟩ = some (.slice Ao36 t130.length co36) := (blk_cell BK137.out 3).trans rfl; have hfz140_0 := blk_frozen BK137.out 0; have hfz140_1 := blk_frozen BK137.out 1; have hfz140_2 := blk_frozen BK137.out 2; have hfz140_3 := blk_frozen BK137.out 3) | ((with_reducible refine gate_callee (f := 18) rfl ?_); refine goesL_ (some 87) rfl rfl Try.func18 (by kernel_rfl) rfl #[.agg #[.int .i64 t127, .int .i64 t128, .int .i64 t129, .slice Ao36 t152.length co36], .int .i64 1] rfl Z7.z44 ?_; (with_reducible refine (laws_heldMatrix.calls kj73 t127 t128 t129 _ _ t152 1 t155 _ ?side1 ?side2 A120.out).mono ?_); (case side1 => exact Z7.z17); (case side2 => exact Z7.z78); rintro e w141 ⟨rfl, hb⟩; refine ⟨_, rfl, ?_⟩; have n0_ := Z7.k (Kd.R_below Z7.z18 hb); have n1_ := Z7.k (Kd.R_below Z7.z16 hb); have n2_ := Z7.k (Kd.R_below Z7.z13 hb); have n3_ := Z7.k (Kd.R_below Z7.z12 hb); have n4_ := Z7.k (Kd.R_below Z7.z11 hb); have n5_ := Z7.k (Z7.bb BK101 Z7.z1 hb); have n6_ := Z7.k (Z7.bb BK119 Z7.z2 hb); have n7_ := Z7.k (Z7.bb BK126 Z7.z5 hb); have n8_ := Z7.k (Z7.bb BK137 Z7.z6 hb); have n9_ := Z7.k (below_step Z7.z0 hb); clear HO_5 HO_9 HO_120003 HO_127003 HO_138003 BK101 BK119 BK126 BK137 HB; have HO_5 := n0_; have HO_9 := n1_; have HO_120003 := n2_; have HO_127003 := n3_; have HO_138003 := n4_; have BK101 := n5_; have BK119 := n6_; have BK126 := n7_; have BK137 := n8_; have HB := n9_; clear n0_ n1_ n2_ n3_ n4_ n5_ n6_ n7_ n8_ n9_; (try clear hb); (try clear hb2); (try clear hk); (try clear hi)) | ((with_reducible refine gate_callee (f := 25) rfl ?_); refine goesL_ (some 92) rfl rfl Try.func25 (by kernel_rfl) rfl #[.slice Ao138 t154.length co138, .int .i64 t155] rfl Z7.z60 ?_; (with_reducible refine (laws_heldInt64S.calls kj73 _ _ t154 t155 t156 _ ?side1 ?side2 A131.out).mono ?_); (case side1 => exact Z7.z22); (case side2 => exact Z7.z87); rintro e w' ⟨rfl, ⟨nd, rfl⟩⟩; refine ⟨_, rfl, ?_⟩))
       go_ret
       exact ⟨Z7.z40, Z7.z0⟩
      rw [if_neg c132] at H
      have c132b0 : decide (t156 < 0) = false := decide_eq_false c132
      clear c132
      by_cases c142 : t156 = t153
      ·rw [if_pos c142] at H
       have c142b0 : (t156 == t153) = true := beq_iff_eq.mpr c142
       have c142b1 : (t156 != t153) = false := bne_eq_false_iff_eq.mpr c142
       clear c142
       replace H := Option.bind_eq_some_iff.mp H
       obtain ⟨⟨t157, t158, t159, t160⟩, A1430, H⟩ := H
       replace H : ((impl_ReducedForm.f kj73 t157 t158 t159 t160).bind fun bt163 => ((laws_eqMatrix.f kj73 bt163.1 bt163.2.1 bt163.2.2.1 bt163.2.2.2.1 t109 t110 t111 t112).bind fun t174 => (if t174 = true then ((laws_eqInt64S.f kj73 bt163.2.2.2.2.1 t115).bind fun t175 => (if t175 = true then (laws_FnExactReducedForm.j2 kj73 t154 t153 (bt163.2.2.2.2.2 != t118) t127 t128 t129 t152) else (laws_FnExactReducedForm.j2 kj73 t154 t153 true t127 t128 t129 t152))) else (laws_FnExactReducedForm.j2 kj73 t154 t153 true t127 t128 t129 t152)))) = some r := H
       have A143 := Z7.k A1430
       clear A1430
       replace H := Option.bind_eq_some_iff.mp H
       obtain ⟨⟨t163, t164, t165, t166, t169, t172⟩, A1440, H⟩ := H
       replace H : ((laws_eqMatrix.f kj73 t163 t164 t165 t166 t109 t110 t111 t112).bind fun t174 => (if t174 = true then ((laws_eqInt64S.f kj73 t169 t115).bind fun t175 => (if t175 = true then (laws_FnExactReducedForm.j2 kj73 t154 t153 (t172 != t118) t127 t128 t129 t152) else (laws_FnExactReducedForm.j2 kj73 t154 t153 true t127 t128 t129 t152))) else (laws_FnExactReducedForm.j2 kj73 t154 t153 true t127 t128 t129 t152))) = some r := H
       have A144 := Z7.k A1440
       clear A1440
       have HC145 := Z7.k H
       clear H
       have hnb146 := NB137_101.out
       have hnc146 := NB101_137.out
       have hnb147 := NB137_119.out
       have hnc147 := NB119_137.out
       have hnb148 := NB137_126.out
       have hnc148 := NB126_137.out
       have hcz149_0 : wc.cell? ⟨gb137, 0, none⟩ = some (.int .i64 t127) := (blk_cell BK137.out 0).trans rfl
       have hcz149_1 : wc.cell? ⟨gb137, 1, none⟩ = some (.int .i64 t128) := (blk_cell BK137.out 1).trans rfl
       have hcz149_2 : wc.cell? ⟨gb137, 2, none⟩ = some (.int .i64 t129) := (blk_cell BK137.out 2).trans rfl
       have hcz149_3 : wc.cell? ⟨gb137, 3, none⟩ = some (.slice Ao36 t130.length co36) := (blk_cell BK137.out 3).trans rfl
       have hfz149_0 := blk_frozen BK137.out 0
       have hfz149_1 := blk_frozen BK137.out 1
       have hfz149_2 := blk_frozen BK137.out 2
       have hfz149_3 := blk_frozen BK137.out 3
       go_upto_region 29 with (first | ((with_reducible refine gate_callee (f := 17) rfl ?_); refine goesL_ (some 81) rfl rfl Try.func17 (by kernel_rfl) rfl #[.agg #[.int .i64 t127, .int .i64 t128, .int .i64 t129, .slice Ao36 t130.length co36], .int .i64 1] rfl Z7.z3 ?_; (with_reducible refine (laws_markMatrix.calls kj73 t127 t128 t129 (fun k_ => some k_ = (.slice Ao36 t130.length co36 : Value).ownBlock) (.slice Ao36 t130.length co36) t130 1 t151 t152 w _ ?side1 ?side2 A118.out).mono ?_); (case side1 => exact Z7.z0); (case side2 => exact Kd.R_tight rfl HO_138003.out); rintro e w150 ⟨rfl, hy0, hb, hkp⟩; refine ⟨_, rfl, ?_⟩; have n0_ := Z7.k (Kd.R_mono (ok' := fun k_ => some k_ ≠ (v134 : Value).ownBlock ∧ some k_ ≠ (.slice Ao22 t112.length co22 : Value).ownBlock ∧ some k_ ≠ (.slice Ao29 t148.length co29 : Value).ownBlock ∧ some k_ ≠ (.slice Ao36 t130.length co36 : Value).ownBlock) (Kd.R_keptB (HO_5.out) hkp (fun k_ hk_ hs_ => (hk_.2.2.2) hs_)) (fun k_ hk_ => ⟨hk_.1.1, hk_.1.2.1, hk_.1.2.2.1, hk_.1.2.2.2⟩)); have n1_ := Z7.k (Kd.R_mono (ok' := fun k_ => some k_ ≠ (v116 : Value).ownBlock ∧ some k_ ≠ (.slice Ao22 t112.length co22 : Value).ownBlock ∧ some k_ ≠ (.slice Ao29 t148.length co29 : Value).ownBlock ∧ some k_ ≠ (.slice Ao36 t130.length co36 : Value).ownBlock) (Kd.R_keptB (HO_9.out) hkp (fun k_ hk_ hs_ => (hk_.2.2.2) hs_)) (fun k_ hk_ => ⟨hk_.1.1, hk_.1.2.1, hk_.1.2.2.1, hk_.1.2.2.2⟩)); have n2_ := Z7.k (Kd.R_mono (ok' := fun k_ => some k_ ≠ (v116 : Value).ownBlock ∧ some k_ ≠ (v134 : Value).ownBlock ∧ some k_ ≠ (.slice Ao29 t148.length co29 : Value).ownBlock ∧ some k_ ≠ (.slice Ao36 t130.length co36 : Value).ownBlock) (Kd.R_keptB (HO_120003.out) hkp (fun k_ hk_ hs_ => (hk_.2.2.2) hs_)) (fun k_ hk_ => ⟨hk_.1.1, hk_.1.2.1, hk_.1.2.2.1, hk_.1.2.2.2⟩)); have n3_ := Z7.k (Kd.R_mono (ok' := fun k_ => some k_ ≠ (v116 : Value).ownBlock ∧ some k_ ≠ (v134 : Value).ownBlock ∧ some k_ ≠ (.slice Ao22 t112.length co22 : Value).ownBlock ∧ some k_ ≠ (.slice Ao36 t130.length co36 : Value).ownBlock) (Kd.R_keptB (HO_127003.out) hkp (fun k_ hk_ hs_ => (hk_.2.2.2) hs_)) (fun k_ hk_ => ⟨hk_.1.1, hk_.1.2.1, hk_.1.2.2.1, hk_.1.2.2.2⟩)); have n4_ := Z7.k (Kd.R_reok rfl hy0 (fun k_ e_ => HO_138003.out.1 k_ e_)); have n5_ := Z7.k (blk_kept Z7.z1 hkp (fun hs_ => (fun e_ => (Kd.R_ne HO_138003.out BK101.out (by decide)) e_) hs_)); have n6_ := Z7.k (blk_kept Z7.z2 hkp (fun hs_ => (fun e_ => (Kd.R_ne HO_138003.out BK119.out (by decide)) e_) hs_)); have n7_ := Z7.k (blk_kept Z7.z5 hkp (fun hs_ => (fun e_ => (Kd.R_ne HO_138003.out BK126.out (by decide)) e_) hs_)); have n8_ := Z7.k (blk_kept Z7.z6 hkp (fun hs_ => (fun e_ => (Kd.R_ne HO_138003.out BK137.out (by decide)) e_) hs_)); have n9_ := Z7.k (hb); clear HO_5 HO_9 HO_120003 HO_127003 HO_138003 BK101 BK119 BK126 BK137 HB; have HO_5 := n0_; have HO_9 := n1_; have HO_120003 := n2_; have HO_127003 := n3_; have HO_138003 := n4_; have BK101 := n5_; have BK119 := n6_; have BK126 := n7_; have BK137 := n8_; have HB := n9_; clear n0_ n1_ n2_ n3_ n4_ n5_ n6_ n7_ n8_ n9_; (try clear hb); (try clear hkp); (try clear hy0); obtain ⟨Ao151, co151, eo151⟩ := Kd.R_slice HO_9.out; subst eo151) | ((with_reducible refine gate_callee (f := 24) rfl ?_); refine goesL_ (some 84) rfl rfl Try.func24 (by kernel_rfl) rfl #[.slice Ao151 t133.length co151, .int .i64 t151] rfl Z7.z3 ?_; (with_reducible refine (laws_markInt64S.calls kj73 (fun k_ => some k_ = (.slice Ao151 t133.length co151 : Value).ownBlock) (.slice Ao151 t133.length co151) t133 t151 t153 t154 w _ ?side1 ?side2 A119.out).mono ?_); (case side1 => exact Z7.z0); (case side2 => exact Kd.R_tight rfl HO_9.out); rintro e w152 ⟨rfl, hy0, hb, hkp⟩; refine ⟨_, rfl, ?_⟩; have n0_ := Z7.k (Kd.R_mono (ok' := fun k_ => some k_ ≠ (.slice Ao151 t133.length co151 : Value).ownBlock ∧ some k_ ≠ (.slice Ao22 t112.length co22 : Value).ownBlock ∧ some k_ ≠ (.slice Ao29 t148.length co29 : Value).ownBlock ∧ some k_ ≠ (.slice Ao36 t130.length co36 : Value).ownBlock) (Kd.R_keptB (HO_5.out) hkp (fun k_ hk_ hs_ => (hk_.1) hs_)) (fun k_ hk_ => ⟨hk_.1.1, hk_.1.2.1, hk_.1.2.2.1, hk_.1.2.2.2⟩)); have n1_ := Z7.k (Kd.R_reok rfl hy0 (fun k_ e_ => HO_9.out.1 k_ e_)); have n2_ := Z7.k (Kd.R_mono (ok' := fun k_ => some k_ ≠ (v116 : Value).ownBlock ∧ some k_ ≠ (.slice Ao151 t133.length co151 : Value).ownBlock ∧ some k_ ≠ (.slice Ao29 t148.length co29 : Value).ownBlock ∧ some k_ ≠ (.slice Ao36 t130.length co36 : Value).ownBlock) (Kd.R_keptB (HO_120003.out) hkp (fun k_ hk_ hs_ => (hk_.2.1) hs_)) (fun k_ hk_ => ⟨hk_.1.1, hk_.1.2.1, hk_.1.2.2.1, hk_.1.2.2.2⟩)); have n3_ := Z7.k (Kd.R_mono (ok' := fun k_ => some k_ ≠ (v116 : Value).ownBlock ∧ some k_ ≠ (.slice Ao151 t133.length co151 : Value).ownBlock ∧ some k_ ≠ (.slice Ao22 t112.length co22 : Value).ownBlock ∧ some k_ ≠ (.slice Ao36 t130.length co36 : Value).ownBlock) (Kd.R_keptB (HO_127003.out) hkp (fun k_ hk_ hs_ => (hk_.2.1) hs_)) (fun k_ hk_ => ⟨hk_.1.1, hk_.1.2.1, hk_.1.2.2.1, hk_.1.2.2.2⟩)); have n4_ := Z7.k (Kd.R_mono (ok' := fun k_ => some k_ ≠ (v116 : Value).ownBlock ∧ some k_ ≠ (.slice Ao151 t133.length co151 : Value).ownBlock ∧ some k_ ≠ (.slice Ao22 t112.length co22 : Value).ownBlock ∧ some k_ ≠ (.slice Ao29 t148.length co29 : Value).ownBlock) (Kd.R_keptB (HO_138003.out) hkp (fun k_ hk_ hs_ => (hk_.2.1) hs_)) (fun k_ hk_ => ⟨hk_.1.1, hk_.1.2.1, hk_.1.2.2.1, hk_.1.2.2.2⟩)); have n5_ := Z7.k (blk_kept Z7.z1 hkp (fun hs_ => (fun e_ => (Kd.R_ne HO_9.out BK101.out (by decide)) e_) hs_)); have n6_ := Z7.k (blk_kept Z7.z2 hkp (fun hs_ => (fun e_ => (Kd.R_ne HO_9.out BK119.out (by decide)) e_) hs_)); have n7_ := Z7.k (blk_kept Z7.z5 hkp (fun hs_ => (fun e_ => (Kd.R_ne HO_9.out BK126.out (by decide)) e_) hs_)); have n8_ := Z7.k (blk_kept Z7.z6 hkp (fun hs_ => (fun e_ => (Kd.R_ne HO_9.out BK137.out (by decide)) e_) hs_)); have n9_ := Z7.k (hb); clear HO_5 HO_9 HO_120003 HO_127003 HO_138003 BK101 BK119 BK126 BK137 HB; have HO_5 := n0_; have HO_9 := n1_; have HO_120003 := n2_; have HO_127003 := n3_; have HO_138003 := n4_; have BK101 := n5_; have BK119 := n6_; have BK126 := n7_; have BK137 := n8_; have HB := n9_; clear n0_ n1_ n2_ n3_ n4_ n5_ n6_ n7_ n8_ n9_; (try clear hb); (try clear hkp); (try clear hy0); have hcz153_0 : w152.cell? ⟨gb137, 0, none⟩ = some (.int .i64 t127) := (blk_cell BK137.out 0).trans rfl; have hcz153_1 : w152.cell? ⟨gb137, 1, none⟩ = some (.int .i64 t128) := (blk_cell BK137.out 1).trans rfl; have hcz153_2 : w152.cell? ⟨gb137, 2, none⟩ = some (.int .i64 t129) := (blk_cell BK137.out 2).trans rfl; have hcz153_3 : w152.cell? ⟨gb137, 3, none⟩ = some (.slice Ao36 t130.length co36) := (blk_cell BK137.out 3).trans rfl; have hfz153_0 := blk_frozen BK137.out 0; have hfz153_1 := blk_frozen BK137.out 1; have hfz153_2 := blk_frozen BK137.out 2; have hfz153_3 := blk_frozen BK137.out 3) | ((with_reducible refine gate_callee (f := 18) rfl ?_); refine goesL_ (some 87) rfl rfl Try.func18 (by kernel_rfl) rfl #[.agg #[.int .i64 t127, .int .i64 t128, .int .i64 t129, .slice Ao36 t152.length co36], .int .i64 1] rfl Z7.z44 ?_; (with_reducible refine (laws_heldMatrix.calls kj73 t127 t128 t129 _ _ t152 1 t155 _ ?side1 ?side2 A120.out).mono ?_); (case side1 => exact Z7.z17); (case side2 => exact Z7.z78); rintro e w154 ⟨rfl, hb⟩; refine ⟨_, rfl, ?_⟩; have n0_ := Z7.k (Kd.R_below Z7.z18 hb); have n1_ := Z7.k (Kd.R_below Z7.z16 hb); have n2_ := Z7.k (Kd.R_below Z7.z13 hb); have n3_ := Z7.k (Kd.R_below Z7.z12 hb); have n4_ := Z7.k (Kd.R_below Z7.z11 hb); have n5_ := Z7.k (Z7.bb BK101 Z7.z1 hb); have n6_ := Z7.k (Z7.bb BK119 Z7.z2 hb); have n7_ := Z7.k (Z7.bb BK126 Z7.z5 hb); have n8_ := Z7.k (Z7.bb BK137 Z7.z6 hb); have n9_ := Z7.k (below_step Z7.z0 hb); clear HO_5 HO_9 HO_120003 HO_127003 HO_138003 BK101 BK119 BK126 BK137 HB; have HO_5 := n0_; have HO_9 := n1_; have HO_120003 := n2_; have HO_127003 := n3_; have HO_138003 := n4_; have BK101 := n5_; have BK119 := n6_; have BK126 := n7_; have BK137 := n8_; have HB := n9_; clear n0_ n1_ n2_ n3_ n4_ n5_ n6_ n7_ n8_ n9_; (try clear hb); (try clear hb2); (try clear hk); (try clear hi)) | ((with_reducible refine gate_callee (f := 25) rfl ?_); refine goesL_ (some 92) rfl rfl Try.func25 (by kernel_rfl) rfl #[.slice Ao151 t154.length co151, .int .i64 t155] rfl Z7.z60 ?_; (with_reducible refine (laws_heldInt64S.calls kj73 _ _ t154 t155 t156 _ ?side1 ?side2 A131.out).mono ?_); (case side1 => exact Z7.z22); (case side2 => exact Z7.z87); rintro e w' ⟨rfl, ⟨nd, rfl⟩⟩; refine ⟨_, rfl, ?_⟩; (try (rw [drewN_self w154]; generalize hq_ : World.drewN w154 _ = w154; have n0_ := Z7.k (laws_FnExactReducedForm.R_at hq_ HO_120003.out); have n1_ := Z7.k (laws_FnExactReducedForm.R_at hq_ HO_127003.out); have n2_ := Z7.k (laws_FnExactReducedForm.R_at hq_ HO_138003.out); have n3_ := Z7.k (laws_FnExactReducedForm.R_at hq_ HO_5.out); have n4_ := Z7.k (laws_FnExactReducedForm.R_at hq_ HO_9.out); have n5_ : Aside0 (w154.heap[gb101]? = some (.cells #[.int .i64 a0_0, .int .i64 a0_1, .int .i64 a0_2, .slice A0_3 l0_3.length c0_3] 24 (0, 0))) := ⟨(by rw [← hq_]; exact Z7.z1)⟩; have n6_ : Aside0 (w154.heap[gb119]? = some (.cells #[.int .i64 t109, .int .i64 t110, .int .i64 t111, .slice Ao22 t112.length co22] 28 (0, 0))) := ⟨(by rw [← hq_]; exact Z7.z2)⟩; have n7_ : Aside0 (w154.heap[gb126]? = some (.cells #[.int .i64 t120, .int .i64 t121, .int .i64 t122, .slice Ao29 t148.length co29] 28 (0, 0))) := ⟨(by rw [← hq_]; exact Z7.z5)⟩; have n8_ : Aside0 (w154.heap[gb137]? = some (.cells #[.int .i64 t127, .int .i64 t128, .int .i64 t129, .slice Ao36 t130.length co36] 28 (0, 0))) := ⟨(by rw [← hq_]; exact Z7.z6)⟩; have n9_ : Aside0 (Below w.heap.size w w154) := ⟨(by rw [← hq_]; exact Z7.z0)⟩; clear HO_120003 HO_127003 HO_138003 HO_5 HO_9 BK101 BK119 BK126 BK137 HB hq_; have HO_120003 := n0_; have HO_127003 := n1_; have HO_138003 := n2_; have HO_5 := n3_; have HO_9 := n4_; have BK101 := n5_; have BK119 := n6_; have BK126 := n7_; have BK137 := n8_; have HB := n9_; clear n0_ n1_ n2_ n3_ n4_ n5_ n6_ n7_ n8_ n9_)); have hnb155 := NB101_119.out; have hnc155 := NB119_101.out; have hnb156 := NB101_126.out; have hnc156 := NB126_101.out; have hcz157_0 : w154.cell? ⟨gb101, 0, none⟩ = some (.int .i64 a0_0) := (blk_cell BK101.out 0).trans rfl; have hcz157_1 : w154.cell? ⟨gb101, 1, none⟩ = some (.int .i64 a0_1) := (blk_cell BK101.out 1).trans rfl; have hcz157_2 : w154.cell? ⟨gb101, 2, none⟩ = some (.int .i64 a0_2) := (blk_cell BK101.out 2).trans rfl; have hcz157_3 : w154.cell? ⟨gb101, 3, none⟩ = some (.slice A0_3 l0_3.length c0_3) := (blk_cell BK101.out 3).trans rfl; have hfz157_0 := blk_frozen BK101.out 0; have hfz157_1 := blk_frozen BK101.out 1; have hfz157_2 := blk_frozen BK101.out 2; have hfz157_3 := blk_frozen BK101.out 3) | ((with_reducible refine gate_callee (f := 10) rfl ?_); refine goesL_ (some 100) rfl rfl Try.func10 (by kernel_rfl) rfl #[.agg #[.int .i64 a0_0, .int .i64 a0_1, .int .i64 a0_2, .slice A0_3 l0_3.length c0_3]] rfl Z7.z3 ?_; (with_reducible refine (laws_toMatrix.calls kj73 a0_0 a0_1 a0_2 _ _ l0_3 t157 t158 t159 t160 _ ?side1 ?side2 A143.out).mono ?_); (case side1 => exact Z7.z41); (case side2 => exact HC0_3.out); rintro e w158 ⟨v161, rfl, ho0, hb⟩; refine ⟨_, rfl, ?_⟩; have n0_ := Z7.k (Kd.R_elder' Z7.z18 (Kd.R_base ho0) hb); have n1_ := Z7.k (Kd.R_elder' Z7.z16 (Kd.R_base ho0) hb); have n2_ := Z7.k (Kd.R_elder' Z7.z13 (Kd.R_base ho0) hb); have n3_ := Z7.k (Kd.R_elder' Z7.z12 (Kd.R_base ho0) hb); have n4_ := Z7.k (Kd.R_elder' Z7.z11 (Kd.R_base ho0) hb); have n5_ := Z7.k (Kd.R_lower (Kd.R_new' (Kd.R_new' (Kd.R_new' (Kd.R_new' (Kd.R_new' ho0 (Kd.R_lt Z7.z18)) (Kd.R_lt Z7.z16)) (Kd.R_lt Z7.z13)) (Kd.R_lt Z7.z12)) (Kd.R_lt Z7.z11)) (below_size Z7.z0)); have n6_ := Z7.k (Z7.bb BK101 Z7.z1 hb); have n7_ := Z7.k (Z7.bb BK119 Z7.z2 hb); have n8_ := Z7.k (Z7.bb BK126 Z7.z5 hb); have n9_ := Z7.k (Z7.bb BK137 Z7.z6 hb); have n10_ := Z7.k (below_step Z7.z0 hb); clear HO_5 HO_9 HO_120003 HO_127003 HO_138003 BK101 BK119 BK126 BK137 HB; have HO_5 := n0_; have HO_9 := n1_; have HO_120003 := n2_; have HO_127003 := n3_; have HO_138003 := n4_; have HO162 := n5_; have BK101 := n6_; have BK119 := n7_; have BK126 := n8_; have BK137 := n9_; have HB := n10_; clear n0_ n1_ n2_ n3_ n4_ n5_ n6_ n7_ n8_ n9_ n10_; (try clear hb); (try clear hb2); (try clear hk); (try clear hi); (try clear ho0); obtain ⟨Ao159, co159, eo159⟩ := Kd.R_slice HO162.out; subst eo159) | ((with_reducible refine gate_callee (f := 22) rfl ?_); refine goesL_ (some 101) rfl rfl Try.func22 (by kernel_rfl) rfl #[.agg #[.int .i64 t157, .int .i64 t158, .int .i64 t159, .slice Ao159 t160.length co159]] rfl Z7.z3 ?_; (with_reducible refine (impl_ReducedForm.calls kj73 t157 t158 t159 _ _ t160 t163 t164 t165 t166 t169 t172 _ ?side1 ?side2 A144.out).mono ?_); (case side1 => exact (by repeat (first | exact (Kd.R_reads' HO162.out).2.2 | (with_reducible refine Kd.C_alloc ?_ _) | (with_reducible refine Kd.C_drewN ?_ _) | (with_reducible refine Kd.C_drew ?_)))); (case side2 => exact (Kd.R_reads' HO162.out).2.1); rintro e w160 ⟨v167, v170, rfl, ho0, ho1, hb⟩; refine ⟨_, rfl, ?_⟩; have n0_ := Z7.k (Kd.R_mono (Kd.R_told (Kd.R_told (Kd.R_old Z7.z18 hb) (Kd.R_base ho0)) (Kd.R_base ho1)) (fun _ h_ => h_.1)); have n1_ := Z7.k (Kd.R_mono (Kd.R_told (Kd.R_told (Kd.R_old Z7.z16 hb) (Kd.R_base ho0)) (Kd.R_base ho1)) (fun _ h_ => h_.1)); have n2_ := Z7.k (Kd.R_mono (Kd.R_told (Kd.R_told (Kd.R_old Z7.z13 hb) (Kd.R_base ho0)) (Kd.R_base ho1)) (fun _ h_ => h_.1)); have n3_ := Z7.k (Kd.R_mono (Kd.R_told (Kd.R_told (Kd.R_old Z7.z12 hb) (Kd.R_base ho0)) (Kd.R_base ho1)) (fun _ h_ => h_.1)); have n4_ := Z7.k (Kd.R_mono (Kd.R_told (Kd.R_told (Kd.R_old Z7.z11 hb) (Kd.R_base ho0)) (Kd.R_base ho1)) (fun _ h_ => h_.1)); have n5_ := Z7.k (Kd.R_mono (Kd.R_told (Kd.R_told (Kd.R_old Z7.z85 hb) (Kd.R_base ho0)) (Kd.R_base ho1)) (fun _ h_ => h_.1)); have n6_ := Z7.k (Kd.R_lower (Kd.R_new' (Kd.R_new' (Kd.R_new' (Kd.R_new' (Kd.R_new' (Kd.R_new' ho0 (Kd.R_lt Z7.z18)) (Kd.R_lt Z7.z16)) (Kd.R_lt Z7.z13)) (Kd.R_lt Z7.z12)) (Kd.R_lt Z7.z11)) (Kd.R_lt Z7.z85)) (below_size Z7.z0)); have n7_ := Z7.k (Kd.R_lower (Kd.R_new' (Kd.R_new' (Kd.R_new' (Kd.R_new' (Kd.R_new' (Kd.R_new' ho1 (Kd.R_lt Z7.z18)) (Kd.R_lt Z7.z16)) (Kd.R_lt Z7.z13)) (Kd.R_lt Z7.z12)) (Kd.R_lt Z7.z11)) (Kd.R_lt Z7.z85)) (below_size Z7.z0)); have n8_ := Z7.k (Z7.bb BK101 Z7.z1 hb); have n9_ := Z7.k (Z7.bb BK119 Z7.z2 hb); have n10_ := Z7.k (Z7.bb BK126 Z7.z5 hb); have n11_ := Z7.k (Z7.bb BK137 Z7.z6 hb); have n12_ := Z7.k (below_step Z7.z0 hb); clear HO_5 HO_9 HO_120003 HO_127003 HO_138003 HO162 BK101 BK119 BK126 BK137 HB; have HO_5 := n0_; have HO_9 := n1_; have HO_120003 := n2_; have HO_127003 := n3_; have HO_138003 := n4_; have HO162 := n5_; have HO168 := n6_; have HO171 := n7_; have BK101 := n8_; have BK119 := n9_; have BK126 := n10_; have BK137 := n11_; have HB := n12_; clear n0_ n1_ n2_ n3_ n4_ n5_ n6_ n7_ n8_ n9_ n10_ n11_ n12_; (try clear hb); (try clear hb2); (try clear hk); (try clear hi); (try clear ho0); (try clear ho1)) | ((with_reducible refine gate_dst (N := 14) rfl ?_); refine box_event ?hg (N := 14) ?hd (cs := #[.int .i64 0, .int .i64 0, .int .i64 0, .slice none 0 0]) (t := 28) ?hr ?_; (case hd => rfl); (case hg => rfl); (case hr => first | (go_simp; done) | (go_simp; rfl)); intro gb173 hg w161 hbox hb; have n0_ := Z7.k (Kd.R_below Z7.z18 hb); have n1_ := Z7.k (Kd.R_below Z7.z16 hb); have n2_ := Z7.k (Kd.R_below Z7.z13 hb); have n3_ := Z7.k (Kd.R_below Z7.z12 hb); have n4_ := Z7.k (Kd.R_below Z7.z11 hb); have n5_ := Z7.k (Kd.R_below Z7.z85 hb); have n6_ := Z7.k (Kd.R_below (by (with_reducible repeat (first | apply Kd.R_alloc | apply Kd.R_drewN | apply Kd.R_drew)); exact HO168.out) hb); have n7_ := Z7.k (Kd.R_below (by (with_reducible repeat (first | apply Kd.R_alloc | apply Kd.R_drewN | apply Kd.R_drew)); exact HO171.out) hb); have n8_ := Z7.k (Z7.bb BK101 Z7.z1 hb); have n9_ := Z7.k (Z7.bb BK119 Z7.z2 hb); have n10_ := Z7.k (Z7.bb BK126 Z7.z5 hb); have n11_ := Z7.k (Z7.bb BK137 Z7.z6 hb); have n12_ := Z7.k (below_step Z7.z0 hb); have n13_ := Z7.k (hbox); have n14_ := Z7.k (show w.heap.size ≤ gb173 from (by rw [hg]; exact (below_size Z7.z0))); have n15_ := Z7.k (show w.heap.size ≤ gb173 from (by rw [hg]; exact (below_size Z7.z0))); have n16_ := Z7.k (show gb101 ≠ gb173 from (by rw [hg]; exact Nat.ne_of_lt (Z7.bl BK101 Z7.z1))); have n17_ := Z7.k (show gb173 ≠ gb101 from (by rw [hg]; exact Nat.ne_of_gt (Z7.bl BK101 Z7.z1))); have n18_ := Z7.k (show gb119 ≠ gb173 from (by rw [hg]; exact Nat.ne_of_lt (Z7.bl BK119 Z7.z2))); have n19_ := Z7.k (show gb173 ≠ gb119 from (by rw [hg]; exact Nat.ne_of_gt (Z7.bl BK119 Z7.z2))); have n20_ := Z7.k (show gb126 ≠ gb173 from (by rw [hg]; exact Nat.ne_of_lt (Z7.bl BK126 Z7.z5))); have n21_ := Z7.k (show gb173 ≠ gb126 from (by rw [hg]; exact Nat.ne_of_gt (Z7.bl BK126 Z7.z5))); have n22_ := Z7.k (show gb137 ≠ gb173 from (by rw [hg]; exact Nat.ne_of_lt (Z7.bl BK137 Z7.z6))); have n23_ := Z7.k (show gb173 ≠ gb137 from (by rw [hg]; exact Nat.ne_of_gt (Z7.bl BK137 Z7.z6))); clear HO_5 HO_9 HO_120003 HO_127003 HO_138003 HO162 HO168 HO171 BK101 BK119 BK126 BK137 HB; have HO_5 := n0_; have HO_9 := n1_; have HO_120003 := n2_; have HO_127003 := n3_; have HO_138003 := n4_; have HO162 := n5_; have HO168 := n6_; have HO171 := n7_; have BK101 := n8_; have BK119 := n9_; have BK126 := n10_; have BK137 := n11_; have HB := n12_; have BK173 := n13_; have GW173 := n14_; have GE173 := n15_; have NB101_173 := n16_; have NB173_101 := n17_; have NB119_173 := n18_; have NB173_119 := n19_; have NB126_173 := n20_; have NB173_126 := n21_; have NB137_173 := n22_; have NB173_137 := n23_; clear n0_ n1_ n2_ n3_ n4_ n5_ n6_ n7_ n8_ n9_ n10_ n11_ n12_ n13_ n14_ n15_ n16_ n17_ n18_ n19_ n20_ n21_ n22_ n23_; clear hb hbox hg; have hnb162 := NB173_101.out; have hnc162 := NB101_173.out; have hnb163 := NB173_119.out; have hnc163 := NB119_173.out; have hnb164 := NB173_126.out; have hnc164 := NB126_173.out; have hnb165 := NB173_137.out; have hnc165 := NB137_173.out; have hcz166_0 : w161.cell? ⟨gb173, 0, none⟩ = some (.int .i64 0) := (blk_cell BK173.out 0).trans rfl; have hcz166_1 : w161.cell? ⟨gb173, 1, none⟩ = some (.int .i64 0) := (blk_cell BK173.out 1).trans rfl; have hcz166_2 : w161.cell? ⟨gb173, 2, none⟩ = some (.int .i64 0) := (blk_cell BK173.out 2).trans rfl; have hcz166_3 : w161.cell? ⟨gb173, 3, none⟩ = some (.slice none 0 0) := (blk_cell BK173.out 3).trans rfl; have hfz166_0 := blk_frozen BK173.out 0; have hfz166_1 := blk_frozen BK173.out 1; have hfz166_2 := blk_frozen BK173.out 2; have hfz166_3 := blk_frozen BK173.out 3; obtain ⟨Ao167, co167, eo167⟩ := Kd.R_slice HO168.out; subst eo167))
       (try simp only [Act.put, List.setIfInBounds_toArray, List.set_cons_zero, List.set_cons_succ])
       go_cut [119] (fun v119 wc => ∃ (kq : Nat) (x119_144 : Bool), v119 = .bool x119_144 ∧ Aside0 (laws_FnExactReducedForm.j2 kq t154 t153 x119_144 t127 t128 t129 t152 = some r) ∧ Aside0 (kq ≤ kj73) ∧ Aside0 (Kd.R (Kd.int .i64) 2 wc w.heap.size (fun k_ => some k_ ≠ ((.slice Ao22 t112.length co22) : Value).ownBlock ∧ some k_ ≠ ((.slice Ao29 t148.length co29) : Value).ownBlock ∧ some k_ ≠ ((.slice Ao36 t130.length co36) : Value).ownBlock ∧ some k_ ≠ ((.slice Ao167 t166.length co167) : Value).ownBlock) (.slice Ao151 t133.length co151) t154) ∧ Aside0 (Kd.R (Kd.int .i64) 2 wc w.heap.size (fun k_ => some k_ ≠ ((.slice Ao151 t133.length co151) : Value).ownBlock ∧ some k_ ≠ ((.slice Ao29 t148.length co29) : Value).ownBlock ∧ some k_ ≠ ((.slice Ao36 t130.length co36) : Value).ownBlock ∧ some k_ ≠ ((.slice Ao167 t166.length co167) : Value).ownBlock) (.slice Ao22 t112.length co22) t112) ∧ Aside0 (Kd.R (Kd.int .i64) 2 wc w.heap.size (fun k_ => some k_ ≠ ((.slice Ao151 t133.length co151) : Value).ownBlock ∧ some k_ ≠ ((.slice Ao22 t112.length co22) : Value).ownBlock ∧ some k_ ≠ ((.slice Ao36 t130.length co36) : Value).ownBlock ∧ some k_ ≠ ((.slice Ao167 t166.length co167) : Value).ownBlock) (.slice Ao29 t148.length co29) t148) ∧ Aside0 (Kd.R (Kd.int .i64) 2 wc w.heap.size (fun k_ => some k_ ≠ ((.slice Ao151 t133.length co151) : Value).ownBlock ∧ some k_ ≠ ((.slice Ao22 t112.length co22) : Value).ownBlock ∧ some k_ ≠ ((.slice Ao29 t148.length co29) : Value).ownBlock ∧ some k_ ≠ ((.slice Ao167 t166.length co167) : Value).ownBlock) (.slice Ao36 t130.length co36) t152) ∧ Aside0 (Kd.R (Kd.int .i64) 2 wc w.heap.size (fun k_ => some k_ ≠ ((.slice Ao151 t133.length co151) : Value).ownBlock ∧ some k_ ≠ ((.slice Ao22 t112.length co22) : Value).ownBlock ∧ some k_ ≠ ((.slice Ao29 t148.length co29) : Value).ownBlock ∧ some k_ ≠ ((.slice Ao36 t130.length co36) : Value).ownBlock) (.slice Ao167 t166.length co167) t166) ∧ Aside0 (wc.heap[gb101]? = some (.cells #[.int .i64 a0_0, .int .i64 a0_1, .int .i64 a0_2, (.slice A0_3 l0_3.length c0_3)] 24 (0, 0))) ∧ Aside0 (wc.heap[gb119]? = some (.cells #[.int .i64 t109, .int .i64 t110, .int .i64 t111, (.slice Ao22 t112.length co22)] 28 (0, 0))) ∧ Aside0 (wc.heap[gb126]? = some (.cells #[.int .i64 t120, .int .i64 t121, .int .i64 t122, (.slice Ao29 t148.length co29)] 28 (0, 0))) ∧ Aside0 (wc.heap[gb137]? = some (.cells #[.int .i64 t127, .int .i64 t128, .int .i64 t129, (.slice Ao36 t130.length co36)] 28 (0, 0))) ∧ Aside0 (wc.heap[gb173]? = some (.cells #[.int .i64 t163, .int .i64 t164, .int .i64 t165, (.slice Ao167 t166.length co167)] 28 (0, 0))) ∧ Aside0 (Below w.heap.size w wc))
       case first =>
        have H := HC145.out
        clear HC145
        replace H := Option.bind_eq_some_iff.mp H
        obtain ⟨t174, A1680, H⟩ := H
        replace H : (if t174 = true then ((laws_eqInt64S.f kj73 t169 t115).bind fun t175 => (if t175 = true then (laws_FnExactReducedForm.j2 kj73 t154 t153 (t172 != t118) t127 t128 t129 t152) else (laws_FnExactReducedForm.j2 kj73 t154 t153 true t127 t128 t129 t152))) else (laws_FnExactReducedForm.j2 kj73 t154 t153 true t127 t128 t129 t152)) = some r := H
        have A168 := Z7.k A1680
        clear A1680
        by_cases c169 : t174 = true
        ·subst c169
         have H1 : ((laws_eqInt64S.f kj73 t169 t115).bind fun t175 => (if t175 = true then (laws_FnExactReducedForm.j2 kj73 t154 t153 (t172 != t118) t127 t128 t129 t152) else (laws_FnExactReducedForm.j2 kj73 t154 t153 true t127 t128 t129 t152))) = some r := by rw [if_pos rfl] at H; exact H
         clear H
         have H := H1
         clear H1
         replace H := Option.bind_eq_some_iff.mp H
         obtain ⟨t175, A1700, H⟩ := H
         replace H : (if t175 = true then (laws_FnExactReducedForm.j2 kj73 t154 t153 (t172 != t118) t127 t128 t129 t152) else (laws_FnExactReducedForm.j2 kj73 t154 t153 true t127 t128 t129 t152)) = some r := H
         have A170 := Z7.k A1700
         clear A1700
         by_cases c171 : t175 = true
         ·subst c171
          have H1 : (laws_FnExactReducedForm.j2 kj73 t154 t153 (t172 != t118) t127 t128 t129 t152) = some r := by rw [if_pos rfl] at H; exact H
          clear H
          have H := H1
          clear H1
          have H' := Z7.k H
          clear H
          have hnb172 := NB173_101.out
          have hnc172 := NB101_173.out
          have hnb173 := NB173_119.out
          have hnc173 := NB119_173.out
          have hnb174 := NB173_126.out
          have hnc174 := NB126_173.out
          have hnb175 := NB173_137.out
          have hnc175 := NB137_173.out
          have hcz176_0 : w161.cell? ⟨gb173, 0, none⟩ = some (.int .i64 0) := (blk_cell BK173.out 0).trans rfl
          have hcz176_1 : w161.cell? ⟨gb173, 1, none⟩ = some (.int .i64 0) := (blk_cell BK173.out 1).trans rfl
          have hcz176_2 : w161.cell? ⟨gb173, 2, none⟩ = some (.int .i64 0) := (blk_cell BK173.out 2).trans rfl
          have hcz176_3 : w161.cell? ⟨gb173, 3, none⟩ = some (.slice none 0 0) := (blk_cell BK173.out 3).trans rfl
          have hfz176_0 := blk_frozen BK173.out 0
          have hfz176_1 := blk_frozen BK173.out 1
          have hfz176_2 := blk_frozen BK173.out 2
          have hfz176_3 := blk_frozen BK173.out 3
          have hnb177 := NB119_101.out
          have hnc177 := NB101_119.out
          have hnb178 := NB119_126.out
          have hnc178 := NB126_119.out
          have hnb179 := NB119_137.out
          have hnc179 := NB137_119.out
          have hcz180_0 : w161.cell? ⟨gb119, 0, none⟩ = some (.int .i64 t109) := (blk_cell BK119.out 0).trans rfl
          have hcz180_1 : w161.cell? ⟨gb119, 1, none⟩ = some (.int .i64 t110) := (blk_cell BK119.out 1).trans rfl
          have hcz180_2 : w161.cell? ⟨gb119, 2, none⟩ = some (.int .i64 t111) := (blk_cell BK119.out 2).trans rfl
          have hcz180_3 : w161.cell? ⟨gb119, 3, none⟩ = some (.slice Ao22 t112.length co22) := (blk_cell BK119.out 3).trans rfl
          have hfz180_0 := blk_frozen BK119.out 0
          have hfz180_1 := blk_frozen BK119.out 1
          have hfz180_2 := blk_frozen BK119.out 2
          have hfz180_3 := blk_frozen BK119.out 3
          go_wp2_with (first | ((with_reducible refine gate_callee (f := 12) rfl ?_); refine goesL_ (some 107) rfl rfl Try.func12 (by kernel_rfl) rfl #[.agg #[.int .i64 t163, .int .i64 t164, .int .i64 t165, .slice Ao167 t166.length co167], .agg #[.int .i64 t109, .int .i64 t110, .int .i64 t111, .slice Ao22 t112.length co22]] rfl Z7.z3 ?_; (with_reducible refine (laws_eqMatrix.calls kj73 t163 t164 t165 _ _ t166 t109 t110 t111 _ _ t112 true _ ?side1 ?side2 ?side3 ?side4 A168.out).mono ?_); (case side1 => exact Z7.z25); (case side2 => exact (Kd.R_reads' HO168.out).2.1); (case side3 => exact Z7.z24); (case side4 => exact (Kd.R_reads' HO_120003.out).2.1); rintro e w181 ⟨rfl, hb⟩; refine ⟨_, rfl, ?_⟩; have n0_ := Z7.k (Kd.R_below Z7.z31 hb); have n1_ := Z7.k (Kd.R_below Z7.z30 hb); have n2_ := Z7.k (Kd.R_below Z7.z7 hb); have n3_ := Z7.k (Kd.R_below Z7.z27 hb); have n4_ := Z7.k (Kd.R_below Z7.z26 hb); have n5_ := Z7.k (Kd.R_below Z7.z29 hb); have n6_ := Z7.k (Kd.R_below Z7.z8 hb); have n7_ := Z7.k (Kd.R_below Z7.z28 hb); have n8_ := Z7.k (Z7.bb BK101 Z7.z76 hb); have n9_ := Z7.k (Z7.bb BK119 Z7.z74 hb); have n10_ := Z7.k (Z7.bb BK126 Z7.z72 hb); have n11_ := Z7.k (Z7.bb BK137 Z7.z71 hb); have n12_ := Z7.k (blk_below (g := gb173) (o := .cells #[.int .i64 t163, .int .i64 t164, .int .i64 t165, .slice Ao167 t166.length co167] 28 (0, 0)) Z7.z14 hb); have n13_ := Z7.k (below_step Z7.z4 hb); clear HO_5 HO_9 HO_120003 HO_127003 HO_138003 HO162 HO168 HO171 BK101 BK119 BK126 BK137 BK173 HB; have HO_5 := n0_; have HO_9 := n1_; have HO_120003 := n2_; have HO_127003 := n3_; have HO_138003 := n4_; have HO162 := n5_; have HO168 := n6_; have HO171 := n7_; have BK101 := n8_; have BK119 := n9_; have BK126 := n10_; have BK137 := n11_; have BK173 := n12_; have HB := n13_; clear n0_ n1_ n2_ n3_ n4_ n5_ n6_ n7_ n8_ n9_ n10_ n11_ n12_ n13_; (try clear hb); (try clear hb2); (try clear hk); (try clear hi); obtain ⟨Ao182, co182, eo182⟩ := Kd.R_slice HO171.out; subst eo182; obtain ⟨Ao183, co183, eo183⟩ := Kd.R_slice HO_5.out; subst eo183) | (go_at_call 23; (with_reducible refine (laws_eqInt64S.calls kj73 _ _ t169 _ _ t115 true _ ?side1 ?side2 ?side3 ?side4 A170.out).mono ?_); (case side1 => exact Z7.z91); (case side2 => exact (Kd.R_reads' HO171.out).2.1); (case side3 => exact Z7.z49); (case side4 => exact (Kd.R_reads' HO_5.out).2.1); rintro e w' ⟨rfl, ⟨nd, rfl⟩⟩))
          go_meet
          case rel => exact ⟨_, ((t172 != t118)), Z7.z86, H', ⟨(by have := HJ10.out; have := HJ73.out; first | omega | exact Nat.le_refl _)⟩, ⟨Z7.z61⟩, ⟨Z7.z59⟩, ⟨Z7.z58⟩, ⟨Z7.z57⟩, ⟨Z7.z62⟩, ⟨Z7.z84⟩, ⟨Z7.z83⟩, ⟨Z7.z82⟩, ⟨Z7.z81⟩, ⟨Z7.z80⟩, ⟨Z7.z4⟩⟩
         replace c171 := Bool.eq_false_iff.mpr c171
         subst c171
         have H1 : (laws_FnExactReducedForm.j2 kj73 t154 t153 true t127 t128 t129 t152) = some r := by rw [if_neg (show ¬ (false = true) by decide)] at H; exact H
         clear H
         have H := H1
         clear H1
         have H' := Z7.k H
         clear H
         have hnb184 := NB173_101.out
         have hnc184 := NB101_173.out
         have hnb185 := NB173_119.out
         have hnc185 := NB119_173.out
         have hnb186 := NB173_126.out
         have hnc186 := NB126_173.out
         have hnb187 := NB173_137.out
         have hnc187 := NB137_173.out
         have hcz188_0 : w161.cell? ⟨gb173, 0, none⟩ = some (.int .i64 0) := (blk_cell BK173.out 0).trans rfl
         have hcz188_1 : w161.cell? ⟨gb173, 1, none⟩ = some (.int .i64 0) := (blk_cell BK173.out 1).trans rfl
         have hcz188_2 : w161.cell? ⟨gb173, 2, none⟩ = some (.int .i64 0) := (blk_cell BK173.out 2).trans rfl
         have hcz188_3 : w161.cell? ⟨gb173, 3, none⟩ = some (.slice none 0 0) := (blk_cell BK173.out 3).trans rfl
         have hfz188_0 := blk_frozen BK173.out 0
         have hfz188_1 := blk_frozen BK173.out 1
         have hfz188_2 := blk_frozen BK173.out 2
         have hfz188_3 := blk_frozen BK173.out 3
         have hnb189 := NB119_101.out
         have hnc189 := NB101_119.out
         have hnb190 := NB119_126.out
         have hnc190 := NB126_119.out
         have hnb191 := NB119_137.out
         have hnc191 := NB137_119.out
         have hcz192_0 : w161.cell? ⟨gb119, 0, none⟩ = some (.int .i64 t109) := (blk_cell BK119.out 0).trans rfl
         have hcz192_1 : w161.cell? ⟨gb119, 1, none⟩ = some (.int .i64 t110) := (blk_cell BK119.out 1).trans rfl
         have hcz192_2 : w161.cell? ⟨gb119, 2, none⟩ = some (.int .i64 t111) := (blk_cell BK119.out 2).trans rfl
         have hcz192_3 : w161.cell? ⟨gb119, 3, none⟩ = some (.slice Ao22 t112.length co22) := (blk_cell BK119.out 3).trans rfl
         have hfz192_0 := blk_frozen BK119.out 0
         have hfz192_1 := blk_frozen BK119.out 1
         have hfz192_2 := blk_frozen BK119.out 2
         have hfz192_3 := blk_frozen BK119.out 3
         go_wp2_with (first | ((with_reducible refine gate_callee (f := 12) rfl ?_); refine goesL_ (some 107) rfl rfl Try.func12 (by kernel_rfl) rfl #[.agg #[.int .i64 t163, .int .i64 t164, .int .i64 t165, .slice Ao167 t166.length co167], .agg #[.int .i64 t109, .int .i64 t110, .int .i64 t111, .slice Ao22 t112.length co22]] rfl Z7.z3 ?_; (with_reducible refine (laws_eqMatrix.calls kj73 t163 t164 t165 _ _ t166 t109 t110 t111 _ _ t112 true _ ?side1 ?side2 ?side3 ?side4 A168.out).mono ?_); (case side1 => exact Z7.z25); (case side2 => exact (Kd.R_reads' HO168.out).2.1); (case side3 => exact Z7.z24); (case side4 => exact (Kd.R_reads' HO_120003.out).2.1); rintro e w193 ⟨rfl, hb⟩; refine ⟨_, rfl, ?_⟩; have n0_ := Z7.k (Kd.R_below Z7.z31 hb); have n1_ := Z7.k (Kd.R_below Z7.z30 hb); have n2_ := Z7.k (Kd.R_below Z7.z7 hb); have n3_ := Z7.k (Kd.R_below Z7.z27 hb); have n4_ := Z7.k (Kd.R_below Z7.z26 hb); have n5_ := Z7.k (Kd.R_below Z7.z29 hb); have n6_ := Z7.k (Kd.R_below Z7.z8 hb); have n7_ := Z7.k (Kd.R_below Z7.z28 hb); have n8_ := Z7.k (Z7.bb BK101 Z7.z76 hb); have n9_ := Z7.k (Z7.bb BK119 Z7.z74 hb); have n10_ := Z7.k (Z7.bb BK126 Z7.z72 hb); have n11_ := Z7.k (Z7.bb BK137 Z7.z71 hb); have n12_ := Z7.k (blk_below (g := gb173) (o := .cells #[.int .i64 t163, .int .i64 t164, .int .i64 t165, .slice Ao167 t166.length co167] 28 (0, 0)) Z7.z14 hb); have n13_ := Z7.k (below_step Z7.z4 hb); clear HO_5 HO_9 HO_120003 HO_127003 HO_138003 HO162 HO168 HO171 BK101 BK119 BK126 BK137 BK173 HB; have HO_5 := n0_; have HO_9 := n1_; have HO_120003 := n2_; have HO_127003 := n3_; have HO_138003 := n4_; have HO162 := n5_; have HO168 := n6_; have HO171 := n7_; have BK101 := n8_; have BK119 := n9_; have BK126 := n10_; have BK137 := n11_; have BK173 := n12_; have HB := n13_; clear n0_ n1_ n2_ n3_ n4_ n5_ n6_ n7_ n8_ n9_ n10_ n11_ n12_ n13_; (try clear hb); (try clear hb2); (try clear hk); (try clear hi); obtain ⟨Ao194, co194, eo194⟩ := Kd.R_slice HO171.out; subst eo194; obtain ⟨Ao195, co195, eo195⟩ := Kd.R_slice HO_5.out; subst eo195) | (go_at_call 23; (with_reducible refine (laws_eqInt64S.calls kj73 _ _ t169 _ _ t115 false _ ?side1 ?side2 ?side3 ?side4 A170.out).mono ?_); (case side1 => exact Z7.z91); (case side2 => exact (Kd.R_reads' HO171.out).2.1); (case side3 => exact Z7.z49); (case side4 => exact (Kd.R_reads' HO_5.out).2.1); rintro e w' ⟨rfl, ⟨nd, rfl⟩⟩))
         go_meet
         case rel => exact ⟨_, (true), Z7.z86, H', ⟨(by have := HJ10.out; have := HJ73.out; first | omega | exact Nat.le_refl _)⟩, ⟨Z7.z61⟩, ⟨Z7.z59⟩, ⟨Z7.z58⟩, ⟨Z7.z57⟩, ⟨Z7.z62⟩, ⟨Z7.z84⟩, ⟨Z7.z83⟩, ⟨Z7.z82⟩, ⟨Z7.z81⟩, ⟨Z7.z80⟩, ⟨Z7.z4⟩⟩
        replace c169 := Bool.eq_false_iff.mpr c169
        subst c169
        have H1 : (laws_FnExactReducedForm.j2 kj73 t154 t153 true t127 t128 t129 t152) = some r := by rw [if_neg (show ¬ (false = true) by decide)] at H; exact H
        clear H
        have H := H1
        clear H1
        have H' := Z7.k H
        clear H
        have hnb196 := NB173_101.out
        have hnc196 := NB101_173.out
        have hnb197 := NB173_119.out
        have hnc197 := NB119_173.out
        have hnb198 := NB173_126.out
        have hnc198 := NB126_173.out
        have hnb199 := NB173_137.out
        have hnc199 := NB137_173.out
        have hcz200_0 : w161.cell? ⟨gb173, 0, none⟩ = some (.int .i64 0) := (blk_cell BK173.out 0).trans rfl
        have hcz200_1 : w161.cell? ⟨gb173, 1, none⟩ = some (.int .i64 0) := (blk_cell BK173.out 1).trans rfl
        have hcz200_2 : w161.cell? ⟨gb173, 2, none⟩ = some (.int .i64 0) := (blk_cell BK173.out 2).trans rfl
        have hcz200_3 : w161.cell? ⟨gb173, 3, none⟩ = some (.slice none 0 0) := (blk_cell BK173.out 3).trans rfl
        have hfz200_0 := blk_frozen BK173.out 0
        have hfz200_1 := blk_frozen BK173.out 1
        have hfz200_2 := blk_frozen BK173.out 2
        have hfz200_3 := blk_frozen BK173.out 3
        have hnb201 := NB119_101.out
        have hnc201 := NB101_119.out
        have hnb202 := NB119_126.out
        have hnc202 := NB126_119.out
        have hnb203 := NB119_137.out
        have hnc203 := NB137_119.out
        have hcz204_0 : w161.cell? ⟨gb119, 0, none⟩ = some (.int .i64 t109) := (blk_cell BK119.out 0).trans rfl
        have hcz204_1 : w161.cell? ⟨gb119, 1, none⟩ = some (.int .i64 t110) := (blk_cell BK119.out 1).trans rfl
        have hcz204_2 : w161.cell? ⟨gb119, 2, none⟩ = some (.int .i64 t111) := (blk_cell BK119.out 2).trans rfl
        have hcz204_3 : w161.cell? ⟨gb119, 3, none⟩ = some (.slice Ao22 t112.length co22) := (blk_cell BK119.out 3).trans rfl
        have hfz204_0 := blk_frozen BK119.out 0
        have hfz204_1 := blk_frozen BK119.out 1
        have hfz204_2 := blk_frozen BK119.out 2
        have hfz204_3 := blk_frozen BK119.out 3
        go_wp2_with (first | ((with_reducible refine gate_callee (f := 12) rfl ?_); refine goesL_ (some 107) rfl rfl Try.func12 (by kernel_rfl) rfl #[.agg #[.int .i64 t163, .int .i64 t164, .int .i64 t165, .slice Ao167 t166.length co167], .agg #[.int .i64 t109, .int .i64 t110, .int .i64 t111, .slice Ao22 t112.length co22]] rfl Z7.z3 ?_; (with_reducible refine (laws_eqMatrix.calls kj73 t163 t164 t165 _ _ t166 t109 t110 t111 _ _ t112 false _ ?side1 ?side2 ?side3 ?side4 A168.out).mono ?_); (case side1 => exact Z7.z25); (case side2 => exact (Kd.R_reads' HO168.out).2.1); (case side3 => exact Z7.z24); (case side4 => exact (Kd.R_reads' HO_120003.out).2.1); rintro e w205 ⟨rfl, hb⟩; refine ⟨_, rfl, ?_⟩; have n0_ := Z7.k (Kd.R_below Z7.z31 hb); have n1_ := Z7.k (Kd.R_below Z7.z30 hb); have n2_ := Z7.k (Kd.R_below Z7.z7 hb); have n3_ := Z7.k (Kd.R_below Z7.z27 hb); have n4_ := Z7.k (Kd.R_below Z7.z26 hb); have n5_ := Z7.k (Kd.R_below Z7.z29 hb); have n6_ := Z7.k (Kd.R_below Z7.z8 hb); have n7_ := Z7.k (Kd.R_below Z7.z28 hb); have n8_ := Z7.k (Z7.bb BK101 Z7.z76 hb); have n9_ := Z7.k (Z7.bb BK119 Z7.z74 hb); have n10_ := Z7.k (Z7.bb BK126 Z7.z72 hb); have n11_ := Z7.k (Z7.bb BK137 Z7.z71 hb); have n12_ := Z7.k (blk_below (g := gb173) (o := .cells #[.int .i64 t163, .int .i64 t164, .int .i64 t165, .slice Ao167 t166.length co167] 28 (0, 0)) Z7.z14 hb); have n13_ := Z7.k (below_step Z7.z4 hb); clear HO_5 HO_9 HO_120003 HO_127003 HO_138003 HO162 HO168 HO171 BK101 BK119 BK126 BK137 BK173 HB; have HO_5 := n0_; have HO_9 := n1_; have HO_120003 := n2_; have HO_127003 := n3_; have HO_138003 := n4_; have HO162 := n5_; have HO168 := n6_; have HO171 := n7_; have BK101 := n8_; have BK119 := n9_; have BK126 := n10_; have BK137 := n11_; have BK173 := n12_; have HB := n13_; clear n0_ n1_ n2_ n3_ n4_ n5_ n6_ n7_ n8_ n9_ n10_ n11_ n12_ n13_; (try clear hb); (try clear hb2); (try clear hk); (try clear hi)))
        go_meet
        case rel => exact ⟨_, (true), Z7.z86, H', ⟨(by have := HJ10.out; have := HJ73.out; first | omega | exact Nat.le_refl _)⟩, ⟨Z7.z61⟩, ⟨Z7.z59⟩, ⟨Z7.z58⟩, ⟨Z7.z57⟩, ⟨Z7.z62⟩, ⟨Z7.z84⟩, ⟨Z7.z83⟩, ⟨Z7.z82⟩, ⟨Z7.z81⟩, ⟨Z7.z80⟩, ⟨Z7.z4⟩⟩
       case rest =>
        clear HC145
        try clear c1
        try clear c2
        try clear p2
        try clear c3
        try clear c3b0
        try clear c4
        try clear c5
        try clear c6
        try clear c7
        try clear c8
        try clear c9
        try clear c10
        try clear c11
        try clear c12
        try clear c13
        try clear c14
        try clear c15
        try clear c16
        try clear c17
        try clear c18
        try clear c19
        try clear c20
        try clear c21
        try clear c22
        try clear c24
        try clear c25
        try clear c26
        try clear c27
        try clear c32
        try clear c33
        try clear c34
        try clear c38
        try clear c40
        try clear c41
        try clear c42
        try clear c43
        try clear c45
        try clear c46
        try clear c51
        try clear c52
        try clear c53
        try clear c55
        try clear c56
        try clear c61
        try clear c62
        try clear c63
        try clear c65
        try clear c66
        try clear c69
        try clear c72
        try clear c79
        try clear c80
        try clear c81
        try clear c84
        try clear c84b0
        try clear c86
        try clear c88
        try clear c89
        try clear c90
        try clear c91
        try clear c93
        try clear c94
        try clear c99
        try clear c100
        try clear c101
        try clear c103
        try clear c104
        try clear c109
        try clear c110
        try clear c111
        try clear c113
        try clear c114
        try clear c117
        try clear c121
        try clear c121b0
        try clear c122
        try clear c123
        try clear c124
        try clear c132
        try clear c132b0
        try clear c133
        try clear c134
        try clear c135
        try clear c142
        try clear c142b0
        try clear c142b1
        try clear c146
        try clear c147
        try clear c148
        try clear c155
        try clear c156
        try clear c162
        try clear c163
        try clear c164
        try clear c165
        try clear c169
        try clear c171
        try clear c172
        try clear c173
        try clear c174
        try clear c175
        try clear c177
        try clear c178
        try clear c179
        try clear c184
        try clear c185
        try clear c186
        try clear c187
        try clear c189
        try clear c190
        try clear c191
        try clear c196
        try clear c197
        try clear c198
        try clear c199
        try clear c201
        try clear c202
        try clear c203
        try clear hcz102_0
        try clear hcz102_1
        try clear hcz102_2
        try clear hcz102_3
        try clear hcz105_0
        try clear hcz105_1
        try clear hcz105_2
        try clear hcz105_3
        try clear hcz112_0
        try clear hcz112_1
        try clear hcz112_2
        try clear hcz112_3
        try clear hcz115_0
        try clear hcz115_1
        try clear hcz115_2
        try clear hcz115_3
        try clear hcz125_0
        try clear hcz125_1
        try clear hcz125_2
        try clear hcz125_3
        try clear hcz129_0
        try clear hcz129_1
        try clear hcz129_2
        try clear hcz129_3
        try clear hcz136_0
        try clear hcz136_1
        try clear hcz136_2
        try clear hcz136_3
        try clear hcz13_0
        try clear hcz13_1
        try clear hcz13_2
        try clear hcz13_3
        try clear hcz140_0
        try clear hcz140_1
        try clear hcz140_2
        try clear hcz140_3
        try clear hcz149_0
        try clear hcz149_1
        try clear hcz149_2
        try clear hcz149_3
        try clear hcz153_0
        try clear hcz153_1
        try clear hcz153_2
        try clear hcz153_3
        try clear hcz157_0
        try clear hcz157_1
        try clear hcz157_2
        try clear hcz157_3
        try clear hcz15_0
        try clear hcz15_1
        try clear hcz15_2
        try clear hcz15_3
        try clear hcz166_0
        try clear hcz166_1
        try clear hcz166_2
        try clear hcz166_3
        try clear hcz176_0
        try clear hcz176_1
        try clear hcz176_2
        try clear hcz176_3
        try clear hcz180_0
        try clear hcz180_1
        try clear hcz180_2
        try clear hcz180_3
        try clear hcz188_0
        try clear hcz188_1
        try clear hcz188_2
        try clear hcz188_3
        try clear hcz192_0
        try clear hcz192_1
        try clear hcz192_2
        try clear hcz192_3
        try clear hcz200_0
        try clear hcz200_1
        try clear hcz200_2
        try clear hcz200_3
        try clear hcz204_0
        try clear hcz204_1
        try clear hcz204_2
        try clear hcz204_3
        try clear hcz21_0
        try clear hcz21_1
        try clear hcz21_2
        try clear hcz21_3
        try clear hcz23_0
        try clear hcz23_1
        try clear hcz23_2
        try clear hcz23_3
        try clear hcz28_0
        try clear hcz28_1
        try clear hcz28_2
        try clear hcz28_3
        try clear hcz35_0
        try clear hcz35_1
        try clear hcz35_2
        try clear hcz35_3
        try clear hcz44_0
        try clear hcz44_1
        try clear hcz44_2
        try clear hcz44_3
        try clear hcz47_0
        try clear hcz47_1
        try clear hcz47_2
        try clear hcz47_3
        try clear hcz54_0
        try clear hcz54_1
        try clear hcz54_2
        try clear hcz54_3
        try clear hcz57_0
        try clear hcz57_1
        try clear hcz57_2
        try clear hcz57_3
        try clear hcz5_0
        try clear hcz5_1
        try clear hcz5_2
        try clear hcz5_3
        try clear hcz64_0
        try clear hcz64_1
        try clear hcz64_2
        try clear hcz64_3
        try clear hcz67_0
        try clear hcz67_1
        try clear hcz67_2
        try clear hcz67_3
        try clear hcz82_0
        try clear hcz82_1
        try clear hcz82_2
        try clear hcz82_3
        try clear hcz92_0
        try clear hcz92_1
        try clear hcz92_2
        try clear hcz92_3
        try clear hcz95_0
        try clear hcz95_1
        try clear hcz95_2
        try clear hcz95_3
        try clear hfz102_0
        try clear hfz102_1
        try clear hfz102_2
        try clear hfz102_3
        try clear hfz105_0
        try clear hfz105_1
        try clear hfz105_2
        try clear hfz105_3
        try clear hfz112_0
        try clear hfz112_1
        try clear hfz112_2
        try clear hfz112_3
        try clear hfz115_0
        try clear hfz115_1
        try clear hfz115_2
        try clear hfz115_3
        try clear hfz125_0
        try clear hfz125_1
        try clear hfz125_2
        try clear hfz125_3
        try clear hfz129_0
        try clear hfz129_1
        try clear hfz129_2
        try clear hfz129_3
        try clear hfz136_0
        try clear hfz136_1
        try clear hfz136_2
        try clear hfz136_3
        try clear hfz13_0
        try clear hfz13_1
        try clear hfz13_2
        try clear hfz13_3
        try clear hfz140_0
        try clear hfz140_1
        try clear hfz140_2
        try clear hfz140_3
        try clear hfz149_0
        try clear hfz149_1
        try clear hfz149_2
        try clear hfz149_3
        try clear hfz153_0
        try clear hfz153_1
        try clear hfz153_2
        try clear hfz153_3
        try clear hfz157_0
        try clear hfz157_1
        try clear hfz157_2
        try clear hfz157_3
        try clear hfz15_0
        try clear hfz15_1
        try clear hfz15_2
        try clear hfz15_3
        try clear hfz166_0
        try clear hfz166_1
        try clear hfz166_2
        try clear hfz166_3
        try clear hfz176_0
        try clear hfz176_1
        try clear hfz176_2
        try clear hfz176_3
        try clear hfz180_0
        try clear hfz180_1
        try clear hfz180_2
        try clear hfz180_3
        try clear hfz188_0
        try clear hfz188_1
        try clear hfz188_2
        try clear hfz188_3
        try clear hfz192_0
        try clear hfz192_1
        try clear hfz192_2
        try clear hfz192_3
        try clear hfz200_0
        try clear hfz200_1
        try clear hfz200_2
        try clear hfz200_3
        try clear hfz204_0
        try clear hfz204_1
        try clear hfz204_2
        try clear hfz204_3
        try clear hfz21_0
        try clear hfz21_1
        try clear hfz21_2
        try clear hfz21_3
        try clear hfz23_0
        try clear hfz23_1
        try clear hfz23_2
        try clear hfz23_3
        try clear hfz28_0
        try clear hfz28_1
        try clear hfz28_2
        try clear hfz28_3
        try clear hfz35_0
        try clear hfz35_1
        try clear hfz35_2
        try clear hfz35_3
        try clear hfz44_0
        try clear hfz44_1
        try clear hfz44_2
        try clear hfz44_3
        try clear hfz47_0
        try clear hfz47_1
        try clear hfz47_2
        try clear hfz47_3
        try clear hfz54_0
        try clear hfz54_1
        try clear hfz54_2
        try clear hfz54_3
        try clear hfz57_0
        try clear hfz57_1
        try clear hfz57_2
        try clear hfz57_3
        try clear hfz5_0
        try clear hfz5_1
        try clear hfz5_2
        try clear hfz5_3
        try clear hfz64_0
        try clear hfz64_1
        try clear hfz64_2
        try clear hfz64_3
        try clear hfz67_0
        try clear hfz67_1
        try clear hfz67_2
        try clear hfz67_3
        try clear hfz82_0
        try clear hfz82_1
        try clear hfz82_2
        try clear hfz82_3
        try clear hfz92_0
        try clear hfz92_1
        try clear hfz92_2
        try clear hfz92_3
        try clear hfz95_0
        try clear hfz95_1
        try clear hfz95_2
        try clear hfz95_3
        try clear p2
        obtain ⟨kq, x119_144, rfl, HA, HJ144, HO_9, HO_120003, HO_127003, HO_138003, HO_174003, BK101, BK119, BK126, BK137, BK173, HB⟩ := hcut
        have hl9_144 := (Kd.R_reads' HO_9.out).1
        rw [hl9_144] at HO_9
        (try simp only [hl9_144])
        (try simp only [hl9_144] at BK101)
        (try simp only [hl9_144] at BK119)
        (try simp only [hl9_144] at BK126)
        (try simp only [hl9_144] at BK137)
        (try simp only [hl9_144] at BK173)
        (try simp only [hl9_144] at HO_120003)
        (try simp only [hl9_144] at HO_127003)
        (try simp only [hl9_144] at HO_138003)
        (try simp only [hl9_144] at HO_174003)
        have hl138003_144 := (Kd.R_reads' HO_138003.out).1
        rw [hl138003_144] at HO_138003
        (try simp only [hl138003_144])
        (try simp only [hl138003_144] at BK101)
        (try simp only [hl138003_144] at BK119)
        (try simp only [hl138003_144] at BK126)
        (try simp only [hl138003_144] at BK137)
        (try simp only [hl138003_144] at BK173)
        (try simp only [hl138003_144] at HO_9)
        (try simp only [hl138003_144] at HO_120003)
        (try simp only [hl138003_144] at HO_127003)
        (try simp only [hl138003_144] at HO_174003)
        cases kq with
        | zero => exact absurd HA.out (by simp [laws_FnExactReducedForm.j2])
        | succ kj144 =>
         have H := HA.out
         clear HA
         simp only [laws_FnExactReducedForm.j2] at H
         by_cases c206 : x119_144 = true
         ·subst c206
          have H1 : (some false) = some r := by rw [if_pos rfl] at H; exact H
          clear H
          have H := H1
          clear H1
          obtain rfl := Option.some.inj H
          go_wp2
          go_ret
          exact ⟨Z7.z40, Z7.z4⟩
         replace c206 := Bool.eq_false_iff.mpr c206
         subst c206
         have H1 : ((laws_heldMatrix.f kj144 t127 t128 t129 t152 1).bind fun t176 => (if t176 < 0 then (some false) else ((laws_heldInt64S.f kj144 t154 t176).bind fun t177 => (if t177 < 0 then (some false) else (if t177 = t153 then (some true) else (some false)))))) = some r := by rw [if_neg (show ¬ (false = true) by decide)] at H; exact H
         clear H
         have H := H1
         clear H1
         replace H := Option.bind_eq_some_iff.mp H
         obtain ⟨t176, A2070, H⟩ := H
         replace H : (if t176 < 0 then (some false) else ((laws_heldInt64S.f kj144 t154 t176).bind fun t177 => (if t177 < 0 then (some false) else (if t177 = t153 then (some true) else (some false))))) = some r := H
         have A207 := Z7.k A2070
         clear A2070
         by_cases c208 : t176 < 0
         ·rw [if_pos c208] at H
          have c208b0 : decide (t176 < 0) = true := decide_eq_true c208
          clear c208
          obtain rfl := Option.some.inj H
          have hnb209 := NB137_101.out
          have hnc209 := NB101_137.out
          have hnb210 := NB137_119.out
          have hnc210 := NB119_137.out
          have hnb211 := NB137_126.out
          have hnc211 := NB126_137.out
          have hnb212 := NB137_173.out
          have hnc212 := NB173_137.out
          have hcz213_0 : wc.cell? ⟨gb137, 0, none⟩ = some (.int .i64 t127) := (blk_cell BK137.out 0).trans rfl
          have hcz213_1 : wc.cell? ⟨gb137, 1, none⟩ = some (.int .i64 t128) := (blk_cell BK137.out 1).trans rfl
          have hcz213_2 : wc.cell? ⟨gb137, 2, none⟩ = some (.int .i64 t129) := (blk_cell BK137.out 2).trans rfl
          have hcz213_3 : wc.cell? ⟨gb137, 3, none⟩ = some (.slice Ao36 t152.length co36) := (blk_cell BK137.out 3).trans rfl
          have hfz213_0 := blk_frozen BK137.out 0
          have hfz213_1 := blk_frozen BK137.out 1
          have hfz213_2 := blk_frozen BK137.out 2
          have hfz213_3 := blk_frozen BK137.out 3
          go_wp2_with (first | ((with_reducible refine gate_callee (f := 18) rfl ?_); refine goesL_ (some 122) rfl rfl Try.func18 (by kernel_rfl) rfl #[.agg #[.int .i64 t127, .int .i64 t128, .int .i64 t129, .slice Ao36 t152.length co36], .int .i64 1] rfl Z7.z3 ?_; (with_reducible refine (laws_heldMatrix.calls kj144 t127 t128 t129 _ _ t152 1 t176 _ ?side1 ?side2 A207.out).mono ?_); (case side1 => exact Z7.z17); (case side2 => exact (Kd.R_reads' HO_138003.out).2.1); rintro e w214 ⟨rfl, hb⟩; refine ⟨_, rfl, ?_⟩; have n0_ := Z7.k (Kd.R_below Z7.z16 hb); have n1_ := Z7.k (Kd.R_below Z7.z13 hb); have n2_ := Z7.k (Kd.R_below Z7.z12 hb); have n3_ := Z7.k (Kd.R_below Z7.z11 hb); have n4_ := Z7.k (Kd.R_below Z7.z79 hb); have n5_ := Z7.k (Z7.bb BK101 Z7.z1 hb); have n6_ := Z7.k (Z7.bb BK119 Z7.z2 hb); have n7_ := Z7.k (Z7.bb BK126 Z7.z5 hb); have n8_ := Z7.k (Z7.bb BK137 Z7.z6 hb); have n9_ := Z7.k (Z7.bb BK173 Z7.z70 hb); have n10_ := Z7.k (below_step Z7.z4 hb); clear HO_9 HO_120003 HO_127003 HO_138003 HO_174003 BK101 BK119 BK126 BK137 BK173 HB; have HO_9 := n0_; have HO_120003 := n1_; have HO_127003 := n2_; have HO_138003 := n3_; have HO_174003 := n4_; have BK101 := n5_; have BK119 := n6_; have BK126 := n7_; have BK137 := n8_; have BK173 := n9_; have HB := n10_; clear n0_ n1_ n2_ n3_ n4_ n5_ n6_ n7_ n8_ n9_ n10_; (try clear hb); (try clear hb2); (try clear hk); (try clear hi)))
          go_ret
          exact ⟨Z7.z40, Z7.z4⟩
         rw [if_neg c208] at H
         have c208b0 : decide (t176 < 0) = false := decide_eq_false c208
         clear c208
         replace H := Option.bind_eq_some_iff.mp H
         obtain ⟨t177, A2150, H⟩ := H
         replace H : (if t177 < 0 then (some false) else (if t177 = t153 then (some true) else (some false))) = some r := H
         have A215 := Z7.k A2150
         clear A2150
         by_cases c216 : t177 < 0
         ·rw [if_pos c216] at H
          have c216b0 : decide (t177 < 0) = true := decide_eq_true c216
          clear c216
          obtain rfl := Option.some.inj H
          have hnb217 := NB137_101.out
          have hnc217 := NB101_137.out
          have hnb218 := NB137_119.out
          have hnc218 := NB119_137.out
          have hnb219 := NB137_126.out
          have hnc219 := NB126_137.out
          have hnb220 := NB137_173.out
          have hnc220 := NB173_137.out
          have hcz221_0 : wc.cell? ⟨gb137, 0, none⟩ = some (.int .i64 t127) := (blk_cell BK137.out 0).trans rfl
          have hcz221_1 : wc.cell? ⟨gb137, 1, none⟩ = some (.int .i64 t128) := (blk_cell BK137.out 1).trans rfl
          have hcz221_2 : wc.cell? ⟨gb137, 2, none⟩ = some (.int .i64 t129) := (blk_cell BK137.out 2).trans rfl
          have hcz221_3 : wc.cell? ⟨gb137, 3, none⟩ = some (.slice Ao36 t152.length co36) := (blk_cell BK137.out 3).trans rfl
          have hfz221_0 := blk_frozen BK137.out 0
          have hfz221_1 := blk_frozen BK137.out 1
          have hfz221_2 := blk_frozen BK137.out 2
          have hfz221_3 := blk_frozen BK137.out 3
          go_wp2_with (first | ((with_reducible refine gate_callee (f := 18) rfl ?_); refine goesL_ (some 122) rfl rfl Try.func18 (by kernel_rfl) rfl #[.agg #[.int .i64 t127, .int .i64 t128, .int .i64 t129, .slice Ao36 t152.length co36], .int .i64 1] rfl Z7.z3 ?_; (with_reducible refine (laws_heldMatrix.calls kj144 t127 t128 t129 _ _ t152 1 t176 _ ?side1 ?side2 A207.out).mono ?_); (case side1 => exact Z7.z17); (case side2 => exact (Kd.R_reads' HO_138003.out).2.1); rintro e w222 ⟨rfl, hb⟩; refine ⟨_, rfl, ?_⟩; have n0_ := Z7.k (Kd.R_below Z7.z16 hb); have n1_ := Z7.k (Kd.R_below Z7.z13 hb); have n2_ := Z7.k (Kd.R_below Z7.z12 hb); have n3_ := Z7.k (Kd.R_below Z7.z11 hb); have n4_ := Z7.k (Kd.R_below Z7.z79 hb); have n5_ := Z7.k (Z7.bb BK101 Z7.z1 hb); have n6_ := Z7.k (Z7.bb BK119 Z7.z2 hb); have n7_ := Z7.k (Z7.bb BK126 Z7.z5 hb); have n8_ := Z7.k (Z7.bb BK137 Z7.z6 hb); have n9_ := Z7.k (Z7.bb BK173 Z7.z70 hb); have n10_ := Z7.k (below_step Z7.z4 hb); clear HO_9 HO_120003 HO_127003 HO_138003 HO_174003 BK101 BK119 BK126 BK137 BK173 HB; have HO_9 := n0_; have HO_120003 := n1_; have HO_127003 := n2_; have HO_138003 := n3_; have HO_174003 := n4_; have BK101 := n5_; have BK119 := n6_; have BK126 := n7_; have BK137 := n8_; have BK173 := n9_; have HB := n10_; clear n0_ n1_ n2_ n3_ n4_ n5_ n6_ n7_ n8_ n9_ n10_; (try clear hb); (try clear hb2); (try clear hk); (try clear hi)) | ((with_reducible refine gate_callee (f := 25) rfl ?_); refine goesL_ (some 127) rfl rfl Try.func25 (by kernel_rfl) rfl #[.slice Ao151 t154.length co151, .int .i64 t176] rfl Z7.z3 ?_; (with_reducible refine (laws_heldInt64S.calls kj144 _ _ t154 t176 t177 _ ?side1 ?side2 A215.out).mono ?_); (case side1 => exact Z7.z22); (case side2 => exact (Kd.R_reads' HO_9.out).2.1); rintro e w' ⟨rfl, ⟨nd, rfl⟩⟩; refine ⟨_, rfl, ?_⟩))
          go_ret
          exact ⟨Z7.z40, Z7.z4⟩
         rw [if_neg c216] at H
         have c216b0 : decide (t177 < 0) = false := decide_eq_false c216
         clear c216
         by_cases c223 : t177 = t153
         ·rw [if_pos c223] at H
          have c223b0 : (t177 == t153) = true := beq_iff_eq.mpr c223
          have c223b1 : (t177 != t153) = false := bne_eq_false_iff_eq.mpr c223
          clear c223
          obtain rfl := Option.some.inj H
          have hnb224 := NB137_101.out
          have hnc224 := NB101_137.out
          have hnb225 := NB137_119.out
          have hnc225 := NB119_137.out
          have hnb226 := NB137_126.out
          have hnc226 := NB126_137.out
          have hnb227 := NB137_173.out
          have hnc227 := NB173_137.out
          have hcz228_0 : wc.cell? ⟨gb137, 0, none⟩ = some (.int .i64 t127) := (blk_cell BK137.out 0).trans rfl
          have hcz228_1 : wc.cell? ⟨gb137, 1, none⟩ = some (.int .i64 t128) := (blk_cell BK137.out 1).trans rfl
          have hcz228_2 : wc.cell? ⟨gb137, 2, none⟩ = some (.int .i64 t129) := (blk_cell BK137.out 2).trans rfl
          have hcz228_3 : wc.cell? ⟨gb137, 3, none⟩ = some (.slice Ao36 t152.length co36) := (blk_cell BK137.out 3).trans rfl
          have hfz228_0 := blk_frozen BK137.out 0
          have hfz228_1 := blk_frozen BK137.out 1
          have hfz228_2 := blk_frozen BK137.out 2
          have hfz228_3 := blk_frozen BK137.out 3
          go_wp2_with (first | ((with_reducible refine gate_callee (f := 18) rfl ?_); refine goesL_ (some 122) rfl rfl Try.func18 (by kernel_rfl) rfl #[.agg #[.int .i64 t127, .int .i64 t128, .int .i64 t129, .slice Ao36 t152.length co36], .int .i64 1] rfl Z7.z3 ?_; (with_reducible refine (laws_heldMatrix.calls kj144 t127 t128 t129 _ _ t152 1 t176 _ ?side1 ?side2 A207.out).mono ?_); (case side1 => exact Z7.z17); (case side2 => exact (Kd.R_reads' HO_138003.out).2.1); rintro e w229 ⟨rfl, hb⟩; refine ⟨_, rfl, ?_⟩; have n0_ := Z7.k (Kd.R_below Z7.z16 hb); have n1_ := Z7.k (Kd.R_below Z7.z13 hb); have n2_ := Z7.k (Kd.R_below Z7.z12 hb); have n3_ := Z7.k (Kd.R_below Z7.z11 hb); have n4_ := Z7.k (Kd.R_below Z7.z79 hb); have n5_ := Z7.k (Z7.bb BK101 Z7.z1 hb); have n6_ := Z7.k (Z7.bb BK119 Z7.z2 hb); have n7_ := Z7.k (Z7.bb BK126 Z7.z5 hb); have n8_ := Z7.k (Z7.bb BK137 Z7.z6 hb); have n9_ := Z7.k (Z7.bb BK173 Z7.z70 hb); have n10_ := Z7.k (below_step Z7.z4 hb); clear HO_9 HO_120003 HO_127003 HO_138003 HO_174003 BK101 BK119 BK126 BK137 BK173 HB; have HO_9 := n0_; have HO_120003 := n1_; have HO_127003 := n2_; have HO_138003 := n3_; have HO_174003 := n4_; have BK101 := n5_; have BK119 := n6_; have BK126 := n7_; have BK137 := n8_; have BK173 := n9_; have HB := n10_; clear n0_ n1_ n2_ n3_ n4_ n5_ n6_ n7_ n8_ n9_ n10_; (try clear hb); (try clear hb2); (try clear hk); (try clear hi)) | ((with_reducible refine gate_callee (f := 25) rfl ?_); refine goesL_ (some 127) rfl rfl Try.func25 (by kernel_rfl) rfl #[.slice Ao151 t154.length co151, .int .i64 t176] rfl Z7.z3 ?_; (with_reducible refine (laws_heldInt64S.calls kj144 _ _ t154 t176 t177 _ ?side1 ?side2 A215.out).mono ?_); (case side1 => exact Z7.z22); (case side2 => exact (Kd.R_reads' HO_9.out).2.1); rintro e w' ⟨rfl, ⟨nd, rfl⟩⟩; refine ⟨_, rfl, ?_⟩))
          go_ret
          exact ⟨Z7.z40, Z7.z4⟩
         rw [if_neg c223] at H
         have c223b0 : (t177 == t153) = false := beq_eq_false_iff_ne.mpr c223
         have c223b1 : (t177 != t153) = true := bne_iff_ne.mpr c223
         obtain rfl := Option.some.inj H
         have hnb230 := NB137_101.out
         have hnc230 := NB101_137.out
         have hnb231 := NB137_119.out
         have hnc231 := NB119_137.out
         have hnb232 := NB137_126.out
         have hnc232 := NB126_137.out
         have hnb233 := NB137_173.out
         have hnc233 := NB173_137.out
         have hcz234_0 : wc.cell? ⟨gb137, 0, none⟩ = some (.int .i64 t127) := (blk_cell BK137.out 0).trans rfl
         have hcz234_1 : wc.cell? ⟨gb137, 1, none⟩ = some (.int .i64 t128) := (blk_cell BK137.out 1).trans rfl
         have hcz234_2 : wc.cell? ⟨gb137, 2, none⟩ = some (.int .i64 t129) := (blk_cell BK137.out 2).trans rfl
         have hcz234_3 : wc.cell? ⟨gb137, 3, none⟩ = some (.slice Ao36 t152.length co36) := (blk_cell BK137.out 3).trans rfl
         have hfz234_0 := blk_frozen BK137.out 0
         have hfz234_1 := blk_frozen BK137.out 1
         have hfz234_2 := blk_frozen BK137.out 2
         have hfz234_3 := blk_frozen BK137.out 3
         go_wp2_with (first | ((with_reducible refine gate_callee (f := 18) rfl ?_); refine goesL_ (some 122) rfl rfl Try.func18 (by kernel_rfl) rfl #[.agg #[.int .i64 t127, .int .i64 t128, .int .i64 t129, .slice Ao36 t152.length co36], .int .i64 1] rfl Z7.z3 ?_; (with_reducible refine (laws_heldMatrix.calls kj144 t127 t128 t129 _ _ t152 1 t176 _ ?side1 ?side2 A207.out).mono ?_); (case side1 => exact Z7.z17); (case side2 => exact (Kd.R_reads' HO_138003.out).2.1); rintro e w235 ⟨rfl, hb⟩; refine ⟨_, rfl, ?_⟩; have n0_ := Z7.k (Kd.R_below Z7.z16 hb); have n1_ := Z7.k (Kd.R_below Z7.z13 hb); have n2_ := Z7.k (Kd.R_below Z7.z12 hb); have n3_ := Z7.k (Kd.R_below Z7.z11 hb); have n4_ := Z7.k (Kd.R_below Z7.z79 hb); have n5_ := Z7.k (Z7.bb BK101 Z7.z1 hb); have n6_ := Z7.k (Z7.bb BK119 Z7.z2 hb); have n7_ := Z7.k (Z7.bb BK126 Z7.z5 hb); have n8_ := Z7.k (Z7.bb BK137 Z7.z6 hb); have n9_ := Z7.k (Z7.bb BK173 Z7.z70 hb); have n10_ := Z7.k (below_step Z7.z4 hb); clear HO_9 HO_120003 HO_127003 HO_138003 HO_174003 BK101 BK119 BK126 BK137 BK173 HB; have HO_9 := n0_; have HO_120003 := n1_; have HO_127003 := n2_; have HO_138003 := n3_; have HO_174003 := n4_; have BK101 := n5_; have BK119 := n6_; have BK126 := n7_; have BK137 := n8_; have BK173 := n9_; have HB := n10_; clear n0_ n1_ n2_ n3_ n4_ n5_ n6_ n7_ n8_ n9_ n10_; (try clear hb); (try clear hb2); (try clear hk); (try clear hi)) | ((with_reducible refine gate_callee (f := 25) rfl ?_); refine goesL_ (some 127) rfl rfl Try.func25 (by kernel_rfl) rfl #[.slice Ao151 t154.length co151, .int .i64 t176] rfl Z7.z3 ?_; (with_reducible refine (laws_heldInt64S.calls kj144 _ _ t154 t176 t177 _ ?side1 ?side2 A215.out).mono ?_); (case side1 => exact Z7.z22); (case side2 => exact (Kd.R_reads' HO_9.out).2.1); rintro e w' ⟨rfl, ⟨nd, rfl⟩⟩; refine ⟨_, rfl, ?_⟩))
         go_ret
         exact ⟨Z7.z40, Z7.z4⟩
      rw [if_neg c142] at H
      have c142b0 : (t156 == t153) = false := beq_eq_false_iff_ne.mpr c142
      have c142b1 : (t156 != t153) = true := bne_iff_ne.mpr c142
      obtain rfl := Option.some.inj H
      have hnb236 := NB137_101.out
      have hnc236 := NB101_137.out
      have hnb237 := NB137_119.out
      have hnc237 := NB119_137.out
      have hnb238 := NB137_126.out
      have hnc238 := NB126_137.out
      have hcz239_0 : wc.cell? ⟨gb137, 0, none⟩ = some (.int .i64 t127) := (blk_cell BK137.out 0).trans rfl
      have hcz239_1 : wc.cell? ⟨gb137, 1, none⟩ = some (.int .i64 t128) := (blk_cell BK137.out 1).trans rfl
      have hcz239_2 : wc.cell? ⟨gb137, 2, none⟩ = some (.int .i64 t129) := (blk_cell BK137.out 2).trans rfl
      have hcz239_3 : wc.cell? ⟨gb137, 3, none⟩ = some (.slice Ao36 t130.length co36) := (blk_cell BK137.out 3).trans rfl
      have hfz239_0 := blk_frozen BK137.out 0
      have hfz239_1 := blk_frozen BK137.out 1
      have hfz239_2 := blk_frozen BK137.out 2
      have hfz239_3 := blk_frozen BK137.out 3
      go_wp2_with (first | ((with_reducible refine gate_callee (f := 17) rfl ?_); refine goesL_ (some 81) rfl rfl Try.func17 (by kernel_rfl) rfl #[.agg #[.int .i64 t127, .int .i64 t128, .int .i64 t129, .slice Ao36 t130.length co36], .int .i64 1] rfl Z7.z3 ?_; (with_reducible refine (laws_markMatrix.calls kj73 t127 t128 t129 (fun k_ => some k_ = (.slice Ao36 t130.length co36 : Value).ownBlock) (.slice Ao36 t130.length co36) t130 1 t151 t152 w _ ?side1 ?side2 A118.out).mono ?_); (case side1 => exact Z7.z0); (case side2 => exact Kd.R_tight rfl HO_138003.out); rintro e w240 ⟨rfl, hy0, hb, hkp⟩; refine ⟨_, rfl, ?_⟩; have n0_ := Z7.k (Kd.R_mono (ok' := fun k_ => some k_ ≠ (v134 : Value).ownBlock ∧ some k_ ≠ (.slice Ao22 t112.length co22 : Value).ownBlock ∧ some k_ ≠ (.slice Ao29 t148.length co29 : Value).ownBlock ∧ some k_ ≠ (.slice Ao36 t130.length co36 : Value).ownBlock) (Kd.R_keptB (HO_5.out) hkp (fun k_ hk_ hs_ => (hk_.2.2.2) hs_)) (fun k_ hk_ => ⟨hk_.1.1, hk_.1.2.1, hk_.1.2.2.1, hk_.1.2.2.2⟩)); have n1_ := Z7.k (Kd.R_mono (ok' := fun k_ => some k_ ≠ (v116 : Value).ownBlock ∧ some k_ ≠ (.slice Ao22 t112.length co22 : Value).ownBlock ∧ some k_ ≠ (.slice Ao29 t148.length co29 : Value).ownBlock ∧ some k_ ≠ (.slice Ao36 t130.length co36 : Value).ownBlock) (Kd.R_keptB (HO_9.out) hkp (fun k_ hk_ hs_ => (hk_.2.2.2) hs_)) (fun k_ hk_ => ⟨hk_.1.1, hk_.1.2.1, hk_.1.2.2.1, hk_.1.2.2.2⟩)); have n2_ := Z7.k (Kd.R_mono (ok' := fun k_ => some k_ ≠ (v116 : Value).ownBlock ∧ some k_ ≠ (v134 : Value).ownBlock ∧ some k_ ≠ (.slice Ao29 t148.length co29 : Value).ownBlock ∧ some k_ ≠ (.slice Ao36 t130.length co36 : Value).ownBlock) (Kd.R_keptB (HO_120003.out) hkp (fun k_ hk_ hs_ => (hk_.2.2.2) hs_)) (fun k_ hk_ => ⟨hk_.1.1, hk_.1.2.1, hk_.1.2.2.1, hk_.1.2.2.2⟩)); have n3_ := Z7.k (Kd.R_mono (ok' := fun k_ => some k_ ≠ (v116 : Value).ownBlock ∧ some k_ ≠ (v134 : Value).ownBlock ∧ some k_ ≠ (.slice Ao22 t112.length co22 : Value).ownBlock ∧ some k_ ≠ (.slice Ao36 t130.length co36 : Value).ownBlock) (Kd.R_keptB (HO_127003.out) hkp (fun k_ hk_ hs_ => (hk_.2.2.2) hs_)) (fun k_ hk_ => ⟨hk_.1.1, hk_.1.2.1, hk_.1.2.2.1, hk_.1.2.2.2⟩)); have n4_ := Z7.k (Kd.R_reok rfl hy0 (fun k_ e_ => HO_138003.out.1 k_ e_)); have n5_ := Z7.k (blk_kept Z7.z1 hkp (fun hs_ => (fun e_ => (Kd.R_ne HO_138003.out BK101.out (by decide)) e_) hs_)); have n6_ := Z7.k (blk_kept Z7.z2 hkp (fun hs_ => (fun e_ => (Kd.R_ne HO_138003.out BK119.out (by decide)) e_) hs_)); have n7_ := Z7.k (blk_kept Z7.z5 hkp (fun hs_ => (fun e_ => (Kd.R_ne HO_138003.out BK126.out (by decide)) e_) hs_)); have n8_ := Z7.k (blk_kept Z7.z6 hkp (fun hs_ => (fun e_ => (Kd.R_ne HO_138003.out BK137.out (by decide)) e_) hs_)); have n9_ := Z7.k (hb); clear HO_5 HO_9 HO_120003 HO_127003 HO_138003 BK101 BK119 BK126 BK137 HB; have HO_5 := n0_; have HO_9 := n1_; have HO_120003 := n2_; have HO_127003 := n3_; have HO_138003 := n4_; have BK101 := n5_; have BK119 := n6_; have BK126 := n7_; have BK137 := n8_; have HB := n9_; clear n0_ n1_ n2_ n3_ n4_ n5_ n6_ n7_ n8_ n9_; (try clear hb); (try clear hkp); (try clear hy0); obtain ⟨Ao241, co241, eo241⟩ := Kd.R_slice HO_9.out; subst eo241) | ((with_reducible refine gate_callee (f := 24) rfl ?_); refine goesL_ (some 84) rfl rfl Try.func24 (by kernel_rfl) rfl #[.slice Ao241 t133.length co241, .int .i64 t151] rfl Z7.z3 ?_; (with_reducible refine (laws_markInt64S.calls kj73 (fun k_ => some k_ = (.slice Ao241 t133.length co241 : Value).ownBlock) (.slice Ao241 t133.length co241) t133 t151 t153 t154 w _ ?side1 ?side2 A119.out).mono ?_); (case side1 => exact Z7.z0); (case side2 => exact Kd.R_tight rfl HO_9.out); rintro e w242 ⟨rfl, hy0, hb, hkp⟩; refine ⟨_, rfl, ?_⟩; have n0_ := Z7.k (Kd.R_mono (ok' := fun k_ => some k_ ≠ (.slice Ao241 t133.length co241 : Value).ownBlock ∧ some k_ ≠ (.slice Ao22 t112.length co22 : Value).ownBlock ∧ some k_ ≠ (.slice Ao29 t148.length co29 : Value).ownBlock ∧ some k_ ≠ (.slice Ao36 t130.length co36 : Value).ownBlock) (Kd.R_keptB (HO_5.out) hkp (fun k_ hk_ hs_ => (hk_.1) hs_)) (fun k_ hk_ => ⟨hk_.1.1, hk_.1.2.1, hk_.1.2.2.1, hk_.1.2.2.2⟩)); have n1_ := Z7.k (Kd.R_reok rfl hy0 (fun k_ e_ => HO_9.out.1 k_ e_)); have n2_ := Z7.k (Kd.R_mono (ok' := fun k_ => some k_ ≠ (v116 : Value).ownBlock ∧ some k_ ≠ (.slice Ao241 t133.length co241 : Value).ownBlock ∧ some k_ ≠ (.slice Ao29 t148.length co29 : Value).ownBlock ∧ some k_ ≠ (.slice Ao36 t130.length co36 : Value).ownBlock) (Kd.R_keptB (HO_120003.out) hkp (fun k_ hk_ hs_ => (hk_.2.1) hs_)) (fun k_ hk_ => ⟨hk_.1.1, hk_.1.2.1, hk_.1.2.2.1, hk_.1.2.2.2⟩)); have n3_ := Z7.k (Kd.R_mono (ok' := fun k_ => some k_ ≠ (v116 : Value).ownBlock ∧ some k_ ≠ (.slice Ao241 t133.length co241 : Value).ownBlock ∧ some k_ ≠ (.slice Ao22 t112.length co22 : Value).ownBlock ∧ some k_ ≠ (.slice Ao36 t130.length co36 : Value).ownBlock) (Kd.R_keptB (HO_127003.out) hkp (fun k_ hk_ hs_ => (hk_.2.1) hs_)) (fun k_ hk_ => ⟨hk_.1.1, hk_.1.2.1, hk_.1.2.2.1, hk_.1.2.2.2⟩)); have n4_ := Z7.k (Kd.R_mono (ok' := fun k_ => some k_ ≠ (v116 : Value).ownBlock ∧ some k_ ≠ (.slice Ao241 t133.length co241 : Value).ownBlock ∧ some k_ ≠ (.slice Ao22 t112.length co22 : Value).ownBlock ∧ some k_ ≠ (.slice Ao29 t148.length co29 : Value).ownBlock) (Kd.R_keptB (HO_138003.out) hkp (fun k_ hk_ hs_ => (hk_.2.1) hs_)) (fun k_ hk_ => ⟨hk_.1.1, hk_.1.2.1, hk_.1.2.2.1, hk_.1.2.2.2⟩)); have n5_ := Z7.k (blk_kept Z7.z1 hkp (fun hs_ => (fun e_ => (Kd.R_ne HO_9.out BK101.out (by decide)) e_) hs_)); have n6_ := Z7.k (blk_kept Z7.z2 hkp (fun hs_ => (fun e_ => (Kd.R_ne HO_9.out BK119.out (by decide)) e_) hs_)); have n7_ := Z7.k (blk_kept Z7.z5 hkp (fun hs_ => (fun e_ => (Kd.R_ne HO_9.out BK126.out (by decide)) e_) hs_)); have n8_ := Z7.k (blk_kept Z7.z6 hkp (fun hs_ => (fun e_ => (Kd.R_ne HO_9.out BK137.out (by decide)) e_) hs_)); have n9_ := Z7.k (hb); clear HO_5 HO_9 HO_120003 HO_127003 HO_138003 BK101 BK119 BK126 BK137 HB; have HO_5 := n0_; have HO_9 := n1_; have HO_120003 := n2_; have HO_127003 := n3_; have HO_138003 := n4_; have BK101 := n5_; have BK119 := n6_; have BK126 := n7_; have BK137 := n8_; have HB := n9_; clear n0_ n1_ n2_ n3_ n4_ n5_ n6_ n7_ n8_ n9_; (try clear hb); (try clear hkp); (try clear hy0); have hcz243_0 : w242.cell? ⟨gb137, 0, none⟩ = some (.int .i64 t127) := (blk_cell BK137.out 0).trans rfl; have hcz243_1 : w242.cell? ⟨gb137, 1, none⟩ = some (.int .i64 t128) := (blk_cell BK137.out 1).trans rfl; have hcz243_2 : w242.cell? ⟨gb137, 2, none⟩ = some (.int .i64 t129) := (blk_cell BK137.out 2).trans rfl; have hcz243_3 : w242.cell? ⟨gb137, 3, none⟩ = some (.slice Ao36 t130.length co36) := (blk_cell BK137.out 3).trans rfl; have hfz243_0 := blk_frozen BK137.out 0; have hfz243_1 := blk_frozen BK137.out 1; have hfz243_2 := blk_frozen BK137.out 2; have hfz243_3 := blk_frozen BK137.out 3) | ((with_reducible refine gate_callee (f := 18) rfl ?_); refine goesL_ (some 87) rfl rfl Try.func18 (by kernel_rfl) rfl #[.agg #[.int .i64 t127, .int .i64 t128, .int .i64 t129, .slice Ao36 t152.length co36], .int .i64 1] rfl Z7.z44 ?_; (with_reducible refine (laws_heldMatrix.calls kj73 t127 t128 t129 _ _ t152 1 t155 _ ?side1 ?side2 A120.out).mono ?_); (case side1 => exact Z7.z17); (case side2 => exact Z7.z78); rintro e w244 ⟨rfl, hb⟩; refine ⟨_, rfl, ?_⟩; have n0_ := Z7.k (Kd.R_below Z7.z18 hb); have n1_ := Z7.k (Kd.R_below Z7.z16 hb); have n2_ := Z7.k (Kd.R_below Z7.z13 hb); have n3_ := Z7.k (Kd.R_below Z7.z12 hb); have n4_ := Z7.k (Kd.R_below Z7.z11 hb); have n5_ := Z7.k (Z7.bb BK101 Z7.z1 hb); have n6_ := Z7.k (Z7.bb BK119 Z7.z2 hb); have n7_ := Z7.k (Z7.bb BK126 Z7.z5 hb); have n8_ := Z7.k (Z7.bb BK137 Z7.z6 hb); have n9_ := Z7.k (below_step Z7.z0 hb); clear HO_5 HO_9 HO_120003 HO_127003 HO_138003 BK101 BK119 BK126 BK137 HB; have HO_5 := n0_; have HO_9 := n1_; have HO_120003 := n2_; have HO_127003 := n3_; have HO_138003 := n4_; have BK101 := n5_; have BK119 := n6_; have BK126 := n7_; have BK137 := n8_; have HB := n9_; clear n0_ n1_ n2_ n3_ n4_ n5_ n6_ n7_ n8_ n9_; (try clear hb); (try clear hb2); (try clear hk); (try clear hi)) | ((with_reducible refine gate_callee (f := 25) rfl ?_); refine goesL_ (some 92) rfl rfl Try.func25 (by kernel_rfl) rfl #[.slice Ao241 t154.length co241, .int .i64 t155] rfl Z7.z60 ?_; (with_reducible refine (laws_heldInt64S.calls kj73 _ _ t154 t155 t156 _ ?side1 ?side2 A131.out).mono ?_); (case side1 => exact Z7.z22); (case side2 => exact Z7.z87); rintro e w' ⟨rfl, ⟨nd, rfl⟩⟩; refine ⟨_, rfl, ?_⟩))
      go_ret
      exact ⟨Z7.z40, Z7.z0⟩
   replace c72 := Bool.eq_false_iff.mpr c72
   subst c72
   have H1 : (some false) = some r := by rw [if_neg (show ¬ (false = true) by decide)] at H; exact H
   clear H
   have H := H1
   clear H1
   obtain rfl := Option.some.inj H
   try go_wp2
   have n0_ := Z7.k (Kd.R_drew HO_5.out)
   have n1_ := Z7.k (Kd.R_drew HO_9.out)
   have n2_ := Z7.k (Kd.R_drew HO_120003.out)
   have n3_ := Z7.k (Kd.R_drew HO_127003.out)
   have n4_ := Z7.k (Kd.R_drew HO_138003.out)
   have n5_ := Z7.k (blk_drew BK101.out)
   have n6_ := Z7.k (blk_drew BK119.out)
   have n7_ := Z7.k (blk_drew BK126.out)
   have n8_ := Z7.k (blk_drew BK137.out)
   have n9_ := Z7.k (below_drew1 HB.out)
   clear HO_5 HO_9 HO_120003 HO_127003 HO_138003 BK101 BK119 BK126 BK137 HB
   have HO_5 := n0_
   have HO_9 := n1_
   have HO_120003 := n2_
   have HO_127003 := n3_
   have HO_138003 := n4_
   have BK101 := n5_
   have BK119 := n6_
   have BK126 := n7_
   have BK137 := n8_
   have HB := n9_
   clear n0_ n1_ n2_ n3_ n4_ n5_ n6_ n7_ n8_ n9_
   refine start_ (n := 5) (S := fun w' => w'.cell? ⟨gb126, 0, none⟩ = some (.int .i64 t120) ∧ w'.cell? ⟨gb126, 1, none⟩ = some (.int .i64 t121) ∧ w'.cell? ⟨gb126, 2, none⟩ = some (.int .i64 t122) ∧ w'.cell? ⟨gb126, 3, none⟩ = some (.slice Ao29 t123.length co29) ∧ w'.cell? ⟨gb101, 0, none⟩ = some (.int .i64 a0_0) ∧ w'.cell? ⟨gb101, 1, none⟩ = some (.int .i64 a0_1) ∧ w'.cell? ⟨gb101, 2, none⟩ = some (.int .i64 a0_2) ∧ w'.cell? ⟨gb101, 3, none⟩ = some (.slice A0_3 l0_3.length c0_3)) (ds := []) #[false, false, false, false, false] (by kernel_rfl) rfl rfl Z7.z21 (fun hHeld => ?_)
   generalize wc.drew = w245 at HO_5 HO_9 HO_120003 HO_127003 HO_138003 BK101 BK119 BK126 BK137 HB hHeld ⊢
   refine take_ (i := 0) (N := some 52) (v := ?_) (a' := ?_) #[true, false, false, false, false] rfl rfl (by kernel_rfl) (fun _ _ _ h => h) (Or.inl ⟨(by rfl), ?_⟩) hHeld ?_ ?_
   rotate_left
   ·rintro w' ⟨s0, s1, s2, s3, s4, s5, s6, s7⟩
    go_simp
    with_reducible rfl
   rotate_left
   ·exact Z7.z55
   refine take_ (i := 1) (N := some 53) (v := ?_) (a' := ?_) #[true, true, false, false, false] rfl rfl (by kernel_rfl) (fun _ _ _ h => h) (Or.inl ⟨(by rfl), ?_⟩) hHeld ?_ ?_
   rotate_left
   ·rintro w' ⟨s0, s1, s2, s3, s4, s5, s6, s7⟩
    go_simp
    with_reducible rfl
   rotate_left
   ·exact Z7.z55
   refine one_ (i := 2) (N := some 54) #[true, true, true, false, false] rfl rfl (by kernel_rfl) (by decide) (fun K hK => ?_)
   refine goes_ Try.func10 (by kernel_rfl) rfl #[.agg #[.int .i64 a0_0, .int .i64 a0_1, .int .i64 a0_2, .slice A0_3 l0_3.length c0_3]] (by rfl) rfl rfl Z7.z3 ?_
   with_reducible refine (laws_toMatrix.calls kj10 a0_0 a0_1 a0_2 _ _ l0_3 t140 t141 t142 t143 _ ?side1 ?side2 A70.out).mono ?_
   (case side1 => exact Z7.z41)
   (case side2 => exact HC0_3.out)
   rintro e w246 ⟨v144, rfl, ho0, hb⟩
   refine ⟨_, rfl, ?_⟩
   have n0_ := Z7.k (Kd.R_elder' Z7.z18 (Kd.R_base ho0) hb)
   have n1_ := Z7.k (Kd.R_elder' Z7.z16 (Kd.R_base ho0) hb)
   have n2_ := Z7.k (Kd.R_elder' Z7.z13 (Kd.R_base ho0) hb)
   have n3_ := Z7.k (Kd.R_elder' Z7.z12 (Kd.R_base ho0) hb)
   have n4_ := Z7.k (Kd.R_elder' Z7.z11 (Kd.R_base ho0) hb)
   have n5_ := Z7.k (Kd.R_lower (Kd.R_new' (Kd.R_new' (Kd.R_new' (Kd.R_new' (Kd.R_new' ho0 (Kd.R_lt Z7.z18)) (Kd.R_lt Z7.z16)) (Kd.R_lt Z7.z13)) (Kd.R_lt Z7.z12)) (Kd.R_lt Z7.z11)) (below_size Z7.z0))
   have n6_ := Z7.k (Z7.bb BK101 Z7.z1 hb)
   have n7_ := Z7.k (Z7.bb BK119 Z7.z2 hb)
   have n8_ := Z7.k (Z7.bb BK126 Z7.z5 hb)
   have n9_ := Z7.k (Z7.bb BK137 Z7.z6 hb)
   have n10_ := Z7.k (below_step Z7.z0 hb)
   clear HO_5 HO_9 HO_120003 HO_127003 HO_138003 BK101 BK119 BK126 BK137 HB
   have HO_5 := n0_
   have HO_9 := n1_
   have HO_120003 := n2_
   have HO_127003 := n3_
   have HO_138003 := n4_
   have HO145 := n5_
   have BK101 := n6_
   have BK119 := n7_
   have BK126 := n8_
   have BK137 := n9_
   have HB := n10_
   clear n0_ n1_ n2_ n3_ n4_ n5_ n6_ n7_ n8_ n9_ n10_
   (try clear hb)
   (try clear hb2)
   (try clear hk)
   (try clear hi)
   (try clear ho0)
   obtain ⟨Ao247, co247, eo247⟩ := Kd.R_slice HO145.out
   (first | subst eo247 | (injection eo247 with f1_ f2_ f3_; have f4_ := f1_.symm; have f5_ := f3_.symm; clear f1_ f2_ f3_; subst f4_; subst f5_))
   refine hK.out _ _ Z7.z21 (fun hHeld => ?_)
   clear hK K
   refine norm_ (a' := ?_) ?_ ?_
   rotate_left
   ·show Act.put _ (some 54) _ = _
    simp only [Act.put, List.setIfInBounds_toArray, List.set_cons_zero, List.set_cons_succ, i64_w, i32_w]
    rfl
   refine one_ (i := 3) (N := some 55) #[true, true, true, true, false] rfl rfl (by kernel_rfl) (by decide) (fun K hK => ?_)
   refine goes_ Try.func12 (by kernel_rfl) rfl #[.agg #[.int .i64 t120, .int .i64 t121, .int .i64 t122, .slice Ao29 t123.length co29], .agg #[.int .i64 t140, .int .i64 t141, .int .i64 t142, .slice Ao247 t143.length co247]] (by rfl) rfl rfl Z7.z3 ?_
   with_reducible refine (laws_eqMatrix.calls kj10 t120 t121 t122 _ _ t123 t140 t141 t142 _ _ t143 false _ ?side1 ?side2 ?side3 ?side4 A71.out).mono ?_
   (case side1 => exact Z7.z90)
   (case side2 => exact (Kd.R_reads' HO_127003.out).2.1)
   (case side3 => exact Z7.z92)
   (case side4 => exact (Kd.R_reads' HO145.out).2.1)
   rintro e w248 ⟨rfl, hb⟩
   refine ⟨_, rfl, ?_⟩
   have n0_ := Z7.k (Kd.R_below Z7.z18 hb)
   have n1_ := Z7.k (Kd.R_below Z7.z16 hb)
   have n2_ := Z7.k (Kd.R_below Z7.z13 hb)
   have n3_ := Z7.k (Kd.R_below Z7.z12 hb)
   have n4_ := Z7.k (Kd.R_below Z7.z11 hb)
   have n5_ := Z7.k (Kd.R_below Z7.z63 hb)
   have n6_ := Z7.k (Z7.bb BK101 Z7.z1 hb)
   have n7_ := Z7.k (Z7.bb BK119 Z7.z2 hb)
   have n8_ := Z7.k (Z7.bb BK126 Z7.z5 hb)
   have n9_ := Z7.k (Z7.bb BK137 Z7.z6 hb)
   have n10_ := Z7.k (below_step Z7.z0 hb)
   clear HO_5 HO_9 HO_120003 HO_127003 HO_138003 HO145 BK101 BK119 BK126 BK137 HB
   have HO_5 := n0_
   have HO_9 := n1_
   have HO_120003 := n2_
   have HO_127003 := n3_
   have HO_138003 := n4_
   have HO145 := n5_
   have BK101 := n6_
   have BK119 := n7_
   have BK126 := n8_
   have BK137 := n9_
   have HB := n10_
   clear n0_ n1_ n2_ n3_ n4_ n5_ n6_ n7_ n8_ n9_ n10_
   (try clear hb)
   (try clear hb2)
   (try clear hk)
   (try clear hi)
   refine hK.out _ _ Z7.z21 (fun hHeld => ?_)
   clear hK K
   refine norm_ (a' := ?_) ?_ ?_
   rotate_left
   ·show Act.put _ (some 55) _ = _
    simp only [Act.put, List.setIfInBounds_toArray, List.set_cons_zero, List.set_cons_succ, i64_w, i32_w]
    rfl
   refine pure_ (i := 4) (N := some 56) (v := ?_) (a' := ?_) #[true, true, true, true, true] rfl rfl (by kernel_rfl) (fun _ _ _ h => h) (Or.inl ⟨(by rfl), ?_⟩) ?_ ?_
   rotate_left
   ·intro w'
    go_simp
    with_reducible rfl
   rotate_left
   ·exact Z7.z55
   refine done_ (by kernel_rfl) ?_
   try go_wp2
   go_ret
   exact ⟨Z7.z40, Z7.z0⟩

/-- THE ONE PURE STATEMENT of laws_FnExactReducedForm: yours. -/
def laws_FnExactReducedForm.Pure : Prop := ∀ (a0_0 : Int) (a0_1 : Int) (a0_2 : Int) (l0_3 : List Int), (Lit.int .i64 a0_0).wf = true → (Lit.int .i64 a0_1).wf = true → (Lit.int .i64 a0_2).wf = true → l0_3.length ≤ maxLen → (∀ x ∈ l0_3, (Lit.int .i64 x).wf = true) → ∃ k, laws_FnExactReducedForm.f k a0_0 a0_1 a0_2 l0_3 = some true
theorem laws_FnExactReducedForm.walk (P : laws_FnExactReducedForm.Pure) (a0_0 : Int) (a0_1 : Int) (a0_2 : Int) (a0_3 : Option Addr) (len0_3 cap0_3 : Nat) (z0_3 : List Int) (w : World) (w0_0 : (Lit.int .i64 a0_0).wf = true) (w0_1 : (Lit.int .i64 a0_1).wf = true) (w0_2 : (Lit.int .i64 a0_2).wf = true) (w0_3 : (a0_3 = none ∧ len0_3 = 0 ∧ cap0_3 = 0 ∧ z0_3 = []) ∨ ∃ x, a0_3 = some x ∧ len0_3 ≤ cap0_3 ∧ cap0_3 ≤ maxLen ∧ z0_3.length = cap0_3 ∧ (∀ i, i < z0_3.length → w.cell? (x.add i) = some (.int .i64 (z0_3.getD i 0))) ∧ ∀ n ∈ z0_3, (Lit.int .i64 n).wf = true) :
    Calls Try.prog 7 #[.agg #[.int .i64 a0_0, .int .i64 a0_1, .int .i64 a0_2, .slice a0_3 len0_3 cap0_3]] w fun e w' => e = .returned (.bool true) ∧ Below w.heap.size w w' := by
  obtain ⟨l0_3, rfl, hr0_3, hm0_3, hw0_3, hc0_3⟩ := ReadsInt.ofRowC w0_3
  obtain ⟨k, h⟩ := P a0_0 a0_1 a0_2 l0_3 w0_0 w0_1 w0_2 hm0_3 hw0_3
  refine (laws_FnExactReducedForm.calls k a0_0 a0_1 a0_2 _ _ l0_3 true w (Kd.C_of_reads (d := (0 : Int)) (h1 := fun _ => rfl) hr0_3) hc0_3 h).mono ?_
  rintro e w' ⟨rfl, hd⟩
  exact ⟨rfl, hd⟩

end Go.Proofs.Ythnijchgjfmgaaa.F
end
