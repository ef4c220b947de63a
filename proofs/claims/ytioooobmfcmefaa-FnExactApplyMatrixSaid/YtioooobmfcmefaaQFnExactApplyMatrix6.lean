-- Texts of this claim, merged by pack.py (a program of this session's).
import Derived.Test.YtioooobmfcmefaaQFnExactApplyMatrix0
import Derived.Test.YtioooobmfcmefaaQFnExactApplyMatrix1
import Derived.Test.YtioooobmfcmefaaQFnExactApplyMatrix2
import Derived.Test.YtioooobmfcmefaaQFnExactApplyMatrix3
import Derived.Test.YtioooobmfcmefaaQFnExactApplyMatrix5

section
namespace Go.Proofs.Ytioooobmfcmefaa.F
open Go.RowKit Go.Proofs.YtioooobmfcmefaaW.PrintWords Go.Proofs.YtioooobmfcmefaaW.PrintLast Go.Proofs.YtioooobmfcmefaaW.PrintMore
attribute [local go_sem] max2_int min2_int max_two min_two max_three min_three max_four min_four   -- for this text's walks alone
set_option linter.unusedVariables false
set_option linter.unusedSimpArgs false

/-! ### laws_FnExactApplyMatrix: function 6 -/
mutual
def laws_FnExactApplyMatrix.j0 : Nat → List Int → List Int → Int → List Int → List Int → Int → Bool → Int → Int → Int → List Int → Int → Int → Int → List Int → Option (Bool)
  | 0, _, _, _, _, _, _, _, _, _, _, _, _, _, _, _ => none
  | k + 1, x1, x6, x7, x9, x10, x11, x51, x102000, x102001, x102002, x102003, x123000, x123001, x123002, x123003 => if x51 = true then (some false) else ((laws_toMatrix.f k x102000 x102001 x102002 x102003).bind fun bt131 => ((laws_eqMatrix.f k x123000 x123001 x123002 x123003 bt131.1 bt131.2.1 bt131.2.2.1 bt131.2.2.2).bind fun t137 => (if t137 = true then ((laws_toInt64S.f k x1).bind fun t138 => ((laws_eqInt64S.f k x9 t138).bind fun t141 => (if t141 = true then ((laws_markMatrix.f k x123000 x123001 x123002 x123003 1).bind fun bt142 => ((laws_markInt64S.f k x9 bt142.1).bind fun bt144 => (if bt144.1 < 0 then (laws_FnExactApplyMatrix.j1 k x1 x6 x7 x10 true x102000 x102001 x102002 x102003) else ((laws_eqInt64S.f k x10 x6).bind fun t146 => (if t146 = true then (laws_FnExactApplyMatrix.j1 k x1 x6 x7 x10 (x11 != x7) x102000 x102001 x102002 x102003) else (laws_FnExactApplyMatrix.j1 k x1 x6 x7 x10 true x102000 x102001 x102002 x102003)))))) else (some false)))) else (some false))))
def laws_FnExactApplyMatrix.j1 : Nat → List Int → List Int → Int → List Int → Bool → Int → Int → Int → List Int → Option (Bool)
  | 0, _, _, _, _, _, _, _, _, _ => none
  | k + 1, x1, x6, x7, x10, x80, x102000, x102001, x102002, x102003 => if x80 = true then (some false) else ((laws_markInt64S.f k x10 1).bind fun bt147 => ((laws_heldInt64S.f k bt147.2 1).bind fun t149 => (if t149 < 0 then (some false) else (if t149 = bt147.1 then ((laws_toMatrix.f k x102000 x102001 x102002 x102003).bind fun bt150 => ((laws_toInt64S.f k x1).bind fun t156 => ((impl_ApplyMatrix.f k bt150.1 bt150.2.1 bt150.2.2.1 bt150.2.2.2 t156).bind fun bt159 => ((laws_eqInt64S.f k bt159.1 x6).bind fun t163 => (if t163 = true then (laws_FnExactApplyMatrix.j2 k bt147.2 bt147.1 (bt159.2 != x7)) else (laws_FnExactApplyMatrix.j2 k bt147.2 bt147.1 true)))))) else (some false)))))
def laws_FnExactApplyMatrix.j2 : Nat → List Int → Int → Bool → Option (Bool)
  | 0, _, _, _ => none
  | k + 1, x10, x13, x108 => if x108 = true then (some false) else ((laws_heldInt64S.f k x10 1).bind fun t164 => (if t164 < 0 then (some false) else (if t164 = x13 then (some true) else (some false))))
end
def laws_FnExactApplyMatrix.f (k : Nat) (a0_0 : Int) (a0_1 : Int) (a0_2 : Int) (l0_3 : List Int) (l1 : List Int) : Option (Bool) := if (l1.length : Int) > 1048576 then (some true) else ((laws_szMatrix.f a0_0 a0_1 a0_2 l0_3 1048576).bind fun t102 => (if t102 < 0 then (some true) else ((laws_toMatrix.f k a0_0 a0_1 a0_2 l0_3).bind fun bt103 => ((laws_toInt64S.f k l1).bind fun t109 => ((spec_ApplyMatrix.f k bt103.1 bt103.2.1 bt103.2.2.1 bt103.2.2.2 t109).bind fun bt112 => ((laws_toMatrix.f k a0_0 a0_1 a0_2 l0_3).bind fun bt116 => ((laws_toInt64S.f k l1).bind fun t123 => ((impl_ApplyMatrix.f k bt116.1 bt116.2.1 bt116.2.2.1 bt116.2.2.2 t123).bind fun bt126 => ((laws_eqInt64S.f k bt126.1 bt112.1).bind fun t130 => (if t130 = true then (laws_FnExactApplyMatrix.j0 k l1 bt112.1 bt112.2 t123 bt126.1 bt126.2 (bt126.2 != bt112.2) a0_0 a0_1 a0_2 l0_3 bt116.1 bt116.2.1 bt116.2.2.1 bt116.2.2.2) else (laws_FnExactApplyMatrix.j0 k l1 bt112.1 bt112.2 t123 bt126.1 bt126.2 true a0_0 a0_1 a0_2 l0_3 bt116.1 bt116.2.1 bt116.2.2.1 bt116.2.2.2)))))))))))
theorem laws_FnExactApplyMatrix.mono_l : ∀ k, (∀ y0 y1 y2 y3 y4 y5 y6 y7 y8 y9 y10 y11 y12 y13 y14, LeO (laws_FnExactApplyMatrix.j0 k y0 y1 y2 y3 y4 y5 y6 y7 y8 y9 y10 y11 y12 y13 y14) (laws_FnExactApplyMatrix.j0 (k + 1) y0 y1 y2 y3 y4 y5 y6 y7 y8 y9 y10 y11 y12 y13 y14)) ∧ (∀ y0 y1 y2 y3 y4 y5 y6 y7 y8, LeO (laws_FnExactApplyMatrix.j1 k y0 y1 y2 y3 y4 y5 y6 y7 y8) (laws_FnExactApplyMatrix.j1 (k + 1) y0 y1 y2 y3 y4 y5 y6 y7 y8)) ∧ (∀ y0 y1 y2, LeO (laws_FnExactApplyMatrix.j2 k y0 y1 y2) (laws_FnExactApplyMatrix.j2 (k + 1) y0 y1 y2))
  | 0 => ⟨fun _ _ _ _ _ _ _ _ _ _ _ _ _ _ _ r h => by simp [laws_FnExactApplyMatrix.j0] at h, fun _ _ _ _ _ _ _ _ _ r h => by simp [laws_FnExactApplyMatrix.j1] at h, fun _ _ _ r h => by simp [laws_FnExactApplyMatrix.j2] at h⟩
  | k + 1 => by
    obtain ⟨ih0, ih1, ih2⟩ := laws_FnExactApplyMatrix.mono_l k
    refine ⟨?_, ?_, ?_⟩
    · intro y0 y1 y2 y3 y4 y5 y6 y7 y8 y9 y10 y11 y12 y13 y14
      unfold laws_FnExactApplyMatrix.j0
      repeat' first
      | (with_reducible exact ih0 _ _ _ _ _ _ _ _ _ _ _ _ _ _ _)
      | (with_reducible exact ih1 _ _ _ _ _ _ _ _ _)
      | (with_reducible exact ih2 _ _ _)
      | (with_reducible exact impl_ApplyMatrix.mono _ _ _ _ _ _)
      | (with_reducible exact laws_eqInt64S.mono _ _ _)
      | (with_reducible exact laws_eqMatrix.mono _ _ _ _ _ _ _ _ _)
      | (with_reducible exact laws_heldInt64S.mono _ _ _)
      | (with_reducible exact laws_markInt64S.mono _ _ _)
      | (with_reducible exact laws_markMatrix.mono _ _ _ _ _ _)
      | (with_reducible exact laws_toInt64S.mono _ _)
      | (with_reducible exact laws_toMatrix.mono _ _ _ _ _)
      | (with_reducible exact spec_ApplyMatrix.mono _ _ _ _ _ _)
      | (with_reducible exact LeO.refl _)
      | (with_reducible exact LeO.none _)
      | (with_reducible refine LeO.ite ?_ ?_)
      | (with_reducible refine LeO.bind ?_ (fun _ => ?_))
      | exact ih0 _ _ _ _ _ _ _ _ _ _ _ _ _ _ _
      | exact ih1 _ _ _ _ _ _ _ _ _
      | exact ih2 _ _ _
      | exact impl_ApplyMatrix.mono _ _ _ _ _ _
      | exact laws_eqInt64S.mono _ _ _
      | exact laws_eqMatrix.mono _ _ _ _ _ _ _ _ _
      | exact laws_heldInt64S.mono _ _ _
      | exact laws_markInt64S.mono _ _ _
      | exact laws_markMatrix.mono _ _ _ _ _ _
      | exact laws_toInt64S.mono _ _
      | exact laws_toMatrix.mono _ _ _ _ _
      | exact spec_ApplyMatrix.mono _ _ _ _ _ _
      | exact LeO.none _
      | refine LeO.ite ?_ ?_
      | refine LeO.bind ?_ (fun _ => ?_)
    · intro y0 y1 y2 y3 y4 y5 y6 y7 y8
      unfold laws_FnExactApplyMatrix.j1
      repeat' first
      | (with_reducible exact ih0 _ _ _ _ _ _ _ _ _ _ _ _ _ _ _)
      | (with_reducible exact ih1 _ _ _ _ _ _ _ _ _)
      | (with_reducible exact ih2 _ _ _)
      | (with_reducible exact impl_ApplyMatrix.mono _ _ _ _ _ _)
      | (with_reducible exact laws_eqInt64S.mono _ _ _)
      | (with_reducible exact laws_eqMatrix.mono _ _ _ _ _ _ _ _ _)
      | (with_reducible exact laws_heldInt64S.mono _ _ _)
      | (with_reducible exact laws_markInt64S.mono _ _ _)
      | (with_reducible exact laws_markMatrix.mono _ _ _ _ _ _)
      | (with_reducible exact laws_toInt64S.mono _ _)
      | (with_reducible exact laws_toMatrix.mono _ _ _ _ _)
      | (with_reducible exact spec_ApplyMatrix.mono _ _ _ _ _ _)
      | (with_reducible exact LeO.refl _)
      | (with_reducible exact LeO.none _)
      | (with_reducible refine LeO.ite ?_ ?_)
      | (with_reducible refine LeO.bind ?_ (fun _ => ?_))
      | exact ih0 _ _ _ _ _ _ _ _ _ _ _ _ _ _ _
      | exact ih1 _ _ _ _ _ _ _ _ _
      | exact ih2 _ _ _
      | exact impl_ApplyMatrix.mono _ _ _ _ _ _
      | exact laws_eqInt64S.mono _ _ _
      | exact laws_eqMatrix.mono _ _ _ _ _ _ _ _ _
      | exact laws_heldInt64S.mono _ _ _
      | exact laws_markInt64S.mono _ _ _
      | exact laws_markMatrix.mono _ _ _ _ _ _
      | exact laws_toInt64S.mono _ _
      | exact laws_toMatrix.mono _ _ _ _ _
      | exact spec_ApplyMatrix.mono _ _ _ _ _ _
      | exact LeO.none _
      | refine LeO.ite ?_ ?_
      | refine LeO.bind ?_ (fun _ => ?_)
    · intro y0 y1 y2
      unfold laws_FnExactApplyMatrix.j2
      repeat' first
      | (with_reducible exact ih0 _ _ _ _ _ _ _ _ _ _ _ _ _ _ _)
      | (with_reducible exact ih1 _ _ _ _ _ _ _ _ _)
      | (with_reducible exact ih2 _ _ _)
      | (with_reducible exact impl_ApplyMatrix.mono _ _ _ _ _ _)
      | (with_reducible exact laws_eqInt64S.mono _ _ _)
      | (with_reducible exact laws_eqMatrix.mono _ _ _ _ _ _ _ _ _)
      | (with_reducible exact laws_heldInt64S.mono _ _ _)
      | (with_reducible exact laws_markInt64S.mono _ _ _)
      | (with_reducible exact laws_markMatrix.mono _ _ _ _ _ _)
      | (with_reducible exact laws_toInt64S.mono _ _)
      | (with_reducible exact laws_toMatrix.mono _ _ _ _ _)
      | (with_reducible exact spec_ApplyMatrix.mono _ _ _ _ _ _)
      | (with_reducible exact LeO.refl _)
      | (with_reducible exact LeO.none _)
      | (with_reducible refine LeO.ite ?_ ?_)
      | (with_reducible refine LeO.bind ?_ (fun _ => ?_))
      | exact ih0 _ _ _ _ _ _ _ _ _ _ _ _ _ _ _
      | exact ih1 _ _ _ _ _ _ _ _ _
      | exact ih2 _ _ _
      | exact impl_ApplyMatrix.mono _ _ _ _ _ _
      | exact laws_eqInt64S.mono _ _ _
      | exact laws_eqMatrix.mono _ _ _ _ _ _ _ _ _
      | exact laws_heldInt64S.mono _ _ _
      | exact laws_markInt64S.mono _ _ _
      | exact laws_markMatrix.mono _ _ _ _ _ _
      | exact laws_toInt64S.mono _ _
      | exact laws_toMatrix.mono _ _ _ _ _
      | exact spec_ApplyMatrix.mono _ _ _ _ _ _
      | exact LeO.none _
      | refine LeO.ite ?_ ?_
      | refine LeO.bind ?_ (fun _ => ?_)
theorem laws_FnExactApplyMatrix.mono : ∀ a0 a1 a2 a3 a4 k, LeO (laws_FnExactApplyMatrix.f k a0 a1 a2 a3 a4) (laws_FnExactApplyMatrix.f (k + 1) a0 a1 a2 a3 a4) := by
  intro a0 a1 a2 a3 a4 k
  obtain ⟨ih0, ih1, ih2⟩ := laws_FnExactApplyMatrix.mono_l k
  unfold laws_FnExactApplyMatrix.f
  repeat' first
      | (with_reducible exact ih0 _ _ _ _ _ _ _ _ _ _ _ _ _ _ _)
      | (with_reducible exact ih1 _ _ _ _ _ _ _ _ _)
      | (with_reducible exact ih2 _ _ _)
      | (with_reducible exact impl_ApplyMatrix.mono _ _ _ _ _ _)
      | (with_reducible exact laws_eqInt64S.mono _ _ _)
      | (with_reducible exact laws_eqMatrix.mono _ _ _ _ _ _ _ _ _)
      | (with_reducible exact laws_heldInt64S.mono _ _ _)
      | (with_reducible exact laws_markInt64S.mono _ _ _)
      | (with_reducible exact laws_markMatrix.mono _ _ _ _ _ _)
      | (with_reducible exact laws_toInt64S.mono _ _)
      | (with_reducible exact laws_toMatrix.mono _ _ _ _ _)
      | (with_reducible exact spec_ApplyMatrix.mono _ _ _ _ _ _)
      | (with_reducible exact LeO.refl _)
      | (with_reducible exact LeO.none _)
      | (with_reducible refine LeO.ite ?_ ?_)
      | (with_reducible refine LeO.bind ?_ (fun _ => ?_))
      | exact ih0 _ _ _ _ _ _ _ _ _ _ _ _ _ _ _
      | exact ih1 _ _ _ _ _ _ _ _ _
      | exact ih2 _ _ _
      | exact impl_ApplyMatrix.mono _ _ _ _ _ _
      | exact laws_eqInt64S.mono _ _ _
      | exact laws_eqMatrix.mono _ _ _ _ _ _ _ _ _
      | exact laws_heldInt64S.mono _ _ _
      | exact laws_markInt64S.mono _ _ _
      | exact laws_markMatrix.mono _ _ _ _ _ _
      | exact laws_toInt64S.mono _ _
      | exact laws_toMatrix.mono _ _ _ _ _
      | exact spec_ApplyMatrix.mono _ _ _ _ _ _
      | exact LeO.none _
      | refine LeO.ite ?_ ?_
      | refine LeO.bind ?_ (fun _ => ?_)
theorem Z6.bb {w0 w w1 : World} {g : Nat} {o : Obj} (_B : Aside0 (w0.heap[g]? = some o)) (h : w.heap[g]? = some o) (hb : Below w.heap.size w w1) : w1.heap[g]? = some o := blk_below h hb
theorem Z6.bl {w0 w : World} {g : Nat} {o : Obj} (_B : Aside0 (w0.heap[g]? = some o)) (h : w.heap[g]? = some o) : g < w.heap.size := blk_lt h
theorem Z6.z47 {P : Prop} (h : P := by (try simp only [hl123003_50]); (with_reducible repeat (first | refine blk_drewN ?_ _ | refine blk_drew ?_ | refine blk_alloc ?_ _)); exact BK101.out) : P := h
theorem Z6.z46 {P : Prop} (h : P := by (try simp only [hl123003_50]); (with_reducible repeat (first | refine blk_drewN ?_ _ | refine blk_drew ?_ | refine blk_alloc ?_ _)); exact BK122.out) : P := h
theorem Z6.z45 {P : Prop} (h : P := by first | rfl | (simp; done) | (simp [*]; done)) : P := h
theorem Z6.z44 {P : Prop} (h : P := by (with_reducible repeat (first | apply Kd.R_alloc | apply Kd.R_drewN | apply Kd.R_drew)); exact Kd.R_mono HO114.out (fun _ hk => ⟨hk.1.2, ⟨hk.2, hk.1.1.2⟩⟩)) : P := h
theorem Z6.z43 {P : Prop} (h : P := by (with_reducible repeat (first | apply Kd.R_alloc | apply Kd.R_drewN | apply Kd.R_drew)); exact Kd.R_mono HO121.out (fun _ hk => ⟨hk.1.1.2, ⟨hk.1.2, hk.2⟩⟩)) : P := h
theorem Z6.z42 {P : Prop} (h : P := by (with_reducible repeat (first | apply Kd.R_alloc | apply Kd.R_drewN | apply Kd.R_drew)); exact Kd.R_mono HO125.out (fun _ hk => ⟨hk.1.1.2, ⟨hk.2, hk.1.2⟩⟩)) : P := h
theorem Z6.z41 {P : Prop} (h : P := by (with_reducible repeat (first | apply Kd.R_alloc | apply Kd.R_drewN | apply Kd.R_drew)); exact Kd.R_mono HO128.out (fun _ hk => ⟨hk.1.1.2, ⟨hk.2, hk.1.2⟩⟩)) : P := h
theorem Z6.z40 {P : Prop} (h : P := by (try simp only [hl123003_50]); (with_reducible repeat (first | apply Kd.R_alloc | apply Kd.R_drewN | apply Kd.R_drew)); exact Kd.R_mono HO_10.out (fun _ hk => hk.1.1.1.2)) : P := h
theorem Z6.z39 {P : Prop} (h : P := by repeat (first | exact (Kd.R_reads' HO_9.out).2.2 | (with_reducible refine Kd.C_alloc ?_ _) | (with_reducible refine Kd.C_drewN ?_ _) | (with_reducible refine Kd.C_drew ?_))) : P := h
theorem Z6.z38 {P : Prop} (h : P := by repeat (first | exact (Kd.R_reads' HO114.out).2.2 | (with_reducible refine Kd.C_alloc ?_ _) | (with_reducible refine Kd.C_drewN ?_ _) | (with_reducible refine Kd.C_drew ?_))) : P := h
theorem Z6.z37 {P : Prop} (h : P := by repeat (first | exact (Kd.R_reads' HO128.out).2.2 | (with_reducible refine Kd.C_alloc ?_ _) | (with_reducible refine Kd.C_drewN ?_ _) | (with_reducible refine Kd.C_drew ?_))) : P := h
theorem Z6.z36 {P : Prop} (h : P := by repeat (first | exact (Kd.R_reads' HO140.out).2.2 | (with_reducible refine Kd.C_alloc ?_ _) | (with_reducible refine Kd.C_drewN ?_ _) | (with_reducible refine Kd.C_drew ?_))) : P := h
theorem Z6.z35 {P : Prop} (h : P := by repeat (first | exact (Kd.R_reads' HO161.out).2.2 | (with_reducible refine Kd.C_alloc ?_ _) | (with_reducible refine Kd.C_drewN ?_ _) | (with_reducible refine Kd.C_drew ?_))) : P := h
theorem Z6.z34 {P : Prop} (h : P := by (try simp only [hl123003_50]); (with_reducible repeat (first | apply Kd.R_alloc | apply Kd.R_drewN | apply Kd.R_drew)); exact Kd.R_mono HO_123003.out (fun _ hk => hk.1.1.1.2)) : P := h
theorem Z6.z33 {P : Prop} (h : P := by (with_reducible repeat (first | apply Kd.R_alloc | apply Kd.R_drewN | apply Kd.R_drew)); exact HO121.out) : P := h
theorem Z6.z32 {P : Prop} (h : P := by rw [show t148.length = t126.length from (Kd.R_reads' HO_10.out).1.symm]; exact (Kd.R_reads' HO_10.out).2.1) : P := h
theorem Z6.z31 {P : Prop} (h : P := by (with_reducible repeat (first | apply Kd.R_alloc | apply Kd.R_drewN | apply Kd.R_drew)); exact HO155.out) : P := h
theorem Z6.z30 {P : Prop} (h : P := by (with_reducible repeat (first | apply Kd.R_alloc | apply Kd.R_drewN | apply Kd.R_drew)); exact Kd.R_mono HO_10.out (fun _ hk => ⟨hk.1, hk.2.2.1⟩)) : P := h
theorem Z6.z29 {P : Prop} (h : P := by (with_reducible repeat (first | apply Kd.R_alloc | apply Kd.R_drewN | apply Kd.R_drew)); exact Kd.R_mono HO_6.out (fun _ hk => ⟨hk.2.1, hk.2.2.1⟩)) : P := h
theorem Z6.z28 {P : Prop} (h : P := by (with_reducible repeat (first | apply Kd.R_alloc | apply Kd.R_drewN | apply Kd.R_drew)); exact Kd.R_mono HO_123003.out (fun _ hk => ⟨hk.1, hk.2.2.1⟩)) : P := h
theorem Z6.z27 {P : Prop} (h : P := by repeat (first | exact (Kd.R_reads' HO136.out).2.2 | (with_reducible refine Kd.C_alloc ?_ _) | (with_reducible refine Kd.C_drewN ?_ _) | (with_reducible refine Kd.C_drew ?_))) : P := h
theorem Z6.z26 {P : Prop} (h : P := by repeat (first | exact (Kd.R_reads' HO_123003.out).2.2 | (with_reducible refine Kd.C_alloc ?_ _) | (with_reducible refine Kd.C_drewN ?_ _) | (with_reducible refine Kd.C_drew ?_))) : P := h
theorem Z6.z25 {P : Prop} (h : P := by (with_reducible repeat (first | apply Kd.R_alloc | apply Kd.R_drewN | apply Kd.R_drew)); exact HO114.out) : P := h
theorem Z6.z24 {P : Prop} (h : P := by (try simp only [List.map_toArray, List.map_cons, List.map_nil]); first | done | (rw [show t148.length = t126.length from (Kd.R_reads' HO_10.out).1.symm] <;> rfl) | rfl | (simp only [List.length_drop, List.length_take]; rfl)) : P := h
theorem Z6.z23 {P : Prop} (h : P := by (with_reducible repeat (first | apply Kd.R_alloc | apply Kd.R_drewN | apply Kd.R_drew)); exact (Kd.R_mono (Kd.R_far (p := ⟨gb122, 3, none⟩) (Kd.R_far (p := ⟨gb122, 2, none⟩) (Kd.R_far (p := ⟨gb122, 1, none⟩) (Kd.R_far (p := ⟨gb122, 0, none⟩) (Kd.R_types HO108.out BK122.out (by decide)) (fun _ hk => hk.2) (.int .i64 t116)) (fun _ hk => hk.2) (.int .i64 t117)) (fun _ hk => hk.2) (.int .i64 t118)) (fun _ hk => hk.2) (.slice Ao31 t119.length co31)) (fun _ h_ => h_.1))) : P := h
theorem Z6.z22 {P : Prop} (h : P := by (with_reducible repeat (first | apply Kd.R_alloc | apply Kd.R_drewN | apply Kd.R_drew)); exact (Kd.R_mono (Kd.R_far (p := ⟨gb122, 3, none⟩) (Kd.R_far (p := ⟨gb122, 2, none⟩) (Kd.R_far (p := ⟨gb122, 1, none⟩) (Kd.R_far (p := ⟨gb122, 0, none⟩) (Kd.R_types HO111.out BK122.out (by decide)) (fun _ hk => hk.2) (.int .i64 t116)) (fun _ hk => hk.2) (.int .i64 t117)) (fun _ hk => hk.2) (.int .i64 t118)) (fun _ hk => hk.2) (.slice Ao31 t119.length co31)) (fun _ h_ => h_.1))) : P := h
theorem Z6.z21 {P : Prop} (h : P := by (with_reducible repeat (first | apply Kd.R_alloc | apply Kd.R_drewN | apply Kd.R_drew)); exact (Kd.R_mono (Kd.R_far (p := ⟨gb122, 3, none⟩) (Kd.R_far (p := ⟨gb122, 2, none⟩) (Kd.R_far (p := ⟨gb122, 1, none⟩) (Kd.R_far (p := ⟨gb122, 0, none⟩) (Kd.R_types HO114.out BK122.out (by decide)) (fun _ hk => hk.2) (.int .i64 t116)) (fun _ hk => hk.2) (.int .i64 t117)) (fun _ hk => hk.2) (.int .i64 t118)) (fun _ hk => hk.2) (.slice Ao31 t119.length co31)) (fun _ h_ => h_.1))) : P := h
theorem Z6.z20 {P : Prop} (h : P := by (with_reducible repeat (first | apply Kd.R_alloc | apply Kd.R_drewN | apply Kd.R_drew)); exact (Kd.R_mono (Kd.R_far (p := ⟨gb122, 3, none⟩) (Kd.R_far (p := ⟨gb122, 2, none⟩) (Kd.R_far (p := ⟨gb122, 1, none⟩) (Kd.R_far (p := ⟨gb122, 0, none⟩) (Kd.R_types HO121.out BK122.out (by decide)) (fun _ hk => hk.2) (.int .i64 t116)) (fun _ hk => hk.2) (.int .i64 t117)) (fun _ hk => hk.2) (.int .i64 t118)) (fun _ hk => hk.2) (.slice Ao31 t119.length co31)) (fun _ h_ => h_.1))) : P := h
theorem Z6.z19 {P : Prop} (h : P := by repeat (first | exact (Kd.R_reads' HO_6.out).2.2 | (with_reducible refine Kd.C_alloc ?_ _) | (with_reducible refine Kd.C_drewN ?_ _) | (with_reducible refine Kd.C_drew ?_))) : P := h
theorem Z6.z18 {P : Prop} (h : P := by repeat (first | exact (Kd.C_below HR1.out HB.out) | (with_reducible refine Kd.C_alloc ?_ _) | (with_reducible refine Kd.C_drewN ?_ _) | (with_reducible refine Kd.C_drew ?_))) : P := h
theorem Z6.z17 {P : Prop} (h : P := by (with_reducible repeat (first | apply Kd.R_alloc | apply Kd.R_drewN | apply Kd.R_drew)); exact HO111.out) : P := h
theorem Z6.z16 {P : Prop} (h : P := by (with_reducible repeat (first | apply Kd.R_alloc | apply Kd.R_drewN | apply Kd.R_drew)); exact HO136.out) : P := h
theorem Z6.z15 {P : Prop} (h : P := by (with_reducible repeat (first | apply Kd.R_alloc | apply Kd.R_drewN | apply Kd.R_drew)); exact HO108.out) : P := h
theorem Z6.z14 {P : Prop} (h : P := by simp only [Act.put, List.setIfInBounds_toArray, List.set_cons_zero, List.set_cons_succ, i64_w, i32_w]; rfl) : P := h
theorem Z6.z13 {P : Prop} (h : P := by first | rfl | (simp [errW_none, errW_some] <;> rfl) | (simp [*, errW_none, errW_some] <;> rfl)) : P := h
theorem Z6.z12 {P : Prop} (h : P := by repeat (first | (with_reducible first | exact HB.out | apply below_alloc | apply pw_below_drewN | apply below_drew1) | exact HB.out)) : P := h
theorem Z6.z11 {P : Prop} (h : P := by repeat (first | exact (Kd.C_below HR0_3.out HB.out) | (with_reducible refine Kd.C_alloc ?_ _) | (with_reducible refine Kd.C_drewN ?_ _) | (with_reducible refine Kd.C_drew ?_))) : P := h
theorem Z6.z10 {P : Prop} (h : P := by (with_reducible repeat (first | apply Kd.R_alloc | apply Kd.R_drewN | apply Kd.R_drew)); exact HO_9.out) : P := h
theorem Z6.z9 {P : Prop} (h : P := by repeat (first | exact (Kd.R_reads' HO_10.out).2.2 | (with_reducible refine Kd.C_alloc ?_ _) | (with_reducible refine Kd.C_drewN ?_ _) | (with_reducible refine Kd.C_drew ?_))) : P := h
theorem Z6.z8 {P : Prop} (h : P := by (with_reducible repeat (first | apply Kd.R_alloc | apply Kd.R_drewN | apply Kd.R_drew)); exact HO_6.out) : P := h
theorem Z6.z7 {P : Prop} (h : P := by (with_reducible repeat (first | apply Kd.R_alloc | apply Kd.R_drewN | apply Kd.R_drew)); exact HO_10.out) : P := h
theorem Z6.z6 {P : Prop} (h : P := by (with_reducible repeat (first | apply Kd.R_alloc | apply Kd.R_drewN | apply Kd.R_drew)); exact HO_123003.out) : P := h
theorem Z6.z5 {P : Prop} (h : P := by (with_reducible repeat (first | refine blk_drewN ?_ _ | refine blk_drew ?_ | refine blk_alloc ?_ _)); exact BK122.out) : P := h
theorem Z6.z4 {P : Prop} (h : P := by repeat (first | (with_reducible first | exact HB.out | apply below_alloc | apply pw_below_drewN | apply below_drew1 | refine below_set ?_ GE101.out) | exact HB.out)) : P := h
theorem Z6.z3 {P : Prop} (h : P := by exact ⟨(blk_cell BK122.out 0).trans rfl, (blk_cell BK122.out 1).trans rfl, (blk_cell BK122.out 2).trans rfl, (blk_cell BK122.out 3).trans rfl, (blk_cell BK101.out 0).trans rfl, (blk_cell BK101.out 1).trans rfl, (blk_cell BK101.out 2).trans rfl, (blk_cell BK101.out 3).trans rfl⟩) : P := h
theorem Z6.z2 {P : Prop} (h : P := by (with_reducible repeat (first | refine blk_drewN ?_ _ | refine blk_drew ?_ | refine blk_alloc ?_ _)); exact BK101.out) : P := h
theorem Z6.z1 {P : Prop} (h : P := by (try simp only [List.map_toArray, List.map_cons, List.map_nil]); first | done | rfl | (simp only [List.length_drop, List.length_take]; rfl)) : P := h
theorem Z6.z0 {P : Prop} (h : P := by repeat (first | (with_reducible first | exact HB.out | apply below_alloc | apply pw_below_drewN | apply below_drew1 | refine below_set ?_ GE101.out | refine below_set ?_ GE122.out) | exact HB.out)) : P := h
set_option maxHeartbeats 8000000 in
set_option maxRecDepth 100000 in
theorem laws_FnExactApplyMatrix.calls (k : Nat) (a0_0 : Int) (a0_1 : Int) (a0_2 : Int) (A0_3 : Option Addr) (c0_3 : Nat) (l0_3 : List Int) (A1 : Option Addr) (c1 : Nat) (l1 : List Int) (r : Bool) (w : World) (hr0_3 : Kd.C (Kd.int .i64) w A0_3 l0_3.length l0_3) (hc0_3 : l0_3.length ≤ c0_3) (hr1 : Kd.C (Kd.int .i64) w A1 l1.length l1) (hc1 : l1.length ≤ c1) (h : laws_FnExactApplyMatrix.f k a0_0 a0_1 a0_2 l0_3 l1 = some r) :
  Calls Try.prog 6 #[.agg #[.int .i64 a0_0, .int .i64 a0_1, .int .i64 a0_2, .slice A0_3 l0_3.length c0_3], .slice A1 l1.length c1] w fun e w' => e = .returned (.bool r) ∧ Below w.heap.size w w' := by
 have hu32 := Try.underlying32
 have hu24 := Try.underlying24
 have HR0_3 := Aside0.mk hr0_3
 have HC0_3 := Aside0.mk hc0_3
 clear hr0_3 hc0_3
 have HR1 := Aside0.mk hr1
 have HC1 := Aside0.mk hc1
 clear hr1 hc1
 have HB := Aside0.mk (Below.refl w.heap.size w)
 have H : (if (l1.length : Int) > 1048576 then (some true) else ((laws_szMatrix.f a0_0 a0_1 a0_2 l0_3 1048576).bind fun t102 => (if t102 < 0 then (some true) else ((laws_toMatrix.f k a0_0 a0_1 a0_2 l0_3).bind fun bt103 => ((laws_toInt64S.f k l1).bind fun t109 => ((spec_ApplyMatrix.f k bt103.1 bt103.2.1 bt103.2.2.1 bt103.2.2.2 t109).bind fun bt112 => ((laws_toMatrix.f k a0_0 a0_1 a0_2 l0_3).bind fun bt116 => ((laws_toInt64S.f k l1).bind fun t123 => ((impl_ApplyMatrix.f k bt116.1 bt116.2.1 bt116.2.2.1 bt116.2.2.2 t123).bind fun bt126 => ((laws_eqInt64S.f k bt126.1 bt112.1).bind fun t130 => (if t130 = true then (laws_FnExactApplyMatrix.j0 k l1 bt112.1 bt112.2 t123 bt126.1 bt126.2 (bt126.2 != bt112.2) a0_0 a0_1 a0_2 l0_3 bt116.1 bt116.2.1 bt116.2.2.1 bt116.2.2.2) else (laws_FnExactApplyMatrix.j0 k l1 bt112.1 bt112.2 t123 bt126.1 bt126.2 true a0_0 a0_1 a0_2 l0_3 bt116.1 bt116.2.1 bt116.2.2.1 bt116.2.2.2)))))))))))) = some r := h
 clear h
 by_cases c3 : (l1.length : Int) > 1048576
 ·rw [if_pos c3] at H
  have c3b0 : decide (1048576 < (l1.length : Int)) = true := decide_eq_true c3
  have c3b1 : decide (1048576 < l1.length) = true := decide_eq_true (by omega)
  clear c3
  obtain rfl := Option.some.inj H
  go_enter Try.func6, Try.ntmps6
  go_wp2_with (first | ((with_reducible refine gate_dst (N := 2) rfl ?_); refine box_event ?hg (N := 2) ?hd (cs := #[.int .i64 a0_0, .int .i64 a0_1, .int .i64 a0_2, .slice A0_3 l0_3.length c0_3]) (t := 32) ?hr ?_; (case hd => rfl); (case hg => rfl); (case hr => first | (go_simp; done) | (go_simp; rfl)); intro gb101 hg w4 hbox hb; have n0_ := Aside0.mk (below_step Z6.z12 hb); have n1_ := Aside0.mk (hbox); have n2_ := Aside0.mk (show w.heap.size ≤ gb101 from (by rw [hg]; exact (below_size Z6.z12))); have n3_ := Aside0.mk (show w.heap.size ≤ gb101 from (by rw [hg]; exact (below_size Z6.z12))); clear HB; have HB := n0_; have BK101 := n1_; have GW101 := n2_; have GE101 := n3_; clear n0_ n1_ n2_ n3_; clear hb hbox hg))
  go_ret
  exact ⟨Z6.z13, Z6.z4⟩
 rw [if_neg c3] at H
 have c3b0 : decide (1048576 < (l1.length : Int)) = false := decide_eq_false c3
 have c3b1 : decide (1048576 < l1.length) = false := decide_eq_false (by omega)
 clear c3
 replace H := Option.bind_eq_some_iff.mp H
 obtain ⟨t102, A50, H⟩ := H
 replace H : (if t102 < 0 then (some true) else ((laws_toMatrix.f k a0_0 a0_1 a0_2 l0_3).bind fun bt103 => ((laws_toInt64S.f k l1).bind fun t109 => ((spec_ApplyMatrix.f k bt103.1 bt103.2.1 bt103.2.2.1 bt103.2.2.2 t109).bind fun bt112 => ((laws_toMatrix.f k a0_0 a0_1 a0_2 l0_3).bind fun bt116 => ((laws_toInt64S.f k l1).bind fun t123 => ((impl_ApplyMatrix.f k bt116.1 bt116.2.1 bt116.2.2.1 bt116.2.2.2 t123).bind fun bt126 => ((laws_eqInt64S.f k bt126.1 bt112.1).bind fun t130 => (if t130 = true then (laws_FnExactApplyMatrix.j0 k l1 bt112.1 bt112.2 t123 bt126.1 bt126.2 (bt126.2 != bt112.2) a0_0 a0_1 a0_2 l0_3 bt116.1 bt116.2.1 bt116.2.2.1 bt116.2.2.2) else (laws_FnExactApplyMatrix.j0 k l1 bt112.1 bt112.2 t123 bt126.1 bt126.2 true a0_0 a0_1 a0_2 l0_3 bt116.1 bt116.2.1 bt116.2.2.1 bt116.2.2.2)))))))))) = some r := H
 have A5 := Aside0.mk A50
 clear A50
 by_cases c6 : t102 < 0
 ·rw [if_pos c6] at H
  have c6b0 : decide (t102 < 0) = true := decide_eq_true c6
  clear c6
  obtain rfl := Option.some.inj H
  go_enter Try.func6, Try.ntmps6
  go_wp2_with (first | ((with_reducible refine gate_dst (N := 2) rfl ?_); refine box_event ?hg (N := 2) ?hd (cs := #[.int .i64 a0_0, .int .i64 a0_1, .int .i64 a0_2, .slice A0_3 l0_3.length c0_3]) (t := 32) ?hr ?_; (case hd => rfl); (case hg => rfl); (case hr => first | (go_simp; done) | (go_simp; rfl)); intro gb101 hg w7 hbox hb; have n0_ := Aside0.mk (below_step Z6.z12 hb); have n1_ := Aside0.mk (hbox); have n2_ := Aside0.mk (show w.heap.size ≤ gb101 from (by rw [hg]; exact (below_size Z6.z12))); have n3_ := Aside0.mk (show w.heap.size ≤ gb101 from (by rw [hg]; exact (below_size Z6.z12))); clear HB; have HB := n0_; have BK101 := n1_; have GW101 := n2_; have GE101 := n3_; clear n0_ n1_ n2_ n3_; clear hb hbox hg; have hcz8_0 : w7.cell? ⟨gb101, 0, none⟩ = some (.int .i64 a0_0) := (blk_cell BK101.out 0).trans rfl; have hcz8_1 : w7.cell? ⟨gb101, 1, none⟩ = some (.int .i64 a0_1) := (blk_cell BK101.out 1).trans rfl; have hcz8_2 : w7.cell? ⟨gb101, 2, none⟩ = some (.int .i64 a0_2) := (blk_cell BK101.out 2).trans rfl; have hcz8_3 : w7.cell? ⟨gb101, 3, none⟩ = some (.slice A0_3 l0_3.length c0_3) := (blk_cell BK101.out 3).trans rfl; have hfz8_0 := blk_frozen BK101.out 0; have hfz8_1 := blk_frozen BK101.out 1; have hfz8_2 := blk_frozen BK101.out 2; have hfz8_3 := blk_frozen BK101.out 3) | ((with_reducible refine gate_callee (f := 22) rfl ?_); refine goesL_ (some 22) rfl rfl Try.func22 (by kernel_rfl) rfl #[.agg #[.int .i64 a0_0, .int .i64 a0_1, .int .i64 a0_2, .slice A0_3 l0_3.length c0_3], .int .i64 1048576] rfl Z6.z1 ?_; (with_reducible refine (laws_szMatrix.calls a0_0 a0_1 a0_2 _ _ l0_3 1048576 t102 _ ?side1 ?side2 A5.out).mono ?_); (case side1 => exact Z6.z11); (case side2 => exact HC0_3.out); rintro e w9 ⟨rfl, hb⟩; refine ⟨_, rfl, ?_⟩; have n0_ := Aside0.mk (Z6.bb BK101 Z6.z2 hb); have n1_ := Aside0.mk (below_step Z6.z4 hb); clear BK101 HB; have BK101 := n0_; have HB := n1_; clear n0_ n1_; (try clear hb); (try clear hb2); (try clear hk); (try clear hi)))
  go_ret
  exact ⟨Z6.z13, Z6.z4⟩
 rw [if_neg c6] at H
 have c6b0 : decide (t102 < 0) = false := decide_eq_false c6
 clear c6
 replace H := Option.bind_eq_some_iff.mp H
 obtain ⟨⟨t103, t104, t105, t106⟩, A100, H⟩ := H
 replace H : ((laws_toInt64S.f k l1).bind fun t109 => ((spec_ApplyMatrix.f k t103 t104 t105 t106 t109).bind fun bt112 => ((laws_toMatrix.f k a0_0 a0_1 a0_2 l0_3).bind fun bt116 => ((laws_toInt64S.f k l1).bind fun t123 => ((impl_ApplyMatrix.f k bt116.1 bt116.2.1 bt116.2.2.1 bt116.2.2.2 t123).bind fun bt126 => ((laws_eqInt64S.f k bt126.1 bt112.1).bind fun t130 => (if t130 = true then (laws_FnExactApplyMatrix.j0 k l1 bt112.1 bt112.2 t123 bt126.1 bt126.2 (bt126.2 != bt112.2) a0_0 a0_1 a0_2 l0_3 bt116.1 bt116.2.1 bt116.2.2.1 bt116.2.2.2) else (laws_FnExactApplyMatrix.j0 k l1 bt112.1 bt112.2 t123 bt126.1 bt126.2 true a0_0 a0_1 a0_2 l0_3 bt116.1 bt116.2.1 bt116.2.2.1 bt116.2.2.2)))))))) = some r := H
 have A10 := Aside0.mk A100
 clear A100
 replace H := Option.bind_eq_some_iff.mp H
 obtain ⟨t109, A110, H⟩ := H
 replace H : ((spec_ApplyMatrix.f k t103 t104 t105 t106 t109).bind fun bt112 => ((laws_toMatrix.f k a0_0 a0_1 a0_2 l0_3).bind fun bt116 => ((laws_toInt64S.f k l1).bind fun t123 => ((impl_ApplyMatrix.f k bt116.1 bt116.2.1 bt116.2.2.1 bt116.2.2.2 t123).bind fun bt126 => ((laws_eqInt64S.f k bt126.1 bt112.1).bind fun t130 => (if t130 = true then (laws_FnExactApplyMatrix.j0 k l1 bt112.1 bt112.2 t123 bt126.1 bt126.2 (bt126.2 != bt112.2) a0_0 a0_1 a0_2 l0_3 bt116.1 bt116.2.1 bt116.2.2.1 bt116.2.2.2) else (laws_FnExactApplyMatrix.j0 k l1 bt112.1 bt112.2 t123 bt126.1 bt126.2 true a0_0 a0_1 a0_2 l0_3 bt116.1 bt116.2.1 bt116.2.2.1 bt116.2.2.2))))))) = some r := H
 have A11 := Aside0.mk A110
 clear A110
 replace H := Option.bind_eq_some_iff.mp H
 obtain ⟨⟨t112, t115⟩, A120, H⟩ := H
 replace H : ((laws_toMatrix.f k a0_0 a0_1 a0_2 l0_3).bind fun bt116 => ((laws_toInt64S.f k l1).bind fun t123 => ((impl_ApplyMatrix.f k bt116.1 bt116.2.1 bt116.2.2.1 bt116.2.2.2 t123).bind fun bt126 => ((laws_eqInt64S.f k bt126.1 t112).bind fun t130 => (if t130 = true then (laws_FnExactApplyMatrix.j0 k l1 t112 t115 t123 bt126.1 bt126.2 (bt126.2 != t115) a0_0 a0_1 a0_2 l0_3 bt116.1 bt116.2.1 bt116.2.2.1 bt116.2.2.2) else (laws_FnExactApplyMatrix.j0 k l1 t112 t115 t123 bt126.1 bt126.2 true a0_0 a0_1 a0_2 l0_3 bt116.1 bt116.2.1 bt116.2.2.1 bt116.2.2.2)))))) = some r := H
 have A12 := Aside0.mk A120
 clear A120
 replace H := Option.bind_eq_some_iff.mp H
 obtain ⟨⟨t116, t117, t118, t119⟩, A130, H⟩ := H
 replace H : ((laws_toInt64S.f k l1).bind fun t123 => ((impl_ApplyMatrix.f k t116 t117 t118 t119 t123).bind fun bt126 => ((laws_eqInt64S.f k bt126.1 t112).bind fun t130 => (if t130 = true then (laws_FnExactApplyMatrix.j0 k l1 t112 t115 t123 bt126.1 bt126.2 (bt126.2 != t115) a0_0 a0_1 a0_2 l0_3 t116 t117 t118 t119) else (laws_FnExactApplyMatrix.j0 k l1 t112 t115 t123 bt126.1 bt126.2 true a0_0 a0_1 a0_2 l0_3 t116 t117 t118 t119))))) = some r := H
 have A13 := Aside0.mk A130
 clear A130
 replace H := Option.bind_eq_some_iff.mp H
 obtain ⟨t123, A140, H⟩ := H
 replace H : ((impl_ApplyMatrix.f k t116 t117 t118 t119 t123).bind fun bt126 => ((laws_eqInt64S.f k bt126.1 t112).bind fun t130 => (if t130 = true then (laws_FnExactApplyMatrix.j0 k l1 t112 t115 t123 bt126.1 bt126.2 (bt126.2 != t115) a0_0 a0_1 a0_2 l0_3 t116 t117 t118 t119) else (laws_FnExactApplyMatrix.j0 k l1 t112 t115 t123 bt126.1 bt126.2 true a0_0 a0_1 a0_2 l0_3 t116 t117 t118 t119)))) = some r := H
 have A14 := Aside0.mk A140
 clear A140
 replace H := Option.bind_eq_some_iff.mp H
 obtain ⟨⟨t126, t129⟩, A150, H⟩ := H
 replace H : ((laws_eqInt64S.f k t126 t112).bind fun t130 => (if t130 = true then (laws_FnExactApplyMatrix.j0 k l1 t112 t115 t123 t126 t129 (t129 != t115) a0_0 a0_1 a0_2 l0_3 t116 t117 t118 t119) else (laws_FnExactApplyMatrix.j0 k l1 t112 t115 t123 t126 t129 true a0_0 a0_1 a0_2 l0_3 t116 t117 t118 t119))) = some r := H
 have A15 := Aside0.mk A150
 clear A150
 have HC16 := Aside0.mk H
 clear H
 go_enter Try.func6, Try.ntmps6
 go_upto_region 11 with (first | ((with_reducible refine gate_dst (N := 2) rfl ?_); refine box_event ?hg (N := 2) ?hd (cs := #[.int .i64 a0_0, .int .i64 a0_1, .int .i64 a0_2, .slice A0_3 l0_3.length c0_3]) (t := 32) ?hr ?_; (case hd => rfl); (case hg => rfl); (case hr => first | (go_simp; done) | (go_simp; rfl)); intro gb101 hg w17 hbox hb; have n0_ := Aside0.mk (below_step Z6.z12 hb); have n1_ := Aside0.mk (hbox); have n2_ := Aside0.mk (show w.heap.size ≤ gb101 from (by rw [hg]; exact (below_size Z6.z12))); have n3_ := Aside0.mk (show w.heap.size ≤ gb101 from (by rw [hg]; exact (below_size Z6.z12))); clear HB; have HB := n0_; have BK101 := n1_; have GW101 := n2_; have GE101 := n3_; clear n0_ n1_ n2_ n3_; clear hb hbox hg; have hcz18_0 : w17.cell? ⟨gb101, 0, none⟩ = some (.int .i64 a0_0) := (blk_cell BK101.out 0).trans rfl; have hcz18_1 : w17.cell? ⟨gb101, 1, none⟩ = some (.int .i64 a0_1) := (blk_cell BK101.out 1).trans rfl; have hcz18_2 : w17.cell? ⟨gb101, 2, none⟩ = some (.int .i64 a0_2) := (blk_cell BK101.out 2).trans rfl; have hcz18_3 : w17.cell? ⟨gb101, 3, none⟩ = some (.slice A0_3 l0_3.length c0_3) := (blk_cell BK101.out 3).trans rfl; have hfz18_0 := blk_frozen BK101.out 0; have hfz18_1 := blk_frozen BK101.out 1; have hfz18_2 := blk_frozen BK101.out 2; have hfz18_3 := blk_frozen BK101.out 3) | ((with_reducible refine gate_callee (f := 22) rfl ?_); refine goesL_ (some 22) rfl rfl Try.func22 (by kernel_rfl) rfl #[.agg #[.int .i64 a0_0, .int .i64 a0_1, .int .i64 a0_2, .slice A0_3 l0_3.length c0_3], .int .i64 1048576] rfl Z6.z1 ?_; (with_reducible refine (laws_szMatrix.calls a0_0 a0_1 a0_2 _ _ l0_3 1048576 t102 _ ?side1 ?side2 A5.out).mono ?_); (case side1 => exact Z6.z11); (case side2 => exact HC0_3.out); rintro e w19 ⟨rfl, hb⟩; refine ⟨_, rfl, ?_⟩; have n0_ := Aside0.mk (Z6.bb BK101 Z6.z2 hb); have n1_ := Aside0.mk (below_step Z6.z4 hb); clear BK101 HB; have BK101 := n0_; have HB := n1_; clear n0_ n1_; (try clear hb); (try clear hb2); (try clear hk); (try clear hi); have hcz20_0 : w19.cell? ⟨gb101, 0, none⟩ = some (.int .i64 a0_0) := (blk_cell BK101.out 0).trans rfl; have hcz20_1 : w19.cell? ⟨gb101, 1, none⟩ = some (.int .i64 a0_1) := (blk_cell BK101.out 1).trans rfl; have hcz20_2 : w19.cell? ⟨gb101, 2, none⟩ = some (.int .i64 a0_2) := (blk_cell BK101.out 2).trans rfl; have hcz20_3 : w19.cell? ⟨gb101, 3, none⟩ = some (.slice A0_3 l0_3.length c0_3) := (blk_cell BK101.out 3).trans rfl; have hfz20_0 := blk_frozen BK101.out 0; have hfz20_1 := blk_frozen BK101.out 1; have hfz20_2 := blk_frozen BK101.out 2; have hfz20_3 := blk_frozen BK101.out 3) | ((with_reducible refine gate_callee (f := 24) rfl ?_); refine goesL_ (some 27) rfl rfl Try.func24 (by kernel_rfl) rfl #[.agg #[.int .i64 a0_0, .int .i64 a0_1, .int .i64 a0_2, .slice A0_3 l0_3.length c0_3]] rfl Z6.z1 ?_; (with_reducible refine (laws_toMatrix.calls k a0_0 a0_1 a0_2 _ _ l0_3 t103 t104 t105 t106 _ ?side1 ?side2 A10.out).mono ?_); (case side1 => exact Z6.z11); (case side2 => exact HC0_3.out); rintro e w21 ⟨v107, rfl, ho0, hb⟩; refine ⟨_, rfl, ?_⟩; have n0_ := Aside0.mk (Kd.R_lower ho0 (below_size Z6.z4)); have n1_ := Aside0.mk (Z6.bb BK101 Z6.z2 hb); have n2_ := Aside0.mk (below_step Z6.z4 hb); clear BK101 HB; have HO108 := n0_; have BK101 := n1_; have HB := n2_; clear n0_ n1_ n2_; (try clear hb); (try clear hb2); (try clear hk); (try clear hi); (try clear ho0)) | ((with_reducible refine gate_callee (f := 27) rfl ?_); refine goesL_ (some 29) rfl rfl Try.func27 (by kernel_rfl) rfl #[.slice A1 l1.length c1] rfl Z6.z1 ?_; (with_reducible refine (laws_toInt64S.calls k _ _ l1 t109 _ ?side1 ?side2 A11.out).mono ?_); (case side1 => exact Z6.z18); (case side2 => exact HC1.out); rintro e w22 ⟨v110, rfl, ho0, hb⟩; refine ⟨_, rfl, ?_⟩; have n0_ := Aside0.mk (Kd.R_elder' Z6.z15 (Kd.R_base ho0) hb); have n1_ := Aside0.mk (Kd.R_lower (Kd.R_new' ho0 (Kd.R_lt Z6.z15)) (below_size Z6.z4)); have n2_ := Aside0.mk (Z6.bb BK101 Z6.z2 hb); have n3_ := Aside0.mk (below_step Z6.z4 hb); clear HO108 BK101 HB; have HO108 := n0_; have HO111 := n1_; have BK101 := n2_; have HB := n3_; clear n0_ n1_ n2_ n3_; (try clear hb); (try clear hb2); (try clear hk); (try clear hi); (try clear ho0); obtain ⟨Ao23, co23, eo23⟩ := Kd.R_slice HO108.out; subst eo23; obtain ⟨Ao24, co24, eo24⟩ := Kd.R_slice HO111.out; subst eo24) | ((with_reducible refine gate_callee (f := 26) rfl ?_); refine goesL_ (some 30) rfl rfl Try.func26 (by kernel_rfl) rfl #[.agg #[.int .i64 t103, .int .i64 t104, .int .i64 t105, .slice Ao23 t106.length co23], .slice Ao24 t109.length co24] rfl Z6.z1 ?_; (with_reducible refine (spec_ApplyMatrix.calls k t103 t104 t105 _ _ t106 _ _ t109 t112 t115 _ ?side1 ?side2 ?side3 ?side4 A12.out).mono ?_); (case side1 => exact (by repeat (first | exact (Kd.R_reads' HO108.out).2.2 | (with_reducible refine Kd.C_alloc ?_ _) | (with_reducible refine Kd.C_drewN ?_ _) | (with_reducible refine Kd.C_drew ?_)))); (case side2 => exact (Kd.R_reads' HO108.out).2.1); (case side3 => exact (by repeat (first | exact (Kd.R_reads' HO111.out).2.2 | (with_reducible refine Kd.C_alloc ?_ _) | (with_reducible refine Kd.C_drewN ?_ _) | (with_reducible refine Kd.C_drew ?_)))); (case side4 => exact (Kd.R_reads' HO111.out).2.1); rintro e w25 ⟨v113, rfl, ho0, hb⟩; refine ⟨_, rfl, ?_⟩; have n0_ := Aside0.mk (Kd.R_elder' Z6.z15 (Kd.R_base ho0) hb); have n1_ := Aside0.mk (Kd.R_elder' Z6.z17 (Kd.R_base ho0) hb); have n2_ := Aside0.mk (Kd.R_lower (Kd.R_new' (Kd.R_new' ho0 (Kd.R_lt Z6.z15)) (Kd.R_lt Z6.z17)) (below_size Z6.z4)); have n3_ := Aside0.mk (Z6.bb BK101 Z6.z2 hb); have n4_ := Aside0.mk (below_step Z6.z4 hb); clear HO108 HO111 BK101 HB; have HO108 := n0_; have HO111 := n1_; have HO114 := n2_; have BK101 := n3_; have HB := n4_; clear n0_ n1_ n2_ n3_ n4_; (try clear hb); (try clear hb2); (try clear hk); (try clear hi); (try clear ho0); have hcz26_0 : w25.cell? ⟨gb101, 0, none⟩ = some (.int .i64 a0_0) := (blk_cell BK101.out 0).trans rfl; have hcz26_1 : w25.cell? ⟨gb101, 1, none⟩ = some (.int .i64 a0_1) := (blk_cell BK101.out 1).trans rfl; have hcz26_2 : w25.cell? ⟨gb101, 2, none⟩ = some (.int .i64 a0_2) := (blk_cell BK101.out 2).trans rfl; have hcz26_3 : w25.cell? ⟨gb101, 3, none⟩ = some (.slice A0_3 l0_3.length c0_3) := (blk_cell BK101.out 3).trans rfl; have hfz26_0 := blk_frozen BK101.out 0; have hfz26_1 := blk_frozen BK101.out 1; have hfz26_2 := blk_frozen BK101.out 2; have hfz26_3 := blk_frozen BK101.out 3) | ((with_reducible refine gate_callee (f := 24) rfl ?_); refine goesL_ (some 34) rfl rfl Try.func24 (by kernel_rfl) rfl #[.agg #[.int .i64 a0_0, .int .i64 a0_1, .int .i64 a0_2, .slice A0_3 l0_3.length c0_3]] rfl Z6.z1 ?_; (with_reducible refine (laws_toMatrix.calls k a0_0 a0_1 a0_2 _ _ l0_3 t116 t117 t118 t119 _ ?side1 ?side2 A13.out).mono ?_); (case side1 => exact Z6.z11); (case side2 => exact HC0_3.out); rintro e w27 ⟨v120, rfl, ho0, hb⟩; refine ⟨_, rfl, ?_⟩; have n0_ := Aside0.mk (Kd.R_elder' Z6.z15 (Kd.R_base ho0) hb); have n1_ := Aside0.mk (Kd.R_elder' Z6.z17 (Kd.R_base ho0) hb); have n2_ := Aside0.mk (Kd.R_elder' Z6.z25 (Kd.R_base ho0) hb); have n3_ := Aside0.mk (Kd.R_lower (Kd.R_new' (Kd.R_new' (Kd.R_new' ho0 (Kd.R_lt Z6.z15)) (Kd.R_lt Z6.z17)) (Kd.R_lt Z6.z25)) (below_size Z6.z4)); have n4_ := Aside0.mk (Z6.bb BK101 Z6.z2 hb); have n5_ := Aside0.mk (below_step Z6.z4 hb); clear HO108 HO111 HO114 BK101 HB; have HO108 := n0_; have HO111 := n1_; have HO114 := n2_; have HO121 := n3_; have BK101 := n4_; have HB := n5_; clear n0_ n1_ n2_ n3_ n4_ n5_; (try clear hb); (try clear hb2); (try clear hk); (try clear hi); (try clear ho0)) | ((with_reducible refine gate_dst (N := 8) rfl ?_); refine box_event ?hg (N := 8) ?hd (cs := #[.int .i64 0, .int .i64 0, .int .i64 0, .slice none 0 0]) (t := 24) ?hr ?_; (case hd => rfl); (case hg => rfl); (case hr => first | (go_simp; done) | (go_simp; rfl)); intro gb122 hg w28 hbox hb; have n0_ := Aside0.mk (Kd.R_below Z6.z15 hb); have n1_ := Aside0.mk (Kd.R_below Z6.z17 hb); have n2_ := Aside0.mk (Kd.R_below Z6.z25 hb); have n3_ := Aside0.mk (Kd.R_below Z6.z33 hb); have n4_ := Aside0.mk (Z6.bb BK101 Z6.z2 hb); have n5_ := Aside0.mk (below_step Z6.z4 hb); have n6_ := Aside0.mk (hbox); have n7_ := Aside0.mk (show w.heap.size ≤ gb122 from (by rw [hg]; exact (below_size Z6.z4))); have n8_ := Aside0.mk (show w.heap.size ≤ gb122 from (by rw [hg]; exact (below_size Z6.z4))); have n9_ := Aside0.mk (show gb101 ≠ gb122 from (by rw [hg]; exact Nat.ne_of_lt (Z6.bl BK101 Z6.z2))); have n10_ := Aside0.mk (show gb122 ≠ gb101 from (by rw [hg]; exact Nat.ne_of_gt (Z6.bl BK101 Z6.z2))); clear HO108 HO111 HO114 HO121 BK101 HB; have HO108 := n0_; have HO111 := n1_; have HO114 := n2_; have HO121 := n3_; have BK101 := n4_; have HB := n5_; have BK122 := n6_; have GW122 := n7_; have GE122 := n8_; have NB101_122 := n9_; have NB122_101 := n10_; clear n0_ n1_ n2_ n3_ n4_ n5_ n6_ n7_ n8_ n9_ n10_; clear hb hbox hg; have hnb29 := NB122_101.out; have hnc29 := NB101_122.out; have hcz30_0 : w28.cell? ⟨gb122, 0, none⟩ = some (.int .i64 0) := (blk_cell BK122.out 0).trans rfl; have hcz30_1 : w28.cell? ⟨gb122, 1, none⟩ = some (.int .i64 0) := (blk_cell BK122.out 1).trans rfl; have hcz30_2 : w28.cell? ⟨gb122, 2, none⟩ = some (.int .i64 0) := (blk_cell BK122.out 2).trans rfl; have hcz30_3 : w28.cell? ⟨gb122, 3, none⟩ = some (.slice none 0 0) := (blk_cell BK122.out 3).trans rfl; have hfz30_0 := blk_frozen BK122.out 0; have hfz30_1 := blk_frozen BK122.out 1; have hfz30_2 := blk_frozen BK122.out 2; have hfz30_3 := blk_frozen BK122.out 3; obtain ⟨Ao31, co31, eo31⟩ := Kd.R_slice HO121.out; subst eo31) | ((with_reducible refine gate_callee (f := 27) rfl ?_); refine goesL_ (some 36) rfl rfl Try.func27 (by kernel_rfl) rfl #[.slice A1 l1.length c1] rfl Z6.z1 ?_; (with_reducible refine (laws_toInt64S.calls k _ _ l1 t123 _ ?side1 ?side2 A14.out).mono ?_); (case side1 => exact (by exact Kd.C_below HR1.out Z6.z0)); (case side2 => exact HC1.out); rintro e w32 ⟨v124, rfl, ho0, hb⟩; refine ⟨_, rfl, ?_⟩; have n0_ := Aside0.mk (Kd.R_elder' Z6.z23 (Kd.R_base ho0) hb); have n1_ := Aside0.mk (Kd.R_elder' Z6.z22 (Kd.R_base ho0) hb); have n2_ := Aside0.mk (Kd.R_elder' Z6.z21 (Kd.R_base ho0) hb); have n3_ := Aside0.mk (Kd.R_elder' Z6.z20 (Kd.R_base ho0) hb); have n4_ := Aside0.mk (Kd.R_lower (Kd.R_new' (Kd.R_new' (Kd.R_new' (Kd.R_new' ho0 (Kd.R_lt Z6.z23)) (Kd.R_lt Z6.z22)) (Kd.R_lt Z6.z21)) (Kd.R_lt Z6.z20)) (below_size Z6.z0)); have n5_ := Aside0.mk (Z6.bb BK101 (by (repeat (first | (with_reducible first | refine blk_drewN ?_ _ | refine blk_drew ?_ | refine blk_alloc ?_ _) | refine blk_far ?_ NB101_122.out _)); exact BK101.out) hb); have n6_ := Aside0.mk (blk_below (g := gb122) (o := .cells #[.int .i64 t116, .int .i64 t117, .int .i64 t118, .slice Ao31 t119.length co31] 24 (0, 0)) (by (with_reducible repeat (first | refine blk_drewN ?_ _ | refine blk_drew ?_ | refine blk_alloc ?_ _)); refine blk_put (cs := #[.int .i64 t116, .int .i64 t117, .int .i64 t118, .slice none 0 0]) ?_ 3 _ rfl; (with_reducible repeat (first | refine blk_drewN ?_ _ | refine blk_drew ?_ | refine blk_alloc ?_ _)); refine blk_put (cs := #[.int .i64 t116, .int .i64 t117, .int .i64 0, .slice none 0 0]) ?_ 2 _ rfl; (with_reducible repeat (first | refine blk_drewN ?_ _ | refine blk_drew ?_ | refine blk_alloc ?_ _)); refine blk_put (cs := #[.int .i64 t116, .int .i64 0, .int .i64 0, .slice none 0 0]) ?_ 1 _ rfl; (with_reducible repeat (first | refine blk_drewN ?_ _ | refine blk_drew ?_ | refine blk_alloc ?_ _)); refine blk_put (cs := #[.int .i64 0, .int .i64 0, .int .i64 0, .slice none 0 0]) ?_ 0 _ rfl; (with_reducible repeat (first | refine blk_drewN ?_ _ | refine blk_drew ?_ | refine blk_alloc ?_ _)); exact BK122.out) hb); have n7_ := Aside0.mk (below_step Z6.z0 hb); clear HO108 HO111 HO114 HO121 BK101 BK122 HB; have HO108 := n0_; have HO111 := n1_; have HO114 := n2_; have HO121 := n3_; have HO125 := n4_; have BK101 := n5_; have BK122 := n6_; have HB := n7_; clear n0_ n1_ n2_ n3_ n4_ n5_ n6_ n7_; (try clear hb); (try clear hb2); (try clear hk); (try clear hi); (try clear ho0); have hcz33_0 : w32.cell? ⟨gb122, 0, none⟩ = some (.int .i64 t116) := (blk_cell BK122.out 0).trans rfl; have hcz33_1 : w32.cell? ⟨gb122, 1, none⟩ = some (.int .i64 t117) := (blk_cell BK122.out 1).trans rfl; have hcz33_2 : w32.cell? ⟨gb122, 2, none⟩ = some (.int .i64 t118) := (blk_cell BK122.out 2).trans rfl; have hcz33_3 : w32.cell? ⟨gb122, 3, none⟩ = some (.slice Ao31 t119.length co31) := (blk_cell BK122.out 3).trans rfl; have hfz33_0 := blk_frozen BK122.out 0; have hfz33_1 := blk_frozen BK122.out 1; have hfz33_2 := blk_frozen BK122.out 2; have hfz33_3 := blk_frozen BK122.out 3; obtain ⟨Ao34, co34, eo34⟩ := Kd.R_slice HO125.out; subst eo34) | ((with_reducible refine gate_callee (f := 28) rfl ?_); refine goesL_ (some 40) rfl rfl Try.func28 (by kernel_rfl) rfl #[.agg #[.int .i64 t116, .int .i64 t117, .int .i64 t118, .slice Ao31 t119.length co31], .slice Ao34 t123.length co34] rfl Z6.z1 ?_; (with_reducible refine (impl_ApplyMatrix.calls k t116 t117 t118 _ _ t119 _ _ t123 t126 t129 _ ?side1 ?side2 ?side3 ?side4 A15.out).mono ?_); (case side1 => exact (by repeat (first | exact (Kd.R_reads' HO121.out).2.2 | (with_reducible refine Kd.C_alloc ?_ _) | (with_reducible refine Kd.C_drewN ?_ _) | (with_reducible refine Kd.C_drew ?_)))); (case side2 => exact (Kd.R_reads' HO121.out).2.1); (case side3 => exact (by repeat (first | exact (Kd.R_reads' HO125.out).2.2 | (with_reducible refine Kd.C_alloc ?_ _) | (with_reducible refine Kd.C_drewN ?_ _) | (with_reducible refine Kd.C_drew ?_)))); (case side4 => exact (Kd.R_reads' HO125.out).2.1); rintro e w35 ⟨v127, rfl, ho0, hb⟩; refine ⟨_, rfl, ?_⟩; have n0_ := Aside0.mk (Kd.R_elder' Z6.z15 (Kd.R_base ho0) hb); have n1_ := Aside0.mk (Kd.R_elder' Z6.z17 (Kd.R_base ho0) hb); have n2_ := Aside0.mk (Kd.R_elder' Z6.z25 (Kd.R_base ho0) hb); have n3_ := Aside0.mk (Kd.R_elder' Z6.z33 (Kd.R_base ho0) hb); have n4_ := Aside0.mk (Kd.R_elder' (by (with_reducible repeat (first | apply Kd.R_alloc | apply Kd.R_drewN | apply Kd.R_drew)); exact HO125.out) (Kd.R_base ho0) hb); have n5_ := Aside0.mk (Kd.R_lower (Kd.R_new' (Kd.R_new' (Kd.R_new' (Kd.R_new' (Kd.R_new' ho0 (Kd.R_lt Z6.z15)) (Kd.R_lt Z6.z17)) (Kd.R_lt Z6.z25)) (Kd.R_lt Z6.z33)) (Kd.R_lt (by (with_reducible repeat (first | apply Kd.R_alloc | apply Kd.R_drewN | apply Kd.R_drew)); exact HO125.out))) (below_size Z6.z0)); have n6_ := Aside0.mk (Z6.bb BK101 Z6.z2 hb); have n7_ := Aside0.mk (Z6.bb BK122 Z6.z5 hb); have n8_ := Aside0.mk (below_step Z6.z0 hb); clear HO108 HO111 HO114 HO121 HO125 BK101 BK122 HB; have HO108 := n0_; have HO111 := n1_; have HO114 := n2_; have HO121 := n3_; have HO125 := n4_; have HO128 := n5_; have BK101 := n6_; have BK122 := n7_; have HB := n8_; clear n0_ n1_ n2_ n3_ n4_ n5_ n6_ n7_ n8_; (try clear hb); (try clear hb2); (try clear hk); (try clear hi); (try clear ho0)))
 (try simp only [Act.put, List.setIfInBounds_toArray, List.set_cons_zero, List.set_cons_succ])
 go_cut [51] (fun v51 wc => ∃ (kq : Nat) (x51_15 : Bool), v51 = .bool x51_15 ∧ Aside0 (laws_FnExactApplyMatrix.j0 kq l1 t112 t115 t123 t126 t129 x51_15 a0_0 a0_1 a0_2 l0_3 t116 t117 t118 t119 = some r) ∧ Aside0 (kq ≤ k) ∧ Aside0 (Kd.R (Kd.int .i64) 2 wc w.heap.size (fun k_ => some k_ ≠ ((.slice Ao34 t123.length co34) : Value).ownBlock ∧ some k_ ≠ (v127 : Value).ownBlock ∧ some k_ ≠ ((.slice Ao31 t119.length co31) : Value).ownBlock) v113 t112) ∧ Aside0 (Kd.R (Kd.int .i64) 2 wc w.heap.size (fun k_ => some k_ ≠ (v113 : Value).ownBlock ∧ some k_ ≠ (v127 : Value).ownBlock ∧ some k_ ≠ ((.slice Ao31 t119.length co31) : Value).ownBlock) (.slice Ao34 t123.length co34) t123) ∧ Aside0 (Kd.R (Kd.int .i64) 2 wc w.heap.size (fun k_ => some k_ ≠ (v113 : Value).ownBlock ∧ some k_ ≠ ((.slice Ao34 t123.length co34) : Value).ownBlock ∧ some k_ ≠ ((.slice Ao31 t119.length co31) : Value).ownBlock) v127 t126) ∧ Aside0 (Kd.R (Kd.int .i64) 2 wc w.heap.size (fun k_ => some k_ ≠ (v113 : Value).ownBlock ∧ some k_ ≠ ((.slice Ao34 t123.length co34) : Value).ownBlock ∧ some k_ ≠ (v127 : Value).ownBlock) (.slice Ao31 t119.length co31) t119) ∧ Aside0 (wc.heap[gb101]? = some (.cells #[.int .i64 a0_0, .int .i64 a0_1, .int .i64 a0_2, (.slice A0_3 l0_3.length c0_3)] 32 (0, 0))) ∧ Aside0 (wc.heap[gb122]? = some (.cells #[.int .i64 t116, .int .i64 t117, .int .i64 t118, (.slice Ao31 t119.length co31)] 24 (0, 0))) ∧ Aside0 (Below w.heap.size w wc))
 case first =>
  have H := HC16.out
  clear HC16
  replace H := Option.bind_eq_some_iff.mp H
  obtain ⟨t130, A360, H⟩ := H
  replace H : (if t130 = true then (laws_FnExactApplyMatrix.j0 k l1 t112 t115 t123 t126 t129 (t129 != t115) a0_0 a0_1 a0_2 l0_3 t116 t117 t118 t119) else (laws_FnExactApplyMatrix.j0 k l1 t112 t115 t123 t126 t129 true a0_0 a0_1 a0_2 l0_3 t116 t117 t118 t119)) = some r := H
  have A36 := Aside0.mk A360
  clear A360
  by_cases c37 : t130 = true
  ·subst c37
   have H1 : (laws_FnExactApplyMatrix.j0 k l1 t112 t115 t123 t126 t129 (t129 != t115) a0_0 a0_1 a0_2 l0_3 t116 t117 t118 t119) = some r := by rw [if_pos rfl] at H; exact H
   clear H
   have H := H1
   clear H1
   have H' := Aside0.mk H
   clear H
   obtain ⟨Ao38, co38, eo38⟩ := Kd.R_slice HO128.out
   subst eo38
   obtain ⟨Ao39, co39, eo39⟩ := Kd.R_slice HO114.out
   subst eo39
   go_wp2_with (first | ((with_reducible refine gate_callee (f := 29) rfl ?_); refine goesL_ (some 45) rfl rfl Try.func29 (by kernel_rfl) rfl #[.slice Ao38 t126.length co38, .slice Ao39 t112.length co39] rfl Z6.z1 ?_; (with_reducible refine (laws_eqInt64S.calls k _ _ t126 _ _ t112 true _ ?side1 ?side2 ?side3 ?side4 A36.out).mono ?_); (case side1 => exact Z6.z37); (case side2 => exact (Kd.R_reads' HO128.out).2.1); (case side3 => exact Z6.z38); (case side4 => exact (Kd.R_reads' HO114.out).2.1); rintro e w' ⟨rfl, ⟨nd, rfl⟩⟩; refine ⟨_, rfl, ?_⟩))
   go_meet
   case rel => exact ⟨_, ((t129 != t115)), Z6.z45, H', ⟨(by first | omega | exact Nat.le_refl _)⟩, ⟨Z6.z44⟩, ⟨Z6.z42⟩, ⟨Z6.z41⟩, ⟨Z6.z43⟩, ⟨Z6.z2⟩, ⟨Z6.z5⟩, ⟨Z6.z0⟩⟩
  replace c37 := Bool.eq_false_iff.mpr c37
  subst c37
  have H1 : (laws_FnExactApplyMatrix.j0 k l1 t112 t115 t123 t126 t129 true a0_0 a0_1 a0_2 l0_3 t116 t117 t118 t119) = some r := by rw [if_neg (show ¬ (false = true) by decide)] at H; exact H
  clear H
  have H := H1
  clear H1
  have H' := Aside0.mk H
  clear H
  obtain ⟨Ao40, co40, eo40⟩ := Kd.R_slice HO128.out
  subst eo40
  obtain ⟨Ao41, co41, eo41⟩ := Kd.R_slice HO114.out
  subst eo41
  go_wp2_with (first | ((with_reducible refine gate_callee (f := 29) rfl ?_); refine goesL_ (some 45) rfl rfl Try.func29 (by kernel_rfl) rfl #[.slice Ao40 t126.length co40, .slice Ao41 t112.length co41] rfl Z6.z1 ?_; (with_reducible refine (laws_eqInt64S.calls k _ _ t126 _ _ t112 false _ ?side1 ?side2 ?side3 ?side4 A36.out).mono ?_); (case side1 => exact Z6.z37); (case side2 => exact (Kd.R_reads' HO128.out).2.1); (case side3 => exact Z6.z38); (case side4 => exact (Kd.R_reads' HO114.out).2.1); rintro e w' ⟨rfl, ⟨nd, rfl⟩⟩; refine ⟨_, rfl, ?_⟩))
  go_meet
  case rel => exact ⟨_, (true), Z6.z45, H', ⟨(by first | omega | exact Nat.le_refl _)⟩, ⟨Z6.z44⟩, ⟨Z6.z42⟩, ⟨Z6.z41⟩, ⟨Z6.z43⟩, ⟨Z6.z2⟩, ⟨Z6.z5⟩, ⟨Z6.z0⟩⟩
 case rest =>
  clear HC16
  try clear c1
  try clear c2
  try clear p2
  try clear c3
  try clear c3b0
  try clear c3b1
  try clear c6
  try clear c6b0
  try clear c22
  try clear c24
  try clear c26
  try clear c27
  try clear c28
  try clear c29
  try clear c37
  try clear hcz18_0
  try clear hcz18_1
  try clear hcz18_2
  try clear hcz18_3
  try clear hcz20_0
  try clear hcz20_1
  try clear hcz20_2
  try clear hcz20_3
  try clear hcz26_0
  try clear hcz26_1
  try clear hcz26_2
  try clear hcz26_3
  try clear hcz30_0
  try clear hcz30_1
  try clear hcz30_2
  try clear hcz30_3
  try clear hcz33_0
  try clear hcz33_1
  try clear hcz33_2
  try clear hcz33_3
  try clear hcz8_0
  try clear hcz8_1
  try clear hcz8_2
  try clear hcz8_3
  try clear hfz18_0
  try clear hfz18_1
  try clear hfz18_2
  try clear hfz18_3
  try clear hfz20_0
  try clear hfz20_1
  try clear hfz20_2
  try clear hfz20_3
  try clear hfz26_0
  try clear hfz26_1
  try clear hfz26_2
  try clear hfz26_3
  try clear hfz30_0
  try clear hfz30_1
  try clear hfz30_2
  try clear hfz30_3
  try clear hfz33_0
  try clear hfz33_1
  try clear hfz33_2
  try clear hfz33_3
  try clear hfz8_0
  try clear hfz8_1
  try clear hfz8_2
  try clear hfz8_3
  obtain ⟨kq, x51_15, rfl, HA, HJ15, HO_6, HO_9, HO_10, HO_123003, BK101, BK122, HB⟩ := hcut
  cases kq with
  | zero => exact absurd HA.out (by simp [laws_FnExactApplyMatrix.j0])
  | succ kj15 =>
   have H := HA.out
   clear HA
   simp only [laws_FnExactApplyMatrix.j0] at H
   by_cases c42 : x51_15 = true
   ·subst c42
    have H1 : (some false) = some r := by rw [if_pos rfl] at H; exact H
    clear H
    have H := H1
    clear H1
    obtain rfl := Option.some.inj H
    go_wp2
    go_ret
    exact ⟨Z6.z13, Z6.z0⟩
   replace c42 := Bool.eq_false_iff.mpr c42
   subst c42
   have H1 : ((laws_toMatrix.f kj15 a0_0 a0_1 a0_2 l0_3).bind fun bt131 => ((laws_eqMatrix.f kj15 t116 t117 t118 t119 bt131.1 bt131.2.1 bt131.2.2.1 bt131.2.2.2).bind fun t137 => (if t137 = true then ((laws_toInt64S.f kj15 l1).bind fun t138 => ((laws_eqInt64S.f kj15 t123 t138).bind fun t141 => (if t141 = true then ((laws_markMatrix.f kj15 t116 t117 t118 t119 1).bind fun bt142 => ((laws_markInt64S.f kj15 t123 bt142.1).bind fun bt144 => (if bt144.1 < 0 then (laws_FnExactApplyMatrix.j1 kj15 l1 t112 t115 t126 true a0_0 a0_1 a0_2 l0_3) else ((laws_eqInt64S.f kj15 t126 t112).bind fun t146 => (if t146 = true then (laws_FnExactApplyMatrix.j1 kj15 l1 t112 t115 t126 (t129 != t115) a0_0 a0_1 a0_2 l0_3) else (laws_FnExactApplyMatrix.j1 kj15 l1 t112 t115 t126 true a0_0 a0_1 a0_2 l0_3)))))) else (some false)))) else (some false)))) = some r := by rw [if_neg (show ¬ (false = true) by decide)] at H; exact H
   clear H
   have H := H1
   clear H1
   replace H := Option.bind_eq_some_iff.mp H
   obtain ⟨⟨t131, t132, t133, t134⟩, A430, H⟩ := H
   replace H : ((laws_eqMatrix.f kj15 t116 t117 t118 t119 t131 t132 t133 t134).bind fun t137 => (if t137 = true then ((laws_toInt64S.f kj15 l1).bind fun t138 => ((laws_eqInt64S.f kj15 t123 t138).bind fun t141 => (if t141 = true then ((laws_markMatrix.f kj15 t116 t117 t118 t119 1).bind fun bt142 => ((laws_markInt64S.f kj15 t123 bt142.1).bind fun bt144 => (if bt144.1 < 0 then (laws_FnExactApplyMatrix.j1 kj15 l1 t112 t115 t126 true a0_0 a0_1 a0_2 l0_3) else ((laws_eqInt64S.f kj15 t126 t112).bind fun t146 => (if t146 = true then (laws_FnExactApplyMatrix.j1 kj15 l1 t112 t115 t126 (t129 != t115) a0_0 a0_1 a0_2 l0_3) else (laws_FnExactApplyMatrix.j1 kj15 l1 t112 t115 t126 true a0_0 a0_1 a0_2 l0_3)))))) else (some false)))) else (some false))) = some r := H
   have A43 := Aside0.mk A430
   clear A430
   replace H := Option.bind_eq_some_iff.mp H
   obtain ⟨t137, A440, H⟩ := H
   replace H : (if t137 = true then ((laws_toInt64S.f kj15 l1).bind fun t138 => ((laws_eqInt64S.f kj15 t123 t138).bind fun t141 => (if t141 = true then ((laws_markMatrix.f kj15 t116 t117 t118 t119 1).bind fun bt142 => ((laws_markInt64S.f kj15 t123 bt142.1).bind fun bt144 => (if bt144.1 < 0 then (laws_FnExactApplyMatrix.j1 kj15 l1 t112 t115 t126 true a0_0 a0_1 a0_2 l0_3) else ((laws_eqInt64S.f kj15 t126 t112).bind fun t146 => (if t146 = true then (laws_FnExactApplyMatrix.j1 kj15 l1 t112 t115 t126 (t129 != t115) a0_0 a0_1 a0_2 l0_3) else (laws_FnExactApplyMatrix.j1 kj15 l1 t112 t115 t126 true a0_0 a0_1 a0_2 l0_3)))))) else (some false)))) else (some false)) = some r := H
   have A44 := Aside0.mk A440
   clear A440
   by_cases c45 : t137 = true
   ·subst c45
    have H1 : ((laws_toInt64S.f kj15 l1).bind fun t138 => ((laws_eqInt64S.f kj15 t123 t138).bind fun t141 => (if t141 = true then ((laws_markMatrix.f kj15 t116 t117 t118 t119 1).bind fun bt142 => ((laws_markInt64S.f kj15 t123 bt142.1).bind fun bt144 => (if bt144.1 < 0 then (laws_FnExactApplyMatrix.j1 kj15 l1 t112 t115 t126 true a0_0 a0_1 a0_2 l0_3) else ((laws_eqInt64S.f kj15 t126 t112).bind fun t146 => (if t146 = true then (laws_FnExactApplyMatrix.j1 kj15 l1 t112 t115 t126 (t129 != t115) a0_0 a0_1 a0_2 l0_3) else (laws_FnExactApplyMatrix.j1 kj15 l1 t112 t115 t126 true a0_0 a0_1 a0_2 l0_3)))))) else (some false)))) = some r := by rw [if_pos rfl] at H; exact H
    clear H
    have H := H1
    clear H1
    replace H := Option.bind_eq_some_iff.mp H
    obtain ⟨t138, A460, H⟩ := H
    replace H : ((laws_eqInt64S.f kj15 t123 t138).bind fun t141 => (if t141 = true then ((laws_markMatrix.f kj15 t116 t117 t118 t119 1).bind fun bt142 => ((laws_markInt64S.f kj15 t123 bt142.1).bind fun bt144 => (if bt144.1 < 0 then (laws_FnExactApplyMatrix.j1 kj15 l1 t112 t115 t126 true a0_0 a0_1 a0_2 l0_3) else ((laws_eqInt64S.f kj15 t126 t112).bind fun t146 => (if t146 = true then (laws_FnExactApplyMatrix.j1 kj15 l1 t112 t115 t126 (t129 != t115) a0_0 a0_1 a0_2 l0_3) else (laws_FnExactApplyMatrix.j1 kj15 l1 t112 t115 t126 true a0_0 a0_1 a0_2 l0_3)))))) else (some false))) = some r := H
    have A46 := Aside0.mk A460
    clear A460
    replace H := Option.bind_eq_some_iff.mp H
    obtain ⟨t141, A470, H⟩ := H
    replace H : (if t141 = true then ((laws_markMatrix.f kj15 t116 t117 t118 t119 1).bind fun bt142 => ((laws_markInt64S.f kj15 t123 bt142.1).bind fun bt144 => (if bt144.1 < 0 then (laws_FnExactApplyMatrix.j1 kj15 l1 t112 t115 t126 true a0_0 a0_1 a0_2 l0_3) else ((laws_eqInt64S.f kj15 t126 t112).bind fun t146 => (if t146 = true then (laws_FnExactApplyMatrix.j1 kj15 l1 t112 t115 t126 (t129 != t115) a0_0 a0_1 a0_2 l0_3) else (laws_FnExactApplyMatrix.j1 kj15 l1 t112 t115 t126 true a0_0 a0_1 a0_2 l0_3)))))) else (some false)) = some r := H
    have A47 := Aside0.mk A470
    clear A470
    by_cases c48 : t141 = true
    ·subst c48
     have H1 : ((laws_markMatrix.f kj15 t116 t117 t118 t119 1).bind fun bt142 => ((laws_markInt64S.f kj15 t123 bt142.1).bind fun bt144 => (if bt144.1 < 0 then (laws_FnExactApplyMatrix.j1 kj15 l1 t112 t115 t126 true a0_0 a0_1 a0_2 l0_3) else ((laws_eqInt64S.f kj15 t126 t112).bind fun t146 => (if t146 = true then (laws_FnExactApplyMatrix.j1 kj15 l1 t112 t115 t126 (t129 != t115) a0_0 a0_1 a0_2 l0_3) else (laws_FnExactApplyMatrix.j1 kj15 l1 t112 t115 t126 true a0_0 a0_1 a0_2 l0_3)))))) = some r := by rw [if_pos rfl] at H; exact H
     clear H
     have H := H1
     clear H1
     replace H := Option.bind_eq_some_iff.mp H
     obtain ⟨⟨t142, t143⟩, A490, H⟩ := H
     replace H : ((laws_markInt64S.f kj15 t123 t142).bind fun bt144 => (if bt144.1 < 0 then (laws_FnExactApplyMatrix.j1 kj15 l1 t112 t115 t126 true a0_0 a0_1 a0_2 l0_3) else ((laws_eqInt64S.f kj15 t126 t112).bind fun t146 => (if t146 = true then (laws_FnExactApplyMatrix.j1 kj15 l1 t112 t115 t126 (t129 != t115) a0_0 a0_1 a0_2 l0_3) else (laws_FnExactApplyMatrix.j1 kj15 l1 t112 t115 t126 true a0_0 a0_1 a0_2 l0_3))))) = some r := H
     have A49 := Aside0.mk A490
     clear A490
     replace H := Option.bind_eq_some_iff.mp H
     obtain ⟨⟨t144, t145⟩, A500, H⟩ := H
     replace H : (if t144 < 0 then (laws_FnExactApplyMatrix.j1 kj15 l1 t112 t115 t126 true a0_0 a0_1 a0_2 l0_3) else ((laws_eqInt64S.f kj15 t126 t112).bind fun t146 => (if t146 = true then (laws_FnExactApplyMatrix.j1 kj15 l1 t112 t115 t126 (t129 != t115) a0_0 a0_1 a0_2 l0_3) else (laws_FnExactApplyMatrix.j1 kj15 l1 t112 t115 t126 true a0_0 a0_1 a0_2 l0_3)))) = some r := H
     have A50 := Aside0.mk A500
     clear A500
     have HC51 := Aside0.mk H
     clear H
     try go_wp2
     have n0_ := Aside0.mk (Kd.R_drew HO_6.out)
     have n1_ := Aside0.mk (Kd.R_drew HO_9.out)
     have n2_ := Aside0.mk (Kd.R_drew HO_10.out)
     have n3_ := Aside0.mk (Kd.R_drew HO_123003.out)
     have n4_ := Aside0.mk (blk_drew BK101.out)
     have n5_ := Aside0.mk (blk_drew BK122.out)
     have n6_ := Aside0.mk (below_drew1 HB.out)
     clear HO_6 HO_9 HO_10 HO_123003 BK101 BK122 HB
     have HO_6 := n0_
     have HO_9 := n1_
     have HO_10 := n2_
     have HO_123003 := n3_
     have BK101 := n4_
     have BK122 := n5_
     have HB := n6_
     clear n0_ n1_ n2_ n3_ n4_ n5_ n6_
     refine start_ (n := 5) (S := fun w' => w'.cell? ⟨gb122, 0, none⟩ = some (.int .i64 t116) ∧ w'.cell? ⟨gb122, 1, none⟩ = some (.int .i64 t117) ∧ w'.cell? ⟨gb122, 2, none⟩ = some (.int .i64 t118) ∧ w'.cell? ⟨gb122, 3, none⟩ = some (.slice Ao31 t119.length co31) ∧ w'.cell? ⟨gb101, 0, none⟩ = some (.int .i64 a0_0) ∧ w'.cell? ⟨gb101, 1, none⟩ = some (.int .i64 a0_1) ∧ w'.cell? ⟨gb101, 2, none⟩ = some (.int .i64 a0_2) ∧ w'.cell? ⟨gb101, 3, none⟩ = some (.slice A0_3 l0_3.length c0_3)) (ds := []) #[false, false, false, false, false] (by kernel_rfl) rfl rfl Z6.z3 (fun hHeld => ?_)
     generalize wc.drew = w52 at HO_6 HO_9 HO_10 HO_123003 BK101 BK122 HB hHeld ⊢
     refine take_ (i := 0) (N := some 52) (v := ?_) (a' := ?_) #[true, false, false, false, false] rfl rfl (by kernel_rfl) (fun _ _ _ h => h) (Or.inl ⟨(by rfl), ?_⟩) hHeld ?_ ?_
     rotate_left
     ·rintro w' ⟨s0, s1, s2, s3, s4, s5, s6, s7⟩
      go_simp
      with_reducible rfl
     rotate_left
     ·exact Z6.z14
     refine take_ (i := 1) (N := some 53) (v := ?_) (a' := ?_) #[true, true, false, false, false] rfl rfl (by kernel_rfl) (fun _ _ _ h => h) (Or.inl ⟨(by rfl), ?_⟩) hHeld ?_ ?_
     rotate_left
     ·rintro w' ⟨s0, s1, s2, s3, s4, s5, s6, s7⟩
      go_simp
      with_reducible rfl
     rotate_left
     ·exact Z6.z14
     refine one_ (i := 2) (N := some 54) #[true, true, true, false, false] rfl rfl (by kernel_rfl) (by decide) (fun K hK => ?_)
     refine goes_ Try.func24 (by kernel_rfl) rfl #[.agg #[.int .i64 a0_0, .int .i64 a0_1, .int .i64 a0_2, .slice A0_3 l0_3.length c0_3]] (by rfl) rfl rfl Z6.z1 ?_
     with_reducible refine (laws_toMatrix.calls kj15 a0_0 a0_1 a0_2 _ _ l0_3 t131 t132 t133 t134 _ ?side1 ?side2 A43.out).mono ?_
     (case side1 => exact Z6.z11)
     (case side2 => exact HC0_3.out)
     rintro e w53 ⟨v135, rfl, ho0, hb⟩
     refine ⟨_, rfl, ?_⟩
     have n0_ := Aside0.mk (Kd.R_elder' Z6.z8 (Kd.R_base ho0) hb)
     have n1_ := Aside0.mk (Kd.R_elder' Z6.z10 (Kd.R_base ho0) hb)
     have n2_ := Aside0.mk (Kd.R_elder' Z6.z7 (Kd.R_base ho0) hb)
     have n3_ := Aside0.mk (Kd.R_elder' Z6.z6 (Kd.R_base ho0) hb)
     have n4_ := Aside0.mk (Kd.R_lower (Kd.R_new' (Kd.R_new' (Kd.R_new' (Kd.R_new' ho0 (Kd.R_lt Z6.z8)) (Kd.R_lt Z6.z10)) (Kd.R_lt Z6.z7)) (Kd.R_lt Z6.z6)) (below_size Z6.z0))
     have n5_ := Aside0.mk (Z6.bb BK101 Z6.z2 hb)
     have n6_ := Aside0.mk (Z6.bb BK122 Z6.z5 hb)
     have n7_ := Aside0.mk (below_step Z6.z0 hb)
     clear HO_6 HO_9 HO_10 HO_123003 BK101 BK122 HB
     have HO_6 := n0_
     have HO_9 := n1_
     have HO_10 := n2_
     have HO_123003 := n3_
     have HO136 := n4_
     have BK101 := n5_
     have BK122 := n6_
     have HB := n7_
     clear n0_ n1_ n2_ n3_ n4_ n5_ n6_ n7_
     (try clear hb)
     (try clear hb2)
     (try clear hk)
     (try clear hi)
     (try clear ho0)
     obtain ⟨Ao54, co54, eo54⟩ := Kd.R_slice HO136.out
     (first | subst eo54 | (injection eo54 with f1_ f2_ f3_; have f4_ := f1_.symm; have f5_ := f3_.symm; clear f1_ f2_ f3_; subst f4_; subst f5_))
     refine hK.out _ _ Z6.z3 (fun hHeld => ?_)
     clear hK K
     refine norm_ (a' := ?_) ?_ ?_
     rotate_left
     ·show Act.put _ (some 54) _ = _
      simp only [Act.put, List.setIfInBounds_toArray, List.set_cons_zero, List.set_cons_succ, i64_w, i32_w]
      rfl
     refine one_ (i := 3) (N := some 55) #[true, true, true, true, false] rfl rfl (by kernel_rfl) (by decide) (fun K hK => ?_)
     refine goes_ Try.func17 (by kernel_rfl) rfl #[.agg #[.int .i64 t116, .int .i64 t117, .int .i64 t118, .slice Ao31 t119.length co31], .agg #[.int .i64 t131, .int .i64 t132, .int .i64 t133, .slice Ao54 t134.length co54]] (by rfl) rfl rfl Z6.z1 ?_
     with_reducible refine (laws_eqMatrix.calls kj15 t116 t117 t118 _ _ t119 t131 t132 t133 _ _ t134 true _ ?side1 ?side2 ?side3 ?side4 A44.out).mono ?_
     (case side1 => exact Z6.z26)
     (case side2 => exact (Kd.R_reads' HO_123003.out).2.1)
     (case side3 => exact Z6.z27)
     (case side4 => exact (Kd.R_reads' HO136.out).2.1)
     rintro e w55 ⟨rfl, hb⟩
     refine ⟨_, rfl, ?_⟩
     have n0_ := Aside0.mk (Kd.R_below Z6.z8 hb)
     have n1_ := Aside0.mk (Kd.R_below Z6.z10 hb)
     have n2_ := Aside0.mk (Kd.R_below Z6.z7 hb)
     have n3_ := Aside0.mk (Kd.R_below Z6.z6 hb)
     have n4_ := Aside0.mk (Kd.R_below Z6.z16 hb)
     have n5_ := Aside0.mk (Z6.bb BK101 Z6.z2 hb)
     have n6_ := Aside0.mk (Z6.bb BK122 Z6.z5 hb)
     have n7_ := Aside0.mk (below_step Z6.z0 hb)
     clear HO_6 HO_9 HO_10 HO_123003 HO136 BK101 BK122 HB
     have HO_6 := n0_
     have HO_9 := n1_
     have HO_10 := n2_
     have HO_123003 := n3_
     have HO136 := n4_
     have BK101 := n5_
     have BK122 := n6_
     have HB := n7_
     clear n0_ n1_ n2_ n3_ n4_ n5_ n6_ n7_
     (try clear hb)
     (try clear hb2)
     (try clear hk)
     (try clear hi)
     refine hK.out _ _ Z6.z3 (fun hHeld => ?_)
     clear hK K
     refine norm_ (a' := ?_) ?_ ?_
     rotate_left
     ·show Act.put _ (some 55) _ = _
      simp only [Act.put, List.setIfInBounds_toArray, List.set_cons_zero, List.set_cons_succ, i64_w, i32_w]
      rfl
     refine pure_ (i := 4) (N := some 56) (v := ?_) (a' := ?_) #[true, true, true, true, true] rfl rfl (by kernel_rfl) (fun _ _ _ h => h) (Or.inl ⟨(by rfl), ?_⟩) ?_ ?_
     rotate_left
     ·intro w'
      go_simp
      with_reducible rfl
     rotate_left
     ·exact Z6.z14
     refine done_ (by kernel_rfl) ?_
     go_upto_region 20 with (first | ((with_reducible refine gate_callee (f := 27) rfl ?_); refine goesL_ (some 59) rfl rfl Try.func27 (by kernel_rfl) rfl #[.slice A1 l1.length c1] rfl Z6.z1 ?_; (with_reducible refine (laws_toInt64S.calls kj15 _ _ l1 t138 _ ?side1 ?side2 A46.out).mono ?_); (case side1 => exact Z6.z18); (case side2 => exact HC1.out); rintro e w56 ⟨v139, rfl, ho0, hb⟩; refine ⟨_, rfl, ?_⟩; have n0_ := Aside0.mk (Kd.R_elder' Z6.z8 (Kd.R_base ho0) hb); have n1_ := Aside0.mk (Kd.R_elder' Z6.z10 (Kd.R_base ho0) hb); have n2_ := Aside0.mk (Kd.R_elder' Z6.z7 (Kd.R_base ho0) hb); have n3_ := Aside0.mk (Kd.R_elder' Z6.z6 (Kd.R_base ho0) hb); have n4_ := Aside0.mk (Kd.R_elder' Z6.z16 (Kd.R_base ho0) hb); have n5_ := Aside0.mk (Kd.R_lower (Kd.R_new' (Kd.R_new' (Kd.R_new' (Kd.R_new' (Kd.R_new' ho0 (Kd.R_lt Z6.z8)) (Kd.R_lt Z6.z10)) (Kd.R_lt Z6.z7)) (Kd.R_lt Z6.z6)) (Kd.R_lt Z6.z16)) (below_size Z6.z0)); have n6_ := Aside0.mk (Z6.bb BK101 Z6.z2 hb); have n7_ := Aside0.mk (Z6.bb BK122 Z6.z5 hb); have n8_ := Aside0.mk (below_step Z6.z0 hb); clear HO_6 HO_9 HO_10 HO_123003 HO136 BK101 BK122 HB; have HO_6 := n0_; have HO_9 := n1_; have HO_10 := n2_; have HO_123003 := n3_; have HO136 := n4_; have HO140 := n5_; have BK101 := n6_; have BK122 := n7_; have HB := n8_; clear n0_ n1_ n2_ n3_ n4_ n5_ n6_ n7_ n8_; (try clear hb); (try clear hb2); (try clear hk); (try clear hi); (try clear ho0); obtain ⟨Ao57, co57, eo57⟩ := Kd.R_slice HO140.out; subst eo57) | ((with_reducible refine gate_callee (f := 29) rfl ?_); refine goesL_ (some 60) rfl rfl Try.func29 (by kernel_rfl) rfl #[.slice Ao34 t123.length co34, .slice Ao57 t138.length co57] rfl Z6.z1 ?_; (with_reducible refine (laws_eqInt64S.calls kj15 _ _ t123 _ _ t138 true _ ?side1 ?side2 ?side3 ?side4 A47.out).mono ?_); (case side1 => exact Z6.z39); (case side2 => exact (Kd.R_reads' HO_9.out).2.1); (case side3 => exact Z6.z36); (case side4 => exact (Kd.R_reads' HO140.out).2.1); rintro e w' ⟨rfl, ⟨nd, rfl⟩⟩; refine ⟨_, rfl, ?_⟩; have hnb58 := NB122_101.out; have hnc58 := NB101_122.out; have hcz59_0 : w56.cell? ⟨gb122, 0, none⟩ = some (.int .i64 t116) := (blk_cell BK122.out 0).trans rfl; have hcz59_1 : w56.cell? ⟨gb122, 1, none⟩ = some (.int .i64 t117) := (blk_cell BK122.out 1).trans rfl; have hcz59_2 : w56.cell? ⟨gb122, 2, none⟩ = some (.int .i64 t118) := (blk_cell BK122.out 2).trans rfl; have hcz59_3 : w56.cell? ⟨gb122, 3, none⟩ = some (.slice Ao31 t119.length co31) := (blk_cell BK122.out 3).trans rfl; have hfz59_0 := blk_frozen BK122.out 0; have hfz59_1 := blk_frozen BK122.out 1; have hfz59_2 := blk_frozen BK122.out 2; have hfz59_3 := blk_frozen BK122.out 3) | ((with_reducible refine gate_callee (f := 18) rfl ?_); refine goesL_ (some 64) rfl rfl Try.func18 (by kernel_rfl) rfl #[.agg #[.int .i64 t116, .int .i64 t117, .int .i64 t118, .slice Ao31 t119.length co31], .int .i64 1] rfl Z6.z1 ?_; (with_reducible refine (laws_markMatrix.calls kj15 t116 t117 t118 (fun k_ => some k_ = (.slice Ao31 t119.length co31 : Value).ownBlock) (.slice Ao31 t119.length co31) t119 1 t142 t143 w _ ?side1 ?side2 A49.out).mono ?_); (case side1 => exact Z6.z0); (case side2 => exact Kd.R_tight rfl HO_123003.out); rintro e w60 ⟨rfl, hy0, hb, hkp⟩; refine ⟨_, rfl, ?_⟩; have n0_ := Aside0.mk (Kd.R_mono (ok' := fun k_ => some k_ ≠ (.slice Ao34 t123.length co34 : Value).ownBlock ∧ some k_ ≠ (v127 : Value).ownBlock ∧ some k_ ≠ (.slice Ao31 t119.length co31 : Value).ownBlock ∧ some k_ ≠ (.slice Ao54 t134.length co54 : Value).ownBlock ∧ some k_ ≠ (.slice Ao57 t138.length co57 : Value).ownBlock) (Kd.R_keptB (HO_6.out) hkp (fun k_ hk_ hs_ => (hk_.1.1.2.2) hs_)) (fun k_ hk_ => ⟨hk_.1.1.1.1, hk_.1.1.1.2.1, hk_.1.1.1.2.2, hk_.1.1.2, hk_.1.2⟩)); have n1_ := Aside0.mk (Kd.R_mono (ok' := fun k_ => some k_ ≠ (v113 : Value).ownBlock ∧ some k_ ≠ (v127 : Value).ownBlock ∧ some k_ ≠ (.slice Ao31 t119.length co31 : Value).ownBlock ∧ some k_ ≠ (.slice Ao54 t134.length co54 : Value).ownBlock ∧ some k_ ≠ (.slice Ao57 t138.length co57 : Value).ownBlock) (Kd.R_keptB (HO_9.out) hkp (fun k_ hk_ hs_ => (hk_.1.1.2.2) hs_)) (fun k_ hk_ => ⟨hk_.1.1.1.1, hk_.1.1.1.2.1, hk_.1.1.1.2.2, hk_.1.1.2, hk_.1.2⟩)); have n2_ := Aside0.mk (Kd.R_mono (ok' := fun k_ => some k_ ≠ (v113 : Value).ownBlock ∧ some k_ ≠ (.slice Ao34 t123.length co34 : Value).ownBlock ∧ some k_ ≠ (.slice Ao31 t119.length co31 : Value).ownBlock ∧ some k_ ≠ (.slice Ao54 t134.length co54 : Value).ownBlock ∧ some k_ ≠ (.slice Ao57 t138.length co57 : Value).ownBlock) (Kd.R_keptB (HO_10.out) hkp (fun k_ hk_ hs_ => (hk_.1.1.2.2) hs_)) (fun k_ hk_ => ⟨hk_.1.1.1.1, hk_.1.1.1.2.1, hk_.1.1.1.2.2, hk_.1.1.2, hk_.1.2⟩)); have n3_ := Aside0.mk (Kd.R_reok rfl hy0 (fun k_ e_ => HO_123003.out.1 k_ e_)); have n4_ := Aside0.mk (blk_kept Z6.z2 hkp (fun hs_ => (fun e_ => (Kd.R_ne HO_123003.out BK101.out (by decide)) e_) hs_)); have n5_ := Aside0.mk (blk_kept Z6.z5 hkp (fun hs_ => (fun e_ => (Kd.R_ne HO_123003.out BK122.out (by decide)) e_) hs_)); have n6_ := Aside0.mk (Kd.R_mono (ok' := fun k_ => some k_ ≠ (v113 : Value).ownBlock ∧ some k_ ≠ (.slice Ao34 t123.length co34 : Value).ownBlock ∧ some k_ ≠ (v127 : Value).ownBlock ∧ some k_ ≠ (.slice Ao31 t119.length co31 : Value).ownBlock ∧ some k_ ≠ (.slice Ao57 t138.length co57 : Value).ownBlock) (Kd.R_keptB (HO136.out) hkp (fun k_ hk_ hs_ => (hk_.1.2) hs_)) (fun k_ hk_ => ⟨hk_.1.1.1.1.1.2, hk_.1.1.1.1.2, hk_.1.1.1.2, hk_.1.1.2, hk_.1.2⟩)); have n7_ := Aside0.mk (Kd.R_mono (ok' := fun k_ => some k_ ≠ (v113 : Value).ownBlock ∧ some k_ ≠ (.slice Ao34 t123.length co34 : Value).ownBlock ∧ some k_ ≠ (v127 : Value).ownBlock ∧ some k_ ≠ (.slice Ao31 t119.length co31 : Value).ownBlock ∧ some k_ ≠ (.slice Ao54 t134.length co54 : Value).ownBlock) (Kd.R_keptB (HO140.out) hkp (fun k_ hk_ hs_ => (hk_.1.2) hs_)) (fun k_ hk_ => ⟨hk_.1.1.1.1.1.2, hk_.1.1.1.1.2, hk_.1.1.1.2, hk_.1.1.2, hk_.1.2⟩)); have n8_ := Aside0.mk (hb); clear HO_6 HO_9 HO_10 HO_123003 BK101 BK122 HO136 HO140 HB; have HO_6 := n0_; have HO_9 := n1_; have HO_10 := n2_; have HO_123003 := n3_; have BK101 := n4_; have BK122 := n5_; have HO136 := n6_; have HO140 := n7_; have HB := n8_; clear n0_ n1_ n2_ n3_ n4_ n5_ n6_ n7_ n8_; (try clear hb); (try clear hkp); (try clear hy0)) | ((with_reducible refine gate_callee (f := 30) rfl ?_); refine goesL_ (some 67) rfl rfl Try.func30 (by kernel_rfl) rfl #[.slice Ao34 t123.length co34, .int .i64 t142] rfl Z6.z1 ?_; (with_reducible refine (laws_markInt64S.calls kj15 (fun k_ => some k_ = (.slice Ao34 t123.length co34 : Value).ownBlock) (.slice Ao34 t123.length co34) t123 t142 t144 t145 w _ ?side1 ?side2 A50.out).mono ?_); (case side1 => exact Z6.z0); (case side2 => exact Kd.R_tight rfl HO_9.out); rintro e w61 ⟨rfl, hy0, hb, hkp⟩; refine ⟨_, rfl, ?_⟩; have n0_ := Aside0.mk (Kd.R_mono (ok' := fun k_ => some k_ ≠ (.slice Ao34 t123.length co34 : Value).ownBlock ∧ some k_ ≠ (v127 : Value).ownBlock ∧ some k_ ≠ (.slice Ao31 t119.length co31 : Value).ownBlock ∧ some k_ ≠ (.slice Ao54 t134.length co54 : Value).ownBlock ∧ some k_ ≠ (.slice Ao57 t138.length co57 : Value).ownBlock) (Kd.R_keptB (HO_6.out) hkp (fun k_ hk_ hs_ => (hk_.1) hs_)) (fun k_ hk_ => ⟨hk_.1.1, hk_.1.2.1, hk_.1.2.2.1, hk_.1.2.2.2.1, hk_.1.2.2.2.2⟩)); have n1_ := Aside0.mk (Kd.R_reok rfl hy0 (fun k_ e_ => HO_9.out.1 k_ e_)); have n2_ := Aside0.mk (Kd.R_mono (ok' := fun k_ => some k_ ≠ (v113 : Value).ownBlock ∧ some k_ ≠ (.slice Ao34 t123.length co34 : Value).ownBlock ∧ some k_ ≠ (.slice Ao31 t119.length co31 : Value).ownBlock ∧ some k_ ≠ (.slice Ao54 t134.length co54 : Value).ownBlock ∧ some k_ ≠ (.slice Ao57 t138.length co57 : Value).ownBlock) (Kd.R_keptB (HO_10.out) hkp (fun k_ hk_ hs_ => (hk_.2.1) hs_)) (fun k_ hk_ => ⟨hk_.1.1, hk_.1.2.1, hk_.1.2.2.1, hk_.1.2.2.2.1, hk_.1.2.2.2.2⟩)); have n3_ := Aside0.mk (Kd.R_mono (ok' := fun k_ => some k_ ≠ (v113 : Value).ownBlock ∧ some k_ ≠ (.slice Ao34 t123.length co34 : Value).ownBlock ∧ some k_ ≠ (v127 : Value).ownBlock ∧ some k_ ≠ (.slice Ao54 t134.length co54 : Value).ownBlock ∧ some k_ ≠ (.slice Ao57 t138.length co57 : Value).ownBlock) (Kd.R_keptB (HO_123003.out) hkp (fun k_ hk_ hs_ => (hk_.1.1.2.1) hs_)) (fun k_ hk_ => ⟨hk_.1.1.1.1, hk_.1.1.1.2.1, hk_.1.1.1.2.2, hk_.1.1.2, hk_.1.2⟩)); have n4_ := Aside0.mk (blk_kept Z6.z2 hkp (fun hs_ => (fun e_ => (Kd.R_ne HO_9.out BK101.out (by decide)) e_) hs_)); have n5_ := Aside0.mk (blk_kept Z6.z5 hkp (fun hs_ => (fun e_ => (Kd.R_ne HO_9.out BK122.out (by decide)) e_) hs_)); have n6_ := Aside0.mk (Kd.R_mono (ok' := fun k_ => some k_ ≠ (v113 : Value).ownBlock ∧ some k_ ≠ (.slice Ao34 t123.length co34 : Value).ownBlock ∧ some k_ ≠ (v127 : Value).ownBlock ∧ some k_ ≠ (.slice Ao31 t119.length co31 : Value).ownBlock ∧ some k_ ≠ (.slice Ao57 t138.length co57 : Value).ownBlock) (Kd.R_keptB (HO136.out) hkp (fun k_ hk_ hs_ => (hk_.2.1) hs_)) (fun k_ hk_ => ⟨hk_.1.1, hk_.1.2.1, hk_.1.2.2.1, hk_.1.2.2.2.1, hk_.1.2.2.2.2⟩)); have n7_ := Aside0.mk (Kd.R_mono (ok' := fun k_ => some k_ ≠ (v113 : Value).ownBlock ∧ some k_ ≠ (.slice Ao34 t123.length co34 : Value).ownBlock ∧ some k_ ≠ (v127 : Value).ownBlock ∧ some k_ ≠ (.slice Ao31 t119.length co31 : Value).ownBlock ∧ some k_ ≠ (.slice Ao54 t134.length co54 : Value).ownBlock) (Kd.R_keptB (HO140.out) hkp (fun k_ hk_ hs_ => (hk_.2.1) hs_)) (fun k_ hk_ => ⟨hk_.1.1, hk_.1.2.1, hk_.1.2.2.1, hk_.1.2.2.2.1, hk_.1.2.2.2.2⟩)); have n8_ := Aside0.mk (hb); clear HO_6 HO_9 HO_10 HO_123003 BK101 BK122 HO136 HO140 HB; have HO_6 := n0_; have HO_9 := n1_; have HO_10 := n2_; have HO_123003 := n3_; have BK101 := n4_; have BK122 := n5_; have HO136 := n6_; have HO140 := n7_; have HB := n8_; clear n0_ n1_ n2_ n3_ n4_ n5_ n6_ n7_ n8_; (try clear hb); (try clear hkp); (try clear hy0)))
     (try simp only [Act.put, List.setIfInBounds_toArray, List.set_cons_zero, List.set_cons_succ])
     go_cut [80] (fun v80 wc => ∃ (kq : Nat) (x80_50 : Bool), v80 = .bool x80_50 ∧ Aside0 (laws_FnExactApplyMatrix.j1 kq l1 t112 t115 t126 x80_50 a0_0 a0_1 a0_2 l0_3 = some r) ∧ Aside0 (kq ≤ kj15) ∧ Aside0 (Kd.R (Kd.int .i64) 2 wc w.heap.size (fun k_ => some k_ ≠ (v127 : Value).ownBlock ∧ some k_ ≠ ((.slice Ao31 t119.length co31) : Value).ownBlock) v113 t112) ∧ Aside0 (Kd.R (Kd.int .i64) 2 wc w.heap.size (fun k_ => some k_ ≠ (v113 : Value).ownBlock ∧ some k_ ≠ ((.slice Ao31 t119.length co31) : Value).ownBlock) v127 t126) ∧ Aside0 (Kd.R (Kd.int .i64) 2 wc w.heap.size (fun k_ => some k_ ≠ (v113 : Value).ownBlock ∧ some k_ ≠ (v127 : Value).ownBlock) (.slice Ao31 t119.length co31) t143) ∧ Aside0 (wc.heap[gb101]? = some (.cells #[.int .i64 a0_0, .int .i64 a0_1, .int .i64 a0_2, (.slice A0_3 l0_3.length c0_3)] 32 (0, 0))) ∧ Aside0 (wc.heap[gb122]? = some (.cells #[.int .i64 t116, .int .i64 t117, .int .i64 t118, (.slice Ao31 t119.length co31)] 24 (0, 0))) ∧ Aside0 (Below w.heap.size w wc))
     case first =>
      have H := HC51.out
      clear HC51
      by_cases c62 : t144 < 0
      ·rw [if_pos c62] at H
       have c62b0 : decide (t144 < 0) = true := decide_eq_true c62
       clear c62
       (first | rw [c62b0] | (simp only [i64_w, i32_w]; rw [c62b0]) | skip)
       have H' := Aside0.mk H
       clear H
       go_wp2
       go_meet
       case rel => exact ⟨_, (true), Z6.z45, H', ⟨(by have := HJ15.out; first | omega | exact Nat.le_refl _)⟩, ⟨Z6.z29⟩, ⟨Z6.z30⟩, ⟨Z6.z28⟩, ⟨Z6.z2⟩, ⟨Z6.z5⟩, ⟨Z6.z0⟩⟩
      rw [if_neg c62] at H
      have c62b0 : decide (t144 < 0) = false := decide_eq_false c62
      clear c62
      (first | rw [c62b0] | (simp only [i64_w, i32_w]; rw [c62b0]) | skip)
      replace H := Option.bind_eq_some_iff.mp H
      obtain ⟨t146, A630, H⟩ := H
      replace H : (if t146 = true then (laws_FnExactApplyMatrix.j1 kj15 l1 t112 t115 t126 (t129 != t115) a0_0 a0_1 a0_2 l0_3) else (laws_FnExactApplyMatrix.j1 kj15 l1 t112 t115 t126 true a0_0 a0_1 a0_2 l0_3)) = some r := H
      have A63 := Aside0.mk A630
      clear A630
      by_cases c64 : t146 = true
      ·subst c64
       have H1 : (laws_FnExactApplyMatrix.j1 kj15 l1 t112 t115 t126 (t129 != t115) a0_0 a0_1 a0_2 l0_3) = some r := by rw [if_pos rfl] at H; exact H
       clear H
       have H := H1
       clear H1
       have H' := Aside0.mk H
       clear H
       obtain ⟨Ao65, co65, eo65⟩ := Kd.R_slice HO_10.out
       subst eo65
       obtain ⟨Ao66, co66, eo66⟩ := Kd.R_slice HO_6.out
       subst eo66
       go_wp2_with (first | (go_at_call 29; (with_reducible refine (laws_eqInt64S.calls kj15 _ _ t126 _ _ t112 true _ ?side1 ?side2 ?side3 ?side4 A63.out).mono ?_); (case side1 => exact Z6.z9); (case side2 => exact (Kd.R_reads' HO_10.out).2.1); (case side3 => exact Z6.z19); (case side4 => exact (Kd.R_reads' HO_6.out).2.1); rintro e w' ⟨rfl, ⟨nd, rfl⟩⟩))
       go_meet
       case rel => exact ⟨_, ((t129 != t115)), Z6.z45, H', ⟨(by have := HJ15.out; first | omega | exact Nat.le_refl _)⟩, ⟨Z6.z29⟩, ⟨Z6.z30⟩, ⟨Z6.z28⟩, ⟨Z6.z2⟩, ⟨Z6.z5⟩, ⟨Z6.z0⟩⟩
      replace c64 := Bool.eq_false_iff.mpr c64
      subst c64
      have H1 : (laws_FnExactApplyMatrix.j1 kj15 l1 t112 t115 t126 true a0_0 a0_1 a0_2 l0_3) = some r := by rw [if_neg (show ¬ (false = true) by decide)] at H; exact H
      clear H
      have H := H1
      clear H1
      have H' := Aside0.mk H
      clear H
      obtain ⟨Ao67, co67, eo67⟩ := Kd.R_slice HO_10.out
      subst eo67
      obtain ⟨Ao68, co68, eo68⟩ := Kd.R_slice HO_6.out
      subst eo68
      go_wp2_with (first | (go_at_call 29; (with_reducible refine (laws_eqInt64S.calls kj15 _ _ t126 _ _ t112 false _ ?side1 ?side2 ?side3 ?side4 A63.out).mono ?_); (case side1 => exact Z6.z9); (case side2 => exact (Kd.R_reads' HO_10.out).2.1); (case side3 => exact Z6.z19); (case side4 => exact (Kd.R_reads' HO_6.out).2.1); rintro e w' ⟨rfl, ⟨nd, rfl⟩⟩))
      go_meet
      case rel => exact ⟨_, (true), Z6.z45, H', ⟨(by have := HJ15.out; first | omega | exact Nat.le_refl _)⟩, ⟨Z6.z29⟩, ⟨Z6.z30⟩, ⟨Z6.z28⟩, ⟨Z6.z2⟩, ⟨Z6.z5⟩, ⟨Z6.z0⟩⟩
     case rest =>
      clear HC51
      try clear c1
      try clear c2
      try clear p2
      try clear c3
      try clear c3b0
      try clear c3b1
      try clear c4
      try clear c5
      try clear c6
      try clear c6b0
      try clear c17
      try clear c18
      try clear c22
      try clear c24
      try clear c26
      try clear c27
      try clear c28
      try clear c29
      try clear c30
      try clear c37
      try clear c42
      try clear c45
      try clear c48
      try clear c58
      try clear c62
      try clear c62b0
      try clear c64
      try clear hcz18_0
      try clear hcz18_1
      try clear hcz18_2
      try clear hcz18_3
      try clear hcz20_0
      try clear hcz20_1
      try clear hcz20_2
      try clear hcz20_3
      try clear hcz26_0
      try clear hcz26_1
      try clear hcz26_2
      try clear hcz26_3
      try clear hcz30_0
      try clear hcz30_1
      try clear hcz30_2
      try clear hcz30_3
      try clear hcz33_0
      try clear hcz33_1
      try clear hcz33_2
      try clear hcz33_3
      try clear hcz59_0
      try clear hcz59_1
      try clear hcz59_2
      try clear hcz59_3
      try clear hcz8_0
      try clear hcz8_1
      try clear hcz8_2
      try clear hcz8_3
      try clear hfz18_0
      try clear hfz18_1
      try clear hfz18_2
      try clear hfz18_3
      try clear hfz20_0
      try clear hfz20_1
      try clear hfz20_2
      try clear hfz20_3
      try clear hfz26_0
      try clear hfz26_1
      try clear hfz26_2
      try clear hfz26_3
      try clear hfz30_0
      try clear hfz30_1
      try clear hfz30_2
      try clear hfz30_3
      try clear hfz33_0
      try clear hfz33_1
      try clear hfz33_2
      try clear hfz33_3
      try clear hfz59_0
      try clear hfz59_1
      try clear hfz59_2
      try clear hfz59_3
      try clear hfz8_0
      try clear hfz8_1
      try clear hfz8_2
      try clear hfz8_3
      try clear p2
      obtain ⟨kq, x80_50, rfl, HA, HJ50, HO_6, HO_10, HO_123003, BK101, BK122, HB⟩ := hcut
      have hl123003_50 := (Kd.R_reads' HO_123003.out).1
      rw [hl123003_50] at HO_123003
      (try simp only [hl123003_50])
      (try simp only [hl123003_50] at BK101)
      (try simp only [hl123003_50] at BK122)
      (try simp only [hl123003_50] at HO_6)
      (try simp only [hl123003_50] at HO_10)
      cases kq with
      | zero => exact absurd HA.out (by simp [laws_FnExactApplyMatrix.j1])
      | succ kj50 =>
       have H := HA.out
       clear HA
       simp only [laws_FnExactApplyMatrix.j1] at H
       by_cases c69 : x80_50 = true
       ·subst c69
        have H1 : (some false) = some r := by rw [if_pos rfl] at H; exact H
        clear H
        have H := H1
        clear H1
        obtain rfl := Option.some.inj H
        go_wp2
        go_ret
        exact ⟨Z6.z13, Z6.z0⟩
       replace c69 := Bool.eq_false_iff.mpr c69
       subst c69
       have H1 : ((laws_markInt64S.f kj50 t126 1).bind fun bt147 => ((laws_heldInt64S.f kj50 bt147.2 1).bind fun t149 => (if t149 < 0 then (some false) else (if t149 = bt147.1 then ((laws_toMatrix.f kj50 a0_0 a0_1 a0_2 l0_3).bind fun bt150 => ((laws_toInt64S.f kj50 l1).bind fun t156 => ((impl_ApplyMatrix.f kj50 bt150.1 bt150.2.1 bt150.2.2.1 bt150.2.2.2 t156).bind fun bt159 => ((laws_eqInt64S.f kj50 bt159.1 t112).bind fun t163 => (if t163 = true then (laws_FnExactApplyMatrix.j2 kj50 bt147.2 bt147.1 (bt159.2 != t115)) else (laws_FnExactApplyMatrix.j2 kj50 bt147.2 bt147.1 true)))))) else (some false))))) = some r := by rw [if_neg (show ¬ (false = true) by decide)] at H; exact H
       clear H
       have H := H1
       clear H1
       replace H := Option.bind_eq_some_iff.mp H
       obtain ⟨⟨t147, t148⟩, A700, H⟩ := H
       replace H : ((laws_heldInt64S.f kj50 t148 1).bind fun t149 => (if t149 < 0 then (some false) else (if t149 = t147 then ((laws_toMatrix.f kj50 a0_0 a0_1 a0_2 l0_3).bind fun bt150 => ((laws_toInt64S.f kj50 l1).bind fun t156 => ((impl_ApplyMatrix.f kj50 bt150.1 bt150.2.1 bt150.2.2.1 bt150.2.2.2 t156).bind fun bt159 => ((laws_eqInt64S.f kj50 bt159.1 t112).bind fun t163 => (if t163 = true then (laws_FnExactApplyMatrix.j2 kj50 t148 t147 (bt159.2 != t115)) else (laws_FnExactApplyMatrix.j2 kj50 t148 t147 true)))))) else (some false)))) = some r := H
       have A70 := Aside0.mk A700
       clear A700
       replace H := Option.bind_eq_some_iff.mp H
       obtain ⟨t149, A710, H⟩ := H
       replace H : (if t149 < 0 then (some false) else (if t149 = t147 then ((laws_toMatrix.f kj50 a0_0 a0_1 a0_2 l0_3).bind fun bt150 => ((laws_toInt64S.f kj50 l1).bind fun t156 => ((impl_ApplyMatrix.f kj50 bt150.1 bt150.2.1 bt150.2.2.1 bt150.2.2.2 t156).bind fun bt159 => ((laws_eqInt64S.f kj50 bt159.1 t112).bind fun t163 => (if t163 = true then (laws_FnExactApplyMatrix.j2 kj50 t148 t147 (bt159.2 != t115)) else (laws_FnExactApplyMatrix.j2 kj50 t148 t147 true)))))) else (some false))) = some r := H
       have A71 := Aside0.mk A710
       clear A710
       by_cases c72 : t149 < 0
       ·rw [if_pos c72] at H
        have c72b0 : decide (t149 < 0) = true := decide_eq_true c72
        clear c72
        obtain rfl := Option.some.inj H
        obtain ⟨Ao73, co73, eo73⟩ := Kd.R_slice HO_10.out
        subst eo73
        go_wp2_with (first | ((with_reducible refine gate_callee (f := 30) rfl ?_); refine goesL_ (some 83) rfl rfl Try.func30 (by kernel_rfl) rfl #[.slice Ao73 t126.length co73, .int .i64 1] rfl Z6.z1 ?_; (with_reducible refine (laws_markInt64S.calls kj50 (fun k_ => some k_ = (.slice Ao73 t126.length co73 : Value).ownBlock) (.slice Ao73 t126.length co73) t126 1 t147 t148 w _ ?side1 ?side2 A70.out).mono ?_); (case side1 => exact Z6.z0); (case side2 => exact Kd.R_tight rfl HO_10.out); rintro e w74 ⟨rfl, hy0, hb, hkp⟩; refine ⟨_, rfl, ?_⟩; have n0_ := Aside0.mk (Kd.R_mono (ok' := fun k_ => some k_ ≠ (.slice Ao73 t126.length co73 : Value).ownBlock ∧ some k_ ≠ (.slice Ao31 t143.length co31 : Value).ownBlock) (Kd.R_keptB (HO_6.out) hkp (fun k_ hk_ hs_ => (hk_.1) hs_)) (fun k_ hk_ => ⟨hk_.1.1, hk_.1.2⟩)); have n1_ := Aside0.mk (Kd.R_reok rfl hy0 (fun k_ e_ => HO_10.out.1 k_ e_)); have n2_ := Aside0.mk (Kd.R_mono (ok' := fun k_ => some k_ ≠ (v113 : Value).ownBlock ∧ some k_ ≠ (.slice Ao73 t126.length co73 : Value).ownBlock) (Kd.R_keptB (HO_123003.out) hkp (fun k_ hk_ hs_ => (hk_.2) hs_)) (fun k_ hk_ => ⟨hk_.1.1, hk_.1.2⟩)); have n3_ := Aside0.mk (blk_kept Z6.z2 hkp (fun hs_ => (fun e_ => (Kd.R_ne HO_10.out BK101.out (by decide)) e_) hs_)); have n4_ := Aside0.mk (blk_kept Z6.z5 hkp (fun hs_ => (fun e_ => (Kd.R_ne HO_10.out BK122.out (by decide)) e_) hs_)); have n5_ := Aside0.mk (hb); clear HO_6 HO_10 HO_123003 BK101 BK122 HB; have HO_6 := n0_; have HO_10 := n1_; have HO_123003 := n2_; have BK101 := n3_; have BK122 := n4_; have HB := n5_; clear n0_ n1_ n2_ n3_ n4_ n5_; (try clear hb); (try clear hkp); (try clear hy0)) | ((with_reducible refine gate_callee (f := 31) rfl ?_); refine goesL_ (some 86) rfl rfl Try.func31 (by kernel_rfl) rfl #[.slice Ao73 t148.length co73, .int .i64 1] rfl Z6.z24 ?_; (with_reducible refine (laws_heldInt64S.calls kj50 _ _ t148 1 t149 _ ?side1 ?side2 A71.out).mono ?_); (case side1 => exact Z6.z9); (case side2 => exact Z6.z32); rintro e w' ⟨rfl, ⟨nd, rfl⟩⟩; refine ⟨_, rfl, ?_⟩))
        go_ret
        exact ⟨Z6.z13, Z6.z0⟩
       rw [if_neg c72] at H
       have c72b0 : decide (t149 < 0) = false := decide_eq_false c72
       clear c72
       by_cases c75 : t149 = t147
       ·rw [if_pos c75] at H
        have c75b0 : (t149 == t147) = true := beq_iff_eq.mpr c75
        have c75b1 : (t149 != t147) = false := bne_eq_false_iff_eq.mpr c75
        clear c75
        replace H := Option.bind_eq_some_iff.mp H
        obtain ⟨⟨t150, t151, t152, t153⟩, A760, H⟩ := H
        replace H : ((laws_toInt64S.f kj50 l1).bind fun t156 => ((impl_ApplyMatrix.f kj50 t150 t151 t152 t153 t156).bind fun bt159 => ((laws_eqInt64S.f kj50 bt159.1 t112).bind fun t163 => (if t163 = true then (laws_FnExactApplyMatrix.j2 kj50 t148 t147 (bt159.2 != t115)) else (laws_FnExactApplyMatrix.j2 kj50 t148 t147 true))))) = some r := H
        have A76 := Aside0.mk A760
        clear A760
        replace H := Option.bind_eq_some_iff.mp H
        obtain ⟨t156, A770, H⟩ := H
        replace H : ((impl_ApplyMatrix.f kj50 t150 t151 t152 t153 t156).bind fun bt159 => ((laws_eqInt64S.f kj50 bt159.1 t112).bind fun t163 => (if t163 = true then (laws_FnExactApplyMatrix.j2 kj50 t148 t147 (bt159.2 != t115)) else (laws_FnExactApplyMatrix.j2 kj50 t148 t147 true)))) = some r := H
        have A77 := Aside0.mk A770
        clear A770
        replace H := Option.bind_eq_some_iff.mp H
        obtain ⟨⟨t159, t162⟩, A780, H⟩ := H
        replace H : ((laws_eqInt64S.f kj50 t159 t112).bind fun t163 => (if t163 = true then (laws_FnExactApplyMatrix.j2 kj50 t148 t147 (t162 != t115)) else (laws_FnExactApplyMatrix.j2 kj50 t148 t147 true))) = some r := H
        have A78 := Aside0.mk A780
        clear A780
        have HC79 := Aside0.mk H
        clear H
        obtain ⟨Ao80, co80, eo80⟩ := Kd.R_slice HO_10.out
        subst eo80
        go_upto_region 31 with (first | ((with_reducible refine gate_callee (f := 30) rfl ?_); refine goesL_ (some 83) rfl rfl Try.func30 (by kernel_rfl) rfl #[.slice Ao80 t126.length co80, .int .i64 1] rfl Z6.z1 ?_; (with_reducible refine (laws_markInt64S.calls kj50 (fun k_ => some k_ = (.slice Ao80 t126.length co80 : Value).ownBlock) (.slice Ao80 t126.length co80) t126 1 t147 t148 w _ ?side1 ?side2 A70.out).mono ?_); (case side1 => exact Z6.z0); (case side2 => exact Kd.R_tight rfl HO_10.out); rintro e w81 ⟨rfl, hy0, hb, hkp⟩; refine ⟨_, rfl, ?_⟩; have n0_ := Aside0.mk (Kd.R_mono (ok' := fun k_ => some k_ ≠ (.slice Ao80 t126.length co80 : Value).ownBlock ∧ some k_ ≠ (.slice Ao31 t143.length co31 : Value).ownBlock) (Kd.R_keptB (HO_6.out) hkp (fun k_ hk_ hs_ => (hk_.1) hs_)) (fun k_ hk_ => ⟨hk_.1.1, hk_.1.2⟩)); have n1_ := Aside0.mk (Kd.R_reok rfl hy0 (fun k_ e_ => HO_10.out.1 k_ e_)); have n2_ := Aside0.mk (Kd.R_mono (ok' := fun k_ => some k_ ≠ (v113 : Value).ownBlock ∧ some k_ ≠ (.slice Ao80 t126.length co80 : Value).ownBlock) (Kd.R_keptB (HO_123003.out) hkp (fun k_ hk_ hs_ => (hk_.2) hs_)) (fun k_ hk_ => ⟨hk_.1.1, hk_.1.2⟩)); have n3_ := Aside0.mk (blk_kept Z6.z2 hkp (fun hs_ => (fun e_ => (Kd.R_ne HO_10.out BK101.out (by decide)) e_) hs_)); have n4_ := Aside0.mk (blk_kept Z6.z5 hkp (fun hs_ => (fun e_ => (Kd.R_ne HO_10.out BK122.out (by decide)) e_) hs_)); have n5_ := Aside0.mk (hb); clear HO_6 HO_10 HO_123003 BK101 BK122 HB; have HO_6 := n0_; have HO_10 := n1_; have HO_123003 := n2_; have BK101 := n3_; have BK122 := n4_; have HB := n5_; clear n0_ n1_ n2_ n3_ n4_ n5_; (try clear hb); (try clear hkp); (try clear hy0)) | ((with_reducible refine gate_callee (f := 31) rfl ?_); refine goesL_ (some 86) rfl rfl Try.func31 (by kernel_rfl) rfl #[.slice Ao80 t148.length co80, .int .i64 1] rfl Z6.z24 ?_; (with_reducible refine (laws_heldInt64S.calls kj50 _ _ t148 1 t149 _ ?side1 ?side2 A71.out).mono ?_); (case side1 => exact Z6.z9); (case side2 => exact Z6.z32); rintro e w' ⟨rfl, ⟨nd, rfl⟩⟩; refine ⟨_, rfl, ?_⟩; have hnb82 := NB101_122.out; have hnc82 := NB122_101.out; have hcz83_0 : w81.cell? ⟨gb101, 0, none⟩ = some (.int .i64 a0_0) := (blk_cell BK101.out 0).trans rfl; have hcz83_1 : w81.cell? ⟨gb101, 1, none⟩ = some (.int .i64 a0_1) := (blk_cell BK101.out 1).trans rfl; have hcz83_2 : w81.cell? ⟨gb101, 2, none⟩ = some (.int .i64 a0_2) := (blk_cell BK101.out 2).trans rfl; have hcz83_3 : w81.cell? ⟨gb101, 3, none⟩ = some (.slice A0_3 l0_3.length c0_3) := (blk_cell BK101.out 3).trans rfl; have hfz83_0 := blk_frozen BK101.out 0; have hfz83_1 := blk_frozen BK101.out 1; have hfz83_2 := blk_frozen BK101.out 2; have hfz83_3 := blk_frozen BK101.out 3) | ((with_reducible refine gate_callee (f := 24) rfl ?_); refine goesL_ (some 94) rfl rfl Try.func24 (by kernel_rfl) rfl #[.agg #[.int .i64 a0_0, .int .i64 a0_1, .int .i64 a0_2, .slice A0_3 l0_3.length c0_3]] rfl Z6.z1 ?_; (with_reducible refine (laws_toMatrix.calls kj50 a0_0 a0_1 a0_2 _ _ l0_3 t150 t151 t152 t153 _ ?side1 ?side2 A76.out).mono ?_); (case side1 => exact (by repeat (first | exact (Kd.C_below HR0_3.out Z6.z0) | (with_reducible refine Kd.C_alloc ?_ _) | (with_reducible refine Kd.C_drewN ?_ _) | (with_reducible refine Kd.C_drew ?_)))); (case side2 => exact HC0_3.out); rintro e w84 ⟨v154, rfl, ho0, hb⟩; refine ⟨_, rfl, ?_⟩; have n0_ := Aside0.mk (Kd.R_elder' Z6.z8 (Kd.R_base ho0) hb); have n1_ := Aside0.mk (Kd.R_elder' Z6.z7 (Kd.R_base ho0) hb); have n2_ := Aside0.mk (Kd.R_elder' Z6.z6 (Kd.R_base ho0) hb); have n3_ := Aside0.mk (Kd.R_lower (Kd.R_new' (Kd.R_new' (Kd.R_new' ho0 (Kd.R_lt Z6.z8)) (Kd.R_lt Z6.z7)) (Kd.R_lt Z6.z6)) (below_size Z6.z0)); have n4_ := Aside0.mk (Z6.bb BK101 Z6.z2 hb); have n5_ := Aside0.mk (Z6.bb BK122 Z6.z5 hb); have n6_ := Aside0.mk (below_step Z6.z0 hb); clear HO_6 HO_10 HO_123003 BK101 BK122 HB; have HO_6 := n0_; have HO_10 := n1_; have HO_123003 := n2_; have HO155 := n3_; have BK101 := n4_; have BK122 := n5_; have HB := n6_; clear n0_ n1_ n2_ n3_ n4_ n5_ n6_; (try clear hb); (try clear hb2); (try clear hk); (try clear hi); (try clear ho0)) | ((with_reducible refine gate_callee (f := 27) rfl ?_); refine goesL_ (some 96) rfl rfl Try.func27 (by kernel_rfl) rfl #[.slice A1 l1.length c1] rfl Z6.z1 ?_; (with_reducible refine (laws_toInt64S.calls kj50 _ _ l1 t156 _ ?side1 ?side2 A77.out).mono ?_); (case side1 => exact Z6.z18); (case side2 => exact HC1.out); rintro e w85 ⟨v157, rfl, ho0, hb⟩; refine ⟨_, rfl, ?_⟩; have n0_ := Aside0.mk (Kd.R_elder' Z6.z8 (Kd.R_base ho0) hb); have n1_ := Aside0.mk (Kd.R_elder' Z6.z7 (Kd.R_base ho0) hb); have n2_ := Aside0.mk (Kd.R_elder' Z6.z6 (Kd.R_base ho0) hb); have n3_ := Aside0.mk (Kd.R_elder' Z6.z31 (Kd.R_base ho0) hb); have n4_ := Aside0.mk (Kd.R_lower (Kd.R_new' (Kd.R_new' (Kd.R_new' (Kd.R_new' ho0 (Kd.R_lt Z6.z8)) (Kd.R_lt Z6.z7)) (Kd.R_lt Z6.z6)) (Kd.R_lt Z6.z31)) (below_size Z6.z0)); have n5_ := Aside0.mk (Z6.bb BK101 Z6.z2 hb); have n6_ := Aside0.mk (Z6.bb BK122 Z6.z5 hb); have n7_ := Aside0.mk (below_step Z6.z0 hb); clear HO_6 HO_10 HO_123003 HO155 BK101 BK122 HB; have HO_6 := n0_; have HO_10 := n1_; have HO_123003 := n2_; have HO155 := n3_; have HO158 := n4_; have BK101 := n5_; have BK122 := n6_; have HB := n7_; clear n0_ n1_ n2_ n3_ n4_ n5_ n6_ n7_; (try clear hb); (try clear hb2); (try clear hk); (try clear hi); (try clear ho0); obtain ⟨Ao86, co86, eo86⟩ := Kd.R_slice HO155.out; subst eo86; obtain ⟨Ao87, co87, eo87⟩ := Kd.R_slice HO158.out; subst eo87) | ((with_reducible refine gate_callee (f := 28) rfl ?_); refine goesL_ (some 97) rfl rfl Try.func28 (by kernel_rfl) rfl #[.agg #[.int .i64 t150, .int .i64 t151, .int .i64 t152, .slice Ao86 t153.length co86], .slice Ao87 t156.length co87] rfl Z6.z1 ?_; (with_reducible refine (impl_ApplyMatrix.calls kj50 t150 t151 t152 _ _ t153 _ _ t156 t159 t162 _ ?side1 ?side2 ?side3 ?side4 A78.out).mono ?_); (case side1 => exact (by repeat (first | exact (Kd.R_reads' HO155.out).2.2 | (with_reducible refine Kd.C_alloc ?_ _) | (with_reducible refine Kd.C_drewN ?_ _) | (with_reducible refine Kd.C_drew ?_)))); (case side2 => exact (Kd.R_reads' HO155.out).2.1); (case side3 => exact (by repeat (first | exact (Kd.R_reads' HO158.out).2.2 | (with_reducible refine Kd.C_alloc ?_ _) | (with_reducible refine Kd.C_drewN ?_ _) | (with_reducible refine Kd.C_drew ?_)))); (case side4 => exact (Kd.R_reads' HO158.out).2.1); rintro e w88 ⟨v160, rfl, ho0, hb⟩; refine ⟨_, rfl, ?_⟩; have n0_ := Aside0.mk (Kd.R_elder' Z6.z8 (Kd.R_base ho0) hb); have n1_ := Aside0.mk (Kd.R_elder' Z6.z7 (Kd.R_base ho0) hb); have n2_ := Aside0.mk (Kd.R_elder' Z6.z6 (Kd.R_base ho0) hb); have n3_ := Aside0.mk (Kd.R_elder' Z6.z31 (Kd.R_base ho0) hb); have n4_ := Aside0.mk (Kd.R_elder' (by (with_reducible repeat (first | apply Kd.R_alloc | apply Kd.R_drewN | apply Kd.R_drew)); exact HO158.out) (Kd.R_base ho0) hb); have n5_ := Aside0.mk (Kd.R_lower (Kd.R_new' (Kd.R_new' (Kd.R_new' (Kd.R_new' (Kd.R_new' ho0 (Kd.R_lt Z6.z8)) (Kd.R_lt Z6.z7)) (Kd.R_lt Z6.z6)) (Kd.R_lt Z6.z31)) (Kd.R_lt (by (with_reducible repeat (first | apply Kd.R_alloc | apply Kd.R_drewN | apply Kd.R_drew)); exact HO158.out))) (below_size Z6.z0)); have n6_ := Aside0.mk (Z6.bb BK101 Z6.z2 hb); have n7_ := Aside0.mk (Z6.bb BK122 Z6.z5 hb); have n8_ := Aside0.mk (below_step Z6.z0 hb); clear HO_6 HO_10 HO_123003 HO155 HO158 BK101 BK122 HB; have HO_6 := n0_; have HO_10 := n1_; have HO_123003 := n2_; have HO155 := n3_; have HO158 := n4_; have HO161 := n5_; have BK101 := n6_; have BK122 := n7_; have HB := n8_; clear n0_ n1_ n2_ n3_ n4_ n5_ n6_ n7_ n8_; (try clear hb); (try clear hb2); (try clear hk); (try clear hi); (try clear ho0)))
        (try simp only [Act.put, List.setIfInBounds_toArray, List.set_cons_zero, List.set_cons_succ])
        go_cut [108] (fun v108 wc => ∃ (kq : Nat) (x108_78 : Bool), v108 = .bool x108_78 ∧ Aside0 (laws_FnExactApplyMatrix.j2 kq t148 t147 x108_78 = some r) ∧ Aside0 (kq ≤ kj50) ∧ Aside0 (Kd.R (Kd.int .i64) 2 wc w.heap.size (fun k_ => some k_ ≠ ((.slice Ao31 t143.length co31) : Value).ownBlock) (.slice Ao80 t126.length co80) t148) ∧ Aside0 (Kd.R (Kd.int .i64) 2 wc w.heap.size (fun k_ => some k_ ≠ ((.slice Ao80 t126.length co80) : Value).ownBlock) (.slice Ao31 t143.length co31) t143) ∧ Aside0 (wc.heap[gb101]? = some (.cells #[.int .i64 a0_0, .int .i64 a0_1, .int .i64 a0_2, (.slice A0_3 l0_3.length c0_3)] 32 (0, 0))) ∧ Aside0 (wc.heap[gb122]? = some (.cells #[.int .i64 t116, .int .i64 t117, .int .i64 t118, (.slice Ao31 t143.length co31)] 24 (0, 0))) ∧ Aside0 (Below w.heap.size w wc))
        case first =>
         have H := HC79.out
         clear HC79
         replace H := Option.bind_eq_some_iff.mp H
         obtain ⟨t163, A890, H⟩ := H
         replace H : (if t163 = true then (laws_FnExactApplyMatrix.j2 kj50 t148 t147 (t162 != t115)) else (laws_FnExactApplyMatrix.j2 kj50 t148 t147 true)) = some r := H
         have A89 := Aside0.mk A890
         clear A890
         by_cases c90 : t163 = true
         ·subst c90
          have H1 : (laws_FnExactApplyMatrix.j2 kj50 t148 t147 (t162 != t115)) = some r := by rw [if_pos rfl] at H; exact H
          clear H
          have H := H1
          clear H1
          have H' := Aside0.mk H
          clear H
          obtain ⟨Ao91, co91, eo91⟩ := Kd.R_slice HO161.out
          subst eo91
          obtain ⟨Ao92, co92, eo92⟩ := Kd.R_slice HO_6.out
          subst eo92
          go_wp2_with (first | ((with_reducible refine gate_callee (f := 29) rfl ?_); refine goesL_ (some 102) rfl rfl Try.func29 (by kernel_rfl) rfl #[.slice Ao91 t159.length co91, .slice Ao92 t112.length co92] rfl Z6.z1 ?_; (with_reducible refine (laws_eqInt64S.calls kj50 _ _ t159 _ _ t112 true _ ?side1 ?side2 ?side3 ?side4 A89.out).mono ?_); (case side1 => exact Z6.z35); (case side2 => exact (Kd.R_reads' HO161.out).2.1); (case side3 => exact Z6.z19); (case side4 => exact (Kd.R_reads' HO_6.out).2.1); rintro e w' ⟨rfl, ⟨nd, rfl⟩⟩; refine ⟨_, rfl, ?_⟩))
          go_meet
          case rel => exact ⟨_, ((t162 != t115)), Z6.z45, H', ⟨(by have := HJ15.out; have := HJ50.out; first | omega | exact Nat.le_refl _)⟩, ⟨Z6.z40⟩, ⟨Z6.z34⟩, ⟨Z6.z47⟩, ⟨Z6.z46⟩, ⟨Z6.z0⟩⟩
         replace c90 := Bool.eq_false_iff.mpr c90
         subst c90
         have H1 : (laws_FnExactApplyMatrix.j2 kj50 t148 t147 true) = some r := by rw [if_neg (show ¬ (false = true) by decide)] at H; exact H
         clear H
         have H := H1
         clear H1
         have H' := Aside0.mk H
         clear H
         obtain ⟨Ao93, co93, eo93⟩ := Kd.R_slice HO161.out
         subst eo93
         obtain ⟨Ao94, co94, eo94⟩ := Kd.R_slice HO_6.out
         subst eo94
         go_wp2_with (first | ((with_reducible refine gate_callee (f := 29) rfl ?_); refine goesL_ (some 102) rfl rfl Try.func29 (by kernel_rfl) rfl #[.slice Ao93 t159.length co93, .slice Ao94 t112.length co94] rfl Z6.z1 ?_; (with_reducible refine (laws_eqInt64S.calls kj50 _ _ t159 _ _ t112 false _ ?side1 ?side2 ?side3 ?side4 A89.out).mono ?_); (case side1 => exact Z6.z35); (case side2 => exact (Kd.R_reads' HO161.out).2.1); (case side3 => exact Z6.z19); (case side4 => exact (Kd.R_reads' HO_6.out).2.1); rintro e w' ⟨rfl, ⟨nd, rfl⟩⟩; refine ⟨_, rfl, ?_⟩))
         go_meet
         case rel => exact ⟨_, (true), Z6.z45, H', ⟨(by have := HJ15.out; have := HJ50.out; first | omega | exact Nat.le_refl _)⟩, ⟨Z6.z40⟩, ⟨Z6.z34⟩, ⟨Z6.z47⟩, ⟨Z6.z46⟩, ⟨Z6.z0⟩⟩
        case rest =>
         clear HC79
         try clear c1
         try clear c2
         try clear p2
         try clear c3
         try clear c3b0
         try clear c3b1
         try clear c4
         try clear c5
         try clear c6
         try clear c6b0
         try clear c7
         try clear c8
         try clear c9
         try clear c17
         try clear c18
         try clear c22
         try clear c24
         try clear c26
         try clear c27
         try clear c28
         try clear c29
         try clear c30
         try clear c31
         try clear c37
         try clear c42
         try clear c45
         try clear c48
         try clear c58
         try clear c62
         try clear c62b0
         try clear c64
         try clear c69
         try clear c72
         try clear c72b0
         try clear c75
         try clear c75b0
         try clear c75b1
         try clear c82
         try clear c90
         try clear hcz18_0
         try clear hcz18_1
         try clear hcz18_2
         try clear hcz18_3
         try clear hcz20_0
         try clear hcz20_1
         try clear hcz20_2
         try clear hcz20_3
         try clear hcz26_0
         try clear hcz26_1
         try clear hcz26_2
         try clear hcz26_3
         try clear hcz30_0
         try clear hcz30_1
         try clear hcz30_2
         try clear hcz30_3
         try clear hcz33_0
         try clear hcz33_1
         try clear hcz33_2
         try clear hcz33_3
         try clear hcz59_0
         try clear hcz59_1
         try clear hcz59_2
         try clear hcz59_3
         try clear hcz83_0
         try clear hcz83_1
         try clear hcz83_2
         try clear hcz83_3
         try clear hcz8_0
         try clear hcz8_1
         try clear hcz8_2
         try clear hcz8_3
         try clear hfz18_0
         try clear hfz18_1
         try clear hfz18_2
         try clear hfz18_3
         try clear hfz20_0
         try clear hfz20_1
         try clear hfz20_2
         try clear hfz20_3
         try clear hfz26_0
         try clear hfz26_1
         try clear hfz26_2
         try clear hfz26_3
         try clear hfz30_0
         try clear hfz30_1
         try clear hfz30_2
         try clear hfz30_3
         try clear hfz33_0
         try clear hfz33_1
         try clear hfz33_2
         try clear hfz33_3
         try clear hfz59_0
         try clear hfz59_1
         try clear hfz59_2
         try clear hfz59_3
         try clear hfz83_0
         try clear hfz83_1
         try clear hfz83_2
         try clear hfz83_3
         try clear hfz8_0
         try clear hfz8_1
         try clear hfz8_2
         try clear hfz8_3
         try clear p2
         obtain ⟨kq, x108_78, rfl, HA, HJ78, HO_10, HO_123003, BK101, BK122, HB⟩ := hcut
         have hl10_78 := (Kd.R_reads' HO_10.out).1
         rw [hl10_78] at HO_10
         (try simp only [hl10_78])
         (try simp only [hl10_78] at BK101)
         (try simp only [hl10_78] at BK122)
         (try simp only [hl10_78] at HO_123003)
         cases kq with
         | zero => exact absurd HA.out (by simp [laws_FnExactApplyMatrix.j2])
         | succ kj78 =>
          have H := HA.out
          clear HA
          simp only [laws_FnExactApplyMatrix.j2] at H
          by_cases c95 : x108_78 = true
          ·subst c95
           have H1 : (some false) = some r := by rw [if_pos rfl] at H; exact H
           clear H
           have H := H1
           clear H1
           obtain rfl := Option.some.inj H
           go_wp2
           go_ret
           exact ⟨Z6.z13, Z6.z0⟩
          replace c95 := Bool.eq_false_iff.mpr c95
          subst c95
          have H1 : ((laws_heldInt64S.f kj78 t148 1).bind fun t164 => (if t164 < 0 then (some false) else (if t164 = t147 then (some true) else (some false)))) = some r := by rw [if_neg (show ¬ (false = true) by decide)] at H; exact H
          clear H
          have H := H1
          clear H1
          replace H := Option.bind_eq_some_iff.mp H
          obtain ⟨t164, A960, H⟩ := H
          replace H : (if t164 < 0 then (some false) else (if t164 = t147 then (some true) else (some false))) = some r := H
          have A96 := Aside0.mk A960
          clear A960
          by_cases c97 : t164 < 0
          ·rw [if_pos c97] at H
           have c97b0 : decide (t164 < 0) = true := decide_eq_true c97
           clear c97
           obtain rfl := Option.some.inj H
           go_wp2_with (first | ((with_reducible refine gate_callee (f := 31) rfl ?_); refine goesL_ (some 111) rfl rfl Try.func31 (by kernel_rfl) rfl #[.slice Ao80 t148.length co80, .int .i64 1] rfl Z6.z1 ?_; (with_reducible refine (laws_heldInt64S.calls kj78 _ _ t148 1 t164 _ ?side1 ?side2 A96.out).mono ?_); (case side1 => exact Z6.z9); (case side2 => exact (Kd.R_reads' HO_10.out).2.1); rintro e w' ⟨rfl, ⟨nd, rfl⟩⟩; refine ⟨_, rfl, ?_⟩))
           go_ret
           exact ⟨Z6.z13, Z6.z0⟩
          rw [if_neg c97] at H
          have c97b0 : decide (t164 < 0) = false := decide_eq_false c97
          clear c97
          by_cases c98 : t164 = t147
          ·rw [if_pos c98] at H
           have c98b0 : (t164 == t147) = true := beq_iff_eq.mpr c98
           have c98b1 : (t164 != t147) = false := bne_eq_false_iff_eq.mpr c98
           clear c98
           obtain rfl := Option.some.inj H
           go_wp2_with (first | ((with_reducible refine gate_callee (f := 31) rfl ?_); refine goesL_ (some 111) rfl rfl Try.func31 (by kernel_rfl) rfl #[.slice Ao80 t148.length co80, .int .i64 1] rfl Z6.z1 ?_; (with_reducible refine (laws_heldInt64S.calls kj78 _ _ t148 1 t164 _ ?side1 ?side2 A96.out).mono ?_); (case side1 => exact Z6.z9); (case side2 => exact (Kd.R_reads' HO_10.out).2.1); rintro e w' ⟨rfl, ⟨nd, rfl⟩⟩; refine ⟨_, rfl, ?_⟩))
           go_ret
           exact ⟨Z6.z13, Z6.z0⟩
          rw [if_neg c98] at H
          have c98b0 : (t164 == t147) = false := beq_eq_false_iff_ne.mpr c98
          have c98b1 : (t164 != t147) = true := bne_iff_ne.mpr c98
          obtain rfl := Option.some.inj H
          go_wp2_with (first | ((with_reducible refine gate_callee (f := 31) rfl ?_); refine goesL_ (some 111) rfl rfl Try.func31 (by kernel_rfl) rfl #[.slice Ao80 t148.length co80, .int .i64 1] rfl Z6.z1 ?_; (with_reducible refine (laws_heldInt64S.calls kj78 _ _ t148 1 t164 _ ?side1 ?side2 A96.out).mono ?_); (case side1 => exact Z6.z9); (case side2 => exact (Kd.R_reads' HO_10.out).2.1); rintro e w' ⟨rfl, ⟨nd, rfl⟩⟩; refine ⟨_, rfl, ?_⟩))
          go_ret
          exact ⟨Z6.z13, Z6.z0⟩
       rw [if_neg c75] at H
       have c75b0 : (t149 == t147) = false := beq_eq_false_iff_ne.mpr c75
       have c75b1 : (t149 != t147) = true := bne_iff_ne.mpr c75
       obtain rfl := Option.some.inj H
       obtain ⟨Ao99, co99, eo99⟩ := Kd.R_slice HO_10.out
       subst eo99
       go_wp2_with (first | ((with_reducible refine gate_callee (f := 30) rfl ?_); refine goesL_ (some 83) rfl rfl Try.func30 (by kernel_rfl) rfl #[.slice Ao99 t126.length co99, .int .i64 1] rfl Z6.z1 ?_; (with_reducible refine (laws_markInt64S.calls kj50 (fun k_ => some k_ = (.slice Ao99 t126.length co99 : Value).ownBlock) (.slice Ao99 t126.length co99) t126 1 t147 t148 w _ ?side1 ?side2 A70.out).mono ?_); (case side1 => exact Z6.z0); (case side2 => exact Kd.R_tight rfl HO_10.out); rintro e w100 ⟨rfl, hy0, hb, hkp⟩; refine ⟨_, rfl, ?_⟩; have n0_ := Aside0.mk (Kd.R_mono (ok' := fun k_ => some k_ ≠ (.slice Ao99 t126.length co99 : Value).ownBlock ∧ some k_ ≠ (.slice Ao31 t143.length co31 : Value).ownBlock) (Kd.R_keptB (HO_6.out) hkp (fun k_ hk_ hs_ => (hk_.1) hs_)) (fun k_ hk_ => ⟨hk_.1.1, hk_.1.2⟩)); have n1_ := Aside0.mk (Kd.R_reok rfl hy0 (fun k_ e_ => HO_10.out.1 k_ e_)); have n2_ := Aside0.mk (Kd.R_mono (ok' := fun k_ => some k_ ≠ (v113 : Value).ownBlock ∧ some k_ ≠ (.slice Ao99 t126.length co99 : Value).ownBlock) (Kd.R_keptB (HO_123003.out) hkp (fun k_ hk_ hs_ => (hk_.2) hs_)) (fun k_ hk_ => ⟨hk_.1.1, hk_.1.2⟩)); have n3_ := Aside0.mk (blk_kept Z6.z2 hkp (fun hs_ => (fun e_ => (Kd.R_ne HO_10.out BK101.out (by decide)) e_) hs_)); have n4_ := Aside0.mk (blk_kept Z6.z5 hkp (fun hs_ => (fun e_ => (Kd.R_ne HO_10.out BK122.out (by decide)) e_) hs_)); have n5_ := Aside0.mk (hb); clear HO_6 HO_10 HO_123003 BK101 BK122 HB; have HO_6 := n0_; have HO_10 := n1_; have HO_123003 := n2_; have BK101 := n3_; have BK122 := n4_; have HB := n5_; clear n0_ n1_ n2_ n3_ n4_ n5_; (try clear hb); (try clear hkp); (try clear hy0)) | ((with_reducible refine gate_callee (f := 31) rfl ?_); refine goesL_ (some 86) rfl rfl Try.func31 (by kernel_rfl) rfl #[.slice Ao99 t148.length co99, .int .i64 1] rfl Z6.z24 ?_; (with_reducible refine (laws_heldInt64S.calls kj50 _ _ t148 1 t149 _ ?side1 ?side2 A71.out).mono ?_); (case side1 => exact Z6.z9); (case side2 => exact Z6.z32); rintro e w' ⟨rfl, ⟨nd, rfl⟩⟩; refine ⟨_, rfl, ?_⟩))
       go_ret
       exact ⟨Z6.z13, Z6.z0⟩
    replace c48 := Bool.eq_false_iff.mpr c48
    subst c48
    have H1 : (some false) = some r := by rw [if_neg (show ¬ (false = true) by decide)] at H; exact H
    clear H
    have H := H1
    clear H1
    obtain rfl := Option.some.inj H
    try go_wp2
    have n0_ := Aside0.mk (Kd.R_drew HO_6.out)
    have n1_ := Aside0.mk (Kd.R_drew HO_9.out)
    have n2_ := Aside0.mk (Kd.R_drew HO_10.out)
    have n3_ := Aside0.mk (Kd.R_drew HO_123003.out)
    have n4_ := Aside0.mk (blk_drew BK101.out)
    have n5_ := Aside0.mk (blk_drew BK122.out)
    have n6_ := Aside0.mk (below_drew1 HB.out)
    clear HO_6 HO_9 HO_10 HO_123003 BK101 BK122 HB
    have HO_6 := n0_
    have HO_9 := n1_
    have HO_10 := n2_
    have HO_123003 := n3_
    have BK101 := n4_
    have BK122 := n5_
    have HB := n6_
    clear n0_ n1_ n2_ n3_ n4_ n5_ n6_
    refine start_ (n := 5) (S := fun w' => w'.cell? ⟨gb122, 0, none⟩ = some (.int .i64 t116) ∧ w'.cell? ⟨gb122, 1, none⟩ = some (.int .i64 t117) ∧ w'.cell? ⟨gb122, 2, none⟩ = some (.int .i64 t118) ∧ w'.cell? ⟨gb122, 3, none⟩ = some (.slice Ao31 t119.length co31) ∧ w'.cell? ⟨gb101, 0, none⟩ = some (.int .i64 a0_0) ∧ w'.cell? ⟨gb101, 1, none⟩ = some (.int .i64 a0_1) ∧ w'.cell? ⟨gb101, 2, none⟩ = some (.int .i64 a0_2) ∧ w'.cell? ⟨gb101, 3, none⟩ = some (.slice A0_3 l0_3.length c0_3)) (ds := []) #[false, false, false, false, false] (by kernel_rfl) rfl rfl Z6.z3 (fun hHeld => ?_)
    generalize wc.drew = w101 at HO_6 HO_9 HO_10 HO_123003 BK101 BK122 HB hHeld ⊢
    refine take_ (i := 0) (N := some 52) (v := ?_) (a' := ?_) #[true, false, false, false, false] rfl rfl (by kernel_rfl) (fun _ _ _ h => h) (Or.inl ⟨(by rfl), ?_⟩) hHeld ?_ ?_
    rotate_left
    ·rintro w' ⟨s0, s1, s2, s3, s4, s5, s6, s7⟩
     go_simp
     with_reducible rfl
    rotate_left
    ·exact Z6.z14
    refine take_ (i := 1) (N := some 53) (v := ?_) (a' := ?_) #[true, true, false, false, false] rfl rfl (by kernel_rfl) (fun _ _ _ h => h) (Or.inl ⟨(by rfl), ?_⟩) hHeld ?_ ?_
    rotate_left
    ·rintro w' ⟨s0, s1, s2, s3, s4, s5, s6, s7⟩
     go_simp
     with_reducible rfl
    rotate_left
    ·exact Z6.z14
    refine one_ (i := 2) (N := some 54) #[true, true, true, false, false] rfl rfl (by kernel_rfl) (by decide) (fun K hK => ?_)
    refine goes_ Try.func24 (by kernel_rfl) rfl #[.agg #[.int .i64 a0_0, .int .i64 a0_1, .int .i64 a0_2, .slice A0_3 l0_3.length c0_3]] (by rfl) rfl rfl Z6.z1 ?_
    with_reducible refine (laws_toMatrix.calls kj15 a0_0 a0_1 a0_2 _ _ l0_3 t131 t132 t133 t134 _ ?side1 ?side2 A43.out).mono ?_
    (case side1 => exact Z6.z11)
    (case side2 => exact HC0_3.out)
    rintro e w102 ⟨v135, rfl, ho0, hb⟩
    refine ⟨_, rfl, ?_⟩
    have n0_ := Aside0.mk (Kd.R_elder' Z6.z8 (Kd.R_base ho0) hb)
    have n1_ := Aside0.mk (Kd.R_elder' Z6.z10 (Kd.R_base ho0) hb)
    have n2_ := Aside0.mk (Kd.R_elder' Z6.z7 (Kd.R_base ho0) hb)
    have n3_ := Aside0.mk (Kd.R_elder' Z6.z6 (Kd.R_base ho0) hb)
    have n4_ := Aside0.mk (Kd.R_lower (Kd.R_new' (Kd.R_new' (Kd.R_new' (Kd.R_new' ho0 (Kd.R_lt Z6.z8)) (Kd.R_lt Z6.z10)) (Kd.R_lt Z6.z7)) (Kd.R_lt Z6.z6)) (below_size Z6.z0))
    have n5_ := Aside0.mk (Z6.bb BK101 Z6.z2 hb)
    have n6_ := Aside0.mk (Z6.bb BK122 Z6.z5 hb)
    have n7_ := Aside0.mk (below_step Z6.z0 hb)
    clear HO_6 HO_9 HO_10 HO_123003 BK101 BK122 HB
    have HO_6 := n0_
    have HO_9 := n1_
    have HO_10 := n2_
    have HO_123003 := n3_
    have HO136 := n4_
    have BK101 := n5_
    have BK122 := n6_
    have HB := n7_
    clear n0_ n1_ n2_ n3_ n4_ n5_ n6_ n7_
    (try clear hb)
    (try clear hb2)
    (try clear hk)
    (try clear hi)
    (try clear ho0)
    obtain ⟨Ao103, co103, eo103⟩ := Kd.R_slice HO136.out
    (first | subst eo103 | (injection eo103 with f1_ f2_ f3_; have f4_ := f1_.symm; have f5_ := f3_.symm; clear f1_ f2_ f3_; subst f4_; subst f5_))
    refine hK.out _ _ Z6.z3 (fun hHeld => ?_)
    clear hK K
    refine norm_ (a' := ?_) ?_ ?_
    rotate_left
    ·show Act.put _ (some 54) _ = _
     simp only [Act.put, List.setIfInBounds_toArray, List.set_cons_zero, List.set_cons_succ, i64_w, i32_w]
     rfl
    refine one_ (i := 3) (N := some 55) #[true, true, true, true, false] rfl rfl (by kernel_rfl) (by decide) (fun K hK => ?_)
    refine goes_ Try.func17 (by kernel_rfl) rfl #[.agg #[.int .i64 t116, .int .i64 t117, .int .i64 t118, .slice Ao31 t119.length co31], .agg #[.int .i64 t131, .int .i64 t132, .int .i64 t133, .slice Ao103 t134.length co103]] (by rfl) rfl rfl Z6.z1 ?_
    with_reducible refine (laws_eqMatrix.calls kj15 t116 t117 t118 _ _ t119 t131 t132 t133 _ _ t134 true _ ?side1 ?side2 ?side3 ?side4 A44.out).mono ?_
    (case side1 => exact Z6.z26)
    (case side2 => exact (Kd.R_reads' HO_123003.out).2.1)
    (case side3 => exact Z6.z27)
    (case side4 => exact (Kd.R_reads' HO136.out).2.1)
    rintro e w104 ⟨rfl, hb⟩
    refine ⟨_, rfl, ?_⟩
    have n0_ := Aside0.mk (Kd.R_below Z6.z8 hb)
    have n1_ := Aside0.mk (Kd.R_below Z6.z10 hb)
    have n2_ := Aside0.mk (Kd.R_below Z6.z7 hb)
    have n3_ := Aside0.mk (Kd.R_below Z6.z6 hb)
    have n4_ := Aside0.mk (Kd.R_below Z6.z16 hb)
    have n5_ := Aside0.mk (Z6.bb BK101 Z6.z2 hb)
    have n6_ := Aside0.mk (Z6.bb BK122 Z6.z5 hb)
    have n7_ := Aside0.mk (below_step Z6.z0 hb)
    clear HO_6 HO_9 HO_10 HO_123003 HO136 BK101 BK122 HB
    have HO_6 := n0_
    have HO_9 := n1_
    have HO_10 := n2_
    have HO_123003 := n3_
    have HO136 := n4_
    have BK101 := n5_
    have BK122 := n6_
    have HB := n7_
    clear n0_ n1_ n2_ n3_ n4_ n5_ n6_ n7_
    (try clear hb)
    (try clear hb2)
    (try clear hk)
    (try clear hi)
    refine hK.out _ _ Z6.z3 (fun hHeld => ?_)
    clear hK K
    refine norm_ (a' := ?_) ?_ ?_
    rotate_left
    ·show Act.put _ (some 55) _ = _
     simp only [Act.put, List.setIfInBounds_toArray, List.set_cons_zero, List.set_cons_succ, i64_w, i32_w]
     rfl
    refine pure_ (i := 4) (N := some 56) (v := ?_) (a' := ?_) #[true, true, true, true, true] rfl rfl (by kernel_rfl) (fun _ _ _ h => h) (Or.inl ⟨(by rfl), ?_⟩) ?_ ?_
    rotate_left
    ·intro w'
     go_simp
     with_reducible rfl
    rotate_left
    ·exact Z6.z14
    refine done_ (by kernel_rfl) ?_
    try go_wp2_with (first | ((with_reducible refine gate_callee (f := 27) rfl ?_); refine goesL_ (some 59) rfl rfl Try.func27 (by kernel_rfl) rfl #[.slice A1 l1.length c1] rfl Z6.z1 ?_; (with_reducible refine (laws_toInt64S.calls kj15 _ _ l1 t138 _ ?side1 ?side2 A46.out).mono ?_); (case side1 => exact Z6.z18); (case side2 => exact HC1.out); rintro e w105 ⟨v139, rfl, ho0, hb⟩; refine ⟨_, rfl, ?_⟩; have n0_ := Aside0.mk (Kd.R_elder' Z6.z8 (Kd.R_base ho0) hb); have n1_ := Aside0.mk (Kd.R_elder' Z6.z10 (Kd.R_base ho0) hb); have n2_ := Aside0.mk (Kd.R_elder' Z6.z7 (Kd.R_base ho0) hb); have n3_ := Aside0.mk (Kd.R_elder' Z6.z6 (Kd.R_base ho0) hb); have n4_ := Aside0.mk (Kd.R_elder' Z6.z16 (Kd.R_base ho0) hb); have n5_ := Aside0.mk (Kd.R_lower (Kd.R_new' (Kd.R_new' (Kd.R_new' (Kd.R_new' (Kd.R_new' ho0 (Kd.R_lt Z6.z8)) (Kd.R_lt Z6.z10)) (Kd.R_lt Z6.z7)) (Kd.R_lt Z6.z6)) (Kd.R_lt Z6.z16)) (below_size Z6.z0)); have n6_ := Aside0.mk (Z6.bb BK101 Z6.z2 hb); have n7_ := Aside0.mk (Z6.bb BK122 Z6.z5 hb); have n8_ := Aside0.mk (below_step Z6.z0 hb); clear HO_6 HO_9 HO_10 HO_123003 HO136 BK101 BK122 HB; have HO_6 := n0_; have HO_9 := n1_; have HO_10 := n2_; have HO_123003 := n3_; have HO136 := n4_; have HO140 := n5_; have BK101 := n6_; have BK122 := n7_; have HB := n8_; clear n0_ n1_ n2_ n3_ n4_ n5_ n6_ n7_ n8_; (try clear hb); (try clear hb2); (try clear hk); (try clear hi); (try clear ho0); obtain ⟨Ao106, co106, eo106⟩ := Kd.R_slice HO140.out; subst eo106) | ((with_reducible refine gate_callee (f := 29) rfl ?_); refine goesL_ (some 60) rfl rfl Try.func29 (by kernel_rfl) rfl #[.slice Ao34 t123.length co34, .slice Ao106 t138.length co106] rfl Z6.z1 ?_; (with_reducible refine (laws_eqInt64S.calls kj15 _ _ t123 _ _ t138 false _ ?side1 ?side2 ?side3 ?side4 A47.out).mono ?_); (case side1 => exact Z6.z39); (case side2 => exact (Kd.R_reads' HO_9.out).2.1); (case side3 => exact Z6.z36); (case side4 => exact (Kd.R_reads' HO140.out).2.1); rintro e w' ⟨rfl, ⟨nd, rfl⟩⟩; refine ⟨_, rfl, ?_⟩))
    go_ret
    exact ⟨Z6.z13, Z6.z0⟩
   replace c45 := Bool.eq_false_iff.mpr c45
   subst c45
   have H1 : (some false) = some r := by rw [if_neg (show ¬ (false = true) by decide)] at H; exact H
   clear H
   have H := H1
   clear H1
   obtain rfl := Option.some.inj H
   try go_wp2
   have n0_ := Aside0.mk (Kd.R_drew HO_6.out)
   have n1_ := Aside0.mk (Kd.R_drew HO_9.out)
   have n2_ := Aside0.mk (Kd.R_drew HO_10.out)
   have n3_ := Aside0.mk (Kd.R_drew HO_123003.out)
   have n4_ := Aside0.mk (blk_drew BK101.out)
   have n5_ := Aside0.mk (blk_drew BK122.out)
   have n6_ := Aside0.mk (below_drew1 HB.out)
   clear HO_6 HO_9 HO_10 HO_123003 BK101 BK122 HB
   have HO_6 := n0_
   have HO_9 := n1_
   have HO_10 := n2_
   have HO_123003 := n3_
   have BK101 := n4_
   have BK122 := n5_
   have HB := n6_
   clear n0_ n1_ n2_ n3_ n4_ n5_ n6_
   refine start_ (n := 5) (S := fun w' => w'.cell? ⟨gb122, 0, none⟩ = some (.int .i64 t116) ∧ w'.cell? ⟨gb122, 1, none⟩ = some (.int .i64 t117) ∧ w'.cell? ⟨gb122, 2, none⟩ = some (.int .i64 t118) ∧ w'.cell? ⟨gb122, 3, none⟩ = some (.slice Ao31 t119.length co31) ∧ w'.cell? ⟨gb101, 0, none⟩ = some (.int .i64 a0_0) ∧ w'.cell? ⟨gb101, 1, none⟩ = some (.int .i64 a0_1) ∧ w'.cell? ⟨gb101, 2, none⟩ = some (.int .i64 a0_2) ∧ w'.cell? ⟨gb101, 3, none⟩ = some (.slice A0_3 l0_3.length c0_3)) (ds := []) #[false, false, false, false, false] (by kernel_rfl) rfl rfl Z6.z3 (fun hHeld => ?_)
   generalize wc.drew = w107 at HO_6 HO_9 HO_10 HO_123003 BK101 BK122 HB hHeld ⊢
   refine take_ (i := 0) (N := some 52) (v := ?_) (a' := ?_) #[true, false, false, false, false] rfl rfl (by kernel_rfl) (fun _ _ _ h => h) (Or.inl ⟨(by rfl), ?_⟩) hHeld ?_ ?_
   rotate_left
   ·rintro w' ⟨s0, s1, s2, s3, s4, s5, s6, s7⟩
    go_simp
    with_reducible rfl
   rotate_left
   ·exact Z6.z14
   refine take_ (i := 1) (N := some 53) (v := ?_) (a' := ?_) #[true, true, false, false, false] rfl rfl (by kernel_rfl) (fun _ _ _ h => h) (Or.inl ⟨(by rfl), ?_⟩) hHeld ?_ ?_
   rotate_left
   ·rintro w' ⟨s0, s1, s2, s3, s4, s5, s6, s7⟩
    go_simp
    with_reducible rfl
   rotate_left
   ·exact Z6.z14
   refine one_ (i := 2) (N := some 54) #[true, true, true, false, false] rfl rfl (by kernel_rfl) (by decide) (fun K hK => ?_)
   refine goes_ Try.func24 (by kernel_rfl) rfl #[.agg #[.int .i64 a0_0, .int .i64 a0_1, .int .i64 a0_2, .slice A0_3 l0_3.length c0_3]] (by rfl) rfl rfl Z6.z1 ?_
   with_reducible refine (laws_toMatrix.calls kj15 a0_0 a0_1 a0_2 _ _ l0_3 t131 t132 t133 t134 _ ?side1 ?side2 A43.out).mono ?_
   (case side1 => exact Z6.z11)
   (case side2 => exact HC0_3.out)
   rintro e w108 ⟨v135, rfl, ho0, hb⟩
   refine ⟨_, rfl, ?_⟩
   have n0_ := Aside0.mk (Kd.R_elder' Z6.z8 (Kd.R_base ho0) hb)
   have n1_ := Aside0.mk (Kd.R_elder' Z6.z10 (Kd.R_base ho0) hb)
   have n2_ := Aside0.mk (Kd.R_elder' Z6.z7 (Kd.R_base ho0) hb)
   have n3_ := Aside0.mk (Kd.R_elder' Z6.z6 (Kd.R_base ho0) hb)
   have n4_ := Aside0.mk (Kd.R_lower (Kd.R_new' (Kd.R_new' (Kd.R_new' (Kd.R_new' ho0 (Kd.R_lt Z6.z8)) (Kd.R_lt Z6.z10)) (Kd.R_lt Z6.z7)) (Kd.R_lt Z6.z6)) (below_size Z6.z0))
   have n5_ := Aside0.mk (Z6.bb BK101 Z6.z2 hb)
   have n6_ := Aside0.mk (Z6.bb BK122 Z6.z5 hb)
   have n7_ := Aside0.mk (below_step Z6.z0 hb)
   clear HO_6 HO_9 HO_10 HO_123003 BK101 BK122 HB
   have HO_6 := n0_
   have HO_9 := n1_
   have HO_10 := n2_
   have HO_123003 := n3_
   have HO136 := n4_
   have BK101 := n5_
   have BK122 := n6_
   have HB := n7_
   clear n0_ n1_ n2_ n3_ n4_ n5_ n6_ n7_
   (try clear hb)
   (try clear hb2)
   (try clear hk)
   (try clear hi)
   (try clear ho0)
   obtain ⟨Ao109, co109, eo109⟩ := Kd.R_slice HO136.out
   (first | subst eo109 | (injection eo109 with f1_ f2_ f3_; have f4_ := f1_.symm; have f5_ := f3_.symm; clear f1_ f2_ f3_; subst f4_; subst f5_))
   refine hK.out _ _ Z6.z3 (fun hHeld => ?_)
   clear hK K
   refine norm_ (a' := ?_) ?_ ?_
   rotate_left
   ·show Act.put _ (some 54) _ = _
    simp only [Act.put, List.setIfInBounds_toArray, List.set_cons_zero, List.set_cons_succ, i64_w, i32_w]
    rfl
   refine one_ (i := 3) (N := some 55) #[true, true, true, true, false] rfl rfl (by kernel_rfl) (by decide) (fun K hK => ?_)
   refine goes_ Try.func17 (by kernel_rfl) rfl #[.agg #[.int .i64 t116, .int .i64 t117, .int .i64 t118, .slice Ao31 t119.length co31], .agg #[.int .i64 t131, .int .i64 t132, .int .i64 t133, .slice Ao109 t134.length co109]] (by rfl) rfl rfl Z6.z1 ?_
   with_reducible refine (laws_eqMatrix.calls kj15 t116 t117 t118 _ _ t119 t131 t132 t133 _ _ t134 false _ ?side1 ?side2 ?side3 ?side4 A44.out).mono ?_
   (case side1 => exact Z6.z26)
   (case side2 => exact (Kd.R_reads' HO_123003.out).2.1)
   (case side3 => exact Z6.z27)
   (case side4 => exact (Kd.R_reads' HO136.out).2.1)
   rintro e w110 ⟨rfl, hb⟩
   refine ⟨_, rfl, ?_⟩
   have n0_ := Aside0.mk (Kd.R_below Z6.z8 hb)
   have n1_ := Aside0.mk (Kd.R_below Z6.z10 hb)
   have n2_ := Aside0.mk (Kd.R_below Z6.z7 hb)
   have n3_ := Aside0.mk (Kd.R_below Z6.z6 hb)
   have n4_ := Aside0.mk (Kd.R_below Z6.z16 hb)
   have n5_ := Aside0.mk (Z6.bb BK101 Z6.z2 hb)
   have n6_ := Aside0.mk (Z6.bb BK122 Z6.z5 hb)
   have n7_ := Aside0.mk (below_step Z6.z0 hb)
   clear HO_6 HO_9 HO_10 HO_123003 HO136 BK101 BK122 HB
   have HO_6 := n0_
   have HO_9 := n1_
   have HO_10 := n2_
   have HO_123003 := n3_
   have HO136 := n4_
   have BK101 := n5_
   have BK122 := n6_
   have HB := n7_
   clear n0_ n1_ n2_ n3_ n4_ n5_ n6_ n7_
   (try clear hb)
   (try clear hb2)
   (try clear hk)
   (try clear hi)
   refine hK.out _ _ Z6.z3 (fun hHeld => ?_)
   clear hK K
   refine norm_ (a' := ?_) ?_ ?_
   rotate_left
   ·show Act.put _ (some 55) _ = _
    simp only [Act.put, List.setIfInBounds_toArray, List.set_cons_zero, List.set_cons_succ, i64_w, i32_w]
    rfl
   refine pure_ (i := 4) (N := some 56) (v := ?_) (a' := ?_) #[true, true, true, true, true] rfl rfl (by kernel_rfl) (fun _ _ _ h => h) (Or.inl ⟨(by rfl), ?_⟩) ?_ ?_
   rotate_left
   ·intro w'
    go_simp
    with_reducible rfl
   rotate_left
   ·exact Z6.z14
   refine done_ (by kernel_rfl) ?_
   try go_wp2
   go_ret
   exact ⟨Z6.z13, Z6.z0⟩

/-- THE ONE PURE STATEMENT of laws_FnExactApplyMatrix: yours. -/
def laws_FnExactApplyMatrix.Pure : Prop := ∀ (a0_0 : Int) (a0_1 : Int) (a0_2 : Int) (l0_3 : List Int) (l1 : List Int), (Lit.int .i64 a0_0).wf = true → (Lit.int .i64 a0_1).wf = true → (Lit.int .i64 a0_2).wf = true → l0_3.length ≤ maxLen → (∀ x ∈ l0_3, (Lit.int .i64 x).wf = true) → l1.length ≤ maxLen → l1.length * 8 ≤ 140737488351232 → (∀ x ∈ l1, (Lit.int .i64 x).wf = true) → ∃ k, laws_FnExactApplyMatrix.f k a0_0 a0_1 a0_2 l0_3 l1 = some true
theorem laws_FnExactApplyMatrix.walk (P : laws_FnExactApplyMatrix.Pure) (a0_0 : Int) (a0_1 : Int) (a0_2 : Int) (a0_3 : Option Addr) (len0_3 cap0_3 : Nat) (z0_3 : List Int) (a1 : Option Addr) (len1 cap1 : Nat) (z1 : List Int) (w : World) (w0_0 : (Lit.int .i64 a0_0).wf = true) (w0_1 : (Lit.int .i64 a0_1).wf = true) (w0_2 : (Lit.int .i64 a0_2).wf = true) (w0_3 : (a0_3 = none ∧ len0_3 = 0 ∧ cap0_3 = 0 ∧ z0_3 = []) ∨ ∃ x, a0_3 = some x ∧ len0_3 ≤ cap0_3 ∧ cap0_3 ≤ maxLen ∧ z0_3.length = cap0_3 ∧ (∀ i, i < z0_3.length → w.cell? (x.add i) = some (.int .i64 (z0_3.getD i 0))) ∧ ∀ n ∈ z0_3, (Lit.int .i64 n).wf = true) (w1 : (a1 = none ∧ len1 = 0 ∧ cap1 = 0 ∧ z1 = []) ∨ ∃ x, a1 = some x ∧ len1 ≤ cap1 ∧ cap1 ≤ maxLen ∧ z1.length = cap1 ∧ (∀ i, i < z1.length → w.cell? (x.add i) = some (.int .i64 (z1.getD i 0))) ∧ ∀ n ∈ z1, (Lit.int .i64 n).wf = true) (y1 : len1 * 8 ≤ 140737488351232) :
    Calls Try.prog 6 #[.agg #[.int .i64 a0_0, .int .i64 a0_1, .int .i64 a0_2, .slice a0_3 len0_3 cap0_3], .slice a1 len1 cap1] w fun e w' => e = .returned (.bool true) ∧ Below w.heap.size w w' := by
  obtain ⟨l0_3, rfl, hr0_3, hm0_3, hw0_3, hc0_3⟩ := ReadsInt.ofRowC w0_3
  obtain ⟨l1, rfl, hr1, hm1, hw1, hc1⟩ := ReadsInt.ofRowC w1
  obtain ⟨k, h⟩ := P a0_0 a0_1 a0_2 l0_3 l1 w0_0 w0_1 w0_2 hm0_3 hw0_3 hm1 y1 hw1
  refine (laws_FnExactApplyMatrix.calls k a0_0 a0_1 a0_2 _ _ l0_3 _ _ l1 true w (Kd.C_of_reads (d := (0 : Int)) (h1 := fun _ => rfl) hr0_3) hc0_3 (Kd.C_of_reads (d := (0 : Int)) (h1 := fun _ => rfl) hr1) hc1 h).mono ?_
  rintro e w' ⟨rfl, hd⟩
  exact ⟨rfl, hd⟩

end Go.Proofs.Ytioooobmfcmefaa.F
end
