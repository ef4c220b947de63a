/- Both functions tell the same of any two matrices; the matrices stay as they are. -/
import Derived.Test.YtmkcangcfammnaaFx11
import Derived.Test.YtmkcangcfammnaaSam
import Derived.KernelRfl
set_option linter.unusedVariables false
set_option linter.unusedSimpArgs false
set_option linter.unusedSectionVars false
namespace Go.Proofs.Ytmkcangcfammnaa.F
open Go.RowKit Go.Proofs.YtmkcangcfammnaaW.PrintWords Go.Proofs.YtmkcangcfammnaaW.PrintLast Go.Proofs.Ytmkcangcfammnaa.Lin

theorem FnExactSameMatrix_pure : laws_FnExactSameMatrix.Pure := by
  intro p r c a p' r' c' b _ _ _ hm _ _ _ _ hm' _
  by_cases hl : a.length ≤ 1048576
  · by_cases hl' : b.length ≤ 1048576 - a.length
    · obtain ⟨B, hB⟩ : ∃ B, B = a.length + b.length + 10 := ⟨_, rfl⟩
      have c1 : ∀ k, B ≤ k → laws_toMatrix.f k p r c a = some (p, r, c, a) := fun k hk => toMatrix_of p r c (by omega) (by omega)
      have c1' : ∀ k, B ≤ k → laws_toMatrix.f k p' r' c' b = some (p', r', c', b) := fun k hk => toMatrix_of p' r' c' (by omega) (by omega)
      have c2 : ∀ k, B ≤ k → spec_SameMatrix.f k p r c a p' r' c' b = some (sameOut p r c a p' r' c' b) := fun k hk => spec_sameM p r c p' r' c' (by omega) (by omega)
      have c3 : ∀ k, B ≤ k → impl_SameMatrix.f k p r c a p' r' c' b = some (sameOut p r c a p' r' c' b) := fun k hk => impl_sameM p r c p' r' c' (by omega) (by omega)
      have c4 : ∀ k, B ≤ k → laws_eqMatrix.f k p r c a p r c a = some true := fun k hk => eqMatrix_of (by omega) (by omega)
      have c4' : ∀ k, B ≤ k → laws_eqMatrix.f k p' r' c' b p' r' c' b = some true := fun k hk => eqMatrix_of (by omega) (by omega)
      have n0 : ¬ (1048576 - (a.length : Int) < 0) := by omega
      have n0' : ¬ (1048576 - (a.length : Int) - (b.length : Int) < 0) := by omega
      have z1 : laws_szMatrix.f p r c a 1048576 = some (1048576 - (a.length : Int)) := by rw [szMatrix_of p r c hm (by omega) (by omega), if_pos (by omega)]
      have z2 : laws_szMatrix.f p' r' c' b (1048576 - (a.length : Int)) = some (1048576 - (a.length : Int) - (b.length : Int)) := by rw [szMatrix_of p' r' c' hm' (by omega) (by omega), if_pos (by omega)]
      refine ⟨B, ?_⟩
      unfold laws_FnExactSameMatrix.f
      simp (disch := omega) only [z1, z2, Option.bind_some, if_true, if_false, bne_self_eq_false, Bool.false_eq_true, c1, c1', c2, c3, c4, c4', n0, n0']
    · refine ⟨0, ?_⟩
      unfold laws_FnExactSameMatrix.f
      have n0 : ¬ (1048576 - (a.length : Int) < 0) := by omega
      rw [szMatrix_of p r c hm (by omega) (by omega), if_pos (by omega)]
      simp only [Option.bind_some, n0, if_false]
      rw [szMatrix_of p' r' c' hm' (by omega) (by omega), if_neg (by omega)]
      rfl
  · refine ⟨0, ?_⟩
    unfold laws_FnExactSameMatrix.f
    rw [szMatrix_of p r c hm (by omega) (by omega), if_neg (by omega)]
    rfl
end Go.Proofs.Ytmkcangcfammnaa.F
namespace Go.Proofs.Ytmkcangcfammnaa.Pure
theorem FnExactSameMatrix : F.laws_FnExactSameMatrix.Pure := F.FnExactSameMatrix_pure
end Go.Proofs.Ytmkcangcfammnaa.Pure
