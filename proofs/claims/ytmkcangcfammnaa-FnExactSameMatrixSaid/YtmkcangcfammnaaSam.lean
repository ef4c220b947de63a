import Derived.Test.YtmkcangcfammnaaFx2
import Derived.Test.YtmkcangcfammnaaFx3
import Derived.Test.YtmkcangcfammnaaFx4
import Derived.Test.YtmkcangcfammnaaFx6
import Derived.Test.YtmkcangcfammnaaFx7
import Derived.Test.YtmkcangcfammnaaFx8
import Derived.Test.YtmkcangcfammnaaFx10
import Derived.Test.YtmkcangcfammnaaVecS
import Derived.KernelRfl
set_option linter.unusedVariables false
set_option linter.unusedSimpArgs false
set_option linter.unusedSectionVars false
namespace Go.Proofs.Ytmkcangcfammnaa.F
open Go.RowKit Go.Proofs.YtmkcangcfammnaaW.PrintWords Go.Proofs.YtmkcangcfammnaaW.PrintLast Go.Proofs.Ytmkcangcfammnaa.Lin

theorem szMatrix_of (p r c : Int) {l : List Int} (hl : l.length ≤ maxLen) {left : Int} (h0 : 0 ≤ left) (h1 : left ≤ 1048576) : laws_szMatrix.f p r c l left = some (if (l.length : Int) ≤ left then left - (l.length : Int) else -1) := by
  unfold laws_szMatrix.f laws_szInt64S.f
  have hl : l.length ≤ 9223372036854775807 := hl
  rw [w64_idV (x := left - (l.length : Int)) (by omega) (by omega)]
  by_cases h : (l.length : Int) ≤ left
  · rw [if_neg (by omega), if_pos h]
    simp only [Option.bind_some]
    rw [if_neg (by omega)]
  · rw [if_pos (by omega), if_neg h]; rfl
theorem toMatrix_of (p r c : Int) {l : List Int} (hl : l.length ≤ 35184372088832) {k : Nat} (hk : l.length < k) : laws_toMatrix.f k p r c l = some (p, r, c, l) := by
  unfold laws_toMatrix.f
  rw [copy_tells hl hk]; rfl
theorem eqMatrix_of {p r c : Int} {l : List Int} (hl : l.length ≤ 35184372088832) {k : Nat} (hk : l.length < k) : laws_eqMatrix.f k p r c l p r c l = some true := by
  unfold laws_eqMatrix.f
  rw [eq_tells hl hk]
  simp
theorem same_loop {a b : List Int} (ha : a.length ≤ 35184372088832) (hab : a.length = b.length) (p r c p' r' c' : Int) (d : Nat) : ∀ (k i : Nat), a.length - i = d → i ≤ a.length → d < k → (∀ j, j < i → a.getD j 0 = b.getD j 0) →
    slices_Equal_int64_int64.l0 k a b a.length i = some (decide (a = b)) ∧ spec_l03Same.l0 k i p r c a p' r' c' b = some (decide (a = b)) := by
  induction d with
  | zero =>
    intro k i hd hi hk h
    obtain ⟨k, rfl⟩ : ∃ m, k = m + 1 := ⟨k - 1, by omega⟩
    simp only [slices_Equal_int64_int64.l0, spec_l03Same.l0]
    have hf : ¬ (i : Int) < (a.length : Int) := by omega
    have e : a = b := ext_getD hab (fun j hj => h j (by omega))
    simp only [hf, if_false]
    exact ⟨by rw [decide_eq_true e], by rw [decide_eq_true e]⟩
  | succ d ih =>
    intro k i hd hi hk h
    obtain ⟨k, rfl⟩ : ∃ m, k = m + 1 := ⟨k - 1, by omega⟩
    simp only [slices_Equal_int64_int64.l0, spec_l03Same.l0]
    have h0 : (0 : Int) ≤ (i : Int) := by omega
    have h1 : (i : Int) < (a.length : Int) := by omega
    have h2 : (i : Int) < (b.length : Int) := by omega
    simp only [h0, h1, h2, if_true, rd_nat]
    by_cases q : a.getD i 0 = b.getD i 0
    · simp only [q, if_true]
      rw [w64_succ (n := a.length) (by omega) ha]
      refine ih k (i + 1) (by omega) (by omega) (by omega) (fun j hj => ?_)
      by_cases e : j = i
      · rw [e]; exact q
      · exact h j (by omega)
    · simp only [q, if_false]
      have e : ¬ a = b := fun e => q (by rw [e])
      exact ⟨by rw [decide_eq_false e], by rw [decide_eq_false e]⟩
def sameOut (p r c : Int) (a : List Int) (p' r' c' : Int) (b : List Int) : Bool := decide (p = p') && (decide (r = r') && (decide (c = c') && decide (a = b)))
theorem impl_sameM (p r c p' r' c' : Int) {a b : List Int} (ha : a.length ≤ 35184372088832) {k : Nat} (hk : a.length + 2 ≤ k) : impl_SameMatrix.f k p r c a p' r' c' b = some (sameOut p r c a p' r' c' b) := by
  unfold impl_SameMatrix.f sameOut slices_Equal_int64_int64.f
  by_cases e1 : p = p'
  · by_cases e2 : r = r'
    · by_cases e3 : c = c'
      · by_cases e4 : a.length = b.length
        · have := (same_loop ha e4 p r c p' r' c' a.length k 0 (by omega) (by omega) (by omega) (fun j hj => by omega)).1
          have e4' : (a.length : Int) = (b.length : Int) := by omega
          rw [if_pos e1, if_pos e2, if_pos e3, if_pos e4']
          rw [show (0 : Int) = ((0 : Nat) : Int) from rfl, this]
          simp [e1, e2, e3]
        · have e4' : ¬ (a.length : Int) = (b.length : Int) := by omega
          have e5 : ¬ a = b := fun e => e4 (by rw [e])
          rw [if_pos e1, if_pos e2, if_pos e3, if_neg e4']
          simp [e5]
      · simp [e1, e2, e3]
    · simp [e1, e2]
  · simp [e1]
theorem spec_sameM (p r c p' r' c' : Int) {a b : List Int} (ha : a.length ≤ 35184372088832) {k : Nat} (hk : a.length + 2 ≤ k) : spec_SameMatrix.f k p r c a p' r' c' b = some (sameOut p r c a p' r' c' b) := by
  unfold spec_SameMatrix.f sameOut spec_l03Same.f
  obtain ⟨k, rfl⟩ : ∃ m, k = m + 1 := ⟨k - 1, by omega⟩
  by_cases e1 : p = p'
  · by_cases e2 : r = r'
    · by_cases e3 : c = c'
      · by_cases e4 : a.length = b.length
        · have := (same_loop ha e4 p r c p' r' c' a.length k 0 (by omega) (by omega) (by omega) (fun j hj => by omega)).2
          have e4' : ((a.length : Int) != (b.length : Int)) = false := by rw [e4]; simp
          rw [if_pos e1, if_pos e2, if_pos e3, e4']
          simp only [spec_l03Same.j0, Bool.false_eq_true, if_false]
          rw [show (0 : Int) = ((0 : Nat) : Int) from rfl, this]
          simp [e1, e2, e3]
        · have e4' : ((a.length : Int) != (b.length : Int)) = true := by simp; omega
          have e5 : ¬ a = b := fun e => e4 (by rw [e])
          rw [if_pos e1, if_pos e2, if_pos e3, e4']
          simp [spec_l03Same.j0, e5]
      · simp [e1, e2, e3, spec_l03Same.j0]
    · simp [e1, e2, spec_l03Same.j0]
  · simp [e1, spec_l03Same.j0]
end Go.Proofs.Ytmkcangcfammnaa.F
