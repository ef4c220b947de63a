import Derived.Test.YtfiffkjfmpngfaaFx4
import Derived.Test.YtfiffkjfmpngfaaFx12
import Derived.Test.YtfiffkjfmpngfaaNum
import Derived.KernelRfl
set_option linter.unusedVariables false
set_option linter.unusedSimpArgs false
set_option linter.unusedSectionVars false
namespace Go.Proofs.Ytfiffkjfmpngfaa.F
open Go.RowKit Go.Proofs.YtfiffkjfmpngfaaW.PrintWords Go.Proofs.YtfiffkjfmpngfaaW.PrintLast Go.Proofs.Ytfiffkjfmpngfaa.Lin

/-- Both searches find the same: the least root, or -1. -/
theorem sqr_loop (a : Int) {p : Int} (hp : 2 ≤ p) (hp' : p ≤ 251) (d : Nat) : ∀ (k : Nat) (i : Int), 0 ≤ i → i ≤ p → p - i = d → d < k → (∀ j : Int, 0 ≤ j → j < i → j * j % p ≠ a) →
    ∃ x, spec_l02SquareRoot.l0 k a p i = some x ∧ impl_squareRoot.l0 k a p p i = some x ∧ ((0 ≤ x ∧ x < p ∧ x * x % p = a) ∨ (x = -1 ∧ ∀ j : Int, 0 ≤ j → j < p → j * j % p ≠ a)) := by
  induction d with
  | zero =>
    intro k i h0 h1 hd hk hb
    obtain ⟨k, rfl⟩ : ∃ m, k = m + 1 := ⟨k - 1, by omega⟩
    obtain rfl : i = p := by omega
    exact ⟨-1, by simp only [spec_l02SquareRoot.l0]; rw [if_neg (by omega)], by simp only [impl_squareRoot.l0]; rw [if_neg (by omega)], .inr ⟨rfl, hb⟩⟩
  | succ d ih =>
    intro k i h0 h1 hd hk hb
    obtain ⟨k, rfl⟩ : ∃ m, k = m + 1 := ⟨k - 1, by omega⟩
    have hii : 0 ≤ i * i ∧ i * i ≤ 63001 := by
      have h2 := Int.mul_nonneg h0 h0
      have h3 : i * i ≤ 251 * 251 := Int.mul_le_mul (by omega) (by omega) h0 (by omega)
      omega
    have e : Int.tmod (wrap64 (i * i)) p = i * i % p := by rw [w64_id (by omega) (by omega), Int.tmod_eq_emod_of_nonneg (by omega)]
    have e2 : wrap64 (i + 1) = i + 1 := w64_id (by omega) (by omega)
    simp only [spec_l02SquareRoot.l0, impl_squareRoot.l0]
    rw [if_pos (show i < p by omega), if_neg (show ¬ p = 0 by omega), e, e2]
    rw [if_pos (show i < p by omega), if_neg (show ¬ p = 0 by omega)]
    by_cases hc : i * i % p = a
    · exact ⟨i, by simp only [hc, if_true], by simp only [hc, if_true], .inl ⟨h0, by omega, hc⟩⟩
    · simp only [hc, if_false]
      exact ih k (i + 1) (by omega) (by omega) (by omega) (by omega) (fun j j0 j1 => by
        by_cases ej : j = i
        · subst ej; exact hc
        · exact hb j j0 (by omega))
theorem sqr_tells (a : Int) {p : Int} (hp : 2 ≤ p) (hp' : p ≤ 251) {k : Nat} (hk : 252 ≤ k) :
    ∃ x, spec_l02SquareRoot.f k a p = some x ∧ impl_squareRoot.f k a p = some x ∧ ((0 ≤ x ∧ x < p ∧ x * x % p = a) ∨ (x = -1 ∧ ∀ j : Int, 0 ≤ j → j < p → j * j % p ≠ a)) := by
  unfold spec_l02SquareRoot.f impl_squareRoot.f
  exact sqr_loop a hp hp' p.toNat k 0 (by omega) (by omega) (by omega) (by omega) (fun j h1 h2 => by omega)
end Go.Proofs.Ytfiffkjfmpngfaa.F
