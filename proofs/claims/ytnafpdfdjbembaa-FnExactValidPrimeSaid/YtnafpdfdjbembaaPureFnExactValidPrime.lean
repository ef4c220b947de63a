/- Both functions find the same numbers from 2 to 251 to be primes, and no others. -/
import Derived.Test.YtnafpdfdjbembaaPFnExactValidPrimex1
import Derived.KernelRfl
set_option linter.unusedVariables false
set_option linter.unusedSimpArgs false
namespace Go.Proofs.Ytnafpdfdjbembaa.Pure
namespace ValidPrime
open Go.RowKit Go.Proofs.Ytnafpdfdjbembaa.PFnExactValidPrime Go.Proofs.YtnafpdfdjbembaaW.PrintWords Go.Proofs.YtnafpdfdjbembaaW.PrintLast


def primes251 : List Nat := [2,3,5,7,11,13,17,19,23,29,31,37,41,43,47,53,59,61,67,71,73,79,83,89,97,101,103,107,109,113,127,131,137,139,149,151,157,163,167,173,179,181,191,193,197,199,211,223,227,229,233,239,241,251]
def isP (p : Int) : Bool := decide (2 ≤ p) && decide (p ≤ 251) && decide (p.toNat ∈ primes251)
theorem ask_prime : impl_ValidPrime.f = spec_l02Prime.f := by kernel_rfl
theorem prime_small : ∀ n, n < 252 → spec_l02Prime.f 20 (n : Nat) = some (isP n) := by decide +kernel
theorem prime_at (p : Int) : spec_l02Prime.f 20 p = some (isP p) := by
  by_cases h : 2 ≤ p ∧ p ≤ 251
  · obtain ⟨n, rfl⟩ := Int.eq_ofNat_of_zero_le (show 0 ≤ p by omega)
    exact prime_small n (by omega)
  · have : isP p = false := by unfold isP; simp; omega
    rw [this]
    unfold spec_l02Prime.f spec_l00In.f
    by_cases h1 : p ≥ 2
    · have : ¬ p ≤ 251 := by omega
      simp [h1, this]
    · simp [h1]
theorem prime_tells (p : Int) {k : Nat} (hk : 20 ≤ k) : spec_l02Prime.f k p = some (isP p) := at_rounds (spec_l02Prime.mono p) hk (prime_at p)
theorem isP_ge {p : Int} (h : isP p = true) : 2 ≤ p ∧ p ≤ 251 := by unfold isP at h; simp at h; omega

theorem FnExactValidPrime : laws_FnExactValidPrime.Pure := by
  intro p _
  refine ⟨20, ?_⟩
  unfold laws_FnExactValidPrime.f spec_ValidPrime.f
  rw [ask_prime, prime_at]
  simp

end ValidPrime
theorem FnExactValidPrime : PFnExactValidPrime.laws_FnExactValidPrime.Pure := ValidPrime.FnExactValidPrime
end Go.Proofs.Ytnafpdfdjbembaa.Pure
