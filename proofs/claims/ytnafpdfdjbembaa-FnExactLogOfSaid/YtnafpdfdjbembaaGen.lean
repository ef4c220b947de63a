import Derived.Test.YtnafpdfdjbembaaFx12
import Derived.Test.YtnafpdfdjbembaaFld
import Derived.KernelRfl
set_option linter.unusedVariables false
set_option linter.unusedSimpArgs false
set_option linter.unusedSectionVars false
namespace Go.Proofs.Ytnafpdfdjbembaa.F
open Go.RowKit Go.Proofs.YtnafpdfdjbembaaW.PrintWords Go.Proofs.YtnafpdfdjbembaaW.PrintLast Go.Proofs.Ytnafpdfdjbembaa.Lin

theorem pow_emod (a : Int) (n : Nat) (p : Int) : (a % p) ^ n % p = a ^ n % p := by
  induction n with
  | zero => rw [Int.pow_zero, Int.pow_zero]
  | succ n ih => rw [Int.pow_succ, Int.pow_succ, Int.mul_emod, ih, Int.emod_emod_of_dvd a (Int.dvd_refl p), ← Int.mul_emod]
theorem small_mul {p x y : Int} (hp : 2 ≤ p) (hp' : p ≤ 251) (hx : 0 ≤ x) (hx' : x < p) (hy : 0 ≤ y) (hy' : y < p) : 0 ≤ x * y ∧ x * y ≤ 63001 := by
  have h1 := Int.mul_nonneg hx hy
  have h2 : x * y ≤ 251 * 251 := Int.mul_le_mul (by omega) (by omega) hy (by omega)
  omega
theorem tmod_small {p x y : Int} (hp : 2 ≤ p) (hp' : p ≤ 251) (hx : 0 ≤ x) (hx' : x < p) (hy : 0 ≤ y) (hy' : y < p) : Int.tmod (wrap64 (x * y)) p = x * y % p := by
  have h := small_mul hp hp' hx hx' hy hy'
  rw [w64_id (x := x * y) (by omega) (by omega), Int.tmod_eq_emod_of_nonneg h.1]
theorem emod_range {p : Int} (hp : 2 ≤ p) (x : Int) : 0 ≤ x % p ∧ x % p < p := ⟨Int.emod_nonneg _ (by omega), Int.emod_lt_of_pos _ (by omega)⟩
end Go.Proofs.Ytnafpdfdjbembaa.F
