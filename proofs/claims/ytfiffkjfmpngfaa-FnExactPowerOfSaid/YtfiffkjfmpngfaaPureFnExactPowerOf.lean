/- Both functions refuse the same numbers; the inverse of a power is the power of the inverse. -/
import Derived.Test.YtfiffkjfmpngfaaFx25
import Derived.Test.YtfiffkjfmpngfaaFx26
import Derived.Test.YtfiffkjfmpngfaaFx27
import Derived.Test.YtfiffkjfmpngfaaFx28
import Derived.Test.YtfiffkjfmpngfaaPow
import Derived.KernelRfl
set_option linter.unusedVariables false
set_option linter.unusedSimpArgs false
set_option linter.unusedSectionVars false
namespace Go.Proofs.Ytfiffkjfmpngfaa.F
open Go.RowKit Go.Proofs.YtfiffkjfmpngfaaW.PrintWords Go.Proofs.YtfiffkjfmpngfaaW.PrintLast Go.Proofs.Ytfiffkjfmpngfaa.Lin

theorem pinv_pow {p a : Int} (n : Nat) : pinv p (a ^ n % p) = pinv p a ^ n % p := by
  unfold pinv
  rw [pow_emod, pow_emod, ← Int.pow_mul, ← Int.pow_mul, Nat.mul_comm]
theorem FnExactPowerOf_pure : laws_FnExactPowerOf.Pure := by
  intro a n p _ _ _
  refine ⟨104, ?_⟩
  unfold laws_FnExactPowerOf.f spec_PowerOf.f impl_PowerOf.f impl_isValue.f
  rw [ask_tells a p (by omega), elements_tells p [a] (by omega), same_in, in_tells]
  by_cases h : codeOf p [a] = 0
  · obtain ⟨hp, hr⟩ := codeOf_zero.mp h
    have hr := hr a (by simp)
    have hp2 := isP_ge hp
    by_cases hn : -1000000000000 ≤ n ∧ n ≤ 1000000000000
    · by_cases h0 : n < 0
      · have h0' : ¬ n ≥ 0 := by omega
        by_cases ha : a = 0
        · subst ha
          simp [h, hn, h0, h0', spec_PowerOf.j0, spec_PowerOf.j1, spec_PowerOf.j2, spec_PowerOf.j3]
        · have e0 : wrap64 (-n) = ((n.natAbs : Nat) : Int) := by rw [w64_id (by omega) (by omega)]; omega
          have pr := pinv_range (a := a) hp
          have m1 := Int.emod_nonneg (a ^ n.natAbs) (by omega : p ≠ 0)
          have m2 := Int.emod_lt_of_pos (a ^ n.natAbs) (by omega : 0 < p)
          have e1 := spec_inverse_tells hp hr.1 hr.2 (k := 100) (by omega)
          have e2 := spec_pow_tells (n := n.natAbs) hp2.1 hp2.2 pr.1 pr.2 (by omega) (k := 100) (by omega)
          have e3 := pow_tells (n := n.natAbs) hp2.1 hp2.2 hr.1 hr.2 (by omega) (k := 104) (by omega)
          have e4 := inverse_tells hp m1 m2 (k := 104) (by omega)
          simp [h, hn, h0, h0', ha, spec_PowerOf.j0, spec_PowerOf.j1, spec_PowerOf.j2, spec_PowerOf.j3, e0, e1, e2, e3, e4, pinv_pow]
      · have h0' : n ≥ 0 := by omega
        obtain ⟨m, rfl⟩ := Int.eq_ofNat_of_zero_le h0'
        have e2 := spec_pow_tells (n := m) hp2.1 hp2.2 hr.1 hr.2 (by omega) (k := 100) (by omega)
        have e3 := pow_tells (n := m) hp2.1 hp2.2 hr.1 hr.2 (by omega) (k := 104) (by omega)
        by_cases ha : a = 0
        · subst ha
          simp [h, hn, h0, spec_PowerOf.j0, spec_PowerOf.j1, spec_PowerOf.j2, spec_PowerOf.j3, e2, e3]
        · simp [h, hn, h0, ha, spec_PowerOf.j0, spec_PowerOf.j1, spec_PowerOf.j2, spec_PowerOf.j3, e2, e3]
    · simp [h, hn, spec_PowerOf.j0, spec_PowerOf.j1, spec_PowerOf.j2, spec_PowerOf.j3]
  · simp [h, spec_PowerOf.j0, spec_PowerOf.j1, spec_PowerOf.j2, spec_PowerOf.j3]
end Go.Proofs.Ytfiffkjfmpngfaa.F
namespace Go.Proofs.Ytfiffkjfmpngfaa.Pure
theorem FnExactPowerOf : F.laws_FnExactPowerOf.Pure := F.FnExactPowerOf_pure
end Go.Proofs.Ytfiffkjfmpngfaa.Pure
