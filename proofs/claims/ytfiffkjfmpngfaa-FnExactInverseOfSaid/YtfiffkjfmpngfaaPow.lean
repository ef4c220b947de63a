import Derived.Test.YtfiffkjfmpngfaaFx18
import Derived.Test.YtfiffkjfmpngfaaFx19
import Derived.Test.YtfiffkjfmpngfaaFx21
import Derived.Test.YtfiffkjfmpngfaaFx22
import Derived.Test.YtfiffkjfmpngfaaFld
import Derived.KernelRfl
set_option linter.unusedVariables false
set_option linter.unusedSimpArgs false
set_option linter.unusedSectionVars false
namespace Go.Proofs.Ytfiffkjfmpngfaa.F
open Go.RowKit Go.Proofs.YtfiffkjfmpngfaaW.PrintWords Go.Proofs.YtfiffkjfmpngfaaW.PrintLast Go.Proofs.Ytfiffkjfmpngfaa.Lin

theorem pow_emod (a : Int) (n : Nat) (p : Int) : (a % p) ^ n % p = a ^ n % p := by
  induction n with
  | zero => rw [Int.pow_zero, Int.pow_zero]
  | succ n ih => rw [Int.pow_succ, Int.pow_succ, Int.mul_emod, ih, Int.emod_emod_of_dvd a (Int.dvd_refl p), ← Int.mul_emod]
theorem small_mul {p x y : Int} (hp : 2 ≤ p) (hp' : p ≤ 251) (hx : 0 ≤ x) (hx' : x < p) (hy : 0 ≤ y) (hy' : y < p) : 0 ≤ x * y ∧ x * y ≤ 63001 := by
  have h1 := Int.mul_nonneg hx hy
  have h2 : x * y ≤ 251 * 251 := Int.mul_le_mul (by omega) (by omega) hy (by omega)
  omega
theorem tmod_small {p x y : Int} (hp : 2 ≤ p) (hp' : p ≤ 251) (hx : 0 ≤ x) (hx' : x < p) (hy : 0 ≤ y) (hy' : y < p) : Int.tmod (wrap64 (x * y)) p = x * y % p := by
  have h := small_mul hp hp' hx hx' hy hy'
  rw [w64_id (x := x * y) (by omega) (by omega), Int.tmod_eq_emod_of_nonneg h.1]
theorem half_wrap {n : Nat} (h : n ≤ 9223372036854775807) : Int.tmod (n : Int) 2 = ((n % 2 : Nat) : Int) ∧ wrap64 (Int.tdiv (n : Int) 2) = ((n / 2 : Nat) : Int) := by
  rw [Int.tmod_eq_emod_of_nonneg (Int.natCast_nonneg n), Int.tdiv_eq_ediv_of_nonneg (Int.natCast_nonneg n)]
  refine ⟨by omega, ?_⟩
  rw [w64_id (x := (n : Int) / 2) (by omega) (by omega)]; omega
theorem emod_range {p : Int} (hp : 2 ≤ p) (x : Int) : 0 ≤ x % p ∧ x % p < p := ⟨Int.emod_nonneg _ (by omega), Int.emod_lt_of_pos _ (by omega)⟩
theorem pow_loop {p : Int} (hp : 2 ≤ p) (hp' : p ≤ 251) (j : Nat) : ∀ (k : Nat) (x acc : Int) (n : Nat), j < k → n < 2 ^ j → n ≤ 9223372036854775807 → 0 ≤ x → x < p → 0 ≤ acc → acc < p →
    impl_powerOf.l0 k x n p acc = some (acc * x ^ n % p) := by
  induction j with
  | zero =>
    intro k x acc n hk hn _ _ _ h0 h1
    obtain ⟨k, rfl⟩ : ∃ m, k = m + 1 := ⟨k - 1, by omega⟩
    obtain rfl : n = 0 := by simpa using hn
    simp only [impl_powerOf.l0]
    rw [if_neg (by simp)]
    rw [Int.pow_zero, Int.mul_one, Int.emod_eq_of_lt h0 h1]
  | succ j ih =>
    intro k x acc n hk hn hn2 hx hx' h0 h1
    obtain ⟨k, rfl⟩ : ∃ m, k = m + 1 := ⟨k - 1, by omega⟩
    simp only [impl_powerOf.l0]
    by_cases hz : n = 0
    · subst hz
      rw [if_neg (by simp), Int.pow_zero, Int.mul_one, Int.emod_eq_of_lt h0 h1]
    · have hh : n / 2 < 2 ^ j := Nat.div_lt_of_lt_mul (by rw [Nat.pow_succ, Nat.mul_comm] at hn; exact hn)
      clear hn
      have e0 : (n : Int) > 0 := by omega
      obtain ⟨e1, e2⟩ := half_wrap hn2
      have e3 := tmod_small hp hp' hx hx' hx hx'
      have e4 := tmod_small hp hp' h0 h1 hx hx'
      have ep : ¬ p = 0 := by omega
      simp only [e0, if_true, e1, e2, e3, e4, ep, if_false]
      obtain ⟨m1, m2⟩ := emod_range hp (x * x)
      obtain ⟨m3, m4⟩ := emod_range hp (acc * x)
      have hn3 : n / 2 ≤ 9223372036854775807 := Nat.le_trans (Nat.div_le_self _ _) hn2
      have hk' : j < k := by omega
      have key : (x * x % p) ^ (n / 2) % p = x ^ (2 * (n / 2)) % p := by
        rw [pow_emod, Int.pow_mul, Int.pow_succ, Int.pow_succ, Int.pow_zero, Int.one_mul]
      by_cases ho : n % 2 = 1
      · rw [if_pos (by rw [ho]; rfl), ih k (x * x % p) (acc * x % p) (n / 2) hk' hh hn3 m1 m2 m3 m4]
        congr 1
        rw [Int.mul_emod, key, Int.emod_emod_of_dvd _ (Int.dvd_refl p), ← Int.mul_emod, Int.mul_assoc]
        congr 2
        rw [Int.mul_comm, ← Int.pow_succ]
        congr 1; omega
      · rw [if_neg (fun e => ho (by have := Int.ofNat_inj.mp e; exact this)), ih k (x * x % p) acc (n / 2) hk' hh hn3 m1 m2 h0 h1]
        congr 1
        rw [Int.mul_emod, key, ← Int.mul_emod]
        congr 3; omega
theorem pow_tells {p a : Int} {n : Nat} (hp : 2 ≤ p) (hp' : p ≤ 251) (h0 : 0 ≤ a) (h1 : a < p) (hn : n ≤ 9223372036854775807) {k : Nat} (hk : 64 ≤ k) : impl_powerOf.f k a n p = some (a ^ n % p) := by
  unfold impl_powerOf.f
  rw [pow_loop hp hp' 63 k a 1 n (by omega) (by omega) hn h0 h1 (by omega) (by omega), Int.one_mul]
theorem spec_pow_tells {p a : Int} {n : Nat} (hp : 2 ≤ p) (hp' : p ≤ 251) (h0 : 0 ≤ a) (h1 : a < p) (hn : n ≤ 9223372036854775807) {k : Nat} (hk : 64 ≤ k) : spec_l02Power.f k a n p = some (a ^ n % p) := by
  have same : spec_l02Power.l0 = impl_powerOf.l0 := by kernel_rfl
  unfold spec_l02Power.f
  rw [if_neg (by omega), same, Int.emod_eq_of_lt (by omega) (by omega)]
  exact pow_tells hp hp' h0 h1 hn hk
theorem inverse_tells {p a : Int} (hp : isP p = true) (h0 : 0 ≤ a) (h1 : a < p) {k : Nat} (hk : 64 ≤ k) : impl_inverseOf.f k a p = some (pinv p a) := by
  have h := isP_ge hp
  unfold impl_inverseOf.f
  rw [w64_id (x := p - 2) (by omega) (by omega), show p - 2 = (((p - 2).toNat : Nat) : Int) by omega, pow_tells h.1 h.2 h0 h1 (by omega) hk]
  rfl
theorem spec_inverse_tells {p a : Int} (hp : isP p = true) (h0 : 0 ≤ a) (h1 : a < p) {k : Nat} (hk : 64 ≤ k) : spec_l02Inverse.f k a p = some (pinv p a) := by
  have h := isP_ge hp
  unfold spec_l02Inverse.f
  rw [w64_id (x := p - 2) (by omega) (by omega), show p - 2 = (((p - 2).toNat : Nat) : Int) by omega, spec_pow_tells h.1 h.2 h0 h1 (by omega) hk]
  rfl
end Go.Proofs.Ytfiffkjfmpngfaa.F
