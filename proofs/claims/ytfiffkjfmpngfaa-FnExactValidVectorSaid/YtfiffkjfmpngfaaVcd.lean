import Derived.Test.YtfiffkjfmpngfaaFx29
import Derived.Test.YtfiffkjfmpngfaaFx32
import Derived.Test.YtfiffkjfmpngfaaFx44
import Derived.Test.YtfiffkjfmpngfaaFx47
import Derived.Test.YtfiffkjfmpngfaaVec
import Derived.Test.YtfiffkjfmpngfaaFld
import Derived.KernelRfl
set_option linter.unusedVariables false
set_option linter.unusedSimpArgs false
set_option linter.unusedSectionVars false
namespace Go.Proofs.Ytfiffkjfmpngfaa.F
open Go.RowKit Go.Proofs.YtfiffkjfmpngfaaW.PrintWords Go.Proofs.YtfiffkjfmpngfaaW.PrintLast Go.Proofs.Ytfiffkjfmpngfaa.Lin

/-- A vector modulo a prime. -/
def vecOk (l : List Int) (p : Int) : Bool := isP p && (decide (l.length ≤ 64) && allIn l p)
theorem allIn_drop {l : List Int} {p : Int} {i : Nat} (h : i < l.length) : allIn (l.drop i) p = (decide (0 ≤ l.getD i 0 ∧ l.getD i 0 ≤ p - 1) && allIn (l.drop (i + 1)) p) := by
  rw [List.drop_eq_getElem_cons h]
  unfold allIn
  simp only [List.all_cons]
  congr 1
  rw [getD_at h, ← Bool.decide_and, decide_eq_decide]; omega
theorem numbers_loop {l : List Int} {p : Int} (hp : 2 ≤ p) (hp' : p ≤ 251) (hl : l.length ≤ 35184372088832) (d : Nat) : ∀ (k i : Nat), l.length - i = d → i ≤ l.length → d < k →
    spec_l02Numbers.l0 k l p i = some (allIn (l.drop i) p && decide (l.length ≤ 64)) := by
  have e0 : wrap64 (p - 1) = p - 1 := w64_id (by omega) (by omega)
  induction d with
  | zero =>
    intro k i hd hi hk
    obtain ⟨k, rfl⟩ : ∃ m, k = m + 1 := ⟨k - 1, by omega⟩
    simp only [spec_l02Numbers.l0]
    rw [if_neg (by omega), List.drop_eq_nil_of_le (by omega)]
    simp only [allIn, List.all_nil, Bool.true_and]
    congr 1; rw [decide_eq_decide]; omega
  | succ d ih =>
    intro k i hd hi hk
    obtain ⟨k, rfl⟩ : ∃ m, k = m + 1 := ⟨k - 1, by omega⟩
    simp only [spec_l02Numbers.l0]
    rw [if_pos (by omega), if_pos (by omega), rd_nat, e0, in_tells, w64_succ (n := l.length) (by omega) hl, ih k (i + 1) (by omega) (by omega) (by omega), allIn_drop (show i < l.length by omega)]
    simp only [Option.bind_some]
    by_cases h : 0 ≤ l.getD i 0 ∧ l.getD i 0 ≤ p - 1
    · rw [decide_eq_true h]; simp
    · rw [decide_eq_false h]; simp
theorem numbers_tells {l : List Int} {p : Int} (hp : 2 ≤ p) (hp' : p ≤ 251) (hl : l.length ≤ 35184372088832) {k : Nat} (hk : l.length < k) : spec_l02Numbers.f k l p = some (decide (l.length ≤ 64) && allIn l p) := by
  unfold spec_l02Numbers.f
  have := numbers_loop hp hp' hl l.length k 0 (by omega) (by omega) hk
  rw [show ((0 : Int)) = ((0 : Nat) : Int) by rfl, this, List.drop_zero, Bool.and_comm]
theorem validVector_tells {l : List Int} (p : Int) {k : Nat} (hk : 20 ≤ k) : impl_ValidVector.f k l p = some (vecOk l p) := by
  unfold impl_ValidVector.f vecOk
  rw [ask_prime, prime_tells p hk]
  by_cases h : isP p = true
  · simp only [h, Option.bind_some, if_true, areElements_tells h, Bool.true_and]
    by_cases h2 : l.length ≤ 64
    · have : (l.length : Int) ≤ 64 := by omega
      simp [h2, this]
    · have : ¬ (l.length : Int) ≤ 64 := by omega
      simp [h2, this]
  · simp [h]
/-- The first error of two vectors. -/
def codeTwo (a b : List Int) (p : Int) : Int := if (vecOk a p && vecOk b p) = true then (if a.length = b.length then 0 else 6) else 1
theorem vectors_tells (a b : List Int) (p : Int) {k : Nat} (hk : 21 ≤ k) : impl_vectors.f k a b p = some (codeTwo a b p) := by
  obtain ⟨k, rfl⟩ : ∃ m, k = m + 1 := ⟨k - 1, by omega⟩
  unfold impl_vectors.f codeTwo
  rw [validVector_tells p (by omega), validVector_tells p (by omega)]
  have e : ((a.length : Int) = (b.length : Int)) = (a.length = b.length) := propext (by omega)
  cases h1 : vecOk a p <;> cases h2 : vecOk b p <;> simp only [impl_vectors.j0, Option.bind_some, if_true, if_false, Bool.not_true, Bool.not_false, Bool.and_true, Bool.and_false, Bool.false_eq_true, reduceCtorEq, e] <;> (try split) <;> rfl
theorem two_tells {a b : List Int} (p : Int) (ha : a.length ≤ 35184372088832) (hb : b.length ≤ 35184372088832) {k : Nat} (hk : 21 + a.length + b.length ≤ k) : spec_l02Two.f k a b p = some (codeTwo a b p) := by
  obtain ⟨k, rfl⟩ : ∃ m, k = m + 1 := ⟨k - 1, by omega⟩
  unfold spec_l02Two.f codeTwo vecOk
  rw [prime_tells p (by omega)]
  by_cases h : isP p = true
  · have hp := isP_ge h
    simp only [h, Option.bind_some, if_true, Bool.true_and]
    rw [numbers_tells hp.1 hp.2 ha (by omega), numbers_tells hp.1 hp.2 hb (by omega)]
    have e : ((a.length : Int) = (b.length : Int)) = (a.length = b.length) := propext (by omega)
    cases h1 : (decide (a.length ≤ 64) && allIn a p) <;> cases h2 : (decide (b.length ≤ 64) && allIn b p) <;> simp only [spec_l02Two.j0, Option.bind_some, if_true, if_false, Bool.not_true, Bool.not_false, Bool.and_true, Bool.and_false, Bool.false_eq_true, reduceCtorEq, e] <;> (try split) <;> rfl
  · simp [h, spec_l02Two.j0]
theorem codeTwo_zero {a b : List Int} {p : Int} : codeTwo a b p = 0 ↔ isP p = true ∧ a.length ≤ 64 ∧ (∀ x, x ∈ a → 0 ≤ x ∧ x < p) ∧ (∀ x, x ∈ b → 0 ≤ x ∧ x < p) ∧ a.length = b.length := by
  unfold codeTwo vecOk
  rw [← allIn_iff, ← allIn_iff]
  cases isP p <;> cases allIn a p <;> cases allIn b p <;> simp
  by_cases h : a.length = b.length
  · rw [h]; by_cases h2 : b.length ≤ 64 <;> simp [h2]
  · simp [h]; split <;> omega
theorem getD_in {l : List Int} {p : Int} (hp : 2 ≤ p) (h : ∀ x, x ∈ l → 0 ≤ x ∧ x < p) (j : Nat) : 0 ≤ l.getD j 0 ∧ l.getD j 0 < p := by
  by_cases hj : j < l.length
  · rw [getD_at hj]; exact h _ (List.getElem_mem hj)
  · rw [List.getD_eq_getElem?_getD, List.getElem?_eq_none (by omega)]; simp; omega
theorem small_mul' {p x y : Int} (hp : 2 ≤ p) (hp' : p ≤ 251) (hx : 0 ≤ x) (hx' : x < p) (hy : 0 ≤ y) (hy' : y < p) : 0 ≤ x * y ∧ x * y ≤ 63001 := by
  have h1 := Int.mul_nonneg hx hy
  have h2 : x * y ≤ 251 * 251 := Int.mul_le_mul (by omega) (by omega) hy (by omega)
  omega
theorem emod_range' {p : Int} (hp : 2 ≤ p) (x : Int) : 0 ≤ x % p ∧ x % p < p := ⟨Int.emod_nonneg _ (by omega), Int.emod_lt_of_pos _ (by omega)⟩
end Go.Proofs.Ytfiffkjfmpngfaa.F
