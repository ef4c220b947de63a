/- Both functions return the greatest number whose square is at most n, and 0 for what is not positive. -/
import Derived.Test.YtnafpdfdjbembaaPFnExactRootOfx1
import Derived.KernelRfl
set_option linter.unusedVariables false
set_option linter.unusedSimpArgs false
namespace Go.Proofs.Ytnafpdfdjbembaa.Pure
namespace RootOf
open Go.RowKit Go.Proofs.Ytnafpdfdjbembaa.PFnExactRootOf Go.Proofs.YtnafpdfdjbembaaW.PrintWords Go.Proofs.YtnafpdfdjbembaaW.PrintLast

theorem w64_id {x : Int} (h0 : -9223372036854775808 ≤ x) (h1 : x ≤ 9223372036854775807) : wrap64 x = x := by unfold wrap64; omega


theorem sq_le {a b : Int} (h0 : 0 ≤ a) (h : a ≤ b) : a * a ≤ b * b := Int.mul_le_mul h h h0 (by omega)
theorem sq_lt {a b : Int} (h0 : 0 ≤ a) (h : a < b) : a * a < b * b := by
  have h1 : a * a ≤ a * b := Int.mul_le_mul_of_nonneg_left (by omega) h0
  have h2 : a * b < b * b := Int.mul_lt_mul_of_pos_right h (by omega)
  omega
theorem root_unique {n a b : Int} (ha : 0 ≤ a) (hb : 0 ≤ b) (a1 : a * a ≤ n) (a2 : n < (a + 1) * (a + 1)) (b1 : b * b ≤ n) (b2 : n < (b + 1) * (b + 1)) : a = b := by
  rcases Int.lt_trichotomy a b with h | h | h
  · have := sq_le (a := a + 1) (b := b) (by omega) (by omega); omega
  · exact h
  · have := sq_le (a := b + 1) (b := a) (by omega) (by omega); omega

theorem spec_root_tells (n : Int) (d : Nat) : ∀ (k : Nat) (lo hi : Int), 0 ≤ lo → lo ≤ hi → hi ≤ 3037000499 → hi - lo ≤ d → d < k → (lo = 0 ∨ lo * lo ≤ n) → n < (hi + 1) * (hi + 1) →
    ∃ r, spec_l01Root.l0 k n lo hi = some r ∧ 0 ≤ r ∧ r ≤ 3037000499 ∧ (r = 0 ∨ r * r ≤ n) ∧ n < (r + 1) * (r + 1) := by
  induction d with
  | zero =>
    intro k lo hi h0 h1 h2 hd hk ha hb
    obtain ⟨k, rfl⟩ : ∃ m, k = m + 1 := ⟨k - 1, by omega⟩
    obtain rfl : lo = hi := by omega
    exact ⟨lo, by simp only [spec_l01Root.l0]; rw [if_neg (by omega)], h0, h2, ha, hb⟩
  | succ d ih =>
    intro k lo hi h0 h1 h2 hd hk ha hb
    obtain ⟨k, rfl⟩ : ∃ m, k = m + 1 := ⟨k - 1, by omega⟩
    by_cases hlt : lo < hi
    · have e1 : wrap64 (lo + hi) = lo + hi := w64_id (by omega) (by omega)
      have e2 : wrap64 (lo + hi + 1) = lo + hi + 1 := w64_id (by omega) (by omega)
      have e3 : Int.tdiv (lo + hi + 1) 2 = (lo + hi + 1) / 2 := Int.tdiv_eq_ediv_of_nonneg (by omega)
      have e4 : wrap64 ((lo + hi + 1) / 2) = (lo + hi + 1) / 2 := w64_id (by omega) (by omega)
      simp only [spec_l01Root.l0]
      rw [if_pos hlt, e1, e2, e3, e4]
      generalize hm : (lo + hi + 1) / 2 = m
      have hm1 : lo < m := by omega
      have hm2 : m ≤ hi := by omega
      have hmm := sq_le (a := m) (b := 3037000499) (by omega) (by omega)
      have hm0 := sq_le (a := 0) (b := m) (by omega) (by omega)
      rw [w64_id (x := m * m) (by omega) (by omega)]
      by_cases hc : m * m ≤ n
      · rw [if_pos hc]
        exact ih k m hi (by omega) (by omega) (by omega) (by omega) (by omega) (.inr hc) hb
      · rw [if_neg hc, w64_id (x := m - 1) (by omega) (by omega)]
        exact ih k lo (m - 1) (by omega) (by omega) (by omega) (by omega) (by omega) ha (by rw [show m - 1 + 1 = m by omega]; omega)
    · exact ⟨lo, by simp only [spec_l01Root.l0]; rw [if_neg hlt], h0, by omega, ha, by obtain rfl : lo = hi := by omega
                                                                                       exact hb⟩

theorem le_div_iff_sq {n m : Int} (hm : 0 < m) (hn : 0 < n) : (m ≤ Int.tdiv n m) ↔ m * m ≤ n := by
  rw [Int.tdiv_eq_ediv_of_nonneg (by omega)]
  exact Int.le_ediv_iff_mul_le hm

theorem impl_root_tells (n : Int) (hn : 0 < n) (hn2 : n ≤ 9223372036854775807) (j : Nat) : ∀ (k : Nat) (root : Int), j ≤ 32 → j < k → 0 ≤ root → root * root ≤ n → root ≤ 4294967296 - 2 ^ j → n < (root + 2 ^ j) * (root + 2 ^ j) →
    ∃ r, impl_RootOf.l0 k n root ((2 ^ j) / 2) = some r ∧ 0 ≤ r ∧ r * r ≤ n ∧ n < (r + 1) * (r + 1) := by
  induction j with
  | zero =>
    intro k root hj hk h0 h1 h2 h3
    obtain ⟨k, rfl⟩ : ∃ m, k = m + 1 := ⟨k - 1, by omega⟩
    exact ⟨root, by simp [impl_RootOf.l0], h0, h1, by simpa using h3⟩
  | succ j ih =>
    intro k root hj hk h0 h1 h2 h3
    obtain ⟨k, rfl⟩ : ∃ m, k = m + 1 := ⟨k - 1, by omega⟩
    have hp : (2 : Int) ^ (j + 1) = 2 * 2 ^ j := by rw [Int.pow_succ]; omega
    have hq : (2 : Int) ^ (j + 1) / 2 = 2 ^ j := by omega
    rw [hq]
    have hpos : (0 : Int) < 2 ^ j := Int.pow_pos (by decide)
    rw [hp] at h2 h3
    generalize hb : (2 : Int) ^ j = b at *
    simp only [impl_RootOf.l0]
    have e1 : wrap64 (root + b) = root + b := w64_id (by omega) (by omega)
    rw [if_pos hpos, e1, if_neg (by omega)]
    have e0 : 0 ≤ Int.tdiv n (root + b) := Int.tdiv_nonneg (by omega) (by omega)
    have e3 : Int.tdiv n (root + b) ≤ n := by rw [Int.tdiv_eq_ediv_of_nonneg (by omega)]; exact Int.ediv_le_self _ (by omega)
    rw [w64_id (x := Int.tdiv n (root + b)) (by omega) (by omega)]
    by_cases hc : root + b ≤ Int.tdiv n (root + b)
    · rw [if_pos hc]
      have hs := (le_div_iff_sq (m := root + b) (by omega) hn).mp hc
      exact ih k (root + b) (by omega) (by omega) (by omega) hs (by omega) (by rw [show root + b + b = root + 2 * b by omega]; exact h3)
    · rw [if_neg hc]
      have hs : ¬ (root + b) * (root + b) ≤ n := fun h => hc ((le_div_iff_sq (by omega) hn).mpr h)
      exact ih k root (by omega) (by omega) h0 h1 (by omega) (by omega)

theorem FnExactRootOf : laws_FnExactRootOf.Pure := by
  intro n hn
  have hn2 : n ≤ 9223372036854775807 := by simp [Lit.wf, IntKind.min, IntKind.max, IntKind.bits, IntKind.signed] at hn; omega
  obtain ⟨r, hr, h0, _, h1, h2⟩ := spec_root_tells n 3037000499 3037000500 0 3037000499 (by omega) (by omega) (by omega) (by omega) (by omega) (.inl rfl) (by omega)
  by_cases hp : n ≤ 0
  · have e0 : r = 0 := by
      rcases h1 with h1 | h1
      · exact h1
      · have h3 : 0 ≤ r * r := Int.mul_nonneg h0 h0
        by_cases hz : r = 0
        · exact hz
        · have := Int.mul_pos (show 0 < r by omega) (show 0 < r by omega); omega
    subst e0
    refine ⟨3037000500, ?_⟩
    unfold laws_FnExactRootOf.f spec_RootOf.f spec_l01Root.f impl_RootOf.f
    rw [hr, if_pos hp]; simp
  · obtain ⟨q, hq, q0, q1, q2⟩ := impl_root_tells n (by omega) hn2 32 3037000500 0 (by omega) (by omega) (by omega) (by omega) (by omega) (by omega)
    have e : q = r := by
      have hr1 : r * r ≤ n := by rcases h1 with h1 | h1; (· subst h1; omega); (· exact h1)
      exact root_unique q0 h0 q1 q2 hr1 h2
    subst e
    refine ⟨3037000500, ?_⟩
    unfold laws_FnExactRootOf.f spec_RootOf.f spec_l01Root.f impl_RootOf.f
    have hq' : impl_RootOf.l0 3037000500 n 0 2147483648 = some q := hq
    rw [hr, if_neg hp]; simp [hq']

end RootOf
theorem FnExactRootOf : PFnExactRootOf.laws_FnExactRootOf.Pure := RootOf.FnExactRootOf
end Go.Proofs.Ytnafpdfdjbembaa.Pure
