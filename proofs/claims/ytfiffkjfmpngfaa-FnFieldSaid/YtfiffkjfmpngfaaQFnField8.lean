-- Texts of this claim, merged by pack.py (a program of this session's).
import Derived.Test.YtfiffkjfmpngfaaQFnField5
import Derived.Test.YtfiffkjfmpngfaaQFnField0
import Derived.Test.YtfiffkjfmpngfaaQFnField7
import Derived.KernelRfl
import Derived.Test.YtfiffkjfmpngfaaQFnField1
import Derived.Test.YtfiffkjfmpngfaaQFnField4
import Derived.Test.YtfiffkjfmpngfaaQFnField6

section
set_option linter.unusedVariables false
set_option linter.unusedSimpArgs false
set_option linter.unusedSectionVars false
namespace Go.Proofs.Ytfiffkjfmpngfaa.F
open Go.RowKit Go.Proofs.YtfiffkjfmpngfaaW.PrintWords Go.Proofs.YtfiffkjfmpngfaaW.PrintLast Go.Proofs.Ytfiffkjfmpngfaa.Lin

theorem w64_id {x : Int} (h0 : -9223372036854775808 ≤ x) (h1 : x ≤ 9223372036854775807) : wrap64 x = x := by unfold wrap64; omega
theorem same_in : impl_within.f = spec_l00In.f := rfl
theorem in_tells (n lo hi : Int) : spec_l00In.f n lo hi = some (decide (lo ≤ n ∧ n ≤ hi)) := by
  unfold spec_l00In.f
  by_cases h : n ≥ lo
  · have : lo ≤ n := h
    simp [this]
  · have : ¬ lo ≤ n := h
    simp [this]
theorem ask_prime : impl_ValidPrime.f = spec_l02Prime.f := by kernel_rfl
theorem prime_small : ∀ n, n < 252 → spec_l02Prime.f 20 (n : Nat) = some (isP n) := by decide +kernel
theorem prime_at (p : Int) : spec_l02Prime.f 20 p = some (isP p) := by
  by_cases h : 2 ≤ p ∧ p ≤ 251
  · obtain ⟨n, rfl⟩ := Int.eq_ofNat_of_zero_le (show 0 ≤ p by omega)
    exact prime_small n (by omega)
  · have : isP p = false := by unfold isP; simp; omega
    rw [this]
    unfold spec_l02Prime.f spec_l00In.f
    by_cases h1 : p ≥ 2
    · have : ¬ p ≤ 251 := by omega
      simp [h1, this]
    · simp [h1]
theorem prime_tells (p : Int) {k : Nat} (hk : 20 ≤ k) : spec_l02Prime.f k p = some (isP p) := at_rounds (spec_l02Prime.mono p) hk (prime_at p)
end Go.Proofs.Ytfiffkjfmpngfaa.F
end

section
set_option linter.unusedVariables false
set_option linter.unusedSimpArgs false
set_option linter.unusedSectionVars false
namespace Go.Proofs.Ytfiffkjfmpngfaa.F
open Go.RowKit Go.Proofs.YtfiffkjfmpngfaaW.PrintWords Go.Proofs.YtfiffkjfmpngfaaW.PrintLast Go.Proofs.Ytfiffkjfmpngfaa.Lin

/-- All numbers of a list are numbers modulo p. -/
def allIn (l : List Int) (p : Int) : Bool := l.all fun x => decide (0 ≤ x) && decide (x < p)
theorem allIn_iff {l : List Int} {p : Int} : allIn l p = true ↔ ∀ x, x ∈ l → 0 ≤ x ∧ x < p := by unfold allIn; simp
/-- The first error of a prime and numbers modulo it. -/
def codeOf (p : Int) (l : List Int) : Int := if isP p = true then (if allIn l p = true then 0 else 2) else 1
theorem areElements_tells {l : List Int} {p : Int} (hp : isP p = true) : impl_areElements.f l p = some (allIn l p) := by
  have := isP_ge hp
  unfold impl_areElements.f allIn
  rw [w64_id (x := p - 1) (by omega) (by omega)]
  congr 1
  induction l with
  | nil => rfl
  | cons x l ih =>
    simp only [List.any_cons, List.all_cons, Bool.not_or, Bool.not_not]
    rw [ih]
    congr 2
    rw [decide_eq_decide]; omega
theorem elements_tells (p : Int) (l : List Int) {k : Nat} (hk : 20 ≤ k) : impl_elements.f k p l = some (codeOf p l) := by
  unfold impl_elements.f codeOf
  rw [ask_prime, prime_tells p hk]
  by_cases h : isP p = true
  · rw [h]
    simp only [Option.bind_some, if_true, areElements_tells h]
    by_cases h2 : allIn l p = true
    · simp [h2]
    · simp [h2]
  · simp [h]
theorem ask_tells (a p : Int) {k : Nat} (hk : 20 ≤ k) : spec_l02Ask.f k a p = some (codeOf p [a]) := by
  unfold spec_l02Ask.f codeOf
  rw [prime_tells p hk]
  by_cases h : isP p = true
  · have := isP_ge h
    rw [h]
    simp only [Option.bind_some, if_true, in_tells]
    rw [w64_id (x := p - 1) (by omega) (by omega)]
    have e : decide (0 ≤ a ∧ a ≤ p - 1) = allIn [a] p := by
      unfold allIn
      simp only [List.all_cons, List.all_nil, Bool.and_true]
      rw [← Bool.decide_and, decide_eq_decide]; omega
    rw [e]
    by_cases h2 : allIn [a] p = true
    · simp [h2]
    · simp [h2]
  · simp [h]
theorem codeOf_zero {p : Int} {l : List Int} : codeOf p l = 0 ↔ isP p = true ∧ ∀ x, x ∈ l → 0 ≤ x ∧ x < p := by
  unfold codeOf
  by_cases h : isP p = true
  · by_cases h2 : allIn l p = true
    · rw [if_pos h, if_pos h2]; exact ⟨fun _ => ⟨h, allIn_iff.mp h2⟩, fun _ => rfl⟩
    · rw [if_pos h, if_neg h2]; exact ⟨fun e => absurd e (by decide), fun e => absurd (allIn_iff.mpr e.2) h2⟩
  · simp [h]
end Go.Proofs.Ytfiffkjfmpngfaa.F
end

section
set_option linter.unusedVariables false
set_option linter.unusedSimpArgs false
set_option linter.unusedSectionVars false
namespace Go.Proofs.Ytfiffkjfmpngfaa.F
open Go.RowKit Go.Proofs.YtfiffkjfmpngfaaW.PrintWords Go.Proofs.YtfiffkjfmpngfaaW.PrintLast Go.Proofs.Ytfiffkjfmpngfaa.Lin

theorem pow_emod (a : Int) (n : Nat) (p : Int) : (a % p) ^ n % p = a ^ n % p := by
  induction n with
  | zero => rw [Int.pow_zero, Int.pow_zero]
  | succ n ih => rw [Int.pow_succ, Int.pow_succ, Int.mul_emod, ih, Int.emod_emod_of_dvd a (Int.dvd_refl p), ← Int.mul_emod]
theorem small_mul {p x y : Int} (hp : 2 ≤ p) (hp' : p ≤ 251) (hx : 0 ≤ x) (hx' : x < p) (hy : 0 ≤ y) (hy' : y < p) : 0 ≤ x * y ∧ x * y ≤ 63001 := by
  have h1 := Int.mul_nonneg hx hy
  have h2 : x * y ≤ 251 * 251 := Int.mul_le_mul (by omega) (by omega) hy (by omega)
  omega
theorem tmod_small {p x y : Int} (hp : 2 ≤ p) (hp' : p ≤ 251) (hx : 0 ≤ x) (hx' : x < p) (hy : 0 ≤ y) (hy' : y < p) : Int.tmod (wrap64 (x * y)) p = x * y % p := by
  have h := small_mul hp hp' hx hx' hy hy'
  rw [w64_id (x := x * y) (by omega) (by omega), Int.tmod_eq_emod_of_nonneg h.1]
theorem half_wrap {n : Nat} (h : n ≤ 9223372036854775807) : Int.tmod (n : Int) 2 = ((n % 2 : Nat) : Int) ∧ wrap64 (Int.tdiv (n : Int) 2) = ((n / 2 : Nat) : Int) := by
  rw [Int.tmod_eq_emod_of_nonneg (Int.natCast_nonneg n), Int.tdiv_eq_ediv_of_nonneg (Int.natCast_nonneg n)]
  refine ⟨by omega, ?_⟩
  rw [w64_id (x := (n : Int) / 2) (by omega) (by omega)]; omega
theorem emod_range {p : Int} (hp : 2 ≤ p) (x : Int) : 0 ≤ x % p ∧ x % p < p := ⟨Int.emod_nonneg _ (by omega), Int.emod_lt_of_pos _ (by omega)⟩
theorem pow_loop {p : Int} (hp : 2 ≤ p) (hp' : p ≤ 251) (j : Nat) : ∀ (k : Nat) (x acc : Int) (n : Nat), j < k → n < 2 ^ j → n ≤ 9223372036854775807 → 0 ≤ x → x < p → 0 ≤ acc → acc < p →
    impl_powerOf.l0 k x n p acc = some (acc * x ^ n % p) := by
  induction j with
  | zero =>
    intro k x acc n hk hn _ _ _ h0 h1
    obtain ⟨k, rfl⟩ : ∃ m, k = m + 1 := ⟨k - 1, by omega⟩
    obtain rfl : n = 0 := by simpa using hn
    simp only [impl_powerOf.l0]
    rw [if_neg (by simp)]
    rw [Int.pow_zero, Int.mul_one, Int.emod_eq_of_lt h0 h1]
  | succ j ih =>
    intro k x acc n hk hn hn2 hx hx' h0 h1
    obtain ⟨k, rfl⟩ : ∃ m, k = m + 1 := ⟨k - 1, by omega⟩
    simp only [impl_powerOf.l0]
    by_cases hz : n = 0
    · subst hz
      rw [if_neg (by simp), Int.pow_zero, Int.mul_one, Int.emod_eq_of_lt h0 h1]
    · have hh : n / 2 < 2 ^ j := Nat.div_lt_of_lt_mul (by rw [Nat.pow_succ, Nat.mul_comm] at hn; exact hn)
      clear hn
      have e0 : (n : Int) > 0 := by omega
      obtain ⟨e1, e2⟩ := half_wrap hn2
      have e3 := tmod_small hp hp' hx hx' hx hx'
      have e4 := tmod_small hp hp' h0 h1 hx hx'
      have ep : ¬ p = 0 := by omega
      simp only [e0, if_true, e1, e2, e3, e4, ep, if_false]
      obtain ⟨m1, m2⟩ := emod_range hp (x * x)
      obtain ⟨m3, m4⟩ := emod_range hp (acc * x)
      have hn3 : n / 2 ≤ 9223372036854775807 := Nat.le_trans (Nat.div_le_self _ _) hn2
      have hk' : j < k := by omega
      have key : (x * x % p) ^ (n / 2) % p = x ^ (2 * (n / 2)) % p := by
        rw [pow_emod, Int.pow_mul, Int.pow_succ, Int.pow_succ, Int.pow_zero, Int.one_mul]
      by_cases ho : n % 2 = 1
      · rw [if_pos (by rw [ho]; rfl), ih k (x * x % p) (acc * x % p) (n / 2) hk' hh hn3 m1 m2 m3 m4]
        congr 1
        rw [Int.mul_emod, key, Int.emod_emod_of_dvd _ (Int.dvd_refl p), ← Int.mul_emod, Int.mul_assoc]
        congr 2
        rw [Int.mul_comm, ← Int.pow_succ]
        congr 1; omega
      · rw [if_neg (fun e => ho (by have := Int.ofNat_inj.mp e; exact this)), ih k (x * x % p) acc (n / 2) hk' hh hn3 m1 m2 h0 h1]
        congr 1
        rw [Int.mul_emod, key, ← Int.mul_emod]
        congr 3; omega
theorem pow_tells {p a : Int} {n : Nat} (hp : 2 ≤ p) (hp' : p ≤ 251) (h0 : 0 ≤ a) (h1 : a < p) (hn : n ≤ 9223372036854775807) {k : Nat} (hk : 64 ≤ k) : impl_powerOf.f k a n p = some (a ^ n % p) := by
  unfold impl_powerOf.f
  rw [pow_loop hp hp' 63 k a 1 n (by omega) (by omega) hn h0 h1 (by omega) (by omega), Int.one_mul]
theorem spec_pow_tells {p a : Int} {n : Nat} (hp : 2 ≤ p) (hp' : p ≤ 251) (h0 : 0 ≤ a) (h1 : a < p) (hn : n ≤ 9223372036854775807) {k : Nat} (hk : 64 ≤ k) : spec_l02Power.f k a n p = some (a ^ n % p) := by
  have same : spec_l02Power.l0 = impl_powerOf.l0 := by kernel_rfl
  unfold spec_l02Power.f
  rw [if_neg (by omega), same, Int.emod_eq_of_lt (by omega) (by omega)]
  exact pow_tells hp hp' h0 h1 hn hk
theorem inverse_tells {p a : Int} (hp : isP p = true) (h0 : 0 ≤ a) (h1 : a < p) {k : Nat} (hk : 64 ≤ k) : impl_inverseOf.f k a p = some (pinv p a) := by
  have h := isP_ge hp
  unfold impl_inverseOf.f
  rw [w64_id (x := p - 2) (by omega) (by omega), show p - 2 = (((p - 2).toNat : Nat) : Int) by omega, pow_tells h.1 h.2 h0 h1 (by omega) hk]
  rfl
theorem spec_inverse_tells {p a : Int} (hp : isP p = true) (h0 : 0 ≤ a) (h1 : a < p) {k : Nat} (hk : 64 ≤ k) : spec_l02Inverse.f k a p = some (pinv p a) := by
  have h := isP_ge hp
  unfold spec_l02Inverse.f
  rw [w64_id (x := p - 2) (by omega) (by omega), show p - 2 = (((p - 2).toNat : Nat) : Int) by omega, spec_pow_tells h.1 h.2 h0 h1 (by omega) hk]
  rfl
end Go.Proofs.Ytfiffkjfmpngfaa.F
end

section
set_option linter.unusedVariables false
set_option linter.unusedSimpArgs false
set_option linter.unusedSectionVars false
namespace Go.Proofs.Ytfiffkjfmpngfaa.F
open Go.RowKit Go.Proofs.YtfiffkjfmpngfaaW.PrintWords Go.Proofs.YtfiffkjfmpngfaaW.PrintLast Go.Proofs.Ytfiffkjfmpngfaa.Lin

/-- The inverse is the only one. -/
theorem fermat {p a : Int} (hp : isP p = true) (h0 : 0 < a) (h1 : a < p) : a ^ (p - 1).toNat % p = 1 := by
  have h := pinv_tells hp h0 h1
  have hp2 := isP_ge hp
  unfold pinv at h
  rw [Int.mul_emod, Int.emod_emod_of_dvd _ (Int.dvd_refl p), ← Int.mul_emod, Int.mul_comm, ← Int.pow_succ] at h
  rw [show (p - 1).toNat = (p - 2).toNat + 1 by omega]
  exact h
/-- n is the order of a. -/
structure IsOrder (a p : Int) (n : Nat) : Prop where
  pos : 1 ≤ n
  le : n ≤ (p - 1).toNat
  one : a ^ n % p = 1
  least : ∀ m : Nat, 1 ≤ m → m < n → a ^ m % p ≠ 1
theorem order_loop {a p : Int} (hp : isP p = true) (h0 : 0 < a) (h1 : a < p) (d : Nat) : ∀ (k n : Nat), (p - 1).toNat - n = d → 1 ≤ n → n ≤ (p - 1).toNat → d < k → (∀ m : Nat, 1 ≤ m → m < n → a ^ m % p ≠ 1) →
    ∃ r : Nat, impl_orderOf.l0 k a p n (a ^ n % p) = some (r : Int) ∧ IsOrder a p r := by
  have hp2 := isP_ge hp
  induction d with
  | zero =>
    intro k n hd hn hn2 hk hb
    obtain ⟨k, rfl⟩ : ∃ m, k = m + 1 := ⟨k - 1, by omega⟩
    have e : n = (p - 1).toNat := by omega
    have hf : a ^ n % p = 1 := by rw [e]; exact fermat hp h0 h1
    exact ⟨n, by simp only [impl_orderOf.l0]; rw [if_pos hf], hn, hn2, hf, hb⟩
  | succ d ih =>
    intro k n hd hn hn2 hk hb
    obtain ⟨k, rfl⟩ : ∃ m, k = m + 1 := ⟨k - 1, by omega⟩
    simp only [impl_orderOf.l0]
    by_cases hc : a ^ n % p = 1
    · exact ⟨n, by rw [if_pos hc], hn, hn2, hc, hb⟩
    · obtain ⟨m1, m2⟩ := emod_range hp2.1 (a ^ n)
      have e1 : Int.tmod (wrap64 (a ^ n % p * a)) p = a ^ (n + 1) % p := by
        rw [tmod_small hp2.1 hp2.2 m1 m2 (by omega) h1, Int.mul_emod, Int.emod_emod_of_dvd _ (Int.dvd_refl p), ← Int.mul_emod, ← Int.pow_succ]
      have e2 : wrap64 ((n : Int) + 1) = ((n + 1 : Nat) : Int) := by rw [w64_id (x := (n : Int) + 1) (by omega) (by omega)]; omega
      have hp0 : ¬ p = 0 := by clear e1 hc; omega
      rw [if_neg hc, if_neg hp0, e1, e2]
      clear e1 e2 m1 m2
      exact ih k (n + 1) (by omega) (by omega) (by omega) (by omega) (fun m g1 g2 => by
        by_cases em : m = n
        · subst em; exact hc
        · exact hb m g1 (by omega))
theorem order_tells {a p : Int} (hp : isP p = true) (h0 : 0 < a) (h1 : a < p) {k : Nat} (hk : 252 ≤ k) : ∃ r : Nat, impl_orderOf.f k a p = some (r : Int) ∧ IsOrder a p r := by
  have hp2 := isP_ge hp
  have := order_loop hp h0 h1 ((p - 1).toNat - 1) k 1 (by omega) (by omega) (by omega) (by omega) (fun m g1 g2 => by omega)
  rw [Int.pow_succ, Int.pow_zero, Int.one_mul, Int.emod_eq_of_lt (by omega) h1] at this
  exact this
/-- An order divides every exponent that gives 1. -/
theorem IsOrder.dvd {a p : Int} {n : Nat} (hp : 2 ≤ p) (h : IsOrder a p n) (N : Nat) (hN : a ^ N % p = 1) : N % n = 0 := by
  have h1 : (1 : Int) % p = 1 := Int.emod_eq_of_lt (by omega) (by omega)
  have e : a ^ N % p = a ^ (N % n) % p := by
    have := Nat.div_add_mod N n
    rw [← this, Int.pow_add, Int.pow_mul, Int.mul_emod]
    have : (a ^ n) ^ (N / n) % p = 1 := by rw [← pow_emod, h.one, Int.one_pow, h1]
    rw [this, Int.one_mul, Int.emod_emod_of_dvd _ (Int.dvd_refl p), Nat.mul_add_mod]
    congr 2
    exact (Nat.mod_mod_of_dvd _ (Nat.dvd_refl n)).symm
  rw [hN] at e
  rcases Nat.eq_zero_or_pos (N % n) with h0 | h0
  · exact h0
  · exact absurd e.symm (h.least _ h0 (Nat.mod_lt _ (by have := h.pos; omega)))
/-- One that undoes a is its inverse. -/
theorem inverse_only {p a x y : Int} (hp : 2 ≤ p) (hx : 0 ≤ x) (hx' : x < p) (hy : 0 ≤ y) (hy' : y < p) (h1 : a * x % p = 1) (h2 : a * y % p = 1) : x = y := by
  have e1 : x * (a * y) % p = x := by
    rw [Int.mul_emod, h2, Int.mul_one, Int.emod_emod_of_dvd _ (Int.dvd_refl p), Int.emod_eq_of_lt hx hx']
  have e2 : x * (a * y) % p = y := by
    rw [← Int.mul_assoc, Int.mul_comm x a, Int.mul_emod, h1, Int.one_mul, Int.emod_emod_of_dvd _ (Int.dvd_refl p), Int.emod_eq_of_lt hy hy']
  rw [← e1, e2]
/-- The least generator: found, with the order p - 1. -/
def orderB (p a : Nat) : Bool := (List.range (p - 2)).all (fun m => a ^ (m + 1) % p ≠ 1)
def genB (p : Nat) : Bool := (List.range p).any (fun a => decide (0 < a) && orderB p a)
theorem gens : ∀ p, p ∈ primes251 → genB p = true := by decide +kernel
theorem full_order {a : Nat} {p : Int} {n : Nat} (hp : isP p = true) (h : IsOrder a p n) (hb : orderB p.toNat a = true) : n = (p - 1).toNat := by
  have hp2 := isP_ge hp
  rcases Nat.lt_or_ge n (p - 1).toNat with hlt | hge
  · exfalso
    unfold orderB at hb
    have h1 := List.all_eq_true.mp hb (n - 1) (List.mem_range.mpr (by have := h.pos; omega))
    simp only [decide_eq_true_eq] at h1
    apply h1
    have h2 := h.one
    rw [show n - 1 + 1 = n by have := h.pos; omega]
    have h3 : (((a ^ n % p.toNat : Nat)) : Int) = ((1 : Nat) : Int) := by
      rw [Int.natCast_emod, Int.natCast_pow, show ((p.toNat : Nat) : Int) = p by omega, h2]; rfl
    exact Int.ofNat_inj.mp h3
  · exact Nat.le_antisymm h.le hge
theorem gen_loop {p : Int} (hp : isP p = true) {g : Nat} (g0 : 0 < g) (g1 : (g : Int) < p) (hg : orderB p.toNat g = true) (d : Nat) : ∀ (k a : Nat), g - a = d → 1 ≤ a → a ≤ g → d + 252 < k →
    ∃ r : Nat, impl_LeastGenerator.l0 k p a = some ((r : Int), 0) ∧ 0 < r ∧ (r : Int) < p ∧ IsOrder r p (p - 1).toNat := by
  have hp2 := isP_ge hp
  induction d with
  | zero =>
    intro k a hd ha ha2 hk
    obtain ⟨k, rfl⟩ : ∃ m, k = m + 1 := ⟨k - 1, by omega⟩
    obtain rfl : a = g := by omega
    obtain ⟨n, hn, ho⟩ := order_tells hp (a := (a : Int)) (by omega) g1 (k := k) (by omega)
    have hfull := full_order hp ho hg
    subst hfull
    simp only [impl_LeastGenerator.l0]
    rw [hn]
    simp only [Option.bind_some]
    rw [w64_id (x := p - 1) (by omega) (by omega), if_pos (by omega)]
    exact ⟨a, rfl, by omega, g1, ho⟩
  | succ d ih =>
    intro k a hd ha ha2 hk
    obtain ⟨k, rfl⟩ : ∃ m, k = m + 1 := ⟨k - 1, by omega⟩
    obtain ⟨n, hn, ho⟩ := order_tells hp (a := (a : Int)) (by omega) (by omega) (k := k) (by omega)
    simp only [impl_LeastGenerator.l0]
    rw [hn]
    simp only [Option.bind_some]
    rw [w64_id (x := p - 1) (by omega) (by omega)]
    by_cases hc : (n : Int) = p - 1
    · rw [if_pos hc]
      have : n = (p - 1).toNat := by omega
      subst this
      exact ⟨a, rfl, by omega, by omega, ho⟩
    · rw [if_neg hc]
      have e2 : wrap64 ((a : Int) + 1) = ((a + 1 : Nat) : Int) := by rw [w64_id (x := (a : Int) + 1) (by omega) (by omega)]; omega
      rw [e2]
      exact ih k (a + 1) (by omega) (by omega) (by omega) (by omega)
theorem gen_tells {p : Int} (hp : isP p = true) {k : Nat} (hk : 600 ≤ k) : ∃ r : Nat, impl_LeastGenerator.f k p = some ((r : Int), 0) ∧ 0 < r ∧ (r : Int) < p ∧ IsOrder r p (p - 1).toNat := by
  have hp2 := isP_ge hp
  unfold impl_LeastGenerator.f
  rw [ask_prime, prime_tells p (by omega), hp]
  simp only [Option.bind_some, if_true]
  have hm : p.toNat ∈ primes251 := by unfold isP at hp; simp at hp; exact hp.2
  have hg := gens p.toNat hm
  unfold genB at hg
  obtain ⟨g, hg1, hg2⟩ := List.any_eq_true.mp hg
  have hg1 := List.mem_range.mp hg1
  simp only [Bool.and_eq_true, decide_eq_true_eq] at hg2
  exact gen_loop hp hg2.1 (by omega) hg2.2 (g - 1) k 1 (by omega) (by omega) (by omega) (by omega)
end Go.Proofs.Ytfiffkjfmpngfaa.F
end

section
namespace Go.Proofs.Ytfiffkjfmpngfaa.F
open Go.RowKit Go.Proofs.YtfiffkjfmpngfaaW.PrintWords Go.Proofs.YtfiffkjfmpngfaaW.PrintLast Go.Proofs.YtfiffkjfmpngfaaW.PrintMore
attribute [local go_sem] max2_int min2_int max_two min_two max_three min_three max_four min_four   -- for this text's walks alone
set_option linter.unusedVariables false
set_option linter.unusedSimpArgs false

/-! ### laws_toInt64S: function 24 -/
def laws_toInt64S.l0 : Nat → List Int → List Int → Int → Option (List Int)
  | 0, _, _, _ => none
  | k + 1, x0, x3, x4 => if x4 < (x0.length : Int) then (if 0 ≤ x4 then (if x4 < (x3.length : Int) then (laws_toInt64S.l0 k x0 (x3.set (x4 : Int).toNat (rd x0 x4)) (wrap64 (x4 + 1))) else (none)) else (none)) else (some x3)
def laws_toInt64S.f (k : Nat) (l0 : List Int) : Option (List Int) := if 0 ≤ (l0.length : Int) then (if ((l0.length : Int) : Int).toNat ≤ 35184372088832 then (laws_toInt64S.l0 k l0 (List.replicate ((l0.length : Int) : Int).toNat 0) 0) else (none)) else (none)
theorem laws_toInt64S.mono_l : ∀ k, (∀ y0 y1 y2, LeO (laws_toInt64S.l0 k y0 y1 y2) (laws_toInt64S.l0 (k + 1) y0 y1 y2))
  | 0 => fun _ _ _ r h => by simp [laws_toInt64S.l0] at h
  | k + 1 => by
    have ih0 := laws_toInt64S.mono_l k
    · intro y0 y1 y2
      unfold laws_toInt64S.l0
      repeat' first
      | (with_reducible exact ih0 _ _ _)
      | (with_reducible exact LeO.refl _)
      | (with_reducible exact LeO.none _)
      | (with_reducible refine LeO.ite ?_ ?_)
      | (with_reducible refine LeO.bind ?_ (fun _ => ?_))
      | exact ih0 _ _ _
      | exact LeO.none _
      | refine LeO.ite ?_ ?_
      | refine LeO.bind ?_ (fun _ => ?_)
theorem laws_toInt64S.mono : ∀ a0 k, LeO (laws_toInt64S.f k a0) (laws_toInt64S.f (k + 1) a0) := by
  intro a0 k
  have ih0 := laws_toInt64S.mono_l k
  unfold laws_toInt64S.f
  repeat' first
      | (with_reducible exact ih0 _ _ _)
      | (with_reducible exact LeO.refl _)
      | (with_reducible exact LeO.none _)
      | (with_reducible refine LeO.ite ?_ ?_)
      | (with_reducible refine LeO.bind ?_ (fun _ => ?_))
      | exact ih0 _ _ _
      | exact LeO.none _
      | refine LeO.ite ?_ ?_
      | refine LeO.bind ?_ (fun _ => ?_)
set_option maxHeartbeats 8000000 in
set_option maxRecDepth 100000 in
theorem laws_toInt64S.calls (k : Nat) (A0 : Option Addr) (c0 : Nat) (l0 : List Int) (r : List Int) (w : World) (hr0 : Kd.C (Kd.int .i64) w A0 l0.length l0) (hc0 : l0.length ≤ c0) (h : laws_toInt64S.f k l0 = some r) :
    Calls Try.prog 24 #[.slice A0 l0.length c0] w fun e w' => ∃ v0_ : Value, e = .returned (v0_) ∧ Kd.R (Kd.int .i64) 2 w' w.heap.size (fun _ => True) v0_ r ∧ Below w.heap.size w w' := by
  have HR0 := Aside0.mk hr0
  have HC0 := Aside0.mk hc0
  clear hr0 hc0
  have HB := Aside0.mk (Below.refl w.heap.size w)
  have H : (if 0 ≤ (l0.length : Int) then (if ((l0.length : Int) : Int).toNat ≤ 35184372088832 then (laws_toInt64S.l0 k l0 (List.replicate ((l0.length : Int) : Int).toNat 0) 0) else (none)) else (none)) = some r := h
  clear h
  by_cases c2 : 0 ≤ (l0.length : Int)
  · rw [if_pos c2] at H
    have c2b0 := eq_true c2
    have c2b1 : decide (0 ≤ (l0.length : Int)) = true := decide_eq_true c2
    clear c2
    by_cases c3 : ((l0.length : Int) : Int).toNat ≤ 35184372088832
    · rw [if_pos c3] at H
      have c3b0 := eq_true c3
      have c3b1 : decide (((l0.length : Int) : Int).toNat ≤ 35184372088832) = true := decide_eq_true c3
      clear c3
      obtain ⟨y164, hy164⟩ : ∃ y_ : List Int, y_ = (List.replicate ((l0.length : Int) : Int).toNat 0) := ⟨_, rfl⟩
      replace H : (laws_toInt64S.l0 k l0 y164 0) = some r := by first | (rw [hy164]; with_reducible exact H) | (have H2_ := (Option.bind_some _ _).symm.trans H; rw [hy164]; with_reducible exact H2_) | (have H2_ := (Option.bind_some _ _).symm.trans H; with_reducible exact H2_) | with_reducible exact H | (rw [hy164]; exact H) | exact H
      have Ny164 := Aside0.mk hy164
      clear hy164
      have H' := Aside0.mk H
      clear H
      go_enter Try.func24, Try.ntmps24
      go_wp2_with (first | ((with_reducible refine gate_dst (N := 7) rfl ?_); refine Kd.R_make (Kd.int .i64) _ 2 rfl (N := 7) rfl 27 _ _ rfl (l0.length : Int) rfl rfl Try.underlying27 (.int .i64 0) 8 info2 rfl (by decide) (by omega) 0 (ok := fun _ => True) (okp := fun _ => True) rfl (fun _ hk => hk) trivial (of_decide_eq_true (by first | (with_reducible assumption) | assumption)) (Nat.le_trans (Nat.mul_le_mul_right _ (of_decide_eq_true (by first | (with_reducible assumption) | assumption) : (l0.length : Int).toNat ≤ 35184372088832)) (by omega)) (Below.refl _ _) (Nat.le_refl _) ?_; intro v165 w4 ho5 hb hg_ hnew_; clear hg_ hnew_; (first | rw [← Ny164.out] at ho5 | (simp only [Int.reduceToNat] at ho5; rw [← Ny164.out] at ho5)); have n0_ := Aside0.mk (Kd.R_lower ho5 (below_size (by repeat (first | (with_reducible first | exact HB.out | apply below_alloc | apply pw_below_drewN | apply below_drew1) | exact HB.out)))); have n1_ := Aside0.mk (below_step (by repeat (first | (with_reducible first | exact HB.out | apply below_alloc | apply pw_below_drewN | apply below_drew1) | exact HB.out)) hb); clear HB; have HO166 := n0_; have HB := n1_; clear n0_ n1_; clear hb ho5))
      go_loopg [4] k (fun kq v4 w' => ∃ (x3_1 : List Int) (x4_1 : Int), v4 = .int .i64 x4_1 ∧ Aside0 (laws_toInt64S.l0 kq l0 x3_1 x4_1 = some r) ∧ Aside0 (kq ≤ k) ∧ Aside0 (Kd.R (Kd.int .i64) 2 w' w.heap.size (fun _ => True) v165 x3_1) ∧ Aside0 (Below w.heap.size w w'))
      case atStart => exact ⟨(y164), (0), (by first | rfl | (simp; done) | (simp [*]; done)), H', ⟨Nat.le_refl _⟩, ⟨by (with_reducible repeat (first | apply Kd.R_alloc | apply Kd.R_drewN | apply Kd.R_drew)); exact HO166.out⟩, ⟨by repeat (first | (with_reducible first | exact HB.out | apply below_alloc | apply pw_below_drewN | apply below_drew1) | exact HB.out)⟩⟩
      case round =>
        clear H'
        try clear c2
        try clear c2b0
        try clear c2b1
        try clear p2
        try clear c3
        try clear c3b0
        try clear c3b1
        obtain ⟨x3_1, x4_1, rfl, HA, HK1, HO_3, HB⟩ := hrel
        cases gk with
        | zero => exact absurd HA.out (by simp [laws_toInt64S.l0])
        | succ k1 =>
          have H := HA.out
          clear HA
          simp only [laws_toInt64S.l0] at H
          by_cases c6 : x4_1 < (l0.length : Int)
          · rw [if_pos c6] at H
            have c6b0 : decide (x4_1 < (l0.length : Int)) = true := decide_eq_true c6
            clear c6
            by_cases c7 : 0 ≤ x4_1
            · rw [if_pos c7] at H
              have c7b0 : decide (0 ≤ x4_1) = true := decide_eq_true c7
              clear c7
              by_cases c8 : x4_1 < (x3_1.length : Int)
              · rw [if_pos c8] at H
                have c8b0 : decide (x4_1 < (x3_1.length : Int)) = true := decide_eq_true c8
                clear c8
                obtain ⟨y168, hy168⟩ : ∃ y_ : List Int, y_ = (x3_1.set (x4_1 : Int).toNat (rd l0 x4_1)) := ⟨_, rfl⟩
                replace H : (laws_toInt64S.l0 k1 l0 y168 (wrap64 (x4_1 + 1))) = some r := by first | (rw [hy168]; with_reducible exact H) | (have H2_ := (Option.bind_some _ _).symm.trans H; rw [hy168]; with_reducible exact H2_) | (have H2_ := (Option.bind_some _ _).symm.trans H; with_reducible exact H2_) | with_reducible exact H | (rw [hy168]; exact H) | exact H
                have Ny168 := Aside0.mk hy168
                clear hy168
                have H' := Aside0.mk H
                clear H
                have p167 : 0 ≤ (x4_1 : Int) := of_decide_eq_true (by first | (with_reducible assumption) | assumption)
                have q167 : x4_1 < (l0.length : Int) := of_decide_eq_true (by first | (with_reducible assumption) | assumption)
                obtain ⟨ad167, e167, hx167_0⟩ := Kd.at_int HR0.out x4_1 p167 q167
                cases e167
                replace hx167_0 := (HB.out.cell (World.block_lt_of_cell? w _ hx167_0)).trans hx167_0
                replace p167 := eq_true p167
                replace q167 := eq_true q167
                have p9 : 0 ≤ (x4_1 : Int) := of_decide_eq_true (by first | (with_reducible assumption) | assumption)
                have q9 : (x4_1 : Int) < ((x3_1.length : Int) : Int) := of_decide_eq_true (by first | (with_reducible assumption) | assumption)
                obtain ⟨go9, co9, eo9, gb9, gl9, cl9, HG9⟩ := Kd.R_form HO_3.out (by omega)
                (first | cases eo9 | (injection eo9 with ea_ en_ ec_; (first | subst ea_ | (injection ea_ with ea_; subst ea_)); subst ec_; clear en_))
                have GB9 := Aside0.mk gb9
                have GG9 := Aside0.mk HG9
                clear gb9 gl9 HG9
                obtain ⟨hx9_0, hf9_0⟩ := Kd.R_celln 0 HO_3.out (x4_1 : Int) p9 q9
                replace p9 := eq_true p9
                replace q9 := eq_true q9
                have HP10 := Kd.R_putg HO_3.out (x4_1 : Int) (rd l0 x4_1)
                go_wp2_with (first | ((with_reducible refine gate_store (t := 2) (p := 20) rfl ?_); refine store_event (t := 2) (p := 20) (v := ?vo_w11) (w1 := (wr.setCell ⟨go9, (x4_1 : Int).toNat, none⟩ (.int .i64 (rd l0 x4_1)))) ?hg ?ho ?hn ?hr ?_; (case ho => rfl); (case hg => rfl); (case hn => rfl); (case hr => first | (go_simp; done) | (go_simp; rfl)); intro w11 hw; have hg : wr.grownBy w11 (some go9) := (by rw [hw]; exact HP10.2); have hp_ : Kd.R (Kd.int .i64) 2 w11 w.heap.size (fun _ => True) (.slice (some ⟨go9, 0, none⟩) x3_1.length co9) y168 := (by rw [hw, Ny168.out]; exact HP10.1); clear HP10; have n0_ := Aside0.mk (hp_); have n1_ := Aside0.mk ((by rw [hw]; exact below_set (HB.out) GB9.out : Below w.heap.size w w11)); clear HO_3; clear HB; have HO_3 := n0_; have HB := n1_; clear n0_ n1_; clear hg hw hp_))
                go_roundg k1
                case measure => have := HK1.out; omega
                case rel => exact ⟨(y168), (wrap64 (x4_1 + 1)), (by first | rfl | (simp; done) | (simp [*]; done)), H', ⟨by have := HK1.out; omega⟩, ⟨by (with_reducible repeat (first | apply Kd.R_alloc | apply Kd.R_drewN | apply Kd.R_drew)); exact HO_3.out⟩, ⟨by repeat (first | (with_reducible first | exact HB.out | apply below_alloc | apply pw_below_drewN | apply below_drew1) | exact HB.out)⟩⟩
              · rw [if_neg c8] at H
                exact absurd H (by simp)
            · rw [if_neg c7] at H
              exact absurd H (by simp)
          · rw [if_neg c6] at H
            have c6b0 : decide (x4_1 < (l0.length : Int)) = false := decide_eq_false c6
            clear c6
            obtain rfl := Option.some.inj H
            go_wp2
            go_ret
            exact ⟨_, by first | rfl | (simp [errW_none, errW_some] <;> rfl) | (simp [*, errW_none, errW_some] <;> rfl), by (with_reducible repeat (first | apply Kd.R_alloc | apply Kd.R_drewN | apply Kd.R_drew)); exact HO_3.out, by repeat (first | (with_reducible first | exact HB.out | apply below_alloc | apply pw_below_drewN | apply below_drew1) | exact HB.out)⟩
    · rw [if_neg c3] at H
      exact absurd H (by simp)
  · rw [if_neg c2] at H
    exact absurd H (by simp)

end Go.Proofs.Ytfiffkjfmpngfaa.F
end
