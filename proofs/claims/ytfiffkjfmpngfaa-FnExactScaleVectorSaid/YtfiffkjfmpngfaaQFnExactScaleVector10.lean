-- Texts of this claim, merged by pack.py (a program of this session's).
import Derived.Test.YtfiffkjfmpngfaaQFnExactScaleVector9
import Derived.Test.YtfiffkjfmpngfaaQFnExactScaleVector3
import Derived.KernelRfl
import Derived.Test.YtfiffkjfmpngfaaQFnExactScaleVector1
import Derived.Test.YtfiffkjfmpngfaaQFnExactScaleVector7
import Derived.Test.YtfiffkjfmpngfaaQFnExactScaleVector8
import Derived.Test.YtfiffkjfmpngfaaQFnExactScaleVector6
import Derived.Test.YtfiffkjfmpngfaaQFnExactScaleVector2
import Derived.Test.YtfiffkjfmpngfaaQFnExactScaleVector4
import Derived.Test.YtfiffkjfmpngfaaQFnExactScaleVector5

section
set_option linter.unusedVariables false
set_option linter.unusedSimpArgs false
set_option linter.unusedSectionVars false
namespace Go.Proofs.Ytfiffkjfmpngfaa.F
open Go.RowKit Go.Proofs.YtfiffkjfmpngfaaW.PrintWords Go.Proofs.YtfiffkjfmpngfaaW.PrintLast Go.Proofs.Ytfiffkjfmpngfaa.Lin

/-- All numbers of a list are numbers modulo p. -/
def allIn (l : List Int) (p : Int) : Bool := l.all fun x => decide (0 ≤ x) && decide (x < p)
theorem allIn_iff {l : List Int} {p : Int} : allIn l p = true ↔ ∀ x, x ∈ l → 0 ≤ x ∧ x < p := by unfold allIn; simp
/-- The first error of a prime and numbers modulo it. -/
def codeOf (p : Int) (l : List Int) : Int := if isP p = true then (if allIn l p = true then 0 else 2) else 1
theorem areElements_tells {l : List Int} {p : Int} (hp : isP p = true) : impl_areElements.f l p = some (allIn l p) := by
  have := isP_ge hp
  unfold impl_areElements.f allIn
  rw [w64_id (x := p - 1) (by omega) (by omega)]
  congr 1
  induction l with
  | nil => rfl
  | cons x l ih =>
    simp only [List.any_cons, List.all_cons, Bool.not_or, Bool.not_not]
    rw [ih]
    congr 2
    rw [decide_eq_decide]; omega
theorem elements_tells (p : Int) (l : List Int) {k : Nat} (hk : 20 ≤ k) : impl_elements.f k p l = some (codeOf p l) := by
  unfold impl_elements.f codeOf
  rw [ask_prime, prime_tells p hk]
  by_cases h : isP p = true
  · rw [h]
    simp only [Option.bind_some, if_true, areElements_tells h]
    by_cases h2 : allIn l p = true
    · simp [h2]
    · simp [h2]
  · simp [h]
theorem ask_tells (a p : Int) {k : Nat} (hk : 20 ≤ k) : spec_l02Ask.f k a p = some (codeOf p [a]) := by
  unfold spec_l02Ask.f codeOf
  rw [prime_tells p hk]
  by_cases h : isP p = true
  · have := isP_ge h
    rw [h]
    simp only [Option.bind_some, if_true, in_tells]
    rw [w64_id (x := p - 1) (by omega) (by omega)]
    have e : decide (0 ≤ a ∧ a ≤ p - 1) = allIn [a] p := by
      unfold allIn
      simp only [List.all_cons, List.all_nil, Bool.and_true]
      rw [← Bool.decide_and, decide_eq_decide]; omega
    rw [e]
    by_cases h2 : allIn [a] p = true
    · simp [h2]
    · simp [h2]
  · simp [h]
theorem codeOf_zero {p : Int} {l : List Int} : codeOf p l = 0 ↔ isP p = true ∧ ∀ x, x ∈ l → 0 ≤ x ∧ x < p := by
  unfold codeOf
  by_cases h : isP p = true
  · by_cases h2 : allIn l p = true
    · rw [if_pos h, if_pos h2]; exact ⟨fun _ => ⟨h, allIn_iff.mp h2⟩, fun _ => rfl⟩
    · rw [if_pos h, if_neg h2]; exact ⟨fun e => absurd e (by decide), fun e => absurd (allIn_iff.mpr e.2) h2⟩
  · simp [h]
end Go.Proofs.Ytfiffkjfmpngfaa.F
end

section
set_option linter.unusedVariables false
set_option linter.unusedSimpArgs false
set_option linter.unusedSectionVars false
namespace Go.Proofs.Ytfiffkjfmpngfaa.F
open Go.RowKit Go.Proofs.YtfiffkjfmpngfaaW.PrintWords Go.Proofs.YtfiffkjfmpngfaaW.PrintLast Go.Proofs.Ytfiffkjfmpngfaa.Lin

/-- A vector modulo a prime. -/
def vecOk (l : List Int) (p : Int) : Bool := isP p && (decide (l.length ≤ 64) && allIn l p)
theorem allIn_drop {l : List Int} {p : Int} {i : Nat} (h : i < l.length) : allIn (l.drop i) p = (decide (0 ≤ l.getD i 0 ∧ l.getD i 0 ≤ p - 1) && allIn (l.drop (i + 1)) p) := by
  rw [List.drop_eq_getElem_cons h]
  unfold allIn
  simp only [List.all_cons]
  congr 1
  rw [getD_at h, ← Bool.decide_and, decide_eq_decide]; omega
theorem numbers_loop {l : List Int} {p : Int} (hp : 2 ≤ p) (hp' : p ≤ 251) (hl : l.length ≤ 35184372088832) (d : Nat) : ∀ (k i : Nat), l.length - i = d → i ≤ l.length → d < k →
    spec_l02Numbers.l0 k l p i = some (allIn (l.drop i) p && decide (l.length ≤ 64)) := by
  have e0 : wrap64 (p - 1) = p - 1 := w64_id (by omega) (by omega)
  induction d with
  | zero =>
    intro k i hd hi hk
    obtain ⟨k, rfl⟩ : ∃ m, k = m + 1 := ⟨k - 1, by omega⟩
    simp only [spec_l02Numbers.l0]
    rw [if_neg (by omega), List.drop_eq_nil_of_le (by omega)]
    simp only [allIn, List.all_nil, Bool.true_and]
    congr 1; rw [decide_eq_decide]; omega
  | succ d ih =>
    intro k i hd hi hk
    obtain ⟨k, rfl⟩ : ∃ m, k = m + 1 := ⟨k - 1, by omega⟩
    simp only [spec_l02Numbers.l0]
    rw [if_pos (by omega), if_pos (by omega), rd_nat, e0, in_tells, w64_succ (n := l.length) (by omega) hl, ih k (i + 1) (by omega) (by omega) (by omega), allIn_drop (show i < l.length by omega)]
    simp only [Option.bind_some]
    by_cases h : 0 ≤ l.getD i 0 ∧ l.getD i 0 ≤ p - 1
    · rw [decide_eq_true h]; simp
    · rw [decide_eq_false h]; simp
theorem numbers_tells {l : List Int} {p : Int} (hp : 2 ≤ p) (hp' : p ≤ 251) (hl : l.length ≤ 35184372088832) {k : Nat} (hk : l.length < k) : spec_l02Numbers.f k l p = some (decide (l.length ≤ 64) && allIn l p) := by
  unfold spec_l02Numbers.f
  have := numbers_loop hp hp' hl l.length k 0 (by omega) (by omega) hk
  rw [show ((0 : Int)) = ((0 : Nat) : Int) by rfl, this, List.drop_zero, Bool.and_comm]
theorem validVector_tells {l : List Int} (p : Int) {k : Nat} (hk : 20 ≤ k) : impl_ValidVector.f k l p = some (vecOk l p) := by
  unfold impl_ValidVector.f vecOk
  rw [ask_prime, prime_tells p hk]
  by_cases h : isP p = true
  · simp only [h, Option.bind_some, if_true, areElements_tells h, Bool.true_and]
    by_cases h2 : l.length ≤ 64
    · have : (l.length : Int) ≤ 64 := by omega
      simp [h2, this]
    · have : ¬ (l.length : Int) ≤ 64 := by omega
      simp [h2, this]
  · simp [h]
/-- The first error of two vectors. -/
def codeTwo (a b : List Int) (p : Int) : Int := if (vecOk a p && vecOk b p) = true then (if a.length = b.length then 0 else 6) else 1
theorem vectors_tells (a b : List Int) (p : Int) {k : Nat} (hk : 21 ≤ k) : impl_vectors.f k a b p = some (codeTwo a b p) := by
  obtain ⟨k, rfl⟩ : ∃ m, k = m + 1 := ⟨k - 1, by omega⟩
  unfold impl_vectors.f codeTwo
  rw [validVector_tells p (by omega), validVector_tells p (by omega)]
  have e : ((a.length : Int) = (b.length : Int)) = (a.length = b.length) := propext (by omega)
  cases h1 : vecOk a p <;> cases h2 : vecOk b p <;> simp only [impl_vectors.j0, Option.bind_some, if_true, if_false, Bool.not_true, Bool.not_false, Bool.and_true, Bool.and_false, Bool.false_eq_true, reduceCtorEq, e] <;> (try split) <;> rfl
theorem two_tells {a b : List Int} (p : Int) (ha : a.length ≤ 35184372088832) (hb : b.length ≤ 35184372088832) {k : Nat} (hk : 21 + a.length + b.length ≤ k) : spec_l02Two.f k a b p = some (codeTwo a b p) := by
  obtain ⟨k, rfl⟩ : ∃ m, k = m + 1 := ⟨k - 1, by omega⟩
  unfold spec_l02Two.f codeTwo vecOk
  rw [prime_tells p (by omega)]
  by_cases h : isP p = true
  · have hp := isP_ge h
    simp only [h, Option.bind_some, if_true, Bool.true_and]
    rw [numbers_tells hp.1 hp.2 ha (by omega), numbers_tells hp.1 hp.2 hb (by omega)]
    have e : ((a.length : Int) = (b.length : Int)) = (a.length = b.length) := propext (by omega)
    cases h1 : (decide (a.length ≤ 64) && allIn a p) <;> cases h2 : (decide (b.length ≤ 64) && allIn b p) <;> simp only [spec_l02Two.j0, Option.bind_some, if_true, if_false, Bool.not_true, Bool.not_false, Bool.and_true, Bool.and_false, Bool.false_eq_true, reduceCtorEq, e] <;> (try split) <;> rfl
  · simp [h, spec_l02Two.j0]
theorem codeTwo_zero {a b : List Int} {p : Int} : codeTwo a b p = 0 ↔ isP p = true ∧ a.length ≤ 64 ∧ (∀ x, x ∈ a → 0 ≤ x ∧ x < p) ∧ (∀ x, x ∈ b → 0 ≤ x ∧ x < p) ∧ a.length = b.length := by
  unfold codeTwo vecOk
  rw [← allIn_iff, ← allIn_iff]
  cases isP p <;> cases allIn a p <;> cases allIn b p <;> simp
  by_cases h : a.length = b.length
  · rw [h]; by_cases h2 : b.length ≤ 64 <;> simp [h2]
  · simp [h]; split <;> omega
theorem getD_in {l : List Int} {p : Int} (hp : 2 ≤ p) (h : ∀ x, x ∈ l → 0 ≤ x ∧ x < p) (j : Nat) : 0 ≤ l.getD j 0 ∧ l.getD j 0 < p := by
  by_cases hj : j < l.length
  · rw [getD_at hj]; exact h _ (List.getElem_mem hj)
  · rw [List.getD_eq_getElem?_getD, List.getElem?_eq_none (by omega)]; simp; omega
theorem small_mul' {p x y : Int} (hp : 2 ≤ p) (hp' : p ≤ 251) (hx : 0 ≤ x) (hx' : x < p) (hy : 0 ≤ y) (hy' : y < p) : 0 ≤ x * y ∧ x * y ≤ 63001 := by
  have h1 := Int.mul_nonneg hx hy
  have h2 : x * y ≤ 251 * 251 := Int.mul_le_mul (by omega) (by omega) hy (by omega)
  omega
theorem emod_range' {p : Int} (hp : 2 ≤ p) (x : Int) : 0 ≤ x % p ∧ x % p < p := ⟨Int.emod_nonneg _ (by omega), Int.emod_lt_of_pos _ (by omega)⟩
end Go.Proofs.Ytfiffkjfmpngfaa.F
end

section
set_option linter.unusedVariables false
set_option linter.unusedSimpArgs false
set_option linter.unusedSectionVars false
namespace Go.Proofs.Ytfiffkjfmpngfaa.F
open Go.RowKit Go.Proofs.YtfiffkjfmpngfaaW.PrintWords Go.Proofs.YtfiffkjfmpngfaaW.PrintLast Go.Proofs.Ytfiffkjfmpngfaa.Lin

/-- The sum of the products at the same places. -/
def dotS (a b : List Int) : Int := (List.zipWith (fun x y => x * y) a b).sum
theorem sum_take_succ (l : List Int) {i : Nat} (h : i < l.length) : (l.take (i + 1)).sum = (l.take i).sum + l.getD i 0 := by
  rw [List.take_succ_eq_append_getElem h, List.sum_append, getD_at h]; simp
theorem zip_getD {a b : List Int} {f : Int → Int → Int} {i : Nat} (ha : i < a.length) (hb : i < b.length) : (List.zipWith f a b).getD i 0 = f (a.getD i 0) (b.getD i 0) := by
  simp [List.getD_eq_getElem?_getD, List.getElem?_zipWith, List.getElem?_eq_getElem ha, List.getElem?_eq_getElem hb]
theorem dot_loop {a b : List Int} {p : Int} (hp : 2 ≤ p) (hp' : p ≤ 251) (hl : a.length = b.length) (hn : a.length ≤ 35184372088832) (ha : ∀ j, 0 ≤ a.getD j 0 ∧ a.getD j 0 < p) (hb : ∀ j, 0 ≤ b.getD j 0 ∧ b.getD j 0 < p) (d : Nat) :
    ∀ (k i : Nat) (s : Int), a.length - i = d → i ≤ a.length → d < k → s = ((List.zipWith (fun x y => x * y) a b).take i).sum % p →
    spec_l02Dot.l0 k a b p s i = some (dotS a b % p) ∧ impl_dot.l0 k a b p s a.length i = some (dotS a b % p) := by
  have hz : (List.zipWith (fun x y => x * y) a b).length = a.length := by simp [hl]
  induction d with
  | zero =>
    intro k i s hd hi hk hs
    obtain ⟨k, rfl⟩ : ∃ m, k = m + 1 := ⟨k - 1, by omega⟩
    simp only [spec_l02Dot.l0, impl_dot.l0]
    have hf : ¬ (i : Int) < (a.length : Int) := by omega
    simp only [hf, if_false]
    rw [hs, List.take_of_length_le (by omega)]
    exact ⟨rfl, rfl⟩
  | succ d ih =>
    intro k i s hd hi hk hs
    obtain ⟨k, rfl⟩ : ∃ m, k = m + 1 := ⟨k - 1, by omega⟩
    simp only [spec_l02Dot.l0, impl_dot.l0]
    have h1 : (i : Int) < (a.length : Int) := by omega
    have h2 : (i : Int) < (b.length : Int) := by omega
    have h0 : (0 : Int) ≤ (i : Int) := by omega
    have hp0 : ¬ p = 0 := by omega
    have hs2 := emod_range' hp ((List.zipWith (fun x y => x * y) a b).take i).sum
    rw [← hs] at hs2
    have hm := small_mul' hp hp' (ha i).1 (ha i).2 (hb i).1 (hb i).2
    have e : Int.tmod (wrap64 (s + wrap64 (rd a i * rd b i))) p = ((List.zipWith (fun x y => x * y) a b).take (i + 1)).sum % p := by
      rw [rd_nat, rd_nat, w64_id (x := a.getD i 0 * b.getD i 0) (by omega) (by omega), w64_id (x := s + a.getD i 0 * b.getD i 0) (by omega) (by omega), Int.tmod_eq_emod_of_nonneg (by omega), sum_take_succ _ (by omega), zip_getD (by omega) (by omega), hs, Int.emod_add_emod]
    simp only [h0, h1, h2, hp0, if_true, if_false]
    rw [e, w64_succ (n := a.length) (by omega) hn]
    exact ih k (i + 1) _ (by omega) (by omega) (by omega) rfl
theorem dot_tells {a b : List Int} {p : Int} (hp : 2 ≤ p) (hp' : p ≤ 251) (hl : a.length = b.length) (hn : a.length ≤ 35184372088832) (ha : ∀ x, x ∈ a → 0 ≤ x ∧ x < p) (hb : ∀ x, x ∈ b → 0 ≤ x ∧ x < p) {k : Nat} (hk : a.length < k) :
    spec_l02Dot.f k a b p = some (dotS a b % p) ∧ impl_dot.f k a b p = some (dotS a b % p) := by
  unfold spec_l02Dot.f impl_dot.f
  exact dot_loop hp hp' hl hn (fun j => getD_in hp ha j) (fun j => getD_in hp hb j) a.length k 0 0 (by omega) (by omega) hk (by simp)
end Go.Proofs.Ytfiffkjfmpngfaa.F
end

section
set_option linter.unusedVariables false
set_option linter.unusedSimpArgs false
set_option linter.unusedSectionVars false
namespace Go.Proofs.Ytfiffkjfmpngfaa.F
open Go.RowKit Go.Proofs.YtfiffkjfmpngfaaW.PrintWords Go.Proofs.YtfiffkjfmpngfaaW.PrintLast Go.Proofs.Ytfiffkjfmpngfaa.Lin

theorem take_snoc {l : List Int} {i : Nat} (h : i < l.length) : l.take i ++ [l.getD i 0] = l.take (i + 1) := by
  rw [List.take_succ_eq_append_getElem h, getD_at h]
theorem add_loop {a b : List Int} {c p : Int} (hp : 2 ≤ p) (hp' : p ≤ 251) (hl : a.length = b.length) (hn : a.length ≤ 17592186044416) (ha : ∀ j, 0 ≤ a.getD j 0 ∧ a.getD j 0 < p) (hb : ∀ j, 0 ≤ b.getD j 0 ∧ b.getD j 0 < p) (hc : 0 ≤ c) (hc' : c ≤ 251) (d : Nat) :
    ∀ (k i : Nat), a.length - i = d → i ≤ a.length → d < k →
    spec_l02Add.l0 k a b c p ((addRow p a b c).take i) i = some (addRow p a b c) ∧ impl_addTimes.l0 k a b c p ((addRow p a b c).take i) a.length i = some (addRow p a b c) := by
  have hz : (addRow p a b c).length = a.length := by unfold addRow; simp [hl]
  induction d with
  | zero =>
    intro k i hd hi hk
    obtain ⟨k, rfl⟩ : ∃ m, k = m + 1 := ⟨k - 1, by omega⟩
    simp only [spec_l02Add.l0, impl_addTimes.l0]
    have hf : ¬ (i : Int) < (a.length : Int) := by omega
    simp only [hf, if_false]
    rw [List.take_of_length_le (by omega)]
    exact ⟨rfl, rfl⟩
  | succ d ih =>
    intro k i hd hi hk
    obtain ⟨k, rfl⟩ : ∃ m, k = m + 1 := ⟨k - 1, by omega⟩
    simp only [spec_l02Add.l0, impl_addTimes.l0]
    have h1 : (i : Int) < (a.length : Int) := by omega
    have h2 : (i : Int) < (b.length : Int) := by omega
    have h0 : (0 : Int) ≤ (i : Int) := by omega
    have hp0 : ¬ p = 0 := by omega
    have hlt : ((addRow p a b c).take i).length < 17592186044416 := by rw [List.length_take]; omega
    have hm : 0 ≤ c * b.getD i 0 ∧ c * b.getD i 0 ≤ 63001 := by
      have g1 := Int.mul_nonneg hc (hb i).1
      have g2 : c * b.getD i 0 ≤ 251 * 251 := Int.mul_le_mul hc' (by have := (hb i).2; omega) (hb i).1 (by omega)
      omega
    have e : Int.tmod (wrap64 (rd a i + wrap64 (c * rd b i))) p = (addRow p a b c).getD i 0 := by
      have := ha i
      rw [rd_nat, rd_nat, w64_id (x := c * b.getD i 0) (by omega) (by omega), w64_id (x := a.getD i 0 + c * b.getD i 0) (by omega) (by omega), Int.tmod_eq_emod_of_nonneg (by omega), addRow_getD (by omega) (by omega)]
    simp only [h0, h1, h2, hp0, if_true, if_false, hlt]
    rw [e, w64_succ (n := a.length) (by omega) (by omega), take_snoc (by omega)]
    exact ih k (i + 1) (by omega) (by omega) (by omega)
theorem add_tells {a b : List Int} {c p : Int} (hp : 2 ≤ p) (hp' : p ≤ 251) (hl : a.length = b.length) (hn : a.length ≤ 17592186044416) (ha : ∀ j, 0 ≤ a.getD j 0 ∧ a.getD j 0 < p) (hb : ∀ j, 0 ≤ b.getD j 0 ∧ b.getD j 0 < p) (hc : 0 ≤ c) (hc' : c ≤ 251) {k : Nat} (hk : a.length < k) :
    spec_l02Add.f k a b c p = some (addRow p a b c) ∧ impl_addTimes.f k a b c p = some (addRow p a b c) := by
  unfold spec_l02Add.f impl_addTimes.f
  exact add_loop hp hp' hl hn ha hb hc hc' a.length k 0 (by omega) (by omega) hk
/-- A multiple of a vector. -/
def scaleRow (p : Int) (l : List Int) (c : Int) : List Int := l.map (fun x => c * x % p)
theorem scaleRow_getD {p : Int} {l : List Int} {c : Int} {i : Nat} (h : i < l.length) : (scaleRow p l c).getD i 0 = c * l.getD i 0 % p := by
  unfold scaleRow; simp [List.getD_eq_getElem?_getD, h]
theorem scale_loop {a : List Int} {c p : Int} (hp : 2 ≤ p) (hp' : p ≤ 251) (hn : a.length ≤ 17592186044416) (ha : ∀ j, 0 ≤ a.getD j 0 ∧ a.getD j 0 < p) (hc : 0 ≤ c) (hc' : c ≤ 251) (d : Nat) :
    ∀ (k i : Nat), a.length - i = d → i ≤ a.length → d < k → spec_l02Scale.l0 k a c p ((scaleRow p a c).take i) i = some (scaleRow p a c) := by
  have hz : (scaleRow p a c).length = a.length := by unfold scaleRow; simp
  induction d with
  | zero =>
    intro k i hd hi hk
    obtain ⟨k, rfl⟩ : ∃ m, k = m + 1 := ⟨k - 1, by omega⟩
    simp only [spec_l02Scale.l0]
    rw [if_neg (by omega), List.take_of_length_le (by omega)]
  | succ d ih =>
    intro k i hd hi hk
    obtain ⟨k, rfl⟩ : ∃ m, k = m + 1 := ⟨k - 1, by omega⟩
    simp only [spec_l02Scale.l0]
    have h1 : (i : Int) < (a.length : Int) := by omega
    have h0 : (0 : Int) ≤ (i : Int) := by omega
    have hp0 : ¬ p = 0 := by omega
    have hlt : ((scaleRow p a c).take i).length < 17592186044416 := by rw [List.length_take]; omega
    have hm : 0 ≤ c * a.getD i 0 ∧ c * a.getD i 0 ≤ 63001 := by
      have g1 := Int.mul_nonneg hc (ha i).1
      have g2 : c * a.getD i 0 ≤ 251 * 251 := Int.mul_le_mul hc' (by have := (ha i).2; omega) (ha i).1 (by omega)
      omega
    have e : Int.tmod (wrap64 (c * rd a i)) p = (scaleRow p a c).getD i 0 := by
      rw [rd_nat, w64_id (x := c * a.getD i 0) (by omega) (by omega), Int.tmod_eq_emod_of_nonneg (by omega), scaleRow_getD (by omega)]
    simp only [h0, h1, hp0, if_true, if_false, hlt]
    rw [e, w64_succ (n := a.length) (by omega) (by omega), take_snoc (by omega)]
    exact ih k (i + 1) (by omega) (by omega) (by omega)
theorem scale_tells {a : List Int} {c p : Int} (hp : 2 ≤ p) (hp' : p ≤ 251) (hn : a.length ≤ 17592186044416) (ha : ∀ j, 0 ≤ a.getD j 0 ∧ a.getD j 0 < p) (hc : 0 ≤ c) (hc' : c ≤ 251) {k : Nat} (hk : a.length < k) : spec_l02Scale.f k a c p = some (scaleRow p a c) := by
  unfold spec_l02Scale.f
  exact scale_loop hp hp' hn ha hc hc' a.length k 0 (by omega) (by omega) hk
theorem addRow_zeros (p c : Int) (l : List Int) : addRow p (List.replicate l.length 0) l c = scaleRow p l c := by
  refine ext_getD (by unfold addRow scaleRow; simp) (fun j hj => ?_)
  have hj : j < l.length := by unfold addRow at hj; simp at hj; exact hj
  rw [addRow_getD (by simpa using hj) hj, scaleRow_getD hj, List.getD_eq_getElem?_getD, List.getElem?_replicate]
  simp [hj]
end Go.Proofs.Ytfiffkjfmpngfaa.F
end

section
/- Both functions refuse the same vectors and numbers and return the same multiple, in memory of its own; the vector stays as it is. -/
set_option linter.unusedVariables false
set_option linter.unusedSimpArgs false
set_option linter.unusedSectionVars false
namespace Go.Proofs.Ytfiffkjfmpngfaa.F
open Go.RowKit Go.Proofs.YtfiffkjfmpngfaaW.PrintWords Go.Proofs.YtfiffkjfmpngfaaW.PrintLast Go.Proofs.Ytfiffkjfmpngfaa.Lin

/-- What both return. -/
def scaleOut (l : List Int) (c p : Int) : List Int × Int := if vecOk l p = true then (if 0 ≤ c ∧ c ≤ p - 1 then (scaleRow p l c, 0) else ([], 2)) else ([], 1)
theorem scaleOut_length (l : List Int) (c p : Int) : (scaleOut l c p).1.length ≤ l.length := by
  unfold scaleOut scaleRow
  split
  · split <;> simp
  · simp
theorem spec_scale {l : List Int} (c p : Int) (hl : l.length ≤ 1048576) {k : Nat} (hk : l.length + 21 ≤ k) : spec_ScaleVector.f k l c p = some (scaleOut l c p) := by
  obtain ⟨k, rfl⟩ : ∃ m, k = m + 1 := ⟨k - 1, by omega⟩
  unfold spec_ScaleVector.f scaleOut vecOk
  rw [prime_tells p (by omega)]
  by_cases hp : isP p = true
  · have hp2 := isP_ge hp
    simp only [hp, Option.bind_some, if_true, Bool.true_and]
    rw [numbers_tells hp2.1 hp2.2 (by omega) (by omega)]
    cases hv : (decide (l.length ≤ 64) && allIn l p) with
    | false => simp [spec_ScaleVector.j0]
    | true =>
      simp only [Bool.and_eq_true, decide_eq_true_eq] at hv
      simp only [spec_ScaleVector.j0, Option.bind_some, Bool.not_true, Bool.false_eq_true, if_false, if_true]
      rw [w64_id (x := p - 1) (by omega) (by omega), in_tells]
      by_cases hc : 0 ≤ c ∧ c ≤ p - 1
      · rw [decide_eq_true hc, if_pos hc]
        simp only [Option.bind_some, if_true]
        rw [scale_tells hp2.1 hp2.2 (by omega) (fun j => getD_in hp2.1 (allIn_iff.mp hv.2) j) hc.1 (by omega) (by omega)]
        rfl
      · rw [decide_eq_false hc, if_neg hc]; simp
  · simp [hp, spec_ScaleVector.j0]
theorem impl_scale {l : List Int} (c p : Int) (hl : l.length ≤ 1048576) {k : Nat} (hk : l.length + 21 ≤ k) : impl_ScaleVector.f k l c p = some (scaleOut l c p) := by
  unfold impl_ScaleVector.f impl_isElement.f scaleOut
  rw [validVector_tells p (by omega)]
  cases hv : vecOk l p with
  | false => simp
  | true =>
    have hv' := hv
    unfold vecOk at hv'
    simp only [Bool.and_eq_true, decide_eq_true_eq] at hv'
    have hp2 := isP_ge hv'.1
    simp only [Option.bind_some, if_true]
    rw [w64_id (x := p - 1) (by omega) (by omega), same_in, in_tells]
    by_cases hc : 0 ≤ c ∧ c ≤ p - 1
    · rw [decide_eq_true hc, if_pos hc]
      simp only [Option.bind_some, if_true]
      rw [if_pos (by omega), if_pos (by omega), Int.toNat_natCast, (add_tells hp2.1 hp2.2 (by simp) (by simp; omega) (fun j => getD_in hp2.1 (fun x hx => by have := (List.mem_replicate.mp hx).2; omega) j) (fun j => getD_in hp2.1 (allIn_iff.mp hv'.2.2) j) hc.1 (by omega) (by simp; omega)).2, addRow_zeros]
      rfl
    · rw [decide_eq_false hc, if_neg hc]; simp
theorem FnExactScaleVector_pure : laws_FnExactScaleVector.Pure := by
  intro l c p _ hl _ _ _
  by_cases h1 : (l.length : Int) > 1048576
  · exact ⟨0, by unfold laws_FnExactScaleVector.f; rw [if_pos h1]⟩
  · have ho := scaleOut_length l c p
    obtain ⟨B, hB⟩ : ∃ B, B = l.length + 21 := ⟨_, rfl⟩
    have c1 : ∀ k, B ≤ k → laws_toInt64S.f k l = some l := fun k hk => copy_tells (by omega) (by omega)
    have c2 : ∀ k, B ≤ k → spec_ScaleVector.f k l c p = some (scaleOut l c p) := fun k hk => spec_scale c p (by omega) (by omega)
    have c3 : ∀ k, B ≤ k → impl_ScaleVector.f k l c p = some (scaleOut l c p) := fun k hk => impl_scale c p (by omega) (by omega)
    generalize scaleOut l c p = o at *
    obtain ⟨o, code⟩ := o
    dsimp only at ho
    have c4 : ∀ k, B ≤ k → laws_eqInt64S.f k l l = some true := fun k hk => by rw [eq_tells (by omega) (by omega)]; simp
    have c5 : ∀ k, B ≤ k → laws_eqInt64S.f k o o = some true := fun k hk => by rw [eq_tells (by omega) (by omega)]; simp
    have c6 : ∀ k, B ≤ k → laws_markInt64S.f k l 1 = some (1 + (l.length : Int), iota 1 l.length) := fun k hk => mark_tells (by omega) (by omega) (by omega) (by omega)
    have c7 : ∀ k, B ≤ k → laws_markInt64S.f k o 1 = some (1 + (o.length : Int), iota 1 o.length) := fun k hk => mark_tells (by omega) (by omega) (by omega) (by omega)
    have c8 : ∀ k, B ≤ k → laws_heldInt64S.f k (iota 1 o.length) 1 = some (1 + (o.length : Int)) := fun k hk => held_tells (by omega) (by omega) (by omega) (by omega)
    have n1 : ¬ (1 + (l.length : Int) < 0) := by omega
    have n2 : ¬ (1 + (o.length : Int) < 0) := by omega
    refine ⟨B + 1 + 1 + 1, ?_⟩
    unfold laws_FnExactScaleVector.f
    rw [if_neg h1]
    simp (disch := omega) only [Option.bind_some, if_true, if_false, bne_self_eq_false, Bool.false_eq_true, c1, c2, c3, c4, c5, c6, c7, c8, n1, n2]
    simp only [laws_FnExactScaleVector.j0]
    simp (disch := omega) only [Option.bind_some, if_true, if_false, bne_self_eq_false, Bool.false_eq_true, c1, c2, c3, c4, c5, c6, c7, c8, n1, n2]
    simp only [laws_FnExactScaleVector.j1]
    simp (disch := omega) only [Option.bind_some, if_true, if_false, bne_self_eq_false, Bool.false_eq_true, c1, c2, c3, c4, c5, c6, c7, c8, n1, n2]
    simp only [laws_FnExactScaleVector.j2]
    simp (disch := omega) only [Option.bind_some, if_true, if_false, bne_self_eq_false, Bool.false_eq_true, c1, c2, c3, c4, c5, c6, c7, c8, n1, n2]
end Go.Proofs.Ytfiffkjfmpngfaa.F
namespace Go.Proofs.Ytfiffkjfmpngfaa.Pure
theorem FnExactScaleVector : F.laws_FnExactScaleVector.Pure := F.FnExactScaleVector_pure
end Go.Proofs.Ytfiffkjfmpngfaa.Pure
end
