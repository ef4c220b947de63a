-- Texts of this claim, merged by pack.py (a program of this session's).
import Derived.Test.YtfiffkjfmpngfaaQFnExactAddVectors2
import Derived.Test.YtfiffkjfmpngfaaQFnExactAddVectors4
import Derived.Test.YtfiffkjfmpngfaaQFnExactAddVectors8
import Derived.KernelRfl
import Derived.Test.YtfiffkjfmpngfaaQFnExactAddVectors6
import Derived.Test.YtfiffkjfmpngfaaQFnExactAddVectors3
import Derived.Test.YtfiffkjfmpngfaaQFnExactAddVectors5
import Derived.Test.YtfiffkjfmpngfaaRows
import Derived.WalkKit
import Derived.ProofKit
import Derived.OpenShut
import Derived.ShutString
import Derived.ChangeOld
import Derived.Below
import Derived.SizedLaws
import Derived.Test.YtfiffkjfmpngfaaWSized

section
set_option linter.unusedVariables false
set_option linter.unusedSimpArgs false
set_option linter.unusedSectionVars false
namespace Go.Proofs.Ytfiffkjfmpngfaa.F
open Go.RowKit Go.Proofs.YtfiffkjfmpngfaaW.PrintWords Go.Proofs.YtfiffkjfmpngfaaW.PrintLast Go.Proofs.Ytfiffkjfmpngfaa.Lin

/-- A vector modulo a prime. -/
def vecOk (l : List Int) (p : Int) : Bool := isP p && (decide (l.length ≤ 64) && allIn l p)
theorem allIn_drop {l : List Int} {p : Int} {i : Nat} (h : i < l.length) : allIn (l.drop i) p = (decide (0 ≤ l.getD i 0 ∧ l.getD i 0 ≤ p - 1) && allIn (l.drop (i + 1)) p) := by
  rw [List.drop_eq_getElem_cons h]
  unfold allIn
  simp only [List.all_cons]
  congr 1
  rw [getD_at h, ← Bool.decide_and, decide_eq_decide]; omega
theorem numbers_loop {l : List Int} {p : Int} (hp : 2 ≤ p) (hp' : p ≤ 251) (hl : l.length ≤ 35184372088832) (d : Nat) : ∀ (k i : Nat), l.length - i = d → i ≤ l.length → d < k →
    spec_l02Numbers.l0 k l p i = some (allIn (l.drop i) p && decide (l.length ≤ 64)) := by
  have e0 : wrap64 (p - 1) = p - 1 := w64_id (by omega) (by omega)
  induction d with
  | zero =>
    intro k i hd hi hk
    obtain ⟨k, rfl⟩ : ∃ m, k = m + 1 := ⟨k - 1, by omega⟩
    simp only [spec_l02Numbers.l0]
    rw [if_neg (by omega), List.drop_eq_nil_of_le (by omega)]
    simp only [allIn, List.all_nil, Bool.true_and]
    congr 1; rw [decide_eq_decide]; omega
  | succ d ih =>
    intro k i hd hi hk
    obtain ⟨k, rfl⟩ : ∃ m, k = m + 1 := ⟨k - 1, by omega⟩
    simp only [spec_l02Numbers.l0]
    rw [if_pos (by omega), if_pos (by omega), rd_nat, e0, in_tells, w64_succ (n := l.length) (by omega) hl, ih k (i + 1) (by omega) (by omega) (by omega), allIn_drop (show i < l.length by omega)]
    simp only [Option.bind_some]
    by_cases h : 0 ≤ l.getD i 0 ∧ l.getD i 0 ≤ p - 1
    · rw [decide_eq_true h]; simp
    · rw [decide_eq_false h]; simp
theorem numbers_tells {l : List Int} {p : Int} (hp : 2 ≤ p) (hp' : p ≤ 251) (hl : l.length ≤ 35184372088832) {k : Nat} (hk : l.length < k) : spec_l02Numbers.f k l p = some (decide (l.length ≤ 64) && allIn l p) := by
  unfold spec_l02Numbers.f
  have := numbers_loop hp hp' hl l.length k 0 (by omega) (by omega) hk
  rw [show ((0 : Int)) = ((0 : Nat) : Int) by rfl, this, List.drop_zero, Bool.and_comm]
theorem validVector_tells {l : List Int} (p : Int) {k : Nat} (hk : 20 ≤ k) : impl_ValidVector.f k l p = some (vecOk l p) := by
  unfold impl_ValidVector.f vecOk
  rw [ask_prime, prime_tells p hk]
  by_cases h : isP p = true
  · simp only [h, Option.bind_some, if_true, areElements_tells h, Bool.true_and]
    by_cases h2 : l.length ≤ 64
    · have : (l.length : Int) ≤ 64 := by omega
      simp [h2, this]
    · have : ¬ (l.length : Int) ≤ 64 := by omega
      simp [h2, this]
  · simp [h]
/-- The first error of two vectors. -/
def codeTwo (a b : List Int) (p : Int) : Int := if (vecOk a p && vecOk b p) = true then (if a.length = b.length then 0 else 6) else 1
theorem vectors_tells (a b : List Int) (p : Int) {k : Nat} (hk : 21 ≤ k) : impl_vectors.f k a b p = some (codeTwo a b p) := by
  obtain ⟨k, rfl⟩ : ∃ m, k = m + 1 := ⟨k - 1, by omega⟩
  unfold impl_vectors.f codeTwo
  rw [validVector_tells p (by omega), validVector_tells p (by omega)]
  have e : ((a.length : Int) = (b.length : Int)) = (a.length = b.length) := propext (by omega)
  cases h1 : vecOk a p <;> cases h2 : vecOk b p <;> simp only [impl_vectors.j0, Option.bind_some, if_true, if_false, Bool.not_true, Bool.not_false, Bool.and_true, Bool.and_false, Bool.false_eq_true, reduceCtorEq, e] <;> (try split) <;> rfl
theorem two_tells {a b : List Int} (p : Int) (ha : a.length ≤ 35184372088832) (hb : b.length ≤ 35184372088832) {k : Nat} (hk : 21 + a.length + b.length ≤ k) : spec_l02Two.f k a b p = some (codeTwo a b p) := by
  obtain ⟨k, rfl⟩ : ∃ m, k = m + 1 := ⟨k - 1, by omega⟩
  unfold spec_l02Two.f codeTwo vecOk
  rw [prime_tells p (by omega)]
  by_cases h : isP p = true
  · have hp := isP_ge h
    simp only [h, Option.bind_some, if_true, Bool.true_and]
    rw [numbers_tells hp.1 hp.2 ha (by omega), numbers_tells hp.1 hp.2 hb (by omega)]
    have e : ((a.length : Int) = (b.length : Int)) = (a.length = b.length) := propext (by omega)
    cases h1 : (decide (a.length ≤ 64) && allIn a p) <;> cases h2 : (decide (b.length ≤ 64) && allIn b p) <;> simp only [spec_l02Two.j0, Option.bind_some, if_true, if_false, Bool.not_true, Bool.not_false, Bool.and_true, Bool.and_false, Bool.false_eq_true, reduceCtorEq, e] <;> (try split) <;> rfl
  · simp [h, spec_l02Two.j0]
theorem codeTwo_zero {a b : List Int} {p : Int} : codeTwo a b p = 0 ↔ isP p = true ∧ a.length ≤ 64 ∧ (∀ x, x ∈ a → 0 ≤ x ∧ x < p) ∧ (∀ x, x ∈ b → 0 ≤ x ∧ x < p) ∧ a.length = b.length := by
  unfold codeTwo vecOk
  rw [← allIn_iff, ← allIn_iff]
  cases isP p <;> cases allIn a p <;> cases allIn b p <;> simp
  by_cases h : a.length = b.length
  · rw [h]; by_cases h2 : b.length ≤ 64 <;> simp [h2]
  · simp [h]; split <;> omega
theorem getD_in {l : List Int} {p : Int} (hp : 2 ≤ p) (h : ∀ x, x ∈ l → 0 ≤ x ∧ x < p) (j : Nat) : 0 ≤ l.getD j 0 ∧ l.getD j 0 < p := by
  by_cases hj : j < l.length
  · rw [getD_at hj]; exact h _ (List.getElem_mem hj)
  · rw [List.getD_eq_getElem?_getD, List.getElem?_eq_none (by omega)]; simp; omega
theorem small_mul' {p x y : Int} (hp : 2 ≤ p) (hp' : p ≤ 251) (hx : 0 ≤ x) (hx' : x < p) (hy : 0 ≤ y) (hy' : y < p) : 0 ≤ x * y ∧ x * y ≤ 63001 := by
  have h1 := Int.mul_nonneg hx hy
  have h2 : x * y ≤ 251 * 251 := Int.mul_le_mul (by omega) (by omega) hy (by omega)
  omega
theorem emod_range' {p : Int} (hp : 2 ≤ p) (x : Int) : 0 ≤ x % p ∧ x % p < p := ⟨Int.emod_nonneg _ (by omega), Int.emod_lt_of_pos _ (by omega)⟩
end Go.Proofs.Ytfiffkjfmpngfaa.F
end

section
set_option linter.unusedVariables false
set_option linter.unusedSimpArgs false
set_option linter.unusedSectionVars false
namespace Go.Proofs.Ytfiffkjfmpngfaa.F
open Go.RowKit Go.Proofs.YtfiffkjfmpngfaaW.PrintWords Go.Proofs.YtfiffkjfmpngfaaW.PrintLast Go.Proofs.Ytfiffkjfmpngfaa.Lin

/-- The sum of the products at the same places. -/
def dotS (a b : List Int) : Int := (List.zipWith (fun x y => x * y) a b).sum
theorem sum_take_succ (l : List Int) {i : Nat} (h : i < l.length) : (l.take (i + 1)).sum = (l.take i).sum + l.getD i 0 := by
  rw [List.take_succ_eq_append_getElem h, List.sum_append, getD_at h]; simp
theorem zip_getD {a b : List Int} {f : Int → Int → Int} {i : Nat} (ha : i < a.length) (hb : i < b.length) : (List.zipWith f a b).getD i 0 = f (a.getD i 0) (b.getD i 0) := by
  simp [List.getD_eq_getElem?_getD, List.getElem?_zipWith, List.getElem?_eq_getElem ha, List.getElem?_eq_getElem hb]
theorem dot_loop {a b : List Int} {p : Int} (hp : 2 ≤ p) (hp' : p ≤ 251) (hl : a.length = b.length) (hn : a.length ≤ 35184372088832) (ha : ∀ j, 0 ≤ a.getD j 0 ∧ a.getD j 0 < p) (hb : ∀ j, 0 ≤ b.getD j 0 ∧ b.getD j 0 < p) (d : Nat) :
    ∀ (k i : Nat) (s : Int), a.length - i = d → i ≤ a.length → d < k → s = ((List.zipWith (fun x y => x * y) a b).take i).sum % p →
    spec_l02Dot.l0 k a b p s i = some (dotS a b % p) ∧ impl_dot.l0 k a b p s a.length i = some (dotS a b % p) := by
  have hz : (List.zipWith (fun x y => x * y) a b).length = a.length := by simp [hl]
  induction d with
  | zero =>
    intro k i s hd hi hk hs
    obtain ⟨k, rfl⟩ : ∃ m, k = m + 1 := ⟨k - 1, by omega⟩
    simp only [spec_l02Dot.l0, impl_dot.l0]
    have hf : ¬ (i : Int) < (a.length : Int) := by omega
    simp only [hf, if_false]
    rw [hs, List.take_of_length_le (by omega)]
    exact ⟨rfl, rfl⟩
  | succ d ih =>
    intro k i s hd hi hk hs
    obtain ⟨k, rfl⟩ : ∃ m, k = m + 1 := ⟨k - 1, by omega⟩
    simp only [spec_l02Dot.l0, impl_dot.l0]
    have h1 : (i : Int) < (a.length : Int) := by omega
    have h2 : (i : Int) < (b.length : Int) := by omega
    have h0 : (0 : Int) ≤ (i : Int) := by omega
    have hp0 : ¬ p = 0 := by omega
    have hs2 := emod_range' hp ((List.zipWith (fun x y => x * y) a b).take i).sum
    rw [← hs] at hs2
    have hm := small_mul' hp hp' (ha i).1 (ha i).2 (hb i).1 (hb i).2
    have e : Int.tmod (wrap64 (s + wrap64 (rd a i * rd b i))) p = ((List.zipWith (fun x y => x * y) a b).take (i + 1)).sum % p := by
      rw [rd_nat, rd_nat, w64_id (x := a.getD i 0 * b.getD i 0) (by omega) (by omega), w64_id (x := s + a.getD i 0 * b.getD i 0) (by omega) (by omega), Int.tmod_eq_emod_of_nonneg (by omega), sum_take_succ _ (by omega), zip_getD (by omega) (by omega), hs, Int.emod_add_emod]
    simp only [h0, h1, h2, hp0, if_true, if_false]
    rw [e, w64_succ (n := a.length) (by omega) hn]
    exact ih k (i + 1) _ (by omega) (by omega) (by omega) rfl
theorem dot_tells {a b : List Int} {p : Int} (hp : 2 ≤ p) (hp' : p ≤ 251) (hl : a.length = b.length) (hn : a.length ≤ 35184372088832) (ha : ∀ x, x ∈ a → 0 ≤ x ∧ x < p) (hb : ∀ x, x ∈ b → 0 ≤ x ∧ x < p) {k : Nat} (hk : a.length < k) :
    spec_l02Dot.f k a b p = some (dotS a b % p) ∧ impl_dot.f k a b p = some (dotS a b % p) := by
  unfold spec_l02Dot.f impl_dot.f
  exact dot_loop hp hp' hl hn (fun j => getD_in hp ha j) (fun j => getD_in hp hb j) a.length k 0 0 (by omega) (by omega) hk (by simp)
end Go.Proofs.Ytfiffkjfmpngfaa.F
end

section
set_option linter.unusedVariables false
set_option linter.unusedSimpArgs false
set_option linter.unusedSectionVars false
namespace Go.Proofs.Ytfiffkjfmpngfaa.F
open Go.RowKit Go.Proofs.YtfiffkjfmpngfaaW.PrintWords Go.Proofs.YtfiffkjfmpngfaaW.PrintLast Go.Proofs.Ytfiffkjfmpngfaa.Lin

theorem take_snoc {l : List Int} {i : Nat} (h : i < l.length) : l.take i ++ [l.getD i 0] = l.take (i + 1) := by
  rw [List.take_succ_eq_append_getElem h, getD_at h]
theorem add_loop {a b : List Int} {c p : Int} (hp : 2 ≤ p) (hp' : p ≤ 251) (hl : a.length = b.length) (hn : a.length ≤ 17592186044416) (ha : ∀ j, 0 ≤ a.getD j 0 ∧ a.getD j 0 < p) (hb : ∀ j, 0 ≤ b.getD j 0 ∧ b.getD j 0 < p) (hc : 0 ≤ c) (hc' : c ≤ 251) (d : Nat) :
    ∀ (k i : Nat), a.length - i = d → i ≤ a.length → d < k →
    spec_l02Add.l0 k a b c p ((addRow p a b c).take i) i = some (addRow p a b c) ∧ impl_addTimes.l0 k a b c p ((addRow p a b c).take i) a.length i = some (addRow p a b c) := by
  have hz : (addRow p a b c).length = a.length := by unfold addRow; simp [hl]
  induction d with
  | zero =>
    intro k i hd hi hk
    obtain ⟨k, rfl⟩ : ∃ m, k = m + 1 := ⟨k - 1, by omega⟩
    simp only [spec_l02Add.l0, impl_addTimes.l0]
    have hf : ¬ (i : Int) < (a.length : Int) := by omega
    simp only [hf, if_false]
    rw [List.take_of_length_le (by omega)]
    exact ⟨rfl, rfl⟩
  | succ d ih =>
    intro k i hd hi hk
    obtain ⟨k, rfl⟩ : ∃ m, k = m + 1 := ⟨k - 1, by omega⟩
    simp only [spec_l02Add.l0, impl_addTimes.l0]
    have h1 : (i : Int) < (a.length : Int) := by omega
    have h2 : (i : Int) < (b.length : Int) := by omega
    have h0 : (0 : Int) ≤ (i : Int) := by omega
    have hp0 : ¬ p = 0 := by omega
    have hlt : ((addRow p a b c).take i).length < 17592186044416 := by rw [List.length_take]; omega
    have hm : 0 ≤ c * b.getD i 0 ∧ c * b.getD i 0 ≤ 63001 := by
      have g1 := Int.mul_nonneg hc (hb i).1
      have g2 : c * b.getD i 0 ≤ 251 * 251 := Int.mul_le_mul hc' (by have := (hb i).2; omega) (hb i).1 (by omega)
      omega
    have e : Int.tmod (wrap64 (rd a i + wrap64 (c * rd b i))) p = (addRow p a b c).getD i 0 := by
      have := ha i
      rw [rd_nat, rd_nat, w64_id (x := c * b.getD i 0) (by omega) (by omega), w64_id (x := a.getD i 0 + c * b.getD i 0) (by omega) (by omega), Int.tmod_eq_emod_of_nonneg (by omega), addRow_getD (by omega) (by omega)]
    simp only [h0, h1, h2, hp0, if_true, if_false, hlt]
    rw [e, w64_succ (n := a.length) (by omega) (by omega), take_snoc (by omega)]
    exact ih k (i + 1) (by omega) (by omega) (by omega)
theorem add_tells {a b : List Int} {c p : Int} (hp : 2 ≤ p) (hp' : p ≤ 251) (hl : a.length = b.length) (hn : a.length ≤ 17592186044416) (ha : ∀ j, 0 ≤ a.getD j 0 ∧ a.getD j 0 < p) (hb : ∀ j, 0 ≤ b.getD j 0 ∧ b.getD j 0 < p) (hc : 0 ≤ c) (hc' : c ≤ 251) {k : Nat} (hk : a.length < k) :
    spec_l02Add.f k a b c p = some (addRow p a b c) ∧ impl_addTimes.f k a b c p = some (addRow p a b c) := by
  unfold spec_l02Add.f impl_addTimes.f
  exact add_loop hp hp' hl hn ha hb hc hc' a.length k 0 (by omega) (by omega) hk
/-- A multiple of a vector. -/
def scaleRow (p : Int) (l : List Int) (c : Int) : List Int := l.map (fun x => c * x % p)
theorem scaleRow_getD {p : Int} {l : List Int} {c : Int} {i : Nat} (h : i < l.length) : (scaleRow p l c).getD i 0 = c * l.getD i 0 % p := by
  unfold scaleRow; simp [List.getD_eq_getElem?_getD, h]
theorem scale_loop {a : List Int} {c p : Int} (hp : 2 ≤ p) (hp' : p ≤ 251) (hn : a.length ≤ 17592186044416) (ha : ∀ j, 0 ≤ a.getD j 0 ∧ a.getD j 0 < p) (hc : 0 ≤ c) (hc' : c ≤ 251) (d : Nat) :
    ∀ (k i : Nat), a.length - i = d → i ≤ a.length → d < k → spec_l02Scale.l0 k a c p ((scaleRow p a c).take i) i = some (scaleRow p a c) := by
  have hz : (scaleRow p a c).length = a.length := by unfold scaleRow; simp
  induction d with
  | zero =>
    intro k i hd hi hk
    obtain ⟨k, rfl⟩ : ∃ m, k = m + 1 := ⟨k - 1, by omega⟩
    simp only [spec_l02Scale.l0]
    rw [if_neg (by omega), List.take_of_length_le (by omega)]
  | succ d ih =>
    intro k i hd hi hk
    obtain ⟨k, rfl⟩ : ∃ m, k = m + 1 := ⟨k - 1, by omega⟩
    simp only [spec_l02Scale.l0]
    have h1 : (i : Int) < (a.length : Int) := by omega
    have h0 : (0 : Int) ≤ (i : Int) := by omega
    have hp0 : ¬ p = 0 := by omega
    have hlt : ((scaleRow p a c).take i).length < 17592186044416 := by rw [List.length_take]; omega
    have hm : 0 ≤ c * a.getD i 0 ∧ c * a.getD i 0 ≤ 63001 := by
      have g1 := Int.mul_nonneg hc (ha i).1
      have g2 : c * a.getD i 0 ≤ 251 * 251 := Int.mul_le_mul hc' (by have := (ha i).2; omega) (ha i).1 (by omega)
      omega
    have e : Int.tmod (wrap64 (c * rd a i)) p = (scaleRow p a c).getD i 0 := by
      rw [rd_nat, w64_id (x := c * a.getD i 0) (by omega) (by omega), Int.tmod_eq_emod_of_nonneg (by omega), scaleRow_getD (by omega)]
    simp only [h0, h1, hp0, if_true, if_false, hlt]
    rw [e, w64_succ (n := a.length) (by omega) (by omega), take_snoc (by omega)]
    exact ih k (i + 1) (by omega) (by omega) (by omega)
theorem scale_tells {a : List Int} {c p : Int} (hp : 2 ≤ p) (hp' : p ≤ 251) (hn : a.length ≤ 17592186044416) (ha : ∀ j, 0 ≤ a.getD j 0 ∧ a.getD j 0 < p) (hc : 0 ≤ c) (hc' : c ≤ 251) {k : Nat} (hk : a.length < k) : spec_l02Scale.f k a c p = some (scaleRow p a c) := by
  unfold spec_l02Scale.f
  exact scale_loop hp hp' hn ha hc hc' a.length k 0 (by omega) (by omega) hk
theorem addRow_zeros (p c : Int) (l : List Int) : addRow p (List.replicate l.length 0) l c = scaleRow p l c := by
  refine ext_getD (by unfold addRow scaleRow; simp) (fun j hj => ?_)
  have hj : j < l.length := by unfold addRow at hj; simp at hj; exact hj
  rw [addRow_getD (by simpa using hj) hj, scaleRow_getD hj, List.getD_eq_getElem?_getD, List.getElem?_replicate]
  simp [hj]
end Go.Proofs.Ytfiffkjfmpngfaa.F
end

section
/- Both functions refuse the same vectors and return the same sum, in memory of its own; the vectors stay as they are. -/
set_option linter.unusedVariables false
set_option linter.unusedSimpArgs false
set_option linter.unusedSectionVars false
namespace Go.Proofs.Ytfiffkjfmpngfaa.F
open Go.RowKit Go.Proofs.YtfiffkjfmpngfaaW.PrintWords Go.Proofs.YtfiffkjfmpngfaaW.PrintLast Go.Proofs.Ytfiffkjfmpngfaa.Lin

/-- What both return. -/
def addOut (a b : List Int) (p : Int) : List Int × Int := if codeTwo a b p = 0 then (addRow p a b 1, 0) else ([], codeTwo a b p)
theorem addOut_length (a b : List Int) (p : Int) : (addOut a b p).1.length ≤ a.length := by
  unfold addOut addRow
  split
  · simp; omega
  · simp
theorem both_add {a b : List Int} (p : Int) (ha : a.length ≤ 1048576) (hb : b.length ≤ 1048576) {k : Nat} (hk : 21 + a.length + b.length ≤ k) : spec_AddVectors.f k a b p = some (addOut a b p) ∧ impl_AddVectors.f k a b p = some (addOut a b p) := by
  unfold spec_AddVectors.f impl_AddVectors.f addOut
  rw [two_tells p (by omega) (by omega) hk, vectors_tells a b p (by omega)]
  by_cases hc : codeTwo a b p = 0
  · obtain ⟨hp, _, h3, h4, h5⟩ := codeTwo_zero.mp hc
    have hp2 := isP_ge hp
    obtain ⟨e1, e2⟩ := add_tells (c := 1) hp2.1 hp2.2 h5 (by omega) (fun j => getD_in hp2.1 h3 j) (fun j => getD_in hp2.1 h4 j) (by omega) (by omega) (k := k) (by omega)
    simp [hc, e1, e2]
  · simp [hc]
theorem FnExactAddVectors_pure : laws_FnExactAddVectors.Pure := by
  intro a b p _ ha _ _ hb _ _
  by_cases h1 : (a.length : Int) > 1048576
  · exact ⟨0, by unfold laws_FnExactAddVectors.f; rw [if_pos h1]⟩
  by_cases h2 : (b.length : Int) > 1048576
  · exact ⟨0, by unfold laws_FnExactAddVectors.f; rw [if_neg h1, if_pos h2]⟩
  have ho := addOut_length a b p
  obtain ⟨B, hB⟩ : ∃ B, B = 21 + a.length + b.length := ⟨_, rfl⟩
  have c1 : ∀ k, B ≤ k → laws_toInt64S.f k a = some a := fun k hk => copy_tells (by omega) (by omega)
  have c1' : ∀ k, B ≤ k → laws_toInt64S.f k b = some b := fun k hk => copy_tells (by omega) (by omega)
  have c2 : ∀ k, B ≤ k → spec_AddVectors.f k a b p = some (addOut a b p) := fun k hk => (both_add p (by omega) (by omega) (by omega)).1
  have c3 : ∀ k, B ≤ k → impl_AddVectors.f k a b p = some (addOut a b p) := fun k hk => (both_add p (by omega) (by omega) (by omega)).2
  generalize addOut a b p = o at *
  obtain ⟨o, code⟩ := o
  dsimp only at ho
  have c4 : ∀ k, B ≤ k → laws_eqInt64S.f k a a = some true := fun k hk => by rw [eq_tells (by omega) (by omega)]; simp
  have c4' : ∀ k, B ≤ k → laws_eqInt64S.f k b b = some true := fun k hk => by rw [eq_tells (by omega) (by omega)]; simp
  have c5 : ∀ k, B ≤ k → laws_eqInt64S.f k o o = some true := fun k hk => by rw [eq_tells (by omega) (by omega)]; simp
  have c6 : ∀ k, B ≤ k → laws_markInt64S.f k a 1 = some (1 + (a.length : Int), iota 1 a.length) := fun k hk => mark_tells (by omega) (by omega) (by omega) (by omega)
  have c6' : ∀ k, B ≤ k → laws_markInt64S.f k b (1 + a.length) = some (1 + (a.length : Int) + (b.length : Int), iota (1 + (a.length : Int)) b.length) := fun k hk => mark_tells (by omega) (by omega) (by omega) (by omega)
  have c7 : ∀ k, B ≤ k → laws_markInt64S.f k o 1 = some (1 + (o.length : Int), iota 1 o.length) := fun k hk => mark_tells (by omega) (by omega) (by omega) (by omega)
  have c8 : ∀ k, B ≤ k → laws_heldInt64S.f k (iota 1 o.length) 1 = some (1 + (o.length : Int)) := fun k hk => held_tells (by omega) (by omega) (by omega) (by omega)
  have n1 : ¬ (1 + (a.length : Int) + (b.length : Int) < 0) := by omega
  have n2 : ¬ (1 + (o.length : Int) < 0) := by omega
  refine ⟨B + 1 + 1 + 1, ?_⟩
  unfold laws_FnExactAddVectors.f
  rw [if_neg h1, if_neg h2]
  simp (disch := omega) only [Option.bind_some, if_true, if_false, bne_self_eq_false, Bool.false_eq_true, c1, c1', c2, c3, c4, c4', c5, c6, c6', c7, c8, n1, n2]
  simp only [laws_FnExactAddVectors.j0]
  simp (disch := omega) only [Option.bind_some, if_true, if_false, bne_self_eq_false, Bool.false_eq_true, c1, c1', c2, c3, c4, c4', c5, c6, c6', c7, c8, n1, n2]
  simp only [laws_FnExactAddVectors.j1]
  simp (disch := omega) only [Option.bind_some, if_true, if_false, bne_self_eq_false, Bool.false_eq_true, c1, c1', c2, c3, c4, c4', c5, c6, c6', c7, c8, n1, n2]
  simp only [laws_FnExactAddVectors.j2]
  simp (disch := omega) only [Option.bind_some, if_true, if_false, bne_self_eq_false, Bool.false_eq_true, c1, c1', c2, c3, c4, c4', c5, c6, c6', c7, c8, n1, n2]
end Go.Proofs.Ytfiffkjfmpngfaa.F
namespace Go.Proofs.Ytfiffkjfmpngfaa.Pure
theorem FnExactAddVectors : F.laws_FnExactAddVectors.Pure := F.FnExactAddVectors_pure
end Go.Proofs.Ytfiffkjfmpngfaa.Pure
end

section
namespace Go.Proofs.Ytfiffkjfmpngfaa.fnExactAddVectors
open Go.ChangeShapes Go.WideShapes Go.ChangeAt Go.RowKit
open Go.ChangeMaps (open_string shut_string)
set_option linter.unusedVariables false
theorem own : ownKnob Try.prog.godebug = none := by kernel_rfl
theorem laidOut : laidOutB Try.prog = true := by kernel_rfl
def IsRow (k : IntKind) (w : World) (a : Option Addr) (len cap : Nat) (zs : List Int) : Prop :=
  (a = none ∧ len = 0 ∧ cap = 0 ∧ zs = []) ∨
  ∃ x, a = some x ∧ len ≤ cap ∧ cap ≤ maxLen ∧ zs.length = cap ∧ (∀ i, i < zs.length → w.cell? (x.add i) = some (.int k (zs.getD i 0))) ∧ ∀ n ∈ zs, (Lit.int k n).wf = true
set_option maxRecDepth 100000 in
theorem lifted (os : Os) (started : os.Started) (H : Type) (enc : TypeId × Value → H) :
    ReturnsInHanded {} Try.checked os 11 .any (Rows.fnExactAddVectorsSpec.pre6 enc Try.prog Try.f11 Rows.fnExactAddVectorsRow.domain false) (Rows.fnExactAddVectorsSpec.post enc Try.prog Try.f11 false true false false) := by
  refine returnsInHanded_of_change_sized (C := Try.checked) own started (by kernel_rfl) Try.func11
    (ChangeSpec.witness6 (enc := enc) (C := Try.checked) false ⟨#[], #[.slice none 0 0, .slice none 0 0, .int .i64 0], []⟩ 8 (by kernel_rfl) (by kernel_rfl) (by kernel_rfl) (by kernel_rfl)) ?_
  intro W base args ds gs before hval0 hW hcnd hsz0 _
  have hsz : (DataW.weightsEach Try.prog (Try.f11.params.toList ++ Rows.fnExactAddVectorsSpec.plain.varTypes Try.prog) (ds ++ gs)).all (· ≤ reachBytes) = true := hsz0
  have hval : ∀ (j : Nat) t v, Try.f11.params[j]? = some t → args[j]? = some v → Value.okWide Try.prog W .any base t v := hval0
  have hW' := hW
  obtain ⟨p, q, hA0, hV, rfl, hfz, hnd⟩ := hW
  have hA : DataW.TrodAll enc Try.prog W 0 (fun _ => true) true Try.f11.params.toList args.toList ds p := hA0
  rw [Try.params11] at hA hval hsz
  obtain ⟨v0, vs0, d0, ds0, p0, q0, hargs, rfl, rfl, h0, r0⟩ := trodAll_cons hA
  obtain ⟨v1, vs1, d1, ds1, p1, q1, rfl, rfl, rfl, h1, r1⟩ := trodAll_cons r0
  obtain ⟨v2, vs2, d2, ds2, p2, q2, rfl, rfl, rfl, h2, r2⟩ := trodAll_cons r1
  obtain ⟨rfl, rfl, rfl⟩ := trodAll_nil r2
  obtain rfl : args = #[v0, v1, v2] := by cases args; simp_all
  obtain ⟨rfl, rfl⟩ := trodVars_none hV
  obtain ⟨a0, len0, cap0, rfl⟩ := okWide_slice Try.underlying27 (hval 0 27 v0 rfl rfl)
  have k0 := h0
  have lt0 : ∀ x ∈ p0, x.block < W.heap.size := by obtain ⟨m, hm⟩ := k0; exact DataW.trod_lt m _ _ _ hm
  obtain ⟨z0, w0⟩ : ∃ zs, IsRow .i64 W a0 len0 cap0 zs := by
    obtain ⟨fuel, hf⟩ := h0
    rcases open_ints Try.underlying27 Try.underlying2 (by kernel_rfl) hf with ⟨hcs, _⟩ | ⟨x, l, c, zs, hcs, _, hl, hm, hz, _, hcell, hwz⟩
    · simp [Value.cells] at hcs
      obtain ⟨rfl, rfl, rfl⟩ := hcs
      exact ⟨[], .inl ⟨rfl, rfl, rfl, rfl⟩⟩
    · simp [Value.cells] at hcs
      obtain ⟨rfl, rfl, rfl⟩ := hcs
      exact ⟨zs, .inr ⟨_, rfl, hl, hm, by simpa using hz, hcell, hwz⟩⟩
  have y0 : len0 * 8 ≤ 140737488351232 := Go.Proofs.YtfiffkjfmpngfaaW.PrintWords.sized_ints hsz (j := 0) (t := 27) rfl rfl Try.underlying27 Try.underlying2 (by kernel_rfl) (by kernel_rfl) h0
  obtain ⟨a1, len1, cap1, rfl⟩ := okWide_slice Try.underlying27 (hval 1 27 v1 rfl rfl)
  have k1 := h1
  have lt1 : ∀ x ∈ p1, x.block < W.heap.size := by obtain ⟨m, hm⟩ := k1; exact DataW.trod_lt m _ _ _ hm
  obtain ⟨z1, w1⟩ : ∃ zs, IsRow .i64 W a1 len1 cap1 zs := by
    obtain ⟨fuel, hf⟩ := h1
    rcases open_ints Try.underlying27 Try.underlying2 (by kernel_rfl) hf with ⟨hcs, _⟩ | ⟨x, l, c, zs, hcs, _, hl, hm, hz, _, hcell, hwz⟩
    · simp [Value.cells] at hcs
      obtain ⟨rfl, rfl, rfl⟩ := hcs
      exact ⟨[], .inl ⟨rfl, rfl, rfl, rfl⟩⟩
    · simp [Value.cells] at hcs
      obtain ⟨rfl, rfl, rfl⟩ := hcs
      exact ⟨zs, .inr ⟨_, rfl, hl, hm, by simpa using hz, hcell, hwz⟩⟩
  have y1 : len1 * 8 ≤ 140737488351232 := Go.Proofs.YtfiffkjfmpngfaaW.PrintWords.sized_ints hsz (j := 1) (t := 27) rfl rfl Try.underlying27 Try.underlying2 (by kernel_rfl) (by kernel_rfl) h1
  obtain ⟨a2, rfl, rfl, rfl, w2⟩ := open_int Try.underlying2 (hval 2 2 v2 rfl rfl) h2
  clear hA0 hval0 hsz0 hsz
  refine (F.laws_FnExactAddVectors.walk Pure.FnExactAddVectors a0 len0 cap0 z0 a1 len1 cap1 z1 a2 W w0 y0 w1 y1 w2).mono fun e W' ⟨he, bel⟩ => ?_
  subst he
  exact ⟨_, rfl, _, _, _, [], _, [], hW', trodAll_mk1 (shut_bool Try.underlying4 _), (trodAll_cons_mk (Below.trod laidOut (by kernel_rfl) (of_decide_eq_true (by kernel_rfl)) k0 bel lt0) (trodAll_cons_mk (Below.trod laidOut (by kernel_rfl) (of_decide_eq_true (by kernel_rfl)) k1 bel lt1) (trodAll_cons_mk (shut_int Try.underlying2 w2) trodAll_mk0))), rfl, bel.frame _, fun h => by cases h⟩
theorem over : Rows.fnExactAddVectorsRow.holds Try.pinned (OpenSpec.ofChange Rows.fnExactAddVectorsSpec) :=
  OpenClaim.holds_of_wide 11 Try.f11 rfl rfl rfl rfl rfl rfl rfl ⟨rfl, rfl, rfl, rfl, rfl⟩ rfl rfl rfl rfl rfl (by kernel_rfl) Try.func11 (by kernel_rfl)
    (of_decide_eq_true (by kernel_rfl)) (by unfold Func.isWrapper; first | (rw [if_pos (by decide +kernel)]; kernel_rfl) | (rw [if_neg (by decide +kernel)]; exact ⟨rfl, rfl⟩))
    (fun os started H enc _ => lifted os started H enc)
theorem proved : Rows.FnExactAddVectorsSaid := over
#print axioms proved
end Go.Proofs.Ytfiffkjfmpngfaa.fnExactAddVectors
namespace Go.Proofs.Ytfiffkjfmpngfaa
/-- The row, under a short name, for the claim. -/
theorem fnExactAddVectors_holds : Rows.FnExactAddVectorsSaid := fnExactAddVectors.proved
end Go.Proofs.Ytfiffkjfmpngfaa
end
