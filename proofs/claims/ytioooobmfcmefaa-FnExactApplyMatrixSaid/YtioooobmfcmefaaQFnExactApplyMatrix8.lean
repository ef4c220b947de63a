-- Texts of this claim, merged by pack.py (a program of this session's).
import Derived.Test.YtioooobmfcmefaaQFnExactApplyMatrix1
import Derived.Test.YtioooobmfcmefaaQFnExactApplyMatrix2
import Derived.Test.YtioooobmfcmefaaQFnExactApplyMatrix4
import Derived.Test.YtioooobmfcmefaaQFnExactApplyMatrix7
import Derived.KernelRfl
import Derived.Test.YtioooobmfcmefaaQFnExactApplyMatrix0
import Derived.Test.YtioooobmfcmefaaQFnExactApplyMatrix3
import Derived.Test.YtioooobmfcmefaaQFnExactApplyMatrix5
import Derived.Test.YtioooobmfcmefaaQFnExactApplyMatrix6
import Derived.Test.YtioooobmfcmefaaRows
import Derived.WalkKit
import Derived.ProofKit
import Derived.OpenShut
import Derived.ShutString
import Derived.ChangeOld
import Derived.Below
import Derived.SizedLaws
import Derived.Lib.SmallJoins
import Derived.Test.YtioooobmfcmefaaWSized

section
set_option linter.unusedVariables false
set_option linter.unusedSimpArgs false
set_option linter.unusedSectionVars false
namespace Go.Proofs.Ytioooobmfcmefaa.F
open Go.RowKit Go.Proofs.YtioooobmfcmefaaW.PrintWords Go.Proofs.YtioooobmfcmefaaW.PrintLast Go.Proofs.Ytioooobmfcmefaa.Lin

/-- All numbers of a list are numbers modulo p. -/
def allM (l : List Int) (p : Int) : Bool := l.all fun x => decide (0 ≤ x) && decide (x < p)
theorem allM_iff {l : List Int} {p : Int} : allM l p = true ↔ ∀ x, x ∈ l → 0 ≤ x ∧ x < p := by unfold allM; simp
theorem areM_tells {l : List Int} {p : Int} (hp : isP p = true) : impl_areElements.f l p = some (allM l p) := by
  have := isP_ge hp
  unfold impl_areElements.f allM
  rw [w64_id (x := p - 1) (by omega) (by omega)]
  congr 1
  induction l with
  | nil => rfl
  | cons x l ih =>
    simp only [List.any_cons, List.all_cons, Bool.not_or, Bool.not_not]
    rw [ih]
    congr 2
    rw [decide_eq_decide]; omega
theorem allM_drop {l : List Int} {p : Int} {i : Nat} (h : i < l.length) : allM (l.drop i) p = (decide (0 ≤ l.getD i 0 ∧ l.getD i 0 ≤ p - 1) && allM (l.drop (i + 1)) p) := by
  rw [List.drop_eq_getElem_cons h]
  unfold allM
  simp only [List.all_cons]
  congr 1
  rw [getD_at h, ← Bool.decide_and, decide_eq_decide]; omega
theorem getD_inM {l : List Int} {p : Int} (hp : 2 ≤ p) (h : ∀ x, x ∈ l → 0 ≤ x ∧ x < p) (j : Nat) : 0 ≤ l.getD j 0 ∧ l.getD j 0 < p := by
  by_cases hj : j < l.length
  · rw [getD_at hj]; exact h _ (List.getElem_mem hj)
  · rw [List.getD_eq_getElem?_getD, List.getElem?_eq_none (by omega)]; simp; omega
theorem column_loop {l : List Int} {n p : Int} (hp : 2 ≤ p) (hp' : p ≤ 251) (hl : l.length ≤ 35184372088832) (d : Nat) : ∀ (k i : Nat), l.length - i = d → i ≤ l.length → d < k →
    spec_l03Column.l0 k l n p i = some (allM (l.drop i) p && decide ((l.length : Int) = n)) := by
  induction d with
  | zero =>
    intro k i hd hi hk
    obtain ⟨k, rfl⟩ : ∃ m, k = m + 1 := ⟨k - 1, by omega⟩
    simp only [spec_l03Column.l0]
    rw [if_neg (by omega), show l.drop i = [] from List.drop_eq_nil_of_le (by omega)]
    simp only [allM, List.all_nil, Bool.true_and]
    congr 1
  | succ d ih =>
    intro k i hd hi hk
    obtain ⟨k, rfl⟩ : ∃ m, k = m + 1 := ⟨k - 1, by omega⟩
    simp only [spec_l03Column.l0]
    rw [if_pos (by omega), if_pos (by omega), rd_nat, w64_id (x := p - 1) (by omega) (by omega), in_tells, w64_succ (n := l.length) (by omega) hl, allM_drop (i := i) (by omega)]
    simp only [Option.bind_some]
    cases h : decide (0 ≤ l.getD i 0 ∧ l.getD i 0 ≤ p - 1) with
    | false => simp
    | true => rw [if_pos rfl, ih k (i + 1) (by omega) (by omega) (by omega)]; simp
theorem column_tells {l : List Int} {n p : Int} (hp : 2 ≤ p) (hp' : p ≤ 251) (hl : l.length ≤ 35184372088832) {k : Nat} (hk : l.length < k) : spec_l03Column.f k l n p = some (allM l p && decide ((l.length : Int) = n)) := by
  unfold spec_l03Column.f
  exact column_loop hp hp' hl l.length k 0 (by omega) (by omega) hk
/-- A matrix of numbers modulo a prime, its sides at most 32. -/
def matOk (p r c : Int) (l : List Int) : Bool := isP p && (decide (0 ≤ r ∧ r ≤ 32) && (decide (0 ≤ c ∧ c ≤ 32) && (decide ((l.length : Int) = r * c) && allM l p)))
theorem matOk_iff {p r c : Int} {l : List Int} : matOk p r c l = true ↔ isP p = true ∧ (0 ≤ r ∧ r ≤ 32) ∧ (0 ≤ c ∧ c ≤ 32) ∧ (l.length : Int) = r * c ∧ ∀ x, x ∈ l → 0 ≤ x ∧ x < p := by
  unfold matOk; simp only [Bool.and_eq_true, decide_eq_true_eq, allM_iff]
theorem side_mulI {r c : Int} (hr : 0 ≤ r ∧ r ≤ 32) (hc : 0 ≤ c ∧ c ≤ 32) : wrap64 (r * c) = r * c ∧ 0 ≤ r * c ∧ r * c ≤ 1024 := by
  have h1 := Int.mul_nonneg hr.1 hc.1
  have h2 : r * c ≤ 32 * 32 := Int.mul_le_mul hr.2 hc.2 hc.1 (by omega)
  exact ⟨w64_id (by omega) (by omega), h1, by omega⟩
theorem specOk_tells (p r c : Int) {l : List Int} (hl : l.length ≤ 35184372088832) {k : Nat} (hk : l.length + 20 < k) : spec_l03Ok.f k p r c l = some (matOk p r c l) := by
  unfold spec_l03Ok.f matOk
  rw [specPrime_tells p (by omega)]
  cases hp : isP p with
  | false => simp
  | true =>
    have hp2 := isP_ge hp
    rw [in_tells, in_tells]
    by_cases h1 : 0 ≤ r ∧ r ≤ 32
    · by_cases h2 : 0 ≤ c ∧ c ≤ 32
      · rw [(side_mulI h1 h2).1, column_tells hp2.1 hp2.2 hl (by omega)]
        simp only [h1, h2, and_self, decide_true, Option.bind_some, if_true, Bool.true_and]
        rw [Bool.and_comm]
      · simp only [h1, h2, and_self, decide_true, decide_false, Option.bind_some, if_true, Bool.true_and, Bool.false_and]; rfl
    · simp only [h1, decide_false, Option.bind_some, if_true, Bool.true_and, Bool.false_and]; rfl
theorem implOk_tells (p r c : Int) {l : List Int} {k : Nat} (hk : 20 ≤ k) : impl_ValidMatrix.f k p r c l = some (matOk p r c l) := by
  unfold impl_ValidMatrix.f matOk
  rw [ask_prime, prime_tells p hk]
  cases hp : isP p with
  | false => simp
  | true =>
    have hp2 := isP_ge hp
    rw [side_tells, side_tells, areM_tells hp]
    by_cases h1 : 0 ≤ r ∧ r ≤ 32
    · by_cases h2 : 0 ≤ c ∧ c ≤ 32
      · rw [(side_mulI h1 h2).1]
        unfold impl_size_int64.f
        simp only [h1, h2, and_self, decide_true, Option.bind_some, if_true, Bool.true_and]
        by_cases h3 : (l.length : Int) = r * c
        · simp [h3]
        · simp [h3]
      · simp only [h1, h2, and_self, decide_true, decide_false, Option.bind_some, if_true, Bool.true_and, Bool.false_and]; rfl
    · simp only [h1, decide_false, Option.bind_some, if_true, Bool.true_and, Bool.false_and]; rfl
theorem szMatrix_tells (p r c : Int) {l : List Int} (hl : l.length ≤ maxLen) : laws_szMatrix.f p r c l 1048576 = some (if l.length ≤ 1048576 then 1048576 - (l.length : Int) else -1) := by
  unfold laws_szMatrix.f laws_szInt64S.f
  have hl : l.length ≤ 9223372036854775807 := hl
  rw [w64_id (x := 1048576 - (l.length : Int)) (by omega) (by omega)]
  by_cases h : l.length ≤ 1048576
  · rw [if_neg (by omega), if_pos h]
    simp only [Option.bind_some]
    rw [if_neg (by omega)]
  · rw [if_pos (by omega), if_neg h]; rfl
theorem toMatrix_tells (p r c : Int) {l : List Int} (hl : l.length ≤ 35184372088832) {k : Nat} (hk : l.length < k) : laws_toMatrix.f k p r c l = some (p, r, c, l) := by
  unfold laws_toMatrix.f
  rw [copy_tells hl hk]; rfl
theorem mul_small {p x y : Int} (hp : 2 ≤ p) (hp' : p ≤ 251) (hx : 0 ≤ x) (hx' : x ≤ 251) (hy : 0 ≤ y) (hy' : y < p) : 0 ≤ x * y ∧ x * y ≤ 63001 := by
  have g1 := Int.mul_nonneg hx hy
  have g2 : x * y ≤ 251 * 251 := Int.mul_le_mul hx' (by omega) hy (by omega)
  omega
theorem dimsM {p r c : Int} {l : List Int} (h : matOk p r c l = true) : ∃ R C : Nat, r = R ∧ c = C ∧ R ≤ 32 ∧ C ≤ 32 ∧ l.length = R * C ∧ (2 ≤ p ∧ p ≤ 251) ∧ ∀ j, 0 ≤ l.getD j 0 ∧ l.getD j 0 < p := by
  obtain ⟨hp, hr, hc, hl, hx⟩ := matOk_iff.mp h
  obtain ⟨R, rfl⟩ := Int.eq_ofNat_of_zero_le hr.1
  obtain ⟨C, rfl⟩ := Int.eq_ofNat_of_zero_le hc.1
  exact ⟨R, C, rfl, rfl, by omega, by omega, by exact_mod_cast hl, isP_ge hp, fun j => getD_inM (isP_ge hp).1 hx j⟩
end Go.Proofs.Ytioooobmfcmefaa.F
end

section
set_option linter.unusedVariables false
set_option linter.unusedSimpArgs false
set_option linter.unusedSectionVars false
namespace Go.Proofs.Ytioooobmfcmefaa.F
open Go.RowKit Go.Proofs.YtioooobmfcmefaaW.PrintWords Go.Proofs.YtioooobmfcmefaaW.PrintLast Go.Proofs.Ytioooobmfcmefaa.Lin

theorem szMatrix_at (p r c : Int) {l : List Int} (hl : l.length ≤ maxLen) {left : Int} (h0 : 0 ≤ left) (h1 : left ≤ 1048576) : laws_szMatrix.f p r c l left = some (if (l.length : Int) ≤ left then left - (l.length : Int) else -1) := by
  unfold laws_szMatrix.f laws_szInt64S.f
  have hl : l.length ≤ 9223372036854775807 := hl
  rw [w64_id (x := left - (l.length : Int)) (by omega) (by omega)]
  by_cases h : (l.length : Int) ≤ left
  · rw [if_neg (by omega), if_pos h]
    simp only [Option.bind_some]
    rw [if_neg (by omega)]
  · rw [if_pos (by omega), if_neg h]; rfl
theorem markMatrix_at {p r c m : Int} {l : List Int} (hm : 0 ≤ m) (hm' : m ≤ 35184372088832) (hl : l.length ≤ 35184372088832) {k : Nat} (hk : l.length < k) : laws_markMatrix.f k p r c l m = some (m + (l.length : Int), iota m l.length) := by
  unfold laws_markMatrix.f
  rw [mark_tells hm (by omega) hl hk]; rfl
theorem both_tells (p r c : Int) {l : List Int} (p' r' c' : Int) {l' : List Int} (hl : l.length ≤ 35184372088832) (hl' : l'.length ≤ 35184372088832) {k : Nat} (hk : l.length + 20 < k) (hk' : l'.length + 20 < k) :
    spec_l03Both.f k p r c l p' r' c' l' = some (matOk p r c l && matOk p' r' c' l') := by
  unfold spec_l03Both.f
  rw [specOk_tells p r c hl hk, specOk_tells p' r' c' hl' hk']
  cases matOk p r c l <;> rfl
end Go.Proofs.Ytioooobmfcmefaa.F
end

section
set_option linter.unusedVariables false
set_option linter.unusedSimpArgs false
set_option linter.unusedSectionVars false
namespace Go.Proofs.Ytioooobmfcmefaa.F
open Go.RowKit Go.Proofs.YtioooobmfcmefaaW.PrintWords Go.Proofs.YtioooobmfcmefaaW.PrintLast Go.Proofs.Ytioooobmfcmefaa.Lin

theorem slice_row {l : List Int} {r c i : Nat} (hl : l.length = r * c) (hi : i < r) : (l.take ((i + 1) * c)).drop (i * c) = (List.range c).map (fun j => l.getD (i * c + j) 0) := by
  have h1 : (i + 1) * c ≤ r * c := Nat.mul_le_mul_right _ hi
  have h2 := Nat.succ_mul i c
  have h4 : ((l.take ((i + 1) * c)).drop (i * c)).length = c := by
    rw [List.length_drop, List.length_take, Nat.min_eq_left (by rw [hl]; exact h1), h2, Nat.add_sub_cancel_left]
  refine List.ext_getElem (by rw [h4]; simp) (fun j hj hj' => ?_)
  have hj2 : j < c := by rw [h4] at hj; exact hj
  have h3 := at_lt hi hj2
  rw [List.getElem_drop, List.getElem_take, List.getElem_map, List.getElem_range, List.getD_eq_getElem?_getD, List.getElem?_eq_getElem (by omega)]
  rfl
end Go.Proofs.Ytioooobmfcmefaa.F
end

section
set_option linter.unusedVariables false
set_option linter.unusedSimpArgs false
set_option linter.unusedSectionVars false
namespace Go.Proofs.Ytioooobmfcmefaa.F
open Go.RowKit Go.Proofs.YtioooobmfcmefaaW.PrintWords Go.Proofs.YtioooobmfcmefaaW.PrintLast Go.Proofs.Ytioooobmfcmefaa.Lin

/-- A row of a matrix times a column: the first n products' sum. -/
def rowS (c : Nat) (v l : List Int) (i n : Nat) : Int := ((List.range n).map (fun j => l.getD (i * c + j) 0 * v.getD j 0)).sum
theorem rowS_succ (c : Nat) (v l : List Int) (i n : Nat) : rowS c v l i (n + 1) = rowS c v l i n + l.getD (i * c + n) 0 * v.getD n 0 := by
  unfold rowS
  rw [List.range_succ, List.map_append, List.sum_append]
  simp
theorem rowS_range {p : Int} (hp : 2 ≤ p) (hp' : p ≤ 251) {v l : List Int} (hl : ∀ j, 0 ≤ l.getD j 0 ∧ l.getD j 0 < p) (hv : ∀ j, 0 ≤ v.getD j 0 ∧ v.getD j 0 < p) (c i n : Nat) : 0 ≤ rowS c v l i n ∧ rowS c v l i n ≤ n * 63001 := by
  induction n with
  | zero => unfold rowS; simp
  | succ n ih =>
    rw [rowS_succ]
    have := mul_small hp hp' (hl (i * c + n)).1 (by have := (hl (i * c + n)).2; omega) (hv n).1 (hv n).2
    push_cast
    omega
theorem dotI_loop {a b : List Int} {p : Int} (hp : 2 ≤ p) (hp' : p ≤ 251) (hl : a.length = b.length) (hn : a.length ≤ 35184372088832) (ha : ∀ j, 0 ≤ a.getD j 0 ∧ a.getD j 0 < p) (hb : ∀ j, 0 ≤ b.getD j 0 ∧ b.getD j 0 < p) (d : Nat) :
    ∀ (k i : Nat) (s : Int), a.length - i = d → i ≤ a.length → d < k → s = rowS 0 b a 0 i % p → impl_dot.l0 k a b p s a.length i = some (rowS 0 b a 0 a.length % p) := by
  induction d with
  | zero =>
    intro k i s hd hi hk hs
    obtain ⟨k, rfl⟩ : ∃ m, k = m + 1 := ⟨k - 1, by omega⟩
    obtain rfl : i = a.length := by omega
    simp only [impl_dot.l0]
    rw [if_neg (by omega), hs]
  | succ d ih =>
    intro k i s hd hi hk hs
    obtain ⟨k, rfl⟩ : ∃ m, k = m + 1 := ⟨k - 1, by omega⟩
    simp only [impl_dot.l0]
    have h1 : (i : Int) < (a.length : Int) := by omega
    have h2 : (i : Int) < (b.length : Int) := by omega
    have h0 : (0 : Int) ≤ (i : Int) := by omega
    have hp0 : ¬ p = 0 := by omega
    have hs2 : 0 ≤ s ∧ s < p := by rw [hs]; exact ⟨Int.emod_nonneg _ (by omega), Int.emod_lt_of_pos _ (by omega)⟩
    have hm := mul_small hp hp' (ha i).1 (by have := (ha i).2; omega) (hb i).1 (hb i).2
    have e : Int.tmod (wrap64 (s + wrap64 (rd a i * rd b i))) p = rowS 0 b a 0 (i + 1) % p := by
      rw [rd_nat, rd_nat, w64_id (x := a.getD i 0 * b.getD i 0) (by omega) (by omega), w64_id (x := s + a.getD i 0 * b.getD i 0) (by omega) (by omega), Int.tmod_eq_emod_of_nonneg (by omega), rowS_succ, hs, Int.emod_add_emod]
      congr 3
      rw [show 0 * 0 + i = i by omega]
    simp only [h0, h1, h2, hp0, if_true, if_false]
    rw [e, w64_succ (n := a.length) (by omega) hn]
    exact ih k (i + 1) _ (by omega) (by omega) (by omega) rfl
theorem dotI_tells {a b : List Int} {p : Int} (hp : 2 ≤ p) (hp' : p ≤ 251) (hl : a.length = b.length) (hn : a.length ≤ 35184372088832) (ha : ∀ j, 0 ≤ a.getD j 0 ∧ a.getD j 0 < p) (hb : ∀ j, 0 ≤ b.getD j 0 ∧ b.getD j 0 < p) {k : Nat} (hk : a.length < k) :
    impl_dot.f k a b p = some (rowS 0 b a 0 a.length % p) := by
  unfold impl_dot.f
  exact dotI_loop hp hp' hl hn ha hb a.length k 0 0 (by omega) (by omega) hk (by unfold rowS; simp)
theorem mapD {n j : Nat} (f : Nat → Int) (h : j < n) : ((List.range n).map f).getD j 0 = f j := by simp [List.getD_eq_getElem?_getD, h]
theorem mapD_in {p : Int} (hp : 2 ≤ p) {n : Nat} {f : Nat → Int} (h : ∀ j, 0 ≤ f j ∧ f j < p) (j : Nat) : 0 ≤ ((List.range n).map f).getD j 0 ∧ ((List.range n).map f).getD j 0 < p := by
  by_cases hj : j < n
  · rw [mapD f hj]; exact h j
  · rw [List.getD_eq_getElem?_getD, List.getElem?_eq_none (by simp; omega)]; simp; omega
theorem rowS_congr {c i : Nat} {v l a : List Int} (n : Nat) (h : ∀ j, j < n → a.getD j 0 = l.getD (i * c + j) 0) : rowS 0 v a 0 n = rowS c v l i n := by
  induction n with
  | zero => rfl
  | succ n ih => rw [rowS_succ, rowS_succ, ih (fun j hj => h j (by omega)), show 0 * 0 + n = n by omega, h n (by omega)]
theorem row_tells {p r : Int} {R c : Nat} {l v : List Int} (hp : 2 ≤ p) (hp' : p ≤ 251) (hR : R ≤ 64) (hc : c ≤ 64) (hlen : l.length = R * c) (hl : ∀ j, 0 ≤ l.getD j 0 ∧ l.getD j 0 < p) (hv : ∀ j, 0 ≤ v.getD j 0 ∧ v.getD j 0 < p) (hvl : v.length = c) {i : Nat} (hi : i < R) {k : Nat} (hk : 64 < k) :
    impl_Matrix_row.f k p r c l i v p = some (rowS c v l i c % p) := by
  have a1 : i ≤ 128 := by omega
  have a2 : i + 1 ≤ 128 := by omega
  have a3 : c ≤ 128 := by omega
  have a8 : R ≤ 35184372088832 := by omega
  have a9 : c < k := by omega
  have a10 : c ≤ 35184372088832 := by omega
  have g1 : (i + 1) * c ≤ R * c := Nat.mul_le_mul_right _ hi
  have g3 : (i + 1) * c = i * c + c := Nat.succ_mul i c
  have n1 : (0 : Int) ≤ ((i * c : Nat) : Int) := Int.natCast_nonneg _
  have n2 : ((i * c : Nat) : Int) ≤ (((i + 1) * c : Nat) : Int) := Int.ofNat_le.mpr (by rw [g3]; exact Nat.le_add_right _ _)
  have n3 : (((i + 1) * c : Nat) : Int) ≤ (l.length : Int) := Int.ofNat_le.mpr (by rw [hlen]; exact g1)
  have e1 : wrap64 ((i : Int) + 1) = ((i + 1 : Nat) : Int) := w64_succ (n := R) hi a8
  have m1 := w64_mulN a1 a3
  have m2 := w64_mulN a2 a3
  unfold impl_Matrix_row.f
  rw [e1, m1, m2, if_pos n1, if_pos n2, if_pos n3, Int.toNat_natCast, Int.toNat_natCast, slice_row hlen hi]
  have hz : ((List.range c).map (fun j => l.getD (i * c + j) 0)).length = c := by simp
  have := dotI_tells (a := (List.range c).map (fun j => l.getD (i * c + j) 0)) hp hp' (by rw [hz, hvl]) (by rw [hz]; exact a10) (mapD_in hp (fun j => hl _)) hv (k := k) (by rw [hz]; exact a9)
  rw [this, hz, rowS_congr c (fun j hj => mapD (fun j => l.getD (i * c + j) 0) hj)]
/-- A matrix times a column. -/
def applied (p : Int) (r c : Nat) (l v : List Int) : List Int := (List.range r).map (fun i => rowS c v l i c % p)
theorem applied_snoc (p : Int) (r c : Nat) (l v : List Int) : applied p r c l v ++ [rowS c v l r c % p] = applied p (r + 1) c l v := by
  unfold applied; rw [List.range_succ]; simp
theorem applied_length (p : Int) (r c : Nat) (l v : List Int) : (applied p r c l v).length = r := by unfold applied; simp
theorem implApply_loop {p : Int} {R c : Nat} {l v : List Int} (hp : 2 ≤ p) (hp' : p ≤ 251) (hR : R ≤ 64) (hc : c ≤ 64) (hlen : l.length = R * c) (hl : ∀ j, 0 ≤ l.getD j 0 ∧ l.getD j 0 < p) (hv : ∀ j, 0 ≤ v.getD j 0 ∧ v.getD j 0 < p) (hvl : v.length = c) (d : Nat) :
    ∀ (k i : Nat), R - i = d → i ≤ R → d + 66 < k → impl_apply.l0 k v (applied p i c l v) R i p R c l = some (applied p R c l v) := by
  induction d with
  | zero =>
    intro k i hd hi hk
    obtain ⟨k, rfl⟩ : ∃ m, k = m + 1 := ⟨k - 1, by omega⟩
    obtain rfl : i = R := by omega
    simp only [impl_apply.l0]
    rw [if_neg (by omega)]
  | succ d ih =>
    intro k i hd hi hk
    obtain ⟨k, rfl⟩ : ∃ m, k = m + 1 := ⟨k - 1, by omega⟩
    simp only [impl_apply.l0]
    have e := row_tells (r := (R : Int)) hp hp' hR hc hlen hl hv hvl (show i < R by omega) (k := k) (by omega)
    rw [if_pos (by omega), e]
    simp only [Option.bind_some]
    rw [if_pos (by rw [applied_length]; omega), applied_snoc, w64_succ (n := R) (by omega) (by omega)]
    exact ih k (i + 1) (by omega) (by omega) (by omega)
theorem implApply_tells {p : Int} {R c : Nat} {l v : List Int} (hp : 2 ≤ p) (hp' : p ≤ 251) (hR : R ≤ 64) (hc : c ≤ 64) (hlen : l.length = R * c) (hl : ∀ j, 0 ≤ l.getD j 0 ∧ l.getD j 0 < p) (hv : ∀ j, 0 ≤ v.getD j 0 ∧ v.getD j 0 < p) (hvl : v.length = c) {k : Nat} (hk : 200 ≤ k) :
    impl_apply.f k p R c l v = some (applied p R c l v) := by
  unfold impl_apply.f
  exact implApply_loop hp hp' hR hc hlen hl hv hvl R k 0 (by omega) (by omega) (by omega)
theorem specApply_row {p : Int} {R c : Nat} {l v o : List Int} (hp : 2 ≤ p) (hp' : p ≤ 251) (hR : R ≤ 64) (hc : c ≤ 64) (hlen : l.length = R * c) (hl : ∀ j, 0 ≤ l.getD j 0 ∧ l.getD j 0 < p) (hv : ∀ j, 0 ≤ v.getD j 0 ∧ v.getD j 0 < p) (hvl : v.length = c) {i : Nat} (hi : i < R) (ho : o.length ≤ 64) (d : Nat) :
    ∀ (k j : Nat), c - j = d → j ≤ c → spec_l03Apply.l1 (k + d + 1) v o i (rowS c v l i j) j p R c l = spec_l03Apply.l0 k v (o ++ [rowS c v l i c % p]) ((i + 1 : Nat) : Int) p R c l := by
  induction d with
  | zero =>
    intro k j hd hj
    obtain rfl : j = c := by omega
    rw [show k + 0 + 1 = k + 1 by omega]
    simp only [spec_l03Apply.l1]
    have := rowS_range hp hp' hl hv j i j
    rw [if_neg (by omega), if_neg (by omega), if_pos (by omega), w64_succ (n := R) hi (by omega), Int.tmod_eq_emod_of_nonneg (by omega)]
  | succ d ih =>
    intro k j hd hj
    have hj' : j < c := by omega
    have h1 := at_lt hi hj'
    have hs := rowS_range hp hp' hl hv c i j
    have hm := mul_small hp hp' (hl (i * c + j)).1 (by have := (hl (i * c + j)).2; omega) (hv j).1 (hv j).2
    have hj64 : (j : Int) * 63001 ≤ 64 * 63001 := Int.mul_le_mul_of_nonneg_right (by omega) (by omega)
    rw [show k + (d + 1) + 1 = (k + d + 1) + 1 by omega]
    simp only [spec_l03Apply.l1]
    rw [if_pos (by omega), w64_at (r := R) (by omega) (by omega) (by omega) (by omega), if_pos (by omega), if_pos (by omega), if_pos (by omega), if_pos (by omega), rd_nat, rd_nat, w64_id (x := l.getD (i * c + j) 0 * v.getD j 0) (by omega) (by omega), w64_id (x := rowS c v l i j + l.getD (i * c + j) 0 * v.getD j 0) (by omega) (by omega), ← rowS_succ, w64_succ (n := c) hj' (by omega)]
    exact ih k (j + 1) (by omega) (by omega)
theorem specApply_loop {p : Int} {R c : Nat} {l v : List Int} (hp : 2 ≤ p) (hp' : p ≤ 251) (hR : R ≤ 64) (hc : c ≤ 64) (hlen : l.length = R * c) (hl : ∀ j, 0 ≤ l.getD j 0 ∧ l.getD j 0 < p) (hv : ∀ j, 0 ≤ v.getD j 0 ∧ v.getD j 0 < p) (hvl : v.length = c) (d : Nat) :
    ∀ (k i : Nat), R - i = d → i ≤ R → d * (c + 2) < k → spec_l03Apply.l0 k v (applied p i c l v) i p R c l = some (applied p R c l v) := by
  induction d with
  | zero =>
    intro k i hd hi hk
    obtain ⟨k, rfl⟩ : ∃ m, k = m + 1 := ⟨k - 1, by omega⟩
    obtain rfl : i = R := by omega
    simp only [spec_l03Apply.l0]
    rw [if_neg (by omega)]
  | succ d ih =>
    intro k i hd hi hk
    rw [Nat.succ_mul] at hk
    obtain ⟨k, rfl⟩ : ∃ m, k = m + c + 1 + 1 := ⟨k - c - 1 - 1, by omega⟩
    simp only [spec_l03Apply.l0]
    rw [if_pos (by omega)]
    have := specApply_row hp hp' hR hc hlen hl hv hvl (show i < R by omega) (o := applied p i c l v) (by rw [applied_length]; omega) c k 0 (by omega) (by omega)
    rw [show rowS c v l i 0 = 0 by unfold rowS; simp] at this
    rw [show (0 : Int) = ((0 : Nat) : Int) from rfl] at this ⊢
    rw [this, applied_snoc]
    exact ih k (i + 1) (by omega) (by omega) (by omega)
theorem specApply_tells {p : Int} {R c : Nat} {l v : List Int} (hp : 2 ≤ p) (hp' : p ≤ 251) (hR : R ≤ 64) (hc : c ≤ 64) (hlen : l.length = R * c) (hl : ∀ j, 0 ≤ l.getD j 0 ∧ l.getD j 0 < p) (hv : ∀ j, 0 ≤ v.getD j 0 ∧ v.getD j 0 < p) (hvl : v.length = c) {k : Nat} (hk : 17000 ≤ k) :
    spec_l03Apply.f k p R c l v = some (applied p R c l v) := by
  have h2 : R * (c + 2) ≤ 64 * 66 := Nat.mul_le_mul hR (by omega)
  unfold spec_l03Apply.f
  exact specApply_loop hp hp' hR hc hlen hl hv hvl R k 0 (by omega) (by omega) (by omega)
def applyOut (p r c : Int) (l v : List Int) : List Int × Int := if (matOk p r c l && (allM v p && decide ((v.length : Int) = c))) = true then (applied p r.toNat c.toNat l v, 0) else ([], 1)
theorem spec_applyM (p r c : Int) {l v : List Int} (hl : l.length ≤ 1048576) (hv : v.length ≤ 1048576) {k : Nat} (hk : l.length + v.length + 17000 ≤ k) : spec_ApplyMatrix.f k p r c l v = some (applyOut p r c l v) := by
  unfold spec_ApplyMatrix.f applyOut
  rw [specOk_tells p r c (by omega) (by omega)]
  cases h : matOk p r c l with
  | false => simp
  | true =>
    obtain ⟨R, C, rfl, rfl, h1, h2, h3, hp, hx⟩ := dimsM h
    rw [column_tells hp.1 hp.2 (by omega) (by omega)]
    cases h' : (allM v p && decide ((v.length : Int) = (C : Int))) with
    | false => simp
    | true =>
      rw [Bool.and_eq_true, decide_eq_true_eq] at h'
      have e := specApply_tells hp.1 hp.2 (show R ≤ 64 by omega) (show C ≤ 64 by omega) h3 hx (fun j => getD_inM hp.1 (allM_iff.mp h'.1) j) (show v.length = C by omega) (k := k) (by omega)
      simp only [Option.bind_some, if_true, e, Bool.and_self, Int.toNat_natCast]
theorem impl_applyM (p r c : Int) {l v : List Int} {k : Nat} (hk : 17000 ≤ k) : impl_ApplyMatrix.f k p r c l v = some (applyOut p r c l v) := by
  unfold impl_ApplyMatrix.f applyOut
  rw [implOk_tells p r c (by omega)]
  cases h : matOk p r c l with
  | false => simp
  | true =>
    obtain ⟨hP, _⟩ := matOk_iff.mp h
    obtain ⟨R, C, rfl, rfl, h1, h2, h3, hp, hx⟩ := dimsM h
    rw [areM_tells hP]
    unfold impl_size_int64.f
    simp only [Option.bind_some, if_true, Bool.true_and]
    by_cases hC : (v.length : Int) = (C : Int)
    · cases h' : allM v p with
      | false => simp [hC]
      | true =>
        have e := implApply_tells hp.1 hp.2 (show R ≤ 64 by omega) (show C ≤ 64 by omega) h3 hx (fun j => getD_inM hp.1 (allM_iff.mp h') j) (show v.length = C by omega) (k := k) (by omega)
        simp only [hC, if_true, e, decide_true, Bool.and_self, Option.bind_some, Int.toNat_natCast]
    · simp [hC]
theorem applyOut_length (p r c : Int) (l v : List Int) : (applyOut p r c l v).1.length ≤ 64 := by
  unfold applyOut
  split
  · rename_i h
    rw [Bool.and_eq_true] at h
    obtain ⟨R, C, rfl, rfl, h1, h2, h3, hp, hx⟩ := dimsM h.1
    simp only [applied_length, Int.toNat_natCast]; omega
  · simp
end Go.Proofs.Ytioooobmfcmefaa.F
end

section
/- Both functions refuse the same matrices and columns and return the same product, in memory of its own; the matrix and the column stay as they are. -/
set_option linter.unusedVariables false
set_option linter.unusedSimpArgs false
set_option linter.unusedSectionVars false
namespace Go.Proofs.Ytioooobmfcmefaa.F
open Go.RowKit Go.Proofs.YtioooobmfcmefaaW.PrintWords Go.Proofs.YtioooobmfcmefaaW.PrintLast Go.Proofs.Ytioooobmfcmefaa.Lin

theorem FnExactApplyMatrix_pure : laws_FnExactApplyMatrix.Pure := by
  intro p r c l v _ _ _ hm _ _ _ _
  by_cases hv : v.length ≤ 1048576
  · by_cases hl : l.length ≤ 1048576
    · have ho := applyOut_length p r c l v
      obtain ⟨B, hB⟩ : ∃ B, B = l.length + v.length + 17000 := ⟨_, rfl⟩
      have c1 : ∀ k, B ≤ k → laws_toMatrix.f k p r c l = some (p, r, c, l) := fun k hk => toMatrix_tells p r c (by omega) (by omega)
      have c1' : ∀ k, B ≤ k → laws_toInt64S.f k v = some v := fun k hk => copy_tells (by omega) (by omega)
      have c2 : ∀ k, B ≤ k → spec_ApplyMatrix.f k p r c l v = some (applyOut p r c l v) := fun k hk => spec_applyM p r c hl hv (by omega)
      have c3 : ∀ k, B ≤ k → impl_ApplyMatrix.f k p r c l v = some (applyOut p r c l v) := fun k hk => impl_applyM p r c (by omega)
      generalize applyOut p r c l v = o at *
      obtain ⟨o, code⟩ := o
      dsimp only at ho
      have c4 : ∀ k, B ≤ k → laws_eqMatrix.f k p r c l p r c l = some true := fun k hk => eqMatrix_tells (by omega) (by omega)
      have c4' : ∀ k, B ≤ k → laws_eqInt64S.f k v v = some true := fun k hk => by rw [eq_tells (by omega) (by omega)]; simp
      have c5 : ∀ k, B ≤ k → laws_eqInt64S.f k o o = some true := fun k hk => by rw [eq_tells (by omega) (by omega)]; simp
      have c6 : ∀ k, B ≤ k → laws_markMatrix.f k p r c l 1 = some (1 + (l.length : Int), iota 1 l.length) := fun k hk => markMatrix_tells (by omega) (by omega)
      have c6' : ∀ k, B ≤ k → laws_markInt64S.f k v (1 + (l.length : Int)) = some (1 + (l.length : Int) + (v.length : Int), iota (1 + (l.length : Int)) v.length) := fun k hk => mark_tells (by omega) (by omega) (by omega) (by omega)
      have c7 : ∀ k, B ≤ k → laws_markInt64S.f k o 1 = some (1 + (o.length : Int), iota 1 o.length) := fun k hk => mark_tells (by omega) (by omega) (by omega) (by omega)
      have c8 : ∀ k, B ≤ k → laws_heldInt64S.f k (iota 1 o.length) 1 = some (1 + (o.length : Int)) := fun k hk => held_tells (by omega) (by omega) (by omega) (by omega)
      have n0 : ¬ (1048576 - (l.length : Int) < 0) := by omega
      have n0' : ¬ ((v.length : Int) > 1048576) := by omega
      have n1 : ¬ (1 + (l.length : Int) + (v.length : Int) < 0) := by omega
      have n2 : ¬ (1 + (o.length : Int) < 0) := by omega
      have z1 : laws_szMatrix.f p r c l 1048576 = some (1048576 - (l.length : Int)) := by rw [szMatrix_tells p r c hm, if_pos hl]
      refine ⟨B + 1 + 1 + 1, ?_⟩
      unfold laws_FnExactApplyMatrix.f
      simp (disch := omega) only [z1, Option.bind_some, if_true, if_false, bne_self_eq_false, Bool.false_eq_true, c1, c1', c2, c3, c4, c4', c5, c6, c6', c7, c8, n0, n0', n1, n2]
      simp only [laws_FnExactApplyMatrix.j0]
      simp (disch := omega) only [Option.bind_some, if_true, if_false, bne_self_eq_false, Bool.false_eq_true, c1, c1', c2, c3, c4, c4', c5, c6, c6', c7, c8, n0, n0', n1, n2]
      simp only [laws_FnExactApplyMatrix.j1]
      simp (disch := omega) only [Option.bind_some, if_true, if_false, bne_self_eq_false, Bool.false_eq_true, c1, c1', c2, c3, c4, c4', c5, c6, c6', c7, c8, n0, n0', n1, n2]
      simp only [laws_FnExactApplyMatrix.j2]
      simp (disch := omega) only [Option.bind_some, if_true, if_false, bne_self_eq_false, Bool.false_eq_true, c1, c1', c2, c3, c4, c4', c5, c6, c6', c7, c8, n0, n0', n1, n2]
    · refine ⟨0, ?_⟩
      unfold laws_FnExactApplyMatrix.f
      have n0' : ¬ ((v.length : Int) > 1048576) := by omega
      rw [if_neg n0', szMatrix_tells p r c hm, if_neg hl]
      rfl
  · refine ⟨0, ?_⟩
    unfold laws_FnExactApplyMatrix.f
    rw [if_pos (by omega)]
end Go.Proofs.Ytioooobmfcmefaa.F
namespace Go.Proofs.Ytioooobmfcmefaa.Pure
theorem FnExactApplyMatrix : F.laws_FnExactApplyMatrix.Pure := F.FnExactApplyMatrix_pure
end Go.Proofs.Ytioooobmfcmefaa.Pure
end

section
namespace Go.Proofs.Ytioooobmfcmefaa.fnExactApplyMatrix
open Go.ChangeShapes Go.WideShapes Go.ChangeAt Go.RowKit Go.Joins
open Go.ChangeMaps (open_string shut_string)
set_option linter.unusedVariables false
theorem own : ownKnob Try.prog.godebug = none := by kernel_rfl
theorem laidOut : laidOutB Try.prog = true := by kernel_rfl
/-- A slice's row of whole numbers in memory. -/
def IsRow (k : IntKind) (w : World) (a : Option Addr) (len cap : Nat) (zs : List Int) : Prop :=
  (a = none ∧ len = 0 ∧ cap = 0 ∧ zs = []) ∨
  ∃ x, a = some x ∧ len ≤ cap ∧ cap ≤ maxLen ∧ zs.length = cap ∧ (∀ i, i < zs.length → w.cell? (x.add i) = some (.int k (zs.getD i 0))) ∧ ∀ n ∈ zs, (Lit.int k n).wf = true
/-- A cell that reads as a slice of whole numbers holds one. -/
theorem row_of {H : Type} {enc : TypeId × Value → H} {P : Program} {W : World} {n : Nat} {t e : TypeId} {k : IntKind} {v : Value} {y : DataW H × List MemPlace} (hs : P.underlying t = some (.slice e)) (hi : P.underlying e = some (.int k)) (hc : P.cellsOf e = 1)
    (hf : DataW.trod enc P W 0 (fun _ => true) true n t [v] = some y) : ∃ a len cap zs, v = .slice a len cap ∧ IsRow k W a len cap zs := by
  rcases open_ints hs hi hc hf with ⟨hcs, _⟩ | ⟨x, l, c, zs, hcs, _, hl, hm, hz, _, hcell, hwz⟩
  · simp at hcs
    exact ⟨_, _, _, [], hcs, .inl ⟨rfl, rfl, rfl, rfl⟩⟩
  · simp at hcs
    exact ⟨_, _, _, zs, hcs, .inr ⟨_, rfl, hl, hm, by simpa using hz, hcell, hwz⟩⟩
set_option maxRecDepth 100000 in
theorem lifted (os : Os) (started : os.Started) (H : Type) (enc : TypeId × Value → H) :
    ReturnsInHanded {} Try.checked os 6 .any (Rows.fnExactApplyMatrixSpec.pre6 enc Try.prog Try.f6 Rows.fnExactApplyMatrixRow.domain false) (Rows.fnExactApplyMatrixSpec.post enc Try.prog Try.f6 false true false false) := by
  refine returnsInHanded_of_change_sized (C := Try.checked) own started (by kernel_rfl) Try.func6
    (ChangeSpec.witness6 (enc := enc) (C := Try.checked) false ⟨#[], #[.agg #[.int .i64 0, .int .i64 0, .int .i64 0, .slice none 0 0], .slice none 0 0], []⟩ 8 (by kernel_rfl) (by kernel_rfl) (by kernel_rfl) (by kernel_rfl)) ?_
  intro W base args ds gs before hval0 hW hcnd hsz0 _
  have hsz : (DataW.weightsEach Try.prog (Try.f6.params.toList ++ Rows.fnExactApplyMatrixSpec.plain.varTypes Try.prog) (ds ++ gs)).all (· ≤ reachBytes) = true := hsz0
  have hval : ∀ (j : Nat) t v, Try.f6.params[j]? = some t → args[j]? = some v → Value.okWide Try.prog W .any base t v := hval0
  have hW' := hW
  obtain ⟨p, q, hA0, hV, rfl, hfz, hnd⟩ := hW
  have hA : DataW.TrodAll enc Try.prog W 0 (fun _ => true) true Try.f6.params.toList args.toList ds p := hA0
  rw [Try.params6] at hA hval hsz
  obtain ⟨v0, vs0, d0, ds0, p0, q0, hargs, rfl, rfl, h0, r0⟩ := trodAll_cons hA
  obtain ⟨v1, vs1, d1, ds1, p1, q1, rfl, rfl, rfl, h1, r1⟩ := trodAll_cons r0
  obtain ⟨rfl, rfl, rfl⟩ := trodAll_nil r1
  obtain rfl : args = #[v0, v1] := by cases args; simp_all
  obtain ⟨rfl, rfl⟩ := trodVars_none hV
  have k0 := h0
  have lt0 : ∀ x ∈ p0, x.block < W.heap.size := by obtain ⟨m, hm⟩ := k0; exact DataW.trod_lt m _ _ _ hm
  obtain ⟨c0_0, c0_1, c0_2, c0_3, y0_0, y0_1, y0_2, y0_3, m0, rfl, _, _, g0_0, g0_1, g0_2, g0_3⟩ := open_agg4 Try.underlying32 (by kernel_rfl) (show Try.prog.cellsOf 32 = 4 by kernel_rfl) (hval 0 32 v0 rfl rfl) h0
  obtain ⟨a0_0, e0_0, _, w0_0⟩ := DataW.trod_int Try.underlying2 g0_0
  simp at e0_0
  subst e0_0
  obtain ⟨a0_1, e0_1, _, w0_1⟩ := DataW.trod_int Try.underlying2 g0_1
  simp at e0_1
  subst e0_1
  obtain ⟨a0_2, e0_2, _, w0_2⟩ := DataW.trod_int Try.underlying2 g0_2
  simp at e0_2
  subst e0_2
  obtain ⟨a0_3, len0_3, cap0_3, z0_3, rfl, w0_3⟩ := row_of Try.underlying22 Try.underlying2 (by kernel_rfl) g0_3
  obtain ⟨a1, len1, cap1, rfl⟩ := okWide_slice Try.underlying22 (hval 1 22 v1 rfl rfl)
  have k1 := h1
  have lt1 : ∀ x ∈ p1, x.block < W.heap.size := by obtain ⟨m, hm⟩ := k1; exact DataW.trod_lt m _ _ _ hm
  have y1 : len1 * 8 ≤ 140737488351232 := Go.Proofs.YtioooobmfcmefaaW.PrintWords.sized_ints hsz (j := 1) (t := 22) rfl rfl Try.underlying22 Try.underlying2 (by kernel_rfl) (by kernel_rfl) h1
  obtain ⟨z1, w1⟩ : ∃ zs, IsRow .i64 W a1 len1 cap1 zs := by
    obtain ⟨fuel, hf⟩ := h1
    obtain ⟨a, l, c, zs, e, hz⟩ := row_of (v := .slice a1 len1 cap1) Try.underlying22 Try.underlying2 (by kernel_rfl) hf
    cases e
    exact ⟨zs, hz⟩
  clear hA0 hval0 hsz0 hsz
  refine (F.laws_FnExactApplyMatrix.walk Pure.FnExactApplyMatrix a0_0 a0_1 a0_2 a0_3 len0_3 cap0_3 z0_3 a1 len1 cap1 z1 W w0_0 w0_1 w0_2 w0_3 w1 y1).mono fun e W' ⟨he, bel⟩ => ?_
  subst he
  exact ⟨_, rfl, _, _, _, [], _, [], hW', trodAll_mk1 (shut_bool Try.underlying4 _), (trodAll_cons_mk (Below.trod laidOut (by kernel_rfl) (of_decide_eq_true (by kernel_rfl)) k0 bel lt0) (trodAll_cons_mk (Below.trod laidOut (by kernel_rfl) (of_decide_eq_true (by kernel_rfl)) k1 bel lt1) trodAll_mk0)), rfl, bel.frame _, fun h => by cases h⟩
theorem over : Rows.fnExactApplyMatrixRow.holds Try.pinned (OpenSpec.ofChange Rows.fnExactApplyMatrixSpec) :=
  OpenClaim.holds_of_wide 6 Try.f6 rfl rfl rfl rfl rfl rfl rfl ⟨rfl, rfl, rfl, rfl, rfl⟩ rfl rfl rfl rfl rfl (by kernel_rfl) Try.func6 (by kernel_rfl)
    (of_decide_eq_true (by kernel_rfl)) (by unfold Func.isWrapper; first | (rw [if_pos (by decide +kernel)]; kernel_rfl) | (rw [if_neg (by decide +kernel)]; exact ⟨rfl, rfl⟩))
    (fun os started H enc _ => lifted os started H enc)
theorem proved : Rows.FnExactApplyMatrixSaid := over
#print axioms proved
end Go.Proofs.Ytioooobmfcmefaa.fnExactApplyMatrix
namespace Go.Proofs.Ytioooobmfcmefaa
/-- The row, under a short name, for the claim. -/
theorem fnExactApplyMatrix_holds : Rows.FnExactApplyMatrixSaid := fnExactApplyMatrix.proved
end Go.Proofs.Ytioooobmfcmefaa
end
