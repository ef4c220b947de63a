-- Texts of this claim, merged by pack.py (a program of this session's).
import Derived.Test.YtoibkfdmcajieaaQFnExactKernelOf0
import Derived.Test.YtoibkfdmcajieaaQFnExactKernelOf11
import Derived.KernelRfl
import Derived.Test.YtoibkfdmcajieaaQFnExactKernelOf2
import Derived.Test.YtoibkfdmcajieaaQFnExactKernelOf1
import Derived.Test.YtoibkfdmcajieaaQFnExactKernelOf10
import Derived.Test.YtoibkfdmcajieaaQFnExactKernelOf5
import Derived.Test.YtoibkfdmcajieaaQFnExactKernelOf3
import Derived.Test.YtoibkfdmcajieaaQFnExactKernelOf4
import Derived.Test.YtoibkfdmcajieaaQFnExactKernelOf8
import Derived.Test.YtoibkfdmcajieaaQFnExactKernelOf9
import Derived.Test.YtoibkfdmcajieaaRows
import Derived.WalkKit
import Derived.ProofKit
import Derived.OpenShut
import Derived.ShutString
import Derived.ChangeOld
import Derived.Below
import Derived.SizedLaws
import Derived.Lib.SmallJoins
import Derived.Deep.Slices
import Derived.Test.YtoibkfdmcajieaaWSized

section
set_option linter.unusedVariables false
set_option linter.unusedSimpArgs false
set_option linter.unusedSectionVars false
namespace Go.Proofs.Ytoibkfdmcajieaa.F
open Go.RowKit Go.Proofs.YtoibkfdmcajieaaW.PrintWords Go.Proofs.YtoibkfdmcajieaaW.PrintLast Go.Proofs.Ytoibkfdmcajieaa.Lin

/-- Numbers in rows, one after another. -/
def marksR (m : Int) : List (List Int) → List (List Int)
  | [] => []
  | r :: rs => iota m r.length :: marksR (m + r.length) rs
def totalR : List (List Int) → Nat
  | [] => 0
  | r :: rs => r.length + totalR rs
theorem totalR_le {B : Nat} : ∀ {l : List (List Int)}, (∀ r ∈ l, r.length ≤ B) → totalR l ≤ l.length * B
  | [], _ => by simp [totalR]
  | r :: rs, h => by
    have h1 := totalR_le (l := rs) (fun x hx => h x (List.mem_cons_of_mem _ hx))
    have h2 := h r List.mem_cons_self
    simp only [totalR, List.length_cons, Nat.succ_mul]
    omega
theorem marksR_length (m : Int) (l : List (List Int)) : (marksR m l).length = l.length := by
  induction l generalizing m with
  | nil => rfl
  | cons r rs ih => simp [marksR, ih]
theorem rdR_at (pre : List (List Int)) (r : List Int) (rs : List (List Int)) : rd_L1 (pre ++ r :: rs) (pre.length : Int) = r := by
  rw [rdS_nat, getD_at (by simp)]; simp
theorem setR_at (pre : List (List Int)) (r r' : List Int) (rs : List (List Int)) : (pre ++ r :: rs).set (pre.length : Int).toNat r' = (pre ++ [r']) ++ rs := by
  rw [Int.toNat_natCast]; simp
theorem markR_loop {B : Nat} (hB : B ≤ 35184372088832) (rs : List (List Int)) : ∀ (k : Nat) (pre : List (List Int)) (m : Int), (∀ r ∈ rs, r.length ≤ B) → pre.length + rs.length ≤ 35184372088832 → rs.length + B + 1 < k → 0 ≤ m → m + totalR rs ≤ 4611686018427387904 →
    laws_markInt64SS.l0 k (pre ++ rs) m (pre.length : Int) = some (m + totalR rs, pre ++ marksR m rs) := by
  induction rs with
  | nil =>
    intro k pre m _ _ hk _ _
    obtain ⟨k, rfl⟩ : ∃ m, k = m + 1 := ⟨k - 1, by omega⟩
    simp only [laws_markInt64SS.l0]
    rw [if_neg (by simp)]
    simp [totalR, marksR]
  | cons r rs ih =>
    intro k pre m hr hl hk hm hm'
    obtain ⟨k, rfl⟩ : ∃ m, k = m + 1 := ⟨k - 1, by omega⟩
    have h1 := hr r List.mem_cons_self
    simp only [totalR, List.length_cons] at hm' hl hk
    simp only [laws_markInt64SS.l0]
    rw [if_pos (by simp; omega), if_pos (by omega), rdR_at, mark_tells hm (by omega) (by omega) (by omega), Option.bind_some]
    dsimp only
    rw [setR_at, w64_succ (n := 35184372088832) (by omega) (by omega), show (((pre.length + 1 : Nat)) : Int) = (((pre ++ [iota m r.length]).length : Nat) : Int) by simp]
    have e := ih k (pre ++ [iota m r.length]) (m + r.length) (fun x hx => hr x (List.mem_cons_of_mem _ hx)) (by simp; omega) (by omega) (by omega) (by omega)
    rw [e]
    simp only [totalR, marksR, List.append_assoc, List.singleton_append, Option.some.injEq, Prod.mk.injEq, and_true]
    omega
theorem heldR_loop {B : Nat} (hB : B ≤ 35184372088832) (rs : List (List Int)) : ∀ (k : Nat) (pre : List (List Int)) (m : Int), (∀ r ∈ rs, r.length ≤ B) → pre.length + rs.length ≤ 35184372088832 → rs.length + B + 1 < k → 0 ≤ m → m + totalR rs ≤ 4611686018427387904 →
    laws_heldInt64SS.l0 k (pre ++ marksR m rs) m (pre.length : Int) = some (m + totalR rs) := by
  induction rs with
  | nil =>
    intro k pre m _ _ hk _ _
    obtain ⟨k, rfl⟩ : ∃ m, k = m + 1 := ⟨k - 1, by omega⟩
    simp only [laws_heldInt64SS.l0]
    rw [if_neg (by simp [marksR])]
    simp [totalR]
  | cons r rs ih =>
    intro k pre m hr hl hk hm hm'
    obtain ⟨k, rfl⟩ : ∃ m, k = m + 1 := ⟨k - 1, by omega⟩
    have h1 := hr r List.mem_cons_self
    simp only [totalR, List.length_cons] at hm' hl hk
    show laws_heldInt64SS.l0 (k + 1) (pre ++ iota m r.length :: marksR (m + r.length) rs) m (pre.length : Int) = _
    simp only [laws_heldInt64SS.l0]
    rw [if_pos (show (pre.length : Int) < (((pre ++ iota m r.length :: marksR (m + r.length) rs).length : Nat) : Int) by rw [List.length_append, List.length_cons]; omega), if_pos (by omega), rdR_at, held_tells hm (by omega) (by omega) (by omega), Option.bind_some, if_neg (by omega)]
    rw [w64_succ (n := 35184372088832) (by omega) (by omega), show (((pre.length + 1 : Nat)) : Int) = (((pre ++ [iota m r.length]).length : Nat) : Int) by simp]
    have e := ih k (pre ++ [iota m r.length]) (m + r.length) (fun x hx => hr x (List.mem_cons_of_mem _ hx)) (by simp; omega) (by omega) (by omega) (by omega)
    rw [show pre ++ iota m r.length :: marksR (m + r.length) rs = (pre ++ [iota m r.length]) ++ marksR (m + r.length) rs by simp, e]
    simp only [totalR, Option.some.injEq]
    omega
theorem markR_tells {l : List (List Int)} (hn : l.length ≤ 1048576) (hr : ∀ r ∈ l, r.length ≤ 1048576) {k : Nat} (hk : 2097154 < k) : laws_markInt64SS.f k l 1 = some (1 + (totalR l : Int), marksR 1 l) := by
  have ht := totalR_le hr
  have ht2 : l.length * 1048576 ≤ 1048576 * 1048576 := Nat.mul_le_mul hn (Nat.le_refl _)
  unfold laws_markInt64SS.f
  exact markR_loop (B := 1048576) (by omega) l k [] 1 hr (by simp; omega) (by omega) (by omega) (by omega)
theorem heldR_tells {l : List (List Int)} (hn : l.length ≤ 1048576) (hr : ∀ r ∈ l, r.length ≤ 1048576) {k : Nat} (hk : 2097154 < k) : laws_heldInt64SS.f k (marksR 1 l) 1 = some (1 + (totalR l : Int)) := by
  have ht := totalR_le hr
  have ht2 : l.length * 1048576 ≤ 1048576 * 1048576 := Nat.mul_le_mul hn (Nat.le_refl _)
  unfold laws_heldInt64SS.f
  exact heldR_loop (B := 1048576) (by omega) l k [] 1 hr (by simp; omega) (by omega) (by omega) (by omega)

theorem specPrime_tells (p : Int) {k : Nat} (hk : 20 ≤ k) : spec_ValidPrime.f k p = some (isP p) := by
  unfold spec_ValidPrime.f
  rw [prime_tells p hk]; rfl
/-- A matrix in memory: what is compared, marked and held. -/
theorem eqMatrix_tells {p r c : Int} {l : List Int} (hl : l.length ≤ 35184372088832) {k : Nat} (hk : l.length < k) : laws_eqMatrix.f k p r c l p r c l = some true := by
  unfold laws_eqMatrix.f
  rw [eq_tells hl hk]
  simp
theorem markMatrix_tells {p r c : Int} {l : List Int} (hl : l.length ≤ 35184372088832) {k : Nat} (hk : l.length < k) : laws_markMatrix.f k p r c l 1 = some (1 + (l.length : Int), iota 1 l.length) := by
  unfold laws_markMatrix.f
  rw [mark_tells (by omega) (by omega) hl hk]; rfl

/-- All numbers of a list are numbers modulo p. -/
def allM (l : List Int) (p : Int) : Bool := l.all fun x => decide (0 ≤ x) && decide (x < p)
theorem allM_iff {l : List Int} {p : Int} : allM l p = true ↔ ∀ x, x ∈ l → 0 ≤ x ∧ x < p := by unfold allM; simp
theorem areM_tells {l : List Int} {p : Int} (hp : isP p = true) : impl_areElements.f l p = some (allM l p) := by
  have := isP_ge hp
  unfold impl_areElements.f allM
  rw [w64_id (x := p - 1) (by omega) (by omega)]
  congr 1
  induction l with
  | nil => rfl
  | cons x l ih =>
    simp only [List.any_cons, List.all_cons, Bool.not_or, Bool.not_not]
    rw [ih]
    congr 2
    rw [decide_eq_decide]; omega
theorem allM_drop {l : List Int} {p : Int} {i : Nat} (h : i < l.length) : allM (l.drop i) p = (decide (0 ≤ l.getD i 0 ∧ l.getD i 0 ≤ p - 1) && allM (l.drop (i + 1)) p) := by
  rw [List.drop_eq_getElem_cons h]
  unfold allM
  simp only [List.all_cons]
  congr 1
  rw [getD_at h, ← Bool.decide_and, decide_eq_decide]; omega
theorem getD_inM {l : List Int} {p : Int} (hp : 2 ≤ p) (h : ∀ x, x ∈ l → 0 ≤ x ∧ x < p) (j : Nat) : 0 ≤ l.getD j 0 ∧ l.getD j 0 < p := by
  by_cases hj : j < l.length
  · rw [getD_at hj]; exact h _ (List.getElem_mem hj)
  · rw [List.getD_eq_getElem?_getD, List.getElem?_eq_none (by omega)]; simp; omega
theorem column_loop {l : List Int} {n p : Int} (hp : 2 ≤ p) (hp' : p ≤ 251) (hl : l.length ≤ 35184372088832) (d : Nat) : ∀ (k i : Nat), l.length - i = d → i ≤ l.length → d < k →
    spec_l03Column.l0 k l n p i = some (allM (l.drop i) p && decide ((l.length : Int) = n)) := by
  induction d with
  | zero =>
    intro k i hd hi hk
    obtain ⟨k, rfl⟩ : ∃ m, k = m + 1 := ⟨k - 1, by omega⟩
    simp only [spec_l03Column.l0]
    rw [if_neg (by omega), show l.drop i = [] from List.drop_eq_nil_of_le (by omega)]
    simp only [allM, List.all_nil, Bool.true_and]
    congr 1
  | succ d ih =>
    intro k i hd hi hk
    obtain ⟨k, rfl⟩ : ∃ m, k = m + 1 := ⟨k - 1, by omega⟩
    simp only [spec_l03Column.l0]
    rw [if_pos (by omega), if_pos (by omega), rd_nat, w64_id (x := p - 1) (by omega) (by omega), in_tells, w64_succ (n := l.length) (by omega) hl, allM_drop (i := i) (by omega)]
    simp only [Option.bind_some]
    cases h : decide (0 ≤ l.getD i 0 ∧ l.getD i 0 ≤ p - 1) with
    | false => simp
    | true => rw [if_pos rfl, ih k (i + 1) (by omega) (by omega) (by omega)]; simp
theorem column_tells {l : List Int} {n p : Int} (hp : 2 ≤ p) (hp' : p ≤ 251) (hl : l.length ≤ 35184372088832) {k : Nat} (hk : l.length < k) : spec_l03Column.f k l n p = some (allM l p && decide ((l.length : Int) = n)) := by
  unfold spec_l03Column.f
  exact column_loop hp hp' hl l.length k 0 (by omega) (by omega) hk
/-- A matrix of numbers modulo a prime, its sides at most 32. -/
def matOk (p r c : Int) (l : List Int) : Bool := isP p && (decide (0 ≤ r ∧ r ≤ 32) && (decide (0 ≤ c ∧ c ≤ 32) && (decide ((l.length : Int) = r * c) && allM l p)))
theorem matOk_iff {p r c : Int} {l : List Int} : matOk p r c l = true ↔ isP p = true ∧ (0 ≤ r ∧ r ≤ 32) ∧ (0 ≤ c ∧ c ≤ 32) ∧ (l.length : Int) = r * c ∧ ∀ x, x ∈ l → 0 ≤ x ∧ x < p := by
  unfold matOk; simp only [Bool.and_eq_true, decide_eq_true_eq, allM_iff]
theorem side_mulI {r c : Int} (hr : 0 ≤ r ∧ r ≤ 32) (hc : 0 ≤ c ∧ c ≤ 32) : wrap64 (r * c) = r * c ∧ 0 ≤ r * c ∧ r * c ≤ 1024 := by
  have h1 := Int.mul_nonneg hr.1 hc.1
  have h2 : r * c ≤ 32 * 32 := Int.mul_le_mul hr.2 hc.2 hc.1 (by omega)
  exact ⟨w64_id (by omega) (by omega), h1, by omega⟩
theorem specOk_tells (p r c : Int) {l : List Int} (hl : l.length ≤ 35184372088832) {k : Nat} (hk : l.length + 20 < k) : spec_l03Ok.f k p r c l = some (matOk p r c l) := by
  unfold spec_l03Ok.f matOk
  rw [specPrime_tells p (by omega)]
  cases hp : isP p with
  | false => simp
  | true =>
    have hp2 := isP_ge hp
    rw [in_tells, in_tells]
    by_cases h1 : 0 ≤ r ∧ r ≤ 32
    · by_cases h2 : 0 ≤ c ∧ c ≤ 32
      · rw [(side_mulI h1 h2).1, column_tells hp2.1 hp2.2 hl (by omega)]
        simp only [h1, h2, and_self, decide_true, Option.bind_some, if_true, Bool.true_and]
        rw [Bool.and_comm]
      · simp only [h1, h2, and_self, decide_true, decide_false, Option.bind_some, if_true, Bool.true_and, Bool.false_and]; rfl
    · simp only [h1, decide_false, Option.bind_some, if_true, Bool.true_and, Bool.false_and]; rfl
theorem implOk_tells (p r c : Int) {l : List Int} {k : Nat} (hk : 20 ≤ k) : impl_ValidMatrix.f k p r c l = some (matOk p r c l) := by
  unfold impl_ValidMatrix.f matOk
  rw [ask_prime, prime_tells p hk]
  cases hp : isP p with
  | false => simp
  | true =>
    have hp2 := isP_ge hp
    rw [side_tells, side_tells, areM_tells hp]
    by_cases h1 : 0 ≤ r ∧ r ≤ 32
    · by_cases h2 : 0 ≤ c ∧ c ≤ 32
      · rw [(side_mulI h1 h2).1]
        unfold impl_size_int64.f
        simp only [h1, h2, and_self, decide_true, Option.bind_some, if_true, Bool.true_and]
        by_cases h3 : (l.length : Int) = r * c
        · simp [h3]
        · simp [h3]
      · simp only [h1, h2, and_self, decide_true, decide_false, Option.bind_some, if_true, Bool.true_and, Bool.false_and]; rfl
    · simp only [h1, decide_false, Option.bind_some, if_true, Bool.true_and, Bool.false_and]; rfl
theorem szMatrix_tells (p r c : Int) {l : List Int} (hl : l.length ≤ maxLen) : laws_szMatrix.f p r c l 1048576 = some (if l.length ≤ 1048576 then 1048576 - (l.length : Int) else -1) := by
  unfold laws_szMatrix.f laws_szInt64S.f
  have hl : l.length ≤ 9223372036854775807 := hl
  rw [w64_id (x := 1048576 - (l.length : Int)) (by omega) (by omega)]
  by_cases h : l.length ≤ 1048576
  · rw [if_neg (by omega), if_pos h]
    simp only [Option.bind_some]
    rw [if_neg (by omega)]
  · rw [if_pos (by omega), if_neg h]; rfl
theorem toMatrix_tells (p r c : Int) {l : List Int} (hl : l.length ≤ 35184372088832) {k : Nat} (hk : l.length < k) : laws_toMatrix.f k p r c l = some (p, r, c, l) := by
  unfold laws_toMatrix.f
  rw [copy_tells hl hk]; rfl
theorem mul_small {p x y : Int} (hp : 2 ≤ p) (hp' : p ≤ 251) (hx : 0 ≤ x) (hx' : x ≤ 251) (hy : 0 ≤ y) (hy' : y < p) : 0 ≤ x * y ∧ x * y ≤ 63001 := by
  have g1 := Int.mul_nonneg hx hy
  have g2 : x * y ≤ 251 * 251 := Int.mul_le_mul hx' (by omega) hy (by omega)
  omega
theorem dimsM {p r c : Int} {l : List Int} (h : matOk p r c l = true) : ∃ R C : Nat, r = R ∧ c = C ∧ R ≤ 32 ∧ C ≤ 32 ∧ l.length = R * C ∧ (2 ≤ p ∧ p ≤ 251) ∧ ∀ j, 0 ≤ l.getD j 0 ∧ l.getD j 0 < p := by
  obtain ⟨hp, hr, hc, hl, hx⟩ := matOk_iff.mp h
  obtain ⟨R, rfl⟩ := Int.eq_ofNat_of_zero_le hr.1
  obtain ⟨C, rfl⟩ := Int.eq_ofNat_of_zero_le hc.1
  exact ⟨R, C, rfl, rfl, by omega, by omega, by exact_mod_cast hl, isP_ge hp, fun j => getD_inM (isP_ge hp).1 hx j⟩
end Go.Proofs.Ytoibkfdmcajieaa.F
end

section
/- Both functions refuse the same matrices and return the same rows that a matrix sends to 0, in memory of their own; the matrix stays as it is. -/
set_option linter.unusedVariables false
set_option linter.unusedSimpArgs false
set_option linter.unusedSectionVars false
namespace Go.Proofs.Ytoibkfdmcajieaa.F
open Go.RowKit Go.Proofs.YtoibkfdmcajieaaW.PrintWords Go.Proofs.YtoibkfdmcajieaaW.PrintLast Go.Proofs.Ytoibkfdmcajieaa.Lin

theorem kerDims {p r c : Int} {l : List Int} (h : matOk p r c l = true) : ∃ R C : Nat, r = R ∧ c = C ∧ R ≤ 32 ∧ C ≤ 32 ∧ l.length = R * C ∧ ∀ j, 0 ≤ l.getD j 0 ∧ l.getD j 0 < p := by
  obtain ⟨hp, hr, hc, hl, hv⟩ := matOk_iff.mp h
  obtain ⟨R, rfl⟩ := Int.eq_ofNat_of_zero_le hr.1
  obtain ⟨C, rfl⟩ := Int.eq_ofNat_of_zero_le hc.1
  refine ⟨R, C, rfl, rfl, by omega, by omega, by exact_mod_cast hl, fun j => ?_⟩
  have := (isP_ge hp).1
  by_cases hj : j < l.length
  · exact hv _ (getD_mem (d := 0) hj)
  · rw [List.getD_eq_getElem?_getD, List.getElem?_eq_none (by omega)]; simp; omega
theorem piv_lt (p : Int) (rows : List (List Int)) : ∀ (c : Nat), ∀ x ∈ (elimTo p rows c).2.1, 0 ≤ x ∧ x < (c : Int)
  | 0 => by intro x hx; simp [elimTo] at hx
  | c + 1 => by
    have ih := piv_lt p rows c
    intro x hx
    rw [elimTo_succ] at hx
    unfold elimStep at hx
    split at hx
    · have := ih x hx; omega
    · rcases List.mem_append.mp hx with h | h
      · have := ih x h; omega
      · have : x = (c : Int) := by simpa using h
        omega
theorem hasS_loop {l : List Int} (hl : l.length ≤ 1000) (a : Int) (d : Nat) : ∀ (k i : Nat), l.length - i = d → i ≤ l.length → d < k → (∀ j, j < i → l.getD j 0 ≠ a) → spec_l00Has.l0 k l a i = some (decide (a ∈ l)) := by
  induction d with
  | zero =>
    intro k i hd hi hk h
    obtain ⟨k, rfl⟩ : ∃ m, k = m + 1 := ⟨k - 1, by omega⟩
    simp only [spec_l00Has.l0]
    rw [if_neg (by omega), decide_eq_false (fun hm => ?_)]
    obtain ⟨j, hj, e⟩ := List.mem_iff_getElem.mp hm
    exact h j (by omega) (by rw [getD_at hj]; exact e)
  | succ d ih =>
    intro k i hd hi hk h
    obtain ⟨k, rfl⟩ : ∃ m, k = m + 1 := ⟨k - 1, by omega⟩
    simp only [spec_l00Has.l0]
    rw [if_pos (by omega), if_pos (by omega), rd_nat, w64_succ (n := l.length) (by omega) (by omega)]
    by_cases e : l.getD i 0 = a
    · rw [if_pos e, decide_eq_true (by rw [← e]; exact getD_mem (by omega))]
    · rw [if_neg e]
      refine ih k (i + 1) (by omega) (by omega) (by omega) (fun j hj => ?_)
      by_cases e2 : j = i
      · rw [e2]; exact e
      · exact h j (by omega)
theorem has_tells {l : List Int} (hl : l.length ≤ 1000) (a : Int) {k : Nat} (hk : 1001 < k) : spec_l00Has.f k l a = some (decide (a ∈ l)) := by
  unfold spec_l00Has.f
  exact hasS_loop hl a l.length k 0 (by omega) (by omega) (by omega) (fun j hj => by omega)
theorem idxS_loop {l : List Int} (hl : l.length ≤ 1000) (a : Int) (d : Nat) : ∀ (k i : Nat), l.length - i = d → i ≤ l.length → d < k → (∀ j, j < i → l.getD j 0 ≠ a) → ∃ r : Int, slices_Index_int64_int64.l0 k l a l.length i = some r ∧ (r ≥ 0 ↔ a ∈ l) := by
  induction d with
  | zero =>
    intro k i hd hi hk h
    obtain ⟨k, rfl⟩ : ∃ m, k = m + 1 := ⟨k - 1, by omega⟩
    simp only [slices_Index_int64_int64.l0]
    rw [if_neg (by omega)]
    refine ⟨-1, rfl, ⟨fun h2 => absurd h2 (by omega), fun hm => ?_⟩⟩
    obtain ⟨j, hj, e⟩ := List.mem_iff_getElem.mp hm
    exact absurd (by rw [getD_at hj]; exact e) (h j (by omega))
  | succ d ih =>
    intro k i hd hi hk h
    obtain ⟨k, rfl⟩ : ∃ m, k = m + 1 := ⟨k - 1, by omega⟩
    simp only [slices_Index_int64_int64.l0]
    rw [if_pos (by omega), if_pos (by omega), if_pos (by omega), rd_nat, w64_succ (n := l.length) (by omega) (by omega)]
    by_cases e : a = l.getD i 0
    · rw [if_pos e]
      exact ⟨i, rfl, ⟨fun _ => by rw [e]; exact getD_mem (by omega), fun _ => by omega⟩⟩
    · rw [if_neg e]
      refine ih k (i + 1) (by omega) (by omega) (by omega) (fun j hj => ?_)
      by_cases e2 : j = i
      · rw [e2]; exact fun h => e h.symm
      · exact h j (by omega)
theorem contains_tells {l : List Int} (hl : l.length ≤ 1000) (a : Int) {k : Nat} (hk : 1001 < k) : slices_Contains_int64_int64.f k l a = some (decide (a ∈ l)) := by
  unfold slices_Contains_int64_int64.f slices_Index_int64_int64.f
  obtain ⟨r, h1, h2⟩ := idxS_loop hl a l.length k 0 (by omega) (by omega) (by omega) (fun j hj => by omega)
  rw [show ((0 : Nat) : Int) = 0 from rfl] at h1
  rw [h1, Option.bind_some]
  by_cases e : a ∈ l
  · rw [decide_eq_true e, decide_eq_true (h2.mpr e)]
  · rw [decide_eq_false e, decide_eq_false (fun h => e (h2.mp h))]
/-- The vector that belongs to column c, after i pivots. -/
def kv (p : Int) (Q : List (List Int)) (piv : List Int) (c n : Nat) : Nat → List Int
  | 0 => (List.replicate n 0).set c 1
  | i + 1 => (kv p Q piv c n i).set (piv.getD i 0).toNat ((-(cell Q i c)) % p)
theorem kv_length (p : Int) (Q : List (List Int)) (piv : List Int) (c n : Nat) : ∀ i, (kv p Q piv c n i).length = n
  | 0 => by simp [kv]
  | i + 1 => by simp [kv, kv_length p Q piv c n i]
/-- The vectors that belong to the columns without a pivot. -/
def kers (p : Int) (Q : List (List Int)) (piv : List Int) (n : Nat) : Nat → List (List Int)
  | 0 => []
  | c + 1 => if (c : Int) ∈ piv then kers p Q piv n c else kers p Q piv n c ++ [kv p Q piv c n piv.length]
theorem kers_length (p : Int) (Q : List (List Int)) (piv : List Int) (n : Nat) : ∀ c, (kers p Q piv n c).length ≤ c
  | 0 => by simp [kers]
  | c + 1 => by
    have := kers_length p Q piv n c
    simp only [kers]
    split
    · omega
    · simp; omega
theorem kers_rows (p : Int) (Q : List (List Int)) (piv : List Int) (n : Nat) : ∀ c, ∀ r ∈ kers p Q piv n c, r.length = n
  | 0 => by simp [kers]
  | c + 1 => by
    have ih := kers_rows p Q piv n c
    intro r hr
    simp only [kers] at hr
    split at hr
    · exact ih r hr
    · rcases List.mem_append.mp hr with h | h
      · exact ih r h
      · have : r = kv p Q piv c n piv.length := by simpa using h
        rw [this, kv_length]
section
variable {p : Int} {Q : List (List Int)} {piv : List Int} {R n : Nat} {l : List Int}
theorem implKer_l1 (hp : 2 ≤ p) (hp' : p ≤ 251) (hn : n ≤ 32) (hok : RowsOk p n Q) (hpl : piv.length ≤ n) (hpq : piv.length ≤ Q.length) (hpv : ∀ x ∈ piv, 0 ≤ x ∧ x < (n : Int)) {c : Nat} (hc : c < n) (out : List (List Int)) (ho : out.length ≤ 32) (d : Nat) :
    ∀ k i, piv.length - i = d → i ≤ piv.length → d < k → ∃ k', k ≤ k' + d + 1 ∧
      impl_kernel.l1 k Q piv out c (kv p Q piv c n i) n c piv piv.length i p R n l = impl_kernel.l0 k' Q piv (out ++ [kv p Q piv c n piv.length]) n ((c + 1 : Nat) : Int) p R n l := by
  induction d with
  | zero =>
    intro k i hd hi hk
    obtain ⟨k, rfl⟩ : ∃ m, k = m + 1 := ⟨k - 1, by omega⟩
    obtain rfl : i = piv.length := by omega
    refine ⟨k, by omega, ?_⟩
    simp only [impl_kernel.l1]
    rw [if_neg (by omega), if_pos (by omega), w64_succ (n := n) hc (by omega)]
  | succ d ih =>
    intro k i hd hi hk
    obtain ⟨k, rfl⟩ : ∃ m, k = m + 1 := ⟨k - 1, by omega⟩
    have hi2 : i < piv.length := by omega
    obtain ⟨k', h1, h2⟩ := ih k (i + 1) (by omega) (by omega) (by omega)
    refine ⟨k', by omega, ?_⟩
    have hx := rangeC hp hok i c
    have hr : (Q.getD i []).length = n := (hok _ (row_mem (by omega))).1
    have hv := hpv _ (getD_mem (d := 0) hi2)
    simp only [impl_kernel.l1]
    rw [if_pos (by omega), if_pos (by omega), if_pos (by omega), if_pos (by omega), if_pos (by omega), rdS_nat, if_pos (by rw [hr]; omega), rd_nat, rd_nat]
    rw [show (Q.getD i []).getD c 0 = cell Q i c from rfl, w64_idV (x := -cell Q i c) (by omega) (by omega), reduce_small hp hp' (by omega) (by omega), Option.bind_some, if_pos hv.1, if_pos (by rw [kv_length]; exact hv.2), w64_succ (n := piv.length) hi2 (by omega)]
    exact h2
theorem implKer_l0 (hp : 2 ≤ p) (hp' : p ≤ 251) (hn : n ≤ 32) (hok : RowsOk p n Q) (hpl : piv.length ≤ n) (hpq : piv.length ≤ Q.length) (hpv : ∀ x ∈ piv, 0 ≤ x ∧ x < (n : Int)) (d : Nat) :
    ∀ k c, n - c = d → c ≤ n → d * 40 + 1100 < k → impl_kernel.l0 k Q piv (kers p Q piv n c) n c p R n l = some (kers p Q piv n n) := by
  induction d with
  | zero =>
    intro k c hd hc hk
    obtain ⟨k, rfl⟩ : ∃ m, k = m + 1 := ⟨k - 1, by omega⟩
    obtain rfl : c = n := by omega
    simp only [impl_kernel.l0]
    rw [if_neg (by omega)]
  | succ d ih =>
    intro k c hd hc hk
    obtain ⟨k, rfl⟩ : ∃ m, k = m + 1 := ⟨k - 1, by omega⟩
    have hcn : c < n := by omega
    have hkl := kers_length p Q piv n c
    simp only [impl_kernel.l0]
    rw [if_pos (by omega), contains_tells (by omega) (c : Int) (by omega), Option.bind_some, Int.toNat_natCast, Int.toNat_natCast]
    by_cases e : (c : Int) ∈ piv
    · rw [decide_eq_true e, if_pos rfl, w64_succ (n := n) hcn (by omega)]
      have := ih k (c + 1) (by omega) (by omega) (by omega)
      simp only [kers, if_pos e] at this
      exact this
    · rw [decide_eq_false e, if_neg (by decide), if_pos (by omega), if_pos (by omega), Option.bind_some, if_pos (by omega), if_pos (by simp; omega)]
      obtain ⟨k', h1, h2⟩ := implKer_l1 (R := R) (l := l) hp hp' hn hok hpl hpq hpv hcn (kers p Q piv n c) (by omega) piv.length k 0 (by omega) (by omega) (by omega)
      refine Eq.trans h2 ?_
      have := ih k' (c + 1) (by omega) (by omega) (by omega)
      simp only [kers, if_neg e] at this
      exact this
theorem specKer_l1 (hp : 2 ≤ p) (hp' : p ≤ 251) (hR : R ≤ 32) (hn : n ≤ 32) (hok : RowsOk p n Q) (hpl : piv.length ≤ n) (hpq : piv.length ≤ R) (hpv : ∀ x ∈ piv, 0 ≤ x ∧ x < (n : Int)) {c : Nat} (hc : c < n) (out : List (List Int)) (ho : out.length ≤ 32) (d : Nat) :
    ∀ k i, piv.length - i = d → i ≤ piv.length → d < k → ∃ k', k ≤ k' + d + 1 ∧
      spec_l03Kernel.l1 k piv out c (kv p Q piv c n i) i p R n l p R n (tab R n (cell Q)) = spec_l03Kernel.l0 k' piv (out ++ [kv p Q piv c n piv.length]) ((c + 1 : Nat) : Int) p R n l p R n (tab R n (cell Q)) := by
  induction d with
  | zero =>
    intro k i hd hi hk
    obtain ⟨k, rfl⟩ : ∃ m, k = m + 1 := ⟨k - 1, by omega⟩
    obtain rfl : i = piv.length := by omega
    refine ⟨k, by omega, ?_⟩
    simp only [spec_l03Kernel.l1]
    rw [if_neg (by omega), if_pos (by omega), w64_succ (n := n) hc (by omega)]
  | succ d ih =>
    intro k i hd hi hk
    obtain ⟨k, rfl⟩ : ∃ m, k = m + 1 := ⟨k - 1, by omega⟩
    have hi2 : i < piv.length := by omega
    obtain ⟨k', h1, h2⟩ := ih k (i + 1) (by omega) (by omega) (by omega)
    refine ⟨k', by omega, ?_⟩
    have hx := rangeC hp hok i c
    have hv := hpv _ (getD_mem (d := 0) hi2)
    simp only [spec_l03Kernel.l1]
    rw [if_pos (by omega), if_pos (by omega), w64_at (r := R) (by omega) (by omega) (by omega) (by omega), if_pos (idx0 _), if_pos (idx1 _ (by omega) hc), rdt _ (by omega) hc, rd_nat]
    rw [w64_idV (x := -cell Q i c) (by omega) (by omega), modS hp hp' (by omega) (by omega), Option.bind_some, if_pos hv.1, if_pos (by rw [kv_length]; exact hv.2), w64_succ (n := piv.length) hi2 (by omega)]
    exact h2
theorem specKer_l0 (hp : 2 ≤ p) (hp' : p ≤ 251) (hR : R ≤ 32) (hn : n ≤ 32) (hok : RowsOk p n Q) (hpl : piv.length ≤ n) (hpq : piv.length ≤ R) (hpv : ∀ x ∈ piv, 0 ≤ x ∧ x < (n : Int)) (d : Nat) :
    ∀ k c, n - c = d → c ≤ n → d * 40 + 1100 < k → spec_l03Kernel.l0 k piv (kers p Q piv n c) c p R n l p R n (tab R n (cell Q)) = some (kers p Q piv n n) := by
  induction d with
  | zero =>
    intro k c hd hc hk
    obtain ⟨k, rfl⟩ : ∃ m, k = m + 1 := ⟨k - 1, by omega⟩
    obtain rfl : c = n := by omega
    simp only [spec_l03Kernel.l0]
    rw [if_neg (by omega)]
  | succ d ih =>
    intro k c hd hc hk
    obtain ⟨k, rfl⟩ : ∃ m, k = m + 1 := ⟨k - 1, by omega⟩
    have hcn : c < n := by omega
    have hkl := kers_length p Q piv n c
    simp only [spec_l03Kernel.l0]
    rw [if_pos (by omega), has_tells (by omega) (c : Int) (by omega), Option.bind_some, Int.toNat_natCast, Int.toNat_natCast]
    by_cases e : (c : Int) ∈ piv
    · rw [decide_eq_true e, if_pos rfl, w64_succ (n := n) hcn (by omega)]
      have := ih k (c + 1) (by omega) (by omega) (by omega)
      simp only [kers, if_pos e] at this
      exact this
    · rw [decide_eq_false e, if_neg (by decide), if_pos (by omega), if_pos (by omega), Option.bind_some, if_pos (by omega), if_pos (by simp; omega)]
      obtain ⟨k', h1, h2⟩ := specKer_l1 (R := R) (l := l) hp hp' hR hn hok hpl hpq hpv hcn (kers p Q piv n c) (by omega) piv.length k 0 (by omega) (by omega) (by omega)
      refine Eq.trans h2 ?_
      have := ih k' (c + 1) (by omega) (by omega) (by omega)
      simp only [kers, if_neg e] at this
      exact this
end
/-- What both kernels are. -/
def kerOf (p : Int) (R C : Nat) (l : List Int) : List (List Int) := kers p (elim p C (rowsM R C l)).1 (elim p C (rowsM R C l)).2.1 C C
theorem implKer_tells {p : Int} (hp : isP p = true) {R C : Nat} {l : List Int} (hR : R ≤ 32) (hC : C ≤ 32) (hl : l.length = R * C) (hv : ∀ j, 0 ≤ l.getD j 0 ∧ l.getD j 0 < p) {k : Nat} (hk : 400000 ≤ k) : impl_kernel.f k p R C l = some (kerOf p R C l) := by
  have h2 := isP_ge hp
  unfold impl_kernel.f kerOf
  obtain ⟨t1, t2, t3, t4, _, _⟩ := elimTo_small hp (rowsM_ok (R := R) (C := C) hv) C (Nat.le_refl _)
  have t5 := piv_lt p (rowsM R C l) C
  rw [implElim_tells hp (by omega) (by omega) hl hv (by omega), Option.bind_some]
  exact implKer_l0 (R := R) (l := l) (Q := (elim p C (rowsM R C l)).1) (piv := (elim p C (rowsM R C l)).2.1) h2.1 h2.2 hC t1 t3 (by rw [show (elim p C (rowsM R C l)).1.length = (rowsM R C l).length from t2]; exact t4) t5 C k 0 (by omega) (by omega) (by omega)
theorem specKer_tells {p : Int} (hp : isP p = true) {R C : Nat} {l : List Int} (hR : R ≤ 32) (hC : C ≤ 32) (hl : l.length = R * C) (hv : ∀ j, 0 ≤ l.getD j 0 ∧ l.getD j 0 < p) {k : Nat} (hk : 400000 ≤ k) : spec_l03Kernel.f k p R C l = some (kerOf p R C l) := by
  have h2 := isP_ge hp
  unfold spec_l03Kernel.f kerOf
  obtain ⟨t1, t2, t3, t4, _, _⟩ := elimTo_small hp (rowsM_ok (R := R) (C := C) hv) C (Nat.le_refl _)
  have t5 := piv_lt p (rowsM R C l) C
  obtain ⟨ds, _, _, _, h⟩ := specElim_tells hp (R := R) (C := C) (by omega) (by omega) hl hv (k := k) (by omega)
  rw [h, Option.bind_some]
  exact specKer_l0 (R := R) (l := l) (Q := (elim p C (rowsM R C l)).1) (piv := (elim p C (rowsM R C l)).2.1) h2.1 h2.2 hR hC t1 t3 (by have := rowsM_length R C l; exact Nat.le_trans t4 (by omega)) t5 C k 0 (by omega) (by omega) (by omega)
/-- What both return. -/
def kerRes (p r c : Int) (l : List Int) : List (List Int) × Int := if matOk p r c l = true then (kerOf p r.toNat c.toNat l, 0) else ([], 1)
theorem implKernelOf_tells (p r c : Int) {l : List Int} {k : Nat} (hk : 400000 ≤ k) : impl_KernelOf.f k p r c l = some (kerRes p r c l) := by
  unfold impl_KernelOf.f kerRes
  rw [implOk_tells p r c (by omega), Option.bind_some]
  by_cases h : matOk p r c l = true
  · obtain ⟨R, C, rfl, rfl, hR, hC, hl, hv⟩ := kerDims h
    rw [if_pos h, if_pos h, implKer_tells (matOk_iff.mp h).1 hR hC hl hv hk, Option.bind_some, Int.toNat_natCast, Int.toNat_natCast]
  · rw [if_neg h, if_neg h]
theorem specKernelOf_tells (p r c : Int) {l : List Int} (hl : l.length ≤ 1048576) {k : Nat} (hk : 2000000 ≤ k) : spec_KernelOf.f k p r c l = some (kerRes p r c l) := by
  unfold spec_KernelOf.f kerRes
  rw [specOk_tells p r c (by omega) (by omega), Option.bind_some]
  by_cases h : matOk p r c l = true
  · obtain ⟨R, C, rfl, rfl, hR, hC, hl, hv⟩ := kerDims h
    rw [if_pos h, if_pos h, specKer_tells (matOk_iff.mp h).1 hR hC hl hv (by omega), Option.bind_some, Int.toNat_natCast, Int.toNat_natCast]
  · rw [if_neg h, if_neg h]
theorem kerRes_small (p r c : Int) (l : List Int) : (kerRes p r c l).1.length ≤ 1048576 ∧ ∀ x ∈ (kerRes p r c l).1, x.length ≤ 1048576 := by
  unfold kerRes
  split
  · next h =>
    obtain ⟨R, C, rfl, rfl, hR, hC, hl, hv⟩ := kerDims h
    simp only [Int.toNat_natCast]
    unfold kerOf
    have h1 := kers_length p (elim p C (rowsM R C l)).1 (elim p C (rowsM R C l)).2.1 C C
    exact ⟨by omega, fun x hx => by have := kers_rows _ _ _ _ _ x hx; omega⟩
  · exact ⟨by simp, by simp⟩
theorem FnExactKernelOf_pure : laws_FnExactKernelOf.Pure := by
  intro p r c l _ _ _ hm _
  by_cases hl : l.length ≤ 1048576
  · refine ⟨74000000, ?_⟩
    unfold laws_FnExactKernelOf.f
    rw [szMatrix_tells p r c hm, if_pos hl, Option.bind_some, if_neg (by omega), toMatrix_tells p r c (by omega) (by omega), Option.bind_some]
    dsimp only
    rw [specKernelOf_tells p r c hl (by omega), Option.bind_some, implKernelOf_tells p r c (by omega), Option.bind_some]
    obtain ⟨h1, h2⟩ := kerRes_small p r c l
    generalize kerRes p r c l = s at h1 h2 ⊢
    obtain ⟨s1, s2⟩ := s
    dsimp only at h1 h2 ⊢
    rw [eqSS_tells h1 h2 (by omega), Option.bind_some, decide_eq_true rfl, if_pos rfl, if_pos rfl, eqMatrix_tells (by omega) (by omega), Option.bind_some, if_pos rfl, markMatrix_tells (by omega) (by omega), Option.bind_some]
    dsimp only
    rw [if_neg (by omega), markR_tells h1 h2 (by omega), Option.bind_some]
    dsimp only
    rw [heldR_tells h1 h2 (by omega), Option.bind_some, if_neg (by omega), if_pos rfl]
  · refine ⟨0, ?_⟩
    unfold laws_FnExactKernelOf.f
    rw [szMatrix_tells p r c hm, if_neg hl, Option.bind_some, if_pos (by omega)]
end Go.Proofs.Ytoibkfdmcajieaa.F
namespace Go.Proofs.Ytoibkfdmcajieaa.Pure
theorem FnExactKernelOf : F.laws_FnExactKernelOf.Pure := F.FnExactKernelOf_pure
end Go.Proofs.Ytoibkfdmcajieaa.Pure
end

section
namespace Go.Proofs.Ytoibkfdmcajieaa.fnExactKernelOf
open Go.ChangeShapes Go.WideShapes Go.ChangeAt Go.RowKit Go.Joins
open Go.ChangeMaps (open_string shut_string)
set_option linter.unusedVariables false
theorem own : ownKnob Try.prog.godebug = none := by kernel_rfl
theorem laidOut : laidOutB Try.prog = true := by kernel_rfl
/-- A slice's row of whole numbers in memory. -/
def IsRow (k : IntKind) (w : World) (a : Option Addr) (len cap : Nat) (zs : List Int) : Prop :=
  (a = none ∧ len = 0 ∧ cap = 0 ∧ zs = []) ∨
  ∃ x, a = some x ∧ len ≤ cap ∧ cap ≤ maxLen ∧ zs.length = cap ∧ (∀ i, i < zs.length → w.cell? (x.add i) = some (.int k (zs.getD i 0))) ∧ ∀ n ∈ zs, (Lit.int k n).wf = true
/-- A cell that reads as a slice of whole numbers holds one. -/
theorem row_of {H : Type} {enc : TypeId × Value → H} {P : Program} {W : World} {n : Nat} {t e : TypeId} {k : IntKind} {v : Value} {y : DataW H × List MemPlace} (hs : P.underlying t = some (.slice e)) (hi : P.underlying e = some (.int k)) (hc : P.cellsOf e = 1)
    (hf : DataW.trod enc P W 0 (fun _ => true) true n t [v] = some y) : ∃ a len cap zs, v = .slice a len cap ∧ IsRow k W a len cap zs := by
  rcases open_ints hs hi hc hf with ⟨hcs, _⟩ | ⟨x, l, c, zs, hcs, _, hl, hm, hz, _, hcell, hwz⟩
  · simp at hcs
    exact ⟨_, _, _, [], hcs, .inl ⟨rfl, rfl, rfl, rfl⟩⟩
  · simp at hcs
    exact ⟨_, _, _, zs, hcs, .inr ⟨_, rfl, hl, hm, by simpa using hz, hcell, hwz⟩⟩
set_option maxRecDepth 100000 in
theorem lifted (os : Os) (started : os.Started) (H : Type) (enc : TypeId × Value → H) :
    ReturnsInHanded {} Try.checked os 6 .any (Rows.fnExactKernelOfSpec.pre6 enc Try.prog Try.f6 Rows.fnExactKernelOfRow.domain false) (Rows.fnExactKernelOfSpec.post enc Try.prog Try.f6 false true false false) := by
  refine returnsInHanded_of_change_sized (C := Try.checked) own started (by kernel_rfl) Try.func6
    (ChangeSpec.witness6 (enc := enc) (C := Try.checked) false ⟨#[], #[.agg #[.int .i64 0, .int .i64 0, .int .i64 0, .slice none 0 0]], []⟩ 8 (by kernel_rfl) (by kernel_rfl) (by kernel_rfl) (by kernel_rfl)) ?_
  intro W base args ds gs before hval0 hW hcnd hsz0 _
  have hsz : (DataW.weightsEach Try.prog (Try.f6.params.toList ++ Rows.fnExactKernelOfSpec.plain.varTypes Try.prog) (ds ++ gs)).all (· ≤ reachBytes) = true := hsz0
  have hval : ∀ (j : Nat) t v, Try.f6.params[j]? = some t → args[j]? = some v → Value.okWide Try.prog W .any base t v := hval0
  have hW' := hW
  obtain ⟨p, q, hA0, hV, rfl, hfz, hnd⟩ := hW
  have hA : DataW.TrodAll enc Try.prog W 0 (fun _ => true) true Try.f6.params.toList args.toList ds p := hA0
  rw [Try.params6] at hA hval hsz
  obtain ⟨v0, vs0, d0, ds0, p0, q0, hargs, rfl, rfl, h0, r0⟩ := trodAll_cons hA
  obtain ⟨rfl, rfl, rfl⟩ := trodAll_nil r0
  obtain rfl : args = #[v0] := by cases args; simp_all
  obtain ⟨rfl, rfl⟩ := trodVars_none hV
  have k0 := h0
  have lt0 : ∀ x ∈ p0, x.block < W.heap.size := by obtain ⟨m, hm⟩ := k0; exact DataW.trod_lt m _ _ _ hm
  obtain ⟨c0_0, c0_1, c0_2, c0_3, y0_0, y0_1, y0_2, y0_3, m0, rfl, _, _, g0_0, g0_1, g0_2, g0_3⟩ := open_agg4 Try.underlying40 (by kernel_rfl) (show Try.prog.cellsOf 40 = 4 by kernel_rfl) (hval 0 40 v0 rfl rfl) h0
  obtain ⟨a0_0, e0_0, _, w0_0⟩ := DataW.trod_int Try.underlying2 g0_0
  simp at e0_0
  subst e0_0
  obtain ⟨a0_1, e0_1, _, w0_1⟩ := DataW.trod_int Try.underlying2 g0_1
  simp at e0_1
  subst e0_1
  obtain ⟨a0_2, e0_2, _, w0_2⟩ := DataW.trod_int Try.underlying2 g0_2
  simp at e0_2
  subst e0_2
  obtain ⟨a0_3, len0_3, cap0_3, z0_3, rfl, w0_3⟩ := row_of Try.underlying38 Try.underlying2 (by kernel_rfl) g0_3
  clear hA0 hval0 hsz0 hsz
  refine (F.laws_FnExactKernelOf.walk Pure.FnExactKernelOf a0_0 a0_1 a0_2 a0_3 len0_3 cap0_3 z0_3 W w0_0 w0_1 w0_2 w0_3).mono fun e W' ⟨he, bel⟩ => ?_
  subst he
  exact ⟨_, rfl, _, _, _, [], _, [], hW', trodAll_mk1 (shut_bool Try.underlying4 _), (trodAll_cons_mk (Below.trod laidOut (by kernel_rfl) (of_decide_eq_true (by kernel_rfl)) k0 bel lt0) trodAll_mk0), rfl, bel.frame _, fun h => by cases h⟩
theorem over : Rows.fnExactKernelOfRow.holds Try.pinned (OpenSpec.ofChange Rows.fnExactKernelOfSpec) :=
  OpenClaim.holds_of_wide 6 Try.f6 rfl rfl rfl rfl rfl rfl rfl ⟨rfl, rfl, rfl, rfl, rfl⟩ rfl rfl rfl rfl rfl (by kernel_rfl) Try.func6 (by kernel_rfl)
    (of_decide_eq_true (by kernel_rfl)) (by unfold Func.isWrapper; first | (rw [if_pos (by decide +kernel)]; kernel_rfl) | (rw [if_neg (by decide +kernel)]; exact ⟨rfl, rfl⟩))
    (fun os started H enc _ => lifted os started H enc)
theorem proved : Rows.FnExactKernelOfSaid := over
#print axioms proved
end Go.Proofs.Ytoibkfdmcajieaa.fnExactKernelOf
namespace Go.Proofs.Ytoibkfdmcajieaa
/-- The row, under a short name, for the claim. -/
theorem fnExactKernelOf_holds : Rows.FnExactKernelOfSaid := fnExactKernelOf.proved
end Go.Proofs.Ytoibkfdmcajieaa
end
