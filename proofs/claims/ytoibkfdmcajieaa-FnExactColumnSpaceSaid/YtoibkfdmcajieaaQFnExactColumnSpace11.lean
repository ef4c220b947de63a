-- Texts of this claim, merged by pack.py (a program of this session's).
import Derived.Test.YtoibkfdmcajieaaQFnExactColumnSpace0
import Derived.Test.YtoibkfdmcajieaaQFnExactColumnSpace1
import Derived.Test.YtoibkfdmcajieaaQFnExactColumnSpace10
import Derived.Test.YtoibkfdmcajieaaQFnExactColumnSpace9
import Derived.KernelRfl
import Derived.Test.YtoibkfdmcajieaaQFnExactColumnSpace3
import Derived.Test.YtoibkfdmcajieaaQFnExactColumnSpace8
import Derived.Test.YtoibkfdmcajieaaQFnExactColumnSpace6
import Derived.Test.YtoibkfdmcajieaaQFnExactColumnSpace4
import Derived.Test.YtoibkfdmcajieaaQFnExactColumnSpace7
import Derived.Test.YtoibkfdmcajieaaQFnExactColumnSpace2
import Derived.Test.YtoibkfdmcajieaaRows
import Derived.WalkKit
import Derived.ProofKit
import Derived.OpenShut
import Derived.ShutString
import Derived.ChangeOld
import Derived.Below
import Derived.SizedLaws
import Derived.Lib.SmallJoins
import Derived.Deep.Slices
import Derived.Test.YtoibkfdmcajieaaWSized

section
set_option linter.unusedVariables false
set_option linter.unusedSimpArgs false
set_option linter.unusedSectionVars false
namespace Go.Proofs.Ytoibkfdmcajieaa.F
open Go.RowKit Go.Proofs.YtoibkfdmcajieaaW.PrintWords Go.Proofs.YtoibkfdmcajieaaW.PrintLast Go.Proofs.Ytoibkfdmcajieaa.Lin

/-- Numbers in rows, one after another. -/
def marksR (m : Int) : List (List Int) → List (List Int)
  | [] => []
  | r :: rs => iota m r.length :: marksR (m + r.length) rs
def totalR : List (List Int) → Nat
  | [] => 0
  | r :: rs => r.length + totalR rs
theorem totalR_le {B : Nat} : ∀ {l : List (List Int)}, (∀ r ∈ l, r.length ≤ B) → totalR l ≤ l.length * B
  | [], _ => by simp [totalR]
  | r :: rs, h => by
    have h1 := totalR_le (l := rs) (fun x hx => h x (List.mem_cons_of_mem _ hx))
    have h2 := h r List.mem_cons_self
    simp only [totalR, List.length_cons, Nat.succ_mul]
    omega
theorem marksR_length (m : Int) (l : List (List Int)) : (marksR m l).length = l.length := by
  induction l generalizing m with
  | nil => rfl
  | cons r rs ih => simp [marksR, ih]
theorem rdR_at (pre : List (List Int)) (r : List Int) (rs : List (List Int)) : rd_L1 (pre ++ r :: rs) (pre.length : Int) = r := by
  rw [rdS_nat, getD_at (by simp)]; simp
theorem setR_at (pre : List (List Int)) (r r' : List Int) (rs : List (List Int)) : (pre ++ r :: rs).set (pre.length : Int).toNat r' = (pre ++ [r']) ++ rs := by
  rw [Int.toNat_natCast]; simp
theorem markR_loop {B : Nat} (hB : B ≤ 35184372088832) (rs : List (List Int)) : ∀ (k : Nat) (pre : List (List Int)) (m : Int), (∀ r ∈ rs, r.length ≤ B) → pre.length + rs.length ≤ 35184372088832 → rs.length + B + 1 < k → 0 ≤ m → m + totalR rs ≤ 4611686018427387904 →
    laws_markInt64SS.l0 k (pre ++ rs) m (pre.length : Int) = some (m + totalR rs, pre ++ marksR m rs) := by
  induction rs with
  | nil =>
    intro k pre m _ _ hk _ _
    obtain ⟨k, rfl⟩ : ∃ m, k = m + 1 := ⟨k - 1, by omega⟩
    simp only [laws_markInt64SS.l0]
    rw [if_neg (by simp)]
    simp [totalR, marksR]
  | cons r rs ih =>
    intro k pre m hr hl hk hm hm'
    obtain ⟨k, rfl⟩ : ∃ m, k = m + 1 := ⟨k - 1, by omega⟩
    have h1 := hr r List.mem_cons_self
    simp only [totalR, List.length_cons] at hm' hl hk
    simp only [laws_markInt64SS.l0]
    rw [if_pos (by simp; omega), if_pos (by omega), rdR_at, mark_tells hm (by omega) (by omega) (by omega), Option.bind_some]
    dsimp only
    rw [setR_at, w64_succ (n := 35184372088832) (by omega) (by omega), show (((pre.length + 1 : Nat)) : Int) = (((pre ++ [iota m r.length]).length : Nat) : Int) by simp]
    have e := ih k (pre ++ [iota m r.length]) (m + r.length) (fun x hx => hr x (List.mem_cons_of_mem _ hx)) (by simp; omega) (by omega) (by omega) (by omega)
    rw [e]
    simp only [totalR, marksR, List.append_assoc, List.singleton_append, Option.some.injEq, Prod.mk.injEq, and_true]
    omega
theorem heldR_loop {B : Nat} (hB : B ≤ 35184372088832) (rs : List (List Int)) : ∀ (k : Nat) (pre : List (List Int)) (m : Int), (∀ r ∈ rs, r.length ≤ B) → pre.length + rs.length ≤ 35184372088832 → rs.length + B + 1 < k → 0 ≤ m → m + totalR rs ≤ 4611686018427387904 →
    laws_heldInt64SS.l0 k (pre ++ marksR m rs) m (pre.length : Int) = some (m + totalR rs) := by
  induction rs with
  | nil =>
    intro k pre m _ _ hk _ _
    obtain ⟨k, rfl⟩ : ∃ m, k = m + 1 := ⟨k - 1, by omega⟩
    simp only [laws_heldInt64SS.l0]
    rw [if_neg (by simp [marksR])]
    simp [totalR]
  | cons r rs ih =>
    intro k pre m hr hl hk hm hm'
    obtain ⟨k, rfl⟩ : ∃ m, k = m + 1 := ⟨k - 1, by omega⟩
    have h1 := hr r List.mem_cons_self
    simp only [totalR, List.length_cons] at hm' hl hk
    show laws_heldInt64SS.l0 (k + 1) (pre ++ iota m r.length :: marksR (m + r.length) rs) m (pre.length : Int) = _
    simp only [laws_heldInt64SS.l0]
    rw [if_pos (show (pre.length : Int) < (((pre ++ iota m r.length :: marksR (m + r.length) rs).length : Nat) : Int) by rw [List.length_append, List.length_cons]; omega), if_pos (by omega), rdR_at, held_tells hm (by omega) (by omega) (by omega), Option.bind_some, if_neg (by omega)]
    rw [w64_succ (n := 35184372088832) (by omega) (by omega), show (((pre.length + 1 : Nat)) : Int) = (((pre ++ [iota m r.length]).length : Nat) : Int) by simp]
    have e := ih k (pre ++ [iota m r.length]) (m + r.length) (fun x hx => hr x (List.mem_cons_of_mem _ hx)) (by simp; omega) (by omega) (by omega) (by omega)
    rw [show pre ++ iota m r.length :: marksR (m + r.length) rs = (pre ++ [iota m r.length]) ++ marksR (m + r.length) rs by simp, e]
    simp only [totalR, Option.some.injEq]
    omega
theorem markR_tells {l : List (List Int)} (hn : l.length ≤ 1048576) (hr : ∀ r ∈ l, r.length ≤ 1048576) {k : Nat} (hk : 2097154 < k) : laws_markInt64SS.f k l 1 = some (1 + (totalR l : Int), marksR 1 l) := by
  have ht := totalR_le hr
  have ht2 : l.length * 1048576 ≤ 1048576 * 1048576 := Nat.mul_le_mul hn (Nat.le_refl _)
  unfold laws_markInt64SS.f
  exact markR_loop (B := 1048576) (by omega) l k [] 1 hr (by simp; omega) (by omega) (by omega) (by omega)
theorem heldR_tells {l : List (List Int)} (hn : l.length ≤ 1048576) (hr : ∀ r ∈ l, r.length ≤ 1048576) {k : Nat} (hk : 2097154 < k) : laws_heldInt64SS.f k (marksR 1 l) 1 = some (1 + (totalR l : Int)) := by
  have ht := totalR_le hr
  have ht2 : l.length * 1048576 ≤ 1048576 * 1048576 := Nat.mul_le_mul hn (Nat.le_refl _)
  unfold laws_heldInt64SS.f
  exact heldR_loop (B := 1048576) (by omega) l k [] 1 hr (by simp; omega) (by omega) (by omega) (by omega)

theorem specPrime_tells (p : Int) {k : Nat} (hk : 20 ≤ k) : spec_ValidPrime.f k p = some (isP p) := by
  unfold spec_ValidPrime.f
  rw [prime_tells p hk]; rfl
/-- A matrix in memory: what is compared, marked and held. -/
theorem eqMatrix_tells {p r c : Int} {l : List Int} (hl : l.length ≤ 35184372088832) {k : Nat} (hk : l.length < k) : laws_eqMatrix.f k p r c l p r c l = some true := by
  unfold laws_eqMatrix.f
  rw [eq_tells hl hk]
  simp
theorem markMatrix_tells {p r c : Int} {l : List Int} (hl : l.length ≤ 35184372088832) {k : Nat} (hk : l.length < k) : laws_markMatrix.f k p r c l 1 = some (1 + (l.length : Int), iota 1 l.length) := by
  unfold laws_markMatrix.f
  rw [mark_tells (by omega) (by omega) hl hk]; rfl

/-- All numbers of a list are numbers modulo p. -/
def allM (l : List Int) (p : Int) : Bool := l.all fun x => decide (0 ≤ x) && decide (x < p)
theorem allM_iff {l : List Int} {p : Int} : allM l p = true ↔ ∀ x, x ∈ l → 0 ≤ x ∧ x < p := by unfold allM; simp
theorem areM_tells {l : List Int} {p : Int} (hp : isP p = true) : impl_areElements.f l p = some (allM l p) := by
  have := isP_ge hp
  unfold impl_areElements.f allM
  rw [w64_id (x := p - 1) (by omega) (by omega)]
  congr 1
  induction l with
  | nil => rfl
  | cons x l ih =>
    simp only [List.any_cons, List.all_cons, Bool.not_or, Bool.not_not]
    rw [ih]
    congr 2
    rw [decide_eq_decide]; omega
theorem allM_drop {l : List Int} {p : Int} {i : Nat} (h : i < l.length) : allM (l.drop i) p = (decide (0 ≤ l.getD i 0 ∧ l.getD i 0 ≤ p - 1) && allM (l.drop (i + 1)) p) := by
  rw [List.drop_eq_getElem_cons h]
  unfold allM
  simp only [List.all_cons]
  congr 1
  rw [getD_at h, ← Bool.decide_and, decide_eq_decide]; omega
theorem getD_inM {l : List Int} {p : Int} (hp : 2 ≤ p) (h : ∀ x, x ∈ l → 0 ≤ x ∧ x < p) (j : Nat) : 0 ≤ l.getD j 0 ∧ l.getD j 0 < p := by
  by_cases hj : j < l.length
  · rw [getD_at hj]; exact h _ (List.getElem_mem hj)
  · rw [List.getD_eq_getElem?_getD, List.getElem?_eq_none (by omega)]; simp; omega
theorem column_loop {l : List Int} {n p : Int} (hp : 2 ≤ p) (hp' : p ≤ 251) (hl : l.length ≤ 35184372088832) (d : Nat) : ∀ (k i : Nat), l.length - i = d → i ≤ l.length → d < k →
    spec_l03Column.l0 k l n p i = some (allM (l.drop i) p && decide ((l.length : Int) = n)) := by
  induction d with
  | zero =>
    intro k i hd hi hk
    obtain ⟨k, rfl⟩ : ∃ m, k = m + 1 := ⟨k - 1, by omega⟩
    simp only [spec_l03Column.l0]
    rw [if_neg (by omega), show l.drop i = [] from List.drop_eq_nil_of_le (by omega)]
    simp only [allM, List.all_nil, Bool.true_and]
    congr 1
  | succ d ih =>
    intro k i hd hi hk
    obtain ⟨k, rfl⟩ : ∃ m, k = m + 1 := ⟨k - 1, by omega⟩
    simp only [spec_l03Column.l0]
    rw [if_pos (by omega), if_pos (by omega), rd_nat, w64_id (x := p - 1) (by omega) (by omega), in_tells, w64_succ (n := l.length) (by omega) hl, allM_drop (i := i) (by omega)]
    simp only [Option.bind_some]
    cases h : decide (0 ≤ l.getD i 0 ∧ l.getD i 0 ≤ p - 1) with
    | false => simp
    | true => rw [if_pos rfl, ih k (i + 1) (by omega) (by omega) (by omega)]; simp
theorem column_tells {l : List Int} {n p : Int} (hp : 2 ≤ p) (hp' : p ≤ 251) (hl : l.length ≤ 35184372088832) {k : Nat} (hk : l.length < k) : spec_l03Column.f k l n p = some (allM l p && decide ((l.length : Int) = n)) := by
  unfold spec_l03Column.f
  exact column_loop hp hp' hl l.length k 0 (by omega) (by omega) hk
/-- A matrix of numbers modulo a prime, its sides at most 32. -/
def matOk (p r c : Int) (l : List Int) : Bool := isP p && (decide (0 ≤ r ∧ r ≤ 32) && (decide (0 ≤ c ∧ c ≤ 32) && (decide ((l.length : Int) = r * c) && allM l p)))
theorem matOk_iff {p r c : Int} {l : List Int} : matOk p r c l = true ↔ isP p = true ∧ (0 ≤ r ∧ r ≤ 32) ∧ (0 ≤ c ∧ c ≤ 32) ∧ (l.length : Int) = r * c ∧ ∀ x, x ∈ l → 0 ≤ x ∧ x < p := by
  unfold matOk; simp only [Bool.and_eq_true, decide_eq_true_eq, allM_iff]
theorem side_mulI {r c : Int} (hr : 0 ≤ r ∧ r ≤ 32) (hc : 0 ≤ c ∧ c ≤ 32) : wrap64 (r * c) = r * c ∧ 0 ≤ r * c ∧ r * c ≤ 1024 := by
  have h1 := Int.mul_nonneg hr.1 hc.1
  have h2 : r * c ≤ 32 * 32 := Int.mul_le_mul hr.2 hc.2 hc.1 (by omega)
  exact ⟨w64_id (by omega) (by omega), h1, by omega⟩
theorem specOk_tells (p r c : Int) {l : List Int} (hl : l.length ≤ 35184372088832) {k : Nat} (hk : l.length + 20 < k) : spec_l03Ok.f k p r c l = some (matOk p r c l) := by
  unfold spec_l03Ok.f matOk
  rw [specPrime_tells p (by omega)]
  cases hp : isP p with
  | false => simp
  | true =>
    have hp2 := isP_ge hp
    rw [in_tells, in_tells]
    by_cases h1 : 0 ≤ r ∧ r ≤ 32
    · by_cases h2 : 0 ≤ c ∧ c ≤ 32
      · rw [(side_mulI h1 h2).1, column_tells hp2.1 hp2.2 hl (by omega)]
        simp only [h1, h2, and_self, decide_true, Option.bind_some, if_true, Bool.true_and]
        rw [Bool.and_comm]
      · simp only [h1, h2, and_self, decide_true, decide_false, Option.bind_some, if_true, Bool.true_and, Bool.false_and]; rfl
    · simp only [h1, decide_false, Option.bind_some, if_true, Bool.true_and, Bool.false_and]; rfl
theorem implOk_tells (p r c : Int) {l : List Int} {k : Nat} (hk : 20 ≤ k) : impl_ValidMatrix.f k p r c l = some (matOk p r c l) := by
  unfold impl_ValidMatrix.f matOk
  rw [ask_prime, prime_tells p hk]
  cases hp : isP p with
  | false => simp
  | true =>
    have hp2 := isP_ge hp
    rw [side_tells, side_tells, areM_tells hp]
    by_cases h1 : 0 ≤ r ∧ r ≤ 32
    · by_cases h2 : 0 ≤ c ∧ c ≤ 32
      · rw [(side_mulI h1 h2).1]
        unfold impl_size_int64.f
        simp only [h1, h2, and_self, decide_true, Option.bind_some, if_true, Bool.true_and]
        by_cases h3 : (l.length : Int) = r * c
        · simp [h3]
        · simp [h3]
      · simp only [h1, h2, and_self, decide_true, decide_false, Option.bind_some, if_true, Bool.true_and, Bool.false_and]; rfl
    · simp only [h1, decide_false, Option.bind_some, if_true, Bool.true_and, Bool.false_and]; rfl
theorem szMatrix_tells (p r c : Int) {l : List Int} (hl : l.length ≤ maxLen) : laws_szMatrix.f p r c l 1048576 = some (if l.length ≤ 1048576 then 1048576 - (l.length : Int) else -1) := by
  unfold laws_szMatrix.f laws_szInt64S.f
  have hl : l.length ≤ 9223372036854775807 := hl
  rw [w64_id (x := 1048576 - (l.length : Int)) (by omega) (by omega)]
  by_cases h : l.length ≤ 1048576
  · rw [if_neg (by omega), if_pos h]
    simp only [Option.bind_some]
    rw [if_neg (by omega)]
  · rw [if_pos (by omega), if_neg h]; rfl
theorem toMatrix_tells (p r c : Int) {l : List Int} (hl : l.length ≤ 35184372088832) {k : Nat} (hk : l.length < k) : laws_toMatrix.f k p r c l = some (p, r, c, l) := by
  unfold laws_toMatrix.f
  rw [copy_tells hl hk]; rfl
theorem mul_small {p x y : Int} (hp : 2 ≤ p) (hp' : p ≤ 251) (hx : 0 ≤ x) (hx' : x ≤ 251) (hy : 0 ≤ y) (hy' : y < p) : 0 ≤ x * y ∧ x * y ≤ 63001 := by
  have g1 := Int.mul_nonneg hx hy
  have g2 : x * y ≤ 251 * 251 := Int.mul_le_mul hx' (by omega) hy (by omega)
  omega
theorem dimsM {p r c : Int} {l : List Int} (h : matOk p r c l = true) : ∃ R C : Nat, r = R ∧ c = C ∧ R ≤ 32 ∧ C ≤ 32 ∧ l.length = R * C ∧ (2 ≤ p ∧ p ≤ 251) ∧ ∀ j, 0 ≤ l.getD j 0 ∧ l.getD j 0 < p := by
  obtain ⟨hp, hr, hc, hl, hx⟩ := matOk_iff.mp h
  obtain ⟨R, rfl⟩ := Int.eq_ofNat_of_zero_le hr.1
  obtain ⟨C, rfl⟩ := Int.eq_ofNat_of_zero_le hc.1
  exact ⟨R, C, rfl, rfl, by omega, by omega, by exact_mod_cast hl, isP_ge hp, fun j => getD_inM (isP_ge hp).1 hx j⟩

theorem range_map_snoc (g : Nat → Int) (n : Nat) : (List.range n).map g ++ [g n] = (List.range (n + 1)).map g := by rw [List.range_succ]; simp
theorem filled_row {cf : Cell2} {f : Nat → Nat → Int} {r c : Nat} (hr : r ≤ 128) (hc : c ≤ 128) {i : Nat} (hi : i < r) (h : ∀ j, j < c → cf.f i j = some (f i j)) (p : Int) (d : Nat) : ∀ (k j : Nat), c - j = d → j ≤ c →
    impl_filled.l1 cf (k + d + 1) c i r i c j p r c ((List.range (i * c + j)).map fun x => f (x / c) (x % c)) =
    impl_filled.l0 cf k c r ((i + 1 : Nat) : Int) p r c ((List.range ((i + 1) * c)).map fun x => f (x / c) (x % c)) := by
  induction d with
  | zero =>
    intro k j hd hj
    obtain rfl : j = c := by omega
    rw [show k + 0 + 1 = k + 1 by omega]
    simp only [impl_filled.l1]
    rw [if_neg (by omega), w64_succ (n := r) hi (by omega), Nat.succ_mul]
  | succ d ih =>
    intro k j hd hj
    have hj' : j < c := by omega
    have hlt := at_lt hi hj'
    have hm := side_mul hr hc
    rw [show k + (d + 1) + 1 = (k + d + 1) + 1 by omega]
    simp only [impl_filled.l1]
    rw [if_pos (by omega), h j hj']
    simp only [Option.bind_some, List.length_map, List.length_range]
    rw [if_pos (by omega), w64_succ (n := c) hj' (by omega)]
    have e : f i j = (fun x => f (x / c) (x % c)) (i * c + j) := by simp only [(at_div hj').1, (at_div hj').2]
    rw [e, range_map_snoc]
    exact ih k (j + 1) (by omega) (by omega)
theorem filled_loop {cf : Cell2} {f : Nat → Nat → Int} {r c : Nat} (hr : r ≤ 128) (hc : c ≤ 128) (h : ∀ i j, i < r → j < c → cf.f i j = some (f i j)) (p : Int) (d : Nat) : ∀ (k i : Nat), r - i = d → i ≤ r → d * (c + 2) < k →
    impl_filled.l0 cf k c r i p r c ((List.range (i * c)).map fun x => f (x / c) (x % c)) = some (p, (r : Int), (c : Int), tab r c f) := by
  induction d with
  | zero =>
    intro k i hd hi hk
    obtain ⟨k, rfl⟩ : ∃ m, k = m + 1 := ⟨k - 1, by omega⟩
    obtain rfl : i = r := by omega
    simp only [impl_filled.l0]
    rw [if_neg (by omega)]
    rfl
  | succ d ih =>
    intro k i hd hi hk
    rw [Nat.succ_mul] at hk
    obtain ⟨k, rfl⟩ : ∃ m, k = m + c + 1 + 1 := ⟨k - c - 1 - 1, by omega⟩
    simp only [impl_filled.l0]
    rw [if_pos (by omega)]
    have := filled_row hr hc (show i < r by omega) (fun j hj => h i j (by omega) hj) p c k 0 (by omega) (by omega)
    rw [show i * c + 0 = i * c from rfl] at this
    rw [show (0 : Int) = ((0 : Nat) : Int) from rfl, this]
    exact ih k (i + 1) (by omega) (by omega) (by omega)
/-- 'filled' tells the matrix whose numbers its function tells. -/
theorem filled_tells {cf : Cell2} {f : Nat → Nat → Int} {r c : Nat} (hr : r ≤ 128) (hc : c ≤ 128) (h : ∀ i j, i < r → j < c → cf.f i j = some (f i j)) (p a3 : Int) {k : Nat} (hk : 17000 ≤ k) :
    impl_filled.f cf k p r c a3 = some (p, (r : Int), (c : Int), tab r c f) := by
  have h2 : r * (c + 2) ≤ 128 * 130 := Nat.mul_le_mul hr (by omega)
  have := filled_loop hr hc h p r k 0 (by omega) (by omega) (by omega)
  unfold impl_filled.f
  rw [show ([] : List Int) = (List.range (0 * c)).map fun x => f (x / c) (x % c) by simp]
  exact this

/-- A number of a matrix by its row and column. -/
theorem at_tells {p r c : Int} {l : List Int} {R C : Nat} (hr : R ≤ 128) (hc : C ≤ 128) (ec : c = C) (hl : l.length = R * C) {i j : Nat} (hi : i < R) (hj : j < C) : impl_Matrix_at.f p r c l i j = some (l.getD (i * C + j) 0) := by
  subst ec
  have h := at_lt hi hj
  unfold impl_Matrix_at.f
  rw [w64_at (r := R) hr hc (by omega) (by omega), if_pos (by omega), if_pos (by omega), rd_nat]

/-- The transposed matrix. -/
def turned (r c : Nat) (l : List Int) : List Int := tab c r (fun i j => l.getD (j * c + i) 0)
theorem implTransposed_tells (p : Int) {r c : Nat} (hr : r ≤ 128) (hc : c ≤ 128) {l : List Int} (hl : l.length = r * c) {k : Nat} (hk : 17000 ≤ k) : impl_transpose.f k p r c l = some (p, (c : Int), (r : Int), turned r c l) := by
  unfold impl_transpose.f
  rw [filled_tells (f := fun i j => l.getD (j * c + i) 0) hc hr (fun i j hi hj => at_tells (p := p) (r := (r : Int)) (R := r) hr hc rfl hl hj hi) p 0 hk]
  rfl
end Go.Proofs.Ytoibkfdmcajieaa.F
end

section
/- Both functions refuse the same matrices and return the same space of columns, in memory of its own; the matrix stays as it is. -/
set_option linter.unusedVariables false
set_option linter.unusedSimpArgs false
set_option linter.unusedSectionVars false
namespace Go.Proofs.Ytoibkfdmcajieaa.F
open Go.RowKit Go.Proofs.YtoibkfdmcajieaaW.PrintWords Go.Proofs.YtoibkfdmcajieaaW.PrintLast Go.Proofs.Ytoibkfdmcajieaa.Lin

theorem colDims {p r c : Int} {l : List Int} (h : matOk p r c l = true) : ∃ R C : Nat, r = R ∧ c = C ∧ R ≤ 32 ∧ C ≤ 32 ∧ l.length = R * C ∧ ∀ j, 0 ≤ l.getD j 0 ∧ l.getD j 0 < p := by
  obtain ⟨hp, hr, hc, hl, hv⟩ := matOk_iff.mp h
  obtain ⟨R, rfl⟩ := Int.eq_ofNat_of_zero_le hr.1
  obtain ⟨C, rfl⟩ := Int.eq_ofNat_of_zero_le hc.1
  refine ⟨R, C, rfl, rfl, by omega, by omega, by exact_mod_cast hl, fun j => ?_⟩
  have := (isP_ge hp).1
  by_cases hj : j < l.length
  · exact hv _ (getD_mem (d := 0) hj)
  · rw [List.getD_eq_getElem?_getD, List.getElem?_eq_none (by omega)]; simp; omega
/-- The columns of a matrix. -/
def colsM (R C : Nat) (l : List Int) : List (List Int) := (List.range C).map (fun j => (List.range R).map (fun i => l.getD (i * C + j) 0))
theorem colsM_turned {R C : Nat} {l : List Int} : rowsM C R (turned R C l) = colsM R C l := by
  unfold rowsM colsM turned
  refine List.map_congr_left (fun i hi => List.map_congr_left (fun j hj => ?_))
  exact tab_at _ (List.mem_range.mp hi) (List.mem_range.mp hj)
theorem colsM_snoc (R C : Nat) (l : List Int) (j : Nat) : (List.range j).map (fun j => (List.range R).map (fun i => l.getD (i * C + j) 0)) ++ [(List.range R).map (fun i => l.getD (i * C + j) 0)] = (List.range (j + 1)).map (fun j => (List.range R).map (fun i => l.getD (i * C + j) 0)) := by
  rw [List.range_succ, List.map_append]; rfl
theorem rows_snocN (g : Nat → Int) (i : Nat) : (List.range i).map g ++ [g i] = (List.range (i + 1)).map g := by rw [List.range_succ, List.map_append]; rfl
theorem colLoop1 {p : Int} {R C : Nat} {l : List Int} (hR : R ≤ 32) (hC : C ≤ 32) (hl : l.length = R * C) {j : Nat} (hj : j < C) (acc : List (List Int)) (ha : acc.length ≤ 32) (d : Nat) : ∀ k i, R - i = d → i ≤ R → d < k →
    ∃ k', k ≤ k' + d + 1 ∧ spec_l04Columns.l1 k acc j ((List.range i).map (fun i => l.getD (i * C + j) 0)) i p R C l = spec_l04Columns.l0 k' (acc ++ [(List.range R).map (fun i => l.getD (i * C + j) 0)]) ((j + 1 : Nat) : Int) p R C l := by
  induction d with
  | zero =>
    intro k i hd hi hk
    obtain ⟨k, rfl⟩ : ∃ m, k = m + 1 := ⟨k - 1, by omega⟩
    obtain rfl : i = R := by omega
    refine ⟨k, by omega, ?_⟩
    simp only [spec_l04Columns.l1]
    rw [if_neg (nlt_nat (Nat.le_refl _)), if_pos (by omega), w64_succ (n := C) hj (by omega)]
  | succ d ih =>
    intro k i hd hi hk
    obtain ⟨k, rfl⟩ : ∃ m, k = m + 1 := ⟨k - 1, by omega⟩
    have hiR : i < R := by omega
    have hx := at_lt hiR hj
    obtain ⟨k', h1, h2⟩ := ih k (i + 1) (by omega) (by omega) (by omega)
    refine ⟨k', by omega, ?_⟩
    simp only [spec_l04Columns.l1]
    rw [if_pos (lt_nat hiR), w64_at (r := R) (by omega) (by omega) (by omega) (by omega), if_pos (by omega), if_pos (by rw [hl]; exact_mod_cast hx), if_pos (by simp; omega), rd_nat, rows_snocN (fun i => l.getD (i * C + j) 0) i, w64_succ (n := R) hiR (by omega)]
    exact h2
theorem colLoop0 {p : Int} {R C : Nat} {l : List Int} (hR : R ≤ 32) (hC : C ≤ 32) (hl : l.length = R * C) (d : Nat) : ∀ k j, C - j = d → j ≤ C → d * 40 + 40 < k →
    spec_l04Columns.l0 k ((List.range j).map (fun j => (List.range R).map (fun i => l.getD (i * C + j) 0))) j p R C l = some (colsM R C l) := by
  induction d with
  | zero =>
    intro k j hd hj hk
    obtain ⟨k, rfl⟩ : ∃ m, k = m + 1 := ⟨k - 1, by omega⟩
    obtain rfl : j = C := by omega
    simp only [spec_l04Columns.l0]
    rw [if_neg (nlt_nat (Nat.le_refl _))]
    rfl
  | succ d ih =>
    intro k j hd hj hk
    obtain ⟨k, rfl⟩ : ∃ m, k = m + 1 := ⟨k - 1, by omega⟩
    have hjC : j < C := by omega
    simp only [spec_l04Columns.l0]
    rw [if_pos (lt_nat hjC)]
    obtain ⟨k', h1, h2⟩ := colLoop1 (p := p) hR hC hl hjC ((List.range j).map (fun j => (List.range R).map (fun i => l.getD (i * C + j) 0))) (by simp; omega) R k 0 (by omega) (by omega) (by omega)
    refine Eq.trans h2 ?_
    rw [colsM_snoc]
    exact ih k' (j + 1) (by omega) (by omega) (by omega)
theorem specCols_tells {p : Int} {R C : Nat} {l : List Int} (hR : R ≤ 32) (hC : C ≤ 32) (hl : l.length = R * C) {k : Nat} (hk : 2000 ≤ k) : spec_l04Columns.f k p R C l = some (colsM R C l) := by
  unfold spec_l04Columns.f
  exact colLoop0 hR hC hl C k 0 (by omega) (by omega) (by omega)
theorem implCols_tells (p : Int) {R C : Nat} {l : List Int} (hR : R ≤ 32) (hC : C ≤ 32) (hl : l.length = R * C) {k : Nat} (hk : 17000 ≤ k) : impl_columnsOf.f k p R C l = some (colsM R C l) := by
  unfold impl_columnsOf.f
  rw [implTransposed_tells p (by omega) (by omega) hl hk, Option.bind_some]
  dsimp only
  rw [rowsOf_tells (R := C) (C := R) (by omega) (by omega) (by unfold turned; rw [tab_length]) (by omega), Option.bind_some, colsM_turned]
theorem colsM_ok {p : Int} {R C : Nat} {l : List Int} (hv : ∀ j, 0 ≤ l.getD j 0 ∧ l.getD j 0 < p) : RowsOk p R (colsM R C l) := by
  intro r hr
  unfold colsM at hr
  obtain ⟨j, _, rfl⟩ := List.mem_map.mp hr
  refine ⟨by simp, fun x hx => ?_⟩
  obtain ⟨i, _, rfl⟩ := List.mem_map.mp hx
  exact hv _
/-- What both return. -/
def colRes (p r c : Int) (l : List Int) : Int × Int × List (List Int) × Int := if matOk p r c l = true then (p, r, basisOf p r.toNat (colsM r.toNat c.toNat l), 0) else (0, 0, [], 1)
theorem implColumns_tells (p r c : Int) {l : List Int} {k : Nat} (hk : 74000000 ≤ k) : impl_ColumnSpace.f k p r c l = some (colRes p r c l) := by
  unfold impl_ColumnSpace.f colRes
  rw [implOk_tells p r c (by omega), Option.bind_some]
  by_cases h : matOk p r c l = true
  · obtain ⟨R, C, rfl, rfl, hR, hC, hl, hv⟩ := colDims h
    rw [if_pos h, if_pos h, implCols_tells p hR hC hl (by omega), Option.bind_some, spaceI_tells (matOk_iff.mp h).1 hR (colsM_ok hv) (by unfold colsM; simp; omega) hk, Option.bind_some]
    simp
  · rw [if_neg h, if_neg h]
theorem specColumns_tells (p r c : Int) {l : List Int} (hl : l.length ≤ 1048576) {k : Nat} (hk : 74000000 ≤ k) : spec_ColumnSpace.f k p r c l = some (colRes p r c l) := by
  unfold spec_ColumnSpace.f spec_l04Space.f colRes
  rw [specOk_tells p r c (by omega) (by omega), Option.bind_some]
  by_cases h : matOk p r c l = true
  · obtain ⟨R, C, rfl, rfl, hR, hC, hl, hv⟩ := colDims h
    rw [if_pos h, if_pos h, specCols_tells hR hC hl (by omega), Option.bind_some, basisS_tells (matOk_iff.mp h).1 (by omega) (colsM_ok hv) (by unfold colsM; simp; omega) (by omega), Option.bind_some, Option.bind_some]
    simp
  · rw [if_neg h, if_neg h]
theorem colRes_small (p r c : Int) (l : List Int) : (colRes p r c l).2.2.1.length ≤ 1048576 ∧ ∀ x ∈ (colRes p r c l).2.2.1, x.length ≤ 1048576 := by
  unfold colRes
  split
  · next h =>
    obtain ⟨R, C, rfl, rfl, hR, hC, hl, hv⟩ := colDims h
    have hok := colsM_ok (R := R) (C := C) hv
    obtain ⟨t1, t2, t3, t4, _, _⟩ := elimTo_small (matOk_iff.mp h).1 hok R (Nat.le_refl _)
    have e : (elim p R (colsM R C l)).2.1.length ≤ R := t3
    simp only [Int.toNat_natCast]
    refine ⟨by unfold basisOf; rw [List.length_take]; omega, fun x hx => rows_short (rs := (elim p R (colsM R C l)).1) t1 (by omega) x (List.mem_of_mem_take hx)⟩
  · exact ⟨by simp, by simp⟩
theorem FnExactColumnSpace_pure : laws_FnExactColumnSpace.Pure := by
  intro p r c l _ _ _ hm _
  by_cases hl : l.length ≤ 1048576
  · refine ⟨74000000, ?_⟩
    unfold laws_FnExactColumnSpace.f
    rw [szMatrix_tells p r c hm, if_pos hl, Option.bind_some, if_neg (by omega), toMatrix_tells p r c (by omega) (by omega), Option.bind_some]
    dsimp only
    rw [specColumns_tells p r c hl (by omega), Option.bind_some, implColumns_tells p r c (by omega), Option.bind_some]
    obtain ⟨h1, h2⟩ := colRes_small p r c l
    generalize colRes p r c l = s at h1 h2 ⊢
    obtain ⟨s1, s2, s3, s4⟩ := s
    dsimp only at h1 h2 ⊢
    have q : laws_eqSpace.f 74000000 s1 s2 s3 s1 s2 s3 = some true := by unfold laws_eqSpace.f; rw [if_pos rfl, if_pos rfl, eqSS_tells h1 h2 (by omega), Option.bind_some, decide_eq_true rfl, if_pos rfl]
    rw [q, Option.bind_some, if_pos rfl, if_pos rfl, eqMatrix_tells (by omega) (by omega), Option.bind_some, if_pos rfl, markMatrix_tells (by omega) (by omega), Option.bind_some]
    dsimp only
    rw [if_neg (by omega)]
    unfold laws_markSpace.f laws_heldSpace.f
    rw [markR_tells h1 h2 (by omega), Option.bind_some]
    dsimp only
    rw [heldR_tells h1 h2 (by omega), Option.bind_some, if_neg (by omega), Option.bind_some, if_neg (by omega), if_pos rfl]
  · refine ⟨0, ?_⟩
    unfold laws_FnExactColumnSpace.f
    rw [szMatrix_tells p r c hm, if_neg hl, Option.bind_some, if_pos (by omega)]
end Go.Proofs.Ytoibkfdmcajieaa.F
namespace Go.Proofs.Ytoibkfdmcajieaa.Pure
theorem FnExactColumnSpace : F.laws_FnExactColumnSpace.Pure := F.FnExactColumnSpace_pure
end Go.Proofs.Ytoibkfdmcajieaa.Pure
end

section
namespace Go.Proofs.Ytoibkfdmcajieaa.fnExactColumnSpace
open Go.ChangeShapes Go.WideShapes Go.ChangeAt Go.RowKit Go.Joins
open Go.ChangeMaps (open_string shut_string)
set_option linter.unusedVariables false
theorem own : ownKnob Try.prog.godebug = none := by kernel_rfl
theorem laidOut : laidOutB Try.prog = true := by kernel_rfl
/-- A slice's row of whole numbers in memory. -/
def IsRow (k : IntKind) (w : World) (a : Option Addr) (len cap : Nat) (zs : List Int) : Prop :=
  (a = none ∧ len = 0 ∧ cap = 0 ∧ zs = []) ∨
  ∃ x, a = some x ∧ len ≤ cap ∧ cap ≤ maxLen ∧ zs.length = cap ∧ (∀ i, i < zs.length → w.cell? (x.add i) = some (.int k (zs.getD i 0))) ∧ ∀ n ∈ zs, (Lit.int k n).wf = true
/-- A cell that reads as a slice of whole numbers holds one. -/
theorem row_of {H : Type} {enc : TypeId × Value → H} {P : Program} {W : World} {n : Nat} {t e : TypeId} {k : IntKind} {v : Value} {y : DataW H × List MemPlace} (hs : P.underlying t = some (.slice e)) (hi : P.underlying e = some (.int k)) (hc : P.cellsOf e = 1)
    (hf : DataW.trod enc P W 0 (fun _ => true) true n t [v] = some y) : ∃ a len cap zs, v = .slice a len cap ∧ IsRow k W a len cap zs := by
  rcases open_ints hs hi hc hf with ⟨hcs, _⟩ | ⟨x, l, c, zs, hcs, _, hl, hm, hz, _, hcell, hwz⟩
  · simp at hcs
    exact ⟨_, _, _, [], hcs, .inl ⟨rfl, rfl, rfl, rfl⟩⟩
  · simp at hcs
    exact ⟨_, _, _, zs, hcs, .inr ⟨_, rfl, hl, hm, by simpa using hz, hcell, hwz⟩⟩
set_option maxRecDepth 100000 in
theorem lifted (os : Os) (started : os.Started) (H : Type) (enc : TypeId × Value → H) :
    ReturnsInHanded {} Try.checked os 5 .any (Rows.fnExactColumnSpaceSpec.pre6 enc Try.prog Try.f5 Rows.fnExactColumnSpaceRow.domain false) (Rows.fnExactColumnSpaceSpec.post enc Try.prog Try.f5 false true false false) := by
  refine returnsInHanded_of_change_sized (C := Try.checked) own started (by kernel_rfl) Try.func5
    (ChangeSpec.witness6 (enc := enc) (C := Try.checked) false ⟨#[], #[.agg #[.int .i64 0, .int .i64 0, .int .i64 0, .slice none 0 0]], []⟩ 8 (by kernel_rfl) (by kernel_rfl) (by kernel_rfl) (by kernel_rfl)) ?_
  intro W base args ds gs before hval0 hW hcnd hsz0 _
  have hsz : (DataW.weightsEach Try.prog (Try.f5.params.toList ++ Rows.fnExactColumnSpaceSpec.plain.varTypes Try.prog) (ds ++ gs)).all (· ≤ reachBytes) = true := hsz0
  have hval : ∀ (j : Nat) t v, Try.f5.params[j]? = some t → args[j]? = some v → Value.okWide Try.prog W .any base t v := hval0
  have hW' := hW
  obtain ⟨p, q, hA0, hV, rfl, hfz, hnd⟩ := hW
  have hA : DataW.TrodAll enc Try.prog W 0 (fun _ => true) true Try.f5.params.toList args.toList ds p := hA0
  rw [Try.params5] at hA hval hsz
  obtain ⟨v0, vs0, d0, ds0, p0, q0, hargs, rfl, rfl, h0, r0⟩ := trodAll_cons hA
  obtain ⟨rfl, rfl, rfl⟩ := trodAll_nil r0
  obtain rfl : args = #[v0] := by cases args; simp_all
  obtain ⟨rfl, rfl⟩ := trodVars_none hV
  have k0 := h0
  have lt0 : ∀ x ∈ p0, x.block < W.heap.size := by obtain ⟨m, hm⟩ := k0; exact DataW.trod_lt m _ _ _ hm
  obtain ⟨c0_0, c0_1, c0_2, c0_3, y0_0, y0_1, y0_2, y0_3, m0, rfl, _, _, g0_0, g0_1, g0_2, g0_3⟩ := open_agg4 Try.underlying40 (by kernel_rfl) (show Try.prog.cellsOf 40 = 4 by kernel_rfl) (hval 0 40 v0 rfl rfl) h0
  obtain ⟨a0_0, e0_0, _, w0_0⟩ := DataW.trod_int Try.underlying2 g0_0
  simp at e0_0
  subst e0_0
  obtain ⟨a0_1, e0_1, _, w0_1⟩ := DataW.trod_int Try.underlying2 g0_1
  simp at e0_1
  subst e0_1
  obtain ⟨a0_2, e0_2, _, w0_2⟩ := DataW.trod_int Try.underlying2 g0_2
  simp at e0_2
  subst e0_2
  obtain ⟨a0_3, len0_3, cap0_3, z0_3, rfl, w0_3⟩ := row_of Try.underlying38 Try.underlying2 (by kernel_rfl) g0_3
  clear hA0 hval0 hsz0 hsz
  refine (F.laws_FnExactColumnSpace.walk Pure.FnExactColumnSpace a0_0 a0_1 a0_2 a0_3 len0_3 cap0_3 z0_3 W w0_0 w0_1 w0_2 w0_3).mono fun e W' ⟨he, bel⟩ => ?_
  subst he
  exact ⟨_, rfl, _, _, _, [], _, [], hW', trodAll_mk1 (shut_bool Try.underlying4 _), (trodAll_cons_mk (Below.trod laidOut (by kernel_rfl) (of_decide_eq_true (by kernel_rfl)) k0 bel lt0) trodAll_mk0), rfl, bel.frame _, fun h => by cases h⟩
theorem over : Rows.fnExactColumnSpaceRow.holds Try.pinned (OpenSpec.ofChange Rows.fnExactColumnSpaceSpec) :=
  OpenClaim.holds_of_wide 5 Try.f5 rfl rfl rfl rfl rfl rfl rfl ⟨rfl, rfl, rfl, rfl, rfl⟩ rfl rfl rfl rfl rfl (by kernel_rfl) Try.func5 (by kernel_rfl)
    (of_decide_eq_true (by kernel_rfl)) (by unfold Func.isWrapper; first | (rw [if_pos (by decide +kernel)]; kernel_rfl) | (rw [if_neg (by decide +kernel)]; exact ⟨rfl, rfl⟩))
    (fun os started H enc _ => lifted os started H enc)
theorem proved : Rows.FnExactColumnSpaceSaid := over
#print axioms proved
end Go.Proofs.Ytoibkfdmcajieaa.fnExactColumnSpace
namespace Go.Proofs.Ytoibkfdmcajieaa
/-- The row, under a short name, for the claim. -/
theorem fnExactColumnSpace_holds : Rows.FnExactColumnSpaceSaid := fnExactColumnSpace.proved
end Go.Proofs.Ytoibkfdmcajieaa
end
