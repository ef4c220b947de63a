-- Texts of this claim, merged by packw.py (a program of this session's).
import Derived.Test.YtmbbjmkcbpefhaaQFnSolve3
import Derived.Test.YtmbbjmkcbpefhaaQFnSolve12
import Derived.KernelRfl
import Derived.Test.YtmbbjmkcbpefhaaQFnSolve2
import Derived.Test.YtmbbjmkcbpefhaaQFnSolve6
import Derived.Test.YtmbbjmkcbpefhaaQFnSolve7
import Derived.Test.YtmbbjmkcbpefhaaQFnSolve4
import Derived.Test.YtmbbjmkcbpefhaaQFnSolve5
import Derived.Test.YtmbbjmkcbpefhaaQFnSolve8
import Derived.Test.YtmbbjmkcbpefhaaQFnSolve9
import Derived.Test.YtmbbjmkcbpefhaaQFnSolve10
import Derived.Test.YtmbbjmkcbpefhaaQFnSolve11

section
set_option linter.unusedVariables false
set_option linter.unusedSimpArgs false
set_option linter.unusedSectionVars false
namespace Go.Proofs.Ytmbbjmkcbpefhaa.F
open Go.RowKit Go.Proofs.YtmbbjmkcbpefhaaW.PrintWords Go.Proofs.YtmbbjmkcbpefhaaW.PrintLast Go.Proofs.Ytmbbjmkcbpefhaa.Lin
def iota (m : Int) (n : Nat) : List Int := (List.range n).map (fun j : Nat => m + (j : Int))
theorem zero_tells {r c : Nat} (hr : r ≤ 128) (hc : c ≤ 128) (p : Int) : spec_l03Zero.f p r c = some (p, (r : Int), (c : Int), tab r c (fun _ _ => 0)) := by
  unfold spec_l03Zero.f
  have h := side_mul hr hc
  rw [w64_mulN hr hc, if_pos (by omega), if_pos (by omega), Int.toNat_natCast]
  congr 4
  refine tab_ext (by simp) (fun i j hi hj => ?_)
  simp [List.getD_eq_getElem?_getD, at_lt hi hj]
theorem specPrime_tells (p : Int) {k : Nat} (hk : 20 ≤ k) : spec_ValidPrime.f k p = some (isP p) := by
  unfold spec_ValidPrime.f
  rw [prime_tells p hk]; rfl
def allM (l : List Int) (p : Int) : Bool := l.all fun x => decide (0 ≤ x) && decide (x < p)
theorem allM_iff {l : List Int} {p : Int} : allM l p = true ↔ ∀ x, x ∈ l → 0 ≤ x ∧ x < p := by unfold allM; simp
theorem areM_tells {l : List Int} {p : Int} (hp : isP p = true) : impl_areElements.f l p = some (allM l p) := by
  have := isP_ge hp
  unfold impl_areElements.f allM
  rw [w64_id (x := p - 1) (by omega) (by omega)]
  congr 1
  induction l with
  | nil => rfl
  | cons x l ih =>
    simp only [List.any_cons, List.all_cons, Bool.not_or, Bool.not_not]
    rw [ih]
    congr 2
    rw [decide_eq_decide]; omega
theorem allM_drop {l : List Int} {p : Int} {i : Nat} (h : i < l.length) : allM (l.drop i) p = (decide (0 ≤ l.getD i 0 ∧ l.getD i 0 ≤ p - 1) && allM (l.drop (i + 1)) p) := by
  rw [List.drop_eq_getElem_cons h]
  unfold allM
  simp only [List.all_cons]
  congr 1
  rw [getD_at h, ← Bool.decide_and, decide_eq_decide]; omega
theorem getD_inM {l : List Int} {p : Int} (hp : 2 ≤ p) (h : ∀ x, x ∈ l → 0 ≤ x ∧ x < p) (j : Nat) : 0 ≤ l.getD j 0 ∧ l.getD j 0 < p := by
  by_cases hj : j < l.length
  · rw [getD_at hj]; exact h _ (List.getElem_mem hj)
  · rw [List.getD_eq_getElem?_getD, List.getElem?_eq_none (by omega)]; simp; omega
theorem column_loop {l : List Int} {n p : Int} (hp : 2 ≤ p) (hp' : p ≤ 251) (hl : l.length ≤ 35184372088832) (d : Nat) : ∀ (k i : Nat), l.length - i = d → i ≤ l.length → d < k →
    spec_l03Column.l0 k l n p i = some (allM (l.drop i) p && decide ((l.length : Int) = n)) := by
  induction d with
  | zero =>
    intro k i hd hi hk
    obtain ⟨k, rfl⟩ : ∃ m, k = m + 1 := ⟨k - 1, by omega⟩
    simp only [spec_l03Column.l0]
    rw [if_neg (by omega), show l.drop i = [] from List.drop_eq_nil_of_le (by omega)]
    simp only [allM, List.all_nil, Bool.true_and]
    congr 1
  | succ d ih =>
    intro k i hd hi hk
    obtain ⟨k, rfl⟩ : ∃ m, k = m + 1 := ⟨k - 1, by omega⟩
    simp only [spec_l03Column.l0]
    rw [if_pos (by omega), if_pos (by omega), rd_nat, w64_id (x := p - 1) (by omega) (by omega), in_tells, w64_succ (n := l.length) (by omega) hl, allM_drop (i := i) (by omega)]
    simp only [Option.bind_some]
    cases h : decide (0 ≤ l.getD i 0 ∧ l.getD i 0 ≤ p - 1) with
    | false => simp
    | true => rw [if_pos rfl, ih k (i + 1) (by omega) (by omega) (by omega)]; simp
theorem column_tells {l : List Int} {n p : Int} (hp : 2 ≤ p) (hp' : p ≤ 251) (hl : l.length ≤ 35184372088832) {k : Nat} (hk : l.length < k) : spec_l03Column.f k l n p = some (allM l p && decide ((l.length : Int) = n)) := by
  unfold spec_l03Column.f
  exact column_loop hp hp' hl l.length k 0 (by omega) (by omega) hk
def matOk (p r c : Int) (l : List Int) : Bool := isP p && (decide (0 ≤ r ∧ r ≤ 32) && (decide (0 ≤ c ∧ c ≤ 32) && (decide ((l.length : Int) = r * c) && allM l p)))
theorem matOk_iff {p r c : Int} {l : List Int} : matOk p r c l = true ↔ isP p = true ∧ (0 ≤ r ∧ r ≤ 32) ∧ (0 ≤ c ∧ c ≤ 32) ∧ (l.length : Int) = r * c ∧ ∀ x, x ∈ l → 0 ≤ x ∧ x < p := by
  unfold matOk; simp only [Bool.and_eq_true, decide_eq_true_eq, allM_iff]
theorem side_mulI {r c : Int} (hr : 0 ≤ r ∧ r ≤ 32) (hc : 0 ≤ c ∧ c ≤ 32) : wrap64 (r * c) = r * c ∧ 0 ≤ r * c ∧ r * c ≤ 1024 := by
  have h1 := Int.mul_nonneg hr.1 hc.1
  have h2 : r * c ≤ 32 * 32 := Int.mul_le_mul hr.2 hc.2 hc.1 (by omega)
  exact ⟨w64_id (by omega) (by omega), h1, by omega⟩
theorem specOk_tells (p r c : Int) {l : List Int} (hl : l.length ≤ 35184372088832) {k : Nat} (hk : l.length + 20 < k) : spec_l03Ok.f k p r c l = some (matOk p r c l) := by
  unfold spec_l03Ok.f matOk
  rw [specPrime_tells p (by omega)]
  cases hp : isP p with
  | false => simp
  | true =>
    have hp2 := isP_ge hp
    rw [in_tells, in_tells]
    by_cases h1 : 0 ≤ r ∧ r ≤ 32
    · by_cases h2 : 0 ≤ c ∧ c ≤ 32
      · rw [(side_mulI h1 h2).1, column_tells hp2.1 hp2.2 hl (by omega)]
        simp only [h1, h2, and_self, decide_true, Option.bind_some, if_true, Bool.true_and]
        rw [Bool.and_comm]
      · simp only [h1, h2, and_self, decide_true, decide_false, Option.bind_some, if_true, Bool.true_and, Bool.false_and]; rfl
    · simp only [h1, decide_false, Option.bind_some, if_true, Bool.true_and, Bool.false_and]; rfl
theorem implOk_tells (p r c : Int) {l : List Int} {k : Nat} (hk : 20 ≤ k) : impl_ValidMatrix.f k p r c l = some (matOk p r c l) := by
  unfold impl_ValidMatrix.f matOk
  rw [ask_prime, prime_tells p hk]
  cases hp : isP p with
  | false => simp
  | true =>
    have hp2 := isP_ge hp
    rw [side_tells, side_tells, areM_tells hp]
    by_cases h1 : 0 ≤ r ∧ r ≤ 32
    · by_cases h2 : 0 ≤ c ∧ c ≤ 32
      · rw [(side_mulI h1 h2).1]
        unfold impl_size_int64_72.f
        simp only [h1, h2, and_self, decide_true, Option.bind_some, if_true, Bool.true_and]
        by_cases h3 : (l.length : Int) = r * c
        · simp [h3]
        · simp [h3]
      · simp only [h1, h2, and_self, decide_true, decide_false, Option.bind_some, if_true, Bool.true_and, Bool.false_and]; rfl
    · simp only [h1, decide_false, Option.bind_some, if_true, Bool.true_and, Bool.false_and]; rfl
theorem mul_small {p x y : Int} (hp : 2 ≤ p) (hp' : p ≤ 251) (hx : 0 ≤ x) (hx' : x ≤ 251) (hy : 0 ≤ y) (hy' : y < p) : 0 ≤ x * y ∧ x * y ≤ 63001 := by
  have g1 := Int.mul_nonneg hx hy
  have g2 : x * y ≤ 251 * 251 := Int.mul_le_mul hx' (by omega) hy (by omega)
  omega
theorem dimsM {p r c : Int} {l : List Int} (h : matOk p r c l = true) : ∃ R C : Nat, r = R ∧ c = C ∧ R ≤ 32 ∧ C ≤ 32 ∧ l.length = R * C ∧ (2 ≤ p ∧ p ≤ 251) ∧ ∀ j, 0 ≤ l.getD j 0 ∧ l.getD j 0 < p := by
  obtain ⟨hp, hr, hc, hl, hx⟩ := matOk_iff.mp h
  obtain ⟨R, rfl⟩ := Int.eq_ofNat_of_zero_le hr.1
  obtain ⟨C, rfl⟩ := Int.eq_ofNat_of_zero_le hc.1
  exact ⟨R, C, rfl, rfl, by omega, by omega, by exact_mod_cast hl, isP_ge hp, fun j => getD_inM (isP_ge hp).1 hx j⟩
theorem range_map_snoc (g : Nat → Int) (n : Nat) : (List.range n).map g ++ [g n] = (List.range (n + 1)).map g := by rw [List.range_succ]; simp
theorem filled_row {cf : Cell2} {f : Nat → Nat → Int} {r c : Nat} (hr : r ≤ 128) (hc : c ≤ 128) {i : Nat} (hi : i < r) (h : ∀ j, j < c → cf.f i j = some (f i j)) (p : Int) (d : Nat) : ∀ (k j : Nat), c - j = d → j ≤ c →
    impl_filled.l1 cf (k + d + 1) c i r i c j p r c ((List.range (i * c + j)).map fun x => f (x / c) (x % c)) =
    impl_filled.l0 cf k c r ((i + 1 : Nat) : Int) p r c ((List.range ((i + 1) * c)).map fun x => f (x / c) (x % c)) := by
  induction d with
  | zero =>
    intro k j hd hj
    obtain rfl : j = c := by omega
    rw [show k + 0 + 1 = k + 1 by omega]
    simp only [impl_filled.l1]
    rw [if_neg (by omega), w64_succ (n := r) hi (by omega), Nat.succ_mul]
  | succ d ih =>
    intro k j hd hj
    have hj' : j < c := by omega
    have hlt := at_lt hi hj'
    have hm := side_mul hr hc
    rw [show k + (d + 1) + 1 = (k + d + 1) + 1 by omega]
    simp only [impl_filled.l1]
    rw [if_pos (by omega), h j hj']
    simp only [Option.bind_some, List.length_map, List.length_range]
    rw [if_pos (by omega), w64_succ (n := c) hj' (by omega)]
    have e : f i j = (fun x => f (x / c) (x % c)) (i * c + j) := by simp only [(at_div hj').1, (at_div hj').2]
    rw [e, range_map_snoc]
    exact ih k (j + 1) (by omega) (by omega)
theorem filled_loop {cf : Cell2} {f : Nat → Nat → Int} {r c : Nat} (hr : r ≤ 128) (hc : c ≤ 128) (h : ∀ i j, i < r → j < c → cf.f i j = some (f i j)) (p : Int) (d : Nat) : ∀ (k i : Nat), r - i = d → i ≤ r → d * (c + 2) < k →
    impl_filled.l0 cf k c r i p r c ((List.range (i * c)).map fun x => f (x / c) (x % c)) = some (p, (r : Int), (c : Int), tab r c f) := by
  induction d with
  | zero =>
    intro k i hd hi hk
    obtain ⟨k, rfl⟩ : ∃ m, k = m + 1 := ⟨k - 1, by omega⟩
    obtain rfl : i = r := by omega
    simp only [impl_filled.l0]
    rw [if_neg (by omega)]
    rfl
  | succ d ih =>
    intro k i hd hi hk
    rw [Nat.succ_mul] at hk
    obtain ⟨k, rfl⟩ : ∃ m, k = m + c + 1 + 1 := ⟨k - c - 1 - 1, by omega⟩
    simp only [impl_filled.l0]
    rw [if_pos (by omega)]
    have := filled_row hr hc (show i < r by omega) (fun j hj => h i j (by omega) hj) p c k 0 (by omega) (by omega)
    rw [show i * c + 0 = i * c from rfl] at this
    rw [show (0 : Int) = ((0 : Nat) : Int) from rfl, this]
    exact ih k (i + 1) (by omega) (by omega) (by omega)
theorem filled_tells {cf : Cell2} {f : Nat → Nat → Int} {r c : Nat} (hr : r ≤ 128) (hc : c ≤ 128) (h : ∀ i j, i < r → j < c → cf.f i j = some (f i j)) (p a3 : Int) {k : Nat} (hk : 17000 ≤ k) :
    impl_filled.f cf k p r c a3 = some (p, (r : Int), (c : Int), tab r c f) := by
  have h2 : r * (c + 2) ≤ 128 * 130 := Nat.mul_le_mul hr (by omega)
  have := filled_loop hr hc h p r k 0 (by omega) (by omega) (by omega)
  unfold impl_filled.f
  rw [show ([] : List Int) = (List.range (0 * c)).map fun x => f (x / c) (x % c) by simp]
  exact this
theorem at_tells {p r c : Int} {l : List Int} {R C : Nat} (hr : R ≤ 128) (hc : C ≤ 128) (ec : c = C) (hl : l.length = R * C) {i j : Nat} (hi : i < R) (hj : j < C) : impl_Matrix_at.f p r c l i j = some (l.getD (i * C + j) 0) := by
  subst ec
  have h := at_lt hi hj
  unfold impl_Matrix_at.f
  rw [w64_at (r := R) hr hc (by omega) (by omega), if_pos (by omega), if_pos (by omega), rd_nat]
def turned (r c : Nat) (l : List Int) : List Int := tab c r (fun i j => l.getD (j * c + i) 0)
theorem implTransposed_tells (p : Int) {r c : Nat} (hr : r ≤ 128) (hc : c ≤ 128) {l : List Int} (hl : l.length = r * c) {k : Nat} (hk : 17000 ≤ k) : impl_transpose.f k p r c l = some (p, (c : Int), (r : Int), turned r c l) := by
  unfold impl_transpose.f
  rw [filled_tells (f := fun i j => l.getD (j * c + i) 0) hc hr (fun i j hi hj => at_tells (p := p) (r := (r : Int)) (R := r) hr hc rfl hl hj hi) p 0 hk]
  rfl
def colsM (R C : Nat) (l : List Int) : List (List Int) := (List.range C).map (fun j => (List.range R).map (fun i => l.getD (i * C + j) 0))
theorem colsM_turned {R C : Nat} {l : List Int} : rowsM C R (turned R C l) = colsM R C l := by
  unfold rowsM colsM turned
  refine List.map_congr_left (fun i hi => List.map_congr_left (fun j hj => ?_))
  exact tab_at _ (List.mem_range.mp hi) (List.mem_range.mp hj)
theorem colsM_snoc (R C : Nat) (l : List Int) (j : Nat) : (List.range j).map (fun j => (List.range R).map (fun i => l.getD (i * C + j) 0)) ++ [(List.range R).map (fun i => l.getD (i * C + j) 0)] = (List.range (j + 1)).map (fun j => (List.range R).map (fun i => l.getD (i * C + j) 0)) := by
  rw [List.range_succ, List.map_append]; rfl
theorem rows_snocN (g : Nat → Int) (i : Nat) : (List.range i).map g ++ [g i] = (List.range (i + 1)).map g := by rw [List.range_succ, List.map_append]; rfl
theorem colLoop1 {p : Int} {R C : Nat} {l : List Int} (hR : R ≤ 32) (hC : C ≤ 32) (hl : l.length = R * C) {j : Nat} (hj : j < C) (acc : List (List Int)) (ha : acc.length ≤ 32) (d : Nat) : ∀ k i, R - i = d → i ≤ R → d < k →
    ∃ k', k ≤ k' + d + 1 ∧ spec_l04Columns.l1 k acc j ((List.range i).map (fun i => l.getD (i * C + j) 0)) i p R C l = spec_l04Columns.l0 k' (acc ++ [(List.range R).map (fun i => l.getD (i * C + j) 0)]) ((j + 1 : Nat) : Int) p R C l := by
  induction d with
  | zero =>
    intro k i hd hi hk
    obtain ⟨k, rfl⟩ : ∃ m, k = m + 1 := ⟨k - 1, by omega⟩
    obtain rfl : i = R := by omega
    refine ⟨k, by omega, ?_⟩
    simp only [spec_l04Columns.l1]
    rw [if_neg (nlt_nat (Nat.le_refl _)), if_pos (by omega), w64_succ (n := C) hj (by omega)]
  | succ d ih =>
    intro k i hd hi hk
    obtain ⟨k, rfl⟩ : ∃ m, k = m + 1 := ⟨k - 1, by omega⟩
    have hiR : i < R := by omega
    have hx := at_lt hiR hj
    obtain ⟨k', h1, h2⟩ := ih k (i + 1) (by omega) (by omega) (by omega)
    refine ⟨k', by omega, ?_⟩
    simp only [spec_l04Columns.l1]
    rw [if_pos (lt_nat hiR), w64_at (r := R) (by omega) (by omega) (by omega) (by omega), if_pos (by omega), if_pos (by rw [hl]; exact_mod_cast hx), if_pos (by simp; omega), rd_nat, rows_snocN (fun i => l.getD (i * C + j) 0) i, w64_succ (n := R) hiR (by omega)]
    exact h2
theorem colLoop0 {p : Int} {R C : Nat} {l : List Int} (hR : R ≤ 32) (hC : C ≤ 32) (hl : l.length = R * C) (d : Nat) : ∀ k j, C - j = d → j ≤ C → d * 40 + 40 < k →
    spec_l04Columns.l0 k ((List.range j).map (fun j => (List.range R).map (fun i => l.getD (i * C + j) 0))) j p R C l = some (colsM R C l) := by
  induction d with
  | zero =>
    intro k j hd hj hk
    obtain ⟨k, rfl⟩ : ∃ m, k = m + 1 := ⟨k - 1, by omega⟩
    obtain rfl : j = C := by omega
    simp only [spec_l04Columns.l0]
    rw [if_neg (nlt_nat (Nat.le_refl _))]
    rfl
  | succ d ih =>
    intro k j hd hj hk
    obtain ⟨k, rfl⟩ : ∃ m, k = m + 1 := ⟨k - 1, by omega⟩
    have hjC : j < C := by omega
    simp only [spec_l04Columns.l0]
    rw [if_pos (lt_nat hjC)]
    obtain ⟨k', h1, h2⟩ := colLoop1 (p := p) hR hC hl hjC ((List.range j).map (fun j => (List.range R).map (fun i => l.getD (i * C + j) 0))) (by simp; omega) R k 0 (by omega) (by omega) (by omega)
    refine Eq.trans h2 ?_
    rw [colsM_snoc]
    exact ih k' (j + 1) (by omega) (by omega) (by omega)
theorem specCols_tells {p : Int} {R C : Nat} {l : List Int} (hR : R ≤ 32) (hC : C ≤ 32) (hl : l.length = R * C) {k : Nat} (hk : 2000 ≤ k) : spec_l04Columns.f k p R C l = some (colsM R C l) := by
  unfold spec_l04Columns.f
  exact colLoop0 hR hC hl C k 0 (by omega) (by omega) (by omega)
theorem implCols_tells (p : Int) {R C : Nat} {l : List Int} (hR : R ≤ 32) (hC : C ≤ 32) (hl : l.length = R * C) {k : Nat} (hk : 17000 ≤ k) : impl_columnsOf.f k p R C l = some (colsM R C l) := by
  unfold impl_columnsOf.f
  rw [implTransposed_tells p (by omega) (by omega) hl hk, Option.bind_some]
  dsimp only
  rw [rowsOf_tells (R := C) (C := R) (by omega) (by omega) (by unfold turned; rw [tab_length]) (by omega), Option.bind_some, colsM_turned]
theorem colsM_ok {p : Int} {R C : Nat} {l : List Int} (hv : ∀ j, 0 ≤ l.getD j 0 ∧ l.getD j 0 < p) : RowsOk p R (colsM R C l) := by
  intro r hr
  unfold colsM at hr
  obtain ⟨j, _, rfl⟩ := List.mem_map.mp hr
  refine ⟨by simp, fun x hx => ?_⟩
  obtain ⟨i, _, rfl⟩ := List.mem_map.mp hx
  exact hv _
theorem fill_loopB {l : List Int} (hl : Bytes l) {p : Int} (hp : 2 ≤ p) (hp' : p ≤ 251) {R C : Nat} (hR : R ≤ 64) (hC : C ≤ 64) (q1 q2 q3 : Int) (d : Nat) : ∀ (k i : Nat) (o : List Int) (at_ seed : Int), R * C - i = d → i ≤ R * C → d + C + 3 < k → o.length = R * C → OkL p o → 0 ≤ at_ → at_ + 4 * (d : Int) ≤ 1000000 →
    ∃ o' at' s', spec_l03Fill.l0 k p R C i l at_ seed q1 q2 q3 o = some (q1, q2, q3, o', at', s') ∧ o'.length = R * C ∧ OkL p o' ∧ 0 ≤ at' ∧ at' ≤ 1000002 := by
  induction d with
  | zero =>
    intro k i o at_ seed hd hi hk ho hok h0 h1
    obtain ⟨k, rfl⟩ : ∃ m, k = m + 1 := ⟨k - 1, by omega⟩
    simp only [spec_l03Fill.l0]
    rw [if_neg (by omega)]
    by_cases c : (R : Int) > 1
    · obtain ⟨b, at1, s1, e1, g1, g2⟩ := one_tells hl seed 3 h0 (by omega)
      rw [if_pos c, e1]
      simp only [Option.bind_some]
      obtain ⟨o', e, a1, a2⟩ := fillEnd_tells hp hp' hR hC b (fun _ => by omega) l at1 s1 q1 q2 q3 (k := k) (by omega) ho hok
      exact ⟨o', at1, s1, e, a1, a2, by omega, by omega⟩
    · rw [if_neg c]
      obtain ⟨o', e, a1, a2⟩ := fillEnd_tells hp hp' hR hC false (fun h => by simp at h) l at_ seed q1 q2 q3 (k := k) (by omega) ho hok
      exact ⟨o', at_, seed, e, a1, a2, h0, by omega⟩
  | succ d ih =>
    intro k i o at_ seed hd hi hk ho hok h0 h1
    obtain ⟨k, rfl⟩ : ∃ m, k = m + 1 := ⟨k - 1, by omega⟩
    have hm := side_mul (r := R) (c := C) (by omega) (by omega)
    obtain ⟨v, at1, s1, e1, _, _, g1, g2⟩ := pick_tells hl seed 3 h0 (by omega)
    have b1 : (i : Int) < (o.length : Int) := by omega
    have b2 : i < o.length := by omega
    have b3 : (0 : Int) ≤ (i : Int) := by omega
    have b4 : R * C - (i + 1) = d := by omega
    have b5 : i + 1 ≤ R * C := by omega
    have b6 : d + C + 3 < k := by omega
    have b7 : i < R * C := by omega
    have b8 : R * C ≤ 35184372088832 := by omega
    by_cases c : v > 0
    · obtain ⟨u, at2, s2, e2, u0, u1, g3, g4⟩ := pick_tells hl s1 p (show 0 ≤ at1 by omega) (by omega)
      have u2 : u < p := by omega
      have b9 : 0 ≤ at2 := by omega
      have b10 : at2 + 4 * (d : Int) ≤ 1000000 := by omega
      simp only [spec_l03Fill.l0]
      rw [if_pos b1, e1]
      simp only [Option.bind_some]
      rw [if_pos c, e2]
      simp only [Option.bind_some]
      rw [if_pos b3, w64_succ b7 b8, Int.toNat_natCast]
      exact ih k (i + 1) _ at2 s2 b4 b5 b6 (by rw [List.length_set]; exact ho) (okL_set hok b2 u0 u2) b9 b10
    · have b9 : 0 ≤ at1 := by omega
      have b10 : at1 + 4 * (d : Int) ≤ 1000000 := by omega
      simp only [spec_l03Fill.l0]
      rw [if_pos b1, e1]
      simp only [Option.bind_some]
      rw [if_neg c, w64_succ b7 b8]
      exact ih k (i + 1) o at1 s1 b4 b5 b6 ho hok b9 b10
theorem draw_chain {l o : List Int} {p r c at1 s1 at2 s2 at3 s3 at4 s4 : Int} {k : Nat} {z : List Int} (e1 : spec_l00Src_among.f l 0 0 [2, 2, 3, 5, 7, 31, 251] = some (p, at1, s1)) (e2 : spec_l00Src_pick.f l at1 s1 5 = some (r, at2, s2)) (e3 : spec_l00Src_pick.f l at2 s2 5 = some (c, at3, s3))
    (ez : spec_l03Zero.f p r c = some (p, r, c, z)) (e4 : spec_l03Fill.l0 k p r c 0 l at3 s3 p r c z = some (p, r, c, o, at4, s4)) : spec_l03Draw.f k l 0 0 = some (p, r, c, o, at4, s4) := by
  unfold spec_l03Draw.f spec_l03DrawPrime.f spec_l03Fill.f
  rw [e1, Option.bind_some, Option.bind_some, e2, Option.bind_some, e3, Option.bind_some, ez, Option.bind_some, e4, Option.bind_some]
theorem prime_among {p : Int} (hv : p ∈ ([2, 2, 3, 5, 7, 31, 251] : List Int)) : isP p = true := by
  simp at hv
  rcases hv with h | h | h | h | h | h <;> subst h <;> decide
theorem drawB_tells {l : List Int} (hl : Bytes l) {k : Nat} (hk : 100 ≤ k) : ∃ p, ∃ R C : Nat, ∃ o at' s', spec_l03Draw.f k l 0 0 = some (p, (R : Int), (C : Int), o, at', s') ∧ isP p = true ∧ R ≤ 4 ∧ C ≤ 4 ∧ o.length = R * C ∧ 0 ≤ at' ∧ at' ≤ 1000002 := by
  obtain ⟨p, at1, s1, e1, hv, g1, g2⟩ := among_tells hl 0 (xs := [2, 2, 3, 5, 7, 31, 251]) (by simp) (at_ := 0) (by omega) (by omega)
  have hp := prime_among hv
  have hp2 := isP_ge hp
  obtain ⟨r, at2, s2, e2, r0, r1, g3, g4⟩ := pick_tells hl s1 5 (show 0 ≤ at1 by omega) (by omega)
  obtain ⟨c, at3, s3, e3, c0, c1, g5, g6⟩ := pick_tells hl s2 5 (show 0 ≤ at2 by omega) (by omega)
  obtain ⟨R, rfl⟩ := Int.eq_ofNat_of_zero_le r0
  obtain ⟨C, rfl⟩ := Int.eq_ofNat_of_zero_le c0
  have hR : R ≤ 4 := by omega
  have hC : C ≤ 4 := by omega
  have hm : R * C ≤ 4 * 4 := Nat.mul_le_mul hR hC
  have hz := zeroM_tells p (R := R) (C := C) (by omega) (by omega)
  have b1 : R * C + C + 3 < k := by omega
  have b2 : 0 ≤ at3 := by omega
  have b3 : at3 + 4 * ((R * C : Nat) : Int) ≤ 1000000 := by omega
  obtain ⟨o, at4, s4, e4, a1, a2, a3, a4⟩ := fill_loopB hl hp2.1 hp2.2 (R := R) (C := C) (by omega) (by omega) p R C (R * C) k 0 (List.replicate (R * C) 0) at3 s3 (by omega) (Nat.zero_le _) b1 (by simp) (okL_zeros hp2.1 _) b2 b3
  exact ⟨p, R, C, o, at4, s4, draw_chain e1 e2 e3 hz e4, hp, hR, hC, a1, a3, a4⟩
theorem bentB_tells {l : List Int} (hl : Bytes l) {k : Nat} (hk : 100 ≤ k) : ∃ p r c o at' s', spec_l03Bent.f k l 0 0 = some (p, r, c, o, at', s') ∧ o.length ≤ 1000 ∧ 0 ≤ at' ∧ at' ≤ 1000010 := by
  obtain ⟨p, R, C, o, at1, s1, e1, hp, hR, hC, ho, g1, g2⟩ := drawB_tells hl hk
  have hm : R * C ≤ 4 * 4 := Nat.mul_le_mul hR hC
  obtain ⟨v, at2, s2, e2, v0, v1, g3, g4⟩ := pick_tells hl s1 20 g1 (by omega)
  unfold spec_l03Bent.f
  rw [e1]
  simp only [Option.bind_some]
  rw [e2]
  simp only [Option.bind_some]
  by_cases c0 : v = 0
  · rw [if_pos c0]
    obtain ⟨u, at3, s3, e3, _, g5, g6⟩ := among_tells hl s2 (xs := [0, 1, 4, 252, 257]) (by simp) (show 0 ≤ at2 by omega) (by omega)
    rw [e3]
    exact ⟨u, R, C, o, at3, s3, rfl, by omega, by omega, by omega⟩
  · rw [if_neg c0]
    by_cases c1 : v = 1
    · rw [if_pos c1, if_pos (by omega)]
      exact ⟨p, R, C, o ++ [0], at2, s2, rfl, by rw [List.length_append]; simp; omega, by omega, by omega⟩
    · rw [if_neg c1]
      by_cases c2 : v = 2
      · rw [if_pos c2]
        by_cases c3 : (o.length : Int) > 0
        · rw [if_pos c3]
          obtain ⟨u, at3, s3, e3, _, g5, g6⟩ := among_tells hl s2 (xs := [(-1), wrap64 (p - 1), p]) (by simp) (show 0 ≤ at2 by omega) (by omega)
          rw [e3]
          simp only [Option.bind_some]
          rw [if_pos (by omega)]
          exact ⟨p, R, C, o.set (0 : Int).toNat u, at3, s3, rfl, by rw [List.length_set]; omega, by omega, by omega⟩
        · rw [if_neg c3]
          exact ⟨p, R, C, o, at2, s2, rfl, by omega, by omega, by omega⟩
      · rw [if_neg c2]
        by_cases c3 : v = 3
        · rw [if_pos c3]
          obtain ⟨u, at3, s3, e3, hu, g5, g6⟩ := among_tells hl s2 (xs := [31, 32, 33]) (by simp) (show 0 ≤ at2 by omega) (by omega)
          have h1 : 0 ≤ u ∧ u ≤ 33 := by simp at hu; omega
          rw [e3]
          simp only [Option.bind_some]
          rw [if_pos h1.1, if_pos (by omega)]
          exact ⟨2, u, 1, List.replicate u.toNat 0, at3, s3, rfl, by simp; omega, by omega, by omega⟩
        · rw [if_neg c3]
          by_cases c4 : v = 4
          · rw [if_pos c4]
            obtain ⟨u, at3, s3, e3, hu, g5, g6⟩ := among_tells hl s2 (xs := [32, 33]) (by simp) (show 0 ≤ at2 by omega) (by omega)
            have h1 : 0 ≤ u ∧ u ≤ 33 := by simp at hu; omega
            rw [e3]
            simp only [Option.bind_some]
            rw [if_pos h1.1, if_pos (by omega)]
            exact ⟨2, 1, u, List.replicate u.toNat 0, at3, s3, rfl, by simp; omega, by omega, by omega⟩
          · rw [if_neg c4]
            exact ⟨p, R, C, o, at2, s2, rfl, by omega, by omega, by omega⟩
theorem vecDraw_loop {l : List Int} (hl : Bytes l) {n : Nat} (hn : n ≤ 64) (p : Int) (d : Nat) : ∀ (k i : Nat) (acc : List Int) (at_ s : Int), n - i = d → i ≤ n → d < k → acc.length = i → 0 ≤ at_ → at_ + 4 * (d : Int) ≤ 2000000 →
    ∃ o at' s', spec_l02DrawVector.l0 k n p acc i l at_ s = some (o, at', s') ∧ o.length = n ∧ 0 ≤ at' ∧ at' ≤ 2000000 := by
  induction d with
  | zero =>
    intro k i acc at_ s hd hi hk ha h0 h1
    obtain ⟨k, rfl⟩ : ∃ m, k = m + 1 := ⟨k - 1, by omega⟩
    simp only [spec_l02DrawVector.l0]
    rw [if_neg (by omega)]
    exact ⟨acc, at_, s, rfl, by omega, h0, by omega⟩
  | succ d ih =>
    intro k i acc at_ s hd hi hk ha h0 h1
    obtain ⟨k, rfl⟩ : ∃ m, k = m + 1 := ⟨k - 1, by omega⟩
    obtain ⟨m, hm⟩ : ∃ m, spec_l00Max.f 1 p = some m := by unfold spec_l00Max.f; split <;> exact ⟨_, rfl⟩
    obtain ⟨v, at1, s1, e1, _, _, g1, g2⟩ := pick_tells hl s m h0 (by omega)
    simp only [spec_l02DrawVector.l0]
    rw [if_pos (by omega), hm, Option.bind_some, e1, Option.bind_some, if_pos (by omega), w64_succ (n := n) (by omega) (by omega)]
    exact ih k (i + 1) (acc ++ [v]) at1 s1 (by omega) (by omega) (by omega) (by rw [List.length_append]; simp; omega) (by omega) (by omega)
theorem addL_loop {a b : List Int} {p : Int} (hp : p ≠ 0) (hab : a.length ≤ b.length) (ha : a.length ≤ 100) (x : Int) (d : Nat) : ∀ (k i : Nat) (acc : List Int), a.length - i = d → i ≤ a.length → d < k → acc.length = i →
    ∃ o, spec_l02Add.l0 k a b x p acc i = some o ∧ o.length = a.length := by
  induction d with
  | zero =>
    intro k i acc hd hi hk hc
    obtain ⟨k, rfl⟩ : ∃ m, k = m + 1 := ⟨k - 1, by omega⟩
    simp only [spec_l02Add.l0]
    rw [if_neg (by omega)]
    exact ⟨acc, rfl, by omega⟩
  | succ d ih =>
    intro k i acc hd hi hk hc
    obtain ⟨k, rfl⟩ : ∃ m, k = m + 1 := ⟨k - 1, by omega⟩
    simp only [spec_l02Add.l0]
    rw [if_pos (by omega), if_pos (by omega), if_pos (by omega), if_neg hp, if_pos (by omega), w64_succ (n := a.length) (by omega) (by omega)]
    exact ih k (i + 1) _ (by omega) (by omega) (by omega) (by rw [List.length_append]; simp; omega)
theorem addL_tells {a b : List Int} {p : Int} (hp : p ≠ 0) (hab : a.length ≤ b.length) (ha : a.length ≤ 100) (x : Int) {k : Nat} (hk : a.length < k) : ∃ o, spec_l02Add.f k a b x p = some o ∧ o.length = a.length := by
  unfold spec_l02Add.f
  exact addL_loop hp hab ha x a.length k 0 [] (by omega) (by omega) hk rfl
theorem sys_loop {l : List Int} (hl : Bytes l) {p r c : Int} {o : List Int} (hp : p ≠ 0) {rows : List (List Int)} {n : Nat} (hr : ∀ q ∈ rows, q.length = n) (hn : n ≤ 32) (hm : rows.length ≤ 32) (d : Nat) : ∀ (k i : Nat) (x : List Int) (at_ s : Int), rows.length - i = d → i ≤ rows.length → d + 100 < k → x.length = n → 0 ≤ at_ → at_ + 4 * (d : Int) ≤ 3000000 →
    ∃ b at' s', spec_l04DrawSystem.l0 k x rows i l at_ s p r c o = some (p, r, c, o, b, at', s') := by
  induction d with
  | zero =>
    intro k i x at_ s hd hi hk hx h0 h1
    obtain ⟨k, rfl⟩ : ∃ m, k = m + 1 := ⟨k - 1, by omega⟩
    obtain ⟨b, at1, s1, e1, g1, g2⟩ := one_tells hl s 14 h0 (by omega)
    simp only [spec_l04DrawSystem.l0]
    rw [if_neg (by omega), e1, Option.bind_some]
    cases b with
    | false => exact ⟨x, at1, s1, rfl⟩
    | true => rw [if_pos rfl, if_pos (by omega)]; exact ⟨x ++ [0], at1, s1, rfl⟩
  | succ d ih =>
    intro k i x at_ s hd hi hk hx h0 h1
    obtain ⟨k, rfl⟩ : ∃ m, k = m + 1 := ⟨k - 1, by omega⟩
    obtain ⟨v, at1, s1, e1, _, _, g1, g2⟩ := pick_tells hl s p h0 (by omega)
    have hq := hr _ (getD_mem (d := []) (show i < rows.length by omega))
    obtain ⟨y, e2, hy⟩ := addL_tells hp (a := x) (b := rows.getD i []) (by omega) (by omega) v (k := k) (by omega)
    simp only [spec_l04DrawSystem.l0, rdL_nat]
    rw [if_pos (by omega), if_pos (by omega), e1, Option.bind_some, e2, Option.bind_some, w64_succ (n := rows.length) (by omega) (by omega)]
    exact ih k (i + 1) y at1 s1 (by omega) (by omega) (by omega) (by omega) (by omega) (by omega)
theorem drawSolve_tells {l : List Int} (hl : Bytes l) {k : Nat} (hk : 20000 ≤ k) : ∃ p r c o b, spec_DrawSolve.f k l = some (p, r, c, o, b) := by
  unfold spec_DrawSolve.f spec_l00From.f
  rw [Option.bind_some]
  dsimp only
  suffices h : ∃ p r c o b at' s', spec_l04DrawSystem.f k l 0 0 = some (p, r, c, o, b, at', s') by
    obtain ⟨p, r, c, o, b, at', s', e⟩ := h
    rw [e]
    exact ⟨p, r, c, o, b, rfl⟩
  obtain ⟨p, r, c, o, at1, s1, e1, ho, g1, g2⟩ := bentB_tells hl (k := k) (by omega)
  unfold spec_l04DrawSystem.f
  rw [e1, Option.bind_some]
  dsimp only
  rw [specOk_tells p r c (by omega) (by omega), Option.bind_some]
  by_cases h : matOk p r c o = true
  · rw [if_pos h]
    obtain ⟨R, C, rfl, rfl, hR, hC, hol, hp, hv⟩ := dimsM h
    obtain ⟨x, at2, s2, e2, hx, g3, g4⟩ := vecDraw_loop hl (n := R) (by omega) p R k 0 [] at1 s1 (by omega) (by omega) (by omega) rfl g1 (by omega)
    rw [show ((0 : Nat) : Int) = 0 from rfl] at e2
    unfold spec_l02DrawVector.f
    rw [e2, Option.bind_some]
    dsimp only
    obtain ⟨b, at3, s3, e3, g5, g6⟩ := one_tells hl s2 2 g3 (by omega)
    rw [e3, Option.bind_some]
    dsimp only
    cases b with
    | true =>
      rw [if_pos rfl, if_pos (by omega), if_pos (by omega), specCols_tells hR hC hol (by omega), Option.bind_some, Int.toNat_natCast]
      have hc : (colsM R C o).length = C := by unfold colsM; simp
      obtain ⟨y, at4, s4, e4⟩ := sys_loop hl (p := p) (r := R) (c := C) (o := o) (by omega) (rows := colsM R C o) (n := R) (fun q hq => (colsM_ok hv q hq).1) hR (by omega) C k 0 (List.replicate R 0) at3 s3 (by omega) (by omega) (by omega) (by simp) (by omega) (by omega)
      rw [show ((0 : Nat) : Int) = 0 from rfl] at e4
      rw [e4]
      exact ⟨p, R, C, o, y, at4, s4, rfl⟩
    | false =>
      rw [if_neg (by decide)]
      obtain ⟨b2, at4, s4, e4, g7, g8⟩ := one_tells hl s3 14 (show 0 ≤ at3 by omega) (by omega)
      rw [e4, Option.bind_some]
      dsimp only
      cases b2 with
      | true => rw [if_pos rfl, if_pos (by omega)]; exact ⟨p, R, C, o, x ++ [0], at4, s4, rfl⟩
      | false => exact ⟨p, R, C, o, x, at4, s4, rfl⟩
  · rw [if_neg h]
    exact ⟨p, r, c, o, [], at1, s1, rfl⟩
def allIn (l : List Int) (p : Int) : Bool := l.all fun x => decide (0 ≤ x) && decide (x < p)
theorem allIn_iff {l : List Int} {p : Int} : allIn l p = true ↔ ∀ x, x ∈ l → 0 ≤ x ∧ x < p := by unfold allIn; simp
theorem areElements_tells {l : List Int} {p : Int} (hp : isP p = true) : impl_areElements.f l p = some (allIn l p) := by
  have := isP_ge hp
  unfold impl_areElements.f allIn
  rw [w64_id (x := p - 1) (by omega) (by omega)]
  congr 1
  induction l with
  | nil => rfl
  | cons x l ih =>
    simp only [List.any_cons, List.all_cons, Bool.not_or, Bool.not_not]
    rw [ih]
    congr 2
    rw [decide_eq_decide]; omega
def codeOf (p : Int) (l : List Int) : Int := if isP p = true then (if allIn l p = true then 0 else 2) else 1
def vecOk (l : List Int) (p : Int) : Bool := isP p && (decide (l.length ≤ 64) && allIn l p)
def codeTwo (a b : List Int) (p : Int) : Int := if (vecOk a p && vecOk b p) = true then (if a.length = b.length then 0 else 6) else 1
theorem codeTwo_zero {a b : List Int} {p : Int} : codeTwo a b p = 0 ↔ isP p = true ∧ a.length ≤ 64 ∧ (∀ x, x ∈ a → 0 ≤ x ∧ x < p) ∧ (∀ x, x ∈ b → 0 ≤ x ∧ x < p) ∧ a.length = b.length := by
  unfold codeTwo vecOk
  rw [← allIn_iff, ← allIn_iff]
  cases isP p <;> cases allIn a p <;> cases allIn b p <;> simp
  by_cases h : a.length = b.length
  · rw [h]; by_cases h2 : b.length ≤ 64 <;> simp [h2]
  · simp [h]; split <;> omega
theorem small_mul' {p x y : Int} (hp : 2 ≤ p) (hp' : p ≤ 251) (hx : 0 ≤ x) (hx' : x < p) (hy : 0 ≤ y) (hy' : y < p) : 0 ≤ x * y ∧ x * y ≤ 63001 := by
  have h1 := Int.mul_nonneg hx hy
  have h2 : x * y ≤ 251 * 251 := Int.mul_le_mul (by omega) (by omega) hy (by omega)
  omega
theorem emod_range' {p : Int} (hp : 2 ≤ p) (x : Int) : 0 ≤ x % p ∧ x % p < p := ⟨Int.emod_nonneg _ (by omega), Int.emod_lt_of_pos _ (by omega)⟩
def dotS (a b : List Int) : Int := (List.zipWith (fun x y => x * y) a b).sum
theorem sum_take_succ (l : List Int) {i : Nat} (h : i < l.length) : (l.take (i + 1)).sum = (l.take i).sum + l.getD i 0 := by
  rw [List.take_succ_eq_append_getElem h, List.sum_append, getD_at h]; simp
theorem zip_getD {a b : List Int} {f : Int → Int → Int} {i : Nat} (ha : i < a.length) (hb : i < b.length) : (List.zipWith f a b).getD i 0 = f (a.getD i 0) (b.getD i 0) := by
  simp [List.getD_eq_getElem?_getD, List.getElem?_zipWith, List.getElem?_eq_getElem ha, List.getElem?_eq_getElem hb]
theorem dotSpec_loop {a b : List Int} {p : Int} (hp : 2 ≤ p) (hp' : p ≤ 251) (hl : a.length = b.length) (hn : a.length ≤ 35184372088832) (ha : ∀ j, 0 ≤ a.getD j 0 ∧ a.getD j 0 < p) (hb : ∀ j, 0 ≤ b.getD j 0 ∧ b.getD j 0 < p) (d : Nat) :
    ∀ (k i : Nat) (s : Int), a.length - i = d → i ≤ a.length → d < k → s = ((List.zipWith (fun x y => x * y) a b).take i).sum % p → spec_l02Dot.l0 k a b p s i = some (dotS a b % p) := by
  have hz : (List.zipWith (fun x y => x * y) a b).length = a.length := by simp [hl]
  induction d with
  | zero =>
    intro k i s hd hi hk hs
    obtain ⟨k, rfl⟩ : ∃ m, k = m + 1 := ⟨k - 1, by omega⟩
    simp only [spec_l02Dot.l0]
    have hf : ¬ (i : Int) < (a.length : Int) := by omega
    simp only [hf, if_false]
    rw [hs, List.take_of_length_le (by omega)]
    rfl
  | succ d ih =>
    intro k i s hd hi hk hs
    obtain ⟨k, rfl⟩ : ∃ m, k = m + 1 := ⟨k - 1, by omega⟩
    simp only [spec_l02Dot.l0]
    have h1 : (i : Int) < (a.length : Int) := by omega
    have h2 : (i : Int) < (b.length : Int) := by omega
    have h0 : (0 : Int) ≤ (i : Int) := by omega
    have hp0 : ¬ p = 0 := by omega
    have hs2 := emod_range' hp ((List.zipWith (fun x y => x * y) a b).take i).sum
    rw [← hs] at hs2
    have hm := small_mul' hp hp' (ha i).1 (ha i).2 (hb i).1 (hb i).2
    have e : Int.tmod (wrap64 (s + wrap64 (rd a i * rd b i))) p = ((List.zipWith (fun x y => x * y) a b).take (i + 1)).sum % p := by
      rw [rd_nat, rd_nat, w64_id (x := a.getD i 0 * b.getD i 0) (by omega) (by omega), w64_id (x := s + a.getD i 0 * b.getD i 0) (by omega) (by omega), Int.tmod_eq_emod_of_nonneg (by omega), sum_take_succ _ (by omega), zip_getD (by omega) (by omega), hs, Int.emod_add_emod]
    simp only [h0, h1, h2, hp0, if_true, if_false]
    rw [e, w64_succ (n := a.length) (by omega) hn]
    exact ih k (i + 1) _ (by omega) (by omega) (by omega) rfl
theorem dotSpec_tells {a b : List Int} {p : Int} (hp : 2 ≤ p) (hp' : p ≤ 251) (hl : a.length = b.length) (hn : a.length ≤ 35184372088832) (ha : ∀ j, 0 ≤ a.getD j 0 ∧ a.getD j 0 < p) (hb : ∀ j, 0 ≤ b.getD j 0 ∧ b.getD j 0 < p) {k : Nat} (hk : a.length < k) :
    spec_l02Dot.f k a b p = some (dotS a b % p) := by
  unfold spec_l02Dot.f
  exact dotSpec_loop hp hp' hl hn ha hb a.length k 0 0 (by omega) (by omega) hk (by simp)
theorem allIn_drop {l : List Int} {p : Int} {i : Nat} (h : i < l.length) : allIn (l.drop i) p = (decide (0 ≤ l.getD i 0 ∧ l.getD i 0 ≤ p - 1) && allIn (l.drop (i + 1)) p) := by
  rw [List.drop_eq_getElem_cons h]
  unfold allIn
  simp only [List.all_cons]
  congr 1
  rw [getD_at h, ← Bool.decide_and, decide_eq_decide]; omega
theorem numbers_loop {l : List Int} {p : Int} (hp : 2 ≤ p) (hp' : p ≤ 251) (hl : l.length ≤ 35184372088832) (d : Nat) : ∀ (k i : Nat), l.length - i = d → i ≤ l.length → d < k →
    spec_l02Numbers.l0 k l p i = some (allIn (l.drop i) p && decide (l.length ≤ 64)) := by
  have e0 : wrap64 (p - 1) = p - 1 := w64_id (by omega) (by omega)
  induction d with
  | zero =>
    intro k i hd hi hk
    obtain ⟨k, rfl⟩ : ∃ m, k = m + 1 := ⟨k - 1, by omega⟩
    simp only [spec_l02Numbers.l0]
    rw [if_neg (by omega), List.drop_eq_nil_of_le (by omega)]
    simp only [allIn, List.all_nil, Bool.true_and]
    congr 1; rw [decide_eq_decide]; omega
  | succ d ih =>
    intro k i hd hi hk
    obtain ⟨k, rfl⟩ : ∃ m, k = m + 1 := ⟨k - 1, by omega⟩
    simp only [spec_l02Numbers.l0]
    rw [if_pos (by omega), if_pos (by omega), rd_nat, e0, in_tells, w64_succ (n := l.length) (by omega) hl, ih k (i + 1) (by omega) (by omega) (by omega), allIn_drop (show i < l.length by omega)]
    simp only [Option.bind_some]
    by_cases h : 0 ≤ l.getD i 0 ∧ l.getD i 0 ≤ p - 1
    · rw [decide_eq_true h]; simp
    · rw [decide_eq_false h]; simp
theorem numbers_tells {l : List Int} {p : Int} (hp : 2 ≤ p) (hp' : p ≤ 251) (hl : l.length ≤ 35184372088832) {k : Nat} (hk : l.length < k) : spec_l02Numbers.f k l p = some (decide (l.length ≤ 64) && allIn l p) := by
  unfold spec_l02Numbers.f
  have := numbers_loop hp hp' hl l.length k 0 (by omega) (by omega) hk
  rw [show ((0 : Int)) = ((0 : Nat) : Int) by rfl, this, List.drop_zero, Bool.and_comm]
def rhsOk (n p : Int) (x : List Int) : Bool := decide ((x.length : Int) = n) && allIn x p
theorem rhsOk_iff {n p : Int} {x : List Int} : rhsOk n p x = true ↔ (x.length : Int) = n ∧ ∀ y, y ∈ x → 0 ≤ y ∧ y < p := by
  unfold rhsOk; rw [Bool.and_eq_true, decide_eq_true_eq, allIn_iff]
theorem vec_range {p : Int} (hp : 2 ≤ p) {x : List Int} (h : ∀ y, y ∈ x → 0 ≤ y ∧ y < p) (j : Nat) : 0 ≤ x.getD j 0 ∧ x.getD j 0 < p := by
  by_cases hj : j < x.length
  · exact h _ (by rw [getD_at hj]; exact List.getElem_mem hj)
  · rw [List.getD_eq_getElem?_getD, List.getElem?_eq_none (by omega)]; simp; omega
theorem isVec_tells {p : Int} (hp : isP p = true) (n : Int) (x : List Int) : impl_isVector.f x n p = some (rhsOk n p x) := by
  unfold impl_isVector.f rhsOk
  rw [areElements_tells hp]
  show (if (x.length : Int) = n then _ else _) = _
  by_cases h : (x.length : Int) = n
  · rw [if_pos h, decide_eq_true h]; simp
  · rw [if_neg h, decide_eq_false h]; simp
def askOf (p r c : Int) (l b : List Int) : Int := if matOk p r c l = true then (if rhsOk r p b = true then 0 else 2) else 1
theorem rightSide_tells (p r c : Int) {l b : List Int} {k : Nat} (hk : 20 ≤ k) : impl_rightSide.f k p r c l b = some (askOf p r c l b) := by
  unfold impl_rightSide.f askOf
  rw [implOk_tells p r c hk, Option.bind_some]
  by_cases h : matOk p r c l = true
  · rw [if_pos h, if_pos h, isVec_tells (matOk_iff.mp h).1, Option.bind_some]
    cases rhsOk r p b <;> simp
  · rw [if_neg h, if_neg h]
theorem ask_dims {p r c : Int} {l b : List Int} (h : matOk p r c l = true) (hb : rhsOk r p b = true) : ∃ R C : Nat, r = R ∧ c = C ∧ R ≤ 32 ∧ C ≤ 32 ∧ l.length = R * C ∧ (∀ j, 0 ≤ l.getD j 0 ∧ l.getD j 0 < p) ∧ b.length = R ∧ ∀ j, 0 ≤ b.getD j 0 ∧ b.getD j 0 < p := by
  obtain ⟨hp, hr, hc, hl, hv⟩ := matOk_iff.mp h
  obtain ⟨hbl, hbv⟩ := rhsOk_iff.mp hb
  have h2 := (isP_ge hp).1
  obtain ⟨R, rfl⟩ := Int.eq_ofNat_of_zero_le hr.1
  obtain ⟨C, rfl⟩ := Int.eq_ofNat_of_zero_le hc.1
  exact ⟨R, C, rfl, rfl, by omega, by omega, by exact_mod_cast hl, vec_range h2 hv, by omega, vec_range h2 hbv⟩
theorem matOk_of {p : Int} (hp : isP p = true) {R C : Nat} (hR : R ≤ 32) (hC : C ≤ 32) {l : List Int} (hl : l.length = R * C) (hv : ∀ j, 0 ≤ l.getD j 0 ∧ l.getD j 0 < p) : matOk p R C l = true := by
  refine matOk_iff.mpr ⟨hp, ⟨by omega, by omega⟩, ⟨by omega, by omega⟩, by rw [hl]; push_cast; rfl, fun x hx => ?_⟩
  obtain ⟨i, hi, rfl⟩ := List.mem_iff_getElem.mp hx
  have := hv i
  rwa [getD_at hi] at this
theorem okTab {p : Int} (hp : 2 ≤ p) {r c : Nat} {f : Nat → Nat → Int} (hf : ∀ i j, i < r → j < c → 0 ≤ f i j ∧ f i j < p) (j : Nat) : 0 ≤ (tab r c f).getD j 0 ∧ (tab r c f).getD j 0 < p := by
  by_cases hj : j < r * c
  · obtain ⟨a, b, _⟩ := split_at hj
    rw [tab_getD _ hj]; exact hf _ _ a b
  · rw [List.getD_eq_getElem?_getD, List.getElem?_eq_none (by rw [tab_length]; omega)]
    simp; omega
def joined (r c c' : Nat) (l l' : List Int) : List Int := tab r (c + c') (fun i j => if j < c then l.getD (i * c + j) 0 else l'.getD (i * c' + (j - c)) 0)
def joinOut (p r c : Int) (a : List Int) (p' r' c' : Int) (b : List Int) : Int × Int × Int × List Int × Int := if (matOk p r c a && matOk p' r' c' b) = true then if p = p' ∧ r = r' then if c + c' ≤ 32 then (p, r, ((c.toNat + c'.toNat : Nat) : Int), joined r.toNat c.toNat c'.toNat a b, 0) else (0, 0, 0, [], 5) else (0, 0, 0, [], 6) else (0, 0, 0, [], 1)
end Go.Proofs.Ytmbbjmkcbpefhaa.F
end

section
set_option linter.unusedVariables false
set_option linter.unusedSimpArgs false
set_option linter.unusedSectionVars false
namespace Go.Proofs.Ytmbbjmkcbpefhaa.Lin
theorem isP_nat {p : Nat} (hp : isP (p : Int) = true) : 2 ≤ p ∧ p ≤ 251 := by have := isP_ge hp; omega
theorem one_ne {p : Nat} [NeZero p] (hp : isP (p : Int) = true) : (1 : Fin p) ≠ 0 := by
  have h := isP_nat hp
  intro e
  rw [← phi_one, phi_zero_iff (by omega) (by omega)] at e
  omega
section
variable {p : Nat} [NeZero p] {n : Nat} {rows : List (List Int)}
theorem elim_all (hp : isP p = true) (hok : RowsOk p n rows) : ∃ r P, RowsOk p n (elim p n rows).1 ∧ (elim p n rows).1.length = rows.length ∧ (elim p n rows).2.1 = pivList P r ∧ Rref n rows.length (fm p (elim p n rows).1) r P ∧ Same n rows.length rows.length (fm p rows) (fm p (elim p n rows).1) := by
  obtain ⟨r, P, h1, h2, h3, h4, h5, _⟩ := elimTo_tells hp hok n (Nat.le_refl _)
  exact ⟨r, P, h1, h2, h3, h4.rref, h5⟩
end
def sx (F : List (List Int)) (piv : List Int) (n : Nat) : Nat → List Int
  | 0 => List.replicate n 0
  | i + 1 => (sx F piv n i).set (piv.getD i 0).toNat (cell F i n)
theorem sx_length (F : List (List Int)) (piv : List Int) (n : Nat) : ∀ i, (sx F piv n i).length = n
  | 0 => by simp [sx]
  | i + 1 => by simp [sx, sx_length F piv n i]
section
variable {p : Nat} [NeZero p] {n m : Nat} {rows : List (List Int)}
theorem sx_get (F : List (List Int)) {P : Nat → Nat} {r : Nat} (hlt : ∀ i, i < r → P i < n) : ∀ i, i ≤ r → ∀ j, j < n → (sx F (pivList P r) n (i)).getD j 0 = 0 ∨ ∃ q, q < i ∧ P q = j
  | 0, _, j, hj => .inl (by simp [sx, List.getD_eq_getElem?_getD, hj])
  | i + 1, hi, j, hj => by
    have e : (pivList P r).getD i 0 = (P i : Int) := by unfold pivList; simp [List.getD_eq_getElem?_getD, (show i < r by omega)]
    have hl := sx_length F (pivList P r) n i
    by_cases h : P i = j
    · exact .inr ⟨i, by omega, h⟩
    · rcases sx_get F hlt i (by omega) j hj with h2 | ⟨q, hq, h2⟩
      · refine .inl ?_
        simp only [sx]
        rw [e, Int.toNat_natCast, List.getD_eq_getElem?_getD, List.getElem?_set, if_neg h, ← List.getD_eq_getElem?_getD]
        exact h2
      · exact .inr ⟨q, by omega, h2⟩
theorem sx_sum {F : List (List Int)} {P : Nat → Nat} {r : Nat} (hlt : ∀ i, i < r → P i < n) (hinc : ∀ i k, i < k → k < r → P i < P k) (g : Nat → Fin p) : ∀ i, i ≤ r → sm n (fun j => g j * phi p ((sx F (pivList P r) n i).getD j 0)) = sm i (fun k => g (P k) * fm p F k n)
  | 0, _ => by
    refine sm_zero (fun j hj => ?_)
    rw [show (sx F (pivList P r) n 0).getD j 0 = 0 by simp [sx, List.getD_eq_getElem?_getD, hj], phi_zero]; grind
  | i + 1, hi => by
    have e : (pivList P r).getD i 0 = (P i : Int) := by unfold pivList; simp [List.getD_eq_getElem?_getD, (show i < r by omega)]
    have hl := sx_length F (pivList P r) n i
    have ih := sx_sum (F := F) hlt hinc g i (by omega)
    have hPi := hlt i (by omega)
    show _ = sm i (fun k => g (P k) * fm p F k n) + g (P i) * fm p F i n
    rw [← ih]
    have h1 : sm n (fun j => if j = P i then g (P i) * fm p F i n else 0) = g (P i) * fm p F i n := by
      rw [sm_one (P i) hPi (fun j _ hne => by rw [if_neg hne]), if_pos rfl]
    rw [← h1, ← sm_add]
    refine sm_congr (fun j hj => ?_)
    simp only [sx]
    rw [e, Int.toNat_natCast, List.getD_eq_getElem?_getD, List.getElem?_set]
    by_cases h : P i = j
    · rw [if_pos h, if_pos (by omega), if_pos h.symm]
      have h0 : (sx F (pivList P r) n i).getD j 0 = 0 := by
        rcases sx_get F (P := P) (r := r) hlt i (by omega) j hj with h2 | ⟨q, hq, h2⟩
        · exact h2
        · have := hinc q i hq (by omega); omega
      rw [h0, phi_zero]
      subst h
      show g (P i) * phi p (cell F i n) = g (P i) * 0 + g (P i) * fm p F i n
      unfold fm; grind
    · rw [if_neg h, if_neg (fun h2 => h h2.symm), ← List.getD_eq_getElem?_getD]; grind
theorem solve_tells {aug : List (List Int)} (hp : isP p = true) (hok : RowsOk p (n + 1) aug) : 
    ((∀ k, k < (elim p (n + 1) aug).2.1.length → (elim p (n + 1) aug).2.1.getD k 0 ≠ n) ∧ ∀ i, i < aug.length → sm n (fun j => fm p aug i j * phi p ((sx (elim p (n + 1) aug).1 (elim p (n + 1) aug).2.1 n (elim p (n + 1) aug).2.1.length).getD j 0)) = fm p aug i n) ∨
    ((∃ k, k < (elim p (n + 1) aug).2.1.length ∧ (elim p (n + 1) aug).2.1.getD k 0 = n) ∧ ∃ y : Nat → Fin p, (∀ j, j < n → sm aug.length (fun i => y i * fm p aug i j) = 0) ∧ sm aug.length (fun i => y i * fm p aug i n) = 1) := by
  obtain ⟨r, P, h1, h2, h3, h4, h5⟩ := elim_all hp hok
  have e : ∀ i, i < r → (pivList P r).getD i 0 = (P i : Int) := fun i hi => by unfold pivList; simp [List.getD_eq_getElem?_getD, hi]
  rw [h3, pivList_length]
  by_cases hx : ∃ k, k < r ∧ P k = n
  · obtain ⟨k, hk, hPk⟩ := hx
    refine .inr ⟨⟨k, hk, by rw [e k hk, hPk]⟩, ?_⟩
    obtain ⟨y, hy⟩ := h5.2 k (by have := h4.le; omega)
    refine ⟨y, fun j hj => ?_, ?_⟩
    · rw [← hy j (by omega)]; exact h4.before k j hk (by omega)
    · rw [← hy n (by omega)]; have := h4.one k hk; rw [hPk] at this; exact this
  · have hlt : ∀ i, i < r → P i < n := fun i hi => by
      have := h4.lt i hi
      rcases Nat.lt_or_ge (P i) n with h | h
      · exact h
      · exact absurd ⟨i, hi, by omega⟩ hx
    refine .inl ⟨fun k hk => by rw [e k hk]; have := hlt k hk; omega, fun i hi => ?_⟩
    rw [sx_sum hlt h4.inc (fun j => fm p aug i j) r (Nat.le_refl _)]
    rw [h4.as_sum (h5.1 i hi) n (by omega)]
end
end Go.Proofs.Ytmbbjmkcbpefhaa.Lin
end

section
set_option linter.unusedVariables false
set_option linter.unusedSimpArgs false
set_option linter.unusedSectionVars false
namespace Go.Proofs.Ytmbbjmkcbpefhaa.F
open Go.RowKit Go.Proofs.YtmbbjmkcbpefhaaW.PrintWords Go.Proofs.YtmbbjmkcbpefhaaW.PrintLast Go.Proofs.Ytmbbjmkcbpefhaa.Lin
theorem concat_size {rs : List (List Int)} (hr : rs.length ≤ 100) (hl : rs.flatten.length ≤ 100000) (d : Nat) : ∀ k i, rs.length - i = d → i ≤ rs.length → d < k →
    ∃ k', k = k' + d + 1 ∧ slices_Concat_int64_int64.l0 k rs ((rs.take i).flatten.length : Int) rs rs.length i = slices_Concat_int64_int64.l1 k' [] rs rs.length 0 := by
  have hle : ∀ i, (rs.take i).flatten.length ≤ rs.flatten.length := fun i => by
    have : rs.flatten = (rs.take i).flatten ++ (rs.drop i).flatten := by rw [← List.flatten_append, List.take_append_drop]
    rw [this, List.length_append]; omega
  induction d with
  | zero =>
    intro k i hd hi hk
    obtain ⟨k, rfl⟩ : ∃ m, k = m + 1 := ⟨k - 1, by omega⟩
    refine ⟨k, by omega, ?_⟩
    have h1 := hle i
    simp only [slices_Concat_int64_int64.l0]
    rw [if_neg (nlt_nat (by omega))]
    have g : slices_Grow_int64_int64.f [] ((rs.take i).flatten.length : Int) = some [] := by
      unfold slices_Grow_int64_int64.f
      rw [if_pos (show ([] : List Int).length = 0 from rfl), if_pos (by omega), if_pos (by omega)]
    rw [g, Option.bind_some]
  | succ d ih =>
    intro k i hd hi hk
    obtain ⟨k, rfl⟩ : ∃ m, k = m + 1 := ⟨k - 1, by omega⟩
    obtain ⟨k', e1, e2⟩ := ih k (i + 1) (by omega) (by omega) (by omega)
    refine ⟨k', by omega, ?_⟩
    have hiR : i < rs.length := by omega
    have h1 := hle (i + 1)
    rw [← e2, take_flatten_succ rs hiR, List.length_append]
    rw [take_flatten_succ rs hiR, List.length_append] at h1
    have e3 : ((rs.take i).flatten.length : Int) + ((rs.getD i []).length : Int) = (((rs.take i).flatten.length + (rs.getD i []).length : Nat) : Int) := by omega
    simp only [slices_Concat_int64_int64.l0]
    rw [if_pos (lt_nat hiR), if_pos (idx0 _), if_pos (lt_nat hiR), rdL_nat, e3, w64_idV (x := (((rs.take i).flatten.length + (rs.getD i []).length : Nat) : Int)) (by omega) (by omega), if_neg (by omega), w64_succ (n := 100) (by omega) (by omega)]
theorem concat_rows {rs : List (List Int)} (hr : rs.length ≤ 100) (hl : rs.flatten.length ≤ 100000) (d : Nat) : ∀ k i, rs.length - i = d → i ≤ rs.length → d < k →
    slices_Concat_int64_int64.l1 k (rs.take i).flatten rs rs.length i = some rs.flatten := by
  have hle : ∀ i, (rs.take i).flatten.length ≤ rs.flatten.length := fun i => by
    have : rs.flatten = (rs.take i).flatten ++ (rs.drop i).flatten := by rw [← List.flatten_append, List.take_append_drop]
    rw [this, List.length_append]; omega
  induction d with
  | zero =>
    intro k i hd hi hk
    obtain ⟨k, rfl⟩ : ∃ m, k = m + 1 := ⟨k - 1, by omega⟩
    simp only [slices_Concat_int64_int64.l1]
    rw [if_neg (nlt_nat (by omega)), List.take_of_length_le (by omega)]
  | succ d ih =>
    intro k i hd hi hk
    obtain ⟨k, rfl⟩ : ∃ m, k = m + 1 := ⟨k - 1, by omega⟩
    have hiR : i < rs.length := by omega
    have h1 := hle (i + 1)
    have e2 := ih k (i + 1) (by omega) (by omega) (by omega)
    rw [take_flatten_succ rs hiR] at h1 e2
    rw [List.length_append] at h1
    simp only [slices_Concat_int64_int64.l1]
    rw [if_pos (lt_nat hiR), if_pos (idx0 _), if_pos (lt_nat hiR), rdL_nat, if_pos (by omega), w64_succ (n := 100) (by omega) (by omega)]
    exact e2
theorem concat_tells {rs : List (List Int)} (hr : rs.length ≤ 100) (hl : rs.flatten.length ≤ 100000) {k : Nat} (hk : 300 ≤ k) : slices_Concat_int64_int64.f k rs = some rs.flatten := by
  unfold slices_Concat_int64_int64.f
  obtain ⟨k', e1, e2⟩ := concat_size hr hl rs.length k 0 (by omega) (by omega) (by omega)
  refine e2.trans ?_
  exact concat_rows hr hl rs.length k' 0 (by omega) (by omega) (by omega)
theorem matrixOf_tells {p q : Int} {C : Nat} (c : Int) {rs : List (List Int)} (hok : RowsOk p C rs) (hr : rs.length ≤ 100) (hC : C ≤ 100) {k : Nat} (hk : 300 ≤ k) : impl_matrixOf.f k q c rs = some (q, (rs.length : Int), c, tab rs.length C (cell rs)) := by
  have hl : rs.flatten.length ≤ 100000 := by
    rw [flatten_rows hok, tab_length]
    have : rs.length * C ≤ 100 * 100 := Nat.mul_le_mul hr hC
    omega
  unfold impl_matrixOf.f
  show Option.bind (some (rs.length : Int)) _ = _
  rw [Option.bind_some, concat_tells hr hl hk, Option.bind_some, flatten_rows hok]
def augL (R C : Nat) (l b : List Int) : List Int := joined R C 1 l b
def augM (R C : Nat) (l b : List Int) : List (List Int) := rowsM R (C + 1) (augL R C l b)
theorem augM_length (R C : Nat) (l b : List Int) : (augM R C l b).length = R := rowsM_length _ _ _
theorem augL_at {R C i j : Nat} (l b : List Int) (hi : i < R) (hj : j < C + 1) : (augL R C l b).getD (i * (C + 1) + j) 0 = if j < C then l.getD (i * C + j) 0 else b.getD i 0 := by
  unfold augL joined
  rw [tab_at _ hi hj]
  by_cases h : j < C
  · rw [if_pos h, if_pos h]
  · rw [if_neg h, if_neg h, show i * 1 + (j - C) = i by omega]
theorem augL_ok {p : Int} (hp : 2 ≤ p) {R C : Nat} {l b : List Int} (hv : ∀ j, 0 ≤ l.getD j 0 ∧ l.getD j 0 < p) (hb : ∀ j, 0 ≤ b.getD j 0 ∧ b.getD j 0 < p) (j : Nat) : 0 ≤ (augL R C l b).getD j 0 ∧ (augL R C l b).getD j 0 < p := by
  unfold augL joined
  refine okTab hp (fun a c _ _ => ?_) j
  split
  · exact hv _
  · exact hb _
theorem augM_ok {p : Int} (hp : 2 ≤ p) {R C : Nat} {l b : List Int} (hv : ∀ j, 0 ≤ l.getD j 0 ∧ l.getD j 0 < p) (hb : ∀ j, 0 ≤ b.getD j 0 ∧ b.getD j 0 < p) : RowsOk p (C + 1) (augM R C l b) := rowsM_ok (augL_ok hp hv hb)
theorem augM_cell {R C i j : Nat} (l b : List Int) (hi : i < R) (hj : j < C + 1) : cell (augM R C l b) i j = if j < C then l.getD (i * C + j) 0 else b.getD i 0 := by
  unfold augM
  rw [rowsM_cell _ hi hj, augL_at l b hi hj]
theorem rowsM_get {R C i : Nat} (l : List Int) (hi : i < R) : (rowsM R C l).getD i [] = (List.range C).map (fun j => l.getD (i * C + j) 0) := by
  unfold rowsM; simp [List.getD_eq_getElem?_getD, hi]
theorem rowA {R C i : Nat} (l b : List Int) (hi : i < R) : (augM R C l b).getD i [] = (rowsM R C l).getD i [] ++ [b.getD i 0] := by
  unfold augM
  rw [rowsM_get _ hi, rowsM_get _ hi, List.range_succ, List.map_append]
  congr 1
  · refine List.map_congr_left (fun j hj => ?_)
    have hj := List.mem_range.mp hj
    rw [augL_at l b hi (by omega), if_pos hj]
  · simp only [List.map_cons, List.map_nil]
    rw [augL_at l b hi (by omega), if_neg (by omega)]
def apN (R C : Nat) (l b : List Int) (i : Nat) : List (List Int) := (augM R C l b).take i ++ (rowsM R C l).drop i
theorem apN_length {R C : Nat} (l b : List Int) {i : Nat} (hi : i ≤ R) : (apN R C l b i).length = R := by
  unfold apN
  rw [List.length_append, List.length_take, List.length_drop, augM_length, rowsM_length]; omega
theorem apN_get {R C : Nat} (l b : List Int) {i : Nat} (hi : i < R) : (apN R C l b i).getD i [] = (rowsM R C l).getD i [] := by
  unfold apN
  have h := augM_length R C l b
  rw [List.getD_eq_getElem?_getD, List.getD_eq_getElem?_getD, List.getElem?_append_right (by rw [List.length_take]; omega), List.length_take, List.getElem?_drop]
  congr 2; omega
theorem apN_set {R C : Nat} (l b : List Int) {i : Nat} (hi : i < R) : (apN R C l b i).set i ((rowsM R C l).getD i [] ++ [b.getD i 0]) = apN R C l b (i + 1) := by
  have h := augM_length R C l b
  have h2 := rowsM_length R C l
  unfold apN
  rw [← rowA l b hi, List.set_append, if_neg (by rw [List.length_take]; omega), List.length_take, show i - min i (augM R C l b).length = 0 by omega, List.drop_eq_getElem_cons (by omega : i < (rowsM R C l).length), List.set_cons_zero, List.take_add_one, List.getElem?_eq_getElem (by omega), List.append_assoc, getD_at (by omega)]
  rfl
theorem ap_loop {R C : Nat} {l b : List Int} (hR : R ≤ 64) (hC : C ≤ 70) (hb : R ≤ b.length) (d : Nat) : ∀ k i, R - i = d → i ≤ R → d < k → impl_solve.ap k b (apN R C l b i) (R : Int) (i : Int) = some (augM R C l b) := by
  induction d with
  | zero =>
    intro k i hd hi hk
    obtain ⟨k, rfl⟩ : ∃ m, k = m + 1 := ⟨k - 1, by omega⟩
    obtain rfl : i = R := by omega
    simp only [impl_solve.ap]
    rw [if_neg (nlt_nat (Nat.le_refl _))]
    unfold apN
    rw [List.take_of_length_le (by rw [augM_length]; omega), List.drop_eq_nil_of_le (by rw [rowsM_length]; omega), List.append_nil]
  | succ d ih =>
    intro k i hd hi hk
    obtain ⟨k, rfl⟩ : ∃ m, k = m + 1 := ⟨k - 1, by omega⟩
    have hiR : i < R := by omega
    have hrl : ((rowsM R C l).getD i []).length = C := by rw [rowsM_get l hiR]; simp
    simp only [impl_solve.ap, rd_nat, rdL_nat]
    rw [if_pos (lt_nat hiR), if_pos (idx0 _), if_pos (by rw [apN_length l b (by omega)]; omega), if_pos (by omega), apN_get l b hiR, if_pos (by rw [hrl]; omega), Int.toNat_natCast, apN_set l b hiR, w64_succ (n := R) hiR (by omega)]
    exact ih k (i + 1) (by omega) (by omega) (by omega)
theorem piv_ltE (p : Int) (rows : List (List Int)) : ∀ (c : Nat), ∀ x ∈ (elimTo p rows c).2.1, 0 ≤ x ∧ x < (c : Int)
  | 0 => by intro x hx; simp [elimTo] at hx
  | c + 1 => by
    have ih := piv_ltE p rows c
    intro x hx
    rw [elimTo_succ] at hx
    unfold elimStep at hx
    split at hx
    · have := ih x hx; omega
    · rcases List.mem_append.mp hx with h | h
      · have := ih x h; omega
      · have : x = (c : Int) := by simpa using h
        omega
def slvOf (p : Int) (C : Nat) (aug : List (List Int)) : List Int × Bool := if (C : Int) ∈ (elim p (C + 1) aug).2.1 then ([], false) else (sx (elim p (C + 1) aug).1 (elim p (C + 1) aug).2.1 C (elim p (C + 1) aug).2.1.length, true)
section
variable {p : Int} {Q : List (List Int)} {piv : List Int} {R C : Nat} {l : List Int}
theorem not_in {piv : List Int} {c : Int} (h : ∀ q, q < piv.length → piv.getD q 0 ≠ c) : ¬ c ∈ piv := fun hm => by
  obtain ⟨j, hj, e⟩ := List.mem_iff_getElem.mp hm
  exact h j hj (by rw [getD_at hj]; exact e)
theorem implSol_loop (hC : C ≤ 70) (hok : ∀ r ∈ Q, r.length = C + 1) (hpl : piv.length ≤ 100) (hpq : piv.length ≤ Q.length) (hpv : ∀ x ∈ piv, 0 ≤ x ∧ x < ((C + 1 : Nat) : Int)) (d : Nat) : ∀ k i, piv.length - i = d → i ≤ piv.length → d < k → (∀ q, q < i → piv.getD q 0 ≠ (C : Int)) →
    impl_solve.l0 k Q (sx Q piv C i) piv piv.length i p R C l = some (if (C : Int) ∈ piv then ([], false) else (sx Q piv C piv.length, true)) := by
  induction d with
  | zero =>
    intro k i hd hi hk h
    obtain ⟨k, rfl⟩ : ∃ m, k = m + 1 := ⟨k - 1, by omega⟩
    obtain rfl : i = piv.length := by omega
    simp only [impl_solve.l0]
    rw [if_neg (by omega), if_neg (not_in h)]
  | succ d ih =>
    intro k i hd hi hk h
    obtain ⟨k, rfl⟩ : ∃ m, k = m + 1 := ⟨k - 1, by omega⟩
    have hip : i < piv.length := by omega
    simp only [impl_solve.l0, rd_nat, rdL_nat]
    rw [if_pos (by omega), if_pos (by omega), if_pos (by omega)]
    by_cases e : piv.getD i 0 = (C : Int)
    · rw [if_pos e, if_pos (by rw [← e]; exact getD_mem hip)]
    · have hv := hpv _ (getD_mem (d := 0) hip)
      have hr : (Q.getD i []).length = C + 1 := hok _ (getD_mem (by omega))
      rw [if_neg e, if_pos (by omega), if_pos (by omega), if_pos (by rw [hr]; omega), if_pos hv.1, if_pos (by rw [sx_length]; omega), w64_succ (n := piv.length) hip (by omega)]
      refine ih k (i + 1) (by omega) (by omega) (by omega) (fun q hq => ?_)
      by_cases e2 : q = i
      · rw [e2]; exact e
      · exact h q (by omega)
end
theorem implSolve_tells {p : Int} (hp : isP p = true) {R C : Nat} {l b : List Int} (hR : R ≤ 64) (hC : C ≤ 64) (hl : l.length = R * C) (hv : ∀ j, 0 ≤ l.getD j 0 ∧ l.getD j 0 < p) (hbl : b.length = R) (hb : ∀ j, 0 ≤ b.getD j 0 ∧ b.getD j 0 < p) {k : Nat} (hk : 6000 ≤ k) :
    impl_solve.f k p R C l b = some (slvOf p C (augM R C l b)) := by
  have h2 := isP_ge hp
  have ha := augM_ok h2.1 (R := R) (C := C) hv hb
  obtain ⟨t1, t2, t3, t4, _, _⟩ := elimTo_small hp ha (C + 1) (Nat.le_refl _)
  have t5 := piv_ltE p (augM R C l b) (C + 1)
  have t6 := augM_length R C l b
  unfold impl_solve.f impl_solve.elimB slvOf
  rw [rowsOf_tells hR (by omega) hl (by omega), Option.bind_some, rowsM_length]
  have h0 : rowsM R C l = apN R C l b 0 := by unfold apN; simp
  have h3 := ap_loop (R := R) (C := C) (l := l) (b := b) hR (by omega) (by omega) R k 0 (by omega) (by omega) (by omega)
  rw [show ((0 : Nat) : Int) = 0 from rfl] at h3
  rw [h0, h3, Option.bind_some, w64_succ (i := C) (n := 70) (by omega) (by omega), elim_tells hp (by omega) (by omega) ha (by omega), Option.bind_some, if_pos (by omega), if_pos (by omega), Int.toNat_natCast]
  exact implSol_loop (Q := (elim p (C + 1) (augM R C l b)).1) (piv := (elim p (C + 1) (augM R C l b)).2.1) (by omega) (fun r hr => (t1 r hr).1) (Nat.le_trans t3 (by omega)) (by show _ ≤ (elimTo p (augM R C l b) (C + 1)).1.length; rw [t2]; exact t4) t5 _ k 0 rfl (by omega) (by have : (elim p (C + 1) (augM R C l b)).2.1.length ≤ C + 1 := t3; omega) (fun q hq => by omega)
def solRes (p r c : Int) (l b : List Int) : List Int × Int := if askOf p r c l b = 0 then (if (slvOf p c.toNat (augM r.toNat c.toNat l b)).2 = true then ((slvOf p c.toNat (augM r.toNat c.toNat l b)).1, 0) else ([], 3)) else ([], askOf p r c l b)
theorem ask_zero {p r c : Int} {l b : List Int} (h : askOf p r c l b = 0) : matOk p r c l = true ∧ rhsOk r p b = true := by
  unfold askOf at h
  by_cases h1 : matOk p r c l = true
  · rw [if_pos h1] at h
    by_cases h2 : rhsOk r p b = true
    · exact ⟨h1, h2⟩
    · rw [if_neg h2] at h; omega
  · rw [if_neg h1] at h; omega
theorem implSolveM (p r c : Int) {l b : List Int} {k : Nat} (hk : 6000 ≤ k) : impl_Solve.f k p r c l b = some (solRes p r c l b) := by
  unfold impl_Solve.f solRes
  rw [rightSide_tells p r c (by omega), Option.bind_some]
  by_cases h : askOf p r c l b = 0
  · obtain ⟨h1, h2⟩ := ask_zero h
    obtain ⟨R, C, rfl, rfl, hR, hC, hl, hv, hbl, hb⟩ := ask_dims h1 h2
    rw [if_pos h, if_pos h, implSolve_tells (matOk_iff.mp h1).1 (by omega) (by omega) hl hv hbl hb hk, Option.bind_some, Int.toNat_natCast, Int.toNat_natCast]
    by_cases e : (slvOf p C (augM R C l b)).2 = true
    · rw [if_pos e, if_pos e]
    · rw [if_neg e, if_neg e]
  · rw [if_neg h, if_neg h]
def basisOf (p : Int) (n : Nat) (rs : List (List Int)) : List (List Int) := (elim p n rs).1.take (elim p n rs).2.1.length
def crtRows (R C : Nat) (l b : List Int) : List (List Int) := colsM R C l ++ [b]
theorem crtRows_length (R C : Nat) (l b : List Int) : (crtRows R C l b).length = C + 1 := by unfold crtRows colsM; simp
theorem crtRows_ok {p : Int} {R C : Nat} {l b : List Int} (hv : ∀ j, 0 ≤ l.getD j 0 ∧ l.getD j 0 < p) (hbl : b.length = R) (hb : ∀ j, 0 ≤ b.getD j 0 ∧ b.getD j 0 < p) : RowsOk p R (crtRows R C l b) := by
  intro r hr
  unfold crtRows at hr
  rcases List.mem_append.mp hr with h | h
  · exact colsM_ok hv r h
  · obtain rfl : r = b := by simpa using h
    refine ⟨hbl, fun x hx => ?_⟩
    obtain ⟨j, hj, e⟩ := List.mem_iff_getElem.mp hx
    have := hb j
    rw [getD_at hj, e] at this
    exact this
def crtL (R C : Nat) (l b : List Int) : List Int := tab (C + 1) R (cell (crtRows R C l b))
def crtGoal (C : Nat) : List Int := (List.replicate (C + 1) 0).set C 1
theorem crtGoal_length (C : Nat) : (crtGoal C).length = C + 1 := by unfold crtGoal; simp
theorem crtGoal_ok {p : Int} (hp : 2 ≤ p) (C j : Nat) : 0 ≤ (crtGoal C).getD j 0 ∧ (crtGoal C).getD j 0 < p := by
  unfold crtGoal
  rw [List.getD_eq_getElem?_getD, List.getElem?_set]
  split
  · split
    · simp; omega
    · simp; omega
  · rw [List.getElem?_replicate]
    split
    · simp; omega
    · simp; omega
theorem crtL_ok {p : Int} (hp : 2 ≤ p) {R C : Nat} {l b : List Int} (hv : ∀ j, 0 ≤ l.getD j 0 ∧ l.getD j 0 < p) (hbl : b.length = R) (hb : ∀ j, 0 ≤ b.getD j 0 ∧ b.getD j 0 < p) (j : Nat) : 0 ≤ (crtL R C l b).getD j 0 ∧ (crtL R C l b).getD j 0 < p :=
  okTab hp (fun i k _ _ => rangeC hp (crtRows_ok hv hbl hb) i k) j
def crtAug (R C : Nat) (l b : List Int) : List (List Int) := augM (C + 1) R (crtL R C l b) (crtGoal C)
section
variable {p : Int} {R C : Nat} {l b : List Int}
theorem implCrt_tells (hp : isP p = true) (hR : R ≤ 32) (hC : C ≤ 32) (hl : l.length = R * C) (hv : ∀ j, 0 ≤ l.getD j 0 ∧ l.getD j 0 < p) (hbl : b.length = R) (hb : ∀ j, 0 ≤ b.getD j 0 ∧ b.getD j 0 < p) {k : Nat} (hk : 17000 ≤ k) :
    impl_certificate.f k p R C l b = some (slvOf p R (crtAug R C l b)) := by
  have h2 := isP_ge hp
  have h3 := crtRows_length R C l b
  have h4 : (colsM R C l).length = C := by unfold colsM; simp
  unfold impl_certificate.f
  rw [implCols_tells p hR hC hl (by omega), Option.bind_some, if_pos (by omega), Option.bind_some, show colsM R C l ++ [b] = crtRows R C l b from rfl, if_pos (by omega), if_pos (by omega), Option.bind_some, h3]
  rw [show wrap64 (((C + 1 : Nat) : Int) - 1) = (C : Int) by rw [w64_idV (by omega) (by omega)]; omega, if_pos (by omega), if_pos (by simp; omega), Int.toNat_natCast, Int.toNat_natCast, matrixOf_tells (q := p) (R : Int) (crtRows_ok hv hbl hb) (by omega) (by omega) (by omega), Option.bind_some, h3]
  dsimp only
  have e := implSolve_tells hp (R := C + 1) (C := R) (l := crtL R C l b) (b := crtGoal C) (by omega) (by omega) (by unfold crtL; rw [tab_length]) (crtL_ok h2.1 hv hbl hb) (crtGoal_length C) (crtGoal_ok h2.1 C) (k := k) (by omega)
  unfold crtL crtGoal at e
  rw [e, Option.bind_some]
  rfl
end
def crtRes (p r c : Int) (l b : List Int) : List Int × Int := if askOf p r c l b = 0 then (if (slvOf p r.toNat (crtAug r.toNat c.toNat l b)).2 = true then ((slvOf p r.toNat (crtAug r.toNat c.toNat l b)).1, 0) else ([], 3)) else ([], askOf p r c l b)
theorem implCertM (p r c : Int) {l b : List Int} {k : Nat} (hk : 17000 ≤ k) : impl_Certificate.f k p r c l b = some (crtRes p r c l b) := by
  unfold impl_Certificate.f crtRes
  rw [rightSide_tells p r c (by omega), Option.bind_some]
  by_cases h : askOf p r c l b = 0
  · obtain ⟨h1, h2⟩ := ask_zero h
    obtain ⟨R, C, rfl, rfl, hR, hC, hl, hv, hbl, hb⟩ := ask_dims h1 h2
    rw [if_pos h, if_pos h, implCrt_tells (matOk_iff.mp h1).1 hR hC hl hv hbl hb hk, Option.bind_some, Int.toNat_natCast, Int.toNat_natCast]
    by_cases e : (slvOf p R (crtAug R C l b)).2 = true
    · rw [if_pos e, if_pos e]
    · rw [if_neg e, if_neg e]
  · rw [if_neg h, if_neg h]
end Go.Proofs.Ytmbbjmkcbpefhaa.F
end

section
set_option linter.unusedVariables false
set_option linter.unusedSimpArgs false
set_option linter.unusedSectionVars false
namespace Go.Proofs.Ytmbbjmkcbpefhaa.Lin
section
variable {p : Nat} [NeZero p] {n m : Nat}
theorem no_both (hp : isP p = true) {A : Nat → Nat → Fin p} {b x y : Nat → Fin p} (hx : ∀ i, i < m → sm n (fun j => A i j * x j) = b i) (hy : ∀ j, j < n → sm m (fun i => y i * A i j) = 0) (h1 : sm m (fun i => y i * b i) = 1) : False := by
  have e : sm m (fun i => y i * b i) = 0 := by
    rw [sm_congr (g := fun i => sm n (fun j => y i * (A i j * x j))) (fun i hi => by rw [← hx i hi, sm_mul]), sm_comm]
    refine sm_zero (fun j hj => ?_)
    rw [sm_congr (g := fun i => y i * A i j * x j) (fun i _ => by grind), sm_mul_r, hy j hj]; grind
  rw [e] at h1
  exact one_ne hp h1.symm
def solvable (p : Int) (n : Nat) (aug : List (List Int)) : Prop := ∀ k, k < (elim p (n + 1) aug).2.1.length → (elim p (n + 1) aug).2.1.getD k 0 ≠ n
def solOf (p : Int) (n : Nat) (aug : List (List Int)) : List Int := sx (elim p (n + 1) aug).1 (elim p (n + 1) aug).2.1 n (elim p (n + 1) aug).2.1.length
theorem either_or {aug aug2 : List (List Int)} (hp : isP p = true) (hok : RowsOk p (n + 1) aug) (hl : aug.length = m) (hok2 : RowsOk p (m + 1) aug2) (hl2 : aug2.length = n + 1)
    (hT : ∀ i j, i < m → j < n → cell aug2 j i = cell aug i j) (hB : ∀ i, i < m → cell aug2 n i = cell aug i n) (hR : ∀ j, j < n → cell aug2 j m = 0) (hR1 : cell aug2 n m = 1) :
    (solvable p n aug ∧ ¬ solvable p m aug2 ∧ ∀ i, i < m → sm n (fun j => fm p aug i j * phi p ((solOf p n aug).getD j 0)) = fm p aug i n) ∨
    (¬ solvable p n aug ∧ solvable p m aug2 ∧ (∀ j, j < n → sm m (fun i => fm p aug i j * phi p ((solOf p m aug2).getD i 0)) = 0) ∧ sm m (fun i => phi p ((solOf p m aug2).getD i 0) * fm p aug i n) = 1) := by
  have fT : ∀ i j, i < m → j < n → fm p aug2 j i = fm p aug i j := fun i j hi hj => by unfold fm; rw [hT i j hi hj]
  have fB : ∀ i, i < m → fm p aug2 n i = fm p aug i n := fun i hi => by unfold fm; rw [hB i hi]
  have fR : ∀ j, j < n → fm p aug2 j m = 0 := fun j hj => by unfold fm; rw [hR j hj, phi_zero]
  have fR1 : fm p aug2 n m = 1 := by unfold fm; rw [hR1, phi_one]
  rcases solve_tells hp hok with ⟨a1, a2⟩ | ⟨⟨k, hk, ek⟩, y, y1, y2⟩
  · rw [hl] at a2
    rcases solve_tells hp hok2 with ⟨b1, b2⟩ | ⟨⟨k, hk, ek⟩, _⟩
    · exfalso
      rw [hl2] at b2
      refine no_both hp (A := fm p aug) (b := fun i => fm p aug i n) (y := fun i => phi p ((solOf p m aug2).getD i 0)) a2 (fun j hj => ?_) ?_
      · have := b2 j (by omega)
        rw [fR j hj] at this
        rw [← this]
        exact sm_congr (fun i hi => by rw [fT i j hi hj]; unfold solOf; grind)
      · have := b2 n (by omega)
        rw [fR1] at this
        rw [← this]
        exact sm_congr (fun i hi => by rw [fB i hi]; unfold solOf; grind)
    · exact .inl ⟨a1, fun h => h k hk ek, a2⟩
  · rw [hl] at y1 y2
    refine .inr ⟨fun h => h k hk ek, ?_⟩
    rcases solve_tells hp hok2 with ⟨b1, b2⟩ | ⟨_, z, z1, z2⟩
    · rw [hl2] at b2
      refine ⟨b1, fun j hj => ?_, ?_⟩
      · have := b2 j (by omega)
        rw [fR j hj] at this
        rw [← this]
        exact sm_congr (fun i hi => by rw [fT i j hi hj]; rfl)
      · have := b2 n (by omega)
        rw [fR1] at this
        rw [← this]
        exact sm_congr (fun i hi => by rw [fB i hi]; unfold solOf; grind)
    · exfalso
      rw [hl2] at z1 z2
      have zn : z n = 1 := by
        rw [← z2]
        show _ = sm n (fun i => z i * fm p aug2 i m) + z n * fm p aug2 n m
        rw [sm_zero (fun i hi => by rw [fR i hi]; grind), fR1]; grind
      refine no_both hp (A := fm p aug) (b := fun i => fm p aug i n) (x := fun j => - z j) (fun i hi => ?_) y1 y2
      have h := z1 i hi
      have h2 : sm n (fun j => z j * fm p aug2 j i) + z n * fm p aug2 n i = 0 := h
      rw [zn, fB i hi] at h2
      have h3 : sm n (fun j => fm p aug i j * - z j) = - sm n (fun j => z j * fm p aug2 j i) := by
        have : sm n (fun j => fm p aug i j * - z j) = sm n (fun j => (-1 : Fin p) * (z j * fm p aug2 j i)) := sm_congr (fun j hj => by rw [fT i j hi hj]; grind)
        rw [this, sm_mul]; grind
      rw [h3]; grind
end
end Go.Proofs.Ytmbbjmkcbpefhaa.Lin
end

section
set_option linter.unusedVariables false
set_option linter.unusedSimpArgs false
set_option linter.unusedSectionVars false
namespace Go.Proofs.Ytmbbjmkcbpefhaa.F
open Go.RowKit Go.Proofs.YtmbbjmkcbpefhaaW.PrintWords Go.Proofs.YtmbbjmkcbpefhaaW.PrintLast Go.Proofs.Ytmbbjmkcbpefhaa.Lin
theorem turn_row {p : Int} {r c : Nat} (hr : r ≤ 128) (hc : c ≤ 128) {l : List Int} (hl : l.length = r * c) {i : Nat} (hi : i < r) (d : Nat) : ∀ (k j : Nat) (o : List Int), c - j = d → j ≤ c → o.length = c * r → (∀ a b, a < c → b < r → o.getD (a * r + b) 0 = if b < i ∨ (b = i ∧ a < j) then l.getD (b * c + a) 0 else 0) →
    ∃ o', o'.length = c * r ∧ (∀ a b, a < c → b < r → o'.getD (a * r + b) 0 = if b < i + 1 then l.getD (b * c + a) 0 else 0) ∧
    spec_l03Turned.l1 (k + d + 1) i j p r c l p c r o = spec_l03Turned.l0 k ((i + 1 : Nat) : Int) p r c l p c r o' := by
  induction d with
  | zero =>
    intro k j o hd hj ho h
    obtain rfl : j = c := by omega
    refine ⟨o, ho, fun a b ha hb => ?_, ?_⟩
    · rw [h a b ha hb]
      by_cases e : b < i + 1
      · rw [if_pos (by omega), if_pos e]
      · rw [if_neg (by omega), if_neg e]
    · rw [show k + 0 + 1 = k + 1 by omega]
      simp only [spec_l03Turned.l1]
      rw [if_neg (by omega), w64_succ (n := r) hi (by omega)]
  | succ d ih =>
    intro k j o hd hj ho h
    have hj' : j < c := by omega
    have h1 := at_lt hi hj'
    have h2 := at_lt hj' hi
    rw [show k + (d + 1) + 1 = (k + d + 1) + 1 by omega]
    simp only [spec_l03Turned.l1]
    rw [if_pos (by omega), w64_at (r := r) hr hc (by omega) hj, if_pos (by omega), if_pos (by omega), w64_at (r := c) hc hr hj (by omega), if_pos (by omega), if_pos (by omega), w64_succ (n := c) hj' (by omega), rd_nat, Int.toNat_natCast]
    refine ih k (j + 1) _ (by omega) (by omega) (by simp [ho]) (fun a b ha hb => ?_)
    rw [getD_set _ _ _ _ (by omega), h a b ha hb]
    by_cases e : a * r + b = j * r + i
    · have e1 : a = j := by have := (at_div (i := a) hb).1; rw [e, (at_div hi).1] at this; exact this.symm
      have e2 : b = i := by have := (at_div (i := a) hb).2; rw [e, (at_div hi).2] at this; exact this.symm
      subst e1; subst e2
      rw [if_pos rfl, if_pos (by omega)]
    · rw [if_neg e]
      have : (b < i ∨ (b = i ∧ a < j)) ↔ (b < i ∨ (b = i ∧ a < j + 1)) := by
        constructor
        · rintro (h | ⟨h, h'⟩)
          · exact .inl h
          · exact .inr ⟨h, by omega⟩
        · rintro (h | ⟨h, h'⟩)
          · exact .inl h
          · refine .inr ⟨h, ?_⟩
            rcases Nat.lt_or_ge a j with g | g
            · exact g
            · exfalso; apply e; rw [h, show a = j by omega]
      by_cases q : b < i ∨ (b = i ∧ a < j)
      · rw [if_pos q, if_pos (this.mp q)]
      · rw [if_neg q, if_neg (fun z => q (this.mpr z))]
theorem turn_loop {p : Int} {r c : Nat} (hr : r ≤ 128) (hc : c ≤ 128) {l : List Int} (hl : l.length = r * c) (d : Nat) : ∀ (k i : Nat) (o : List Int), r - i = d → i ≤ r → d * (c + 2) < k → o.length = c * r → (∀ a b, a < c → b < r → o.getD (a * r + b) 0 = if b < i then l.getD (b * c + a) 0 else 0) →
    spec_l03Turned.l0 k i p r c l p c r o = some (p, (c : Int), (r : Int), turned r c l) := by
  induction d with
  | zero =>
    intro k i o hd hi hk ho h
    obtain ⟨k, rfl⟩ : ∃ m, k = m + 1 := ⟨k - 1, by omega⟩
    obtain rfl : i = r := by omega
    simp only [spec_l03Turned.l0]
    rw [if_neg (by omega), tab_ext (f := fun i_1 j => l.getD (j * c + i_1) 0) ho (fun a b ha hb => by rw [h a b ha hb, if_pos hb])]
    rfl
  | succ d ih =>
    intro k i o hd hi hk ho h
    rw [Nat.succ_mul] at hk
    obtain ⟨k, rfl⟩ : ∃ m, k = m + c + 1 + 1 := ⟨k - c - 1 - 1, by omega⟩
    simp only [spec_l03Turned.l0]
    rw [if_pos (by omega)]
    obtain ⟨o', ho', h', e⟩ := turn_row (p := p) hr hc hl (show i < r by omega) c k 0 o (by omega) (by omega) ho (fun a b ha hb => by rw [h a b ha hb]; simp)
    rw [show (0 : Int) = ((0 : Nat) : Int) from rfl, e]
    exact ih k (i + 1) o' (by omega) (by omega) (by omega) ho' h'
theorem specTurned_tells (p : Int) {r c : Nat} (hr : r ≤ 128) (hc : c ≤ 128) {l : List Int} (hl : l.length = r * c) {k : Nat} (hk : 17000 ≤ k) : spec_l03Turned.f k p r c l = some (p, (c : Int), (r : Int), turned r c l) := by
  have h2 : r * (c + 2) ≤ 128 * 130 := Nat.mul_le_mul hr (by omega)
  unfold spec_l03Turned.f
  rw [zero_tells hc hr p]
  simp only [Option.bind_some]
  exact turn_loop hr hc hl r k 0 _ (by omega) (by omega) (by omega) (tab_length _ _ _) (fun a b ha hb => by rw [tab_at _ ha hb]; simp)
end Go.Proofs.Ytmbbjmkcbpefhaa.F
end
