-- Texts of this claim, merged by packw.py (a program of this session's).
import Derived.Test.YtbalikebmacldaaGreatDoorQFnMatrices3
import Derived.KernelRfl
import Derived.Test.YtbalikebmacldaaGreatDoorQFnMatrices5
import Derived.Test.YtbalikebmacldaaGreatDoorQFnMatrices4

section
set_option linter.unusedVariables false
set_option linter.unusedSimpArgs false
set_option linter.unusedSectionVars false
namespace Go.Proofs.YtbalikebmacldaaGreatDoor.Lin
def primes251 : List Nat := [2,3,5,7,11,13,17,19,23,29,31,37,41,43,47,53,59,61,67,71,73,79,83,89,97,101,103,107,109,113,127,131,137,139,149,151,157,163,167,173,179,181,191,193,197,199,211,223,227,229,233,239,241,251]
def isP (p : Int) : Bool := decide (2 ≤ p) && decide (p ≤ 251) && decide (p.toNat ∈ primes251)
theorem isP_ge {p : Int} (h : isP p = true) : 2 ≤ p ∧ p ≤ 251 := by unfold isP at h; simp at h; omega
def addRow (p : Int) (a b : List Int) (c : Int) : List Int := List.zipWith (fun x y => (x + c * y) % p) a b
theorem getD_set {α : Type} (l : List α) (k : Nat) (v d : α) (hk : k < l.length) (i : Nat) : (l.set k v).getD i d = if i = k then v else l.getD i d := by
  simp only [List.getD_eq_getElem?_getD, List.getElem?_set]
  by_cases h : k = i
  · subst h; simp [hk]
  · simp [h, Ne.symm h]
theorem addRow_getD {p : Int} {a b : List Int} {c : Int} {j : Nat} (ha : j < a.length) (hb : j < b.length) : (addRow p a b c).getD j 0 = (a.getD j 0 + c * b.getD j 0) % p := by
  unfold addRow
  simp [List.getD_eq_getElem?_getD, List.getElem?_zipWith, List.getElem?_eq_getElem ha, List.getElem?_eq_getElem hb]
end Go.Proofs.YtbalikebmacldaaGreatDoor.Lin
end

section
set_option linter.unusedVariables false
set_option linter.unusedSimpArgs false
set_option linter.unusedSectionVars false
namespace Go.Proofs.YtbalikebmacldaaGreatDoor.F
open Go.RowKit Go.Proofs.YtbalikebmacldaaGreatDoorW.PrintWords Go.Proofs.YtbalikebmacldaaGreatDoorW.PrintLast Go.Proofs.YtbalikebmacldaaGreatDoor.Lin
theorem w64_idV {x : Int} (h0 : -9223372036854775808 ≤ x) (h1 : x ≤ 9223372036854775807) : wrap64 x = x := by unfold wrap64; omega
theorem w64_succ {i n : Nat} (h : i < n) (hn : n ≤ 35184372088832) : wrap64 ((i : Int) + 1) = ((i + 1 : Nat) : Int) := by
  rw [w64_idV (x := (i : Int) + 1) (by omega) (by omega)]; omega
theorem rd_nat (l : List Int) (i : Nat) : rd l (i : Int) = l.getD i 0 := by unfold rd; rw [Int.toNat_natCast]
theorem getD_at {α : Type} {l : List α} {i : Nat} {d : α} (h : i < l.length) : l.getD i d = l[i] := by simp [List.getD_eq_getElem?_getD, h]
theorem ext_getD {l m : List Int} (hl : l.length = m.length) (h : ∀ j, j < l.length → l.getD j 0 = m.getD j 0) : l = m := by
  refine List.ext_getElem hl (fun j h1 h2 => ?_)
  have := h j h1
  rwa [getD_at h1, getD_at h2] at this
def iota (m : Int) (n : Nat) : List Int := (List.range n).map (fun j : Nat => m + (j : Int))
theorem w64_id {x : Int} (h0 : -9223372036854775808 ≤ x) (h1 : x ≤ 9223372036854775807) : wrap64 x = x := by unfold wrap64; omega
theorem same_in : impl_within.f = impl_within.f := rfl
theorem in_tells (n lo hi : Int) : impl_within.f n lo hi = some (decide (lo ≤ n ∧ n ≤ hi)) := by
  unfold impl_within.f
  by_cases h : n ≥ lo
  · have : lo ≤ n := h
    simp [this]
  · have : ¬ lo ≤ n := h
    simp [this]
theorem ask_prime : impl_ValidPrime.f = impl_ValidPrime.f := by kernel_rfl
theorem prime_small : ∀ n, n < 252 → impl_ValidPrime.f 20 (n : Nat) = some (isP n) := by decide +kernel
theorem prime_at (p : Int) : impl_ValidPrime.f 20 p = some (isP p) := by
  by_cases h : 2 ≤ p ∧ p ≤ 251
  · obtain ⟨n, rfl⟩ := Int.eq_ofNat_of_zero_le (show 0 ≤ p by omega)
    exact prime_small n (by omega)
  · have : isP p = false := by unfold isP; simp; omega
    rw [this]
    unfold impl_ValidPrime.f impl_within.f
    by_cases h1 : p ≥ 2
    · have : ¬ p ≤ 251 := by omega
      simp [h1, this]
    · simp [h1]
theorem prime_tells (p : Int) {k : Nat} (hk : 20 ≤ k) : impl_ValidPrime.f k p = some (isP p) := at_rounds (impl_ValidPrime.mono p) hk (prime_at p)
def tab (r c : Nat) (f : Nat → Nat → Int) : List Int := (List.range (r * c)).map fun x => f (x / c) (x % c)
theorem lt_nat {i n : Nat} (h : i < n) : (i : Int) < (n : Int) := Int.ofNat_lt.mpr h
theorem nlt_nat {i n : Nat} (h : n ≤ i) : ¬ (i : Int) < (n : Int) := by omega
theorem idx0 (n : Nat) : (0 : Int) ≤ ((n : Nat) : Int) := Int.natCast_nonneg n
theorem tab_length (r c : Nat) (f) : (tab r c f).length = r * c := by unfold tab; simp
theorem at_div {c i j : Nat} (h : j < c) : (i * c + j) / c = i ∧ (i * c + j) % c = j := by
  rw [Nat.mul_comm]
  exact ⟨by rw [Nat.mul_add_div (by omega), Nat.div_eq_of_lt h]; omega, by rw [Nat.mul_add_mod, Nat.mod_eq_of_lt h]⟩
theorem at_lt {r c i j : Nat} (hi : i < r) (hj : j < c) : i * c + j < r * c := by
  have : (i + 1) * c ≤ r * c := Nat.mul_le_mul_right _ hi
  rw [Nat.succ_mul] at this
  omega
theorem tab_getD {r c : Nat} (f) {x : Nat} (h : x < r * c) : (tab r c f).getD x 0 = f (x / c) (x % c) := by
  unfold tab; simp [List.getD_eq_getElem?_getD, h]
theorem tab_at {r c i j : Nat} (f) (hi : i < r) (hj : j < c) : (tab r c f).getD (i * c + j) 0 = f i j := by
  rw [tab_getD f (at_lt hi hj), (at_div hj).1, (at_div hj).2]
theorem split_at {r c x : Nat} (h : x < r * c) : x / c < r ∧ x % c < c ∧ x / c * c + x % c = x := by
  have hc : 0 < c := by rcases Nat.eq_zero_or_pos c with e | e; · subst e; simp at h
                        · exact e
  exact ⟨Nat.div_lt_of_lt_mul (by rw [Nat.mul_comm]; exact h), Nat.mod_lt _ hc, Nat.div_add_mod' x c⟩
theorem tab_ext {r c : Nat} {f} {l : List Int} (hl : l.length = r * c) (h : ∀ i j, i < r → j < c → l.getD (i * c + j) 0 = f i j) : l = tab r c f := by
  refine ext_getD (by rw [hl, tab_length]) (fun x hx => ?_)
  rw [hl] at hx
  obtain ⟨h1, h2, h3⟩ := split_at hx
  have := h _ _ h1 h2
  rw [h3] at this
  rw [this, tab_getD f hx]
theorem tab_congr {r c : Nat} {f g : Nat → Nat → Int} (h : ∀ i j, i < r → j < c → f i j = g i j) : tab r c f = tab r c g :=
  tab_ext (tab_length r c f) (fun i j hi hj => by rw [tab_at f hi hj, h i j hi hj])
theorem side_mul {r c : Nat} (hr : r ≤ 128) (hc : c ≤ 128) : r * c ≤ 16384 := Nat.mul_le_mul hr hc
theorem w64_at {r c i j : Nat} (hr : r ≤ 128) (hc : c ≤ 128) (hi : i ≤ r) (hj : j ≤ c) : wrap64 (wrap64 ((i : Int) * (c : Int)) + (j : Int)) = ((i * c + j : Nat) : Int) := by
  have h := side_mul (Nat.le_trans hi hr) hc
  have e : (i : Int) * (c : Int) = ((i * c : Nat) : Int) := by push_cast; rfl
  rw [e, w64_id (x := ((i * c : Nat) : Int)) (by omega) (by omega), w64_id (x := ((i * c : Nat) : Int) + (j : Int)) (by omega) (by omega)]
  push_cast; rfl
theorem w64_mulN {r c : Nat} (hr : r ≤ 128) (hc : c ≤ 128) : wrap64 ((r : Int) * (c : Int)) = ((r * c : Nat) : Int) := by
  have h := side_mul hr hc
  have e : (r : Int) * (c : Int) = ((r * c : Nat) : Int) := by push_cast; rfl
  rw [e, w64_id (x := ((r * c : Nat) : Int)) (by omega) (by omega)]
theorem side_tells (n : Int) : impl_isSide.f n = some (decide (0 ≤ n ∧ n ≤ 32)) := by
  unfold impl_isSide.f
  rw [same_in, in_tells]; rfl
def allM (l : List Int) (p : Int) : Bool := l.all fun x => decide (0 ≤ x) && decide (x < p)
theorem allM_iff {l : List Int} {p : Int} : allM l p = true ↔ ∀ x, x ∈ l → 0 ≤ x ∧ x < p := by unfold allM; simp
theorem areM_tells {l : List Int} {p : Int} (hp : isP p = true) : impl_areElements.f l p = some (allM l p) := by
  have := isP_ge hp
  unfold impl_areElements.f allM
  rw [w64_id (x := p - 1) (by omega) (by omega)]
  congr 1
  induction l with
  | nil => rfl
  | cons x l ih =>
    simp only [List.any_cons, List.all_cons, Bool.not_or, Bool.not_not]
    rw [ih]
    congr 2
    rw [decide_eq_decide]; omega
theorem getD_inM {l : List Int} {p : Int} (hp : 2 ≤ p) (h : ∀ x, x ∈ l → 0 ≤ x ∧ x < p) (j : Nat) : 0 ≤ l.getD j 0 ∧ l.getD j 0 < p := by
  by_cases hj : j < l.length
  · rw [getD_at hj]; exact h _ (List.getElem_mem hj)
  · rw [List.getD_eq_getElem?_getD, List.getElem?_eq_none (by omega)]; simp; omega
def matOk (p r c : Int) (l : List Int) : Bool := isP p && (decide (0 ≤ r ∧ r ≤ 32) && (decide (0 ≤ c ∧ c ≤ 32) && (decide ((l.length : Int) = r * c) && allM l p)))
theorem matOk_iff {p r c : Int} {l : List Int} : matOk p r c l = true ↔ isP p = true ∧ (0 ≤ r ∧ r ≤ 32) ∧ (0 ≤ c ∧ c ≤ 32) ∧ (l.length : Int) = r * c ∧ ∀ x, x ∈ l → 0 ≤ x ∧ x < p := by
  unfold matOk; simp only [Bool.and_eq_true, decide_eq_true_eq, allM_iff]
theorem side_mulI {r c : Int} (hr : 0 ≤ r ∧ r ≤ 32) (hc : 0 ≤ c ∧ c ≤ 32) : wrap64 (r * c) = r * c ∧ 0 ≤ r * c ∧ r * c ≤ 1024 := by
  have h1 := Int.mul_nonneg hr.1 hc.1
  have h2 : r * c ≤ 32 * 32 := Int.mul_le_mul hr.2 hc.2 hc.1 (by omega)
  exact ⟨w64_id (by omega) (by omega), h1, by omega⟩
theorem implOk_tells (p r c : Int) {l : List Int} {k : Nat} (hk : 20 ≤ k) : impl_ValidMatrix.f k p r c l = some (matOk p r c l) := by
  unfold impl_ValidMatrix.f matOk
  rw [ask_prime, prime_tells p hk]
  cases hp : isP p with
  | false => simp
  | true =>
    have hp2 := isP_ge hp
    rw [side_tells, side_tells, areM_tells hp]
    by_cases h1 : 0 ≤ r ∧ r ≤ 32
    · by_cases h2 : 0 ≤ c ∧ c ≤ 32
      · rw [(side_mulI h1 h2).1]
        unfold impl_size_int64.f
        simp only [h1, h2, and_self, decide_true, Option.bind_some, if_true, Bool.true_and]
        by_cases h3 : (l.length : Int) = r * c
        · simp [h3]
        · simp [h3]
      · simp only [h1, h2, and_self, decide_true, decide_false, Option.bind_some, if_true, Bool.true_and, Bool.false_and]; rfl
    · simp only [h1, decide_false, Option.bind_some, if_true, Bool.true_and, Bool.false_and]; rfl
theorem mul_small {p x y : Int} (hp : 2 ≤ p) (hp' : p ≤ 251) (hx : 0 ≤ x) (hx' : x ≤ 251) (hy : 0 ≤ y) (hy' : y < p) : 0 ≤ x * y ∧ x * y ≤ 63001 := by
  have g1 := Int.mul_nonneg hx hy
  have g2 : x * y ≤ 251 * 251 := Int.mul_le_mul hx' (by omega) hy (by omega)
  omega
theorem dimsM {p r c : Int} {l : List Int} (h : matOk p r c l = true) : ∃ R C : Nat, r = R ∧ c = C ∧ R ≤ 32 ∧ C ≤ 32 ∧ l.length = R * C ∧ (2 ≤ p ∧ p ≤ 251) ∧ ∀ j, 0 ≤ l.getD j 0 ∧ l.getD j 0 < p := by
  obtain ⟨hp, hr, hc, hl, hx⟩ := matOk_iff.mp h
  obtain ⟨R, rfl⟩ := Int.eq_ofNat_of_zero_le hr.1
  obtain ⟨C, rfl⟩ := Int.eq_ofNat_of_zero_le hc.1
  exact ⟨R, C, rfl, rfl, by omega, by omega, by exact_mod_cast hl, isP_ge hp, fun j => getD_inM (isP_ge hp).1 hx j⟩
end Go.Proofs.YtbalikebmacldaaGreatDoor.F
end

section
set_option linter.unusedVariables false
set_option linter.unusedSimpArgs false
set_option linter.unusedSectionVars false
namespace Go.Proofs.YtbalikebmacldaaGreatDoor.Lin
def pinv (p a : Int) : Int := a ^ (p - 2).toNat % p
theorem pinv_range {p a : Int} (hp : isP p = true) : 0 ≤ pinv p a ∧ pinv p a < p := by
  have hp2 := isP_ge hp
  exact ⟨Int.emod_nonneg _ (by omega), Int.emod_lt_of_pos _ (by omega)⟩
/-! ### Rows as lists -/
def RowOk (p : Int) (n : Nat) (r : List Int) : Prop := r.length = n ∧ ∀ x, x ∈ r → 0 ≤ x ∧ x < p
def RowsOk (p : Int) (n : Nat) (rows : List (List Int)) : Prop := ∀ r, r ∈ rows → RowOk p n r
def cell (rows : List (List Int)) (i j : Nat) : Int := (rows.getD i []).getD j 0
theorem RowsOk.cell {p : Int} {n : Nat} {rows : List (List Int)} (h : RowsOk p n rows) (hp : 0 < p) (i j : Nat) : 0 ≤ cell rows i j ∧ cell rows i j < p := by
  unfold Lin.cell
  rw [List.getD_eq_getElem?_getD, List.getD_eq_getElem?_getD]
  by_cases hi : i < rows.length
  · rw [List.getElem?_eq_getElem hi]
    simp only [Option.getD_some]
    by_cases hj : j < (rows[i]).length
    · rw [List.getElem?_eq_getElem hj]
      exact (h _ (List.getElem_mem hi)).2 _ (List.getElem_mem hj)
    · rw [List.getElem?_eq_none (by omega)]; exact ⟨Int.le_refl 0, hp⟩
  · rw [List.getElem?_eq_none (show rows.length ≤ i by omega)]; simp; omega
def findPivot (rows : List (List Int)) (top c : Nat) : Option Nat := (rows.drop top).findIdx? (fun r => decide (r.getD c 0 ≠ 0))
def swapRows (rows : List (List Int)) (a b : Nat) : List (List Int) := (rows.set a (rows.getD b [])).set b (rows.getD a [])
def clearRow (p : Int) (c : Nat) (q r : List Int) : List Int := if r.getD c 0 = 0 then r else addRow p r q (p - r.getD c 0)
def clearAll (p : Int) (c top : Nat) (q : List Int) (rows : List (List Int)) : List (List Int) := rows.mapIdx (fun i r => if i = top then r else clearRow p c q r)
def elimStep (p : Int) (s : List (List Int) × List Int × Int) (c : Nat) : List (List Int) × List Int × Int :=
  match findPivot s.1 s.2.1.length c with
  | none => (s.1, s.2.1, 0)
  | some k =>
    let top := s.2.1.length
    let rows := if k = 0 then s.1 else swapRows s.1 top (top + k)
    let lead := cell rows top c
    let q := (rows.getD top []).map (fun x => pinv p lead * x % p)
    (clearAll p c top q (rows.set top q), s.2.1 ++ [(c : Int)], (if k = 0 then s.2.2 else -s.2.2 % p) * lead % p)
def elimTo (p : Int) (rows : List (List Int)) (c : Nat) : List (List Int) × List Int × Int := (List.range c).foldl (elimStep p) (rows, [], 1)
theorem elimTo_succ (p : Int) (rows : List (List Int)) (c : Nat) : elimTo p rows (c + 1) = elimStep p (elimTo p rows c) c := by
  unfold elimTo; rw [List.range_succ, List.foldl_append]; rfl
def elim (p : Int) (n : Nat) (rows : List (List Int)) : List (List Int) × List Int × Int := elimTo p rows n
theorem swapRows_length (rows : List (List Int)) (a b : Nat) : (swapRows rows a b).length = rows.length := by unfold swapRows; simp
theorem clearAll_length (p : Int) (c top : Nat) (q : List Int) (rows : List (List Int)) : (clearAll p c top q rows).length = rows.length := by unfold clearAll; simp
theorem swapRows_get (rows : List (List Int)) {a b : Nat} (ha : a < rows.length) (hb : b < rows.length) (i : Nat) : (swapRows rows a b).getD i [] = if i = b then rows.getD a [] else if i = a then rows.getD b [] else rows.getD i [] := by
  unfold swapRows
  simp only [List.getD_eq_getElem?_getD, List.getElem?_set, List.length_set]
  by_cases h1 : b = i
  · subst h1; simp [hb]
  · by_cases h2 : a = i
    · subst h2; simp [h1, ha, Ne.symm h1]
    · simp [h1, h2, Ne.symm h1, Ne.symm h2]
theorem getD_mem {α : Type} {l : List α} {i : Nat} {d : α} (h : i < l.length) : l.getD i d ∈ l := by
  rw [List.getD_eq_getElem?_getD, List.getElem?_eq_getElem h]; exact List.getElem_mem h
theorem findPivot_some {rows : List (List Int)} {top c k : Nat} (h : findPivot rows top c = some k) : top + k < rows.length ∧ cell rows (top + k) c ≠ 0 := by
  unfold findPivot at h
  obtain ⟨hk, hp, _⟩ := List.findIdx?_eq_some_iff_getElem.mp h
  rw [List.length_drop] at hk
  refine ⟨by omega, ?_⟩
  rw [List.getElem_drop] at hp
  unfold cell
  rw [List.getD_eq_getElem?_getD (l := rows), List.getElem?_eq_getElem (show top + k < rows.length by omega)]
  simpa using hp
theorem findPivot_none {rows : List (List Int)} {top c : Nat} (h : findPivot rows top c = none) (i : Nat) (h1 : top ≤ i) (h2 : i < rows.length) : cell rows i c = 0 := by
  unfold findPivot at h
  have h3 := List.findIdx?_eq_none_iff.mp h (rows[i]) (by
    rw [List.mem_iff_getElem]
    exact ⟨i - top, by rw [List.length_drop]; omega, by rw [List.getElem_drop]; congr 1; omega⟩)
  unfold cell
  rw [List.getD_eq_getElem?_getD (l := rows), List.getElem?_eq_getElem h2]
  simpa using h3
theorem addRow_ok {p : Int} {n : Nat} {a b : List Int} (c : Int) (hp : 0 < p) (ha : a.length = n) (hb : b.length = n) : RowOk p n (addRow p a b c) := by
  refine ⟨by unfold addRow; simp [ha, hb], fun x hx => ?_⟩
  unfold addRow at hx
  rw [List.mem_iff_getElem] at hx
  obtain ⟨j, hj, rfl⟩ := hx
  rw [List.getElem_zipWith]
  exact ⟨Int.emod_nonneg _ (by omega), Int.emod_lt_of_pos _ hp⟩
theorem scale_ok {p : Int} {n : Nat} {a : List Int} (c : Int) (hp : 0 < p) (ha : a.length = n) : RowOk p n (a.map (fun x => c * x % p)) := by
  refine ⟨by simp [ha], fun x hx => ?_⟩
  obtain ⟨y, _, rfl⟩ := List.mem_map.mp hx
  exact ⟨Int.emod_nonneg _ (by omega), Int.emod_lt_of_pos _ hp⟩
theorem RowsOk.set {p : Int} {n : Nat} {rows : List (List Int)} (h : RowsOk p n rows) {r : List Int} (hr : RowOk p n r) (k : Nat) : RowsOk p n (rows.set k r) := fun x hx => by
  rcases List.mem_or_eq_of_mem_set hx with h1 | h1
  · exact h x h1
  · rw [h1]; exact hr
theorem RowsOk.swap {p : Int} {n : Nat} {rows : List (List Int)} (h : RowsOk p n rows) {a b : Nat} (ha : a < rows.length) (hb : b < rows.length) : RowsOk p n (swapRows rows a b) :=
  (h.set (h _ (getD_mem hb)) a).set (h _ (getD_mem ha)) b
theorem clearRow_ok {p : Int} {n : Nat} {q r : List Int} (c : Nat) (hp : 0 < p) (hq : q.length = n) (hr : RowOk p n r) : RowOk p n (clearRow p c q r) := by
  unfold clearRow
  split
  · exact hr
  · exact addRow_ok _ hp hr.1 hq
theorem RowsOk.clear {p : Int} {n : Nat} {rows : List (List Int)} (h : RowsOk p n rows) (hp : 0 < p) {q : List Int} (hq : q.length = n) (c top : Nat) : RowsOk p n (clearAll p c top q rows) := fun x hx => by
  unfold clearAll at hx
  obtain ⟨i, hi, rfl⟩ := List.mem_mapIdx.mp hx
  split
  · exact h _ (List.getElem_mem hi)
  · exact clearRow_ok c hp hq (h _ (List.getElem_mem hi))
theorem clearAll_get {p : Int} {c top : Nat} {q : List Int} {rows : List (List Int)} {i : Nat} (hi : i < rows.length) : (clearAll p c top q rows).getD i [] = if i = top then rows.getD i [] else clearRow p c q (rows.getD i []) := by
  unfold clearAll
  simp only [List.getD_eq_getElem?_getD, List.getElem?_mapIdx, List.getElem?_eq_getElem hi, Option.map_some, Option.getD_some]
theorem elimStep_none {p : Int} {c : Nat} {rows : List (List Int)} {piv : List Int} {d : Int} (h : findPivot rows piv.length c = none) : elimStep p (rows, piv, d) c = (rows, piv, 0) := by
  unfold elimStep
  dsimp only
  rw [h]
theorem elimTo_small {p : Int} {n : Nat} {rows : List (List Int)} (hp : isP p = true) (hok : RowsOk p n rows) (c : Nat) (hc : c ≤ n) :
    RowsOk p n (elimTo p rows c).1 ∧ (elimTo p rows c).1.length = rows.length ∧ (elimTo p rows c).2.1.length ≤ c ∧ (elimTo p rows c).2.1.length ≤ rows.length ∧ (0 ≤ (elimTo p rows c).2.2 ∧ (elimTo p rows c).2.2 < p) ∧ ((elimTo p rows c).2.1.length < c → (elimTo p rows c).2.2 = 0) := by
  have hp2 := isP_ge hp
  induction c with
  | zero => exact ⟨hok, rfl, Nat.le_refl _, Nat.zero_le _, ⟨by show (0:Int) ≤ 1; omega, by show (1:Int) < p; omega⟩, fun h => absurd h (Nat.not_lt_zero _)⟩
  | succ c ih =>
    obtain ⟨h1, h2, h3, h4, h5, h6⟩ := ih (by omega)
    rw [elimTo_succ]
    generalize elimTo p rows c = s at *
    obtain ⟨R, piv, d⟩ := s
    dsimp only at *
    cases hf : findPivot R piv.length c with
    | none =>
      rw [elimStep_none hf]
      exact ⟨h1, h2, Nat.le_succ_of_le h3, h4, ⟨Int.le_refl 0, by show (0:Int) < p; omega⟩, fun _ => rfl⟩
    | some k =>
      obtain ⟨b1, b2⟩ := findPivot_some hf
      have hst : elimStep p (R, piv, d) c = (clearAll p c piv.length (((if k = 0 then R else swapRows R piv.length (piv.length + k)).getD piv.length []).map (fun x => pinv p (cell (if k = 0 then R else swapRows R piv.length (piv.length + k)) piv.length c) * x % p)) ((if k = 0 then R else swapRows R piv.length (piv.length + k)).set piv.length (((if k = 0 then R else swapRows R piv.length (piv.length + k)).getD piv.length []).map (fun x => pinv p (cell (if k = 0 then R else swapRows R piv.length (piv.length + k)) piv.length c) * x % p))), piv ++ [(c : Int)], (if k = 0 then d else -d % p) * cell (if k = 0 then R else swapRows R piv.length (piv.length + k)) piv.length c % p) := by
        unfold elimStep; simp only [hf]
      rw [hst]
      have hW : RowsOk p n (if k = 0 then R else swapRows R piv.length (piv.length + k)) ∧ (if k = 0 then R else swapRows R piv.length (piv.length + k)).length = R.length := by
        by_cases e : k = 0
        · rw [if_pos e]; exact ⟨h1, rfl⟩
        · rw [if_neg e]; exact ⟨RowsOk.swap h1 (by omega) b1, swapRows_length _ _ _⟩
      have hz : (if k = 0 then d else -d % p) = 0 ∨ ¬ piv.length < c := by
        by_cases e : piv.length < c
        · left; rw [h6 e]; simp
        · exact .inr e
      generalize (if k = 0 then R else swapRows R piv.length (piv.length + k)) = W at hW ⊢
      generalize (if k = 0 then d else -d % p) = e at hz ⊢
      have okT : RowOk p n (W.getD piv.length []) := hW.1 _ (getD_mem (by omega))
      have hq : RowOk p n ((W.getD piv.length []).map (fun x => pinv p (cell W piv.length c) * x % p)) := scale_ok _ (by omega) okT.1
      refine ⟨RowsOk.clear (RowsOk.set hW.1 hq _) (by omega) hq.1 c _, ?_, ?_, ?_, ⟨Int.emod_nonneg _ (by omega), Int.emod_lt_of_pos _ (by omega)⟩, fun h => ?_⟩
      · rw [clearAll_length, List.length_set]; omega
      · simp; omega
      · simp; omega
      · rcases hz with hz | hz
        · show e * _ % p = 0
          rw [hz]; simp
        · exfalso; simp at h; omega
end Go.Proofs.YtbalikebmacldaaGreatDoor.Lin
end

section
set_option linter.unusedVariables false
set_option linter.unusedSimpArgs false
set_option linter.unusedSectionVars false
namespace Go.Proofs.YtbalikebmacldaaGreatDoor.F
open Go.RowKit Go.Proofs.YtbalikebmacldaaGreatDoorW.PrintWords Go.Proofs.YtbalikebmacldaaGreatDoorW.PrintLast Go.Proofs.YtbalikebmacldaaGreatDoor.Lin
theorem matOk_of {p : Int} (hp : isP p = true) {R C : Nat} (hR : R ≤ 32) (hC : C ≤ 32) {l : List Int} (hl : l.length = R * C) (hv : ∀ j, 0 ≤ l.getD j 0 ∧ l.getD j 0 < p) : matOk p R C l = true := by
  refine matOk_iff.mpr ⟨hp, ⟨by omega, by omega⟩, ⟨by omega, by omega⟩, by rw [hl]; push_cast; rfl, fun x hx => ?_⟩
  obtain ⟨i, hi, rfl⟩ := List.mem_iff_getElem.mp hx
  have := hv i
  rwa [getD_at hi] at this
theorem okTab {p : Int} (hp : 2 ≤ p) {r c : Nat} {f : Nat → Nat → Int} (hf : ∀ i j, i < r → j < c → 0 ≤ f i j ∧ f i j < p) (j : Nat) : 0 ≤ (tab r c f).getD j 0 ∧ (tab r c f).getD j 0 < p := by
  by_cases hj : j < r * c
  · obtain ⟨a, b, _⟩ := split_at hj
    rw [tab_getD _ hj]; exact hf _ _ a b
  · rw [List.getD_eq_getElem?_getD, List.getElem?_eq_none (by rw [tab_length]; omega)]
    simp; omega
end Go.Proofs.YtbalikebmacldaaGreatDoor.F
end

section
set_option linter.unusedVariables false
set_option linter.unusedSimpArgs false
set_option linter.unusedSectionVars false
namespace Go.Proofs.YtbalikebmacldaaGreatDoor.Lin
def sm {p : Nat} [NeZero p] (n : Nat) (f : Nat → Fin p) : Fin p := match n with | 0 => 0 | n+1 => sm n f + f n
section
variable {p : Nat} [NeZero p]
theorem sm_congr {n : Nat} {f g : Nat → Fin p} (h : ∀ i, i < n → f i = g i) : sm n f = sm n g := by
  induction n with
  | zero => rfl
  | succ n ih =>
    simp only [sm]
    rw [ih (fun i hi => h i (by omega)), h n (by omega)]
theorem sm_zero {n : Nat} {f : Nat → Fin p} (h : ∀ i, i < n → f i = 0) : sm n f = 0 := by
  induction n with
  | zero => rfl
  | succ n ih =>
    simp only [sm]
    rw [ih (fun i hi => h i (by omega)), h n (by omega)]
    grind
theorem sm_add (n : Nat) (f g : Nat → Fin p) : sm n (fun i => f i + g i) = sm n f + sm n g := by
  induction n with
  | zero => simp [sm]
  | succ n ih => simp only [sm, ih]; grind
theorem sm_mul (n : Nat) (f : Nat → Fin p) (c : Fin p) : sm n (fun i => c * f i) = c * sm n f := by
  induction n with
  | zero => simp only [sm]; grind
  | succ n ih => simp only [sm, ih]; grind
theorem sm_mul_r (n : Nat) (f : Nat → Fin p) (c : Fin p) : sm n (fun i => f i * c) = sm n f * c := by
  induction n with
  | zero => simp only [sm]; grind
  | succ n ih => simp only [sm, ih]; grind
theorem sm_comm (n m : Nat) (f : Nat → Nat → Fin p) : sm n (fun i => sm m (fun j => f i j)) = sm m (fun j => sm n (fun i => f i j)) := by
  induction n with
  | zero => simp only [sm]; exact (sm_zero (fun _ _ => rfl)).symm
  | succ n ih => simp only [sm, ih]; rw [← sm_add]
theorem sm_one {n : Nat} {f : Nat → Fin p} (k : Nat) (hk : k < n) (h : ∀ i, i < n → i ≠ k → f i = 0) : sm n f = f k := by
  induction n with
  | zero => omega
  | succ n ih =>
    simp only [sm]
    by_cases e : k = n
    · subst e
      rw [sm_zero (fun i hi => h i (by omega) (by omega))]; grind
    · rw [ih (by omega) (fun i hi hne => h i (by omega) hne), h n (by omega) (by omega)]; grind
theorem sm_cut {n r : Nat} {f : Nat → Fin p} (hr : r ≤ n) (h : ∀ i, r ≤ i → i < n → f i = 0) : sm n f = sm r f := by
  induction n with
  | zero => obtain rfl : r = 0 := by omega
            rfl
  | succ n ih =>
    by_cases e : r = n + 1
    · rw [e]
    · simp only [sm]
      rw [ih (by omega) (fun i h1 h2 => h i h1 (by omega)), h n (by omega) (by omega)]; grind
def skip (k i : Nat) : Nat := if i < k then i else i + 1
theorem sm_skip {n : Nat} {f : Nat → Fin p} (k : Nat) (hk : k < n + 1) : sm (n + 1) f = f k + sm n (fun i => f (skip k i)) := by
  induction n with
  | zero => obtain rfl : k = 0 := by omega
            simp only [sm]; grind
  | succ n ih =>
    by_cases e : k = n + 1
    · subst e
      have h : sm (n + 1) (fun i => f (skip (n + 1) i)) = sm (n + 1) f := sm_congr (fun i hi => by unfold skip; rw [if_pos hi])
      rw [h]
      show sm (n + 1) f + f (n + 1) = _
      grind
    · have h1 : sm (n + 1 + 1) f = sm (n + 1) f + f (n + 1) := rfl
      have h2 : sm (n + 1) (fun i => f (skip k i)) = sm n (fun i => f (skip k i)) + f (skip k n) := rfl
      rw [h1, h2, ih (by omega)]
      have h3 : skip k n = n + 1 := by unfold skip; rw [if_neg (by omega)]
      rw [h3]; grind
/-! ### Spans -/
def Sp (n m : Nat) (A : Nat → Nat → Fin p) (v : Nat → Fin p) : Prop := ∃ c : Nat → Fin p, ∀ j, j < n → v j = sm m (fun i => c i * A i j)
theorem Sp.row {n m : Nat} {A : Nat → Nat → Fin p} {i : Nat} (hi : i < m) : Sp n m A (A i) :=
  ⟨fun k => if k = i then 1 else 0, fun j _ => by
    rw [sm_one i hi (fun k _ hk => by dsimp only; rw [if_neg hk]; grind)]; dsimp only; rw [if_pos rfl]; grind⟩
theorem Sp.trans {n m m' : Nat} {A B : Nat → Nat → Fin p} {v : Nat → Fin p} (h : Sp n m A v) (hB : ∀ i, i < m → Sp n m' B (A i)) : Sp n m' B v := by
  obtain ⟨c, hc⟩ := h
  have : ∀ i, ∃ d : Nat → Fin p, i < m → ∀ j, j < n → A i j = sm m' (fun k => d k * B k j) := fun i => by
    by_cases hi : i < m
    · obtain ⟨d, hd⟩ := hB i hi
      exact ⟨d, fun _ => hd⟩
    · exact ⟨fun _ => 0, fun h => absurd h hi⟩
  obtain ⟨d, hd⟩ := Classical.axiomOfChoice this
  refine ⟨fun k => sm m (fun i => c i * d i k), fun j hj => ?_⟩
  rw [hc j hj]
  have e1 : sm m (fun i => c i * A i j) = sm m (fun i => sm m' (fun k => c i * (d i k * B k j))) := sm_congr (fun i hi => by rw [hd i hi j hj, sm_mul])
  rw [e1, sm_comm]
  exact sm_congr (fun k _ => by rw [← sm_mul_r]; exact sm_congr (fun i _ => by grind))
theorem Sp.congr {n m : Nat} {A : Nat → Nat → Fin p} {v u : Nat → Fin p} (h : Sp n m A v) (e : ∀ j, j < n → u j = v j) : Sp n m A u := by
  obtain ⟨c, hc⟩ := h
  exact ⟨c, fun j hj => by rw [e j hj]; exact hc j hj⟩
theorem Sp.zero {n m : Nat} {A : Nat → Nat → Fin p} {v : Nat → Fin p} (h : ∀ j, j < n → v j = 0) : Sp n m A v :=
  ⟨fun _ => 0, fun j hj => by rw [h j hj, sm_zero (fun i _ => by grind)]⟩
theorem Sp.add {n m : Nat} {A : Nat → Nat → Fin p} {v u : Nat → Fin p} (h : Sp n m A v) (k : Sp n m A u) : Sp n m A (fun j => v j + u j) := by
  obtain ⟨c, hc⟩ := h
  obtain ⟨d, hd⟩ := k
  refine ⟨fun i => c i + d i, fun j hj => ?_⟩
  show v j + u j = _
  rw [hc j hj, hd j hj, ← sm_add]
  exact sm_congr (fun i _ => by grind)
theorem Sp.mul {n m : Nat} {A : Nat → Nat → Fin p} {v : Nat → Fin p} (a : Fin p) (h : Sp n m A v) : Sp n m A (fun j => a * v j) := by
  obtain ⟨c, hc⟩ := h
  refine ⟨fun i => a * c i, fun j hj => ?_⟩
  show a * v j = _
  rw [hc j hj, ← sm_mul]
  exact sm_congr (fun i _ => by grind)
/-! ### Reduced forms -/
structure Rref (n m : Nat) (A : Nat → Nat → Fin p) (r : Nat) (P : Nat → Nat) : Prop where
  le : r ≤ m
  lt : ∀ i, i < r → P i < n
  inc : ∀ i k, i < k → k < r → P i < P k
  one : ∀ i, i < r → A i (P i) = 1
  col : ∀ i k, i < r → k < m → k ≠ i → A k (P i) = 0
  before : ∀ i j, i < r → j < P i → A i j = 0
  rest : ∀ i j, r ≤ i → i < m → j < n → A i j = 0
theorem Rref.coeff {n m r : Nat} {A : Nat → Nat → Fin p} {P : Nat → Nat} (h : Rref n m A r P) {v c : Nat → Fin p} (hc : ∀ j, j < n → v j = sm m (fun i => c i * A i j)) {i : Nat} (hi : i < r) : v (P i) = c i := by
  rw [hc _ (h.lt i hi), sm_one i (by have := h.le; omega) (fun k hk hne => by rw [h.col i k hi hk hne]; grind), h.one i hi]; grind
theorem Rref.as_sum {n m r : Nat} {A : Nat → Nat → Fin p} {P : Nat → Nat} (h : Rref n m A r P) {v : Nat → Fin p} (hv : Sp n m A v) (j : Nat) (hj : j < n) : v j = sm r (fun i => v (P i) * A i j) := by
  obtain ⟨c, hc⟩ := hv
  rw [hc j hj, sm_cut h.le (fun i h1 h2 => by rw [h.rest i j h1 h2 hj]; grind)]
  exact sm_congr (fun i hi => by rw [h.coeff hc hi])
theorem Rref.lead {n m r : Nat} {A : Nat → Nat → Fin p} {P : Nat → Nat} (h : Rref n m A r P) {v : Nat → Fin p} (hv : Sp n m A v) {k : Nat} (hk : k < n) (h0 : ∀ j, j < k → v j = 0) (h1 : v k ≠ 0) : ∃ i, i < r ∧ P i = k := by
  by_cases hx : ∃ i, i < r ∧ P i = k
  · exact hx
  · exfalso
    apply h1
    rw [h.as_sum hv k hk]
    refine sm_zero (fun i hi => ?_)
    rcases Nat.lt_trichotomy (P i) k with hlt | heq | hgt
    · rw [h0 _ hlt]; grind
    · exact absurd ⟨i, hi, heq⟩ hx
    · rw [h.before i k hi hgt]; grind
theorem Rref.begins {n m r : Nat} {A : Nat → Nat → Fin p} {P : Nat → Nat} (h : Rref n m A r P) (h10 : (1 : Fin p) ≠ 0) (i : Nat) (hi : i < r) : A i (P i) ≠ 0 := by rw [h.one i hi]; exact h10
/-! ### More unknowns than equations -/
end
section
variable {p : Nat} [NeZero p]
theorem skip_ne' (k i : Nat) : skip k i ≠ k := by unfold skip; split <;> omega
theorem sm_two {n : Nat} {f : Nat → Fin p} (a b : Nat) (ha : a < n) (hb : b < n) (hab : a ≠ b) (h : ∀ i, i < n → i ≠ a → i ≠ b → f i = 0) : sm n f = f a + f b := by
  obtain ⟨n, rfl⟩ : ∃ q, n = q + 1 := ⟨n - 1, by omega⟩
  rw [sm_skip a ha]
  congr 1
  have hb' : ∃ b', b' < n ∧ skip a b' = b := by
    rcases Nat.lt_or_ge b a with h | h
    · exact ⟨b, by omega, by unfold skip; rw [if_pos h]⟩
    · exact ⟨b - 1, by omega, by unfold skip; rw [if_neg (by omega)]; omega⟩
  obtain ⟨b', hb1, hb2⟩ := hb'
  rw [sm_one b' hb1 (fun i hi hne => h _ (by unfold skip; split <;> omega) (skip_ne' a i) (by
    intro e
    apply hne
    unfold skip at e hb2
    split at e <;> split at hb2 <;> omega)), hb2]
def sgn (i : Nat) : Fin p := if i % 2 = 0 then 1 else -1
theorem sgn_succ (i : Nat) : (sgn (i + 1) : Fin p) = - sgn i := by
  unfold sgn
  by_cases h : i % 2 = 0
  · rw [if_pos h, if_neg (by omega)]
  · rw [if_neg h, if_pos (by omega)]; grind
def det : Nat → (Nat → Nat → Fin p) → Fin p
  | 0, _ => 1
  | n + 1, M => sm (n + 1) (fun i => sgn i * M i 0 * det n (fun a b => M (skip i a) (b + 1)))
theorem det_congr {n : Nat} : ∀ {M N : Nat → Nat → Fin p}, (∀ i j, i < n → j < n → M i j = N i j) → det n M = det n N := by
  induction n with
  | zero => intro M N _; rfl
  | succ n ih =>
    intro M N h
    simp only [det]
    refine sm_congr (fun i hi => ?_)
    rw [h i 0 hi (by omega), ih (fun a b ha hb => h _ _ (by unfold skip; split <;> omega) (by omega))]
theorem det_linear {n : Nat} : ∀ {L M N : Nat → Nat → Fin p} (k : Nat) (x y : Fin p), k < n → (∀ i j, i ≠ k → L i j = M i j) → (∀ i j, i ≠ k → L i j = N i j) → (∀ j, L k j = x * M k j + y * N k j) → det n L = x * det n M + y * det n N := by
  induction n with
  | zero => intro L M N k x y hk; omega
  | succ n ih =>
    intro L M N k x y hk hM hN hL
    simp only [det]
    rw [← sm_mul, ← sm_mul, ← sm_add]
    refine sm_congr (fun i hi => ?_)
    by_cases e : i = k
    · subst e
      have e1 : det n (fun a b => L (skip i a) (b + 1)) = det n (fun a b => M (skip i a) (b + 1)) := det_congr (fun a b _ _ => hM _ _ (skip_ne' i a))
      have e2 : det n (fun a b => N (skip i a) (b + 1)) = det n (fun a b => M (skip i a) (b + 1)) := det_congr (fun a b _ _ => by rw [← hN _ _ (skip_ne' i a), hM _ _ (skip_ne' i a)])
      rw [e1, e2, hL]; grind
    · have hk' : ∃ k', k' < n ∧ skip i k' = k := by
        rcases Nat.lt_or_ge k i with h | h
        · exact ⟨k, by omega, by unfold skip; rw [if_pos h]⟩
        · exact ⟨k - 1, by omega, by unfold skip; rw [if_neg (by omega)]; omega⟩
      obtain ⟨k', h1, h2⟩ := hk'
      have hne : ∀ a, a ≠ k' → skip i a ≠ k := fun a ha e => by
        apply ha
        unfold skip at e h2
        split at e <;> split at h2 <;> omega
      rw [ih (L := fun a b => L (skip i a) (b + 1)) (M := fun a b => M (skip i a) (b + 1)) (N := fun a b => N (skip i a) (b + 1)) k' x y h1 (fun a b ha => hM _ _ (hne a ha)) (fun a b ha => hN _ _ (hne a ha)) (fun b => by rw [h2]; exact hL _)]
      rw [hM i 0 e, ← hN i 0 e, hM i 0 e]; grind
theorem det_adjacent {n : Nat} : ∀ {M : Nat → Nat → Fin p} (k : Nat), k + 1 < n → (∀ j, M k j = M (k + 1) j) → det n M = 0 := by
  induction n with
  | zero => intro M k hk; omega
  | succ n ih =>
    intro M k hk h
    simp only [det]
    rw [sm_two k (k + 1) (by omega) hk (by omega) (fun i hi h1 h2 => ?_)]
    · have e1 : det n (fun a b => M (skip (k + 1) a) (b + 1)) = det n (fun a b => M (skip k a) (b + 1)) := det_congr (fun a b _ _ => by
        unfold skip
        rcases Nat.lt_trichotomy a k with hlt | heq | hgt
        · rw [if_pos (by omega), if_pos hlt]
        · subst heq
          rw [if_pos (by omega), if_neg (by omega)]; exact h _
        · rw [if_neg (by omega), if_neg (by omega)])
      rw [e1, sgn_succ, ← h 0]; grind
    · rcases Nat.lt_or_ge i k with hlt | hge
      · rw [ih (M := fun a b => M (skip i a) (b + 1)) (k - 1) (by omega) (fun j => by
          unfold skip
          rw [if_neg (by omega), if_neg (by omega), show k - 1 + 1 = k by omega]; exact h _)]; grind
      · rw [ih (M := fun a b => M (skip i a) (b + 1)) k (by omega) (fun j => by
          unfold skip
          rw [if_pos (by omega), if_pos (by omega)]; exact h _)]; grind
def setRow (M : Nat → Nat → Fin p) (k : Nat) (v : Nat → Fin p) : Nat → Nat → Fin p := fun i j => if i = k then v j else M i j
omit [NeZero p] in
theorem setRow_at (M : Nat → Nat → Fin p) (k : Nat) (v : Nat → Fin p) (j : Nat) : setRow M k v k j = v j := by unfold setRow; rw [if_pos rfl]
omit [NeZero p] in
theorem setRow_ne (M : Nat → Nat → Fin p) {k i : Nat} (v : Nat → Fin p) (j : Nat) (h : i ≠ k) : setRow M k v i j = M i j := by unfold setRow; rw [if_neg h]
def swapRow (M : Nat → Nat → Fin p) (a b : Nat) : Nat → Nat → Fin p := fun i j => if i = a then M b j else if i = b then M a j else M i j
theorem det_swap_of {n : Nat} {a b : Nat} (ha : a < n) (hb : b < n) (hab : a ≠ b) (H : ∀ M : Nat → Nat → Fin p, (∀ j, M a j = M b j) → det n M = 0) (M : Nat → Nat → Fin p) : det n (swapRow M a b) = - det n M := by
  let u := M a
  let v := M b
  let X : (Nat → Fin p) → (Nat → Fin p) → Nat → Nat → Fin p := fun s t => setRow (setRow M a s) b t
  have hXa : ∀ s t j, X s t a j = s j := fun s t j => by show setRow _ _ _ _ _ = _; rw [setRow_ne _ _ _ hab, setRow_at]
  have hXb : ∀ s t j, X s t b j = t j := fun s t j => setRow_at _ _ _ _
  have hXo : ∀ s t i j, i ≠ a → i ≠ b → X s t i j = M i j := fun s t i j h1 h2 => by show setRow _ _ _ _ _ = _; rw [setRow_ne _ _ _ h2, setRow_ne _ _ _ h1]
  have z : ∀ s, det n (X s s) = 0 := fun s => H _ (fun j => by rw [hXa, hXb])
  have l1 : ∀ s s' t, det n (X (fun j => s j + s' j) t) = det n (X s t) + det n (X s' t) := fun s s' t => by
    rw [det_linear (L := X (fun j => s j + s' j) t) (M := X s t) (N := X s' t) a 1 1 ha ?_ ?_ ?_]
    · grind
    · intro i j hi
      by_cases e : i = b
      · subst e; rw [hXb, hXb]
      · rw [hXo _ _ _ _ hi e, hXo _ _ _ _ hi e]
    · intro i j hi
      by_cases e : i = b
      · subst e; rw [hXb, hXb]
      · rw [hXo _ _ _ _ hi e, hXo _ _ _ _ hi e]
    · intro j; rw [hXa, hXa, hXa]; grind
  have l2 : ∀ s t t', det n (X s (fun j => t j + t' j)) = det n (X s t) + det n (X s t') := fun s t t' => by
    rw [det_linear (L := X s (fun j => t j + t' j)) (M := X s t) (N := X s t') b 1 1 hb ?_ ?_ ?_]
    · grind
    · intro i j hi
      by_cases e : i = a
      · subst e; rw [hXa, hXa]
      · rw [hXo _ _ _ _ e hi, hXo _ _ _ _ e hi]
    · intro i j hi
      by_cases e : i = a
      · subst e; rw [hXa, hXa]
      · rw [hXo _ _ _ _ e hi, hXo _ _ _ _ e hi]
    · intro j; rw [hXb, hXb, hXb]; grind
  have h0 := z (fun j => u j + v j)
  rw [l1, l2, l2, z, z] at h0
  have e1 : det n (X u v) = det n M := det_congr (fun i j _ _ => by
    by_cases e : i = a
    · subst e; rw [hXa]
    · by_cases e2 : i = b
      · subst e2; rw [hXb]
      · rw [hXo _ _ _ _ e e2])
  have e2 : det n (X v u) = det n (swapRow M a b) := det_congr (fun i j _ _ => by
    unfold swapRow
    by_cases e : i = a
    · subst e; rw [hXa, if_pos rfl]
    · by_cases e2 : i = b
      · subst e2; rw [hXb, if_neg e, if_pos rfl]
      · rw [hXo _ _ _ _ e e2, if_neg e, if_neg e2])
  rw [e1, e2] at h0
  grind
theorem det_equal_rows {n : Nat} (d : Nat) : ∀ {M : Nat → Nat → Fin p} (a : Nat), a + d + 1 < n → (∀ j, M a j = M (a + d + 1) j) → det n M = 0 := by
  induction d with
  | zero => exact fun a h e => det_adjacent a h e
  | succ d ih =>
    intro M a h e
    have h1 := det_swap_of (a := a + d + 1) (b := a + d + 2) (n := n) (by omega) (by omega) (by omega) (fun N hN => det_adjacent (a + d + 1) (by omega) hN) M
    have h2 : det n (swapRow M (a + d + 1) (a + d + 2)) = 0 := ih a (by omega) (fun j => by
      unfold swapRow
      rw [if_neg (by omega), if_neg (by omega), if_pos rfl]; exact e j)
    rw [h2] at h1
    grind
theorem det_equal {n : Nat} {M : Nat → Nat → Fin p} {a b : Nat} (ha : a < n) (hb : b < n) (hab : a ≠ b) (h : ∀ j, M a j = M b j) : det n M = 0 := by
  rcases Nat.lt_or_gt_of_ne hab with hlt | hgt
  · exact det_equal_rows (b - a - 1) a (by omega) (fun j => by rw [show a + (b - a - 1) + 1 = b by omega]; exact h j)
  · exact det_equal_rows (a - b - 1) b (by omega) (fun j => by rw [show b + (a - b - 1) + 1 = a by omega]; exact (h j).symm)
theorem det_swap {n : Nat} {a b : Nat} (ha : a < n) (hb : b < n) (hab : a ≠ b) (M : Nat → Nat → Fin p) : det n (swapRow M a b) = - det n M := det_swap_of ha hb hab (fun _ h => det_equal ha hb hab h) M
theorem det_scale {n : Nat} {k : Nat} (hk : k < n) (x : Fin p) (M : Nat → Nat → Fin p) : det n (setRow M k (fun j => x * M k j)) = x * det n M := by
  rw [det_linear (M := M) (N := M) k x 0 hk (fun i j h => setRow_ne _ _ _ h) (fun i j h => setRow_ne _ _ _ h) (fun j => by rw [setRow_at]; grind)]; grind
theorem det_add {n : Nat} {k t : Nat} (hk : k < n) (ht : t < n) (hkt : k ≠ t) (x : Fin p) (M : Nat → Nat → Fin p) : det n (setRow M k (fun j => M k j + x * M t j)) = det n M := by
  rw [det_linear (M := M) (N := setRow M k (M t)) k 1 x hk (fun i j h => setRow_ne _ _ _ h) (fun i j h => by rw [setRow_ne _ _ _ h, setRow_ne _ _ _ h]) (fun j => by rw [setRow_at, setRow_at]; grind),
    det_equal (M := setRow M k (M t)) hk ht hkt (fun j => by rw [setRow_at, setRow_ne _ _ _ (Ne.symm hkt)])]; grind
theorem det_zero_row {n : Nat} {k : Nat} (hk : k < n) (M : Nat → Nat → Fin p) (h : ∀ j, j < n → M k j = 0) : det n M = 0 := by
  have e : det n M = det n (setRow M k (fun j => 0 * M k j)) := det_congr (fun i j _ hj => by
    unfold setRow
    split
    · rename_i e; subst e; rw [h j hj]; grind
    · rfl)
  rw [e, det_scale hk]; grind
def idM : Nat → Nat → Fin p := fun i j => if i = j then 1 else 0
theorem det_id (n : Nat) : det n (idM : Nat → Nat → Fin p) = 1 := by
  induction n with
  | zero => rfl
  | succ n ih =>
    simp only [det]
    rw [sm_one 0 (by omega) (fun i _ hi => by unfold idM; rw [if_neg hi]; grind)]
    have : det n (fun a b => (idM (skip 0 a) (b + 1) : Fin p)) = det n idM := det_congr (fun a b _ _ => by unfold idM skip; simp)
    rw [this, ih]
    unfold idM sgn
    simp only [Nat.zero_mod, if_true]
    grind
/-! ### Products -/
def mulM (n : Nat) (A N : Nat → Nat → Fin p) : Nat → Nat → Fin p := fun i j => sm n (fun k => A i k * N k j)
theorem mulM_id_right {n : Nat} (A : Nat → Nat → Fin p) {i j : Nat} (hj : j < n) : mulM n A idM i j = A i j := by
  unfold mulM
  rw [sm_one j hj (fun k _ hk => by unfold idM; rw [if_neg hk]; grind)]
  unfold idM; rw [if_pos rfl]; grind
theorem mulM_id_left {n : Nat} (N : Nat → Nat → Fin p) {i j : Nat} (hi : i < n) : mulM n idM N i j = N i j := by
  unfold mulM
  rw [sm_one i hi (fun k _ hk => by unfold idM; rw [if_neg (Ne.symm hk)]; grind)]
  unfold idM; rw [if_pos rfl]; grind
def Ops (n : Nat) (A B : Nat → Nat → Fin p) (d : Fin p) : Prop := ∀ N, det n (mulM n A N) = d * det n (mulM n B N)
theorem Ops.refl (n : Nat) (A : Nat → Nat → Fin p) : Ops n A A 1 := fun N => by grind
theorem Ops.trans {n : Nat} {A B C : Nat → Nat → Fin p} {d e : Fin p} (h : Ops n A B d) (k : Ops n B C e) : Ops n A C (d * e) := fun N => by rw [h N, k N]; grind
theorem Ops.congr {n : Nat} {A B C : Nat → Nat → Fin p} {d : Fin p} (h : Ops n A B d) (e : ∀ i j, i < n → j < n → C i j = B i j) : Ops n A C d := fun N => by
  rw [h N]
  congr 1
  exact det_congr (fun i j hi _ => sm_congr (fun k hk => by rw [e i k hi hk]))
theorem Ops.swap {n : Nat} {a b : Nat} (ha : a < n) (hb : b < n) (hab : a ≠ b) (A : Nat → Nat → Fin p) : Ops n A (swapRow A a b) (-1) := fun N => by
  have e : det n (mulM n (swapRow A a b) N) = det n (swapRow (mulM n A N) a b) := det_congr (fun i j _ _ => by
    unfold mulM swapRow
    split
    · rfl
    · split
      · rfl
      · rfl)
  rw [e, det_swap ha hb hab]; grind
theorem mulM_setRow (n : Nat) (A N : Nat → Nat → Fin p) (k : Nat) (v : Nat → Fin p) (i j : Nat) : mulM n (setRow A k v) N i j = setRow (mulM n A N) k (fun j => sm n (fun q => v q * N q j)) i j := by
  by_cases e : i = k
  · subst e
    rw [setRow_at]
    exact sm_congr (fun q _ => by rw [setRow_at])
  · rw [setRow_ne _ _ _ e]
    exact sm_congr (fun q _ => by rw [setRow_ne _ _ _ e])
theorem Ops.scale {n : Nat} {k : Nat} (hk : k < n) (x y : Fin p) (hxy : x * y = 1) (A : Nat → Nat → Fin p) : Ops n A (setRow A k (fun j => y * A k j)) x := fun N => by
  have e : det n (mulM n (setRow A k (fun j => y * A k j)) N) = det n (setRow (mulM n A N) k (fun j => y * mulM n A N k j)) := det_congr (fun i j _ _ => by
    rw [mulM_setRow]
    have : (fun j => sm n (fun q => y * A k q * N q j)) = (fun j => y * mulM n A N k j) := funext fun j => by
      unfold mulM
      rw [← sm_mul]
      exact sm_congr (fun q _ => by grind)
    rw [this])
  rw [e, det_scale hk]
  have : x * (y * det n (mulM n A N)) = (x * y) * det n (mulM n A N) := by grind
  rw [this, hxy]; grind
theorem Ops.add {n : Nat} {k t : Nat} (hk : k < n) (ht : t < n) (hkt : k ≠ t) (x : Fin p) (A : Nat → Nat → Fin p) : Ops n A (setRow A k (fun j => A k j + x * A t j)) 1 := fun N => by
  have e : det n (mulM n (setRow A k (fun j => A k j + x * A t j)) N) = det n (setRow (mulM n A N) k (fun j => mulM n A N k j + x * mulM n A N t j)) := det_congr (fun i j _ _ => by
    rw [mulM_setRow]
    have : (fun j => sm n (fun q => (A k q + x * A t q) * N q j)) = (fun j => mulM n A N k j + x * mulM n A N t j) := funext fun j => by
      unfold mulM
      rw [← sm_mul, ← sm_add]
      exact sm_congr (fun q _ => by grind)
    rw [this])
  rw [e, det_add hk ht hkt]; grind
theorem Ops.det {n : Nat} {A B : Nat → Nat → Fin p} {d : Fin p} (h : Ops n A B d) : det n A = d * det n B := by
  have h1 := h idM
  rwa [det_congr (N := A) (fun i j _ hj => mulM_id_right A hj), det_congr (N := B) (fun i j _ hj => mulM_id_right B hj)] at h1
theorem det_mul_of {n : Nat} {A B : Nat → Nat → Fin p} {d : Fin p} (h : Ops n A B d) (hB : (∀ i j, i < n → j < n → B i j = idM i j) ∨ ∃ k, k < n ∧ ∀ j, j < n → B k j = 0) (N : Nat → Nat → Fin p) : Lin.det n (mulM n A N) = Lin.det n A * Lin.det n N := by
  rw [h N, h.det]
  rcases hB with hB | ⟨k, hk, hB⟩
  · have e1 : Lin.det n (mulM n B N) = Lin.det n N := det_congr (fun i j hi _ => by
      rw [← mulM_id_left N hi]
      exact sm_congr (fun q hq => by rw [hB i q hi hq]))
    have e2 : Lin.det n B = 1 := by rw [← det_id n]; exact det_congr hB
    rw [e1, e2]; grind
  · rw [det_zero_row hk (mulM n B N) (fun j _ => sm_zero (fun q hq => by rw [hB q hq]; grind)), det_zero_row hk B hB]; grind
end
section
variable {p : Nat} [NeZero p]
/-! ### A step of the elimination -/
structure Part (n m c : Nat) (A : Nat → Nat → Fin p) (r : Nat) (P : Nat → Nat) : Prop where
  le : r ≤ m
  lt : ∀ i, i < r → P i < c
  inc : ∀ i k, i < k → k < r → P i < P k
  one : ∀ i, i < r → A i (P i) = 1
  col : ∀ i k, i < r → k < m → k ≠ i → A k (P i) = 0
  before : ∀ i j, i < r → j < P i → A i j = 0
  rest : ∀ i j, r ≤ i → i < m → j < c → A i j = 0
theorem Part.start (n m : Nat) (A : Nat → Nat → Fin p) (P : Nat → Nat) : Part n m 0 A 0 P :=
  ⟨Nat.zero_le _, fun i h => by omega, fun i k _ h => by omega, fun i h => by omega, fun i k h => by omega, fun i j h => by omega, fun i j _ _ h => by omega⟩
theorem Part.rref {n m r : Nat} {A : Nat → Nat → Fin p} {P : Nat → Nat} (h : Part n m n A r P) : Rref n m A r P := ⟨h.le, h.lt, h.inc, h.one, h.col, h.before, h.rest⟩
theorem Part.pass {n m c r : Nat} {A : Nat → Nat → Fin p} {P : Nat → Nat} (h : Part n m c A r P) (hz : ∀ i, r ≤ i → i < m → A i c = 0) : Part n m (c + 1) A r P :=
  ⟨h.le, fun i hi => by have := h.lt i hi; omega, h.inc, h.one, h.col, h.before, fun i j h1 h2 h3 => by
    by_cases e : j = c
    · subst e; exact hz i h1 h2
    · exact h.rest i j h1 h2 (by omega)⟩
structure Stepped (n m c r q : Nat) (u : Fin p) (A B : Nat → Nat → Fin p) : Prop where
  hr : r ≤ q
  hq : q < m
  hu : A q c * u = 1
  at_ : ∀ j, j < n → B r j = u * A q j
  other : ∀ i j, i < m → i ≠ r → j < n → B i j = (if i = q then A r j else A i j) + -(if i = q then A r c else A i c) * B r j
theorem Part.step {n m c r q : Nat} {u : Fin p} {A B : Nat → Nat → Fin p} {P : Nat → Nat} (h : Part n m c A r P) (hc : c < n) (s : Stepped n m c r q u A B) :
    Part n m (c + 1) B (r + 1) (fun i => if i = r then c else P i) := by
  have hrq := s.hr
  have hqm := s.hq
  have hBr : ∀ j, j < c → B r j = 0 := fun j hj => by rw [s.at_ j (by omega), h.rest q j s.hr s.hq hj]; grind
  have hBrc : B r c = 1 := by rw [s.at_ c hc, ← s.hu]; grind
  have hlow : ∀ i j, i < m → i ≠ r → j < c → B i j = if i = q then A r j else A i j := fun i j hi hne hj => by
    rw [s.other i j hi hne (by omega), hBr j hj]; grind
  refine ⟨by have := h.le; omega, fun i hi => ?_, fun i k h1 h2 => ?_, fun i hi => ?_, fun i k hi hk hne => ?_, fun i j hi hj => ?_, fun i j h1 h2 h3 => ?_⟩
  · split
    · omega
    · have := h.lt i (by omega); omega
  · rw [if_neg (show ¬ i = r by omega)]
    split
    · exact h.lt i (by omega)
    · exact h.inc i k h1 (by omega)
  · by_cases e : i = r
    · subst e; rw [if_pos rfl]; exact hBrc
    · rw [if_neg e, hlow i _ (by omega) e (h.lt i (by omega)), if_neg (by omega)]
      exact h.one i (by omega)
  · by_cases e : i = r
    · subst e
      rw [if_pos rfl, s.other k c hk hne hc, hBrc]; grind
    · rw [if_neg e]
      have hlt := h.lt i (by omega)
      by_cases e2 : k = r
      · subst e2; exact hBr _ hlt
      · rw [hlow k _ hk e2 hlt]
        split
        · exact h.col i r (by omega) (by omega) (by omega)
        · exact h.col i k (by omega) hk hne
  · by_cases e : i = r
    · subst e
      rw [if_pos rfl] at hj
      exact hBr j hj
    · rw [if_neg e] at hj
      have hlt := h.lt i (by omega)
      rw [hlow i j (by omega) e (by omega), if_neg (by omega)]
      exact h.before i j (by omega) hj
  · by_cases e : j = c
    · subst e
      rw [s.other i j h2 (by omega) hc, hBrc]; grind
    · rw [hlow i j h2 (by omega) (by omega)]
      split
      · exact h.rest r j (Nat.le_refl _) (by omega) (by omega)
      · exact h.rest i j (by omega) h2 (by omega)
theorem Stepped.span {n m c r q : Nat} {u : Fin p} {A B : Nat → Nat → Fin p} (s : Stepped n m c r q u A B) : (∀ i, i < m → Sp n m A (B i)) ∧ ∀ i, i < m → Sp n m B (A i) := by
  have hr := s.hr
  have hq := s.hq
  have spr : Sp n m A (B r) := ((Sp.row (A := A) hq).mul u).congr (fun j hj => s.at_ j hj)
  have f : ∀ i, i < m → Sp n m A (B i) := fun i hi => by
    by_cases e : i = r
    · subst e; exact spr
    · have h1 : Sp n m A (A (if i = q then r else i)) := Sp.row (by split <;> omega)
      refine (h1.add (spr.mul (-(if i = q then A r c else A i c)))).congr (fun j hj => ?_)
      rw [s.other i j hi e hj]
      split <;> rfl
  refine ⟨f, fun i hi => ?_⟩
  have hBr : Sp n m B (B r) := Sp.row (by omega)
  have hAq : Sp n m B (A q) := (hBr.mul (A q c)).congr (fun j hj => by
    rw [s.at_ j hj]
    have h1 := s.hu
    have : A q c * (u * A q j) = (A q c * u) * A q j := by grind
    rw [this, h1]; grind)
  by_cases e : i = q
  · subst e; exact hAq
  · by_cases e2 : i = r
    · subst e2
      have h1 : Sp n m B (B q) := Sp.row hq
      refine (h1.add (hBr.mul (A i c))).congr (fun j hj => ?_)
      rw [s.other q j hq (by omega) hj, if_pos rfl, if_pos rfl]; grind
    · have h1 : Sp n m B (B i) := Sp.row hi
      refine (h1.add (hBr.mul (A i c))).congr (fun j hj => ?_)
      rw [s.other i j hi e2 hj, if_neg e, if_neg e]; grind
theorem Ops.add_all {n t : Nat} (ht : t < n) (x : Nat → Fin p) (A : Nat → Nat → Fin p) (k : Nat) : k ≤ n → Ops n A (fun i j => if i < k ∧ i ≠ t then A i j + x i * A t j else A i j) 1 := by
  induction k with
  | zero => exact fun _ => (Ops.refl n A).congr (fun i j _ _ => by rw [if_neg (by omega)])
  | succ k ih =>
    intro hk
    by_cases e : k = t
    · refine (ih (by omega)).congr (fun i j _ _ => ?_)
      by_cases h1 : i < k ∧ i ≠ t
      · rw [if_pos h1, if_pos (by omega)]
      · rw [if_neg h1, if_neg (by omega)]
    · have h1 := Ops.add (n := n) (k := k) (t := t) (by omega) ht e (x k) (fun i j => if i < k ∧ i ≠ t then A i j + x i * A t j else A i j)
      have h2 := (ih (by omega)).trans h1
      have e1 : (1 : Fin p) * 1 = 1 := by grind
      rw [e1] at h2
      refine h2.congr (fun i j _ _ => ?_)
      unfold setRow
      dsimp only
      by_cases ei : i = k
      · subst ei
        rw [if_pos rfl, if_neg (show ¬ (i < i ∧ i ≠ t) by omega), if_neg (show ¬ (t < i ∧ t ≠ t) by omega), if_pos (by omega)]
      · rw [if_neg ei]
        by_cases h3 : i < k ∧ i ≠ t
        · rw [if_pos h3, if_pos (by omega)]
        · rw [if_neg h3, if_neg (by omega)]
theorem Stepped.ops {n c r q : Nat} {u : Fin p} {A B : Nat → Nat → Fin p} (s : Stepped n n c r q u A B) : Ops n A B ((if q = r then 1 else -1) * A q c) := by
  have hr := s.hr
  have hq := s.hq
  have h1 : Ops n A (swapRow A r q) (if q = r then 1 else -1) := by
    by_cases e : q = r
    · rw [if_pos e]
      refine (Ops.refl n A).congr (fun i j _ _ => ?_)
      unfold swapRow
      subst e
      split
      · rename_i e2; subst e2; rfl
      · rfl
    · rw [if_neg e]
      exact Ops.swap (by omega) hq (by omega) A
  have h2 := Ops.scale (n := n) (k := r) (by omega) (A q c) u s.hu (swapRow A r q)
  have h3 := Ops.add_all (n := n) (t := r) (by omega) (fun i => -(if i = q then A r c else A i c)) (setRow (swapRow A r q) r (fun j => u * swapRow A r q r j)) n (Nat.le_refl _)
  have h4 := (h1.trans h2).trans h3
  have e1 : (if q = r then 1 else -1) * A q c * 1 = (if q = r then 1 else -1) * A q c := by grind
  rw [e1] at h4
  have hrow : ∀ j, setRow (swapRow A r q) r (fun j => u * swapRow A r q r j) r j = u * A q j := fun j => by
    rw [setRow_at]; unfold swapRow; rw [if_pos rfl]
  refine h4.congr (fun i j hi hj => ?_)
  by_cases e : i = r
  · subst e
    rw [if_neg (by omega), hrow, s.at_ j hj]
  · rw [if_pos ⟨hi, e⟩, hrow, setRow_ne _ _ _ e, s.other i j hi e hj, s.at_ j hj]
    unfold swapRow
    rw [if_neg e]
/-! ### What follows of a reduced form -/
def Same (n m m' : Nat) (A B : Nat → Nat → Fin p) : Prop := (∀ i, i < m → Sp n m' B (A i)) ∧ ∀ i, i < m' → Sp n m A (B i)
theorem Same.refl (n m : Nat) (A : Nat → Nat → Fin p) : Same n m m A A := ⟨fun _ h => Sp.row h, fun _ h => Sp.row h⟩
theorem Same.symm {n m m' : Nat} {A B : Nat → Nat → Fin p} (h : Same n m m' A B) : Same n m' m B A := ⟨h.2, h.1⟩
theorem Same.trans {n m m' m'' : Nat} {A B C : Nat → Nat → Fin p} (h : Same n m m' A B) (k : Same n m' m'' B C) : Same n m m'' A C :=
  ⟨fun i hi => (h.1 i hi).trans k.1, fun i hi => (k.2 i hi).trans h.2⟩
theorem Stepped.same {n m c r q : Nat} {u : Fin p} {A B : Nat → Nat → Fin p} (s : Stepped n m c r q u A B) : Same n m m A B := ⟨s.span.2, s.span.1⟩
theorem Rref.full {n : Nat} {A : Nat → Nat → Fin p} {P : Nat → Nat} (h : Rref n n A n P) : (∀ i, i < n → P i = i) ∧ ∀ i j, i < n → j < n → A i j = idM i j := by
  have ge : ∀ i, i < n → i ≤ P i := fun i => by
    induction i with
    | zero => exact fun _ => Nat.zero_le _
    | succ i ih =>
      intro hi
      have h1 := ih (by omega)
      have h2 := h.inc i (i + 1) (by omega) hi
      omega
  have le : ∀ d i, i < n → n - 1 - i = d → P i ≤ i := fun d => by
    induction d with
    | zero => exact fun i hi e => by have := h.lt i hi; omega
    | succ d ih =>
      intro i hi e
      have h1 := ih (i + 1) (by omega) (by omega)
      have h2 := h.inc i (i + 1) (by omega) (by omega)
      omega
  have hP : ∀ i, i < n → P i = i := fun i hi => Nat.le_antisymm (le _ i hi rfl) (ge i hi)
  refine ⟨hP, fun i j hi hj => ?_⟩
  unfold idM
  by_cases e : i = j
  · subst e
    have := h.one i hi
    rw [hP i hi] at this
    rw [if_pos rfl]; exact this
  · have := h.col j i hj hi e
    rw [hP j hj] at this
    rw [if_neg e]; exact this
theorem Rref.unit_or_zero {n r : Nat} {A : Nat → Nat → Fin p} {P : Nat → Nat} (h : Rref n n A r P) : (r = n ∧ ∀ i j, i < n → j < n → A i j = idM i j) ∨ (r < n ∧ ∃ k, k < n ∧ ∀ j, j < n → A k j = 0) := by
  rcases Nat.eq_or_lt_of_le h.le with e | e
  · subst e; exact .inl ⟨rfl, h.full.2⟩
  · exact .inr ⟨e, r, e, fun j hj => h.rest r j (Nat.le_refl _) e hj⟩
end
/-! ### Numbers and numbers modulo p -/
def phi (p : Nat) [NeZero p] (x : Int) : Fin p := ⟨(x % p).toNat, by have := NeZero.ne p; have := Int.emod_lt_of_pos x (show (0:Int) < p by omega); have := Int.emod_nonneg x (show (p:Int) ≠ 0 by omega); omega⟩
theorem fin_ext {p : Nat} {a b : Fin p} (h : (a.val : Int) = b.val) : a = b := Fin.ext (by omega)
section
variable {p : Nat} [NeZero p]
theorem phi_val (x : Int) : ((phi p x).val : Int) = x % p := by
  have := NeZero.ne p; have := Int.emod_nonneg x (show (p:Int) ≠ 0 by omega); simp [phi]; omega
theorem phi_emod (x : Int) : phi p (x % p) = phi p x := fin_ext (by rw [phi_val, phi_val, Int.emod_emod_of_dvd _ (Int.dvd_refl _)])
theorem phi_add (x y : Int) : phi p (x + y) = phi p x + phi p y :=
  fin_ext (by rw [Fin.val_add, phi_val, Int.natCast_emod, Int.natCast_add, phi_val, phi_val, ← Int.add_emod])
theorem phi_mul (x y : Int) : phi p (x * y) = phi p x * phi p y :=
  fin_ext (by rw [Fin.val_mul, phi_val, Int.natCast_emod, Int.natCast_mul, phi_val, phi_val, ← Int.mul_emod])
theorem phi_zero : phi p 0 = 0 := fin_ext (by rw [phi_val]; simp)
theorem phi_one : phi p 1 = 1 := fin_ext (by rw [phi_val]; show (1 : Int) % p = ((1 % p : Nat) : Int); simp)
theorem phi_neg (x : Int) : phi p (-x) = -(phi p x) := by
  have h : phi p (x + -x) = phi p x + phi p (-x) := phi_add x (-x)
  rw [Int.add_right_neg, phi_zero] at h
  grind
theorem phi_sub (x y : Int) : phi p (x - y) = phi p x - phi p y := by
  rw [Int.sub_eq_add_neg, phi_add, phi_neg]; grind
theorem phi_p : phi p (p : Int) = 0 := fin_ext (by rw [phi_val]; simp)
theorem phi_eq {x y : Int} : phi p x = phi p y ↔ x % p = y % p := by
  constructor
  · intro h; rw [← phi_val, ← phi_val, h]
  · intro h; rw [← phi_emod x, h, phi_emod]
theorem phi_inj {x y : Int} (hx : 0 ≤ x) (hx' : x < p) (hy : 0 ≤ y) (hy' : y < p) (h : phi p x = phi p y) : x = y := by
  have := phi_eq.mp h
  rwa [Int.emod_eq_of_lt hx hx', Int.emod_eq_of_lt hy hy'] at this
end
theorem inv_table : ∀ p, p ∈ primes251 → ∀ a, a < p → 0 < a → (a * (a ^ (p - 2) % p)) % p = 1 := by decide +kernel
theorem pinv_tells {p a : Int} (hp : isP p = true) (h0 : 0 < a) (h1 : a < p) : (a * pinv p a) % p = 1 := by
  have hp2 := isP_ge hp
  obtain ⟨q, rfl⟩ := Int.eq_ofNat_of_zero_le (show 0 ≤ p by omega)
  obtain ⟨b, rfl⟩ := Int.eq_ofNat_of_zero_le (show 0 ≤ a by omega)
  have hm : q ∈ primes251 := by unfold isP at hp; simp at hp; exact hp.2
  have h := inv_table q hm b (by omega) (by omega)
  have e : ((q : Int) - 2).toNat = q - 2 := by omega
  unfold pinv
  rw [e]
  have h2 : (((b * (b ^ (q - 2) % q)) % q : Nat) : Int) = ((1 : Nat) : Int) := by rw [h]
  simp only [Int.natCast_emod, Int.natCast_mul, Int.natCast_pow] at h2
  exact h2
def fm (p : Nat) [NeZero p] (rows : List (List Int)) : Nat → Nat → Fin p := fun i j => phi p (cell rows i j)
theorem clear_phi {p : Nat} [NeZero p] {n c : Nat} {q r : List Int} (hq : q.length = n) (hr : r.length = n) {j : Nat} (hj : j < n) : phi p ((clearRow p c q r).getD j 0) = phi p (r.getD j 0) + -(phi p (r.getD c 0)) * phi p (q.getD j 0) := by
  unfold clearRow
  split
  · rename_i h; rw [h, phi_zero]; grind
  · rw [addRow_getD (by omega) (by omega), phi_emod, phi_add, phi_mul, phi_sub, phi_p]; grind
theorem elimStep_some {p : Nat} [NeZero p] {n c k : Nat} {rows : List (List Int)} {piv : List Int} {d : Int} (hp : isP p = true) (hok : RowsOk p n rows) (h : findPivot rows piv.length c = some k) :
    RowsOk p n (elimStep p (rows, piv, d) c).1 ∧ (elimStep p (rows, piv, d) c).1.length = rows.length ∧ (elimStep p (rows, piv, d) c).2.1 = piv ++ [(c : Int)] ∧
    (elimStep p (rows, piv, d) c).2.2 = (if k = 0 then d else -d % p) * cell rows (piv.length + k) c % p ∧
    Stepped n rows.length c piv.length (piv.length + k) (phi p (pinv p (cell rows (piv.length + k) c))) (fm p rows) (fm p (elimStep p (rows, piv, d) c).1) := by
  obtain ⟨hlt, hne⟩ := findPivot_some h
  have hp2 := isP_ge hp
  unfold elimStep
  dsimp only
  rw [h]
  dsimp only
  generalize ht : piv.length = top at *
  generalize hrows : (if k = 0 then rows else swapRows rows top (top + k)) = R at *
  have hlen : R.length = rows.length := by
    rw [← hrows]; split
    · rfl
    · exact swapRows_length _ _ _
  have hokR : RowsOk p n R := by
    rw [← hrows]; split
    · exact hok
    · exact hok.swap (by omega) hlt
  have hget : ∀ i, R.getD i [] = if i = top + k then rows.getD top [] else if i = top then rows.getD (top + k) [] else rows.getD i [] := fun i => by
    rw [← hrows]
    by_cases e : k = 0
    · subst e
      rw [if_pos rfl]
      by_cases e2 : i = top
      · subst e2; simp
      · simp [e2]
    · rw [if_neg e]
      exact swapRows_get rows (by omega) hlt i
  have htop : R.getD top [] = rows.getD (top + k) [] := by
    rw [hget]
    by_cases e : k = 0
    · subst e; simp
    · rw [if_neg (by omega), if_pos rfl]
  have hlead : cell R top c = cell rows (top + k) c := by unfold cell; rw [htop]
  rw [hlead]
  generalize hL : cell rows (top + k) c = L at *
  have hLr := hok.cell (p := p) (by omega) (top + k) c
  rw [hL] at hLr
  have hq : RowOk p n ((R.getD top []).map (fun x => pinv p L * x % p)) := scale_ok _ (by omega) (hokR _ (getD_mem (by omega))).1
  generalize hQ : (R.getD top []).map (fun x => pinv p L * x % p) = Q at *
  have hQj : ∀ j, j < n → Q.getD j 0 = pinv p L * (rows.getD (top + k) []).getD j 0 % p := fun j hj => by
    rw [← hQ, htop]
    have hl : j < (rows.getD (top + k) []).length := by rw [(hok _ (getD_mem hlt)).1]; exact hj
    rw [List.getD_eq_getElem?_getD, List.getElem?_map, List.getD_eq_getElem?_getD (l := rows.getD (top + k) []), List.getElem?_eq_getElem hl]
    rfl
  have hok2 : RowsOk p n (R.set top Q) := hokR.set hq top
  have hl2 : (R.set top Q).length = rows.length := by rw [List.length_set, hlen]
  refine ⟨hok2.clear (by omega) hq.1 c top, by rw [clearAll_length, hl2], rfl, rfl, ?_⟩
  refine ⟨by omega, hlt, ?_, fun j hj => ?_, fun i j hi hne' hj => ?_⟩
  · show phi p (cell rows (top + k) c) * phi p (pinv p L) = 1
    rw [hL, ← phi_mul, ← phi_emod, pinv_tells hp (by omega) (by omega), phi_one]
  · show phi p ((clearAll _ c top Q (R.set top Q)).getD top [] |>.getD j 0) = _
    rw [clearAll_get (by omega), if_pos rfl, getD_set _ _ _ _ (by omega), if_pos rfl, hQj j hj, phi_emod, phi_mul]
    rfl
  · show phi p ((clearAll _ c top Q (R.set top Q)).getD i [] |>.getD j 0) = _ + _ * phi p ((clearAll _ c top Q (R.set top Q)).getD top [] |>.getD j 0)
    rw [clearAll_get (by omega), if_neg hne', clearAll_get (by omega), if_pos rfl, getD_set _ _ _ _ (by omega), if_neg hne', getD_set _ _ _ _ (by omega), if_pos rfl]
    rw [clear_phi hq.1 (hokR _ (getD_mem (by omega))).1 hj, hget i]
    unfold fm cell
    split
    · rfl
    · rfl
def pivList (P : Nat → Nat) (r : Nat) : List Int := (List.range r).map (fun i => (P i : Int))
theorem pivList_length (P : Nat → Nat) (r : Nat) : (pivList P r).length = r := by unfold pivList; simp
theorem pivList_snoc (P : Nat → Nat) (r c : Nat) : pivList P r ++ [(c : Int)] = pivList (fun i => if i = r then c else P i) (r + 1) := by
  unfold pivList
  rw [List.range_succ, List.map_append]
  congr 1
  · refine List.map_congr_left (fun i hi => ?_)
    have := List.mem_range.mp hi
    dsimp only
    rw [if_neg (by omega)]
  · simp
theorem elimTo_tells {p : Nat} [NeZero p] {n : Nat} {rows : List (List Int)} (hp : isP p = true) (hok : RowsOk p n rows) (c : Nat) (hc : c ≤ n) :
    ∃ r P, RowsOk p n (elimTo p rows c).1 ∧ (elimTo p rows c).1.length = rows.length ∧ (elimTo p rows c).2.1 = pivList P r ∧ Part n rows.length c (fm p (elimTo p rows c).1) r P ∧
      Same n rows.length rows.length (fm p rows) (fm p (elimTo p rows c).1) ∧ (0 ≤ (elimTo p rows c).2.2 ∧ (elimTo p rows c).2.2 < p) ∧ r ≤ c ∧ (r < c → (elimTo p rows c).2.2 = 0) ∧
      (rows.length = n → ∃ d, Ops n (fm p rows) (fm p (elimTo p rows c).1) d ∧ (r = c → phi p (elimTo p rows c).2.2 = d)) := by
  have hp2 := isP_ge hp
  induction c with
  | zero =>
    refine ⟨0, fun _ => 0, hok, rfl, rfl, Part.start _ _ _ _, Same.refl _ _ _, ⟨by show (0:Int) ≤ 1; omega, by show (1:Int) < p; omega⟩, Nat.le_refl _, fun h => by omega, fun _ => ⟨1, Ops.refl _ _, fun _ => phi_one⟩⟩
  | succ c ih =>
    obtain ⟨r, P, h1, h2, h3, h4, h5, h6, h7, h8, h9⟩ := ih (by omega)
    rw [elimTo_succ]
    generalize hs : elimTo p rows c = s at *
    obtain ⟨R, piv, d⟩ := s
    dsimp only at *
    have hr : piv.length = r := by rw [h3, pivList_length]
    cases hf : findPivot R piv.length c with
    | none =>
      rw [elimStep_none hf]
      refine ⟨r, P, h1, h2, h3, h4.pass (fun i hi1 hi2 => ?_), h5, ⟨Int.le_refl 0, by show (0:Int) < p; omega⟩, by omega, fun _ => rfl, fun hsq => ?_⟩
      · show phi p (cell R i c) = 0
        rw [findPivot_none hf i (by omega) (by omega), phi_zero]
      · obtain ⟨d', hd, _⟩ := h9 hsq
        exact ⟨d', hd, fun h => by omega⟩
    | some k =>
      obtain ⟨g1, g2, g3, g4, g5⟩ := elimStep_some (d := d) hp h1 hf
      rw [hr] at g4 g5
      rw [h2] at g5
      generalize hs' : elimStep p (R, piv, d) c = s' at *
      obtain ⟨R', piv', d'⟩ := s'
      dsimp only at *
      refine ⟨r + 1, fun i => if i = r then c else P i, g1, by omega, by rw [g3, h3, pivList_snoc], h4.step (by omega) g5, h5.trans g5.same, ?_, by omega, fun h => ?_, fun hsq => ?_⟩
      · rw [g4]; exact ⟨Int.emod_nonneg _ (by omega), Int.emod_lt_of_pos _ (by omega)⟩
      · rw [g4, h8 (by omega)]; simp
      · obtain ⟨e, he, hd⟩ := h9 hsq
        rw [hsq] at g5
        refine ⟨_, he.trans g5.ops, fun h => ?_⟩
        rw [g4, phi_emod, phi_mul, ← hd (by omega)]
        show _ = phi p d * (_ * phi p (cell R (r + k) c))
        by_cases ek : k = 0
        · rw [if_pos ek, if_pos (by omega)]; grind
        · rw [if_neg ek, if_neg (by omega), phi_emod, phi_neg]; grind
end Go.Proofs.YtbalikebmacldaaGreatDoor.Lin
end

section
set_option linter.unusedVariables false
set_option linter.unusedSimpArgs false
set_option linter.unusedSectionVars false
namespace Go.Proofs.YtbalikebmacldaaGreatDoor.F
open Go.RowKit Go.Proofs.YtbalikebmacldaaGreatDoorW.PrintWords Go.Proofs.YtbalikebmacldaaGreatDoorW.PrintLast Go.Proofs.YtbalikebmacldaaGreatDoor.Lin
theorem u64_wrap (n : Int) : IntKind.u64.wrap n = n % 18446744073709551616 := by simp [IntKind.wrap, IntKind.bits, IntKind.signed]
theorem and255 {x : Int} (h0 : 0 ≤ x) (h1 : x < 18446744073709551616) : Go.bits .and .u64 x 255 = x % 256 :=
  bits_mask .u64 64 (by decide) (fun n h0 h1 => by rw [u64_wrap]; exact Int.emod_eq_of_lt h0 (by omega)) 8 (by decide) x h0 (by omega)
def Bytes (l : List Int) : Prop := ∀ x, x ∈ l → 0 ≤ x ∧ x ≤ 255
theorem bytes_rd {l : List Int} (h : Bytes l) (i : Int) : 0 ≤ rd l i ∧ rd l i ≤ 255 := by
  unfold rd
  by_cases hj : i.toNat < l.length
  · rw [getD_at hj]; exact h _ (List.getElem_mem hj)
  · rw [List.getD_eq_getElem?_getD, List.getElem?_eq_none (by omega)]; simp
theorem next_tells {l : List Int} (hl : Bytes l) {at_ : Int} (seed : Int) (h0 : 0 ≤ at_) (h1 : at_ ≤ 4611686018427387904) : ∃ v s, spec_l00Src_next.f l at_ seed = some (v, at_ + 1, s) ∧ 0 ≤ v ∧ v ≤ 255 := by
  have e : wrap64 (at_ + 1) = at_ + 1 := w64_id (by omega) (by omega)
  have hr := bytes_rd hl at_
  have er : wrap64 (rd l at_) = rd l at_ := w64_id (by omega) (by omega)
  have key : ∀ y : Int, 0 ≤ wrap64 (Go.bits .and .u64 (IntKind.u64.wrap y / 1099511627776) 255) ∧ wrap64 (Go.bits .and .u64 (IntKind.u64.wrap y / 1099511627776) 255) ≤ 255 := fun y => by
    have hz : 0 ≤ IntKind.u64.wrap y / 1099511627776 ∧ IntKind.u64.wrap y / 1099511627776 < 18446744073709551616 := by rw [u64_wrap]; omega
    rw [and255 hz.1 hz.2, w64_id (x := IntKind.u64.wrap y / 1099511627776 % 256) (by omega) (by omega)]; omega
  unfold spec_l00Src_next.f
  rw [e, er]
  by_cases c1 : at_ < (l.length : Int)
  · rw [if_pos c1, if_pos h0]
    by_cases c2 : at_ + 1 ≤ (l.length : Int)
    · rw [if_pos c2]; exact ⟨_, _, rfl, hr.1, hr.2⟩
    · rw [if_neg c2]; exact ⟨_, _, rfl, key _⟩
  · rw [if_neg c1]
    by_cases c2 : at_ + 1 ≤ (l.length : Int)
    · rw [if_pos c2]; exact ⟨_, _, rfl, by omega, by omega⟩
    · rw [if_neg c2]; exact ⟨_, _, rfl, key _⟩
theorem pick_tells {l : List Int} (hl : Bytes l) {at_ : Int} (seed n : Int) (h0 : 0 ≤ at_) (h1 : at_ ≤ 4611686018427387000) : ∃ v at' s, spec_l00Src_pick.f l at_ seed n = some (v, at', s) ∧ 0 ≤ v ∧ (v < n ∨ v = 0) ∧ at_ ≤ at' ∧ at' ≤ at_ + 2 := by
  unfold spec_l00Src_pick.f
  by_cases c1 : n ≤ 1
  · rw [if_pos c1]; exact ⟨0, at_, seed, rfl, by omega, .inr rfl, by omega, by omega⟩
  · rw [if_neg c1]
    obtain ⟨v, s, e, v0, v1⟩ := next_tells hl seed h0 (by omega)
    rw [e]
    simp only [Option.bind_some]
    have hn : ¬ n = 0 := by omega
    by_cases c2 : n > 200
    · rw [if_pos c2]
      obtain ⟨u, s', e', u0, u1⟩ := next_tells hl s (show 0 ≤ at_ + 1 by omega) (by omega)
      rw [e']
      simp only [Option.bind_some]
      rw [if_neg hn, w64_id (x := v * 256) (by omega) (by omega), w64_id (x := v * 256 + u) (by omega) (by omega), Int.tmod_eq_emod_of_nonneg (by omega)]
      exact ⟨_, _, _, rfl, Int.emod_nonneg _ hn, .inl (Int.emod_lt_of_pos _ (by omega)), by omega, by omega⟩
    · rw [if_neg c2, if_neg hn, Int.tmod_eq_emod_of_nonneg v0]
      exact ⟨_, _, _, rfl, Int.emod_nonneg _ hn, .inl (Int.emod_lt_of_pos _ (by omega)), by omega, by omega⟩
theorem one_tells {l : List Int} (hl : Bytes l) {at_ : Int} (seed n : Int) (h0 : 0 ≤ at_) (h1 : at_ ≤ 4611686018427387000) : ∃ b at' s, spec_l00Src_one.f l at_ seed n = some (b, at', s) ∧ at_ ≤ at' ∧ at' ≤ at_ + 2 := by
  unfold spec_l00Src_one.f
  obtain ⟨v, at', s, e, _, _, h2, h3⟩ := pick_tells hl seed n h0 h1
  rw [e]
  exact ⟨_, _, _, rfl, h2, h3⟩
theorem among_tells {l : List Int} (hl : Bytes l) {at_ : Int} (seed : Int) {xs : List Int} (hx : xs ≠ []) (h0 : 0 ≤ at_) (h1 : at_ ≤ 4611686018427387000) : ∃ v at' s, spec_l00Src_among.f l at_ seed xs = some (v, at', s) ∧ v ∈ xs ∧ at_ ≤ at' ∧ at' ≤ at_ + 2 := by
  unfold spec_l00Src_among.f
  have hpos := List.length_pos_iff.mpr hx
  obtain ⟨v, at', s, e, v0, v1, h2, h3⟩ := pick_tells hl seed (xs.length : Int) h0 h1
  have hlt : v < (xs.length : Int) := by omega
  rw [e]
  simp only [Option.bind_some]
  rw [if_pos v0, if_pos hlt]
  refine ⟨_, _, _, rfl, ?_, h2, h3⟩
  obtain ⟨i, rfl⟩ := Int.eq_ofNat_of_zero_le v0
  rw [rd_nat]
  exact getD_mem (by omega)
end Go.Proofs.YtbalikebmacldaaGreatDoor.F
end
