-- Texts of this claim, merged by pack.py (a program of this session's).
import Derived.Test.YtfpojfongjojcaaQFnExactMultiply2
import Derived.Test.YtfpojfongjojcaaQFnExactMultiply6
import Derived.KernelRfl
import Derived.Test.YtfpojfongjojcaaQFnExactMultiply0
import Derived.Test.YtfpojfongjojcaaQFnExactMultiply3
import Derived.Test.YtfpojfongjojcaaQFnExactMultiply1
import Derived.Test.YtfpojfongjojcaaQFnExactMultiply4
import Derived.Test.YtfpojfongjojcaaQFnExactMultiply5

section
set_option linter.unusedVariables false
set_option linter.unusedSimpArgs false
set_option linter.unusedSectionVars false
namespace Go.Proofs.Ytfpojfongjojcaa.Lin

def primes251 : List Nat := [2,3,5,7,11,13,17,19,23,29,31,37,41,43,47,53,59,61,67,71,73,79,83,89,97,101,103,107,109,113,127,131,137,139,149,151,157,163,167,173,179,181,191,193,197,199,211,223,227,229,233,239,241,251]
/-- A prime up to 251. -/
def isP (p : Int) : Bool := decide (2 ≤ p) && decide (p ≤ 251) && decide (p.toNat ∈ primes251)
theorem isP_ge {p : Int} (h : isP p = true) : 2 ≤ p ∧ p ≤ 251 := by unfold isP at h; simp at h; omega
/-- One row gets a multiple of another one. -/
def addRow (p : Int) (a b : List Int) (c : Int) : List Int := List.zipWith (fun x y => (x + c * y) % p) a b
theorem getD_set {α : Type} (l : List α) (k : Nat) (v d : α) (hk : k < l.length) (i : Nat) : (l.set k v).getD i d = if i = k then v else l.getD i d := by
  simp only [List.getD_eq_getElem?_getD, List.getElem?_set]
  by_cases h : k = i
  · subst h; simp [hk]
  · simp [h, Ne.symm h]
theorem addRow_getD {p : Int} {a b : List Int} {c : Int} {j : Nat} (ha : j < a.length) (hb : j < b.length) : (addRow p a b c).getD j 0 = (a.getD j 0 + c * b.getD j 0) % p := by
  unfold addRow
  simp [List.getD_eq_getElem?_getD, List.getElem?_zipWith, List.getElem?_eq_getElem ha, List.getElem?_eq_getElem hb]
end Go.Proofs.Ytfpojfongjojcaa.Lin
end

section
set_option linter.unusedVariables false
set_option linter.unusedSimpArgs false
set_option linter.unusedSectionVars false
namespace Go.Proofs.Ytfpojfongjojcaa.F
open Go.RowKit Go.Proofs.YtfpojfongjojcaaW.PrintWords Go.Proofs.YtfpojfongjojcaaW.PrintLast Go.Proofs.Ytfpojfongjojcaa.Lin

theorem w64_idV {x : Int} (h0 : -9223372036854775808 ≤ x) (h1 : x ≤ 9223372036854775807) : wrap64 x = x := by unfold wrap64; omega
theorem w64_succ {i n : Nat} (h : i < n) (hn : n ≤ 35184372088832) : wrap64 ((i : Int) + 1) = ((i + 1 : Nat) : Int) := by
  rw [w64_idV (x := (i : Int) + 1) (by omega) (by omega)]; omega
theorem rd_nat (l : List Int) (i : Nat) : rd l (i : Int) = l.getD i 0 := by unfold rd; rw [Int.toNat_natCast]
theorem getD_at {α : Type} {l : List α} {i : Nat} {d : α} (h : i < l.length) : l.getD i d = l[i] := by simp [List.getD_eq_getElem?_getD, h]
theorem ext_getD {l m : List Int} (hl : l.length = m.length) (h : ∀ j, j < l.length → l.getD j 0 = m.getD j 0) : l = m := by
  refine List.ext_getElem hl (fun j h1 h2 => ?_)
  have := h j h1
  rwa [getD_at h1, getD_at h2] at this
theorem copy_loop {l : List Int} (hl : l.length ≤ 35184372088832) (d : Nat) : ∀ (k i : Nat) (acc : List Int), l.length - i = d → i ≤ l.length → d < k → acc.length = l.length → (∀ j, j < i → acc.getD j 0 = l.getD j 0) →
    laws_toInt64S.l0 k l acc i = some l := by
  induction d with
  | zero =>
    intro k i acc hd hi hk ha h
    obtain ⟨k, rfl⟩ : ∃ m, k = m + 1 := ⟨k - 1, by omega⟩
    simp only [laws_toInt64S.l0]
    rw [if_neg (by omega), ext_getD ha (fun j hj => h j (by omega))]
  | succ d ih =>
    intro k i acc hd hi hk ha h
    obtain ⟨k, rfl⟩ : ∃ m, k = m + 1 := ⟨k - 1, by omega⟩
    simp only [laws_toInt64S.l0]
    rw [if_pos (by omega), if_pos (by omega), if_pos (by omega), w64_succ (n := l.length) (by omega) hl, Int.toNat_natCast, rd_nat]
    refine ih k (i + 1) _ (by omega) (by omega) (by omega) (by simp [ha]) (fun j hj => ?_)
    rw [getD_set _ _ _ _ (by omega)]
    by_cases e : j = i
    · rw [if_pos e, e]
    · rw [if_neg e]; exact h j (by omega)
/-- A copy is what is copied. -/
theorem copy_tells {l : List Int} (hl : l.length ≤ 35184372088832) {k : Nat} (hk : l.length < k) : laws_toInt64S.f k l = some l := by
  unfold laws_toInt64S.f
  rw [if_pos (by omega), if_pos (by omega), Int.toNat_natCast]
  exact copy_loop hl l.length k 0 _ (by omega) (by omega) hk (by simp) (fun j hj => by omega)
theorem eq_loop {a b : List Int} (ha : a.length ≤ 35184372088832) (hab : a.length = b.length) (d : Nat) : ∀ (k i : Nat), a.length - i = d → i ≤ a.length → d < k → (∀ j, j < i → a.getD j 0 = b.getD j 0) →
    laws_eqInt64S.l0 k a b i = some (decide (a = b)) := by
  induction d with
  | zero =>
    intro k i hd hi hk h
    obtain ⟨k, rfl⟩ : ∃ m, k = m + 1 := ⟨k - 1, by omega⟩
    simp only [laws_eqInt64S.l0]
    rw [if_neg (by omega), decide_eq_true (ext_getD hab (fun j hj => h j (by omega)))]
  | succ d ih =>
    intro k i hd hi hk h
    obtain ⟨k, rfl⟩ : ∃ m, k = m + 1 := ⟨k - 1, by omega⟩
    simp only [laws_eqInt64S.l0]
    rw [if_pos (by omega), if_pos (by omega), if_pos (by omega), w64_succ (n := a.length) (by omega) ha, rd_nat, rd_nat]
    by_cases e : a.getD i 0 = b.getD i 0
    · rw [if_pos e]
      refine ih k (i + 1) (by omega) (by omega) (by omega) (fun j hj => ?_)
      by_cases e2 : j = i
      · rw [e2]; exact e
      · exact h j (by omega)
    · rw [if_neg e, decide_eq_false (fun h => e (by rw [h]))]
theorem eq_tells {a b : List Int} (ha : a.length ≤ 35184372088832) {k : Nat} (hk : a.length < k) : laws_eqInt64S.f k a b = some (decide (a = b)) := by
  unfold laws_eqInt64S.f
  by_cases h : a.length = b.length
  · rw [if_pos (by omega)]
    exact eq_loop ha h a.length k 0 (by omega) (by omega) hk (fun j hj => by omega)
  · rw [if_neg (by omega), decide_eq_false (fun e => h (by rw [e]))]
end Go.Proofs.Ytfpojfongjojcaa.F
end

section
set_option linter.unusedVariables false
set_option linter.unusedSimpArgs false
set_option linter.unusedSectionVars false
namespace Go.Proofs.Ytfpojfongjojcaa.F
open Go.RowKit Go.Proofs.YtfpojfongjojcaaW.PrintWords Go.Proofs.YtfpojfongjojcaaW.PrintLast Go.Proofs.Ytfpojfongjojcaa.Lin

theorem w64_id {x : Int} (h0 : -9223372036854775808 ≤ x) (h1 : x ≤ 9223372036854775807) : wrap64 x = x := by unfold wrap64; omega
theorem same_in : impl_within.f = spec_l00In.f := rfl
theorem in_tells (n lo hi : Int) : spec_l00In.f n lo hi = some (decide (lo ≤ n ∧ n ≤ hi)) := by
  unfold spec_l00In.f
  by_cases h : n ≥ lo
  · have : lo ≤ n := h
    simp [this]
  · have : ¬ lo ≤ n := h
    simp [this]
theorem ask_prime : impl_ValidPrime.f = spec_l02Prime.f := by kernel_rfl
theorem prime_small : ∀ n, n < 252 → spec_l02Prime.f 20 (n : Nat) = some (isP n) := by decide +kernel
theorem prime_at (p : Int) : spec_l02Prime.f 20 p = some (isP p) := by
  by_cases h : 2 ≤ p ∧ p ≤ 251
  · obtain ⟨n, rfl⟩ := Int.eq_ofNat_of_zero_le (show 0 ≤ p by omega)
    exact prime_small n (by omega)
  · have : isP p = false := by unfold isP; simp; omega
    rw [this]
    unfold spec_l02Prime.f spec_l00In.f
    by_cases h1 : p ≥ 2
    · have : ¬ p ≤ 251 := by omega
      simp [h1, this]
    · simp [h1]
theorem prime_tells (p : Int) {k : Nat} (hk : 20 ≤ k) : spec_l02Prime.f k p = some (isP p) := at_rounds (spec_l02Prime.mono p) hk (prime_at p)
end Go.Proofs.Ytfpojfongjojcaa.F
end

section
set_option linter.unusedVariables false
set_option linter.unusedSimpArgs false
set_option linter.unusedSectionVars false
namespace Go.Proofs.Ytfpojfongjojcaa.F
open Go.RowKit Go.Proofs.YtfpojfongjojcaaW.PrintWords Go.Proofs.YtfpojfongjojcaaW.PrintLast Go.Proofs.Ytfpojfongjojcaa.Lin

/-- The marks: m, m + 1, .. -/
def iota (m : Int) (n : Nat) : List Int := (List.range n).map (fun j : Nat => m + (j : Int))
theorem iota_length (m : Int) (n : Nat) : (iota m n).length = n := by unfold iota; simp
theorem iota_getD (m : Int) {n j : Nat} (h : j < n) : (iota m n).getD j 0 = m + j := by unfold iota; simp [List.getD_eq_getElem?_getD, h]
theorem mark_loop {m0 : Int} {n : Nat} (hm : 0 ≤ m0) (hm' : m0 + n ≤ 4611686018427387904) (hn : n ≤ 35184372088832) (d : Nat) : ∀ (k i : Nat) (acc : List Int) (m : Int), n - i = d → i ≤ n → d < k → acc.length = n → m = m0 + i → (∀ j, j < i → acc.getD j 0 = m0 + j) →
    laws_markInt64S.l0 k acc m i = some (m0 + n, iota m0 n) := by
  induction d with
  | zero =>
    intro k i acc m hd hi hk ha he h
    obtain ⟨k, rfl⟩ : ∃ m, k = m + 1 := ⟨k - 1, by omega⟩
    simp only [laws_markInt64S.l0]
    rw [if_neg (by omega)]
    have e1 : m = m0 + n := by omega
    have e2 : acc = iota m0 n := ext_getD (by rw [iota_length, ha]) (fun j hj => by rw [h j (by omega), iota_getD m0 (by omega)])
    rw [e1, e2]
  | succ d ih =>
    intro k i acc m hd hi hk ha he h
    obtain ⟨k, rfl⟩ : ∃ m, k = m + 1 := ⟨k - 1, by omega⟩
    simp only [laws_markInt64S.l0]
    rw [if_pos (by omega), if_pos (by omega), w64_succ (n := n) (by omega) hn, Int.toNat_natCast, w64_id (x := m + 1) (by omega) (by omega)]
    refine ih k (i + 1) _ (m + 1) (by omega) (by omega) (by omega) (by simp [ha]) (by omega) (fun j hj => ?_)
    rw [getD_set _ _ _ _ (by omega)]
    by_cases e : j = i
    · rw [if_pos e, e]; exact he
    · rw [if_neg e]; exact h j (by omega)
theorem mark_tells {l : List Int} {m : Int} (hm : 0 ≤ m) (hm' : m + l.length ≤ 4611686018427387904) (hl : l.length ≤ 35184372088832) {k : Nat} (hk : l.length < k) : laws_markInt64S.f k l m = some (m + l.length, iota m l.length) := by
  unfold laws_markInt64S.f
  exact mark_loop hm hm' hl l.length k 0 l m (by omega) (by omega) hk rfl (by omega) (fun j hj => by omega)
theorem held_loop {m0 : Int} {n : Nat} (hm : 0 ≤ m0) (hm' : m0 + n ≤ 4611686018427387904) (hn : n ≤ 35184372088832) (d : Nat) : ∀ (k i : Nat) (m : Int), n - i = d → i ≤ n → d < k → m = m0 + i →
    laws_heldInt64S.l0 k (iota m0 n) m i = some (m0 + n) := by
  induction d with
  | zero =>
    intro k i m hd hi hk he
    obtain ⟨k, rfl⟩ : ∃ m, k = m + 1 := ⟨k - 1, by omega⟩
    simp only [laws_heldInt64S.l0, iota_length]
    rw [if_neg (by omega)]
    have e1 : m = m0 + n := by omega
    rw [e1]
  | succ d ih =>
    intro k i m hd hi hk he
    obtain ⟨k, rfl⟩ : ∃ m, k = m + 1 := ⟨k - 1, by omega⟩
    simp only [laws_heldInt64S.l0, iota_length]
    rw [if_pos (by omega), if_pos (by omega), rd_nat, iota_getD m0 (by omega), if_pos he.symm, w64_succ (n := n) (by omega) hn, w64_id (x := m + 1) (by omega) (by omega)]
    exact ih k (i + 1) (m + 1) (by omega) (by omega) (by omega) (by omega)
theorem held_tells {m : Int} {n : Nat} (hm : 0 ≤ m) (hm' : m + n ≤ 4611686018427387904) (hn : n ≤ 35184372088832) {k : Nat} (hk : n < k) : laws_heldInt64S.f k (iota m n) m = some (m + n) := by
  unfold laws_heldInt64S.f
  exact held_loop hm hm' hn n k 0 m (by omega) (by omega) hk (by omega)
end Go.Proofs.Ytfpojfongjojcaa.F
end

section
set_option linter.unusedVariables false
set_option linter.unusedSimpArgs false
set_option linter.unusedSectionVars false
namespace Go.Proofs.Ytfpojfongjojcaa.F
open Go.RowKit Go.Proofs.YtfpojfongjojcaaW.PrintWords Go.Proofs.YtfpojfongjojcaaW.PrintLast Go.Proofs.Ytfpojfongjojcaa.Lin

/-- A matrix as the list of its numbers. -/
def tab (r c : Nat) (f : Nat → Nat → Int) : List Int := (List.range (r * c)).map fun x => f (x / c) (x % c)
theorem lt_nat {i n : Nat} (h : i < n) : (i : Int) < (n : Int) := Int.ofNat_lt.mpr h
theorem nlt_nat {i n : Nat} (h : n ≤ i) : ¬ (i : Int) < (n : Int) := by omega
theorem idx0 (n : Nat) : (0 : Int) ≤ ((n : Nat) : Int) := Int.natCast_nonneg n
theorem tab_length (r c : Nat) (f) : (tab r c f).length = r * c := by unfold tab; simp
theorem at_div {c i j : Nat} (h : j < c) : (i * c + j) / c = i ∧ (i * c + j) % c = j := by
  rw [Nat.mul_comm]
  exact ⟨by rw [Nat.mul_add_div (by omega), Nat.div_eq_of_lt h]; omega, by rw [Nat.mul_add_mod, Nat.mod_eq_of_lt h]⟩
theorem at_lt {r c i j : Nat} (hi : i < r) (hj : j < c) : i * c + j < r * c := by
  have : (i + 1) * c ≤ r * c := Nat.mul_le_mul_right _ hi
  rw [Nat.succ_mul] at this
  omega
theorem smallS {p x y : Int} (hp : 2 ≤ p) (hp' : p ≤ 251) (hx : 0 ≤ x) (hx' : x ≤ 251) (hy : 0 ≤ y) (hy' : y < p) : 0 ≤ x * y ∧ x * y ≤ 63001 := by
  have g1 := Int.mul_nonneg hx hy
  have g2 : x * y ≤ 251 * 251 := Int.mul_le_mul (by omega) (by omega) hy (by omega)
  omega
theorem idx1 {r c i j : Nat} (f : Nat → Nat → Int) (hi : i < r) (hj : j < c) : ((i * c + j : Nat) : Int) < ((tab r c f).length : Int) := by
  rw [tab_length]; exact Int.ofNat_lt.mpr (at_lt hi hj)
theorem tab_getD {r c : Nat} (f) {x : Nat} (h : x < r * c) : (tab r c f).getD x 0 = f (x / c) (x % c) := by
  unfold tab; simp [List.getD_eq_getElem?_getD, h]
theorem tab_at {r c i j : Nat} (f) (hi : i < r) (hj : j < c) : (tab r c f).getD (i * c + j) 0 = f i j := by
  rw [tab_getD f (at_lt hi hj), (at_div hj).1, (at_div hj).2]
theorem split_at {r c x : Nat} (h : x < r * c) : x / c < r ∧ x % c < c ∧ x / c * c + x % c = x := by
  have hc : 0 < c := by rcases Nat.eq_zero_or_pos c with e | e; · subst e; simp at h
                        · exact e
  exact ⟨Nat.div_lt_of_lt_mul (by rw [Nat.mul_comm]; exact h), Nat.mod_lt _ hc, Nat.div_add_mod' x c⟩
theorem tab_ext {r c : Nat} {f} {l : List Int} (hl : l.length = r * c) (h : ∀ i j, i < r → j < c → l.getD (i * c + j) 0 = f i j) : l = tab r c f := by
  refine ext_getD (by rw [hl, tab_length]) (fun x hx => ?_)
  rw [hl] at hx
  obtain ⟨h1, h2, h3⟩ := split_at hx
  have := h _ _ h1 h2
  rw [h3] at this
  rw [this, tab_getD f hx]
theorem tab_congr {r c : Nat} {f g : Nat → Nat → Int} (h : ∀ i j, i < r → j < c → f i j = g i j) : tab r c f = tab r c g :=
  tab_ext (tab_length r c f) (fun i j hi hj => by rw [tab_at f hi hj, h i j hi hj])
theorem tab_self {r c : Nat} {l : List Int} (hl : l.length = r * c) : tab r c (fun i j => l.getD (i * c + j) 0) = l :=
  (tab_ext hl (fun _ _ _ _ => rfl)).symm
theorem side_mul {r c : Nat} (hr : r ≤ 128) (hc : c ≤ 128) : r * c ≤ 16384 := Nat.mul_le_mul hr hc
theorem w64_at {r c i j : Nat} (hr : r ≤ 128) (hc : c ≤ 128) (hi : i ≤ r) (hj : j ≤ c) : wrap64 (wrap64 ((i : Int) * (c : Int)) + (j : Int)) = ((i * c + j : Nat) : Int) := by
  have h := side_mul (Nat.le_trans hi hr) hc
  have e : (i : Int) * (c : Int) = ((i * c : Nat) : Int) := by push_cast; rfl
  rw [e, w64_id (x := ((i * c : Nat) : Int)) (by omega) (by omega), w64_id (x := ((i * c : Nat) : Int) + (j : Int)) (by omega) (by omega)]
  push_cast; rfl
theorem w64_mulN {r c : Nat} (hr : r ≤ 128) (hc : c ≤ 128) : wrap64 ((r : Int) * (c : Int)) = ((r * c : Nat) : Int) := by
  have h := side_mul hr hc
  have e : (r : Int) * (c : Int) = ((r * c : Nat) : Int) := by push_cast; rfl
  rw [e, w64_id (x := ((r * c : Nat) : Int)) (by omega) (by omega)]
/-- The spec's matrix of zeros. -/
theorem zero_tells {r c : Nat} (hr : r ≤ 128) (hc : c ≤ 128) (p : Int) : spec_l03Zero.f p r c = some (p, (r : Int), (c : Int), tab r c (fun _ _ => 0)) := by
  unfold spec_l03Zero.f
  have h := side_mul hr hc
  rw [w64_mulN hr hc, if_pos (by omega), if_pos (by omega), Int.toNat_natCast]
  congr 4
  refine tab_ext (by simp) (fun i j hi hj => ?_)
  simp [List.getD_eq_getElem?_getD, at_lt hi hj]
theorem side_tells (n : Int) : impl_isSide.f n = some (decide (0 ≤ n ∧ n ≤ 32)) := by
  unfold impl_isSide.f
  rw [same_in, in_tells]; rfl
theorem specPrime_tells (p : Int) {k : Nat} (hk : 20 ≤ k) : spec_ValidPrime.f k p = some (isP p) := by
  unfold spec_ValidPrime.f
  rw [prime_tells p hk]; rfl
/-- A matrix in memory: what is compared, marked and held. -/
theorem eqMatrix_tells {p r c : Int} {l : List Int} (hl : l.length ≤ 35184372088832) {k : Nat} (hk : l.length < k) : laws_eqMatrix.f k p r c l p r c l = some true := by
  unfold laws_eqMatrix.f
  rw [eq_tells hl hk]
  simp
theorem markMatrix_tells {p r c : Int} {l : List Int} (hl : l.length ≤ 35184372088832) {k : Nat} (hk : l.length < k) : laws_markMatrix.f k p r c l 1 = some (1 + (l.length : Int), iota 1 l.length) := by
  unfold laws_markMatrix.f
  rw [mark_tells (by omega) (by omega) hl hk]; rfl
theorem heldMatrix_tells {p r c : Int} {n : Nat} (hl : n ≤ 35184372088832) {k : Nat} (hk : n < k) : laws_heldMatrix.f k p r c (iota 1 n) 1 = some (1 + (n : Int)) := by
  unfold laws_heldMatrix.f
  rw [held_tells (by omega) (by omega) hl hk]
  simp only [Option.bind_some]
  rw [if_neg (by omega)]
theorem tab_set {r c i j : Nat} (f : Nat → Nat → Int) (hi : i < r) (hj : j < c) (v : Int) : (tab r c f).set (i * c + j) v = tab r c (fun a b => if a = i ∧ b = j then v else f a b) := by
  refine tab_ext (by rw [List.length_set, tab_length]) (fun a b ha hb => ?_)
  rw [getD_set _ _ _ _ (by rw [tab_length]; exact at_lt hi hj)]
  by_cases e : a * c + b = i * c + j
  · have h1 := at_div (i := a) hb
    have h2 := at_div (i := i) hj
    rw [e] at h1
    rw [if_pos e, if_pos ⟨by rw [← h1.1, h2.1], by rw [← h1.2, h2.2]⟩]
  · rw [if_neg e, if_neg (fun h => e (by rw [h.1, h.2])), tab_at _ ha hb]
end Go.Proofs.Ytfpojfongjojcaa.F
end

section
set_option linter.unusedVariables false
set_option linter.unusedSimpArgs false
set_option linter.unusedSectionVars false
namespace Go.Proofs.Ytfpojfongjojcaa.F
open Go.RowKit Go.Proofs.YtfpojfongjojcaaW.PrintWords Go.Proofs.YtfpojfongjojcaaW.PrintLast Go.Proofs.Ytfpojfongjojcaa.Lin

/-- All numbers of a list are numbers modulo p. -/
def allM (l : List Int) (p : Int) : Bool := l.all fun x => decide (0 ≤ x) && decide (x < p)
theorem allM_iff {l : List Int} {p : Int} : allM l p = true ↔ ∀ x, x ∈ l → 0 ≤ x ∧ x < p := by unfold allM; simp
theorem areM_tells {l : List Int} {p : Int} (hp : isP p = true) : impl_areElements.f l p = some (allM l p) := by
  have := isP_ge hp
  unfold impl_areElements.f allM
  rw [w64_id (x := p - 1) (by omega) (by omega)]
  congr 1
  induction l with
  | nil => rfl
  | cons x l ih =>
    simp only [List.any_cons, List.all_cons, Bool.not_or, Bool.not_not]
    rw [ih]
    congr 2
    rw [decide_eq_decide]; omega
theorem allM_drop {l : List Int} {p : Int} {i : Nat} (h : i < l.length) : allM (l.drop i) p = (decide (0 ≤ l.getD i 0 ∧ l.getD i 0 ≤ p - 1) && allM (l.drop (i + 1)) p) := by
  rw [List.drop_eq_getElem_cons h]
  unfold allM
  simp only [List.all_cons]
  congr 1
  rw [getD_at h, ← Bool.decide_and, decide_eq_decide]; omega
theorem getD_inM {l : List Int} {p : Int} (hp : 2 ≤ p) (h : ∀ x, x ∈ l → 0 ≤ x ∧ x < p) (j : Nat) : 0 ≤ l.getD j 0 ∧ l.getD j 0 < p := by
  by_cases hj : j < l.length
  · rw [getD_at hj]; exact h _ (List.getElem_mem hj)
  · rw [List.getD_eq_getElem?_getD, List.getElem?_eq_none (by omega)]; simp; omega
theorem column_loop {l : List Int} {n p : Int} (hp : 2 ≤ p) (hp' : p ≤ 251) (hl : l.length ≤ 35184372088832) (d : Nat) : ∀ (k i : Nat), l.length - i = d → i ≤ l.length → d < k →
    spec_l03Column.l0 k l n p i = some (allM (l.drop i) p && decide ((l.length : Int) = n)) := by
  induction d with
  | zero =>
    intro k i hd hi hk
    obtain ⟨k, rfl⟩ : ∃ m, k = m + 1 := ⟨k - 1, by omega⟩
    simp only [spec_l03Column.l0]
    rw [if_neg (by omega), show l.drop i = [] from List.drop_eq_nil_of_le (by omega)]
    simp only [allM, List.all_nil, Bool.true_and]
    congr 1
  | succ d ih =>
    intro k i hd hi hk
    obtain ⟨k, rfl⟩ : ∃ m, k = m + 1 := ⟨k - 1, by omega⟩
    simp only [spec_l03Column.l0]
    rw [if_pos (by omega), if_pos (by omega), rd_nat, w64_id (x := p - 1) (by omega) (by omega), in_tells, w64_succ (n := l.length) (by omega) hl, allM_drop (i := i) (by omega)]
    simp only [Option.bind_some]
    cases h : decide (0 ≤ l.getD i 0 ∧ l.getD i 0 ≤ p - 1) with
    | false => simp
    | true => rw [if_pos rfl, ih k (i + 1) (by omega) (by omega) (by omega)]; simp
theorem column_tells {l : List Int} {n p : Int} (hp : 2 ≤ p) (hp' : p ≤ 251) (hl : l.length ≤ 35184372088832) {k : Nat} (hk : l.length < k) : spec_l03Column.f k l n p = some (allM l p && decide ((l.length : Int) = n)) := by
  unfold spec_l03Column.f
  exact column_loop hp hp' hl l.length k 0 (by omega) (by omega) hk
/-- A matrix of numbers modulo a prime, its sides at most 32. -/
def matOk (p r c : Int) (l : List Int) : Bool := isP p && (decide (0 ≤ r ∧ r ≤ 32) && (decide (0 ≤ c ∧ c ≤ 32) && (decide ((l.length : Int) = r * c) && allM l p)))
theorem matOk_iff {p r c : Int} {l : List Int} : matOk p r c l = true ↔ isP p = true ∧ (0 ≤ r ∧ r ≤ 32) ∧ (0 ≤ c ∧ c ≤ 32) ∧ (l.length : Int) = r * c ∧ ∀ x, x ∈ l → 0 ≤ x ∧ x < p := by
  unfold matOk; simp only [Bool.and_eq_true, decide_eq_true_eq, allM_iff]
theorem side_mulI {r c : Int} (hr : 0 ≤ r ∧ r ≤ 32) (hc : 0 ≤ c ∧ c ≤ 32) : wrap64 (r * c) = r * c ∧ 0 ≤ r * c ∧ r * c ≤ 1024 := by
  have h1 := Int.mul_nonneg hr.1 hc.1
  have h2 : r * c ≤ 32 * 32 := Int.mul_le_mul hr.2 hc.2 hc.1 (by omega)
  exact ⟨w64_id (by omega) (by omega), h1, by omega⟩
theorem specOk_tells (p r c : Int) {l : List Int} (hl : l.length ≤ 35184372088832) {k : Nat} (hk : l.length + 20 < k) : spec_l03Ok.f k p r c l = some (matOk p r c l) := by
  unfold spec_l03Ok.f matOk
  rw [specPrime_tells p (by omega)]
  cases hp : isP p with
  | false => simp
  | true =>
    have hp2 := isP_ge hp
    rw [in_tells, in_tells]
    by_cases h1 : 0 ≤ r ∧ r ≤ 32
    · by_cases h2 : 0 ≤ c ∧ c ≤ 32
      · rw [(side_mulI h1 h2).1, column_tells hp2.1 hp2.2 hl (by omega)]
        simp only [h1, h2, and_self, decide_true, Option.bind_some, if_true, Bool.true_and]
        rw [Bool.and_comm]
      · simp only [h1, h2, and_self, decide_true, decide_false, Option.bind_some, if_true, Bool.true_and, Bool.false_and]; rfl
    · simp only [h1, decide_false, Option.bind_some, if_true, Bool.true_and, Bool.false_and]; rfl
theorem implOk_tells (p r c : Int) {l : List Int} {k : Nat} (hk : 20 ≤ k) : impl_ValidMatrix.f k p r c l = some (matOk p r c l) := by
  unfold impl_ValidMatrix.f matOk
  rw [ask_prime, prime_tells p hk]
  cases hp : isP p with
  | false => simp
  | true =>
    have hp2 := isP_ge hp
    rw [side_tells, side_tells, areM_tells hp]
    by_cases h1 : 0 ≤ r ∧ r ≤ 32
    · by_cases h2 : 0 ≤ c ∧ c ≤ 32
      · rw [(side_mulI h1 h2).1]
        unfold impl_size_int64.f
        simp only [h1, h2, and_self, decide_true, Option.bind_some, if_true, Bool.true_and]
        by_cases h3 : (l.length : Int) = r * c
        · simp [h3]
        · simp [h3]
      · simp only [h1, h2, and_self, decide_true, decide_false, Option.bind_some, if_true, Bool.true_and, Bool.false_and]; rfl
    · simp only [h1, decide_false, Option.bind_some, if_true, Bool.true_and, Bool.false_and]; rfl
theorem szMatrix_tells (p r c : Int) {l : List Int} (hl : l.length ≤ maxLen) : laws_szMatrix.f p r c l 1048576 = some (if l.length ≤ 1048576 then 1048576 - (l.length : Int) else -1) := by
  unfold laws_szMatrix.f laws_szInt64S.f
  have hl : l.length ≤ 9223372036854775807 := hl
  rw [w64_id (x := 1048576 - (l.length : Int)) (by omega) (by omega)]
  by_cases h : l.length ≤ 1048576
  · rw [if_neg (by omega), if_pos h]
    simp only [Option.bind_some]
    rw [if_neg (by omega)]
  · rw [if_pos (by omega), if_neg h]; rfl
theorem toMatrix_tells (p r c : Int) {l : List Int} (hl : l.length ≤ 35184372088832) {k : Nat} (hk : l.length < k) : laws_toMatrix.f k p r c l = some (p, r, c, l) := by
  unfold laws_toMatrix.f
  rw [copy_tells hl hk]; rfl
theorem mul_small {p x y : Int} (hp : 2 ≤ p) (hp' : p ≤ 251) (hx : 0 ≤ x) (hx' : x ≤ 251) (hy : 0 ≤ y) (hy' : y < p) : 0 ≤ x * y ∧ x * y ≤ 63001 := by
  have g1 := Int.mul_nonneg hx hy
  have g2 : x * y ≤ 251 * 251 := Int.mul_le_mul hx' (by omega) hy (by omega)
  omega
theorem dimsM {p r c : Int} {l : List Int} (h : matOk p r c l = true) : ∃ R C : Nat, r = R ∧ c = C ∧ R ≤ 32 ∧ C ≤ 32 ∧ l.length = R * C ∧ (2 ≤ p ∧ p ≤ 251) ∧ ∀ j, 0 ≤ l.getD j 0 ∧ l.getD j 0 < p := by
  obtain ⟨hp, hr, hc, hl, hx⟩ := matOk_iff.mp h
  obtain ⟨R, rfl⟩ := Int.eq_ofNat_of_zero_le hr.1
  obtain ⟨C, rfl⟩ := Int.eq_ofNat_of_zero_le hc.1
  exact ⟨R, C, rfl, rfl, by omega, by omega, by exact_mod_cast hl, isP_ge hp, fun j => getD_inM (isP_ge hp).1 hx j⟩
end Go.Proofs.Ytfpojfongjojcaa.F
end

section
set_option linter.unusedVariables false
set_option linter.unusedSimpArgs false
set_option linter.unusedSectionVars false
namespace Go.Proofs.Ytfpojfongjojcaa.F
open Go.RowKit Go.Proofs.YtfpojfongjojcaaW.PrintWords Go.Proofs.YtfpojfongjojcaaW.PrintLast Go.Proofs.Ytfpojfongjojcaa.Lin

theorem szMatrix_at (p r c : Int) {l : List Int} (hl : l.length ≤ maxLen) {left : Int} (h0 : 0 ≤ left) (h1 : left ≤ 1048576) : laws_szMatrix.f p r c l left = some (if (l.length : Int) ≤ left then left - (l.length : Int) else -1) := by
  unfold laws_szMatrix.f laws_szInt64S.f
  have hl : l.length ≤ 9223372036854775807 := hl
  rw [w64_id (x := left - (l.length : Int)) (by omega) (by omega)]
  by_cases h : (l.length : Int) ≤ left
  · rw [if_neg (by omega), if_pos h]
    simp only [Option.bind_some]
    rw [if_neg (by omega)]
  · rw [if_pos (by omega), if_neg h]; rfl
theorem markMatrix_at {p r c m : Int} {l : List Int} (hm : 0 ≤ m) (hm' : m ≤ 35184372088832) (hl : l.length ≤ 35184372088832) {k : Nat} (hk : l.length < k) : laws_markMatrix.f k p r c l m = some (m + (l.length : Int), iota m l.length) := by
  unfold laws_markMatrix.f
  rw [mark_tells hm (by omega) hl hk]; rfl
theorem both_tells (p r c : Int) {l : List Int} (p' r' c' : Int) {l' : List Int} (hl : l.length ≤ 35184372088832) (hl' : l'.length ≤ 35184372088832) {k : Nat} (hk : l.length + 20 < k) (hk' : l'.length + 20 < k) :
    spec_l03Both.f k p r c l p' r' c' l' = some (matOk p r c l && matOk p' r' c' l') := by
  unfold spec_l03Both.f
  rw [specOk_tells p r c hl hk, specOk_tells p' r' c' hl' hk']
  cases matOk p r c l <;> rfl
end Go.Proofs.Ytfpojfongjojcaa.F
end

section
set_option linter.unusedVariables false
set_option linter.unusedSimpArgs false
set_option linter.unusedSectionVars false
namespace Go.Proofs.Ytfpojfongjojcaa.F
open Go.RowKit Go.Proofs.YtfpojfongjojcaaW.PrintWords Go.Proofs.YtfpojfongjojcaaW.PrintLast Go.Proofs.Ytfpojfongjojcaa.Lin

theorem slice_row {l : List Int} {r c i : Nat} (hl : l.length = r * c) (hi : i < r) : (l.take ((i + 1) * c)).drop (i * c) = (List.range c).map (fun j => l.getD (i * c + j) 0) := by
  have h1 : (i + 1) * c ≤ r * c := Nat.mul_le_mul_right _ hi
  have h2 := Nat.succ_mul i c
  have h4 : ((l.take ((i + 1) * c)).drop (i * c)).length = c := by
    rw [List.length_drop, List.length_take, Nat.min_eq_left (by rw [hl]; exact h1), h2, Nat.add_sub_cancel_left]
  refine List.ext_getElem (by rw [h4]; simp) (fun j hj hj' => ?_)
  have hj2 : j < c := by rw [h4] at hj; exact hj
  have h3 := at_lt hi hj2
  rw [List.getElem_drop, List.getElem_take, List.getElem_map, List.getElem_range, List.getD_eq_getElem?_getD, List.getElem?_eq_getElem (by omega)]
  rfl
end Go.Proofs.Ytfpojfongjojcaa.F
end

section
set_option linter.unusedVariables false
set_option linter.unusedSimpArgs false
set_option linter.unusedSectionVars false
namespace Go.Proofs.Ytfpojfongjojcaa.F
open Go.RowKit Go.Proofs.YtfpojfongjojcaaW.PrintWords Go.Proofs.YtfpojfongjojcaaW.PrintLast Go.Proofs.Ytfpojfongjojcaa.Lin

/-- A row of a matrix times a column: the first n products' sum. -/
def rowS (c : Nat) (v l : List Int) (i n : Nat) : Int := ((List.range n).map (fun j => l.getD (i * c + j) 0 * v.getD j 0)).sum
theorem rowS_succ (c : Nat) (v l : List Int) (i n : Nat) : rowS c v l i (n + 1) = rowS c v l i n + l.getD (i * c + n) 0 * v.getD n 0 := by
  unfold rowS
  rw [List.range_succ, List.map_append, List.sum_append]
  simp
theorem rowS_range {p : Int} (hp : 2 ≤ p) (hp' : p ≤ 251) {v l : List Int} (hl : ∀ j, 0 ≤ l.getD j 0 ∧ l.getD j 0 < p) (hv : ∀ j, 0 ≤ v.getD j 0 ∧ v.getD j 0 < p) (c i n : Nat) : 0 ≤ rowS c v l i n ∧ rowS c v l i n ≤ n * 63001 := by
  induction n with
  | zero => unfold rowS; simp
  | succ n ih =>
    rw [rowS_succ]
    have := mul_small hp hp' (hl (i * c + n)).1 (by have := (hl (i * c + n)).2; omega) (hv n).1 (hv n).2
    push_cast
    omega
theorem dotI_loop {a b : List Int} {p : Int} (hp : 2 ≤ p) (hp' : p ≤ 251) (hl : a.length = b.length) (hn : a.length ≤ 35184372088832) (ha : ∀ j, 0 ≤ a.getD j 0 ∧ a.getD j 0 < p) (hb : ∀ j, 0 ≤ b.getD j 0 ∧ b.getD j 0 < p) (d : Nat) :
    ∀ (k i : Nat) (s : Int), a.length - i = d → i ≤ a.length → d < k → s = rowS 0 b a 0 i % p → impl_dot.l0 k a b p s a.length i = some (rowS 0 b a 0 a.length % p) := by
  induction d with
  | zero =>
    intro k i s hd hi hk hs
    obtain ⟨k, rfl⟩ : ∃ m, k = m + 1 := ⟨k - 1, by omega⟩
    obtain rfl : i = a.length := by omega
    simp only [impl_dot.l0]
    rw [if_neg (by omega), hs]
  | succ d ih =>
    intro k i s hd hi hk hs
    obtain ⟨k, rfl⟩ : ∃ m, k = m + 1 := ⟨k - 1, by omega⟩
    simp only [impl_dot.l0]
    have h1 : (i : Int) < (a.length : Int) := by omega
    have h2 : (i : Int) < (b.length : Int) := by omega
    have h0 : (0 : Int) ≤ (i : Int) := by omega
    have hp0 : ¬ p = 0 := by omega
    have hs2 : 0 ≤ s ∧ s < p := by rw [hs]; exact ⟨Int.emod_nonneg _ (by omega), Int.emod_lt_of_pos _ (by omega)⟩
    have hm := mul_small hp hp' (ha i).1 (by have := (ha i).2; omega) (hb i).1 (hb i).2
    have e : Int.tmod (wrap64 (s + wrap64 (rd a i * rd b i))) p = rowS 0 b a 0 (i + 1) % p := by
      rw [rd_nat, rd_nat, w64_id (x := a.getD i 0 * b.getD i 0) (by omega) (by omega), w64_id (x := s + a.getD i 0 * b.getD i 0) (by omega) (by omega), Int.tmod_eq_emod_of_nonneg (by omega), rowS_succ, hs, Int.emod_add_emod]
      congr 3
      rw [show 0 * 0 + i = i by omega]
    simp only [h0, h1, h2, hp0, if_true, if_false]
    rw [e, w64_succ (n := a.length) (by omega) hn]
    exact ih k (i + 1) _ (by omega) (by omega) (by omega) rfl
theorem dotI_tells {a b : List Int} {p : Int} (hp : 2 ≤ p) (hp' : p ≤ 251) (hl : a.length = b.length) (hn : a.length ≤ 35184372088832) (ha : ∀ j, 0 ≤ a.getD j 0 ∧ a.getD j 0 < p) (hb : ∀ j, 0 ≤ b.getD j 0 ∧ b.getD j 0 < p) {k : Nat} (hk : a.length < k) :
    impl_dot.f k a b p = some (rowS 0 b a 0 a.length % p) := by
  unfold impl_dot.f
  exact dotI_loop hp hp' hl hn ha hb a.length k 0 0 (by omega) (by omega) hk (by unfold rowS; simp)
theorem mapD {n j : Nat} (f : Nat → Int) (h : j < n) : ((List.range n).map f).getD j 0 = f j := by simp [List.getD_eq_getElem?_getD, h]
theorem mapD_in {p : Int} (hp : 2 ≤ p) {n : Nat} {f : Nat → Int} (h : ∀ j, 0 ≤ f j ∧ f j < p) (j : Nat) : 0 ≤ ((List.range n).map f).getD j 0 ∧ ((List.range n).map f).getD j 0 < p := by
  by_cases hj : j < n
  · rw [mapD f hj]; exact h j
  · rw [List.getD_eq_getElem?_getD, List.getElem?_eq_none (by simp; omega)]; simp; omega
theorem rowS_congr {c i : Nat} {v l a : List Int} (n : Nat) (h : ∀ j, j < n → a.getD j 0 = l.getD (i * c + j) 0) : rowS 0 v a 0 n = rowS c v l i n := by
  induction n with
  | zero => rfl
  | succ n ih => rw [rowS_succ, rowS_succ, ih (fun j hj => h j (by omega)), show 0 * 0 + n = n by omega, h n (by omega)]
theorem row_tells {p r : Int} {R c : Nat} {l v : List Int} (hp : 2 ≤ p) (hp' : p ≤ 251) (hR : R ≤ 64) (hc : c ≤ 64) (hlen : l.length = R * c) (hl : ∀ j, 0 ≤ l.getD j 0 ∧ l.getD j 0 < p) (hv : ∀ j, 0 ≤ v.getD j 0 ∧ v.getD j 0 < p) (hvl : v.length = c) {i : Nat} (hi : i < R) {k : Nat} (hk : 64 < k) :
    impl_Matrix_row.f k p r c l i v p = some (rowS c v l i c % p) := by
  have a1 : i ≤ 128 := by omega
  have a2 : i + 1 ≤ 128 := by omega
  have a3 : c ≤ 128 := by omega
  have a8 : R ≤ 35184372088832 := by omega
  have a9 : c < k := by omega
  have a10 : c ≤ 35184372088832 := by omega
  have g1 : (i + 1) * c ≤ R * c := Nat.mul_le_mul_right _ hi
  have g3 : (i + 1) * c = i * c + c := Nat.succ_mul i c
  have n1 : (0 : Int) ≤ ((i * c : Nat) : Int) := Int.natCast_nonneg _
  have n2 : ((i * c : Nat) : Int) ≤ (((i + 1) * c : Nat) : Int) := Int.ofNat_le.mpr (by rw [g3]; exact Nat.le_add_right _ _)
  have n3 : (((i + 1) * c : Nat) : Int) ≤ (l.length : Int) := Int.ofNat_le.mpr (by rw [hlen]; exact g1)
  have e1 : wrap64 ((i : Int) + 1) = ((i + 1 : Nat) : Int) := w64_succ (n := R) hi a8
  have m1 := w64_mulN a1 a3
  have m2 := w64_mulN a2 a3
  unfold impl_Matrix_row.f
  rw [e1, m1, m2, if_pos n1, if_pos n2, if_pos n3, Int.toNat_natCast, Int.toNat_natCast, slice_row hlen hi]
  have hz : ((List.range c).map (fun j => l.getD (i * c + j) 0)).length = c := by simp
  have := dotI_tells (a := (List.range c).map (fun j => l.getD (i * c + j) 0)) hp hp' (by rw [hz, hvl]) (by rw [hz]; exact a10) (mapD_in hp (fun j => hl _)) hv (k := k) (by rw [hz]; exact a9)
  rw [this, hz, rowS_congr c (fun j hj => mapD (fun j => l.getD (i * c + j) 0) hj)]
end Go.Proofs.Ytfpojfongjojcaa.F
end

section
set_option linter.unusedVariables false
set_option linter.unusedSimpArgs false
set_option linter.unusedSectionVars false
namespace Go.Proofs.Ytfpojfongjojcaa.F
open Go.RowKit Go.Proofs.YtfpojfongjojcaaW.PrintWords Go.Proofs.YtfpojfongjojcaaW.PrintLast Go.Proofs.Ytfpojfongjojcaa.Lin

theorem range_map_snoc (g : Nat → Int) (n : Nat) : (List.range n).map g ++ [g n] = (List.range (n + 1)).map g := by rw [List.range_succ]; simp
theorem filled_row {cf : Cell2} {f : Nat → Nat → Int} {r c : Nat} (hr : r ≤ 128) (hc : c ≤ 128) {i : Nat} (hi : i < r) (h : ∀ j, j < c → cf.f i j = some (f i j)) (p : Int) (d : Nat) : ∀ (k j : Nat), c - j = d → j ≤ c →
    impl_filled.l1 cf (k + d + 1) c i r i c j p r c ((List.range (i * c + j)).map fun x => f (x / c) (x % c)) =
    impl_filled.l0 cf k c r ((i + 1 : Nat) : Int) p r c ((List.range ((i + 1) * c)).map fun x => f (x / c) (x % c)) := by
  induction d with
  | zero =>
    intro k j hd hj
    obtain rfl : j = c := by omega
    rw [show k + 0 + 1 = k + 1 by omega]
    simp only [impl_filled.l1]
    rw [if_neg (by omega), w64_succ (n := r) hi (by omega), Nat.succ_mul]
  | succ d ih =>
    intro k j hd hj
    have hj' : j < c := by omega
    have hlt := at_lt hi hj'
    have hm := side_mul hr hc
    rw [show k + (d + 1) + 1 = (k + d + 1) + 1 by omega]
    simp only [impl_filled.l1]
    rw [if_pos (by omega), h j hj']
    simp only [Option.bind_some, List.length_map, List.length_range]
    rw [if_pos (by omega), w64_succ (n := c) hj' (by omega)]
    have e : f i j = (fun x => f (x / c) (x % c)) (i * c + j) := by simp only [(at_div hj').1, (at_div hj').2]
    rw [e, range_map_snoc]
    exact ih k (j + 1) (by omega) (by omega)
theorem filled_loop {cf : Cell2} {f : Nat → Nat → Int} {r c : Nat} (hr : r ≤ 128) (hc : c ≤ 128) (h : ∀ i j, i < r → j < c → cf.f i j = some (f i j)) (p : Int) (d : Nat) : ∀ (k i : Nat), r - i = d → i ≤ r → d * (c + 2) < k →
    impl_filled.l0 cf k c r i p r c ((List.range (i * c)).map fun x => f (x / c) (x % c)) = some (p, (r : Int), (c : Int), tab r c f) := by
  induction d with
  | zero =>
    intro k i hd hi hk
    obtain ⟨k, rfl⟩ : ∃ m, k = m + 1 := ⟨k - 1, by omega⟩
    obtain rfl : i = r := by omega
    simp only [impl_filled.l0]
    rw [if_neg (by omega)]
    rfl
  | succ d ih =>
    intro k i hd hi hk
    rw [Nat.succ_mul] at hk
    obtain ⟨k, rfl⟩ : ∃ m, k = m + c + 1 + 1 := ⟨k - c - 1 - 1, by omega⟩
    simp only [impl_filled.l0]
    rw [if_pos (by omega)]
    have := filled_row hr hc (show i < r by omega) (fun j hj => h i j (by omega) hj) p c k 0 (by omega) (by omega)
    rw [show i * c + 0 = i * c from rfl] at this
    rw [show (0 : Int) = ((0 : Nat) : Int) from rfl, this]
    exact ih k (i + 1) (by omega) (by omega) (by omega)
/-- 'filled' tells the matrix whose numbers its function tells. -/
theorem filled_tells {cf : Cell2} {f : Nat → Nat → Int} {r c : Nat} (hr : r ≤ 128) (hc : c ≤ 128) (h : ∀ i j, i < r → j < c → cf.f i j = some (f i j)) (p a3 : Int) {k : Nat} (hk : 17000 ≤ k) :
    impl_filled.f cf k p r c a3 = some (p, (r : Int), (c : Int), tab r c f) := by
  have h2 : r * (c + 2) ≤ 128 * 130 := Nat.mul_le_mul hr (by omega)
  have := filled_loop hr hc h p r k 0 (by omega) (by omega) (by omega)
  unfold impl_filled.f
  rw [show ([] : List Int) = (List.range (0 * c)).map fun x => f (x / c) (x % c) by simp]
  exact this
end Go.Proofs.Ytfpojfongjojcaa.F
end

section
set_option linter.unusedVariables false
set_option linter.unusedSimpArgs false
set_option linter.unusedSectionVars false
namespace Go.Proofs.Ytfpojfongjojcaa.F
open Go.RowKit Go.Proofs.YtfpojfongjojcaaW.PrintWords Go.Proofs.YtfpojfongjojcaaW.PrintLast Go.Proofs.Ytfpojfongjojcaa.Lin

/-- A number of a matrix by its row and column. -/
theorem at_tells {p r c : Int} {l : List Int} {R C : Nat} (hr : R ≤ 128) (hc : C ≤ 128) (ec : c = C) (hl : l.length = R * C) {i j : Nat} (hi : i < R) (hj : j < C) : impl_Matrix_at.f p r c l i j = some (l.getD (i * C + j) 0) := by
  subst ec
  have h := at_lt hi hj
  unfold impl_Matrix_at.f
  rw [w64_at (r := R) hr hc (by omega) (by omega), if_pos (by omega), if_pos (by omega), rd_nat]
end Go.Proofs.Ytfpojfongjojcaa.F
end

section
set_option linter.unusedVariables false
set_option linter.unusedSimpArgs false
set_option linter.unusedSectionVars false
namespace Go.Proofs.Ytfpojfongjojcaa.F
open Go.RowKit Go.Proofs.YtfpojfongjojcaaW.PrintWords Go.Proofs.YtfpojfongjojcaaW.PrintLast Go.Proofs.Ytfpojfongjojcaa.Lin

/-- The transposed matrix. -/
def turned (r c : Nat) (l : List Int) : List Int := tab c r (fun i j => l.getD (j * c + i) 0)
theorem implTransposed_tells (p : Int) {r c : Nat} (hr : r ≤ 128) (hc : c ≤ 128) {l : List Int} (hl : l.length = r * c) {k : Nat} (hk : 17000 ≤ k) : impl_transpose.f k p r c l = some (p, (c : Int), (r : Int), turned r c l) := by
  unfold impl_transpose.f
  rw [filled_tells (f := fun i j => l.getD (j * c + i) 0) hc hr (fun i j hi hj => at_tells (p := p) (r := (r : Int)) (R := r) hr hc rfl hl hj hi) p 0 hk]
  rfl
end Go.Proofs.Ytfpojfongjojcaa.F
end

section
set_option linter.unusedVariables false
set_option linter.unusedSimpArgs false
set_option linter.unusedSectionVars false
namespace Go.Proofs.Ytfpojfongjojcaa.Lin

/-- The inverse of a number that is not 0. -/
def pinv (p a : Int) : Int := a ^ (p - 2).toNat % p
theorem pinv_range {p a : Int} (hp : isP p = true) : 0 ≤ pinv p a ∧ pinv p a < p := by
  have hp2 := isP_ge hp
  exact ⟨Int.emod_nonneg _ (by omega), Int.emod_lt_of_pos _ (by omega)⟩

/-! ### Rows as lists -/
/-- A row of n numbers modulo p. -/
def RowOk (p : Int) (n : Nat) (r : List Int) : Prop := r.length = n ∧ ∀ x, x ∈ r → 0 ≤ x ∧ x < p
def RowsOk (p : Int) (n : Nat) (rows : List (List Int)) : Prop := ∀ r, r ∈ rows → RowOk p n r
def cell (rows : List (List Int)) (i j : Nat) : Int := (rows.getD i []).getD j 0
theorem RowsOk.cell {p : Int} {n : Nat} {rows : List (List Int)} (h : RowsOk p n rows) (hp : 0 < p) (i j : Nat) : 0 ≤ cell rows i j ∧ cell rows i j < p := by
  unfold Lin.cell
  rw [List.getD_eq_getElem?_getD, List.getD_eq_getElem?_getD]
  by_cases hi : i < rows.length
  · rw [List.getElem?_eq_getElem hi]
    simp only [Option.getD_some]
    by_cases hj : j < (rows[i]).length
    · rw [List.getElem?_eq_getElem hj]
      exact (h _ (List.getElem_mem hi)).2 _ (List.getElem_mem hj)
    · rw [List.getElem?_eq_none (by omega)]; exact ⟨Int.le_refl 0, hp⟩
  · rw [List.getElem?_eq_none (show rows.length ≤ i by omega)]; simp; omega

/-- The rows below the first ones: where is the first number at c that is not 0? -/
def findPivot (rows : List (List Int)) (top c : Nat) : Option Nat := (rows.drop top).findIdx? (fun r => decide (r.getD c 0 ≠ 0))
def swapRows (rows : List (List Int)) (a b : Nat) : List (List Int) := (rows.set a (rows.getD b [])).set b (rows.getD a [])
def clearRow (p : Int) (c : Nat) (q r : List Int) : List Int := if r.getD c 0 = 0 then r else addRow p r q (p - r.getD c 0)
def clearAll (p : Int) (c top : Nat) (q : List Int) (rows : List (List Int)) : List (List Int) := rows.mapIdx (fun i r => if i = top then r else clearRow p c q r)
/-- A column of the elimination: rows, pivots, determinant. -/
def elimStep (p : Int) (s : List (List Int) × List Int × Int) (c : Nat) : List (List Int) × List Int × Int :=
  match findPivot s.1 s.2.1.length c with
  | none => (s.1, s.2.1, 0)
  | some k =>
    let top := s.2.1.length
    let rows := if k = 0 then s.1 else swapRows s.1 top (top + k)
    let lead := cell rows top c
    let q := (rows.getD top []).map (fun x => pinv p lead * x % p)
    (clearAll p c top q (rows.set top q), s.2.1 ++ [(c : Int)], (if k = 0 then s.2.2 else -s.2.2 % p) * lead % p)
def elimTo (p : Int) (rows : List (List Int)) (c : Nat) : List (List Int) × List Int × Int := (List.range c).foldl (elimStep p) (rows, [], 1)
theorem elimTo_succ (p : Int) (rows : List (List Int)) (c : Nat) : elimTo p rows (c + 1) = elimStep p (elimTo p rows c) c := by
  unfold elimTo; rw [List.range_succ, List.foldl_append]; rfl
/-- The reduced rows, the pivots, the determinant. -/
def elim (p : Int) (n : Nat) (rows : List (List Int)) : List (List Int) × List Int × Int := elimTo p rows n

theorem swapRows_length (rows : List (List Int)) (a b : Nat) : (swapRows rows a b).length = rows.length := by unfold swapRows; simp
theorem clearAll_length (p : Int) (c top : Nat) (q : List Int) (rows : List (List Int)) : (clearAll p c top q rows).length = rows.length := by unfold clearAll; simp
theorem swapRows_get (rows : List (List Int)) {a b : Nat} (ha : a < rows.length) (hb : b < rows.length) (i : Nat) : (swapRows rows a b).getD i [] = if i = b then rows.getD a [] else if i = a then rows.getD b [] else rows.getD i [] := by
  unfold swapRows
  simp only [List.getD_eq_getElem?_getD, List.getElem?_set, List.length_set]
  by_cases h1 : b = i
  · subst h1; simp [hb]
  · by_cases h2 : a = i
    · subst h2; simp [h1, ha, Ne.symm h1]
    · simp [h1, h2, Ne.symm h1, Ne.symm h2]
theorem getD_mem {α : Type} {l : List α} {i : Nat} {d : α} (h : i < l.length) : l.getD i d ∈ l := by
  rw [List.getD_eq_getElem?_getD, List.getElem?_eq_getElem h]; exact List.getElem_mem h
theorem findPivot_some {rows : List (List Int)} {top c k : Nat} (h : findPivot rows top c = some k) : top + k < rows.length ∧ cell rows (top + k) c ≠ 0 := by
  unfold findPivot at h
  obtain ⟨hk, hp, _⟩ := List.findIdx?_eq_some_iff_getElem.mp h
  rw [List.length_drop] at hk
  refine ⟨by omega, ?_⟩
  rw [List.getElem_drop] at hp
  unfold cell
  rw [List.getD_eq_getElem?_getD (l := rows), List.getElem?_eq_getElem (show top + k < rows.length by omega)]
  simpa using hp
theorem findPivot_none {rows : List (List Int)} {top c : Nat} (h : findPivot rows top c = none) (i : Nat) (h1 : top ≤ i) (h2 : i < rows.length) : cell rows i c = 0 := by
  unfold findPivot at h
  have h3 := List.findIdx?_eq_none_iff.mp h (rows[i]) (by
    rw [List.mem_iff_getElem]
    exact ⟨i - top, by rw [List.length_drop]; omega, by rw [List.getElem_drop]; congr 1; omega⟩)
  unfold cell
  rw [List.getD_eq_getElem?_getD (l := rows), List.getElem?_eq_getElem h2]
  simpa using h3
theorem addRow_ok {p : Int} {n : Nat} {a b : List Int} (c : Int) (hp : 0 < p) (ha : a.length = n) (hb : b.length = n) : RowOk p n (addRow p a b c) := by
  refine ⟨by unfold addRow; simp [ha, hb], fun x hx => ?_⟩
  unfold addRow at hx
  rw [List.mem_iff_getElem] at hx
  obtain ⟨j, hj, rfl⟩ := hx
  rw [List.getElem_zipWith]
  exact ⟨Int.emod_nonneg _ (by omega), Int.emod_lt_of_pos _ hp⟩
theorem scale_ok {p : Int} {n : Nat} {a : List Int} (c : Int) (hp : 0 < p) (ha : a.length = n) : RowOk p n (a.map (fun x => c * x % p)) := by
  refine ⟨by simp [ha], fun x hx => ?_⟩
  obtain ⟨y, _, rfl⟩ := List.mem_map.mp hx
  exact ⟨Int.emod_nonneg _ (by omega), Int.emod_lt_of_pos _ hp⟩
theorem RowsOk.set {p : Int} {n : Nat} {rows : List (List Int)} (h : RowsOk p n rows) {r : List Int} (hr : RowOk p n r) (k : Nat) : RowsOk p n (rows.set k r) := fun x hx => by
  rcases List.mem_or_eq_of_mem_set hx with h1 | h1
  · exact h x h1
  · rw [h1]; exact hr
theorem RowsOk.swap {p : Int} {n : Nat} {rows : List (List Int)} (h : RowsOk p n rows) {a b : Nat} (ha : a < rows.length) (hb : b < rows.length) : RowsOk p n (swapRows rows a b) :=
  (h.set (h _ (getD_mem hb)) a).set (h _ (getD_mem ha)) b
theorem clearRow_ok {p : Int} {n : Nat} {q r : List Int} (c : Nat) (hp : 0 < p) (hq : q.length = n) (hr : RowOk p n r) : RowOk p n (clearRow p c q r) := by
  unfold clearRow
  split
  · exact hr
  · exact addRow_ok _ hp hr.1 hq
theorem RowsOk.clear {p : Int} {n : Nat} {rows : List (List Int)} (h : RowsOk p n rows) (hp : 0 < p) {q : List Int} (hq : q.length = n) (c top : Nat) : RowsOk p n (clearAll p c top q rows) := fun x hx => by
  unfold clearAll at hx
  obtain ⟨i, hi, rfl⟩ := List.mem_mapIdx.mp hx
  split
  · exact h _ (List.getElem_mem hi)
  · exact clearRow_ok c hp hq (h _ (List.getElem_mem hi))
theorem clearAll_get {p : Int} {c top : Nat} {q : List Int} {rows : List (List Int)} {i : Nat} (hi : i < rows.length) : (clearAll p c top q rows).getD i [] = if i = top then rows.getD i [] else clearRow p c q (rows.getD i []) := by
  unfold clearAll
  simp only [List.getD_eq_getElem?_getD, List.getElem?_mapIdx, List.getElem?_eq_getElem hi, Option.map_some, Option.getD_some]
theorem elimStep_none {p : Int} {c : Nat} {rows : List (List Int)} {piv : List Int} {d : Int} (h : findPivot rows piv.length c = none) : elimStep p (rows, piv, d) c = (rows, piv, 0) := by
  unfold elimStep
  dsimp only
  rw [h]
/-- What every step of the elimination keeps. -/
theorem elimTo_small {p : Int} {n : Nat} {rows : List (List Int)} (hp : isP p = true) (hok : RowsOk p n rows) (c : Nat) (hc : c ≤ n) :
    RowsOk p n (elimTo p rows c).1 ∧ (elimTo p rows c).1.length = rows.length ∧ (elimTo p rows c).2.1.length ≤ c ∧ (elimTo p rows c).2.1.length ≤ rows.length ∧ (0 ≤ (elimTo p rows c).2.2 ∧ (elimTo p rows c).2.2 < p) ∧ ((elimTo p rows c).2.1.length < c → (elimTo p rows c).2.2 = 0) := by
  have hp2 := isP_ge hp
  induction c with
  | zero => exact ⟨hok, rfl, Nat.le_refl _, Nat.zero_le _, ⟨by show (0:Int) ≤ 1; omega, by show (1:Int) < p; omega⟩, fun h => absurd h (Nat.not_lt_zero _)⟩
  | succ c ih =>
    obtain ⟨h1, h2, h3, h4, h5, h6⟩ := ih (by omega)
    rw [elimTo_succ]
    generalize elimTo p rows c = s at *
    obtain ⟨R, piv, d⟩ := s
    dsimp only at *
    cases hf : findPivot R piv.length c with
    | none =>
      rw [elimStep_none hf]
      exact ⟨h1, h2, Nat.le_succ_of_le h3, h4, ⟨Int.le_refl 0, by show (0:Int) < p; omega⟩, fun _ => rfl⟩
    | some k =>
      obtain ⟨b1, b2⟩ := findPivot_some hf
      have hst : elimStep p (R, piv, d) c = (clearAll p c piv.length (((if k = 0 then R else swapRows R piv.length (piv.length + k)).getD piv.length []).map (fun x => pinv p (cell (if k = 0 then R else swapRows R piv.length (piv.length + k)) piv.length c) * x % p)) ((if k = 0 then R else swapRows R piv.length (piv.length + k)).set piv.length (((if k = 0 then R else swapRows R piv.length (piv.length + k)).getD piv.length []).map (fun x => pinv p (cell (if k = 0 then R else swapRows R piv.length (piv.length + k)) piv.length c) * x % p))), piv ++ [(c : Int)], (if k = 0 then d else -d % p) * cell (if k = 0 then R else swapRows R piv.length (piv.length + k)) piv.length c % p) := by
        unfold elimStep; simp only [hf]
      rw [hst]
      have hW : RowsOk p n (if k = 0 then R else swapRows R piv.length (piv.length + k)) ∧ (if k = 0 then R else swapRows R piv.length (piv.length + k)).length = R.length := by
        by_cases e : k = 0
        · rw [if_pos e]; exact ⟨h1, rfl⟩
        · rw [if_neg e]; exact ⟨RowsOk.swap h1 (by omega) b1, swapRows_length _ _ _⟩
      have hz : (if k = 0 then d else -d % p) = 0 ∨ ¬ piv.length < c := by
        by_cases e : piv.length < c
        · left; rw [h6 e]; simp
        · exact .inr e
      generalize (if k = 0 then R else swapRows R piv.length (piv.length + k)) = W at hW ⊢
      generalize (if k = 0 then d else -d % p) = e at hz ⊢
      have okT : RowOk p n (W.getD piv.length []) := hW.1 _ (getD_mem (by omega))
      have hq : RowOk p n ((W.getD piv.length []).map (fun x => pinv p (cell W piv.length c) * x % p)) := scale_ok _ (by omega) okT.1
      refine ⟨RowsOk.clear (RowsOk.set hW.1 hq _) (by omega) hq.1 c _, ?_, ?_, ?_, ⟨Int.emod_nonneg _ (by omega), Int.emod_lt_of_pos _ (by omega)⟩, fun h => ?_⟩
      · rw [clearAll_length, List.length_set]; omega
      · simp; omega
      · simp; omega
      · rcases hz with hz | hz
        · show e * _ % p = 0
          rw [hz]; simp
        · exfalso; simp at h; omega
end Go.Proofs.Ytfpojfongjojcaa.Lin
end

section
set_option linter.unusedVariables false
set_option linter.unusedSimpArgs false
set_option linter.unusedSectionVars false
namespace Go.Proofs.Ytfpojfongjojcaa.F
open Go.RowKit Go.Proofs.YtfpojfongjojcaaW.PrintWords Go.Proofs.YtfpojfongjojcaaW.PrintLast Go.Proofs.Ytfpojfongjojcaa.Lin

theorem rdL_nat (l : List (List Int)) (i : Nat) : rd_L1 l (i : Int) = l.getD i [] := by unfold rd_L1; rw [Int.toNat_natCast]
/-- The rows of a matrix. -/
def rowsM (R C : Nat) (l : List Int) : List (List Int) := (List.range R).map (fun i => (List.range C).map (fun j => l.getD (i * C + j) 0))
theorem rowsM_length (R C : Nat) (l : List Int) : (rowsM R C l).length = R := by unfold rowsM; simp
theorem rowsM_snoc (R C : Nat) (l : List Int) : rowsM R C l ++ [(List.range C).map (fun j => l.getD (R * C + j) 0)] = rowsM (R + 1) C l := by
  unfold rowsM; rw [List.range_succ, List.map_append]; rfl
theorem rowsM_ok {p : Int} {R C : Nat} {l : List Int} (h : ∀ j, 0 ≤ l.getD j 0 ∧ l.getD j 0 < p) : RowsOk p C (rowsM R C l) := fun r hr => by
  unfold rowsM at hr
  obtain ⟨i, _, rfl⟩ := List.mem_map.mp hr
  refine ⟨by simp, fun x hx => ?_⟩
  obtain ⟨j, _, rfl⟩ := List.mem_map.mp hx
  exact h _
theorem rowsM_cell {R C i j : Nat} (l : List Int) (hi : i < R) (hj : j < C) : cell (rowsM R C l) i j = l.getD (i * C + j) 0 := by
  unfold cell rowsM
  simp [List.getD_eq_getElem?_getD, hi, hj]
theorem rowsM_tab {R C : Nat} {l : List Int} (hl : l.length = R * C) : tab R C (cell (rowsM R C l)) = l :=
  (tab_ext hl (fun i j hi hj => (rowsM_cell l hi hj).symm)).symm
theorem clone_tells {p r : Int} {R C : Nat} {l : List Int} (hR : R ≤ 64) (hC : C ≤ 70) (hl : l.length = R * C) {i : Nat} (hi : i < R) :
    slices_Clone_int64_int64.f p r C l i = some ((List.range C).map (fun j => l.getD (i * C + j) 0)) := by
  unfold slices_Clone_int64_int64.f
  have h1 : (i + 1) * C ≤ R * C := Nat.mul_le_mul_right _ hi
  have h2 : i * C ≤ (i + 1) * C := Nat.mul_le_mul_right _ (by omega)
  rw [w64_succ (n := 64) (i := i) (by omega) (by omega), w64_mulN (r := i) (by omega) (by omega), w64_mulN (r := i + 1) (by omega) (by omega), if_pos (idx0 _), if_pos (by omega), if_pos (by omega), Int.toNat_natCast, Int.toNat_natCast, slice_row hl hi]
  rw [if_pos (by simp; omega)]
theorem rowsOf_loop {p r : Int} {R C : Nat} {l : List Int} (hR : R ≤ 64) (hC : C ≤ 70) (hl : l.length = R * C) (d : Nat) : ∀ k i, R - i = d → i ≤ R → d < k → impl_rowsOf.l0 k (rowsM i C l) R i p r C l = some (rowsM R C l) := by
  induction d with
  | zero =>
    intro k i hd hi hk
    obtain ⟨k, rfl⟩ : ∃ m, k = m + 1 := ⟨k - 1, by omega⟩
    obtain rfl : i = R := by omega
    simp only [impl_rowsOf.l0]
    rw [if_neg (nlt_nat (Nat.le_refl _))]
  | succ d ih =>
    intro k i hd hi hk
    obtain ⟨k, rfl⟩ : ∃ m, k = m + 1 := ⟨k - 1, by omega⟩
    have hiR : i < R := by omega
    simp only [impl_rowsOf.l0]
    rw [if_pos (lt_nat hiR), clone_tells hR hC hl hiR, Option.bind_some, if_pos (by rw [rowsM_length]; omega), rowsM_snoc, w64_succ (n := 64) (by omega) (by omega)]
    exact ih k (i + 1) (by omega) (by omega) (by omega)
theorem rowsOf_tells {p : Int} {R C : Nat} {l : List Int} (hR : R ≤ 64) (hC : C ≤ 70) (hl : l.length = R * C) {k : Nat} (hk : R < k) : impl_rowsOf.f k p R C l = some (rowsM R C l) := by
  unfold impl_rowsOf.f
  exact rowsOf_loop hR hC hl R k 0 (by omega) (by omega) hk
end Go.Proofs.Ytfpojfongjojcaa.F
end

section
set_option linter.unusedVariables false
set_option linter.unusedSimpArgs false
set_option linter.unusedSectionVars false
namespace Go.Proofs.Ytfpojfongjojcaa.F
open Go.RowKit Go.Proofs.YtfpojfongjojcaaW.PrintWords Go.Proofs.YtfpojfongjojcaaW.PrintLast Go.Proofs.Ytfpojfongjojcaa.Lin

/-- A column of a matrix. -/
def colM (R C : Nat) (b : List Int) (j : Nat) : List Int := (List.range R).map (fun t => b.getD (t * C + j) 0)
theorem colM_length (R C : Nat) (b : List Int) (j : Nat) : (colM R C b j).length = R := by unfold colM; simp
/-- A cell of a product. -/
def prodAt (p : Int) (C C' : Nat) (a b : List Int) (i j : Nat) : Int := rowS C (colM C C' b j) a i C % p
theorem turned_rows {R C : Nat} (b : List Int) {j : Nat} (hj : j < C) : (rowsM C R (turned R C b)).getD j [] = colM R C b j := by
  unfold rowsM colM
  rw [List.getD_eq_getElem?_getD, List.getElem?_map]
  simp only [List.getElem?_range hj, Option.map_some, Option.getD_some]
  refine List.map_congr_left (fun t ht => ?_)
  have := List.mem_range.mp ht
  unfold turned
  rw [tab_at _ hj this]
theorem columns_tells (p : Int) {R C : Nat} (hR : R ≤ 64) (hC : C ≤ 64) {b : List Int} (hl : b.length = R * C) {k : Nat} (hk : 17000 ≤ k) : impl_columnsOf.f k p R C b = some (rowsM C R (turned R C b)) := by
  unfold impl_columnsOf.f
  rw [implTransposed_tells p (by omega) (by omega) hl hk, Option.bind_some]
  dsimp only
  rw [rowsOf_tells (by omega) (by omega) (by unfold turned; rw [tab_length]) (by omega), Option.bind_some]
theorem implProduct_tells {p p' : Int} (hp : 2 ≤ p) (hp' : p ≤ 251) {R C C' : Nat} (hR : R ≤ 64) (hC : C ≤ 64) (hC' : C' ≤ 64) {a b : List Int} (ha : a.length = R * C) (hb : b.length = C * C') (va : ∀ j, 0 ≤ a.getD j 0 ∧ a.getD j 0 < p) (vb : ∀ j, 0 ≤ b.getD j 0 ∧ b.getD j 0 < p) {k : Nat} (hk : 17000 ≤ k) :
    impl_product.f k p R C a p' C C' b = some (p, (R : Int), (C' : Int), tab R C' (prodAt p C C' a b)) := by
  unfold impl_product.f
  rw [columns_tells p' hC hC' hb hk, Option.bind_some]
  rw [filled_tells (f := prodAt p C C' a b) (by omega) (by omega) (fun i j hi hj => by
    show (if 0 ≤ (j : Int) then (if (j : Int) < ((rowsM C' C (turned C C' b)).length : Int) then impl_Matrix_row.f 100 p R C a i (rd_L1 (rowsM C' C (turned C C' b)) j) p else none) else none) = _
    rw [if_pos (by omega), if_pos (by rw [rowsM_length]; omega), rdL_nat, turned_rows b hj]
    exact row_tells hp hp' hR hC ha va (fun t => by
      unfold colM
      by_cases ht : t < C
      · rw [mapD _ ht]; exact vb _
      · rw [List.getD_eq_getElem?_getD, List.getElem?_eq_none (by simp; omega)]; simp; omega) (colM_length _ _ _ _) hi (by omega)) p 0 hk]
  rfl
section
variable {p p' q1 : Int} {R C C' : Nat} {a b : List Int}
theorem times_inner (hp : 2 ≤ p) (hp' : p ≤ 251) (hR : R ≤ 64) (hC : C ≤ 64) (hC' : C' ≤ 64) (ha : a.length = R * C) (hb : b.length = C * C') (va : ∀ j, 0 ≤ a.getD j 0 ∧ a.getD j 0 < p) (vb : ∀ j, 0 ≤ b.getD j 0 ∧ b.getD j 0 < p)
    {o1 o2 o3 : Int} (f : Nat → Nat → Int) {i q : Nat} (hi : i < R) (hq : q < C') (d : Nat) : ∀ k j, C - j = d → j ≤ C → d < k →
      ∃ k', k = k' + d + 1 ∧ spec_l03Times.l2 k i q (rowS C (colM C C' b q) a i j) j p R C a p' q1 C' b o1 o2 o3 (tab R C' f) =
        spec_l03Times.l1 k' i ((q + 1 : Nat) : Int) p R C a p' q1 C' b o1 o2 o3 (tab R C' (fun x y => if x = i ∧ y = q then prodAt p C C' a b i q else f x y)) := by
  have hv : ∀ t, 0 ≤ (colM C C' b q).getD t 0 ∧ (colM C C' b q).getD t 0 < p := fun t => by
    unfold colM
    by_cases ht : t < C
    · rw [mapD _ ht]; exact vb _
    · rw [List.getD_eq_getElem?_getD, List.getElem?_eq_none (by simp; omega)]; simp; omega
  induction d with
  | zero =>
    intro k j hd hj hk
    obtain ⟨k, rfl⟩ : ∃ m, k = m + 1 := ⟨k - 1, by omega⟩
    obtain rfl : j = C := by omega
    refine ⟨k, by omega, ?_⟩
    have hs := rowS_range hp hp' va hv j i j
    simp only [spec_l03Times.l2]
    rw [if_neg (nlt_nat (Nat.le_refl _)), if_neg (by omega), w64_at (r := R) (by omega) (by omega) (by omega) (by omega), if_pos (idx0 _), if_pos (idx1 f hi hq), Int.toNat_natCast, tab_set f hi hq, w64_succ (n := 64) (i := q) (by omega) (by omega), Int.tmod_eq_emod_of_nonneg hs.1]
    rfl
  | succ d ih =>
    intro k j hd hj hk
    obtain ⟨k, rfl⟩ : ∃ m, k = m + 1 := ⟨k - 1, by omega⟩
    obtain ⟨k', e1, e2⟩ := ih k (j + 1) (by omega) (by omega) (by omega)
    refine ⟨k', by omega, ?_⟩
    have hjC : j < C := by omega
    rw [← e2]
    have hs := rowS_range hp hp' va hv C i j
    have x1 := va (i * C + j)
    have x2 := vb (j * C' + q)
    have hm := smallS hp hp' x1.1 (by omega) x2.1 x2.2
    have hcol : (colM C C' b q).getD j 0 = b.getD (j * C' + q) 0 := by unfold colM; rw [mapD _ hjC]
    have hj64 : (j : Int) ≤ 64 := by omega
    have l1 := at_lt hi hjC
    have l2 := at_lt hjC hq
    rw [rowS_succ, hcol]
    generalize rowS C (colM C C' b q) a i j = s at hs ⊢
    simp only [spec_l03Times.l2]
    rw [if_pos (lt_nat hjC), w64_at (r := R) (i := i) (by omega) (by omega) (by omega) (by omega), w64_at (r := C) (i := j) (by omega) (by omega) (by omega) (by omega), if_pos (idx0 _), if_pos (by rw [ha]; exact lt_nat l1), if_pos (idx0 _), if_pos (by rw [hb]; exact lt_nat l2), rd_nat, rd_nat, w64_succ (n := 64) (i := j) (by omega) (by omega)]
    generalize a.getD (i * C + j) 0 * b.getD (j * C' + q) 0 = m at hm ⊢
    rw [w64_idV (x := m) (by omega) (by omega), w64_idV (x := s + m) (by omega) (by omega)]
theorem times_row (hp : 2 ≤ p) (hp' : p ≤ 251) (hR : R ≤ 64) (hC : C ≤ 64) (hC' : C' ≤ 64) (ha : a.length = R * C) (hb : b.length = C * C') (va : ∀ j, 0 ≤ a.getD j 0 ∧ a.getD j 0 < p) (vb : ∀ j, 0 ≤ b.getD j 0 ∧ b.getD j 0 < p)
    {o1 o2 o3 : Int} (f : Nat → Nat → Int) {i : Nat} (hi : i < R) (d : Nat) : ∀ k q, C' - q = d → q ≤ C' → d * (C + 2) < k →
      ∃ k', k = k' + d * (C + 2) + 1 ∧ spec_l03Times.l1 k i q p R C a p' q1 C' b o1 o2 o3 (tab R C' (fun x y => if x = i ∧ y < q then prodAt p C C' a b x y else f x y)) =
        spec_l03Times.l0 k' ((i + 1 : Nat) : Int) p R C a p' q1 C' b o1 o2 o3 (tab R C' (fun x y => if x = i then prodAt p C C' a b x y else f x y)) := by
  induction d with
  | zero =>
    intro k q hd hq hk
    obtain ⟨k, rfl⟩ : ∃ m, k = m + 1 := ⟨k - 1, by omega⟩
    obtain rfl : q = C' := by omega
    refine ⟨k, by omega, ?_⟩
    simp only [spec_l03Times.l1]
    rw [if_neg (nlt_nat (Nat.le_refl _)), w64_succ (n := 64) (by omega) (by omega), tab_congr (g := fun x y => if x = i then prodAt p C q a b x y else f x y) (fun x y hx hy => by
      by_cases e : x = i
      · rw [if_pos ⟨e, hy⟩, if_pos e]
      · rw [if_neg (fun h => e h.1), if_neg e])]
  | succ d ih =>
    intro k q hd hq hk
    have hm : (d + 1) * (C + 2) = d * (C + 2) + (C + 2) := by rw [Nat.add_mul, Nat.one_mul]
    rw [hm] at hk ⊢
    generalize d * (C + 2) = D at ih hk ⊢
    obtain ⟨k, rfl⟩ : ∃ m, k = m + 1 := ⟨k - 1, by omega⟩
    have hqC : q < C' := by omega
    obtain ⟨k1, c1, c2⟩ := times_inner (p' := p') (q1 := q1) (o1 := o1) (o2 := o2) (o3 := o3) hp hp' hR hC hC' ha hb va vb (fun x y => if x = i ∧ y < q then prodAt p C C' a b x y else f x y) hi hqC C k 0 (by omega) (by omega) (by omega)
    obtain ⟨k', e1, e2⟩ := ih k1 (q + 1) (by omega) (by omega) (by omega)
    refine ⟨k', by omega, ?_⟩
    rw [← e2]
    simp only [spec_l03Times.l1]
    rw [if_pos (lt_nat hqC)]
    have z : rowS C (colM C C' b q) a i 0 = 0 := rfl
    rw [z] at c2
    refine Eq.trans c2 ?_
    congr 1
    refine tab_congr (fun x y hx hy => ?_)
    by_cases e : x = i
    · subst e
      by_cases e3 : y = q
      · subst e3; simp
      · have : (y < q + 1) = (y < q) := by apply propext; omega
        simp [e3, this]
    · simp [e]
theorem times_loop (hp : 2 ≤ p) (hp' : p ≤ 251) (hR : R ≤ 64) (hC : C ≤ 64) (hC' : C' ≤ 64) (ha : a.length = R * C) (hb : b.length = C * C') (va : ∀ j, 0 ≤ a.getD j 0 ∧ a.getD j 0 < p) (vb : ∀ j, 0 ≤ b.getD j 0 ∧ b.getD j 0 < p)
    {o1 o2 o3 : Int} (d : Nat) : ∀ k i, R - i = d → i ≤ R → d * 5000 < k →
      spec_l03Times.l0 k i p R C a p' q1 C' b o1 o2 o3 (tab R C' (fun x y => if x < i then prodAt p C C' a b x y else 0)) = some (o1, o2, o3, tab R C' (prodAt p C C' a b)) := by
  have hmul : C' * (C + 2) ≤ 64 * 66 := Nat.mul_le_mul hC' (by omega)
  induction d with
  | zero =>
    intro k i hd hi hk
    obtain ⟨k, rfl⟩ : ∃ m, k = m + 1 := ⟨k - 1, by omega⟩
    obtain rfl : i = R := by omega
    simp only [spec_l03Times.l0]
    rw [if_neg (nlt_nat (Nat.le_refl _)), tab_congr (g := prodAt p C C' a b) (fun x y hx hy => by rw [if_pos hx])]
  | succ d ih =>
    intro k i hd hi hk
    have hm : (d + 1) * 5000 = d * 5000 + 5000 := Nat.succ_mul _ _
    rw [hm] at hk
    generalize d * 5000 = D at ih hk
    obtain ⟨k, rfl⟩ : ∃ m, k = m + 1 := ⟨k - 1, by omega⟩
    have hiR : i < R := by omega
    obtain ⟨k1, c1, c2⟩ := times_row (p' := p') (q1 := q1) (o1 := o1) (o2 := o2) (o3 := o3) hp hp' hR hC hC' ha hb va vb (fun x y => if x < i then prodAt p C C' a b x y else 0) hiR C' k 0 (by omega) (by omega) (by omega)
    have e2 := ih k1 (i + 1) (by omega) (by omega) (by omega)
    rw [← e2]
    simp only [spec_l03Times.l0]
    rw [if_pos (lt_nat hiR)]
    rw [tab_congr (f := fun x y => if x = i ∧ y < 0 then prodAt p C C' a b x y else (if x < i then prodAt p C C' a b x y else 0)) (g := fun x y => if x < i then prodAt p C C' a b x y else 0) (fun x y hx hy => by rw [if_neg (fun h => Nat.not_lt_zero _ h.2)])] at c2
    refine Eq.trans c2 ?_
    congr 1
    refine tab_congr (fun x y hx hy => ?_)
    by_cases e : x = i
    · subst e; simp
    · have : (x < i + 1) = (x < i) := by apply propext; omega
      simp [e, this]
theorem specTimes_tells (hp : 2 ≤ p) (hp' : p ≤ 251) (hR : R ≤ 64) (hC : C ≤ 64) (hC' : C' ≤ 64) (ha : a.length = R * C) (hb : b.length = C * C') (va : ∀ j, 0 ≤ a.getD j 0 ∧ a.getD j 0 < p) (vb : ∀ j, 0 ≤ b.getD j 0 ∧ b.getD j 0 < p) {k : Nat} (hk : 400000 ≤ k) :
    spec_l03Times.f k p R C a p' q1 C' b = some (p, (R : Int), (C' : Int), tab R C' (prodAt p C C' a b)) := by
  have hm : R * 5000 ≤ 64 * 5000 := Nat.mul_le_mul hR (Nat.le_refl _)
  unfold spec_l03Times.f
  rw [zero_tells (by omega) (by omega), Option.bind_some]
  dsimp only
  have := times_loop (p' := p') (q1 := q1) (o1 := p) (o2 := R) (o3 := C') hp hp' hR hC hC' ha hb va vb R k 0 (by omega) (by omega) (by omega)
  rw [tab_congr (f := fun x y => if x < 0 then prodAt p C C' a b x y else 0) (g := fun _ _ => 0) (fun x y hx hy => by rw [if_neg (Nat.not_lt_zero _)])] at this
  exact this
end
def mulOut (p r c : Int) (a : List Int) (p' r' c' : Int) (b : List Int) : Int × Int × Int × List Int × Int := if (matOk p r c a && matOk p' r' c' b) = true then if p = p' ∧ c = r' then (p, r, c', tab r.toNat c'.toNat (prodAt p c.toNat c'.toNat a b), 0) else (0, 0, 0, [], 6) else (0, 0, 0, [], 1)
theorem spec_mulM (p r c p' r' c' : Int) {a b : List Int} (hl : a.length ≤ 1048576) (hl' : b.length ≤ 1048576) {k : Nat} (hk : a.length + b.length + 400000 ≤ k) : spec_Multiply.f k p r c a p' r' c' b = some (mulOut p r c a p' r' c' b) := by
  unfold spec_Multiply.f mulOut
  rw [both_tells p r c p' r' c' (by omega) (by omega) (by omega) (by omega)]
  cases h : (matOk p r c a && matOk p' r' c' b) with
  | false => simp
  | true =>
    rw [Bool.and_eq_true] at h
    obtain ⟨R, C, rfl, rfl, h1, h2, h3, hp, hx⟩ := dimsM h.1
    obtain ⟨R', C', rfl, rfl, h1', h2', h3', hp', hx'⟩ := dimsM h.2
    simp only [Option.bind_some, if_true]
    by_cases e1 : p = p'
    · subst e1
      by_cases e2 : (C : Int) = (R' : Int)
      · have : C = R' := by omega
        subst this
        rw [if_pos rfl, if_pos rfl, if_pos ⟨rfl, rfl⟩, specTimes_tells hp.1 hp.2 (by omega) (by omega) (by omega) h3 h3' hx hx' (by omega), Option.bind_some]
        rfl
      · simp [e2]
    · simp [e1]
theorem impl_mulM (p r c p' r' c' : Int) {a b : List Int} {k : Nat} (hk : 18000 ≤ k) : impl_Multiply.f k p r c a p' r' c' b = some (mulOut p r c a p' r' c' b) := by
  unfold impl_Multiply.f mulOut
  obtain ⟨k, rfl⟩ : ∃ m, k = m + 1 := ⟨k - 1, by omega⟩
  rw [implOk_tells p r c (by omega), implOk_tells p' r' c' (by omega)]
  cases h : matOk p r c a with
  | false => simp [impl_Multiply.j0]
  | true =>
    cases h' : matOk p' r' c' b with
    | false => simp [impl_Multiply.j0]
    | true =>
      obtain ⟨R, C, rfl, rfl, h1, h2, h3, hp, hx⟩ := dimsM h
      obtain ⟨R', C', rfl, rfl, h1', h2', h3', hp', hx'⟩ := dimsM h'
      simp only [Option.bind_some, if_true, impl_Multiply.j0, Bool.not_true, Bool.false_eq_true, if_false, Bool.and_self]
      by_cases e1 : p = p'
      · subst e1
        by_cases e2 : (C : Int) = (R' : Int)
        · have : C = R' := by omega
          subst this
          rw [if_pos rfl, if_pos rfl, if_pos ⟨rfl, rfl⟩, implProduct_tells hp.1 hp.2 (by omega) (by omega) (by omega) h3 h3' hx hx' (by omega), Option.bind_some]
          rfl
        · simp [e2]
      · simp [e1]
theorem mulOut_length (p r c p' r' c' : Int) (a b : List Int) : (mulOut p r c a p' r' c' b).2.2.2.1.length ≤ 32768 := by
  unfold mulOut
  split
  · rename_i h
    rw [Bool.and_eq_true] at h
    obtain ⟨R, C, rfl, rfl, h1, h2, h3, hp, hx⟩ := dimsM h.1
    obtain ⟨R', C', rfl, rfl, h1', h2', h3', hp', hx'⟩ := dimsM h.2
    have m1 := side_mul (r := R) (c := C') (by omega) (by omega)
    split
    · simp only [tab_length, Int.toNat_natCast]; omega
    · simp
  · simp
end Go.Proofs.Ytfpojfongjojcaa.F
end
