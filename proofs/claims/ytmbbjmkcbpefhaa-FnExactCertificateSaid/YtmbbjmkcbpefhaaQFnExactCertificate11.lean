-- Texts of this claim, merged by packw.py (a program of this session's).
import Derived.Test.YtmbbjmkcbpefhaaQFnExactCertificate2
import Derived.Test.YtmbbjmkcbpefhaaQFnExactCertificate3
import Derived.KernelRfl
import Derived.Test.YtmbbjmkcbpefhaaQFnExactCertificate7
import Derived.Test.YtmbbjmkcbpefhaaQFnExactCertificate4
import Derived.Test.YtmbbjmkcbpefhaaQFnExactCertificate8
import Derived.Test.YtmbbjmkcbpefhaaQFnExactCertificate5

section
set_option linter.unusedVariables false
set_option linter.unusedSimpArgs false
set_option linter.unusedSectionVars false
namespace Go.Proofs.Ytmbbjmkcbpefhaa.Lin
def primes251 : List Nat := [2,3,5,7,11,13,17,19,23,29,31,37,41,43,47,53,59,61,67,71,73,79,83,89,97,101,103,107,109,113,127,131,137,139,149,151,157,163,167,173,179,181,191,193,197,199,211,223,227,229,233,239,241,251]
def isP (p : Int) : Bool := decide (2 ≤ p) && decide (p ≤ 251) && decide (p.toNat ∈ primes251)
theorem isP_ge {p : Int} (h : isP p = true) : 2 ≤ p ∧ p ≤ 251 := by unfold isP at h; simp at h; omega
def addRow (p : Int) (a b : List Int) (c : Int) : List Int := List.zipWith (fun x y => (x + c * y) % p) a b
theorem getD_set {α : Type} (l : List α) (k : Nat) (v d : α) (hk : k < l.length) (i : Nat) : (l.set k v).getD i d = if i = k then v else l.getD i d := by
  simp only [List.getD_eq_getElem?_getD, List.getElem?_set]
  by_cases h : k = i
  · subst h; simp [hk]
  · simp [h, Ne.symm h]
theorem addRow_getD {p : Int} {a b : List Int} {c : Int} {j : Nat} (ha : j < a.length) (hb : j < b.length) : (addRow p a b c).getD j 0 = (a.getD j 0 + c * b.getD j 0) % p := by
  unfold addRow
  simp [List.getD_eq_getElem?_getD, List.getElem?_zipWith, List.getElem?_eq_getElem ha, List.getElem?_eq_getElem hb]
end Go.Proofs.Ytmbbjmkcbpefhaa.Lin
end

section
set_option linter.unusedVariables false
set_option linter.unusedSimpArgs false
set_option linter.unusedSectionVars false
namespace Go.Proofs.Ytmbbjmkcbpefhaa.F
open Go.RowKit Go.Proofs.YtmbbjmkcbpefhaaW.PrintWords Go.Proofs.YtmbbjmkcbpefhaaW.PrintLast Go.Proofs.Ytmbbjmkcbpefhaa.Lin
theorem w64_idV {x : Int} (h0 : -9223372036854775808 ≤ x) (h1 : x ≤ 9223372036854775807) : wrap64 x = x := by unfold wrap64; omega
theorem w64_succ {i n : Nat} (h : i < n) (hn : n ≤ 35184372088832) : wrap64 ((i : Int) + 1) = ((i + 1 : Nat) : Int) := by
  rw [w64_idV (x := (i : Int) + 1) (by omega) (by omega)]; omega
theorem rd_nat (l : List Int) (i : Nat) : rd l (i : Int) = l.getD i 0 := by unfold rd; rw [Int.toNat_natCast]
theorem getD_at {α : Type} {l : List α} {i : Nat} {d : α} (h : i < l.length) : l.getD i d = l[i] := by simp [List.getD_eq_getElem?_getD, h]
theorem ext_getD {l m : List Int} (hl : l.length = m.length) (h : ∀ j, j < l.length → l.getD j 0 = m.getD j 0) : l = m := by
  refine List.ext_getElem hl (fun j h1 h2 => ?_)
  have := h j h1
  rwa [getD_at h1, getD_at h2] at this
theorem copy_loop {l : List Int} (hl : l.length ≤ 35184372088832) (d : Nat) : ∀ (k i : Nat) (acc : List Int), l.length - i = d → i ≤ l.length → d < k → acc.length = l.length → (∀ j, j < i → acc.getD j 0 = l.getD j 0) →
    laws_toInt64S.l0 k l acc i = some l := by
  induction d with
  | zero =>
    intro k i acc hd hi hk ha h
    obtain ⟨k, rfl⟩ : ∃ m, k = m + 1 := ⟨k - 1, by omega⟩
    simp only [laws_toInt64S.l0]
    rw [if_neg (by omega), ext_getD ha (fun j hj => h j (by omega))]
  | succ d ih =>
    intro k i acc hd hi hk ha h
    obtain ⟨k, rfl⟩ : ∃ m, k = m + 1 := ⟨k - 1, by omega⟩
    simp only [laws_toInt64S.l0]
    rw [if_pos (by omega), if_pos (by omega), if_pos (by omega), w64_succ (n := l.length) (by omega) hl, Int.toNat_natCast, rd_nat]
    refine ih k (i + 1) _ (by omega) (by omega) (by omega) (by simp [ha]) (fun j hj => ?_)
    rw [getD_set _ _ _ _ (by omega)]
    by_cases e : j = i
    · rw [if_pos e, e]
    · rw [if_neg e]; exact h j (by omega)
theorem copy_tells {l : List Int} (hl : l.length ≤ 35184372088832) {k : Nat} (hk : l.length < k) : laws_toInt64S.f k l = some l := by
  unfold laws_toInt64S.f
  rw [if_pos (by omega), if_pos (by omega), Int.toNat_natCast]
  exact copy_loop hl l.length k 0 _ (by omega) (by omega) hk (by simp) (fun j hj => by omega)
theorem eq_loop {a b : List Int} (ha : a.length ≤ 35184372088832) (hab : a.length = b.length) (d : Nat) : ∀ (k i : Nat), a.length - i = d → i ≤ a.length → d < k → (∀ j, j < i → a.getD j 0 = b.getD j 0) →
    laws_eqInt64S.l0 k a b i = some (decide (a = b)) := by
  induction d with
  | zero =>
    intro k i hd hi hk h
    obtain ⟨k, rfl⟩ : ∃ m, k = m + 1 := ⟨k - 1, by omega⟩
    simp only [laws_eqInt64S.l0]
    rw [if_neg (by omega), decide_eq_true (ext_getD hab (fun j hj => h j (by omega)))]
  | succ d ih =>
    intro k i hd hi hk h
    obtain ⟨k, rfl⟩ : ∃ m, k = m + 1 := ⟨k - 1, by omega⟩
    simp only [laws_eqInt64S.l0]
    rw [if_pos (by omega), if_pos (by omega), if_pos (by omega), w64_succ (n := a.length) (by omega) ha, rd_nat, rd_nat]
    by_cases e : a.getD i 0 = b.getD i 0
    · rw [if_pos e]
      refine ih k (i + 1) (by omega) (by omega) (by omega) (fun j hj => ?_)
      by_cases e2 : j = i
      · rw [e2]; exact e
      · exact h j (by omega)
    · rw [if_neg e, decide_eq_false (fun h => e (by rw [h]))]
theorem eq_tells {a b : List Int} (ha : a.length ≤ 35184372088832) {k : Nat} (hk : a.length < k) : laws_eqInt64S.f k a b = some (decide (a = b)) := by
  unfold laws_eqInt64S.f
  by_cases h : a.length = b.length
  · rw [if_pos (by omega)]
    exact eq_loop ha h a.length k 0 (by omega) (by omega) hk (fun j hj => by omega)
  · rw [if_neg (by omega), decide_eq_false (fun e => h (by rw [e]))]
def iota (m : Int) (n : Nat) : List Int := (List.range n).map (fun j : Nat => m + (j : Int))
theorem iota_length (m : Int) (n : Nat) : (iota m n).length = n := by unfold iota; simp
theorem iota_getD (m : Int) {n j : Nat} (h : j < n) : (iota m n).getD j 0 = m + j := by unfold iota; simp [List.getD_eq_getElem?_getD, h]
theorem mark_loop {m0 : Int} {n : Nat} (hm : 0 ≤ m0) (hm' : m0 + n ≤ 4611686018427387904) (hn : n ≤ 35184372088832) (d : Nat) : ∀ (k i : Nat) (acc : List Int) (m : Int), n - i = d → i ≤ n → d < k → acc.length = n → m = m0 + i → (∀ j, j < i → acc.getD j 0 = m0 + j) →
    laws_markInt64S.l0 k acc m i = some (m0 + n, iota m0 n) := by
  induction d with
  | zero =>
    intro k i acc m hd hi hk ha he h
    obtain ⟨k, rfl⟩ : ∃ m, k = m + 1 := ⟨k - 1, by omega⟩
    simp only [laws_markInt64S.l0]
    rw [if_neg (by omega)]
    have e1 : m = m0 + n := by omega
    have e2 : acc = iota m0 n := ext_getD (by rw [iota_length, ha]) (fun j hj => by rw [h j (by omega), iota_getD m0 (by omega)])
    rw [e1, e2]
  | succ d ih =>
    intro k i acc m hd hi hk ha he h
    obtain ⟨k, rfl⟩ : ∃ m, k = m + 1 := ⟨k - 1, by omega⟩
    simp only [laws_markInt64S.l0]
    rw [if_pos (by omega), if_pos (by omega), w64_succ (n := n) (by omega) hn, Int.toNat_natCast, w64_idV (x := m + 1) (by omega) (by omega)]
    refine ih k (i + 1) _ (m + 1) (by omega) (by omega) (by omega) (by simp [ha]) (by omega) (fun j hj => ?_)
    rw [getD_set _ _ _ _ (by omega)]
    by_cases e : j = i
    · rw [if_pos e, e]; exact he
    · rw [if_neg e]; exact h j (by omega)
theorem mark_tells {l : List Int} {m : Int} (hm : 0 ≤ m) (hm' : m + l.length ≤ 4611686018427387904) (hl : l.length ≤ 35184372088832) {k : Nat} (hk : l.length < k) : laws_markInt64S.f k l m = some (m + l.length, iota m l.length) := by
  unfold laws_markInt64S.f
  exact mark_loop hm hm' hl l.length k 0 l m (by omega) (by omega) hk rfl (by omega) (fun j hj => by omega)
theorem held_loop {m0 : Int} {n : Nat} (hm : 0 ≤ m0) (hm' : m0 + n ≤ 4611686018427387904) (hn : n ≤ 35184372088832) (d : Nat) : ∀ (k i : Nat) (m : Int), n - i = d → i ≤ n → d < k → m = m0 + i →
    laws_heldInt64S.l0 k (iota m0 n) m i = some (m0 + n) := by
  induction d with
  | zero =>
    intro k i m hd hi hk he
    obtain ⟨k, rfl⟩ : ∃ m, k = m + 1 := ⟨k - 1, by omega⟩
    simp only [laws_heldInt64S.l0, iota_length]
    rw [if_neg (by omega)]
    have e1 : m = m0 + n := by omega
    rw [e1]
  | succ d ih =>
    intro k i m hd hi hk he
    obtain ⟨k, rfl⟩ : ∃ m, k = m + 1 := ⟨k - 1, by omega⟩
    simp only [laws_heldInt64S.l0, iota_length]
    rw [if_pos (by omega), if_pos (by omega), rd_nat, iota_getD m0 (by omega), if_pos he.symm, w64_succ (n := n) (by omega) hn, w64_idV (x := m + 1) (by omega) (by omega)]
    exact ih k (i + 1) (m + 1) (by omega) (by omega) (by omega) (by omega)
theorem held_tells {m : Int} {n : Nat} (hm : 0 ≤ m) (hm' : m + n ≤ 4611686018427387904) (hn : n ≤ 35184372088832) {k : Nat} (hk : n < k) : laws_heldInt64S.f k (iota m n) m = some (m + n) := by
  unfold laws_heldInt64S.f
  exact held_loop hm hm' hn n k 0 m (by omega) (by omega) hk (by omega)
theorem w64_id {x : Int} (h0 : -9223372036854775808 ≤ x) (h1 : x ≤ 9223372036854775807) : wrap64 x = x := by unfold wrap64; omega
theorem same_in : impl_within.f = spec_l00In.f := rfl
theorem in_tells (n lo hi : Int) : spec_l00In.f n lo hi = some (decide (lo ≤ n ∧ n ≤ hi)) := by
  unfold spec_l00In.f
  by_cases h : n ≥ lo
  · have : lo ≤ n := h
    simp [this]
  · have : ¬ lo ≤ n := h
    simp [this]
theorem ask_prime : impl_ValidPrime.f = spec_l02Prime.f := by kernel_rfl
theorem prime_small : ∀ n, n < 252 → spec_l02Prime.f 20 (n : Nat) = some (isP n) := by decide +kernel
theorem prime_at (p : Int) : spec_l02Prime.f 20 p = some (isP p) := by
  by_cases h : 2 ≤ p ∧ p ≤ 251
  · obtain ⟨n, rfl⟩ := Int.eq_ofNat_of_zero_le (show 0 ≤ p by omega)
    exact prime_small n (by omega)
  · have : isP p = false := by unfold isP; simp; omega
    rw [this]
    unfold spec_l02Prime.f spec_l00In.f
    by_cases h1 : p ≥ 2
    · have : ¬ p ≤ 251 := by omega
      simp [h1, this]
    · simp [h1]
theorem prime_tells (p : Int) {k : Nat} (hk : 20 ≤ k) : spec_l02Prime.f k p = some (isP p) := at_rounds (spec_l02Prime.mono p) hk (prime_at p)
def tab (r c : Nat) (f : Nat → Nat → Int) : List Int := (List.range (r * c)).map fun x => f (x / c) (x % c)
theorem lt_nat {i n : Nat} (h : i < n) : (i : Int) < (n : Int) := Int.ofNat_lt.mpr h
theorem nlt_nat {i n : Nat} (h : n ≤ i) : ¬ (i : Int) < (n : Int) := by omega
theorem idx0 (n : Nat) : (0 : Int) ≤ ((n : Nat) : Int) := Int.natCast_nonneg n
theorem tab_length (r c : Nat) (f) : (tab r c f).length = r * c := by unfold tab; simp
theorem at_div {c i j : Nat} (h : j < c) : (i * c + j) / c = i ∧ (i * c + j) % c = j := by
  rw [Nat.mul_comm]
  exact ⟨by rw [Nat.mul_add_div (by omega), Nat.div_eq_of_lt h]; omega, by rw [Nat.mul_add_mod, Nat.mod_eq_of_lt h]⟩
theorem at_lt {r c i j : Nat} (hi : i < r) (hj : j < c) : i * c + j < r * c := by
  have : (i + 1) * c ≤ r * c := Nat.mul_le_mul_right _ hi
  rw [Nat.succ_mul] at this
  omega
theorem smallS {p x y : Int} (hp : 2 ≤ p) (hp' : p ≤ 251) (hx : 0 ≤ x) (hx' : x ≤ 251) (hy : 0 ≤ y) (hy' : y < p) : 0 ≤ x * y ∧ x * y ≤ 63001 := by
  have g1 := Int.mul_nonneg hx hy
  have g2 : x * y ≤ 251 * 251 := Int.mul_le_mul (by omega) (by omega) hy (by omega)
  omega
theorem idx1 {r c i j : Nat} (f : Nat → Nat → Int) (hi : i < r) (hj : j < c) : ((i * c + j : Nat) : Int) < ((tab r c f).length : Int) := by
  rw [tab_length]; exact Int.ofNat_lt.mpr (at_lt hi hj)
theorem tab_getD {r c : Nat} (f) {x : Nat} (h : x < r * c) : (tab r c f).getD x 0 = f (x / c) (x % c) := by
  unfold tab; simp [List.getD_eq_getElem?_getD, h]
theorem tab_at {r c i j : Nat} (f) (hi : i < r) (hj : j < c) : (tab r c f).getD (i * c + j) 0 = f i j := by
  rw [tab_getD f (at_lt hi hj), (at_div hj).1, (at_div hj).2]
theorem split_at {r c x : Nat} (h : x < r * c) : x / c < r ∧ x % c < c ∧ x / c * c + x % c = x := by
  have hc : 0 < c := by rcases Nat.eq_zero_or_pos c with e | e; · subst e; simp at h
                        · exact e
  exact ⟨Nat.div_lt_of_lt_mul (by rw [Nat.mul_comm]; exact h), Nat.mod_lt _ hc, Nat.div_add_mod' x c⟩
theorem tab_ext {r c : Nat} {f} {l : List Int} (hl : l.length = r * c) (h : ∀ i j, i < r → j < c → l.getD (i * c + j) 0 = f i j) : l = tab r c f := by
  refine ext_getD (by rw [hl, tab_length]) (fun x hx => ?_)
  rw [hl] at hx
  obtain ⟨h1, h2, h3⟩ := split_at hx
  have := h _ _ h1 h2
  rw [h3] at this
  rw [this, tab_getD f hx]
theorem tab_congr {r c : Nat} {f g : Nat → Nat → Int} (h : ∀ i j, i < r → j < c → f i j = g i j) : tab r c f = tab r c g :=
  tab_ext (tab_length r c f) (fun i j hi hj => by rw [tab_at f hi hj, h i j hi hj])
theorem side_mul {r c : Nat} (hr : r ≤ 128) (hc : c ≤ 128) : r * c ≤ 16384 := Nat.mul_le_mul hr hc
theorem w64_at {r c i j : Nat} (hr : r ≤ 128) (hc : c ≤ 128) (hi : i ≤ r) (hj : j ≤ c) : wrap64 (wrap64 ((i : Int) * (c : Int)) + (j : Int)) = ((i * c + j : Nat) : Int) := by
  have h := side_mul (Nat.le_trans hi hr) hc
  have e : (i : Int) * (c : Int) = ((i * c : Nat) : Int) := by push_cast; rfl
  rw [e, w64_id (x := ((i * c : Nat) : Int)) (by omega) (by omega), w64_id (x := ((i * c : Nat) : Int) + (j : Int)) (by omega) (by omega)]
  push_cast; rfl
theorem w64_mulN {r c : Nat} (hr : r ≤ 128) (hc : c ≤ 128) : wrap64 ((r : Int) * (c : Int)) = ((r * c : Nat) : Int) := by
  have h := side_mul hr hc
  have e : (r : Int) * (c : Int) = ((r * c : Nat) : Int) := by push_cast; rfl
  rw [e, w64_id (x := ((r * c : Nat) : Int)) (by omega) (by omega)]
theorem side_tells (n : Int) : impl_isSide.f n = some (decide (0 ≤ n ∧ n ≤ 32)) := by
  unfold impl_isSide.f
  rw [same_in, in_tells]; rfl
theorem tab_set {r c i j : Nat} (f : Nat → Nat → Int) (hi : i < r) (hj : j < c) (v : Int) : (tab r c f).set (i * c + j) v = tab r c (fun a b => if a = i ∧ b = j then v else f a b) := by
  refine tab_ext (by rw [List.length_set, tab_length]) (fun a b ha hb => ?_)
  rw [getD_set _ _ _ _ (by rw [tab_length]; exact at_lt hi hj)]
  by_cases e : a * c + b = i * c + j
  · have h1 := at_div (i := a) hb
    have h2 := at_div (i := i) hj
    rw [e] at h1
    rw [if_pos e, if_pos ⟨by rw [← h1.1, h2.1], by rw [← h1.2, h2.2]⟩]
  · rw [if_neg e, if_neg (fun h => e (by rw [h.1, h.2])), tab_at _ ha hb]
theorem specPrime_tells (p : Int) {k : Nat} (hk : 20 ≤ k) : spec_ValidPrime.f k p = some (isP p) := by
  unfold spec_ValidPrime.f
  rw [prime_tells p hk]; rfl
theorem eqMatrix_tells {p r c : Int} {l : List Int} (hl : l.length ≤ 35184372088832) {k : Nat} (hk : l.length < k) : laws_eqMatrix.f k p r c l p r c l = some true := by
  unfold laws_eqMatrix.f
  rw [eq_tells hl hk]
  simp
theorem markMatrix_tells {p r c : Int} {l : List Int} (hl : l.length ≤ 35184372088832) {k : Nat} (hk : l.length < k) : laws_markMatrix.f k p r c l 1 = some (1 + (l.length : Int), iota 1 l.length) := by
  unfold laws_markMatrix.f
  rw [mark_tells (by omega) (by omega) hl hk]; rfl
def allM (l : List Int) (p : Int) : Bool := l.all fun x => decide (0 ≤ x) && decide (x < p)
theorem allM_iff {l : List Int} {p : Int} : allM l p = true ↔ ∀ x, x ∈ l → 0 ≤ x ∧ x < p := by unfold allM; simp
theorem areM_tells {l : List Int} {p : Int} (hp : isP p = true) : impl_areElements.f l p = some (allM l p) := by
  have := isP_ge hp
  unfold impl_areElements.f allM
  rw [w64_id (x := p - 1) (by omega) (by omega)]
  congr 1
  induction l with
  | nil => rfl
  | cons x l ih =>
    simp only [List.any_cons, List.all_cons, Bool.not_or, Bool.not_not]
    rw [ih]
    congr 2
    rw [decide_eq_decide]; omega
theorem allM_drop {l : List Int} {p : Int} {i : Nat} (h : i < l.length) : allM (l.drop i) p = (decide (0 ≤ l.getD i 0 ∧ l.getD i 0 ≤ p - 1) && allM (l.drop (i + 1)) p) := by
  rw [List.drop_eq_getElem_cons h]
  unfold allM
  simp only [List.all_cons]
  congr 1
  rw [getD_at h, ← Bool.decide_and, decide_eq_decide]; omega
theorem column_loop {l : List Int} {n p : Int} (hp : 2 ≤ p) (hp' : p ≤ 251) (hl : l.length ≤ 35184372088832) (d : Nat) : ∀ (k i : Nat), l.length - i = d → i ≤ l.length → d < k →
    spec_l03Column.l0 k l n p i = some (allM (l.drop i) p && decide ((l.length : Int) = n)) := by
  induction d with
  | zero =>
    intro k i hd hi hk
    obtain ⟨k, rfl⟩ : ∃ m, k = m + 1 := ⟨k - 1, by omega⟩
    simp only [spec_l03Column.l0]
    rw [if_neg (by omega), show l.drop i = [] from List.drop_eq_nil_of_le (by omega)]
    simp only [allM, List.all_nil, Bool.true_and]
    congr 1
  | succ d ih =>
    intro k i hd hi hk
    obtain ⟨k, rfl⟩ : ∃ m, k = m + 1 := ⟨k - 1, by omega⟩
    simp only [spec_l03Column.l0]
    rw [if_pos (by omega), if_pos (by omega), rd_nat, w64_id (x := p - 1) (by omega) (by omega), in_tells, w64_succ (n := l.length) (by omega) hl, allM_drop (i := i) (by omega)]
    simp only [Option.bind_some]
    cases h : decide (0 ≤ l.getD i 0 ∧ l.getD i 0 ≤ p - 1) with
    | false => simp
    | true => rw [if_pos rfl, ih k (i + 1) (by omega) (by omega) (by omega)]; simp
theorem column_tells {l : List Int} {n p : Int} (hp : 2 ≤ p) (hp' : p ≤ 251) (hl : l.length ≤ 35184372088832) {k : Nat} (hk : l.length < k) : spec_l03Column.f k l n p = some (allM l p && decide ((l.length : Int) = n)) := by
  unfold spec_l03Column.f
  exact column_loop hp hp' hl l.length k 0 (by omega) (by omega) hk
def matOk (p r c : Int) (l : List Int) : Bool := isP p && (decide (0 ≤ r ∧ r ≤ 32) && (decide (0 ≤ c ∧ c ≤ 32) && (decide ((l.length : Int) = r * c) && allM l p)))
theorem matOk_iff {p r c : Int} {l : List Int} : matOk p r c l = true ↔ isP p = true ∧ (0 ≤ r ∧ r ≤ 32) ∧ (0 ≤ c ∧ c ≤ 32) ∧ (l.length : Int) = r * c ∧ ∀ x, x ∈ l → 0 ≤ x ∧ x < p := by
  unfold matOk; simp only [Bool.and_eq_true, decide_eq_true_eq, allM_iff]
theorem side_mulI {r c : Int} (hr : 0 ≤ r ∧ r ≤ 32) (hc : 0 ≤ c ∧ c ≤ 32) : wrap64 (r * c) = r * c ∧ 0 ≤ r * c ∧ r * c ≤ 1024 := by
  have h1 := Int.mul_nonneg hr.1 hc.1
  have h2 : r * c ≤ 32 * 32 := Int.mul_le_mul hr.2 hc.2 hc.1 (by omega)
  exact ⟨w64_id (by omega) (by omega), h1, by omega⟩
theorem specOk_tells (p r c : Int) {l : List Int} (hl : l.length ≤ 35184372088832) {k : Nat} (hk : l.length + 20 < k) : spec_l03Ok.f k p r c l = some (matOk p r c l) := by
  unfold spec_l03Ok.f matOk
  rw [specPrime_tells p (by omega)]
  cases hp : isP p with
  | false => simp
  | true =>
    have hp2 := isP_ge hp
    rw [in_tells, in_tells]
    by_cases h1 : 0 ≤ r ∧ r ≤ 32
    · by_cases h2 : 0 ≤ c ∧ c ≤ 32
      · rw [(side_mulI h1 h2).1, column_tells hp2.1 hp2.2 hl (by omega)]
        simp only [h1, h2, and_self, decide_true, Option.bind_some, if_true, Bool.true_and]
        rw [Bool.and_comm]
      · simp only [h1, h2, and_self, decide_true, decide_false, Option.bind_some, if_true, Bool.true_and, Bool.false_and]; rfl
    · simp only [h1, decide_false, Option.bind_some, if_true, Bool.true_and, Bool.false_and]; rfl
theorem implOk_tells (p r c : Int) {l : List Int} {k : Nat} (hk : 20 ≤ k) : impl_ValidMatrix.f k p r c l = some (matOk p r c l) := by
  unfold impl_ValidMatrix.f matOk
  rw [ask_prime, prime_tells p hk]
  cases hp : isP p with
  | false => simp
  | true =>
    have hp2 := isP_ge hp
    rw [side_tells, side_tells, areM_tells hp]
    by_cases h1 : 0 ≤ r ∧ r ≤ 32
    · by_cases h2 : 0 ≤ c ∧ c ≤ 32
      · rw [(side_mulI h1 h2).1]
        unfold impl_size_int64_72.f
        simp only [h1, h2, and_self, decide_true, Option.bind_some, if_true, Bool.true_and]
        by_cases h3 : (l.length : Int) = r * c
        · simp [h3]
        · simp [h3]
      · simp only [h1, h2, and_self, decide_true, decide_false, Option.bind_some, if_true, Bool.true_and, Bool.false_and]; rfl
    · simp only [h1, decide_false, Option.bind_some, if_true, Bool.true_and, Bool.false_and]; rfl
theorem szMatrix_tells (p r c : Int) {l : List Int} (hl : l.length ≤ maxLen) : laws_szMatrix.f p r c l 1048576 = some (if l.length ≤ 1048576 then 1048576 - (l.length : Int) else -1) := by
  unfold laws_szMatrix.f laws_szInt64S.f
  have hl : l.length ≤ 9223372036854775807 := hl
  rw [w64_id (x := 1048576 - (l.length : Int)) (by omega) (by omega)]
  by_cases h : l.length ≤ 1048576
  · rw [if_neg (by omega), if_pos h]
    simp only [Option.bind_some]
    rw [if_neg (by omega)]
  · rw [if_pos (by omega), if_neg h]; rfl
theorem toMatrix_tells (p r c : Int) {l : List Int} (hl : l.length ≤ 35184372088832) {k : Nat} (hk : l.length < k) : laws_toMatrix.f k p r c l = some (p, r, c, l) := by
  unfold laws_toMatrix.f
  rw [copy_tells hl hk]; rfl
def allIn (l : List Int) (p : Int) : Bool := l.all fun x => decide (0 ≤ x) && decide (x < p)
theorem allIn_iff {l : List Int} {p : Int} : allIn l p = true ↔ ∀ x, x ∈ l → 0 ≤ x ∧ x < p := by unfold allIn; simp
theorem areElements_tells {l : List Int} {p : Int} (hp : isP p = true) : impl_areElements.f l p = some (allIn l p) := by
  have := isP_ge hp
  unfold impl_areElements.f allIn
  rw [w64_id (x := p - 1) (by omega) (by omega)]
  congr 1
  induction l with
  | nil => rfl
  | cons x l ih =>
    simp only [List.any_cons, List.all_cons, Bool.not_or, Bool.not_not]
    rw [ih]
    congr 2
    rw [decide_eq_decide]; omega
theorem allIn_drop {l : List Int} {p : Int} {i : Nat} (h : i < l.length) : allIn (l.drop i) p = (decide (0 ≤ l.getD i 0 ∧ l.getD i 0 ≤ p - 1) && allIn (l.drop (i + 1)) p) := by
  rw [List.drop_eq_getElem_cons h]
  unfold allIn
  simp only [List.all_cons]
  congr 1
  rw [getD_at h, ← Bool.decide_and, decide_eq_decide]; omega
theorem numbers_loop {l : List Int} {p : Int} (hp : 2 ≤ p) (hp' : p ≤ 251) (hl : l.length ≤ 35184372088832) (d : Nat) : ∀ (k i : Nat), l.length - i = d → i ≤ l.length → d < k →
    spec_l02Numbers.l0 k l p i = some (allIn (l.drop i) p && decide (l.length ≤ 64)) := by
  have e0 : wrap64 (p - 1) = p - 1 := w64_id (by omega) (by omega)
  induction d with
  | zero =>
    intro k i hd hi hk
    obtain ⟨k, rfl⟩ : ∃ m, k = m + 1 := ⟨k - 1, by omega⟩
    simp only [spec_l02Numbers.l0]
    rw [if_neg (by omega), List.drop_eq_nil_of_le (by omega)]
    simp only [allIn, List.all_nil, Bool.true_and]
    congr 1; rw [decide_eq_decide]; omega
  | succ d ih =>
    intro k i hd hi hk
    obtain ⟨k, rfl⟩ : ∃ m, k = m + 1 := ⟨k - 1, by omega⟩
    simp only [spec_l02Numbers.l0]
    rw [if_pos (by omega), if_pos (by omega), rd_nat, e0, in_tells, w64_succ (n := l.length) (by omega) hl, ih k (i + 1) (by omega) (by omega) (by omega), allIn_drop (show i < l.length by omega)]
    simp only [Option.bind_some]
    by_cases h : 0 ≤ l.getD i 0 ∧ l.getD i 0 ≤ p - 1
    · rw [decide_eq_true h]; simp
    · rw [decide_eq_false h]; simp
theorem numbers_tells {l : List Int} {p : Int} (hp : 2 ≤ p) (hp' : p ≤ 251) (hl : l.length ≤ 35184372088832) {k : Nat} (hk : l.length < k) : spec_l02Numbers.f k l p = some (decide (l.length ≤ 64) && allIn l p) := by
  unfold spec_l02Numbers.f
  have := numbers_loop hp hp' hl l.length k 0 (by omega) (by omega) hk
  rw [show ((0 : Int)) = ((0 : Nat) : Int) by rfl, this, List.drop_zero, Bool.and_comm]
def rhsOk (n p : Int) (x : List Int) : Bool := decide ((x.length : Int) = n) && allIn x p
theorem rhsOk_iff {n p : Int} {x : List Int} : rhsOk n p x = true ↔ (x.length : Int) = n ∧ ∀ y, y ∈ x → 0 ≤ y ∧ y < p := by
  unfold rhsOk; rw [Bool.and_eq_true, decide_eq_true_eq, allIn_iff]
theorem vec_range {p : Int} (hp : 2 ≤ p) {x : List Int} (h : ∀ y, y ∈ x → 0 ≤ y ∧ y < p) (j : Nat) : 0 ≤ x.getD j 0 ∧ x.getD j 0 < p := by
  by_cases hj : j < x.length
  · exact h _ (by rw [getD_at hj]; exact List.getElem_mem hj)
  · rw [List.getD_eq_getElem?_getD, List.getElem?_eq_none (by omega)]; simp; omega
theorem isVec_tells {p : Int} (hp : isP p = true) (n : Int) (x : List Int) : impl_isVector.f x n p = some (rhsOk n p x) := by
  unfold impl_isVector.f rhsOk
  rw [areElements_tells hp]
  show (if (x.length : Int) = n then _ else _) = _
  by_cases h : (x.length : Int) = n
  · rw [if_pos h, decide_eq_true h]; simp
  · rw [if_neg h, decide_eq_false h]; simp
theorem specVecA {p : Int} (hp : isP p = true) {n : Int} (hn : n ≤ 32) {x : List Int} (hx : x.length ≤ 1048576) {k : Nat} (hk : 1048577 ≤ k) : spec_l04Vector.f k p n x = some (rhsOk n p x) := by
  have h2 := isP_ge hp
  unfold spec_l04Vector.f rhsOk
  rw [numbers_tells h2.1 h2.2 (by omega) (by omega), Option.bind_some]
  by_cases e : (x.length : Int) = n
  · have h3 : x.length ≤ 64 := by omega
    rw [decide_eq_true h3, decide_eq_true e, Bool.true_and, e]
    cases allIn x p <;> simp
  · rw [decide_eq_false e, Bool.false_and]
    by_cases e2 : (decide (x.length ≤ 64) && allIn x p) = true
    · rw [if_pos e2]; simp [e]
    · rw [if_neg e2]
def askOf (p r c : Int) (l b : List Int) : Int := if matOk p r c l = true then (if rhsOk r p b = true then 0 else 2) else 1
theorem rightSide_tells (p r c : Int) {l b : List Int} {k : Nat} (hk : 20 ≤ k) : impl_rightSide.f k p r c l b = some (askOf p r c l b) := by
  unfold impl_rightSide.f askOf
  rw [implOk_tells p r c hk, Option.bind_some]
  by_cases h : matOk p r c l = true
  · rw [if_pos h, if_pos h, isVec_tells (matOk_iff.mp h).1, Option.bind_some]
    cases rhsOk r p b <;> simp
  · rw [if_neg h, if_neg h]
theorem ask_tells (p r c : Int) {l b : List Int} (hl : l.length ≤ 1048576) (hb : b.length ≤ 1048576) {k : Nat} (hk : 2000000 ≤ k) : spec_l04Ask.f k p r c l b = some (askOf p r c l b) := by
  unfold spec_l04Ask.f askOf
  rw [specOk_tells p r c (by omega) (by omega), Option.bind_some]
  by_cases h : matOk p r c l = true
  · have hm := matOk_iff.mp h
    rw [if_pos h, if_pos h, specVecA hm.1 hm.2.1.2 hb (by omega), Option.bind_some]
    cases rhsOk r p b <;> simp
  · rw [if_neg h, if_neg h]
theorem ask_dims {p r c : Int} {l b : List Int} (h : matOk p r c l = true) (hb : rhsOk r p b = true) : ∃ R C : Nat, r = R ∧ c = C ∧ R ≤ 32 ∧ C ≤ 32 ∧ l.length = R * C ∧ (∀ j, 0 ≤ l.getD j 0 ∧ l.getD j 0 < p) ∧ b.length = R ∧ ∀ j, 0 ≤ b.getD j 0 ∧ b.getD j 0 < p := by
  obtain ⟨hp, hr, hc, hl, hv⟩ := matOk_iff.mp h
  obtain ⟨hbl, hbv⟩ := rhsOk_iff.mp hb
  have h2 := (isP_ge hp).1
  obtain ⟨R, rfl⟩ := Int.eq_ofNat_of_zero_le hr.1
  obtain ⟨C, rfl⟩ := Int.eq_ofNat_of_zero_le hc.1
  exact ⟨R, C, rfl, rfl, by omega, by omega, by exact_mod_cast hl, vec_range h2 hv, by omega, vec_range h2 hbv⟩
theorem slice_row {l : List Int} {r c i : Nat} (hl : l.length = r * c) (hi : i < r) : (l.take ((i + 1) * c)).drop (i * c) = (List.range c).map (fun j => l.getD (i * c + j) 0) := by
  have h1 : (i + 1) * c ≤ r * c := Nat.mul_le_mul_right _ hi
  have h2 := Nat.succ_mul i c
  have h4 : ((l.take ((i + 1) * c)).drop (i * c)).length = c := by
    rw [List.length_drop, List.length_take, Nat.min_eq_left (by rw [hl]; exact h1), h2, Nat.add_sub_cancel_left]
  refine List.ext_getElem (by rw [h4]; simp) (fun j hj hj' => ?_)
  have hj2 : j < c := by rw [h4] at hj; exact hj
  have h3 := at_lt hi hj2
  rw [List.getElem_drop, List.getElem_take, List.getElem_map, List.getElem_range, List.getD_eq_getElem?_getD, List.getElem?_eq_getElem (by omega)]
  rfl
end Go.Proofs.Ytmbbjmkcbpefhaa.F
end

section
set_option linter.unusedVariables false
set_option linter.unusedSimpArgs false
set_option linter.unusedSectionVars false
namespace Go.Proofs.Ytmbbjmkcbpefhaa.Lin
def pinv (p a : Int) : Int := a ^ (p - 2).toNat % p
theorem pinv_range {p a : Int} (hp : isP p = true) : 0 ≤ pinv p a ∧ pinv p a < p := by
  have hp2 := isP_ge hp
  exact ⟨Int.emod_nonneg _ (by omega), Int.emod_lt_of_pos _ (by omega)⟩
/-! ### Rows as lists -/
def RowOk (p : Int) (n : Nat) (r : List Int) : Prop := r.length = n ∧ ∀ x, x ∈ r → 0 ≤ x ∧ x < p
def RowsOk (p : Int) (n : Nat) (rows : List (List Int)) : Prop := ∀ r, r ∈ rows → RowOk p n r
def cell (rows : List (List Int)) (i j : Nat) : Int := (rows.getD i []).getD j 0
theorem RowsOk.cell {p : Int} {n : Nat} {rows : List (List Int)} (h : RowsOk p n rows) (hp : 0 < p) (i j : Nat) : 0 ≤ cell rows i j ∧ cell rows i j < p := by
  unfold Lin.cell
  rw [List.getD_eq_getElem?_getD, List.getD_eq_getElem?_getD]
  by_cases hi : i < rows.length
  · rw [List.getElem?_eq_getElem hi]
    simp only [Option.getD_some]
    by_cases hj : j < (rows[i]).length
    · rw [List.getElem?_eq_getElem hj]
      exact (h _ (List.getElem_mem hi)).2 _ (List.getElem_mem hj)
    · rw [List.getElem?_eq_none (by omega)]; exact ⟨Int.le_refl 0, hp⟩
  · rw [List.getElem?_eq_none (show rows.length ≤ i by omega)]; simp; omega
def findPivot (rows : List (List Int)) (top c : Nat) : Option Nat := (rows.drop top).findIdx? (fun r => decide (r.getD c 0 ≠ 0))
def swapRows (rows : List (List Int)) (a b : Nat) : List (List Int) := (rows.set a (rows.getD b [])).set b (rows.getD a [])
def clearRow (p : Int) (c : Nat) (q r : List Int) : List Int := if r.getD c 0 = 0 then r else addRow p r q (p - r.getD c 0)
def clearAll (p : Int) (c top : Nat) (q : List Int) (rows : List (List Int)) : List (List Int) := rows.mapIdx (fun i r => if i = top then r else clearRow p c q r)
def elimStep (p : Int) (s : List (List Int) × List Int × Int) (c : Nat) : List (List Int) × List Int × Int :=
  match findPivot s.1 s.2.1.length c with
  | none => (s.1, s.2.1, 0)
  | some k =>
    let top := s.2.1.length
    let rows := if k = 0 then s.1 else swapRows s.1 top (top + k)
    let lead := cell rows top c
    let q := (rows.getD top []).map (fun x => pinv p lead * x % p)
    (clearAll p c top q (rows.set top q), s.2.1 ++ [(c : Int)], (if k = 0 then s.2.2 else -s.2.2 % p) * lead % p)
def elimTo (p : Int) (rows : List (List Int)) (c : Nat) : List (List Int) × List Int × Int := (List.range c).foldl (elimStep p) (rows, [], 1)
theorem elimTo_succ (p : Int) (rows : List (List Int)) (c : Nat) : elimTo p rows (c + 1) = elimStep p (elimTo p rows c) c := by
  unfold elimTo; rw [List.range_succ, List.foldl_append]; rfl
def elim (p : Int) (n : Nat) (rows : List (List Int)) : List (List Int) × List Int × Int := elimTo p rows n
theorem swapRows_length (rows : List (List Int)) (a b : Nat) : (swapRows rows a b).length = rows.length := by unfold swapRows; simp
theorem clearAll_length (p : Int) (c top : Nat) (q : List Int) (rows : List (List Int)) : (clearAll p c top q rows).length = rows.length := by unfold clearAll; simp
theorem swapRows_get (rows : List (List Int)) {a b : Nat} (ha : a < rows.length) (hb : b < rows.length) (i : Nat) : (swapRows rows a b).getD i [] = if i = b then rows.getD a [] else if i = a then rows.getD b [] else rows.getD i [] := by
  unfold swapRows
  simp only [List.getD_eq_getElem?_getD, List.getElem?_set, List.length_set]
  by_cases h1 : b = i
  · subst h1; simp [hb]
  · by_cases h2 : a = i
    · subst h2; simp [h1, ha, Ne.symm h1]
    · simp [h1, h2, Ne.symm h1, Ne.symm h2]
theorem getD_mem {α : Type} {l : List α} {i : Nat} {d : α} (h : i < l.length) : l.getD i d ∈ l := by
  rw [List.getD_eq_getElem?_getD, List.getElem?_eq_getElem h]; exact List.getElem_mem h
theorem findPivot_some {rows : List (List Int)} {top c k : Nat} (h : findPivot rows top c = some k) : top + k < rows.length ∧ cell rows (top + k) c ≠ 0 := by
  unfold findPivot at h
  obtain ⟨hk, hp, _⟩ := List.findIdx?_eq_some_iff_getElem.mp h
  rw [List.length_drop] at hk
  refine ⟨by omega, ?_⟩
  rw [List.getElem_drop] at hp
  unfold cell
  rw [List.getD_eq_getElem?_getD (l := rows), List.getElem?_eq_getElem (show top + k < rows.length by omega)]
  simpa using hp
theorem addRow_ok {p : Int} {n : Nat} {a b : List Int} (c : Int) (hp : 0 < p) (ha : a.length = n) (hb : b.length = n) : RowOk p n (addRow p a b c) := by
  refine ⟨by unfold addRow; simp [ha, hb], fun x hx => ?_⟩
  unfold addRow at hx
  rw [List.mem_iff_getElem] at hx
  obtain ⟨j, hj, rfl⟩ := hx
  rw [List.getElem_zipWith]
  exact ⟨Int.emod_nonneg _ (by omega), Int.emod_lt_of_pos _ hp⟩
theorem scale_ok {p : Int} {n : Nat} {a : List Int} (c : Int) (hp : 0 < p) (ha : a.length = n) : RowOk p n (a.map (fun x => c * x % p)) := by
  refine ⟨by simp [ha], fun x hx => ?_⟩
  obtain ⟨y, _, rfl⟩ := List.mem_map.mp hx
  exact ⟨Int.emod_nonneg _ (by omega), Int.emod_lt_of_pos _ hp⟩
theorem RowsOk.set {p : Int} {n : Nat} {rows : List (List Int)} (h : RowsOk p n rows) {r : List Int} (hr : RowOk p n r) (k : Nat) : RowsOk p n (rows.set k r) := fun x hx => by
  rcases List.mem_or_eq_of_mem_set hx with h1 | h1
  · exact h x h1
  · rw [h1]; exact hr
theorem RowsOk.swap {p : Int} {n : Nat} {rows : List (List Int)} (h : RowsOk p n rows) {a b : Nat} (ha : a < rows.length) (hb : b < rows.length) : RowsOk p n (swapRows rows a b) :=
  (h.set (h _ (getD_mem hb)) a).set (h _ (getD_mem ha)) b
theorem clearRow_ok {p : Int} {n : Nat} {q r : List Int} (c : Nat) (hp : 0 < p) (hq : q.length = n) (hr : RowOk p n r) : RowOk p n (clearRow p c q r) := by
  unfold clearRow
  split
  · exact hr
  · exact addRow_ok _ hp hr.1 hq
theorem RowsOk.clear {p : Int} {n : Nat} {rows : List (List Int)} (h : RowsOk p n rows) (hp : 0 < p) {q : List Int} (hq : q.length = n) (c top : Nat) : RowsOk p n (clearAll p c top q rows) := fun x hx => by
  unfold clearAll at hx
  obtain ⟨i, hi, rfl⟩ := List.mem_mapIdx.mp hx
  split
  · exact h _ (List.getElem_mem hi)
  · exact clearRow_ok c hp hq (h _ (List.getElem_mem hi))
theorem clearAll_get {p : Int} {c top : Nat} {q : List Int} {rows : List (List Int)} {i : Nat} (hi : i < rows.length) : (clearAll p c top q rows).getD i [] = if i = top then rows.getD i [] else clearRow p c q (rows.getD i []) := by
  unfold clearAll
  simp only [List.getD_eq_getElem?_getD, List.getElem?_mapIdx, List.getElem?_eq_getElem hi, Option.map_some, Option.getD_some]
theorem elimStep_none {p : Int} {c : Nat} {rows : List (List Int)} {piv : List Int} {d : Int} (h : findPivot rows piv.length c = none) : elimStep p (rows, piv, d) c = (rows, piv, 0) := by
  unfold elimStep
  dsimp only
  rw [h]
theorem elimTo_small {p : Int} {n : Nat} {rows : List (List Int)} (hp : isP p = true) (hok : RowsOk p n rows) (c : Nat) (hc : c ≤ n) :
    RowsOk p n (elimTo p rows c).1 ∧ (elimTo p rows c).1.length = rows.length ∧ (elimTo p rows c).2.1.length ≤ c ∧ (elimTo p rows c).2.1.length ≤ rows.length ∧ (0 ≤ (elimTo p rows c).2.2 ∧ (elimTo p rows c).2.2 < p) ∧ ((elimTo p rows c).2.1.length < c → (elimTo p rows c).2.2 = 0) := by
  have hp2 := isP_ge hp
  induction c with
  | zero => exact ⟨hok, rfl, Nat.le_refl _, Nat.zero_le _, ⟨by show (0:Int) ≤ 1; omega, by show (1:Int) < p; omega⟩, fun h => absurd h (Nat.not_lt_zero _)⟩
  | succ c ih =>
    obtain ⟨h1, h2, h3, h4, h5, h6⟩ := ih (by omega)
    rw [elimTo_succ]
    generalize elimTo p rows c = s at *
    obtain ⟨R, piv, d⟩ := s
    dsimp only at *
    cases hf : findPivot R piv.length c with
    | none =>
      rw [elimStep_none hf]
      exact ⟨h1, h2, Nat.le_succ_of_le h3, h4, ⟨Int.le_refl 0, by show (0:Int) < p; omega⟩, fun _ => rfl⟩
    | some k =>
      obtain ⟨b1, b2⟩ := findPivot_some hf
      have hst : elimStep p (R, piv, d) c = (clearAll p c piv.length (((if k = 0 then R else swapRows R piv.length (piv.length + k)).getD piv.length []).map (fun x => pinv p (cell (if k = 0 then R else swapRows R piv.length (piv.length + k)) piv.length c) * x % p)) ((if k = 0 then R else swapRows R piv.length (piv.length + k)).set piv.length (((if k = 0 then R else swapRows R piv.length (piv.length + k)).getD piv.length []).map (fun x => pinv p (cell (if k = 0 then R else swapRows R piv.length (piv.length + k)) piv.length c) * x % p))), piv ++ [(c : Int)], (if k = 0 then d else -d % p) * cell (if k = 0 then R else swapRows R piv.length (piv.length + k)) piv.length c % p) := by
        unfold elimStep; simp only [hf]
      rw [hst]
      have hW : RowsOk p n (if k = 0 then R else swapRows R piv.length (piv.length + k)) ∧ (if k = 0 then R else swapRows R piv.length (piv.length + k)).length = R.length := by
        by_cases e : k = 0
        · rw [if_pos e]; exact ⟨h1, rfl⟩
        · rw [if_neg e]; exact ⟨RowsOk.swap h1 (by omega) b1, swapRows_length _ _ _⟩
      have hz : (if k = 0 then d else -d % p) = 0 ∨ ¬ piv.length < c := by
        by_cases e : piv.length < c
        · left; rw [h6 e]; simp
        · exact .inr e
      generalize (if k = 0 then R else swapRows R piv.length (piv.length + k)) = W at hW ⊢
      generalize (if k = 0 then d else -d % p) = e at hz ⊢
      have okT : RowOk p n (W.getD piv.length []) := hW.1 _ (getD_mem (by omega))
      have hq : RowOk p n ((W.getD piv.length []).map (fun x => pinv p (cell W piv.length c) * x % p)) := scale_ok _ (by omega) okT.1
      refine ⟨RowsOk.clear (RowsOk.set hW.1 hq _) (by omega) hq.1 c _, ?_, ?_, ?_, ⟨Int.emod_nonneg _ (by omega), Int.emod_lt_of_pos _ (by omega)⟩, fun h => ?_⟩
      · rw [clearAll_length, List.length_set]; omega
      · simp; omega
      · simp; omega
      · rcases hz with hz | hz
        · show e * _ % p = 0
          rw [hz]; simp
        · exfalso; simp at h; omega
end Go.Proofs.Ytmbbjmkcbpefhaa.Lin
end

section
set_option linter.unusedVariables false
set_option linter.unusedSimpArgs false
set_option linter.unusedSectionVars false
namespace Go.Proofs.Ytmbbjmkcbpefhaa.F
open Go.RowKit Go.Proofs.YtmbbjmkcbpefhaaW.PrintWords Go.Proofs.YtmbbjmkcbpefhaaW.PrintLast Go.Proofs.Ytmbbjmkcbpefhaa.Lin
theorem rdL_nat (l : List (List Int)) (i : Nat) : rd_L1 l (i : Int) = l.getD i [] := by unfold rd_L1; rw [Int.toNat_natCast]
def rowsM (R C : Nat) (l : List Int) : List (List Int) := (List.range R).map (fun i => (List.range C).map (fun j => l.getD (i * C + j) 0))
theorem rowsM_length (R C : Nat) (l : List Int) : (rowsM R C l).length = R := by unfold rowsM; simp
theorem rowsM_snoc (R C : Nat) (l : List Int) : rowsM R C l ++ [(List.range C).map (fun j => l.getD (R * C + j) 0)] = rowsM (R + 1) C l := by
  unfold rowsM; rw [List.range_succ, List.map_append]; rfl
theorem rowsM_ok {p : Int} {R C : Nat} {l : List Int} (h : ∀ j, 0 ≤ l.getD j 0 ∧ l.getD j 0 < p) : RowsOk p C (rowsM R C l) := fun r hr => by
  unfold rowsM at hr
  obtain ⟨i, _, rfl⟩ := List.mem_map.mp hr
  refine ⟨by simp, fun x hx => ?_⟩
  obtain ⟨j, _, rfl⟩ := List.mem_map.mp hx
  exact h _
theorem rowsM_cell {R C i j : Nat} (l : List Int) (hi : i < R) (hj : j < C) : cell (rowsM R C l) i j = l.getD (i * C + j) 0 := by
  unfold cell rowsM
  simp [List.getD_eq_getElem?_getD, hi, hj]
theorem rowsM_tab {R C : Nat} {l : List Int} (hl : l.length = R * C) : tab R C (cell (rowsM R C l)) = l :=
  (tab_ext hl (fun i j hi hj => (rowsM_cell l hi hj).symm)).symm
theorem clone_tells {p r : Int} {R C : Nat} {l : List Int} (hR : R ≤ 64) (hC : C ≤ 70) (hl : l.length = R * C) {i : Nat} (hi : i < R) :
    slices_Clone_int64_int64.f p r C l i = some ((List.range C).map (fun j => l.getD (i * C + j) 0)) := by
  unfold slices_Clone_int64_int64.f
  have h1 : (i + 1) * C ≤ R * C := Nat.mul_le_mul_right _ hi
  have h2 : i * C ≤ (i + 1) * C := Nat.mul_le_mul_right _ (by omega)
  rw [w64_succ (n := 64) (i := i) (by omega) (by omega), w64_mulN (r := i) (by omega) (by omega), w64_mulN (r := i + 1) (by omega) (by omega), if_pos (idx0 _), if_pos (by omega), if_pos (by omega), Int.toNat_natCast, Int.toNat_natCast, slice_row hl hi]
  rw [if_pos (by simp; omega)]
theorem rowsOf_loop {p r : Int} {R C : Nat} {l : List Int} (hR : R ≤ 64) (hC : C ≤ 70) (hl : l.length = R * C) (d : Nat) : ∀ k i, R - i = d → i ≤ R → d < k → impl_rowsOf.l0 k (rowsM i C l) R i p r C l = some (rowsM R C l) := by
  induction d with
  | zero =>
    intro k i hd hi hk
    obtain ⟨k, rfl⟩ : ∃ m, k = m + 1 := ⟨k - 1, by omega⟩
    obtain rfl : i = R := by omega
    simp only [impl_rowsOf.l0]
    rw [if_neg (nlt_nat (Nat.le_refl _))]
  | succ d ih =>
    intro k i hd hi hk
    obtain ⟨k, rfl⟩ : ∃ m, k = m + 1 := ⟨k - 1, by omega⟩
    have hiR : i < R := by omega
    simp only [impl_rowsOf.l0]
    rw [if_pos (lt_nat hiR), clone_tells hR hC hl hiR, Option.bind_some, if_pos (by rw [rowsM_length]; omega), rowsM_snoc, w64_succ (n := 64) (by omega) (by omega)]
    exact ih k (i + 1) (by omega) (by omega) (by omega)
theorem rowsOf_tells {p : Int} {R C : Nat} {l : List Int} (hR : R ≤ 64) (hC : C ≤ 70) (hl : l.length = R * C) {k : Nat} (hk : R < k) : impl_rowsOf.f k p R C l = some (rowsM R C l) := by
  unfold impl_rowsOf.f
  exact rowsOf_loop hR hC hl R k 0 (by omega) (by omega) hk
theorem take_flatten_succ {α : Type} (rs : List (List α)) {i : Nat} (hi : i < rs.length) : (rs.take (i + 1)).flatten = (rs.take i).flatten ++ rs.getD i [] := by
  rw [List.take_add_one, List.getElem?_eq_getElem hi, List.flatten_append, getD_at hi]
  simp
theorem tab_snoc (r c : Nat) (f : Nat → Nat → Int) : tab (r + 1) c f = tab r c f ++ (List.range c).map (f r) := by
  symm
  refine tab_ext (by rw [List.length_append, tab_length]; simp [Nat.succ_mul]) (fun i j hi hj => ?_)
  rw [List.getD_eq_getElem?_getD, List.getElem?_append, tab_length]
  by_cases h : i < r
  · have := at_lt h hj
    rw [if_pos this, ← List.getD_eq_getElem?_getD, tab_at f h hj]
  · obtain rfl : i = r := by omega
    rw [if_neg (by omega)]
    have e : i * c + j - i * c = j := by omega
    rw [e]
    simp [hj]
theorem flatten_tab {p : Int} {C : Nat} {rs : List (List Int)} (hok : RowsOk p C rs) (i : Nat) (hi : i ≤ rs.length) : (rs.take i).flatten = tab i C (cell rs) := by
  induction i with
  | zero => unfold tab; simp
  | succ i ih =>
    have hiR : i < rs.length := by omega
    rw [take_flatten_succ rs hiR, ih (by omega), tab_snoc]
    congr 1
    have h := (hok _ (getD_mem (d := []) hiR)).1
    refine ext_getD (by simpa using h) (fun j hj => ?_)
    rw [h] at hj
    show cell rs i j = _
    simp [List.getD_eq_getElem?_getD, hj]
theorem flatten_rows {p : Int} {C : Nat} {rs : List (List Int)} (hok : RowsOk p C rs) : rs.flatten = tab rs.length C (cell rs) := by
  have := flatten_tab hok rs.length (Nat.le_refl _)
  rwa [List.take_length] at this
theorem rdt {r c i j : Nat} (f : Nat → Nat → Int) (hi : i < r) (hj : j < c) : rd (tab r c f) ((i * c + j : Nat) : Int) = f i j := by rw [rd_nat, tab_at f hi hj]
theorem ne_nat {i n : Nat} (h : i ≠ n) : ¬ (i : Int) = (n : Int) := by omega
theorem modS {p x : Int} (hp : 2 ≤ p) (hp' : p ≤ 251) (hx : -1000000 ≤ x) (hx' : x ≤ 1000000) : spec_l03Mod.f x p = some (x % p) := by
  unfold spec_l03Mod.f
  rw [if_neg (by omega)]
  have h1 : -p < Int.tmod x p := Int.lt_tmod_of_pos _ (by omega)
  have h2 : Int.tmod x p < p := Int.tmod_lt_of_pos _ (by omega)
  rw [w64_idV (x := Int.tmod x p + p) (by omega) (by omega), Int.tmod_eq_emod_of_nonneg (by omega), Int.add_emod_right]
  congr 1
  have h := Int.mul_tdiv_add_tmod x p
  have : x = Int.tmod x p + p * (Int.tdiv x p) := by omega
  conv => rhs; rw [this]
  rw [Int.add_mul_emod_self_left]
section
variable {p : Int} {R C : Nat} {piv ml : List Int} {det mp m2 op o1 o2 : Int}
def sw (f : Nat → Nat → Int) (x y a b : Nat) : Int := if a = x then f y b else if a = y then f x b else f a b
theorem find_loop (hR : R ≤ 64) (hC : C ≤ 70) (f : Nat → Nat → Int) {row c : Nat} (hc : c < C) (d : Nat) : ∀ k q, R - q = d → q ≤ R → d < k → (∀ i, row ≤ i → i < q → f i c = 0) →
    ∃ k' q', k ≤ k' + d + 1 ∧ q ≤ q' ∧ q' ≤ R ∧ (∀ i, row ≤ i → i < q' → f i c = 0) ∧ (q' < R → f q' c ≠ 0) ∧
      spec_l03Reduced.l1 k p C piv det row c q mp R m2 ml op o1 o2 (tab R C f) = spec_l03Reduced.j3 k' p C piv det row c q' mp R m2 ml op o1 o2 (tab R C f) := by
  induction d with
  | zero =>
    intro k q hd hq hk h
    obtain ⟨k, rfl⟩ : ∃ m, k = m + 1 := ⟨k - 1, by omega⟩
    refine ⟨k, q, by omega, Nat.le_refl _, hq, h, fun e => by omega, ?_⟩
    simp only [spec_l03Reduced.l1]
    rw [if_neg (nlt_nat (by omega))]
  | succ d ih =>
    intro k q hd hq hk h
    obtain ⟨k, rfl⟩ : ∃ m, k = m + 1 := ⟨k - 1, by omega⟩
    have hqR : q < R := by omega
    by_cases e : f q c = 0
    · obtain ⟨k', q', e1, e2, e3, e4, e5, e6⟩ := ih k (q + 1) (by omega) (by omega) (by omega) (fun i h1 h2 => by
        by_cases h3 : i = q
        · rw [h3]; exact e
        · exact h i h1 (by omega))
      refine ⟨k', q', by omega, by omega, e3, e4, e5, ?_⟩
      rw [← e6]
      simp only [spec_l03Reduced.l1]
      rw [if_pos (lt_nat hqR), w64_at (r := R) (by omega) (by omega) (by omega) (by omega), if_pos (idx0 _), if_pos (idx1 f hqR hc), rdt f hqR hc, if_pos e, w64_succ (n := 64) (by omega) (by omega)]
    · refine ⟨k, q, by omega, Nat.le_refl _, hq, h, fun _ => e, ?_⟩
      simp only [spec_l03Reduced.l1]
      rw [if_pos (lt_nat hqR), w64_at (r := R) (by omega) (by omega) (by omega) (by omega), if_pos (idx0 _), if_pos (idx1 f hqR hc), rdt f hqR hc, if_neg e]
theorem swap_loop (hR : R ≤ 64) (hC : C ≤ 70) (f : Nat → Nat → Int) {row c q : Nat} (hq : q < R) (hr : row < R) (hne : q ≠ row) (d : Nat) : ∀ k j, C - j = d → j ≤ C → d < k →
    ∃ k', k ≤ k' + d + 1 ∧ spec_l03Reduced.l2 k p C piv det row c q j mp R m2 ml op o1 o2 (tab R C (fun a b => if b < j then sw f row q a b else f a b)) = spec_l03Reduced.j5 k' p C piv det row c mp R m2 ml op o1 o2 (tab R C (sw f row q)) := by
  induction d with
  | zero =>
    intro k j hd hj hk
    obtain ⟨k, rfl⟩ : ∃ m, k = m + 1 := ⟨k - 1, by omega⟩
    refine ⟨k, by omega, ?_⟩
    simp only [spec_l03Reduced.l2]
    rw [if_neg (nlt_nat (by omega)), tab_congr (g := sw f row q) (fun a b ha hb => by rw [if_pos (by omega)])]
  | succ d ih =>
    intro k j hd hj hk
    obtain ⟨k, rfl⟩ : ∃ m, k = m + 1 := ⟨k - 1, by omega⟩
    have hjC : j < C := by omega
    obtain ⟨k', e1, e2⟩ := ih k (j + 1) (by omega) (by omega) (by omega)
    refine ⟨k', by omega, ?_⟩
    rw [← e2]
    simp only [spec_l03Reduced.l2]
    rw [if_pos (lt_nat hjC), w64_at (r := R) (i := q) (by omega) (by omega) (by omega) (by omega), w64_at (r := R) (i := row) (by omega) (by omega) (by omega) (by omega), if_pos (idx0 _), if_pos (idx1 _ hq hjC), if_pos (idx0 _), if_pos (idx1 _ hr hjC),
      rdt _ hq hjC, rdt _ hr hjC, Int.toNat_natCast, Int.toNat_natCast, tab_set _ hq hjC, tab_set _ hr hjC, w64_succ (n := 70) (by omega) (by omega)]
    congr 1
    refine tab_congr (fun a b ha hb => ?_)
    unfold sw
    by_cases e1 : a = row
    · subst e1
      by_cases e2 : b = j
      · subst e2; simp [Nat.lt_irrefl]
      · have : (b < j + 1) = (b < j) := by apply propext; omega
        simp [e2, this]
    · by_cases e3 : a = q
      · subst e3
        by_cases e2 : b = j
        · subst e2; simp [e1, Nat.lt_irrefl]
        · have : (b < j + 1) = (b < j) := by apply propext; omega
          simp [e2, this, e1]
      · simp [e1, e3]
theorem scale_loop (hp : 2 ≤ p) (hp' : p ≤ 251) (hR : R ≤ 64) (hC : C ≤ 70) (f : Nat → Nat → Int) (hf : ∀ i j, 0 ≤ f i j ∧ f i j < p) {row c : Nat} (hr : row < R) {inv : Int} (hi : 0 ≤ inv ∧ inv < p) (d : Nat) : ∀ k j, C - j = d → j ≤ C → d < k →
    ∃ k', k ≤ k' + d + 1 ∧ spec_l03Reduced.l3 k p C piv det row c inv j mp R m2 ml op o1 o2 (tab R C (fun a b => if a = row ∧ b < j then f a b * inv % p else f a b)) = spec_l03Reduced.l4 k' p C piv det row c 0 mp R m2 ml op o1 o2 (tab R C (fun a b => if a = row then f a b * inv % p else f a b)) := by
  induction d with
  | zero =>
    intro k j hd hj hk
    obtain ⟨k, rfl⟩ : ∃ m, k = m + 1 := ⟨k - 1, by omega⟩
    refine ⟨k, by omega, ?_⟩
    simp only [spec_l03Reduced.l3]
    rw [if_neg (nlt_nat (by omega)), tab_congr (g := fun a b => if a = row then f a b * inv % p else f a b) (fun a b ha hb => by
      by_cases e : a = row
      · rw [if_pos ⟨e, by omega⟩, if_pos e]
      · rw [if_neg (fun h => e h.1), if_neg e])]
  | succ d ih =>
    intro k j hd hj hk
    obtain ⟨k, rfl⟩ : ∃ m, k = m + 1 := ⟨k - 1, by omega⟩
    have hjC : j < C := by omega
    obtain ⟨k', e1, e2⟩ := ih k (j + 1) (by omega) (by omega) (by omega)
    refine ⟨k', by omega, ?_⟩
    rw [← e2]
    simp only [spec_l03Reduced.l3]
    have hs := smallS hp hp' (hf row j).1 (by have := (hf row j).2; omega) hi.1 hi.2
    rw [if_pos (lt_nat hjC), w64_at (r := R) (i := row) (by omega) (by omega) (by omega) (by omega), if_pos (idx0 _), if_pos (idx1 _ hr hjC), if_neg (by omega),
      rdt _ hr hjC, Int.toNat_natCast, w64_succ (n := 70) (by omega) (by omega), if_neg (by omega), w64_idV (x := f row j * inv) (by omega) (by omega), Int.tmod_eq_emod_of_nonneg hs.1, tab_set _ hr hjC]
    congr 1
    refine tab_congr (fun a b ha hb => ?_)
    by_cases e1 : a = row
    · subst e1
      by_cases e2 : b = j
      · subst e2; simp
      · have : (b < j + 1) = (b < j) := by apply propext; omega
        simp [e2, this]
    · simp [e1]
theorem clear_loop (hp : 2 ≤ p) (hp' : p ≤ 251) (hR : R ≤ 64) (hC : C ≤ 70) (f : Nat → Nat → Int) (hf : ∀ i j, 0 ≤ f i j ∧ f i j < p) {row c i : Nat} (hr : row < R) (hi : i < R) (hne : i ≠ row) {v : Int} (hv : 0 ≤ v ∧ v < p) (d : Nat) : ∀ k j, C - j = d → j ≤ C → d < k →
    ∃ k', k ≤ k' + d + 1 ∧ spec_l03Reduced.l5 k p C piv det row c i v j mp R m2 ml op o1 o2 (tab R C (fun a b => if a = i ∧ b < j then (f a b - v * f row b) % p else f a b)) = spec_l03Reduced.l4 k' p C piv det row c ((i + 1 : Nat) : Int) mp R m2 ml op o1 o2 (tab R C (fun a b => if a = i then (f a b - v * f row b) % p else f a b)) := by
  induction d with
  | zero =>
    intro k j hd hj hk
    obtain ⟨k, rfl⟩ : ∃ m, k = m + 1 := ⟨k - 1, by omega⟩
    refine ⟨k, by omega, ?_⟩
    simp only [spec_l03Reduced.l5]
    rw [if_neg (nlt_nat (by omega)), w64_succ (n := 64) (by omega) (by omega), tab_congr (g := fun a b => if a = i then (f a b - v * f row b) % p else f a b) (fun a b ha hb => by
      by_cases e : a = i
      · rw [if_pos ⟨e, by omega⟩, if_pos e]
      · rw [if_neg (fun h => e h.1), if_neg e])]
  | succ d ih =>
    intro k j hd hj hk
    obtain ⟨k, rfl⟩ : ∃ m, k = m + 1 := ⟨k - 1, by omega⟩
    have hjC : j < C := by omega
    obtain ⟨k', e1, e2⟩ := ih k (j + 1) (by omega) (by omega) (by omega)
    refine ⟨k', by omega, ?_⟩
    rw [← e2]
    simp only [spec_l03Reduced.l5]
    have hs := smallS hp hp' hv.1 (by omega) (hf row j).1 (hf row j).2
    have hx := hf i j
    rw [if_pos (lt_nat hjC), w64_at (r := R) (i := i) (by omega) (by omega) (by omega) (by omega), w64_at (r := R) (i := row) (by omega) (by omega) (by omega) (by omega), if_pos (idx0 _), if_pos (idx1 _ hi hjC), if_pos (idx0 _), if_pos (idx1 _ hr hjC),
      rdt _ hi hjC, rdt _ hr hjC, Int.toNat_natCast, w64_succ (n := 70) (by omega) (by omega), if_neg (by omega), if_neg (by omega), w64_idV (x := v * f row j) (by omega) (by omega), w64_idV (x := f i j - v * f row j) (by omega) (by omega),
      modS hp hp' (by omega) (by omega), Option.bind_some, tab_set _ hi hjC]
    congr 1
    refine tab_congr (fun a b ha hb => ?_)
    by_cases e1 : a = i
    · subst e1
      by_cases e2 : b = j
      · subst e2; simp
      · have : (b < j + 1) = (b < j) := by apply propext; omega
        simp [e2, this]
    · simp [e1]
def cleared (p : Int) (f : Nat → Nat → Int) (row c a b : Nat) : Int := if f a c = 0 then f a b else (f a b - f a c * f row b) % p
theorem rows_loop (hp : 2 ≤ p) (hp' : p ≤ 251) (hR : R ≤ 64) (hC : C ≤ 70) (f : Nat → Nat → Int) (hf : ∀ i j, 0 ≤ f i j ∧ f i j < p) {row c : Nat} (hr : row < R) (hc : c < C) (hpv : piv.length ≤ 100) (d : Nat) : ∀ k i, R - i = d → i ≤ R → d * (C + 3) + 1 < k →
    ∃ k', k ≤ k' + d * (C + 3) + 1 ∧ spec_l03Reduced.l4 k p C piv det row c i mp R m2 ml op o1 o2 (tab R C (fun a b => if a < i ∧ a ≠ row then cleared p f row c a b else f a b)) =
      spec_l03Reduced.l0 k' p C (piv ++ [(c : Int)]) det ((row + 1 : Nat) : Int) ((c + 1 : Nat) : Int) mp R m2 ml op o1 o2 (tab R C (fun a b => if a ≠ row then cleared p f row c a b else f a b)) := by
  induction d with
  | zero =>
    intro k i hd hi hk
    obtain ⟨k, rfl⟩ : ∃ m, k = m + 1 := ⟨k - 1, by omega⟩
    refine ⟨k, by omega, ?_⟩
    simp only [spec_l03Reduced.l4]
    rw [if_neg (nlt_nat (by omega)), if_pos (by omega), w64_succ (n := 64) (i := row) (by omega) (by omega), w64_succ (n := 70) (i := c) (by omega) (by omega), tab_congr (g := fun a b => if a ≠ row then cleared p f row c a b else f a b) (fun a b ha hb => by
      by_cases e : a ≠ row
      · rw [if_pos ⟨by omega, e⟩, if_pos e]
      · rw [if_neg (fun h => e h.2), if_neg e])]
  | succ d ih =>
    intro k i hd hi hk
    obtain ⟨k, rfl⟩ : ∃ m, k = m + 1 := ⟨k - 1, by omega⟩
    obtain ⟨k, rfl⟩ : ∃ m, k = m + 1 := ⟨k - 1, by omega⟩
    have hiR : i < R := by omega
    have hm : (d + 1) * (C + 3) = d * (C + 3) + (C + 3) := by rw [Nat.add_mul, Nat.one_mul]
    simp only [spec_l03Reduced.l4]
    rw [if_pos (lt_nat hiR), w64_at (r := R) (by omega) (by omega) (by omega) (by omega), if_pos (idx0 _), if_pos (idx1 _ hiR hc), rdt _ hiR hc, if_neg (show ¬ (i < i ∧ i ≠ row) from fun h => Nat.lt_irrefl _ h.1)]
    by_cases e : i = row
    · obtain ⟨k', e1, e2⟩ := ih (k + 0) (i + 1) (by omega) (by omega) (by omega)
      refine ⟨k', by omega, ?_⟩
      rw [← e2, if_pos (by rw [e])]
      simp only [spec_l03Reduced.j8]
      rw [if_pos trivial, w64_succ (n := 64) (by omega) (by omega)]
      congr 1
      refine tab_congr (fun a b ha hb => ?_)
      by_cases e3 : a = row
      · simp [e3]
      · have : (a < i + 1) = (a < i) := by apply propext; omega
        simp [e3, this]
    · rw [if_neg (ne_nat e)]
      by_cases ez : f i c = 0
      · obtain ⟨k', e1, e2⟩ := ih k (i + 1) (by omega) (by omega) (by omega)
        refine ⟨k', by omega, ?_⟩
        rw [← e2]
        simp only [spec_l03Reduced.j8]
        rw [if_pos (by rw [ez]; rfl), w64_succ (n := 64) (by omega) (by omega)]
        congr 1
        refine tab_congr (fun a b ha hb => ?_)
        by_cases e3 : a = i
        · subst e3; simp [e, cleared, ez]
        · have : (a < i + 1) = (a < i) := by apply propext; omega
          simp [this]
      · have hg : ∀ a b, 0 ≤ (if a < i ∧ a ≠ row then cleared p f row c a b else f a b) ∧ (if a < i ∧ a ≠ row then cleared p f row c a b else f a b) < p := fun a b => by
          by_cases h : a < i ∧ a ≠ row
          · rw [if_pos h]; unfold cleared
            by_cases h2 : f a c = 0
            · rw [if_pos h2]; exact hf a b
            · rw [if_neg h2]; exact ⟨Int.emod_nonneg _ (by omega), Int.emod_lt_of_pos _ (by omega)⟩
          · rw [if_neg h]; exact hf a b
        obtain ⟨k1, c1, c2⟩ := clear_loop (p := p) (R := R) (C := C) (piv := piv) (ml := ml) (det := det) (mp := mp) (m2 := m2) (op := op) (o1 := o1) (o2 := o2) hp hp' hR hC _ hg hr hiR e (c := c) (v := f i c) (hf i c) C k 0 (by omega) (by omega) (by omega)
        obtain ⟨k', e1, e2⟩ := ih k1 (i + 1) (by omega) (by omega) (by omega)
        refine ⟨k', by omega, ?_⟩
        rw [← e2]
        simp only [spec_l03Reduced.j8]
        rw [if_neg (by simp [ez])]
        have c0 := tab_congr (r := R) (c := C) (f := fun a b => if a = i ∧ b < 0 then ((if a < i ∧ a ≠ row then cleared p f row c a b else f a b) - f i c * (if row < i ∧ row ≠ row then cleared p f row c row b else f row b)) % p else (if a < i ∧ a ≠ row then cleared p f row c a b else f a b)) (g := fun a b => if a < i ∧ a ≠ row then cleared p f row c a b else f a b) (fun a b ha hb => by rw [if_neg (fun h => Nat.not_lt_zero _ h.2)])
        rw [c0] at c2
        refine c2.trans ?_
        congr 1
        refine tab_congr (fun a b ha hb => ?_)
        by_cases e3 : a = i
        · subst e3; simp [e, cleared, ez, Nat.lt_irrefl]
        · have : (a < i + 1) = (a < i) := by apply propext; omega
          simp [e3, this]
theorem inv_loop (hp : 2 ≤ p) (hp' : p ≤ 251) {a : Int} (h0 : 0 ≤ a) (h1 : a < p) (n : Nat) : ∀ (k : Nat) (acc : Int), n < k → n ≤ 300 → 0 ≤ acc → acc < p → spec_l03Inverse.l0 k a p acc n = some (acc * a ^ n % p) := by
  induction n with
  | zero =>
    intro k acc hk _ g0 g1
    obtain ⟨k, rfl⟩ : ∃ m, k = m + 1 := ⟨k - 1, by omega⟩
    simp only [spec_l03Inverse.l0]
    rw [if_neg (by simp), Int.pow_zero, Int.mul_one, Int.emod_eq_of_lt g0 g1]
  | succ n ih =>
    intro k acc hk hn g0 g1
    obtain ⟨k, rfl⟩ : ∃ m, k = m + 1 := ⟨k - 1, by omega⟩
    have hs := smallS hp hp' g0 (by omega) h0 h1
    simp only [spec_l03Inverse.l0]
    have e1 : ((n + 1 : Nat) : Int) - 1 = (n : Int) := by omega
    rw [if_pos (by omega), if_neg (by omega), w64_idV (x := acc * a) (by omega) (by omega), Int.tmod_eq_emod_of_nonneg hs.1, e1, w64_idV (x := (n : Int)) (by omega) (by omega),
      ih k _ (by omega) (by omega) (Int.emod_nonneg _ (by omega)) (Int.emod_lt_of_pos _ (by omega)), Int.mul_emod, Int.emod_emod_of_dvd _ (Int.dvd_refl p), ← Int.mul_emod, Int.mul_assoc]
    congr 3
    rw [Int.pow_succ, Int.mul_comm]
theorem invS {a : Int} (hp : isP p = true) (h0 : 0 ≤ a) (h1 : a < p) {k : Nat} (hk : 300 ≤ k) : spec_l03Inverse.f k a p = some (pinv p a) := by
  have h := isP_ge hp
  unfold spec_l03Inverse.f
  rw [w64_idV (x := p - 2) (by omega) (by omega), show p - 2 = (((p - 2).toNat : Nat) : Int) by omega, inv_loop h.1 h.2 h0 h1 _ k 1 (by omega) (by omega) (by omega) (by omega), Int.one_mul]
  rfl
def pivoted (p : Int) (f : Nat → Nat → Int) (row c : Nat) : Nat → Nat → Int :=
  fun a b => if a ≠ row then cleared p (fun a b => if a = row then f a b * pinv p (f row c) % p else f a b) row c a b else (if a = row then f a b * pinv p (f row c) % p else f a b)
theorem step5 (hp : isP p = true) (hR : R ≤ 64) (hC : C ≤ 70) (f : Nat → Nat → Int) (hf : ∀ i j, 0 ≤ f i j ∧ f i j < p) {row c : Nat} (hr : row < R) (hc : c < C) (hpv : piv.length ≤ 100) (hd : 0 ≤ det) (hd' : det ≤ 251) {k : Nat} (hk : 6000 ≤ k) :
    ∃ k', k ≤ k' + 5000 ∧ spec_l03Reduced.j5 k p C piv det row c mp R m2 ml op o1 o2 (tab R C f) =
      spec_l03Reduced.l0 k' p C (piv ++ [(c : Int)]) (det * f row c % p) ((row + 1 : Nat) : Int) ((c + 1 : Nat) : Int) mp R m2 ml op o1 o2 (tab R C (pivoted p f row c)) := by
  have h2 := isP_ge hp
  obtain ⟨k, rfl⟩ : ∃ m, k = m + 1 := ⟨k - 1, by omega⟩
  have hi := pinv_range (p := p) (a := f row c) hp
  have hs := smallS h2.1 h2.2 hd hd' (hf row c).1 (hf row c).2
  have hmul : R * (C + 3) ≤ 64 * 73 := Nat.mul_le_mul hR (by omega)
  obtain ⟨k1, c1, c2⟩ := scale_loop (p := p) (R := R) (C := C) (piv := piv) (ml := ml) (det := det * f row c % p) (mp := mp) (m2 := m2) (op := op) (o1 := o1) (o2 := o2) h2.1 h2.2 hR hC f hf hr (c := c) (inv := pinv p (f row c)) hi C k 0 (by omega) (by omega) (by omega)
  have hg : ∀ a b, 0 ≤ (if a = row then f a b * pinv p (f row c) % p else f a b) ∧ (if a = row then f a b * pinv p (f row c) % p else f a b) < p := fun a b => by
    by_cases h : a = row
    · rw [if_pos h]; exact ⟨Int.emod_nonneg _ (by omega), Int.emod_lt_of_pos _ (by omega)⟩
    · rw [if_neg h]; exact hf a b
  obtain ⟨k2, d1, d2⟩ := rows_loop (p := p) (R := R) (C := C) (piv := piv) (ml := ml) (det := det * f row c % p) (mp := mp) (m2 := m2) (op := op) (o1 := o1) (o2 := o2) h2.1 h2.2 hR hC _ hg hr hc hpv R k1 0 (by omega) (by omega) (by omega)
  refine ⟨k2, by omega, ?_⟩
  unfold pivoted
  rw [← d2]
  have d0 := tab_congr (r := R) (c := C) (f := fun a b => if a < 0 ∧ a ≠ row then cleared p (fun a b => if a = row then f a b * pinv p (f row c) % p else f a b) row c a b else (if a = row then f a b * pinv p (f row c) % p else f a b)) (g := fun a b => if a = row then f a b * pinv p (f row c) % p else f a b) (fun a b ha hb => by rw [if_neg (fun h => Nat.not_lt_zero _ h.1)])
  rw [d0]
  refine Eq.trans ?_ c2
  have c0 := tab_congr (r := R) (c := C) (f := fun a b => if a = row ∧ b < 0 then f a b * pinv p (f row c) % p else f a b) (g := f) (fun a b ha hb => by rw [if_neg (fun h => Nat.not_lt_zero _ h.2)])
  rw [c0]
  simp only [spec_l03Reduced.j5]
  rw [w64_at (r := R) (by omega) (by omega) (by omega) (by omega), if_pos (idx0 _), if_pos (idx1 _ hr hc), if_neg (by omega), rdt _ hr hc, invS hp (hf row c).1 (hf row c).2 (by omega), Option.bind_some, w64_idV (x := det * f row c) (by omega) (by omega), Int.tmod_eq_emod_of_nonneg hs.1]
  rfl
end
theorem rangeC {p : Int} {n : Nat} {rows : List (List Int)} (hp : 2 ≤ p) (h : RowsOk p n rows) (i j : Nat) : 0 ≤ cell rows i j ∧ cell rows i j < p := RowsOk.cell h (by omega) i j
theorem find_none {rows : List (List Int)} {top c : Nat} (h : ∀ i, top ≤ i → i < rows.length → cell rows i c = 0) : findPivot rows top c = none := by
  unfold findPivot
  rw [List.findIdx?_eq_none_iff]
  intro r hr
  obtain ⟨j, hj, rfl⟩ := List.mem_iff_getElem.mp hr
  rw [List.length_drop] at hj
  have := h (top + j) (by omega) (by omega)
  unfold cell at this
  rw [getD_at (l := rows) (i := top + j) (d := []) (by omega)] at this
  rw [List.getElem_drop]
  simpa using this
theorem find_some {rows : List (List Int)} {top c q : Nat} (h1 : top ≤ q) (h2 : q < rows.length) (h : ∀ i, top ≤ i → i < q → cell rows i c = 0) (hq : cell rows q c ≠ 0) : findPivot rows top c = some (q - top) := by
  unfold findPivot
  rw [List.findIdx?_eq_some_iff_getElem]
  refine ⟨by rw [List.length_drop]; omega, ?_, fun j hj => ?_⟩
  · rw [List.getElem_drop]
    unfold cell at hq
    rw [getD_at (l := rows) (i := q) (d := []) h2] at hq
    have e : top + (q - top) = q := by omega
    simp only [e]
    simpa using hq
  · have := h (top + j) (by omega) (by omega)
    unfold cell at this
    rw [getD_at (l := rows) (i := top + j) (d := []) (by omega)] at this
    rw [List.getElem_drop]
    simpa using this
theorem cell_swap {rows : List (List Int)} {a b : Nat} (ha : a < rows.length) (hb : b < rows.length) (hab : b ≠ a) (i j : Nat) : cell (swapRows rows a b) i j = sw (cell rows) a b i j := by
  unfold cell sw
  rw [swapRows_get rows ha hb]
  by_cases e : i = b
  · subst e; rw [if_pos rfl, if_neg hab, if_pos rfl]
  · rw [if_neg e]
    by_cases e2 : i = a
    · rw [if_pos e2, if_pos e2]
    · rw [if_neg e2, if_neg e2, if_neg e]
theorem cell_pivot {p : Int} {n : Nat} {rows : List (List Int)} (hp : 2 ≤ p) (hok : RowsOk p n rows) {top c : Nat} (ht : top < rows.length) (hc : c < n) {i j : Nat} (hi : i < rows.length) (hj : j < n) :
    cell (clearAll p c top ((rows.getD top []).map (fun x => pinv p (cell rows top c) * x % p)) (rows.set top ((rows.getD top []).map (fun x => pinv p (cell rows top c) * x % p)))) i j = pivoted p (cell rows) top c i j := by
  have okT : RowOk p n (rows.getD top []) := hok _ (getD_mem ht)
  have okI : RowOk p n (rows.getD i []) := hok _ (getD_mem hi)
  have hq : ∀ j, j < n → ((rows.getD top []).map (fun x => pinv p (cell rows top c) * x % p)).getD j 0 = cell rows top j * pinv p (cell rows top c) % p := fun j hj => by
    have hj' : j < (rows.getD top []).length := by rw [okT.1]; exact hj
    rw [Int.mul_comm (cell rows top j)]
    show _ = pinv p (cell rows top c) * (rows.getD top []).getD j 0 % p
    rw [List.getD_eq_getElem?_getD, List.getElem?_map, List.getElem?_eq_getElem hj', getD_at hj']
    rfl
  have hql : ((rows.getD top []).map (fun x => pinv p (cell rows top c) * x % p)).length = n := by rw [List.length_map, okT.1]
  generalize (rows.getD top []).map (fun x => pinv p (cell rows top c) * x % p) = q at hq hql ⊢
  unfold cell pivoted
  rw [clearAll_get (by rw [List.length_set]; exact hi), getD_set _ _ _ _ ht]
  by_cases e : i = top
  · subst e
    rw [if_pos rfl, if_pos rfl, if_neg (by simp), if_pos rfl]
    exact hq j hj
  · rw [if_neg e, if_neg e, if_pos e]
    unfold clearRow cleared
    simp only [if_neg e, if_true]
    by_cases ez : (rows.getD i []).getD c 0 = 0
    · rw [if_pos ez, if_pos (by exact ez)]
    · rw [if_neg ez, if_neg (by exact ez), addRow_getD (by rw [okI.1]; exact hj) (by rw [hql]; exact hj), hq j hj]
      show _ = ((rows.getD i []).getD j 0 - (rows.getD i []).getD c 0 * (cell rows top j * pinv p (cell rows top c) % p)) % p
      generalize (rows.getD i []).getD c 0 = y
      generalize (rows.getD i []).getD j 0 = x
      generalize cell rows top j * pinv p (cell rows top c) % p = z
      have : x + (p - y) * z = x - y * z + p * z := by rw [Int.sub_mul]; omega
      rw [this, Int.add_mul_emod_self_left]
theorem elimTo_stop {p : Int} {rs : List (List Int)} {c : Nat} (h : (elimTo p rs c).1.length = (elimTo p rs c).2.1.length) (d : Nat) :
    (elimTo p rs (c + d)).1 = (elimTo p rs c).1 ∧ (elimTo p rs (c + d)).2.1 = (elimTo p rs c).2.1 := by
  induction d with
  | zero => exact ⟨rfl, rfl⟩
  | succ d ih =>
    rw [← Nat.add_assoc, elimTo_succ]
    generalize elimTo p rs (c + d) = s at ih ⊢
    obtain ⟨R, piv, det⟩ := s
    dsimp only at ih
    rw [elimStep_none (find_none (fun i h1 h2 => by rw [ih.1] at h2; rw [ih.2] at h1; omega))]
    exact ih
theorem spec_elim_loop {p : Int} (hp : isP p = true) {C : Nat} {rs : List (List Int)} (hm : rs.length ≤ 64) (hn : C ≤ 70) (hok : RowsOk p C rs) {ml : List Int} {mp m2 op o1 o2 : Int} (d : Nat) :
    ∀ k c ds, C - c = d → c ≤ C → d * 5200 + 6500 < k → 0 ≤ ds → ds < p → ((elimTo p rs c).2.1.length = c → ds = (elimTo p rs c).2.2) →
      ∃ ds', 0 ≤ ds' ∧ ds' < p ∧ ((elim p C rs).2.1.length = C → ds' = (elim p C rs).2.2) ∧
        spec_l03Reduced.l0 k p C (elimTo p rs c).2.1 ds ((elimTo p rs c).2.1.length : Int) c mp rs.length m2 ml op o1 o2 (tab rs.length C (cell (elimTo p rs c).1)) = some (op, o1, o2, tab rs.length C (cell (elim p C rs).1), (elim p C rs).2.1, ds') := by
  have h2 := isP_ge hp
  induction d with
  | zero =>
    intro k c ds hd hc hk d0 d1 hds
    obtain ⟨k, rfl⟩ : ∃ m, k = m + 1 := ⟨k - 1, by omega⟩
    obtain ⟨k, rfl⟩ : ∃ m, k = m + 1 := ⟨k - 1, by omega⟩
    obtain rfl : c = C := by omega
    refine ⟨ds, d0, d1, hds, ?_⟩
    simp only [spec_l03Reduced.l0, spec_l03Reduced.j1]
    rw [if_neg (nlt_nat (Nat.le_refl _)), if_neg (by simp)]
    rfl
  | succ d ih =>
    intro k c ds hd hc hk d0 d1 hds
    obtain ⟨k, rfl⟩ : ∃ m, k = m + 1 := ⟨k - 1, by omega⟩
    obtain ⟨k, rfl⟩ : ∃ m, k = m + 1 := ⟨k - 1, by omega⟩
    have hcn : c < C := by omega
    have hk2 : (d + 1) * 5200 = d * 5200 + 5200 := Nat.succ_mul _ _
    rw [hk2] at hk
    clear hk2
    generalize d * 5200 = D at hk ih
    obtain ⟨t1, t2, t7, hle, t6, t8⟩ := elimTo_small hp hok c hc
    by_cases hfull : (elimTo p rs c).2.1.length < rs.length
    · have ih2 := fun k' ds' => ih k' (c + 1) ds' (by omega) (by omega)
      rw [elimTo_succ] at ih2
      generalize elimTo p rs c = s at *
      obtain ⟨A, piv, det⟩ := s
      dsimp only at *
      have hf := rangeC h2.1 t1
      simp only [spec_l03Reduced.l0, spec_l03Reduced.j1]
      rw [if_pos (lt_nat hcn), if_pos (by simpa using hfull)]
      obtain ⟨k1, q, a1, a2, a3, a4, a5, a6⟩ := find_loop (p := p) (R := rs.length) (C := C) (piv := piv) (ml := ml) (det := ds) (mp := mp) (m2 := m2) (op := op) (o1 := o1) (o2 := o2) hm hn (cell A) (row := piv.length) hcn (rs.length - piv.length) k piv.length rfl (by omega) (by omega) (fun i h1 h3 => by omega)
      rw [a6]
      clear a6
      obtain ⟨k1, rfl⟩ : ∃ m, k1 = m + 1 := ⟨k1 - 1, by omega⟩
      simp only [spec_l03Reduced.j3]
      by_cases eq : q = rs.length
      · rw [if_pos (by rw [eq]), w64_succ (n := 70) (by omega) (by omega)]
        rw [elimStep_none (find_none (fun i h1 h3 => a4 i h1 (by omega)))] at ih2
        dsimp only at ih2
        exact ih2 k1 ds (by omega) d0 d1 (fun h => by omega)
      · have hqR : q < rs.length := by omega
        have hne := a5 hqR
        have hfs := find_some a2 (by omega) a4 hne
        have hst : elimStep p (A, piv, det) c = (clearAll p c piv.length (((if q - piv.length = 0 then A else swapRows A piv.length (piv.length + (q - piv.length))).getD piv.length []).map (fun x => pinv p (cell (if q - piv.length = 0 then A else swapRows A piv.length (piv.length + (q - piv.length))) piv.length c) * x % p)) ((if q - piv.length = 0 then A else swapRows A piv.length (piv.length + (q - piv.length))).set piv.length (((if q - piv.length = 0 then A else swapRows A piv.length (piv.length + (q - piv.length))).getD piv.length []).map (fun x => pinv p (cell (if q - piv.length = 0 then A else swapRows A piv.length (piv.length + (q - piv.length))) piv.length c) * x % p))), piv ++ [(c : Int)], (if q - piv.length = 0 then det else -det % p) * cell (if q - piv.length = 0 then A else swapRows A piv.length (piv.length + (q - piv.length))) piv.length c % p) := by
          unfold elimStep; simp only [hfs]
        rw [hst] at ih2
        clear hst
        dsimp only at ih2
        rw [if_neg (ne_nat eq)]
        by_cases e : q = piv.length
        · rw [if_pos (by rw [e])]
          have e0 : q - piv.length = 0 := by omega
          simp only [e0, if_true] at ih2
          obtain ⟨k2, b1, b2⟩ := step5 (p := p) (R := rs.length) (C := C) (piv := piv) (ml := ml) (det := ds) (mp := mp) (m2 := m2) (op := op) (o1 := o1) (o2 := o2) hp hm hn (cell A) hf (row := piv.length) (c := c) hfull hcn (by omega) d0 (by omega) (k := k1) (by omega)
          rw [b2, ← tab_congr (fun i j hi hj => cell_pivot h2.1 t1 (top := piv.length) (c := c) (by omega) hcn (by omega) hj)]
          have := ih2 k2 (ds * cell A piv.length c % p) (by omega) (Int.emod_nonneg _ (by omega)) (Int.emod_lt_of_pos _ (by omega)) (fun h => by
            rw [hds (by simp at h; omega)])
          simpa using this
        · rw [if_neg (ne_nat e)]
          have e0 : ¬ q - piv.length = 0 := by omega
          have e1 : piv.length + (q - piv.length) = q := by omega
          simp only [if_neg e0, e1] at ih2
          have hokW := RowsOk.swap t1 (a := piv.length) (b := q) (by omega) (by omega)
          have hlW := swapRows_length A piv.length q
          have hsw : ∀ i j, sw (cell A) piv.length q i j = cell (swapRows A piv.length q) i j := fun i j => (cell_swap (by omega) (by omega) (by omega) i j).symm
          rw [w64_idV (x := p - ds) (by omega) (by omega)]
          obtain ⟨k3, g1, g2⟩ := swap_loop (p := p) (R := rs.length) (C := C) (piv := piv) (ml := ml) (det := p - ds) (mp := mp) (m2 := m2) (op := op) (o1 := o1) (o2 := o2) hm hn (cell A) (row := piv.length) (c := c) (q := q) hqR hfull e C k1 0 (by omega) (by omega) (by omega)
          have g0 := tab_congr (r := rs.length) (c := C) (f := fun a b => if b < 0 then sw (cell A) piv.length q a b else cell A a b) (g := cell A) (fun a b ha hb => by rw [if_neg (Nat.not_lt_zero _)])
          rw [g0, tab_congr (g := cell (swapRows A piv.length q)) (fun a b _ _ => hsw a b)] at g2
          have gz : ((0 : Nat) : Int) = 0 := rfl
          rw [gz] at g2
          rw [g2]
          obtain ⟨k2, b1, b2⟩ := step5 (p := p) (R := rs.length) (C := C) (piv := piv) (ml := ml) (det := p - ds) (mp := mp) (m2 := m2) (op := op) (o1 := o1) (o2 := o2) hp hm hn (cell (swapRows A piv.length q)) (rangeC h2.1 hokW) (row := piv.length) (c := c) hfull hcn (by omega) (by omega) (by omega) (k := k3) (by omega)
          rw [b2, ← tab_congr (fun i j hi hj => cell_pivot h2.1 hokW (top := piv.length) (c := c) (by omega) hcn (by omega) hj)]
          have := ih2 k2 ((p - ds) * cell (swapRows A piv.length q) piv.length c % p) (by omega) (Int.emod_nonneg _ (by omega)) (Int.emod_lt_of_pos _ (by omega)) (fun h => by
            rw [hds (by simp at h; omega)]
            rw [Int.mul_emod, ← Int.emod_emod_of_dvd (p - det) (Int.dvd_refl p), show (p - det) % p = -det % p by rw [show p - det = -det + p by omega, Int.add_emod_right], ← Int.mul_emod])
          simpa using this
    · have hA : (elimTo p rs c).1.length = (elimTo p rs c).2.1.length := by omega
      obtain ⟨s1, s2⟩ := elimTo_stop hA (C - c)
      rw [show c + (C - c) = C by omega] at s1 s2
      refine ⟨ds, d0, d1, fun h => ?_, ?_⟩
      · exfalso
        have : (elimTo p rs C).2.1.length = C := h
        rw [s2] at this
        omega
      · simp only [spec_l03Reduced.l0, spec_l03Reduced.j1]
        rw [if_pos (lt_nat hcn), if_neg (by simpa using hfull)]
        unfold elim
        rw [s1, s2]
theorem pow_emod (a : Int) (n : Nat) (p : Int) : (a % p) ^ n % p = a ^ n % p := by
  induction n with
  | zero => rw [Int.pow_zero, Int.pow_zero]
  | succ n ih => rw [Int.pow_succ, Int.pow_succ, Int.mul_emod, ih, Int.emod_emod_of_dvd a (Int.dvd_refl p), ← Int.mul_emod]
theorem small_mul {p x y : Int} (hp : 2 ≤ p) (hp' : p ≤ 251) (hx : 0 ≤ x) (hx' : x < p) (hy : 0 ≤ y) (hy' : y < p) : 0 ≤ x * y ∧ x * y ≤ 63001 := by
  have h1 := Int.mul_nonneg hx hy
  have h2 : x * y ≤ 251 * 251 := Int.mul_le_mul (by omega) (by omega) hy (by omega)
  omega
theorem tmod_small {p x y : Int} (hp : 2 ≤ p) (hp' : p ≤ 251) (hx : 0 ≤ x) (hx' : x < p) (hy : 0 ≤ y) (hy' : y < p) : Int.tmod (wrap64 (x * y)) p = x * y % p := by
  have h := small_mul hp hp' hx hx' hy hy'
  rw [w64_id (x := x * y) (by omega) (by omega), Int.tmod_eq_emod_of_nonneg h.1]
theorem half_wrap {n : Nat} (h : n ≤ 9223372036854775807) : Int.tmod (n : Int) 2 = ((n % 2 : Nat) : Int) ∧ wrap64 (Int.tdiv (n : Int) 2) = ((n / 2 : Nat) : Int) := by
  rw [Int.tmod_eq_emod_of_nonneg (Int.natCast_nonneg n), Int.tdiv_eq_ediv_of_nonneg (Int.natCast_nonneg n)]
  refine ⟨by omega, ?_⟩
  rw [w64_id (x := (n : Int) / 2) (by omega) (by omega)]; omega
theorem emod_range {p : Int} (hp : 2 ≤ p) (x : Int) : 0 ≤ x % p ∧ x % p < p := ⟨Int.emod_nonneg _ (by omega), Int.emod_lt_of_pos _ (by omega)⟩
theorem pow_loop {p : Int} (hp : 2 ≤ p) (hp' : p ≤ 251) (j : Nat) : ∀ (k : Nat) (x acc : Int) (n : Nat), j < k → n < 2 ^ j → n ≤ 9223372036854775807 → 0 ≤ x → x < p → 0 ≤ acc → acc < p →
    impl_powerOf.l0 k x n p acc = some (acc * x ^ n % p) := by
  induction j with
  | zero =>
    intro k x acc n hk hn _ _ _ h0 h1
    obtain ⟨k, rfl⟩ : ∃ m, k = m + 1 := ⟨k - 1, by omega⟩
    obtain rfl : n = 0 := by simpa using hn
    simp only [impl_powerOf.l0]
    rw [if_neg (by simp)]
    rw [Int.pow_zero, Int.mul_one, Int.emod_eq_of_lt h0 h1]
  | succ j ih =>
    intro k x acc n hk hn hn2 hx hx' h0 h1
    obtain ⟨k, rfl⟩ : ∃ m, k = m + 1 := ⟨k - 1, by omega⟩
    simp only [impl_powerOf.l0]
    by_cases hz : n = 0
    · subst hz
      rw [if_neg (by simp), Int.pow_zero, Int.mul_one, Int.emod_eq_of_lt h0 h1]
    · have hh : n / 2 < 2 ^ j := Nat.div_lt_of_lt_mul (by rw [Nat.pow_succ, Nat.mul_comm] at hn; exact hn)
      clear hn
      have e0 : (n : Int) > 0 := by omega
      obtain ⟨e1, e2⟩ := half_wrap hn2
      have e3 := tmod_small hp hp' hx hx' hx hx'
      have e4 := tmod_small hp hp' h0 h1 hx hx'
      have ep : ¬ p = 0 := by omega
      simp only [e0, if_true, e1, e2, e3, e4, ep, if_false]
      obtain ⟨m1, m2⟩ := emod_range hp (x * x)
      obtain ⟨m3, m4⟩ := emod_range hp (acc * x)
      have hn3 : n / 2 ≤ 9223372036854775807 := Nat.le_trans (Nat.div_le_self _ _) hn2
      have hk' : j < k := by omega
      have key : (x * x % p) ^ (n / 2) % p = x ^ (2 * (n / 2)) % p := by
        rw [pow_emod, Int.pow_mul, Int.pow_succ, Int.pow_succ, Int.pow_zero, Int.one_mul]
      by_cases ho : n % 2 = 1
      · rw [if_pos (by rw [ho]; rfl), ih k (x * x % p) (acc * x % p) (n / 2) hk' hh hn3 m1 m2 m3 m4]
        congr 1
        rw [Int.mul_emod, key, Int.emod_emod_of_dvd _ (Int.dvd_refl p), ← Int.mul_emod, Int.mul_assoc]
        congr 2
        rw [Int.mul_comm, ← Int.pow_succ]
        congr 1; omega
      · rw [if_neg (fun e => ho (by have := Int.ofNat_inj.mp e; exact this)), ih k (x * x % p) acc (n / 2) hk' hh hn3 m1 m2 h0 h1]
        congr 1
        rw [Int.mul_emod, key, ← Int.mul_emod]
        congr 3; omega
theorem pow_tells {p a : Int} {n : Nat} (hp : 2 ≤ p) (hp' : p ≤ 251) (h0 : 0 ≤ a) (h1 : a < p) (hn : n ≤ 9223372036854775807) {k : Nat} (hk : 64 ≤ k) : impl_powerOf.f k a n p = some (a ^ n % p) := by
  unfold impl_powerOf.f
  rw [pow_loop hp hp' 63 k a 1 n (by omega) (by omega) hn h0 h1 (by omega) (by omega), Int.one_mul]
theorem inverse_tells {p a : Int} (hp : isP p = true) (h0 : 0 ≤ a) (h1 : a < p) {k : Nat} (hk : 64 ≤ k) : impl_inverseOf.f k a p = some (pinv p a) := by
  have h := isP_ge hp
  unfold impl_inverseOf.f
  rw [w64_id (x := p - 2) (by omega) (by omega), show p - 2 = (((p - 2).toNat : Nat) : Int) by omega, pow_tells h.1 h.2 h0 h1 (by omega) hk]
  rfl
end Go.Proofs.Ytmbbjmkcbpefhaa.F
end
