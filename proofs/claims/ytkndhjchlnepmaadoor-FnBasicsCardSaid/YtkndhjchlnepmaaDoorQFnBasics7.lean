-- Texts of this claim, merged by pack.py (a program of this session's).
import Derived.Test.YtkndhjchlnepmaaDoorQFnBasics0
import Derived.KernelRfl
import Derived.Test.YtkndhjchlnepmaaDoorQFnBasics2
import Derived.Test.YtkndhjchlnepmaaDoorQFnBasics3
import Derived.Lib.Split
import Derived.Lib.IndexBytes
import Derived.Lib.Join
import Derived.WideShapes

section
set_option linter.unusedVariables false
set_option linter.unusedSimpArgs false
set_option linter.unusedSectionVars false
namespace Go.Proofs.YtkndhjchlnepmaaDoor.Lin

/-- The nearest quotient of numbers that are not negative. -/
def nearP (a b : Int) : Int := (2 * a + b) / (2 * b)
/-- The nearest quotient. -/
def near (a b : Int) : Int :=
  if b < 0 then (if 0 < a then -(nearP a (-b)) else nearP (-a) (-b)) else (if a < 0 then -(nearP (-a) b) else nearP a b)
/-- The value at x of the line through two points. -/
def line (x0 y0 x1 y1 x : Int) : Int := if x ≤ x0 ∨ x1 ≤ x0 then y0 else if x ≥ x1 then y1 else y0 + near ((y1 - y0) * (x - x0)) (x1 - x0)
theorem nearP_mid {a b : Int} (hb : 0 < b) : -b ≤ 2 * (a - nearP a b * b) ∧ 2 * (a - nearP a b * b) ≤ b := by
  unfold nearP
  have h1 : 2 * b * ((2 * a + b) / (2 * b)) + (2 * a + b) % (2 * b) = 2 * a + b := Int.mul_ediv_add_emod _ _
  have h2 := Int.emod_nonneg (2 * a + b) (show 2 * b ≠ 0 by omega)
  have h3 := Int.emod_lt_of_pos (2 * a + b) (show 0 < 2 * b by omega)
  generalize (2 * a + b) / (2 * b) = q at *
  have e : 2 * b * q = 2 * (q * b) := by rw [Int.mul_assoc, Int.mul_comm b q]
  rw [e] at h1
  omega
theorem nearP_zero {b : Int} (hb : 0 < b) : nearP 0 b = 0 := by unfold nearP; exact Int.ediv_eq_zero_of_lt (by omega) (by omega)
/-- The nearest quotient is near. -/
theorem near_mid {a b : Int} (hb : 0 < b) : -b ≤ 2 * (a - near a b * b) ∧ 2 * (a - near a b * b) ≤ b := by
  unfold near
  rw [if_neg (by omega)]
  by_cases h : a < 0
  · rw [if_pos h]
    have := nearP_mid (a := -a) hb
    rw [Int.neg_mul]; omega
  · rw [if_neg h]; exact nearP_mid hb
theorem near_pos {a b : Int} (hb : 0 < b) : near a b = if a < 0 then -(nearP (-a) b) else nearP a b := by
  unfold near; rw [if_neg (show ¬ b < 0 by omega)]
theorem near_neg {a b : Int} (hb : 0 < b) : near (-a) b = - near a b := by
  rw [near_pos hb, near_pos hb]
  rcases Int.lt_trichotomy a 0 with h | h | h
  · rw [if_neg (show ¬ -a < 0 by omega), if_pos h, Int.neg_neg]
  · subst h; simp [nearP_zero hb]
  · rw [if_pos (show -a < 0 by omega), if_neg (show ¬ a < 0 by omega), Int.neg_neg]
theorem nearP_le_of {a b t : Int} (hb : 0 < b) (h0 : 0 ≤ a) (h : a ≤ t * b) : 0 ≤ nearP a b ∧ nearP a b ≤ t := by
  unfold nearP
  refine ⟨Int.ediv_nonneg (by omega) (by omega), ?_⟩
  have : (2 * a + b) / (2 * b) < t + 1 := by
    rw [Int.ediv_lt_iff_lt_mul (by omega)]
    have e : (t + 1) * (2 * b) = 2 * (t * b) + 2 * b := by rw [Int.add_mul, Int.one_mul, ← Int.mul_assoc, Int.mul_comm t 2, Int.mul_assoc]
    rw [e]; omega
  omega
/-- A line's value lies between its ends. -/
theorem line_between {y z x : Int} (h0 : 0 ≤ x) (h1 : x ≤ 1000) : min y z ≤ line 0 y 1000 z x ∧ line 0 y 1000 z x ≤ max y z := by
  unfold line
  by_cases c : x ≤ 0 ∨ (1000 : Int) ≤ 0
  · rw [if_pos c]; omega
  · rw [if_neg c]
    by_cases c2 : x ≥ 1000
    · rw [if_pos c2]; omega
    · rw [if_neg c2, Int.sub_zero, Int.sub_zero]
      unfold near
      rw [if_neg (by omega)]
      by_cases ht : z - y < 0
      · have hm : (z - y) * x < 0 := Int.mul_neg_of_neg_of_pos ht (by omega)
        have hle : -((z - y) * x) ≤ (y - z) * 1000 := by
          have : (y - z) * x ≤ (y - z) * 1000 := Int.mul_le_mul_of_nonneg_left (by omega) (by omega)
          have e : (y - z) * x = -((z - y) * x) := by rw [← Int.neg_mul]; congr 1; omega
          omega
        rw [if_pos hm]
        have := nearP_le_of (b := 1000) (t := y - z) (by omega) (show 0 ≤ -((z - y) * x) by omega) hle
        omega
      · have hm : 0 ≤ (z - y) * x := Int.mul_nonneg (by omega) h0
        have hle : (z - y) * x ≤ (z - y) * 1000 := Int.mul_le_mul_of_nonneg_left (by omega) (by omega)
        rw [if_neg (by omega)]
        have := nearP_le_of (b := 1000) (t := z - y) (by omega) hm hle
        omega
theorem line_start (y z : Int) : line 0 y 1000 z 0 = y := by unfold line; rw [if_pos (by omega)]
theorem line_end (y z : Int) : line 0 y 1000 z 1000 = z := by unfold line; rw [if_neg (by omega), if_pos (by omega)]
/-- A root that is rounded down is small where the number is. -/
theorem root_small {a r : Int} (h0 : 0 ≤ r) (h1 : r * r ≤ a) (h2 : a ≤ 9000000000000000000) : r ≤ 3000000000 := by
  rcases Int.lt_or_le 3000000000 r with h | h
  · have : 3000000001 * 3000000001 ≤ r * r := Int.mul_le_mul (by omega) (by omega) (by omega) (by omega)
    omega
  · exact h

def primes251 : List Nat := [2,3,5,7,11,13,17,19,23,29,31,37,41,43,47,53,59,61,67,71,73,79,83,89,97,101,103,107,109,113,127,131,137,139,149,151,157,163,167,173,179,181,191,193,197,199,211,223,227,229,233,239,241,251]
/-- A prime up to 251. -/
def isP (p : Int) : Bool := decide (2 ≤ p) && decide (p ≤ 251) && decide (p.toNat ∈ primes251)
theorem isP_ge {p : Int} (h : isP p = true) : 2 ≤ p ∧ p ≤ 251 := by unfold isP at h; simp at h; omega
/-- One row gets a multiple of another one. -/
def addRow (p : Int) (a b : List Int) (c : Int) : List Int := List.zipWith (fun x y => (x + c * y) % p) a b
theorem getD_set {α : Type} (l : List α) (k : Nat) (v d : α) (hk : k < l.length) (i : Nat) : (l.set k v).getD i d = if i = k then v else l.getD i d := by
  simp only [List.getD_eq_getElem?_getD, List.getElem?_set]
  by_cases h : k = i
  · subst h; simp [hk]
  · simp [h, Ne.symm h]
theorem addRow_getD {p : Int} {a b : List Int} {c : Int} {j : Nat} (ha : j < a.length) (hb : j < b.length) : (addRow p a b c).getD j 0 = (a.getD j 0 + c * b.getD j 0) % p := by
  unfold addRow
  simp [List.getD_eq_getElem?_getD, List.getElem?_zipWith, List.getElem?_eq_getElem ha, List.getElem?_eq_getElem hb]
end Go.Proofs.YtkndhjchlnepmaaDoor.Lin
end

section
set_option linter.unusedVariables false
set_option linter.unusedSimpArgs false
set_option linter.unusedSectionVars false
namespace Go.Proofs.YtkndhjchlnepmaaDoor.F
open Go.RowKit Go.Proofs.YtkndhjchlnepmaaDoorW.PrintWords Go.Proofs.YtkndhjchlnepmaaDoorW.PrintLast Go.Proofs.YtkndhjchlnepmaaDoor.Lin

theorem w64_idV {x : Int} (h0 : -9223372036854775808 ≤ x) (h1 : x ≤ 9223372036854775807) : wrap64 x = x := by unfold wrap64; omega
theorem w64_succ {i n : Nat} (h : i < n) (hn : n ≤ 35184372088832) : wrap64 ((i : Int) + 1) = ((i + 1 : Nat) : Int) := by
  rw [w64_idV (x := (i : Int) + 1) (by omega) (by omega)]; omega
theorem rd_nat (l : List Int) (i : Nat) : rd l (i : Int) = l.getD i 0 := by unfold rd; rw [Int.toNat_natCast]
theorem getD_at {α : Type} {l : List α} {i : Nat} {d : α} (h : i < l.length) : l.getD i d = l[i] := by simp [List.getD_eq_getElem?_getD, h]
theorem ext_getD {l m : List Int} (hl : l.length = m.length) (h : ∀ j, j < l.length → l.getD j 0 = m.getD j 0) : l = m := by
  refine List.ext_getElem hl (fun j h1 h2 => ?_)
  have := h j h1
  rwa [getD_at h1, getD_at h2] at this

theorem nearP_eq {a b : Int} (ha : 0 ≤ a) (hb : 0 < b) : nearP a b = if a % b ≥ b - a % b then a / b + 1 else a / b := by
  have h1 : b * (a / b) + a % b = a := Int.mul_ediv_add_emod a b
  have h2 := Int.emod_nonneg a (by omega : b ≠ 0)
  have h3 := Int.emod_lt_of_pos a hb
  unfold nearP
  generalize a % b = r at *
  generalize a / b = q at *
  have e : 2 * a + b = (2 * r + b) + 2 * b * q := by rw [← h1, Int.mul_add, ← Int.mul_assoc]; omega
  rw [e, Int.add_mul_ediv_left _ _ (by omega)]
  by_cases hc : r ≥ b - r
  · rw [if_pos hc]
    have : (2 * r + b) / (2 * b) = 1 := by
      have h4 : (2 * r + b) = (2 * r - b) + 2 * b * 1 := by omega
      rw [h4, Int.add_mul_ediv_left _ _ (by omega), Int.ediv_eq_zero_of_lt (by omega) (by omega)]; rfl
    omega
  · rw [if_neg hc]
    have : (2 * r + b) / (2 * b) = 0 := Int.ediv_eq_zero_of_lt (by omega) (by omega)
    omega
theorem nearP_le {a b : Int} (ha : 0 ≤ a) (hb : 0 < b) : 0 ≤ nearP a b ∧ nearP a b ≤ a + 1 := by
  rw [nearP_eq ha hb]
  have h1 : 0 ≤ a / b := Int.ediv_nonneg ha (by omega)
  have h2 : a / b ≤ a := Int.ediv_le_self _ ha
  split <;> omega
/-- q: the quotient's size, r: the remainder's; s: is the quotient's sign minus -/
theorem impl_near_core (A B : Int) (hA : 0 ≤ A) (hA' : A ≤ 10000000000000) (hB : 0 < B) (hB' : B ≤ 10000000000000) (r q b : Int) (s t : Bool)
    (hr : r = A % B ∨ r = -(A % B)) (hb : b = B ∨ b = -B) (hq : q = if (s != t) = true then -(A / B) else A / B) :
    ((impl_abs.f r).bind fun t105 => ((impl_abs.f b).bind fun t106 => (if t105 ≥ (wrap64 (t106 - t105)) then (if (s != t) = true then (some (wrap64 ((wrap64 q) - 1))) else (some (wrap64 ((wrap64 q) + 1)))) else (some (wrap64 q))))) = some (if (s != t) = true then -(nearP A B) else nearP A B) := by
  have h2 := Int.emod_nonneg A (by omega : B ≠ 0)
  have h3 := Int.emod_lt_of_pos A hB
  have h4 : 0 ≤ A / B := Int.ediv_nonneg hA (by omega)
  have h5 : A / B ≤ A := Int.ediv_le_self _ hA
  have er : impl_abs.f r = some (A % B) := by
    unfold impl_abs.f
    split
    · rw [w64_idV (by omega) (by omega)]; congr 1; omega
    · congr 1; omega
  have eb : impl_abs.f b = some B := by
    unfold impl_abs.f
    split
    · rw [w64_idV (by omega) (by omega)]; congr 1; omega
    · congr 1; omega
  rw [er, eb, nearP_eq hA hB]
  simp only [Option.bind_some]
  rw [w64_idV (x := B - A % B) (by omega) (by omega)]
  generalize A % B = m at *
  generalize A / B = d at *
  by_cases hst : (s != t) = true
  · rw [if_pos hst] at hq
    rw [if_pos hst, if_pos hst, hq, w64_idV (x := -d) (by omega) (by omega)]
    by_cases hc : m ≥ B - m
    · rw [if_pos hc, if_pos hc, w64_idV (by omega) (by omega)]; congr 1; omega
    · rw [if_neg hc, if_neg hc]
  · rw [if_neg hst] at hq
    rw [if_neg hst, if_neg hst, hq, w64_idV (x := d) (by omega) (by omega)]
    by_cases hc : m ≥ B - m
    · rw [if_pos hc, if_pos hc, w64_idV (by omega) (by omega)]
    · rw [if_neg hc, if_neg hc]
theorem impl_nearest_tells {a b : Int} (ha : -10000000000000 ≤ a) (ha' : a ≤ 10000000000000) (hb : -10000000000000 ≤ b) (hb' : b ≤ 10000000000000) (h0 : b ≠ 0) : impl_nearest.f a b = some (near a b) := by
  unfold impl_nearest.f near
  rw [if_neg h0]
  by_cases h1 : a < 0 <;> by_cases h2 : b < 0
  · have e1 : Int.tmod a b = -((-a) % (-b)) := by
      rw [show Int.tmod a b = Int.tmod (-(-a)) (-(-b)) by simp, Int.neg_tmod, Int.tmod_neg, Int.tmod_eq_emod_of_nonneg (by omega)]
    have e2 : Int.tdiv a b = (-a) / (-b) := by
      rw [show Int.tdiv a b = Int.tdiv (-(-a)) (-(-b)) by simp, Int.neg_tdiv, Int.tdiv_neg, Int.neg_neg, Int.tdiv_eq_ediv_of_nonneg (by omega)]
    rw [impl_near_core (-a) (-b) (by omega) (by omega) (by omega) (by omega) _ _ _ _ _ (.inr e1) (.inr (by omega)) (by simp [h1, h2, e2])]
    simp [h1, h2]; intro h; omega
  · have e1 : Int.tmod a b = -((-a) % b) := by
      rw [show Int.tmod a b = Int.tmod (-(-a)) b by simp, Int.neg_tmod, Int.tmod_eq_emod_of_nonneg (by omega)]
    have e2 : Int.tdiv a b = -((-a) / b) := by
      rw [show Int.tdiv a b = Int.tdiv (-(-a)) b by simp, Int.neg_tdiv, Int.tdiv_eq_ediv_of_nonneg (by omega)]
    rw [impl_near_core (-a) b (by omega) (by omega) (by omega) (by omega) _ _ _ _ _ (.inr e1) (.inl rfl) (by simp [h1, h2, e2])]
    simp [h1, h2]
  · have e1 : Int.tmod a b = (a) % (-b) := by
      rw [show Int.tmod a b = Int.tmod a (-(-b)) by simp, Int.tmod_neg, Int.tmod_eq_emod_of_nonneg (by omega)]
    have e2 : Int.tdiv a b = -(a / (-b)) := by
      rw [show Int.tdiv a b = Int.tdiv a (-(-b)) by simp, Int.tdiv_neg, Int.tdiv_eq_ediv_of_nonneg (by omega)]
    rw [impl_near_core a (-b) (by omega) (by omega) (by omega) (by omega) _ _ _ _ _ (.inl e1) (.inr (by omega)) (by simp [h1, h2, e2])]
    simp only [h1, h2, decide_true, decide_false]
    by_cases h3 : 0 < a
    · simp [h3]
    · obtain rfl : a = 0 := by omega
      have : nearP 0 (-b) = 0 := by rw [nearP_eq (by omega) (by omega)]; simp; omega
      simp [this]
  · have e1 : Int.tmod a b = a % b := Int.tmod_eq_emod_of_nonneg (by omega)
    have e2 : Int.tdiv a b = a / b := Int.tdiv_eq_ediv_of_nonneg (by omega)
    rw [impl_near_core a b (by omega) (by omega) (by omega) (by omega) _ _ _ _ _ (.inl e1) (.inl rfl) (by simp [h1, h2, e2])]
    simp [h1, h2]
theorem near_small {a b : Int} (h0 : b ≠ 0) : -(Int.natAbs a + 1) ≤ near a b ∧ near a b ≤ Int.natAbs a + 1 := by
  unfold near
  split
  · split
    · have := nearP_le (a := a) (b := -b) (by omega) (by omega); omega
    · have := nearP_le (a := -a) (b := -b) (by omega) (by omega); omega
  · split
    · have := nearP_le (a := -a) (b := b) (by omega) (by omega); omega
    · have := nearP_le (a := a) (b := b) (by omega) (by omega); omega
theorem withinB_tells (n lo hi : Int) : impl_within.f n lo hi = some (decide (lo ≤ n ∧ n ≤ hi)) := by
  unfold impl_within.f
  by_cases h : n ≥ lo
  · have : lo ≤ n := h
    simp [this]
  · have : ¬ lo ≤ n := h
    simp [this]
def inR (n : Int) : Prop := -1000000 ≤ n ∧ n ≤ 1000000
theorem prod_small {u v : Int} (hu : -2000000 ≤ u) (hu' : u ≤ 2000000) (hv : 0 ≤ v) (hv' : v ≤ 2000000) : -4000000000000 ≤ u * v ∧ u * v ≤ 4000000000000 := by
  have h1 : u * v ≤ 2000000 * v := Int.mul_le_mul_of_nonneg_right hu' hv
  have h2 : -2000000 * v ≤ u * v := Int.mul_le_mul_of_nonneg_right hu hv
  omega
theorem impl_line_tells {x0 y0 x1 y1 x : Int} (h0 : inR x0) (h1 : inR y0) (h2 : inR x1) (h3 : inR y1) (k : Nat) : impl_blend.f (k + 1) x0 y0 x1 y1 x = some (line x0 y0 x1 y1 x) := by
  unfold inR at *
  unfold impl_blend.f line
  by_cases c1 : x ≤ x0
  · simp [c1, impl_blend.j0]
  · by_cases c2 : x1 ≤ x0
    · simp [c1, c2, impl_blend.j0]
    · by_cases c3 : x ≥ x1
      · simp [c1, c2, c3, impl_blend.j0]
      · have hp := prod_small (u := y1 - y0) (v := x - x0) (by omega) (by omega) (by omega) (by omega)
        have hn := near_small (a := (y1 - y0) * (x - x0)) (b := x1 - x0) (by omega)
        rw [if_neg c1, if_neg (by omega), if_neg c3]
        simp only [impl_blend.j0]
        rw [if_neg (by simp [c2]), if_neg c3, w64_idV (x := y1 - y0) (by omega) (by omega), w64_idV (x := x - x0) (by omega) (by omega), w64_idV (x := (y1 - y0) * (x - x0)) (by omega) (by omega), w64_idV (x := x1 - x0) (by omega) (by omega), impl_nearest_tells (by omega) (by omega) (by omega) (by omega) (by omega)]
        simp only [Option.bind_some]
        rw [w64_idV (by omega) (by omega)]
theorem w1 : wrap64 (0 + 1) = 1 := by unfold wrap64; omega
theorem w2 : wrap64 (1 + 1) = 2 := by unfold wrap64; omega
theorem w3 : wrap64 (2 + 1) = 3 := by unfold wrap64; omega
theorem w4 : wrap64 (3 + 1) = 4 := by unfold wrap64; omega
theorem implBlend_tells {x0 y0 x1 y1 x : Int} (h0 : inR x0) (h1 : inR y0) (h2 : inR x1) (h3 : inR y1) (k : Nat) : impl_Blend.f (k + 6) x0 y0 x1 y1 x = some (line x0 y0 x1 y1 x) := by
  have e2 := impl_line_tells (x := x) h0 h1 h2 h3 k
  unfold inR at h0 h1 h2 h3
  unfold impl_Blend.f
  simp only [Option.bind_some, impl_Blend.l0, List.length_cons, List.length_nil, w1, w2, w3, w4, withinB_tells, rd]
  simp [h0, h1, h2, h3, e2]
theorem implDiv_tells {a b : Int} (ha : -1000000000000 ≤ a ∧ a ≤ 1000000000000) (hb : -1000000000000 ≤ b ∧ b ≤ 1000000000000) (h0 : b ≠ 0) : impl_DivRound.f a b = some (near a b) := by
  unfold impl_DivRound.f impl_isValue.f
  have e2 := impl_nearest_tells (a := a) (b := b) (by omega) (by omega) (by omega) (by omega) h0
  rw [if_neg h0, withinB_tells, withinB_tells]
  simp [ha, hb, e2]
theorem sq_le {a b : Int} (h0 : 0 ≤ a) (h : a ≤ b) : a * a ≤ b * b := Int.mul_le_mul h h h0 (by omega)
theorem sq_lt {a b : Int} (h0 : 0 ≤ a) (h : a < b) : a * a < b * b := by
  have h1 : a * a ≤ a * b := Int.mul_le_mul_of_nonneg_left (by omega) h0
  have h2 : a * b < b * b := Int.mul_lt_mul_of_pos_right h (by omega)
  omega
theorem le_div_iff_sq {n m : Int} (hm : 0 < m) (hn : 0 < n) : (m ≤ Int.tdiv n m) ↔ m * m ≤ n := by
  rw [Int.tdiv_eq_ediv_of_nonneg (by omega)]
  exact Int.le_ediv_iff_mul_le hm
theorem impl_root_tells (n : Int) (hn : 0 < n) (hn2 : n ≤ 9223372036854775807) (j : Nat) : ∀ (k : Nat) (root : Int), j ≤ 32 → j < k → 0 ≤ root → root * root ≤ n → root ≤ 4294967296 - 2 ^ j → n < (root + 2 ^ j) * (root + 2 ^ j) →
    ∃ r, impl_RootOf.l0 k n root ((2 ^ j) / 2) = some r ∧ 0 ≤ r ∧ r * r ≤ n ∧ n < (r + 1) * (r + 1) := by
  induction j with
  | zero =>
    intro k root hj hk h0 h1 h2 h3
    obtain ⟨k, rfl⟩ : ∃ m, k = m + 1 := ⟨k - 1, by omega⟩
    exact ⟨root, by simp [impl_RootOf.l0], h0, h1, by simpa using h3⟩
  | succ j ih =>
    intro k root hj hk h0 h1 h2 h3
    obtain ⟨k, rfl⟩ : ∃ m, k = m + 1 := ⟨k - 1, by omega⟩
    have hp : (2 : Int) ^ (j + 1) = 2 * 2 ^ j := by rw [Int.pow_succ]; omega
    have hq : (2 : Int) ^ (j + 1) / 2 = 2 ^ j := by omega
    rw [hq]
    have hpos : (0 : Int) < 2 ^ j := Int.pow_pos (by decide)
    rw [hp] at h2 h3
    generalize hb : (2 : Int) ^ j = b at *
    simp only [impl_RootOf.l0]
    have e1 : wrap64 (root + b) = root + b := w64_idV (by omega) (by omega)
    rw [if_pos hpos, e1, if_neg (by omega)]
    have e0 : 0 ≤ Int.tdiv n (root + b) := Int.tdiv_nonneg (by omega) (by omega)
    have e3 : Int.tdiv n (root + b) ≤ n := by rw [Int.tdiv_eq_ediv_of_nonneg (by omega)]; exact Int.ediv_le_self _ (by omega)
    rw [w64_idV (x := Int.tdiv n (root + b)) (by omega) (by omega)]
    by_cases hc : root + b ≤ Int.tdiv n (root + b)
    · rw [if_pos hc]
      have hs := (le_div_iff_sq (m := root + b) (by omega) hn).mp hc
      exact ih k (root + b) (by omega) (by omega) (by omega) hs (by omega) (by rw [show root + b + b = root + 2 * b by omega]; exact h3)
    · rw [if_neg hc]
      have hs : ¬ (root + b) * (root + b) ≤ n := fun h => hc ((le_div_iff_sq (by omega) hn).mpr h)
      exact ih k root (by omega) (by omega) h0 h1 (by omega) (by omega)
theorem implRoot_tells (n : Int) (hn2 : n ≤ 9000000000000000000) {k : Nat} (hk : 40 ≤ k) : ∃ r, impl_RootOf.f k n = some r ∧ (n < 0 → r = 0) ∧ (0 ≤ n → 0 ≤ r ∧ r ≤ 3000000000 ∧ r * r ≤ n ∧ n < (r + 1) * (r + 1)) := by
  by_cases hp : n ≤ 0
  · refine ⟨0, by unfold impl_RootOf.f; rw [if_pos hp], fun _ => rfl, fun h => ⟨by omega, by omega, by omega, by omega⟩⟩
  · obtain ⟨q, hq, q0, q1, q2⟩ := impl_root_tells n (by omega) (by omega) 32 k 0 (by omega) (by omega) (by omega) (by omega) (by omega) (by omega)
    have hq' : impl_RootOf.l0 k n 0 2147483648 = some q := hq
    exact ⟨q, by unfold impl_RootOf.f; rw [if_neg hp]; exact hq', fun h => by omega, fun _ => ⟨q0, root_small q0 q1 hn2, q1, q2⟩⟩
end Go.Proofs.YtkndhjchlnepmaaDoor.F
end

section
set_option linter.unusedVariables false
set_option linter.unusedSimpArgs false
set_option linter.unusedSectionVars false
namespace Go.Proofs.YtkndhjchlnepmaaDoor.Lin

open Go.Lib
/-- The parts of a text between single bytes. -/
def splitL (c : UInt8) : List UInt8 → List (List UInt8)
  | [] => [[]]
  | b :: r => if b = c then [] :: splitL c r else match splitL c r with
    | [] => [[b]]
    | x :: xs => (b :: x) :: xs
theorem splitL_ne (c : UInt8) (l : List UInt8) : splitL c l ≠ [] := by
  cases l with
  | nil => simp [splitL]
  | cons b r =>
    unfold splitL
    split
    · simp
    · split <;> simp
theorem splitL_none {c : UInt8} : ∀ {l : List UInt8}, c ∉ l → splitL c l = [l]
  | [], _ => rfl
  | b :: r, h => by
    unfold splitL
    rw [if_neg (fun e => h (by rw [e]; exact List.mem_cons_self)), splitL_none (fun hr => h (List.mem_cons_of_mem _ hr))]
theorem splitL_cut {c : UInt8} : ∀ {a : List UInt8} (b : List UInt8), c ∉ a → splitL c (a ++ c :: b) = a :: splitL c b
  | [], b, _ => by
    show splitL c (c :: b) = _
    unfold splitL
    rw [if_pos rfl]
    cases b <;> rfl
  | x :: a, b, h => by
    show splitL c (x :: (a ++ c :: b)) = _
    rw [splitL, if_neg (fun e => h (by rw [e]; exact List.mem_cons_self)), splitL_cut b (fun hr => h (List.mem_cons_of_mem _ hr))]
theorem splitL_free (c : UInt8) : ∀ (l : List UInt8), ∀ x ∈ splitL c l, c ∉ x
  | [], x, hx => by simp [splitL] at hx; subst hx; simp
  | b :: r, x, hx => by
    unfold splitL at hx
    split at hx
    · rcases List.mem_cons.mp hx with rfl | hx
      · simp
      · exact splitL_free c r x hx
    · rename_i hb
      have ih := splitL_free c r
      cases hq : splitL c r with
      | nil => exact absurd hq (splitL_ne c r)
      | cons y ys =>
        rw [hq] at hx ih
        rcases List.mem_cons.mp hx with rfl | hx
        · intro hc
          rcases List.mem_cons.mp hc with e | hc
          · exact hb e.symm
          · exact ih y List.mem_cons_self hc
        · exact ih x (List.mem_cons_of_mem _ hx)
theorem byte_miss {c : UInt8} : ∀ {l : List UInt8}, indexByte l c = -1 → c ∉ l
  | [], _ => by simp
  | b :: r, h => by
    unfold indexByte at h
    split at h
    · cases h
    · rename_i hb
      split at h
      · rename_i hr
        intro hc
        rcases List.mem_cons.mp hc with e | hc
        · exact hb (by rw [e]; exact beq_self_eq_true b)
        · exact byte_miss (beq_iff_eq.mp hr) hc
      · have := indexByte_ge r c
        omega
theorem byte_hit {c : UInt8} : ∀ {l : List UInt8} {i : Nat}, indexByte l c = i → ∃ a b, l = a ++ c :: b ∧ a.length = i ∧ c ∉ a
  | [], i, h => by unfold indexByte at h; omega
  | x :: r, i, h => by
    unfold indexByte at h
    split at h
    · rename_i hb
      have e : x = c := beq_iff_eq.mp hb
      subst e
      exact ⟨[], r, rfl, by simp; omega, by simp⟩
    · rename_i hb
      split at h
      · omega
      · have hge := indexByte_ge r c
        rename_i hr
        have hne : indexByte r c ≠ -1 := fun e => hr (by rw [e]; rfl)
        obtain ⟨j, hj⟩ := Int.eq_ofNat_of_zero_le (show 0 ≤ indexByte r c by omega)
        obtain ⟨a, b, e, hl, hc⟩ := byte_hit hj
        refine ⟨x :: a, b, by rw [e]; rfl, by simp; omega, fun hx => ?_⟩
        rcases List.mem_cons.mp hx with e2 | hx
        · exact hb (by rw [e2]; exact beq_self_eq_true x)
        · exact hc hx
theorem splitK_eq (c : UInt8) : ∀ (n : Nat) (l : List UInt8), l.length = n → splitK [c] 0 (count l [c]) l = splitL c l := by
  intro n
  induction n using Nat.strongRecOn with
  | _ n ih =>
    intro l hl
    have ho := index_one l c
    by_cases hm : indexByte l c = -1
    · rw [hm] at ho
      rw [count_miss ho, splitL_none (byte_miss hm)]
      rfl
    · have hge := indexByte_ge l c
      obtain ⟨i, hi⟩ := Int.eq_ofNat_of_zero_le (show 0 ≤ indexByte l c by omega)
      obtain ⟨a, b, e, hla, hca⟩ := byte_hit hi
      rw [hi] at ho
      have hcnt := count_hit (s := l) (sub := [c]) (i := i) (by simp) ho
      have hdrop : l.drop (i + 1) = b := by rw [e, ← hla, show a ++ c :: b = (a ++ [c]) ++ b by simp, show a.length + 1 = (a ++ [c]).length by simp, List.drop_left]
      have htake : l.take i = a := by rw [e, ← hla, List.take_left]
      have hcnt2 : count l [c] = count b [c] + 1 := by rw [hcnt, show ([c] : List UInt8).length = 1 from rfl, hdrop]; omega
      rw [hcnt2]
      unfold splitK
      rw [if_neg (by rw [ho]; simp), ho, Int.toNat_natCast, Nat.add_zero, htake, show ([c] : List UInt8).length = 1 from rfl, hdrop, ih b.length (by rw [← hl, e]; simp; omega) b rfl, e, splitL_cut b hca]
theorem join_snoc {xs : List (List UInt8)} (h : xs ≠ []) (y sep : List UInt8) : join (xs ++ [y]) sep = join xs sep ++ sep ++ y := by
  cases xs with
  | nil => exact absurd rfl h
  | cons x r =>
    rw [List.cons_append, join_cons, join_cons]
    unfold joinTail
    simp [List.append_assoc]
theorem join_cons2 (x y : List UInt8) (r : List (List UInt8)) (sep : List UInt8) : join (x :: y :: r) sep = x ++ sep ++ join (y :: r) sep := by
  rw [join_cons, join_cons]
  unfold joinTail
  simp [List.append_assoc]
/-- What has been joined is parted again. -/
theorem split_join {c : UInt8} : ∀ {xs : List (List UInt8)}, xs ≠ [] → (∀ x ∈ xs, c ∉ x) → splitL c (join xs [c]) = xs
  | [], h, _ => absurd rfl h
  | [x], _, hf => by rw [join_one]; exact splitL_none (hf x (by simp))
  | x :: y :: r, _, hf => by
    rw [join_cons2, show x ++ [c] ++ join (y :: r) [c] = x ++ c :: join (y :: r) [c] by simp, splitL_cut _ (hf x (by simp)), split_join (by simp) (fun z hz => hf z (List.mem_cons_of_mem _ hz))]
/-- The parts, joined. -/
theorem join_split (c : UInt8) : ∀ (l : List UInt8), join (splitL c l) [c] = l
  | [] => rfl
  | b :: r => by
    have ih := join_split c r
    unfold splitL
    cases hq : splitL c r with
    | nil => exact absurd hq (splitL_ne c r)
    | cons x xs =>
      rw [hq] at ih
      by_cases hb : b = c
      · rw [if_pos hb, join_cons2, ih, hb]; simp
      · rw [if_neg hb]
        show join ((b :: x) :: xs) [c] = b :: r
        rw [join_cons] at ih ⊢
        rw [← ih]; rfl
theorem splitL_length (c : UInt8) : ∀ (l : List UInt8), (splitL c l).length ≤ l.length + 1
  | [] => by simp [splitL]
  | b :: r => by
    have ih := splitL_length c r
    unfold splitL
    split
    · simp; omega
    · cases hq : splitL c r with
      | nil => simp
      | cons x xs => rw [hq] at ih; simp at ih ⊢; omega
theorem splitL_short (c : UInt8) : ∀ (l : List UInt8), ∀ x ∈ splitL c l, x.length ≤ l.length
  | [], x, hx => by simp [splitL] at hx; subst hx; simp
  | b :: r, x, hx => by
    have ih := splitL_short c r
    unfold splitL at hx
    split at hx
    · rcases List.mem_cons.mp hx with rfl | hx
      · simp
      · have := ih x hx; simp; omega
    · cases hq : splitL c r with
      | nil => exact absurd hq (splitL_ne c r)
      | cons y ys =>
        rw [hq] at hx ih
        rcases List.mem_cons.mp hx with rfl | hx
        · have := ih y List.mem_cons_self; simp; omega
        · have := ih x (List.mem_cons_of_mem _ hx); simp; omega
/-- A text of bytes. -/
def B (l : List UInt8) : ByteArray := ⟨l.toArray⟩
theorem B_list (l : List UInt8) : (B l).data.toList = l := rfl
theorem B_of (s : ByteArray) : B s.data.toList = s := Go.WideShapes.bytes_inj rfl
theorem B_size (l : List UInt8) : (B l).size = l.length := rfl
theorem B_append (x y : List UInt8) : B x ++ B y = B (x ++ y) := Go.WideShapes.bytes_inj (by simp [B])
theorem B_toList (l : List UInt8) : (B l).toList = l := Go.Lib.toList_data (B l)
theorem size_len (s : ByteArray) : s.size = s.data.toList.length := Array.length_toList.symm
theorem splitB_eq (c : UInt8) (s : ByteArray) : splitB ⟨#[c]⟩ 0 (countB s ⟨#[c]⟩) s = (splitL c s.data.toList).map B := by
  have h := splitB_data (⟨#[c]⟩ : ByteArray) 0 (countB s ⟨#[c]⟩) s
  have e : (⟨#[c]⟩ : ByteArray).data.toList = [c] := rfl
  rw [e] at h
  have h2 : splitK [c] 0 (countB s ⟨#[c]⟩) s.data.toList = splitL c s.data.toList := splitK_eq c _ _ rfl
  rw [h2] at h
  rw [← h, List.map_map]
  conv => lhs; rw [← List.map_id (splitB _ _ _ _)]
  exact List.map_congr_left (fun x _ => (B_of x).symm)
end Go.Proofs.YtkndhjchlnepmaaDoor.Lin
end
