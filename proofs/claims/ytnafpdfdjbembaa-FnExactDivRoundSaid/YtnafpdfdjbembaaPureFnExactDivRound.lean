/- Both functions return the nearest quotient of numbers in the range, halves away from 0, and 0 elsewhere. -/
import Derived.Test.YtnafpdfdjbembaaPFnExactDivRoundx1
import Derived.KernelRfl
set_option linter.unusedVariables false
set_option linter.unusedSimpArgs false
namespace Go.Proofs.Ytnafpdfdjbembaa.Pure
namespace DivRound
open Go.RowKit Go.Proofs.Ytnafpdfdjbembaa.PFnExactDivRound Go.Proofs.YtnafpdfdjbembaaW.PrintWords Go.Proofs.YtnafpdfdjbembaaW.PrintLast

theorem w64_id {x : Int} (h0 : -9223372036854775808 ≤ x) (h1 : x ≤ 9223372036854775807) : wrap64 x = x := by unfold wrap64; omega

/-- The nearest quotient of numbers that are not negative. -/
def nearP (a b : Int) : Int := (2 * a + b) / (2 * b)
theorem nearP_eq {a b : Int} (ha : 0 ≤ a) (hb : 0 < b) : nearP a b = if a % b ≥ b - a % b then a / b + 1 else a / b := by
  have h1 : b * (a / b) + a % b = a := Int.mul_ediv_add_emod a b
  have h2 := Int.emod_nonneg a (by omega : b ≠ 0)
  have h3 := Int.emod_lt_of_pos a hb
  unfold nearP
  generalize a % b = r at *
  generalize a / b = q at *
  have e : 2 * a + b = (2 * r + b) + 2 * b * q := by rw [← h1, Int.mul_add, ← Int.mul_assoc]; omega
  rw [e, Int.add_mul_ediv_left _ _ (by omega)]
  by_cases hc : r ≥ b - r
  · rw [if_pos hc]
    have : (2 * r + b) / (2 * b) = 1 := by
      have h4 : (2 * r + b) = (2 * r - b) + 2 * b * 1 := by omega
      rw [h4, Int.add_mul_ediv_left _ _ (by omega), Int.ediv_eq_zero_of_lt (by omega) (by omega)]; rfl
    omega
  · rw [if_neg hc]
    have : (2 * r + b) / (2 * b) = 0 := Int.ediv_eq_zero_of_lt (by omega) (by omega)
    omega
theorem nearP_le {a b : Int} (ha : 0 ≤ a) (hb : 0 < b) : 0 ≤ nearP a b ∧ nearP a b ≤ a + 1 := by
  rw [nearP_eq ha hb]
  have h1 : 0 ≤ a / b := Int.ediv_nonneg ha (by omega)
  have h2 : a / b ≤ a := Int.ediv_le_self _ ha
  split <;> omega
/-- The nearest quotient. -/
def near (a b : Int) : Int :=
  if b < 0 then (if 0 < a then -(nearP a (-b)) else nearP (-a) (-b)) else (if a < 0 then -(nearP (-a) b) else nearP a b)

theorem spec_div_tells {a b : Int} (ha : -10000000000000 ≤ a) (ha' : a ≤ 10000000000000) (hb : -10000000000000 ≤ b) (hb' : b ≤ 10000000000000) (h0 : b ≠ 0) : spec_l01Div.f a b = some (near a b) := by
  unfold spec_l01Div.f near
  by_cases h : b < 0
  · rw [if_pos h, if_pos h, w64_id (x := -a) (by omega) (by omega), w64_id (x := -b) (by omega) (by omega), w64_id (x := 2 * -b) (by omega) (by omega), w64_id (x := 2 * -a) (by omega) (by omega)]
    by_cases h2 : 0 < a
    · have := nearP_le (a := a) (b := -b) (by omega) (by omega)
      rw [if_pos (by omega), if_neg (by omega), if_pos h2, w64_id (x := -b - 2 * -a) (by omega) (by omega), Int.tdiv_eq_ediv_of_nonneg (by omega)]
      have e : (-b - 2 * -a) / (2 * -b) = nearP a (-b) := by unfold nearP; congr 1; omega
      rw [e, w64_id (x := nearP a (-b)) (by omega) (by omega), w64_id (x := -(nearP a (-b))) (by omega) (by omega)]
    · have := nearP_le (a := -a) (b := -b) (by omega) (by omega)
      rw [if_neg (by omega), if_neg (by omega), if_neg h2, w64_id (x := 2 * -a + -b) (by omega) (by omega), Int.tdiv_eq_ediv_of_nonneg (by omega)]
      have e : (2 * -a + -b) / (2 * -b) = nearP (-a) (-b) := rfl
      rw [e, w64_id (by omega) (by omega)]
  · rw [if_neg h, if_neg h, w64_id (x := 2 * b) (by omega) (by omega), w64_id (x := 2 * a) (by omega) (by omega)]
    by_cases h2 : a < 0
    · have := nearP_le (a := -a) (b := b) (by omega) (by omega)
      rw [if_pos h2, if_neg (by omega), if_pos h2, w64_id (x := b - 2 * a) (by omega) (by omega), Int.tdiv_eq_ediv_of_nonneg (by omega)]
      have e : (b - 2 * a) / (2 * b) = nearP (-a) b := by unfold nearP; congr 1; omega
      rw [e, w64_id (x := nearP (-a) b) (by omega) (by omega), w64_id (x := -(nearP (-a) b)) (by omega) (by omega)]
    · have := nearP_le (a := a) (b := b) (by omega) (by omega)
      rw [if_neg h2, if_neg (by omega), if_neg h2, w64_id (x := 2 * a + b) (by omega) (by omega), Int.tdiv_eq_ediv_of_nonneg (by omega)]
      have e : (2 * a + b) / (2 * b) = nearP a b := rfl
      rw [e, w64_id (by omega) (by omega)]

/-- q: the quotient's size, r: the remainder's; s: is the quotient's sign minus -/
theorem impl_near_core (A B : Int) (hA : 0 ≤ A) (hA' : A ≤ 10000000000000) (hB : 0 < B) (hB' : B ≤ 10000000000000) (r q b : Int) (s t : Bool)
    (hr : r = A % B ∨ r = -(A % B)) (hb : b = B ∨ b = -B) (hq : q = if (s != t) = true then -(A / B) else A / B) :
    ((impl_abs.f r).bind fun t105 => ((impl_abs.f b).bind fun t106 => (if t105 ≥ (wrap64 (t106 - t105)) then (if (s != t) = true then (some (wrap64 ((wrap64 q) - 1))) else (some (wrap64 ((wrap64 q) + 1)))) else (some (wrap64 q))))) = some (if (s != t) = true then -(nearP A B) else nearP A B) := by
  have h2 := Int.emod_nonneg A (by omega : B ≠ 0)
  have h3 := Int.emod_lt_of_pos A hB
  have h4 : 0 ≤ A / B := Int.ediv_nonneg hA (by omega)
  have h5 : A / B ≤ A := Int.ediv_le_self _ hA
  have er : impl_abs.f r = some (A % B) := by
    unfold impl_abs.f
    split
    · rw [w64_id (by omega) (by omega)]; congr 1; omega
    · congr 1; omega
  have eb : impl_abs.f b = some B := by
    unfold impl_abs.f
    split
    · rw [w64_id (by omega) (by omega)]; congr 1; omega
    · congr 1; omega
  rw [er, eb, nearP_eq hA hB]
  simp only [Option.bind_some]
  rw [w64_id (x := B - A % B) (by omega) (by omega)]
  generalize A % B = m at *
  generalize A / B = d at *
  by_cases hst : (s != t) = true
  · rw [if_pos hst] at hq
    rw [if_pos hst, if_pos hst, hq, w64_id (x := -d) (by omega) (by omega)]
    by_cases hc : m ≥ B - m
    · rw [if_pos hc, if_pos hc, w64_id (by omega) (by omega)]; congr 1; omega
    · rw [if_neg hc, if_neg hc]
  · rw [if_neg hst] at hq
    rw [if_neg hst, if_neg hst, hq, w64_id (x := d) (by omega) (by omega)]
    by_cases hc : m ≥ B - m
    · rw [if_pos hc, if_pos hc, w64_id (by omega) (by omega)]
    · rw [if_neg hc, if_neg hc]

theorem impl_nearest_tells {a b : Int} (ha : -10000000000000 ≤ a) (ha' : a ≤ 10000000000000) (hb : -10000000000000 ≤ b) (hb' : b ≤ 10000000000000) (h0 : b ≠ 0) : impl_nearest.f a b = some (near a b) := by
  unfold impl_nearest.f near
  rw [if_neg h0]
  by_cases h1 : a < 0 <;> by_cases h2 : b < 0
  · have e1 : Int.tmod a b = -((-a) % (-b)) := by
      rw [show Int.tmod a b = Int.tmod (-(-a)) (-(-b)) by simp, Int.neg_tmod, Int.tmod_neg, Int.tmod_eq_emod_of_nonneg (by omega)]
    have e2 : Int.tdiv a b = (-a) / (-b) := by
      rw [show Int.tdiv a b = Int.tdiv (-(-a)) (-(-b)) by simp, Int.neg_tdiv, Int.tdiv_neg, Int.neg_neg, Int.tdiv_eq_ediv_of_nonneg (by omega)]
    rw [impl_near_core (-a) (-b) (by omega) (by omega) (by omega) (by omega) _ _ _ _ _ (.inr e1) (.inr (by omega)) (by simp [h1, h2, e2])]
    simp [h1, h2]; intro h; omega
  · have e1 : Int.tmod a b = -((-a) % b) := by
      rw [show Int.tmod a b = Int.tmod (-(-a)) b by simp, Int.neg_tmod, Int.tmod_eq_emod_of_nonneg (by omega)]
    have e2 : Int.tdiv a b = -((-a) / b) := by
      rw [show Int.tdiv a b = Int.tdiv (-(-a)) b by simp, Int.neg_tdiv, Int.tdiv_eq_ediv_of_nonneg (by omega)]
    rw [impl_near_core (-a) b (by omega) (by omega) (by omega) (by omega) _ _ _ _ _ (.inr e1) (.inl rfl) (by simp [h1, h2, e2])]
    simp [h1, h2]
  · have e1 : Int.tmod a b = (a) % (-b) := by
      rw [show Int.tmod a b = Int.tmod a (-(-b)) by simp, Int.tmod_neg, Int.tmod_eq_emod_of_nonneg (by omega)]
    have e2 : Int.tdiv a b = -(a / (-b)) := by
      rw [show Int.tdiv a b = Int.tdiv a (-(-b)) by simp, Int.tdiv_neg, Int.tdiv_eq_ediv_of_nonneg (by omega)]
    rw [impl_near_core a (-b) (by omega) (by omega) (by omega) (by omega) _ _ _ _ _ (.inl e1) (.inr (by omega)) (by simp [h1, h2, e2])]
    simp only [h1, h2, decide_true, decide_false]
    by_cases h3 : 0 < a
    · simp [h3]
    · obtain rfl : a = 0 := by omega
      have : nearP 0 (-b) = 0 := by rw [nearP_eq (by omega) (by omega)]; simp; omega
      simp [this]
  · have e1 : Int.tmod a b = a % b := Int.tmod_eq_emod_of_nonneg (by omega)
    have e2 : Int.tdiv a b = a / b := Int.tdiv_eq_ediv_of_nonneg (by omega)
    rw [impl_near_core a b (by omega) (by omega) (by omega) (by omega) _ _ _ _ _ (.inl e1) (.inl rfl) (by simp [h1, h2, e2])]
    simp [h1, h2]

theorem near_small {a b : Int} (h0 : b ≠ 0) : -(Int.natAbs a + 1) ≤ near a b ∧ near a b ≤ Int.natAbs a + 1 := by
  unfold near
  split
  · split
    · have := nearP_le (a := a) (b := -b) (by omega) (by omega); omega
    · have := nearP_le (a := -a) (b := -b) (by omega) (by omega); omega
  · split
    · have := nearP_le (a := -a) (b := b) (by omega) (by omega); omega
    · have := nearP_le (a := a) (b := b) (by omega) (by omega); omega

theorem same_in : impl_within.f = spec_l00In.f := rfl
theorem in_tells (n lo hi : Int) : spec_l00In.f n lo hi = some (decide (lo ≤ n ∧ n ≤ hi)) := by
  unfold spec_l00In.f
  by_cases h : n ≥ lo
  · have : lo ≤ n := h
    simp [this]
  · have : ¬ lo ≤ n := h
    simp [this]
theorem FnExactDivRound : laws_FnExactDivRound.Pure := by
  intro a b _ _
  unfold laws_FnExactDivRound.f spec_DivRound.f impl_DivRound.f impl_isValue.f
  rw [same_in]
  by_cases h0 : b = 0
  · simp [h0]
  · rw [if_neg h0, if_neg h0, in_tells, in_tells]
    by_cases ha : -1000000000000 ≤ a ∧ a ≤ 1000000000000
    · by_cases hb : -1000000000000 ≤ b ∧ b ≤ 1000000000000
      · have e1 := spec_div_tells (a := a) (b := b) (by omega) (by omega) (by omega) (by omega) h0
        have e2 := impl_nearest_tells (a := a) (b := b) (by omega) (by omega) (by omega) (by omega) h0
        simp [ha, hb, e1, e2]
      · simp [ha, hb]
    · simp [ha]

end DivRound
theorem FnExactDivRound : PFnExactDivRound.laws_FnExactDivRound.Pure := DivRound.FnExactDivRound
end Go.Proofs.Ytnafpdfdjbembaa.Pure
