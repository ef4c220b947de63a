-- Texts of this claim, merged by pack.py (a program of this session's).
import Derived.Test.YtfiffkjfmpngfaaQFnField2
import Derived.Test.YtfiffkjfmpngfaaQFnField3
import Derived.Test.YtfiffkjfmpngfaaQFnField9
import Derived.KernelRfl
import Derived.Test.YtfiffkjfmpngfaaQFnField4
import Derived.Test.YtfiffkjfmpngfaaQFnField1
import Derived.Test.YtfiffkjfmpngfaaQFnField5
import Derived.Test.YtfiffkjfmpngfaaQFnField6
import Derived.Test.YtfiffkjfmpngfaaQFnField8
import Derived.Test.YtfiffkjfmpngfaaRows
import Derived.WalkKit
import Derived.ProofKit
import Derived.OpenShut
import Derived.ShutString
import Derived.ChangeOld
import Derived.Below
import Derived.SizedLaws
import Derived.Test.YtfiffkjfmpngfaaWSized

section
set_option linter.unusedVariables false
set_option linter.unusedSimpArgs false
set_option linter.unusedSectionVars false
namespace Go.Proofs.Ytfiffkjfmpngfaa.F
open Go.RowKit Go.Proofs.YtfiffkjfmpngfaaW.PrintWords Go.Proofs.YtfiffkjfmpngfaaW.PrintLast Go.Proofs.Ytfiffkjfmpngfaa.Lin

theorem u64_wrap (n : Int) : IntKind.u64.wrap n = n % 18446744073709551616 := by simp [IntKind.wrap, IntKind.bits, IntKind.signed]
theorem and255 {x : Int} (h0 : 0 ≤ x) (h1 : x < 18446744073709551616) : Go.bits .and .u64 x 255 = x % 256 :=
  bits_mask .u64 64 (by decide) (fun n h0 h1 => by rw [u64_wrap]; exact Int.emod_eq_of_lt h0 (by omega)) 8 (by decide) x h0 (by omega)
/-- Bytes. -/
def Bytes (l : List Int) : Prop := ∀ x, x ∈ l → 0 ≤ x ∧ x ≤ 255
theorem bytes_rd {l : List Int} (h : Bytes l) (i : Int) : 0 ≤ rd l i ∧ rd l i ≤ 255 := by
  unfold rd
  by_cases hj : i.toNat < l.length
  · rw [getD_at hj]; exact h _ (List.getElem_mem hj)
  · rw [List.getD_eq_getElem?_getD, List.getElem?_eq_none (by omega)]; simp
theorem next_tells {l : List Int} (hl : Bytes l) {at_ : Int} (seed : Int) (h0 : 0 ≤ at_) (h1 : at_ ≤ 4611686018427387904) : ∃ v s, spec_l00Src_next.f l at_ seed = some (v, at_ + 1, s) ∧ 0 ≤ v ∧ v ≤ 255 := by
  have e : wrap64 (at_ + 1) = at_ + 1 := w64_id (by omega) (by omega)
  have hr := bytes_rd hl at_
  have er : wrap64 (rd l at_) = rd l at_ := w64_id (by omega) (by omega)
  have key : ∀ y : Int, 0 ≤ wrap64 (Go.bits .and .u64 (IntKind.u64.wrap y / 1099511627776) 255) ∧ wrap64 (Go.bits .and .u64 (IntKind.u64.wrap y / 1099511627776) 255) ≤ 255 := fun y => by
    have hz : 0 ≤ IntKind.u64.wrap y / 1099511627776 ∧ IntKind.u64.wrap y / 1099511627776 < 18446744073709551616 := by rw [u64_wrap]; omega
    rw [and255 hz.1 hz.2, w64_id (x := IntKind.u64.wrap y / 1099511627776 % 256) (by omega) (by omega)]; omega
  unfold spec_l00Src_next.f
  rw [e, er]
  by_cases c1 : at_ < (l.length : Int)
  · rw [if_pos c1, if_pos h0]
    by_cases c2 : at_ + 1 ≤ (l.length : Int)
    · rw [if_pos c2]; exact ⟨_, _, rfl, hr.1, hr.2⟩
    · rw [if_neg c2]; exact ⟨_, _, rfl, key _⟩
  · rw [if_neg c1]
    by_cases c2 : at_ + 1 ≤ (l.length : Int)
    · rw [if_pos c2]; exact ⟨_, _, rfl, by omega, by omega⟩
    · rw [if_neg c2]; exact ⟨_, _, rfl, key _⟩
/-- A choice below n (0 where n is 1 or less); the place moves on by two at the most. -/
theorem pick_tells {l : List Int} (hl : Bytes l) {at_ : Int} (seed n : Int) (h0 : 0 ≤ at_) (h1 : at_ ≤ 4611686018427387000) : ∃ v at' s, spec_l00Src_pick.f l at_ seed n = some (v, at', s) ∧ 0 ≤ v ∧ (v < n ∨ v = 0) ∧ at_ ≤ at' ∧ at' ≤ at_ + 2 := by
  unfold spec_l00Src_pick.f
  by_cases c1 : n ≤ 1
  · rw [if_pos c1]; exact ⟨0, at_, seed, rfl, by omega, .inr rfl, by omega, by omega⟩
  · rw [if_neg c1]
    obtain ⟨v, s, e, v0, v1⟩ := next_tells hl seed h0 (by omega)
    rw [e]
    simp only [Option.bind_some]
    have hn : ¬ n = 0 := by omega
    by_cases c2 : n > 200
    · rw [if_pos c2]
      obtain ⟨u, s', e', u0, u1⟩ := next_tells hl s (show 0 ≤ at_ + 1 by omega) (by omega)
      rw [e']
      simp only [Option.bind_some]
      rw [if_neg hn, w64_id (x := v * 256) (by omega) (by omega), w64_id (x := v * 256 + u) (by omega) (by omega), Int.tmod_eq_emod_of_nonneg (by omega)]
      exact ⟨_, _, _, rfl, Int.emod_nonneg _ hn, .inl (Int.emod_lt_of_pos _ (by omega)), by omega, by omega⟩
    · rw [if_neg c2, if_neg hn, Int.tmod_eq_emod_of_nonneg v0]
      exact ⟨_, _, _, rfl, Int.emod_nonneg _ hn, .inl (Int.emod_lt_of_pos _ (by omega)), by omega, by omega⟩
theorem one_tells {l : List Int} (hl : Bytes l) {at_ : Int} (seed n : Int) (h0 : 0 ≤ at_) (h1 : at_ ≤ 4611686018427387000) : ∃ b at' s, spec_l00Src_one.f l at_ seed n = some (b, at', s) ∧ at_ ≤ at' ∧ at' ≤ at_ + 2 := by
  unfold spec_l00Src_one.f
  obtain ⟨v, at', s, e, _, _, h2, h3⟩ := pick_tells hl seed n h0 h1
  rw [e]
  exact ⟨_, _, _, rfl, h2, h3⟩
theorem among_tells {l : List Int} (hl : Bytes l) {at_ : Int} (seed : Int) {xs : List Int} (hx : xs ≠ []) (h0 : 0 ≤ at_) (h1 : at_ ≤ 4611686018427387000) : ∃ v at' s, spec_l00Src_among.f l at_ seed xs = some (v, at', s) ∧ v ∈ xs ∧ at_ ≤ at' ∧ at' ≤ at_ + 2 := by
  unfold spec_l00Src_among.f
  have hpos := List.length_pos_iff.mpr hx
  obtain ⟨v, at', s, e, v0, v1, h2, h3⟩ := pick_tells hl seed (xs.length : Int) h0 h1
  have hlt : v < (xs.length : Int) := by omega
  rw [e]
  simp only [Option.bind_some]
  rw [if_pos v0, if_pos hlt]
  refine ⟨_, _, _, rfl, ?_, h2, h3⟩
  obtain ⟨i, rfl⟩ := Int.eq_ofNat_of_zero_le v0
  rw [rd_nat]
  exact getD_mem (by omega)
end Go.Proofs.Ytfiffkjfmpngfaa.F
end

section
set_option linter.unusedVariables false
set_option linter.unusedSimpArgs false
set_option linter.unusedSectionVars false
namespace Go.Proofs.Ytfiffkjfmpngfaa.F
open Go.RowKit Go.Proofs.YtfiffkjfmpngfaaW.PrintWords Go.Proofs.YtfiffkjfmpngfaaW.PrintLast Go.Proofs.Ytfiffkjfmpngfaa.Lin

theorem bent_tells {l : List Int} (hl : Bytes l) {at_ : Int} (seed : Int) (h0 : 0 ≤ at_) (h1 : at_ ≤ 4611686018427386000) : ∃ p at' s, spec_l02BentPrime.f l at_ seed = some (p, at', s) ∧ at_ ≤ at' ∧ at' ≤ at_ + 4 ∧ -2 ≤ p ∧ p ≤ 257 := by
  unfold spec_l02BentPrime.f spec_l02DrawPrime.f
  obtain ⟨b, at1, s1, e1, g1, g2⟩ := one_tells hl seed 12 h0 (by omega)
  rw [e1]
  simp only [Option.bind_some]
  by_cases c : b = true
  · rw [if_pos c]
    obtain ⟨v, at2, s2, e2, hv, g3, g4⟩ := among_tells hl s1 (xs := [-2, 0, 1, 4, 91, 253, 257]) (by simp) (show 0 ≤ at1 by omega) (by omega)
    rw [e2]
    refine ⟨v, at2, s2, rfl, by omega, by omega, ?_⟩
    simp at hv; omega
  · rw [if_neg c]
    obtain ⟨v, at2, s2, e2, hv, g3, g4⟩ := among_tells hl s1 (xs := [2, 3, 5, 7, 11, 13, 101, 251]) (by simp) (show 0 ≤ at1 by omega) (by omega)
    rw [e2]
    refine ⟨v, at2, s2, rfl, by omega, by omega, ?_⟩
    simp at hv; omega
theorem number_tells {l : List Int} (hl : Bytes l) {at_ : Int} (seed p : Int) (h0 : 0 ≤ at_) (h1 : at_ ≤ 4611686018427386000) : ∃ v at' s, spec_l02DrawNumber.f l at_ seed p = some (v, at', s) ∧ at_ ≤ at' ∧ at' ≤ at_ + 4 := by
  unfold spec_l02DrawNumber.f spec_l00Max.f
  obtain ⟨b, at1, s1, e1, g1, g2⟩ := one_tells hl seed 14 h0 (by omega)
  rw [e1]
  simp only [Option.bind_some]
  by_cases c : b = true
  · rw [if_pos c]
    obtain ⟨v, at2, s2, e2, hv, g3, g4⟩ := among_tells hl s1 (xs := [-1, p, 0]) (by simp) (show 0 ≤ at1 by omega) (by omega)
    rw [e2]
    exact ⟨v, at2, s2, rfl, by omega, by omega⟩
  · rw [if_neg c]
    by_cases c2 : 1 > p
    · rw [if_pos c2]
      obtain ⟨v, at2, s2, e2, _, _, g3, g4⟩ := pick_tells hl s1 1 (show 0 ≤ at1 by omega) (by omega)
      simp only [Option.bind_some]
      rw [e2]
      exact ⟨v, at2, s2, rfl, by omega, by omega⟩
    · rw [if_neg c2]
      obtain ⟨v, at2, s2, e2, _, _, g3, g4⟩ := pick_tells hl s1 p (show 0 ≤ at1 by omega) (by omega)
      simp only [Option.bind_some]
      rw [e2]
      exact ⟨v, at2, s2, rfl, by omega, by omega⟩
theorem bytes_of {l : List Int} (h : ∀ x ∈ l, (Lit.int .u8 x).wf = true) : Bytes l := fun x hx => by
  have := h x hx
  simp [Lit.wf, IntKind.min, IntKind.max, IntKind.signed, IntKind.bits] at this
  omega
end Go.Proofs.Ytfiffkjfmpngfaa.F
end

section
/- Inverses, powers, orders and logarithms of the drawn numbers fit together, and the least generator has the order p - 1. -/
set_option linter.unusedVariables false
set_option linter.unusedSimpArgs false
set_option linter.unusedSectionVars false
namespace Go.Proofs.Ytfiffkjfmpngfaa.F
open Go.RowKit Go.Proofs.YtfiffkjfmpngfaaW.PrintWords Go.Proofs.YtfiffkjfmpngfaaW.PrintLast Go.Proofs.Ytfiffkjfmpngfaa.Lin

theorem draw_one {l : List Int} (hl : Bytes l) : ∃ a p, spec_DrawInverseOf.f l = some (a, p) := by
  unfold spec_DrawInverseOf.f spec_l00From.f
  simp only [Option.bind_some]
  obtain ⟨p, at1, s1, e1, g1, g2, _⟩ := bent_tells hl 0 (at_ := 0) (by omega) (by omega)
  rw [e1]
  simp only [Option.bind_some]
  obtain ⟨a, at2, s2, e2, g3, g4⟩ := number_tells hl s1 p (show 0 ≤ at1 by omega) (by omega)
  rw [e2]
  exact ⟨_, _, rfl⟩
theorem draw_log {l : List Int} (hl : Bytes l) : ∃ a b p, spec_DrawLogOf.f l = some (a, b, p) := by
  unfold spec_DrawLogOf.f spec_l00From.f
  simp only [Option.bind_some]
  obtain ⟨p, at1, s1, e1, g1, g2, _⟩ := bent_tells hl 0 (at_ := 0) (by omega) (by omega)
  rw [e1]
  simp only [Option.bind_some]
  obtain ⟨a, at2, s2, e2, g3, g4⟩ := number_tells hl s1 p (show 0 ≤ at1 by omega) (by omega)
  rw [e2]
  simp only [Option.bind_some]
  obtain ⟨b, at3, s3, e3, g5, g6⟩ := number_tells hl s2 p (show 0 ≤ at2 by omega) (by omega)
  rw [e3]
  exact ⟨_, _, _, rfl⟩
theorem inverseOf_tells (a p : Int) {k : Nat} (hk : 64 ≤ k) : impl_InverseOf.f k a p = some (if codeOf p [a] = 0 then (if a = 0 then (0, 6) else (pinv p a, 0)) else (0, codeOf p [a])) := by
  unfold impl_InverseOf.f
  rw [elements_tells p [a] (by omega)]
  by_cases h : codeOf p [a] = 0
  · obtain ⟨hp, hr⟩ := codeOf_zero.mp h
    have hr := hr a (by simp)
    simp only [h, Option.bind_some, if_true]
    by_cases ha : a = 0
    · simp [ha]
    · rw [if_neg ha, if_neg ha, inverse_tells hp hr.1 hr.2 hk]; rfl
  · simp [h]
theorem powerOf_tells {a p : Int} (n : Nat) (hn : n ≤ 1000) (h : codeOf p [a] = 0) {k : Nat} (hk : 64 ≤ k) : impl_PowerOf.f k a n p = some (a ^ n % p, 0) := by
  obtain ⟨hp, hr⟩ := codeOf_zero.mp h
  have hr := hr a (by simp)
  have hp2 := isP_ge hp
  unfold impl_PowerOf.f impl_isValue.f
  rw [elements_tells p [a] (by omega), h, same_in, in_tells, decide_eq_true (by omega)]
  simp only [Option.bind_some, if_true]
  rw [if_pos (by omega), pow_tells hp2.1 hp2.2 hr.1 hr.2 (by omega) hk]
  rfl
theorem elementOrder_tells (a p : Int) {k : Nat} (hk : 252 ≤ k) : ∃ n c, impl_ElementOrder.f k a p = some (n, c) ∧ (codeOf p [a] = 0 → a ≠ 0 → c = 0 ∧ ∃ r : Nat, n = (r : Int) ∧ IsOrder a p r) := by
  unfold impl_ElementOrder.f
  rw [elements_tells p [a] (by omega)]
  by_cases h : codeOf p [a] = 0
  · obtain ⟨hp, hr⟩ := codeOf_zero.mp h
    have hr := hr a (by simp)
    simp only [h, Option.bind_some, if_true]
    by_cases ha : a = 0
    · rw [if_pos ha]; exact ⟨_, _, rfl, fun _ h => absurd ha h⟩
    · obtain ⟨r, e, ho⟩ := order_tells hp (show 0 < a by omega) hr.2 hk
      rw [if_neg ha, e]
      exact ⟨_, _, rfl, fun _ _ => ⟨rfl, r, rfl, ho⟩⟩
  · simp only [h, Option.bind_some, if_false]
    exact ⟨_, _, rfl, fun h => absurd h (by simp)⟩
theorem log_loop {a b p : Int} (hp : 2 ≤ p) (hp' : p ≤ 251) (hb : 0 ≤ b) (hb' : b < p) (d : Nat) : ∀ (k i : Nat), (p - 1).toNat - i = d → i ≤ (p - 1).toNat → d < k →
    (impl_LogOf.l0 k a b p (b ^ i % p) (p - 1) i = some (0, 3)) ∨ ∃ n : Nat, impl_LogOf.l0 k a b p (b ^ i % p) (p - 1) i = some ((n : Int), 0) ∧ n ≤ 251 ∧ b ^ n % p = a := by
  induction d with
  | zero =>
    intro k i hd hi hk
    obtain ⟨k, rfl⟩ : ∃ m, k = m + 1 := ⟨k - 1, by omega⟩
    left
    have hf : ¬ (i : Int) < p - 1 := by omega
    simp only [impl_LogOf.l0, hf, if_false]
  | succ d ih =>
    intro k i hd hi hk
    obtain ⟨k, rfl⟩ : ∃ m, k = m + 1 := ⟨k - 1, by omega⟩
    have ht : (i : Int) < p - 1 := by omega
    have hp0 : ¬ p = 0 := by omega
    have hi2 : i ≤ 251 := by omega
    have e2 : wrap64 ((i : Int) + 1) = ((i + 1 : Nat) : Int) := by rw [w64_id (x := (i : Int) + 1) (by omega) (by omega)]; omega
    have hd' : (p - 1).toNat - (i + 1) = d := by omega
    have hi' : i + 1 ≤ (p - 1).toNat := by omega
    have hk' : d < k := by omega
    by_cases hc : b ^ i % p = a
    · right
      refine ⟨i, ?_, hi2, hc⟩
      simp only [impl_LogOf.l0, ht, hc, if_true]
    · obtain ⟨m1, m2⟩ := emod_range hp (b ^ i)
      have e1 : Int.tmod (wrap64 (b ^ i % p * b)) p = b ^ (i + 1) % p := by
        rw [tmod_small hp hp' m1 m2 hb hb', Int.mul_emod, Int.emod_emod_of_dvd _ (Int.dvd_refl p), ← Int.mul_emod, ← Int.pow_succ]
      simp only [impl_LogOf.l0, ht, hc, hp0, if_true, if_false]
      rw [e1, e2]
      exact ih k (i + 1) hd' hi' hk'
theorem log_tells (a b p : Int) {k : Nat} (hk : 260 ≤ k) : ∃ n c, impl_LogOf.f k a b p = some (n, c) ∧ (c = 0 → codeOf p [b] = 0 ∧ b ≠ 0 ∧ ∃ m : Nat, n = (m : Int) ∧ m ≤ 251 ∧ b ^ m % p = a) ∧ (c ≠ 0 → n = 0) := by
  obtain ⟨k, rfl⟩ : ∃ m, k = m + 1 := ⟨k - 1, by omega⟩
  unfold impl_LogOf.f
  rw [elements_tells p [a, b] (by omega)]
  by_cases h : codeOf p [a, b] = 0
  · obtain ⟨hp, hr⟩ := codeOf_zero.mp h
    have hrb := hr b (by simp)
    have hp2 := isP_ge hp
    simp only [h, Option.bind_some, if_true]
    by_cases ha : a = 0
    · rw [if_pos ha]
      simp only [impl_LogOf.j0, if_true]
      exact ⟨_, _, rfl, fun h => by simp at h, fun _ => rfl⟩
    · rw [if_neg ha]
      by_cases hb : b = 0
      · simp only [hb, impl_LogOf.j0, beq_self_eq_true, if_true]
        exact ⟨_, _, rfl, fun h => by simp at h, fun _ => rfl⟩
      · have hbb : (b == 0) = false := by simp [hb]
        have e1 : (1 : Int) = b ^ 0 % p := by rw [Int.pow_zero, Int.emod_eq_of_lt (by omega) (by omega)]
        have := log_loop (a := a) hp2.1 hp2.2 hrb.1 hrb.2 (p - 1).toNat k 0 (by omega) (by omega) (by omega)
        rw [← e1] at this
        simp only [impl_LogOf.j0, hbb, Bool.false_eq_true, if_false]
        rw [w64_id (x := p - 1) (by omega) (by omega)]
        rcases this with e | ⟨n, e, hn, hc⟩
        · rw [show (0 : Int) = ((0 : Nat) : Int) from rfl, e]
          exact ⟨_, _, rfl, fun h => by simp at h, fun _ => rfl⟩
        · rw [show (0 : Int) = ((0 : Nat) : Int) from rfl, e]
          refine ⟨_, _, rfl, fun _ => ⟨codeOf_zero.mpr ⟨hp, fun x hx => by simp at hx; subst hx; exact hrb⟩, hb, n, rfl, hn, hc⟩, fun h => absurd rfl h⟩
  · simp only [h, Option.bind_some, if_false]
    exact ⟨_, _, rfl, fun hc => absurd hc h, fun _ => rfl⟩
theorem log_part {l : List Int} (hl : Bytes l) {k : Nat} (hk : 700 ≤ k) : laws_FnField.j1 k l = some true := by
  obtain ⟨k, rfl⟩ : ∃ m, k = m + 1 := ⟨k - 1, by omega⟩
  obtain ⟨a, b, p, ed⟩ := draw_log hl
  simp only [laws_FnField.j1]
  rw [ed]
  simp only [Option.bind_some]
  obtain ⟨n, c, e1, h1, h2⟩ := log_tells a b p (k := k) (by omega)
  rw [e1]
  simp only [Option.bind_some]
  by_cases hc : c = 0
  · obtain ⟨hcb, hb, m, rfl, hm, hmm⟩ := h1 hc
    obtain ⟨hp, _⟩ := codeOf_zero.mp hcb
    have hp2 := isP_ge hp
    obtain ⟨r, eg, r0, r1, ro⟩ := gen_tells hp (k := k) (by omega)
    obtain ⟨n2, c2, e2, h3⟩ := elementOrder_tells (r : Int) p (k := k) (by omega)
    obtain ⟨hc2, q, hq, hqo⟩ := h3 (codeOf_zero.mpr ⟨hp, fun x hx => by simp at hx; subst hx; omega⟩) (by omega)
    have hqe : q = (p - 1).toNat := by
      rcases Nat.lt_trichotomy q (p - 1).toNat with h | h | h
      · exact absurd hqo.one (ro.least q hqo.pos h)
      · exact h
      · have := hqo.le; omega
    rw [if_pos hc, powerOf_tells m (by omega) hcb (by omega)]
    simp only [Option.bind_some]
    rw [eg]
    simp only [Option.bind_some]
    rw [e2]
    simp only [Option.bind_some]
    have e5 : n2 = wrap64 (p - 1) := by rw [hq, hqe, w64_id (x := p - 1) (by omega) (by omega)]; omega
    simp [hmm, hc2, e5]
  · rw [if_neg hc, h2 hc]; rfl
theorem FnField_pure : laws_FnField.Pure := by
  intro l m _ _ hl _ _ hm
  have hl := bytes_of hl
  have hm := bytes_of hm
  refine ⟨702, ?_⟩
  have key : laws_FnField.j0 702 l m false = some true := by
    obtain ⟨a, p, ed⟩ := draw_one hl
    have ej := log_part hm (k := 701) (by omega)
    simp only [laws_FnField.j0, Bool.false_eq_true, if_false]
    rw [ed]
    simp only [Option.bind_some]
    rw [inverseOf_tells a p (by omega)]
    simp only [Option.bind_some]
    obtain ⟨n, c, e2, h2⟩ := elementOrder_tells a p (k := 701) (by omega)
    rw [e2]
    simp only [Option.bind_some]
    by_cases h : codeOf p [a] = 0
    · obtain ⟨hp, hr⟩ := codeOf_zero.mp h
      have hr := hr a (by simp)
      have hp2 := isP_ge hp
      by_cases ha : a = 0
      · rw [if_pos h, if_pos ha]
        dsimp only
        rw [if_neg (by decide)]; exact ej
      · obtain ⟨hc, r, hn, ho⟩ := h2 h ha
        have hr1 := ho.pos
        have hr2 := ho.le
        have hi := pinv_tells hp (show 0 < a by omega) hr.2
        have hir := pinv_range (a := a) hp
        have hi1 : 1 ≤ pinv p a := by
          rcases Int.lt_or_le (pinv p a) 1 with h0 | h0
          · have : pinv p a = 0 := by omega
            rw [this] at hi; simp at hi
          · exact h0
        have e3 : wrap64 ((r : Int) - 1) = ((r - 1 : Nat) : Int) := by rw [w64_id (x := (r : Int) - 1) (by omega) (by omega)]; omega
        have e4 : Int.tmod (wrap64 (pinv p a * a)) p = 1 := by rw [tmod_small hp2.1 hp2.2 hir.1 hir.2 hr.1 hr.2, Int.mul_comm]; exact hi
        have hd := ho.dvd hp2.1 _ (fermat hp (show 0 < a by omega) hr.2)
        have e5 : Int.tmod (wrap64 (p - 1)) (r : Int) = 0 := by
          rw [w64_id (x := p - 1) (by omega) (by omega), Int.tmod_eq_emod_of_nonneg (by omega), show p - 1 = (((p - 1).toNat : Nat) : Int) by omega, ← Int.natCast_emod, hd]; rfl
        have e6 : a ^ (r - 1) % p = pinv p a := by
          obtain ⟨m1, m2⟩ := emod_range hp2.1 (a ^ (r - 1))
          refine inverse_only hp2.1 m1 m2 hir.1 hir.2 ?_ hi
          have e0 : a * a ^ (r - 1) = a ^ r := by
            rw [Int.mul_comm, ← Int.pow_succ]
            congr 1; omega
          rw [Int.mul_emod, Int.emod_emod_of_dvd _ (Int.dvd_refl p), ← Int.mul_emod, e0]
          exact ho.one
        have e7 : ¬ pinv p a < 1 := by omega
        have e8 : ¬ pinv p a ≥ p := by omega
        have e9 : ¬ p = 0 := by omega
        have e10 : ¬ (r : Int) < 1 := by omega
        have e11 : ¬ (r : Int) = 0 := by omega
        have e12 : (r : Int) > 1 → ¬ a = 1 := fun hgt ea => by
          have := ho.least 1 (by omega) (by omega)
          rw [ea] at this
          apply this
          rw [Int.one_pow, Int.emod_eq_of_lt (by omega) (by omega)]
        have ep : spec_ValidPrime.f 701 p = some true := by
          unfold spec_ValidPrime.f; rw [prime_tells p (by omega), hp]; rfl
        rw [if_pos h, if_neg ha]
        dsimp only
        rw [if_pos rfl, hn, powerOf_tells r (by omega) h (by omega), ho.one]
        simp only [Option.bind_some]
        rw [e3, powerOf_tells (r - 1) (by omega) h (by omega), e6]
        simp only [Option.bind_some]
        rw [ep]
        simp only [Option.bind_some, if_true]
        rw [if_neg e7, if_neg e8, if_neg e9, e4, if_pos rfl, if_pos hc, if_neg e10, if_neg e11, e5, if_pos rfl]
        by_cases hgt : (r : Int) > 1
        · rw [if_pos hgt, if_neg (e12 hgt)]; exact ej
        · rw [if_neg hgt]; exact ej
    · simp [h, ej]
  unfold laws_FnField.f laws_b10Long.f
  simp only [Option.bind_some]
  by_cases h1 : (l.length : Int) > 1048576
  · rw [if_pos (decide_eq_true h1)]; simp only [laws_FnField.j0, if_true]
  · rw [if_neg (by simp; omega)]
    by_cases h2 : (m.length : Int) > 1048576
    · rw [decide_eq_true h2]; simp only [laws_FnField.j0, if_true]
    · rw [decide_eq_false h2]; exact key
end Go.Proofs.Ytfiffkjfmpngfaa.F
namespace Go.Proofs.Ytfiffkjfmpngfaa.Pure
theorem FnField : F.laws_FnField.Pure := F.FnField_pure
end Go.Proofs.Ytfiffkjfmpngfaa.Pure
end

section
namespace Go.Proofs.Ytfiffkjfmpngfaa.fnField
open Go.ChangeShapes Go.WideShapes Go.ChangeAt Go.RowKit
open Go.ChangeMaps (open_string shut_string)
set_option linter.unusedVariables false
theorem own : ownKnob Try.prog.godebug = none := by kernel_rfl
theorem laidOut : laidOutB Try.prog = true := by kernel_rfl
def IsRow (k : IntKind) (w : World) (a : Option Addr) (len cap : Nat) (zs : List Int) : Prop :=
  (a = none ∧ len = 0 ∧ cap = 0 ∧ zs = []) ∨
  ∃ x, a = some x ∧ len ≤ cap ∧ cap ≤ maxLen ∧ zs.length = cap ∧ (∀ i, i < zs.length → w.cell? (x.add i) = some (.int k (zs.getD i 0))) ∧ ∀ n ∈ zs, (Lit.int k n).wf = true
set_option maxRecDepth 100000 in
theorem lifted (os : Os) (started : os.Started) (H : Type) (enc : TypeId × Value → H) :
    ReturnsInHanded {} Try.checked os 12 .any (Rows.fnFieldSpec.pre6 enc Try.prog Try.f12 Rows.fnFieldRow.domain false) (Rows.fnFieldSpec.post enc Try.prog Try.f12 false true false false) := by
  refine returnsInHanded_of_change_sized (C := Try.checked) own started (by kernel_rfl) Try.func12
    (ChangeSpec.witness6 (enc := enc) (C := Try.checked) false ⟨#[], #[.slice none 0 0, .slice none 0 0], []⟩ 8 (by kernel_rfl) (by kernel_rfl) (by kernel_rfl) (by kernel_rfl)) ?_
  intro W base args ds gs before hval0 hW hcnd hsz0 _
  have hsz : (DataW.weightsEach Try.prog (Try.f12.params.toList ++ Rows.fnFieldSpec.plain.varTypes Try.prog) (ds ++ gs)).all (· ≤ reachBytes) = true := hsz0
  have hval : ∀ (j : Nat) t v, Try.f12.params[j]? = some t → args[j]? = some v → Value.okWide Try.prog W .any base t v := hval0
  have hW' := hW
  obtain ⟨p, q, hA0, hV, rfl, hfz, hnd⟩ := hW
  have hA : DataW.TrodAll enc Try.prog W 0 (fun _ => true) true Try.f12.params.toList args.toList ds p := hA0
  rw [Try.params12] at hA hval hsz
  obtain ⟨v0, vs0, d0, ds0, p0, q0, hargs, rfl, rfl, h0, r0⟩ := trodAll_cons hA
  obtain ⟨v1, vs1, d1, ds1, p1, q1, rfl, rfl, rfl, h1, r1⟩ := trodAll_cons r0
  obtain ⟨rfl, rfl, rfl⟩ := trodAll_nil r1
  obtain rfl : args = #[v0, v1] := by cases args; simp_all
  obtain ⟨rfl, rfl⟩ := trodVars_none hV
  obtain ⟨a0, len0, cap0, rfl⟩ := okWide_slice Try.underlying45 (hval 0 45 v0 rfl rfl)
  have k0 := h0
  have lt0 : ∀ x ∈ p0, x.block < W.heap.size := by obtain ⟨m, hm⟩ := k0; exact DataW.trod_lt m _ _ _ hm
  obtain ⟨z0, w0⟩ : ∃ zs, IsRow .u8 W a0 len0 cap0 zs := by
    obtain ⟨fuel, hf⟩ := h0
    rcases open_ints Try.underlying45 Try.underlying5 (by kernel_rfl) hf with ⟨hcs, _⟩ | ⟨x, l, c, zs, hcs, _, hl, hm, hz, _, hcell, hwz⟩
    · simp [Value.cells] at hcs
      obtain ⟨rfl, rfl, rfl⟩ := hcs
      exact ⟨[], .inl ⟨rfl, rfl, rfl, rfl⟩⟩
    · simp [Value.cells] at hcs
      obtain ⟨rfl, rfl, rfl⟩ := hcs
      exact ⟨zs, .inr ⟨_, rfl, hl, hm, by simpa using hz, hcell, hwz⟩⟩
  have y0 : len0 * 1 ≤ 140737488351232 := Go.Proofs.YtfiffkjfmpngfaaW.PrintWords.sized_ints hsz (j := 0) (t := 45) rfl rfl Try.underlying45 Try.underlying5 (by kernel_rfl) (by kernel_rfl) h0
  obtain ⟨a1, len1, cap1, rfl⟩ := okWide_slice Try.underlying45 (hval 1 45 v1 rfl rfl)
  have k1 := h1
  have lt1 : ∀ x ∈ p1, x.block < W.heap.size := by obtain ⟨m, hm⟩ := k1; exact DataW.trod_lt m _ _ _ hm
  obtain ⟨z1, w1⟩ : ∃ zs, IsRow .u8 W a1 len1 cap1 zs := by
    obtain ⟨fuel, hf⟩ := h1
    rcases open_ints Try.underlying45 Try.underlying5 (by kernel_rfl) hf with ⟨hcs, _⟩ | ⟨x, l, c, zs, hcs, _, hl, hm, hz, _, hcell, hwz⟩
    · simp [Value.cells] at hcs
      obtain ⟨rfl, rfl, rfl⟩ := hcs
      exact ⟨[], .inl ⟨rfl, rfl, rfl, rfl⟩⟩
    · simp [Value.cells] at hcs
      obtain ⟨rfl, rfl, rfl⟩ := hcs
      exact ⟨zs, .inr ⟨_, rfl, hl, hm, by simpa using hz, hcell, hwz⟩⟩
  have y1 : len1 * 1 ≤ 140737488351232 := Go.Proofs.YtfiffkjfmpngfaaW.PrintWords.sized_ints hsz (j := 1) (t := 45) rfl rfl Try.underlying45 Try.underlying5 (by kernel_rfl) (by kernel_rfl) h1
  clear hA0 hval0 hsz0 hsz
  refine (F.laws_FnField.walk Pure.FnField a0 len0 cap0 z0 a1 len1 cap1 z1 W w0 y0 w1 y1).mono fun e W' ⟨he, bel⟩ => ?_
  subst he
  exact ⟨_, rfl, _, _, _, [], _, [], hW', trodAll_mk1 (shut_bool Try.underlying4 _), (trodAll_cons_mk (Below.trod laidOut (by kernel_rfl) (of_decide_eq_true (by kernel_rfl)) k0 bel lt0) (trodAll_cons_mk (Below.trod laidOut (by kernel_rfl) (of_decide_eq_true (by kernel_rfl)) k1 bel lt1) trodAll_mk0)), rfl, bel.frame _, fun h => by cases h⟩
theorem over : Rows.fnFieldRow.holds Try.pinned (OpenSpec.ofChange Rows.fnFieldSpec) :=
  OpenClaim.holds_of_wide 12 Try.f12 rfl rfl rfl rfl rfl rfl rfl ⟨rfl, rfl, rfl, rfl, rfl⟩ rfl rfl rfl rfl rfl (by kernel_rfl) Try.func12 (by kernel_rfl)
    (of_decide_eq_true (by kernel_rfl)) (by unfold Func.isWrapper; first | (rw [if_pos (by decide +kernel)]; kernel_rfl) | (rw [if_neg (by decide +kernel)]; exact ⟨rfl, rfl⟩))
    (fun os started H enc _ => lifted os started H enc)
theorem proved : Rows.FnFieldSaid := over
#print axioms proved
end Go.Proofs.Ytfiffkjfmpngfaa.fnField
namespace Go.Proofs.Ytfiffkjfmpngfaa
/-- The row, under a short name, for the claim. -/
theorem fnField_holds : Rows.FnFieldSaid := fnField.proved
end Go.Proofs.Ytfiffkjfmpngfaa
end
