-- Texts of this claim, merged by pack.py (a program of this session's).
import Derived.Test.YtmkcangcfammnaaQFnRoots0
import Derived.Test.YtmkcangcfammnaaQFnRoots1
import Derived.Test.YtmkcangcfammnaaQFnRoots8
import Derived.Test.YtmkcangcfammnaaQFnRoots9
import Derived.KernelRfl
import Derived.Test.YtmkcangcfammnaaQFnRoots2
import Derived.Test.YtmkcangcfammnaaQFnRoots4
import Derived.Test.YtmkcangcfammnaaQFnRoots5
import Derived.Test.YtmkcangcfammnaaQFnRoots7
import Derived.Test.YtmkcangcfammnaaRows
import Derived.WalkKit
import Derived.ProofKit
import Derived.OpenShut
import Derived.ShutString
import Derived.ChangeOld
import Derived.Below
import Derived.SizedLaws
import Derived.Test.YtmkcangcfammnaaWSized

section
set_option linter.unusedVariables false
set_option linter.unusedSimpArgs false
set_option linter.unusedSectionVars false
namespace Go.Proofs.Ytmkcangcfammnaa.F
open Go.RowKit Go.Proofs.YtmkcangcfammnaaW.PrintWords Go.Proofs.YtmkcangcfammnaaW.PrintLast Go.Proofs.Ytmkcangcfammnaa.Lin

theorem u64_wrap (n : Int) : IntKind.u64.wrap n = n % 18446744073709551616 := by simp [IntKind.wrap, IntKind.bits, IntKind.signed]
theorem and255 {x : Int} (h0 : 0 ≤ x) (h1 : x < 18446744073709551616) : Go.bits .and .u64 x 255 = x % 256 :=
  bits_mask .u64 64 (by decide) (fun n h0 h1 => by rw [u64_wrap]; exact Int.emod_eq_of_lt h0 (by omega)) 8 (by decide) x h0 (by omega)
/-- Bytes. -/
def Bytes (l : List Int) : Prop := ∀ x, x ∈ l → 0 ≤ x ∧ x ≤ 255
theorem bytes_rd {l : List Int} (h : Bytes l) (i : Int) : 0 ≤ rd l i ∧ rd l i ≤ 255 := by
  unfold rd
  by_cases hj : i.toNat < l.length
  · rw [getD_at hj]; exact h _ (List.getElem_mem hj)
  · rw [List.getD_eq_getElem?_getD, List.getElem?_eq_none (by omega)]; simp
theorem next_tells {l : List Int} (hl : Bytes l) {at_ : Int} (seed : Int) (h0 : 0 ≤ at_) (h1 : at_ ≤ 4611686018427387904) : ∃ v s, spec_l00Src_next.f l at_ seed = some (v, at_ + 1, s) ∧ 0 ≤ v ∧ v ≤ 255 := by
  have e : wrap64 (at_ + 1) = at_ + 1 := w64_id (by omega) (by omega)
  have hr := bytes_rd hl at_
  have er : wrap64 (rd l at_) = rd l at_ := w64_id (by omega) (by omega)
  have key : ∀ y : Int, 0 ≤ wrap64 (Go.bits .and .u64 (IntKind.u64.wrap y / 1099511627776) 255) ∧ wrap64 (Go.bits .and .u64 (IntKind.u64.wrap y / 1099511627776) 255) ≤ 255 := fun y => by
    have hz : 0 ≤ IntKind.u64.wrap y / 1099511627776 ∧ IntKind.u64.wrap y / 1099511627776 < 18446744073709551616 := by rw [u64_wrap]; omega
    rw [and255 hz.1 hz.2, w64_id (x := IntKind.u64.wrap y / 1099511627776 % 256) (by omega) (by omega)]; omega
  unfold spec_l00Src_next.f
  rw [e, er]
  by_cases c1 : at_ < (l.length : Int)
  · rw [if_pos c1, if_pos h0]
    by_cases c2 : at_ + 1 ≤ (l.length : Int)
    · rw [if_pos c2]; exact ⟨_, _, rfl, hr.1, hr.2⟩
    · rw [if_neg c2]; exact ⟨_, _, rfl, key _⟩
  · rw [if_neg c1]
    by_cases c2 : at_ + 1 ≤ (l.length : Int)
    · rw [if_pos c2]; exact ⟨_, _, rfl, by omega, by omega⟩
    · rw [if_neg c2]; exact ⟨_, _, rfl, key _⟩
/-- A choice below n (0 where n is 1 or less); the place moves on by two at the most. -/
theorem pick_tells {l : List Int} (hl : Bytes l) {at_ : Int} (seed n : Int) (h0 : 0 ≤ at_) (h1 : at_ ≤ 4611686018427387000) : ∃ v at' s, spec_l00Src_pick.f l at_ seed n = some (v, at', s) ∧ 0 ≤ v ∧ (v < n ∨ v = 0) ∧ at_ ≤ at' ∧ at' ≤ at_ + 2 := by
  unfold spec_l00Src_pick.f
  by_cases c1 : n ≤ 1
  · rw [if_pos c1]; exact ⟨0, at_, seed, rfl, by omega, .inr rfl, by omega, by omega⟩
  · rw [if_neg c1]
    obtain ⟨v, s, e, v0, v1⟩ := next_tells hl seed h0 (by omega)
    rw [e]
    simp only [Option.bind_some]
    have hn : ¬ n = 0 := by omega
    by_cases c2 : n > 200
    · rw [if_pos c2]
      obtain ⟨u, s', e', u0, u1⟩ := next_tells hl s (show 0 ≤ at_ + 1 by omega) (by omega)
      rw [e']
      simp only [Option.bind_some]
      rw [if_neg hn, w64_id (x := v * 256) (by omega) (by omega), w64_id (x := v * 256 + u) (by omega) (by omega), Int.tmod_eq_emod_of_nonneg (by omega)]
      exact ⟨_, _, _, rfl, Int.emod_nonneg _ hn, .inl (Int.emod_lt_of_pos _ (by omega)), by omega, by omega⟩
    · rw [if_neg c2, if_neg hn, Int.tmod_eq_emod_of_nonneg v0]
      exact ⟨_, _, _, rfl, Int.emod_nonneg _ hn, .inl (Int.emod_lt_of_pos _ (by omega)), by omega, by omega⟩
theorem one_tells {l : List Int} (hl : Bytes l) {at_ : Int} (seed n : Int) (h0 : 0 ≤ at_) (h1 : at_ ≤ 4611686018427387000) : ∃ b at' s, spec_l00Src_one.f l at_ seed n = some (b, at', s) ∧ at_ ≤ at' ∧ at' ≤ at_ + 2 := by
  unfold spec_l00Src_one.f
  obtain ⟨v, at', s, e, _, _, h2, h3⟩ := pick_tells hl seed n h0 h1
  rw [e]
  exact ⟨_, _, _, rfl, h2, h3⟩
theorem among_tells {l : List Int} (hl : Bytes l) {at_ : Int} (seed : Int) {xs : List Int} (hx : xs ≠ []) (h0 : 0 ≤ at_) (h1 : at_ ≤ 4611686018427387000) : ∃ v at' s, spec_l00Src_among.f l at_ seed xs = some (v, at', s) ∧ v ∈ xs ∧ at_ ≤ at' ∧ at' ≤ at_ + 2 := by
  unfold spec_l00Src_among.f
  have hpos := List.length_pos_iff.mpr hx
  obtain ⟨v, at', s, e, v0, v1, h2, h3⟩ := pick_tells hl seed (xs.length : Int) h0 h1
  have hlt : v < (xs.length : Int) := by omega
  rw [e]
  simp only [Option.bind_some]
  rw [if_pos v0, if_pos hlt]
  refine ⟨_, _, _, rfl, ?_, h2, h3⟩
  obtain ⟨i, rfl⟩ := Int.eq_ofNat_of_zero_le v0
  rw [rd_nat]
  exact getD_mem (by omega)
end Go.Proofs.Ytmkcangcfammnaa.F
end

section
set_option linter.unusedVariables false
set_option linter.unusedSimpArgs false
set_option linter.unusedSectionVars false
namespace Go.Proofs.Ytmkcangcfammnaa.F
open Go.RowKit Go.Proofs.YtmkcangcfammnaaW.PrintWords Go.Proofs.YtmkcangcfammnaaW.PrintLast Go.Proofs.Ytmkcangcfammnaa.Lin

theorem bent_tells {l : List Int} (hl : Bytes l) {at_ : Int} (seed : Int) (h0 : 0 ≤ at_) (h1 : at_ ≤ 4611686018427386000) : ∃ p at' s, spec_l02BentPrime.f l at_ seed = some (p, at', s) ∧ at_ ≤ at' ∧ at' ≤ at_ + 4 ∧ -2 ≤ p ∧ p ≤ 257 := by
  unfold spec_l02BentPrime.f spec_l02DrawPrime.f
  obtain ⟨b, at1, s1, e1, g1, g2⟩ := one_tells hl seed 12 h0 (by omega)
  rw [e1]
  simp only [Option.bind_some]
  by_cases c : b = true
  · rw [if_pos c]
    obtain ⟨v, at2, s2, e2, hv, g3, g4⟩ := among_tells hl s1 (xs := [-2, 0, 1, 4, 91, 253, 257]) (by simp) (show 0 ≤ at1 by omega) (by omega)
    rw [e2]
    refine ⟨v, at2, s2, rfl, by omega, by omega, ?_⟩
    simp at hv; omega
  · rw [if_neg c]
    obtain ⟨v, at2, s2, e2, hv, g3, g4⟩ := among_tells hl s1 (xs := [2, 3, 5, 7, 11, 13, 101, 251]) (by simp) (show 0 ≤ at1 by omega) (by omega)
    rw [e2]
    refine ⟨v, at2, s2, rfl, by omega, by omega, ?_⟩
    simp at hv; omega
theorem number_tells {l : List Int} (hl : Bytes l) {at_ : Int} (seed p : Int) (h0 : 0 ≤ at_) (h1 : at_ ≤ 4611686018427386000) : ∃ v at' s, spec_l02DrawNumber.f l at_ seed p = some (v, at', s) ∧ at_ ≤ at' ∧ at' ≤ at_ + 4 := by
  unfold spec_l02DrawNumber.f spec_l00Max.f
  obtain ⟨b, at1, s1, e1, g1, g2⟩ := one_tells hl seed 14 h0 (by omega)
  rw [e1]
  simp only [Option.bind_some]
  by_cases c : b = true
  · rw [if_pos c]
    obtain ⟨v, at2, s2, e2, hv, g3, g4⟩ := among_tells hl s1 (xs := [-1, p, 0]) (by simp) (show 0 ≤ at1 by omega) (by omega)
    rw [e2]
    exact ⟨v, at2, s2, rfl, by omega, by omega⟩
  · rw [if_neg c]
    by_cases c2 : 1 > p
    · rw [if_pos c2]
      obtain ⟨v, at2, s2, e2, _, _, g3, g4⟩ := pick_tells hl s1 1 (show 0 ≤ at1 by omega) (by omega)
      simp only [Option.bind_some]
      rw [e2]
      exact ⟨v, at2, s2, rfl, by omega, by omega⟩
    · rw [if_neg c2]
      obtain ⟨v, at2, s2, e2, _, _, g3, g4⟩ := pick_tells hl s1 p (show 0 ≤ at1 by omega) (by omega)
      simp only [Option.bind_some]
      rw [e2]
      exact ⟨v, at2, s2, rfl, by omega, by omega⟩
theorem bytes_of {l : List Int} (h : ∀ x ∈ l, (Lit.int .u8 x).wf = true) : Bytes l := fun x hx => by
  have := h x hx
  simp [Lit.wf, IntKind.min, IntKind.max, IntKind.signed, IntKind.bits] at this
  omega
end Go.Proofs.Ytmkcangcfammnaa.F
end

section
/- A square root squares back and is in range, a number has one exactly if it is a square, and products of drawn vectors are linear. -/
set_option linter.unusedVariables false
set_option linter.unusedSimpArgs false
set_option linter.unusedSectionVars false
namespace Go.Proofs.Ytmkcangcfammnaa.F
open Go.RowKit Go.Proofs.YtmkcangcfammnaaW.PrintWords Go.Proofs.YtmkcangcfammnaaW.PrintLast Go.Proofs.Ytmkcangcfammnaa.Lin

theorem drawVec_loop {l : List Int} (hl : Bytes l) (p : Int) {n : Nat} (hn : n ≤ 6) (d : Nat) : ∀ (k i : Nat) (o : List Int) (at_ seed : Int), n - i = d → i ≤ n → d < k → o.length = i → 0 ≤ at_ → at_ + 2 * (d : Int) ≤ 1000000 →
    ∃ o' at' s', spec_l02DrawVector.l0 k n p o i l at_ seed = some (o', at', s') ∧ at_ ≤ at' ∧ at' ≤ at_ + 2 * (d : Int) ∧ o'.length = n := by
  induction d with
  | zero =>
    intro k i o at_ seed hd hi hk ho h0 h1
    obtain ⟨k, rfl⟩ : ∃ m, k = m + 1 := ⟨k - 1, by omega⟩
    simp only [spec_l02DrawVector.l0]
    rw [if_neg (by omega)]
    exact ⟨_, _, _, rfl, by omega, by omega, by omega⟩
  | succ d ih =>
    intro k i o at_ seed hd hi hk ho h0 h1
    obtain ⟨k, rfl⟩ : ∃ m, k = m + 1 := ⟨k - 1, by omega⟩
    obtain ⟨m, hm⟩ : ∃ m, spec_l00Max.f 1 p = some m := by unfold spec_l00Max.f; split <;> exact ⟨_, rfl⟩
    obtain ⟨v, at1, s1, e1, _, _, g1, g2⟩ := pick_tells hl seed m h0 (by omega)
    have hw : wrap64 ((i : Int) + 1) = ((i + 1 : Nat) : Int) := w64_succ (n := n) (by omega) (by omega)
    simp only [spec_l02DrawVector.l0]
    rw [if_pos (by omega), hm]
    simp only [Option.bind_some]
    rw [e1]
    simp only [Option.bind_some]
    rw [if_pos (by omega), hw]
    obtain ⟨o', at', s', e, a1, a2, a3⟩ := ih k (i + 1) (o ++ [v]) at1 s1 (by omega) (by omega) (by omega) (by simp [ho]) (by omega) (by omega)
    exact ⟨o', at', s', e, by omega, by omega, a3⟩
theorem drawVec_tells {l : List Int} (hl : Bytes l) (p : Int) {n : Int} (h0 : 0 ≤ n) (h6 : n ≤ 6) {at_ : Int} (seed : Int) (ha : 0 ≤ at_) (ha' : at_ ≤ 900000) {k : Nat} (hk : 10 ≤ k) : ∃ o at' s', spec_l02DrawVector.f k l at_ seed n p = some (o, at', s') ∧ at_ ≤ at' ∧ at' ≤ at_ + 12 ∧ o.length ≤ 6 := by
  obtain ⟨m, rfl⟩ := Int.eq_ofNat_of_zero_le h0
  obtain ⟨o, at', s', e, a1, a2, a3⟩ := drawVec_loop hl p (n := m) (by omega) m k 0 [] at_ seed (by omega) (by omega) (by omega) rfl ha (by omega)
  unfold spec_l02DrawVector.f
  exact ⟨o, at', s', e, a1, by omega, by omega⟩
theorem bend_tells {l : List Int} (hl : Bytes l) (v : List Int) (hv : v.length ≤ 6) (p : Int) {at_ : Int} (seed : Int) (ha : 0 ≤ at_) (ha' : at_ ≤ 900000) : ∃ o at' s', spec_l02Bend.f l at_ seed v p = some (o, at', s') := by
  unfold spec_l02Bend.f
  obtain ⟨b, at1, s1, e1, _, _, g1, g2⟩ := pick_tells hl seed 24 ha (by omega)
  rw [e1]
  simp only [Option.bind_some]
  by_cases c0 : b = 0
  · obtain ⟨x, at2, s2, e2, _, _, _⟩ := among_tells hl s1 (xs := [-1, p]) (by simp) (show 0 ≤ at1 by omega) (by omega)
    rw [if_pos c0, e2]
    simp only [Option.bind_some]
    rw [if_pos (by omega)]
    exact ⟨_, _, _, rfl⟩
  · rw [if_neg c0]
    by_cases c1 : b = 1
    · obtain ⟨x, at2, s2, e2, hx, _, _⟩ := among_tells hl s1 (xs := [64, 65]) (by simp) (show 0 ≤ at1 by omega) (by omega)
      simp at hx
      rw [if_pos c1, e2]
      simp only [Option.bind_some]
      rw [if_pos (by omega), if_pos (by omega)]
      exact ⟨_, _, _, rfl⟩
    · rw [if_neg c1]
      by_cases c2 : b = 2
      · rw [if_pos c2, if_pos (by omega)]; exact ⟨_, _, _, rfl⟩
      · rw [if_neg c2]; exact ⟨_, _, _, rfl⟩
theorem draw_dot {l : List Int} (hl : Bytes l) {k : Nat} (hk : 10 ≤ k) : ∃ v w q, spec_DrawDotOf.f k l = some (v, w, q) := by
  unfold spec_DrawDotOf.f spec_l00From.f
  simp only [Option.bind_some]
  obtain ⟨p, at1, s1, e1, g1, g2, _⟩ := bent_tells hl 0 (at_ := 0) (by omega) (by omega)
  rw [e1]
  simp only [Option.bind_some]
  obtain ⟨n, at2, s2, e2, n0, n1, g3, g4⟩ := pick_tells hl s1 6 (show 0 ≤ at1 by omega) (by omega)
  rw [e2]
  simp only [Option.bind_some]
  obtain ⟨v, at3, s3, e3, g5, g6, hv⟩ := drawVec_tells hl p n0 (by omega) s2 (show 0 ≤ at2 by omega) (by omega) hk
  rw [e3]
  simp only [Option.bind_some]
  obtain ⟨w, at4, s4, e4, g7, g8, hw⟩ := drawVec_tells hl p n0 (by omega) s3 (show 0 ≤ at3 by omega) (by omega) hk
  rw [e4]
  simp only [Option.bind_some]
  obtain ⟨o, at5, s5, e5⟩ := bend_tells hl v hv p s4 (show 0 ≤ at4 by omega) (by omega)
  rw [e5]
  exact ⟨_, _, _, rfl⟩
theorem draw_root {l : List Int} (hl : Bytes l) {k : Nat} (hk : 20 ≤ k) : ∃ a p, spec_DrawSquareRootOf.f k l = some (a, p) := by
  unfold spec_DrawSquareRootOf.f spec_l00From.f
  simp only [Option.bind_some]
  obtain ⟨p, at1, s1, e1, g1, g2, _⟩ := bent_tells hl 0 (at_ := 0) (by omega) (by omega)
  rw [e1]
  simp only [Option.bind_some]
  obtain ⟨v, at2, s2, e2, g3, g4⟩ := number_tells hl s1 p (show 0 ≤ at1 by omega) (by omega)
  rw [e2]
  simp only [Option.bind_some]
  obtain ⟨b, at3, s3, e3, g5, g6⟩ := one_tells hl s2 2 (show 0 ≤ at2 by omega) (by omega)
  rw [e3]
  simp only [Option.bind_some]
  split
  · rw [prime_tells p hk]
    simp only [Option.bind_some]
    split
    · rename_i hp
      have := isP_ge hp
      split
      · rw [if_neg (by omega)]; exact ⟨_, _, rfl⟩
      · exact ⟨_, _, rfl⟩
    · exact ⟨_, _, rfl⟩
  · exact ⟨_, _, rfl⟩
theorem roots_j2 {l : List Int} (hl : Bytes l) : laws_FnRoots.j2 401 l false = some true := by
  simp only [laws_FnRoots.j2, Bool.false_eq_true, if_false]
  obtain ⟨v, w, q, e⟩ := draw_dot hl (k := 400) (by omega)
  rw [e]
  simp only [Option.bind_some]
  rw [dotOf_tells v w q (by omega), addVec_tells v w q (by omega)]
  by_cases h : codeTwo v w q = 0
  · obtain ⟨hq, hlen, hv, hw, hvw⟩ := codeTwo_zero.mp h
    have h2 := isP_ge hq
    have a1 : codeTwo (addRow q v w 1) w q = 0 := codeTwo_zero.mpr ⟨hq, by rw [addRow_len hvw]; exact hlen, addRow_in h2.1 v w, hw, by rw [addRow_len hvw]; exact hvw⟩
    have a2 : codeTwo w w q = 0 := codeTwo_zero.mpr ⟨hq, by omega, hw, hw, rfl⟩
    have a3 : codeTwo v v q = 0 := codeTwo_zero.mpr ⟨hq, hlen, hv, hv, rfl⟩
    have r1 := emod_range' h2.1 (dotS v w)
    have r2 := emod_range' h2.1 (dotS w w)
    have hq0 : ¬ q = 0 := by omega
    have e2 : dotS (addRow q v w 1) w % q = Int.tmod (wrap64 (dotS v w % q + dotS w w % q)) q := by
      rw [w64_id (by omega) (by omega), Int.tmod_eq_emod_of_nonneg (by omega), dotS_add v w hvw, Int.add_emod]
    simp only [h, if_true, Option.bind_some, specP_tells q (show 20 ≤ 400 by omega), hq, dotOf_tells (addRow q v w 1) w q (show 100 ≤ 400 by omega), a1, dotOf_tells w w q (show 100 ≤ 400 by omega), a2, hq0, if_false, scaleTwo_tells v hq hlen hv (show 100 ≤ 400 by omega), addVec_tells v v q (show 100 ≤ 400 by omega), a3, e2, nums_tells (a := addRow q v v 1) (by rw [addRow_len rfl]; exact hlen) (show 100 ≤ 400 by omega)]
  · simp only [h, if_false, Option.bind_some, if_true]
    rfl
theorem FnRoots_pure : laws_FnRoots.Pure := by
  intro l0 l1 _ _ hb0 _ _ hb1
  have h0 := bytes_of hb0
  have h1 := bytes_of hb1
  have hj : ∀ t, laws_FnRoots.j0 403 l0 l1 t = some true := by
    intro t
    cases t with
    | true => simp [laws_FnRoots.j0]
    | false =>
      simp only [laws_FnRoots.j0, Bool.false_eq_true, if_false]
      obtain ⟨a, p, e⟩ := draw_root h0 (k := 402) (by omega)
      obtain ⟨x, one, s, two, e1, e2, f0, f3⟩ := root_facts a p (k := 402) (by omega)
      rw [e]
      simp only [Option.bind_some]
      rw [e1, e2]
      simp only [Option.bind_some]
      by_cases c0 : one = 0
      · obtain ⟨hp, x0, xp, hx, ht, hs, hsa⟩ := f0 c0
        have h2 := isP_ge hp
        have hxx : 0 ≤ x * x ∧ x * x ≤ 63001 := by
          have g1 := Int.mul_nonneg x0 x0
          have g2 : x * x ≤ 251 * 251 := Int.mul_le_mul (by omega) (by omega) x0 (by omega)
          omega
        have hm : Int.tmod (wrap64 (x * x)) p = a := by rw [w64_id (by omega) (by omega), Int.tmod_eq_emod_of_nonneg (by omega)]; exact hx
        have n1 : ¬ x < 0 := by omega
        have n2 : ¬ x ≥ p := by omega
        have n3 : ¬ p = 0 := by omega
        have n4 : ¬ s < 0 := by omega
        have hb' : (s == 0) = (a == 0) := by rw [Bool.eq_iff_iff, beq_iff_eq, beq_iff_eq]; exact hsa
        have hb : ((s == 0) != (a == 0)) = false := by rw [hb']; exact bne_self_eq_false _
        have n5 : ¬ (0 : Int) = 3 := by omega
        subst c0; subst ht
        simp only [specP_tells p (show 20 ≤ 402 by omega), hp, Option.bind_some, if_true, n1, n2, n3, n4, if_false, hm, hb, laws_FnRoots.j1, Bool.false_eq_true, n5]
        exact roots_j2 h1
      · simp only [c0, if_false, laws_FnRoots.j1, Bool.false_eq_true]
        by_cases c3 : one = 3
        · obtain ⟨ht, hs⟩ := f3 c3
          subst ht; subst hs
          simp only [c3, if_true, bne_self_eq_false]
          exact roots_j2 h1
        · simp only [c3, if_false]
          exact roots_j2 h1
  refine ⟨403, ?_⟩
  unfold laws_FnRoots.f laws_b10Long.f
  simp only [Option.bind_some]
  split
  · exact hj _
  · exact hj _
end Go.Proofs.Ytmkcangcfammnaa.F
namespace Go.Proofs.Ytmkcangcfammnaa.Pure
theorem FnRoots : F.laws_FnRoots.Pure := F.FnRoots_pure
end Go.Proofs.Ytmkcangcfammnaa.Pure
end

section
namespace Go.Proofs.Ytmkcangcfammnaa.fnRoots
open Go.ChangeShapes Go.WideShapes Go.ChangeAt Go.RowKit
open Go.ChangeMaps (open_string shut_string)
set_option linter.unusedVariables false
theorem own : ownKnob Try.prog.godebug = none := by kernel_rfl
theorem laidOut : laidOutB Try.prog = true := by kernel_rfl
def IsRow (k : IntKind) (w : World) (a : Option Addr) (len cap : Nat) (zs : List Int) : Prop :=
  (a = none ∧ len = 0 ∧ cap = 0 ∧ zs = []) ∨
  ∃ x, a = some x ∧ len ≤ cap ∧ cap ≤ maxLen ∧ zs.length = cap ∧ (∀ i, i < zs.length → w.cell? (x.add i) = some (.int k (zs.getD i 0))) ∧ ∀ n ∈ zs, (Lit.int k n).wf = true
set_option maxRecDepth 100000 in
theorem lifted (os : Os) (started : os.Started) (H : Type) (enc : TypeId × Value → H) :
    ReturnsInHanded {} Try.checked os 6 .any (Rows.fnRootsSpec.pre6 enc Try.prog Try.f6 Rows.fnRootsRow.domain false) (Rows.fnRootsSpec.post enc Try.prog Try.f6 false true false false) := by
  refine returnsInHanded_of_change_sized (C := Try.checked) own started (by kernel_rfl) Try.func6
    (ChangeSpec.witness6 (enc := enc) (C := Try.checked) false ⟨#[], #[.slice none 0 0, .slice none 0 0], []⟩ 8 (by kernel_rfl) (by kernel_rfl) (by kernel_rfl) (by kernel_rfl)) ?_
  intro W base args ds gs before hval0 hW hcnd hsz0 _
  have hsz : (DataW.weightsEach Try.prog (Try.f6.params.toList ++ Rows.fnRootsSpec.plain.varTypes Try.prog) (ds ++ gs)).all (· ≤ reachBytes) = true := hsz0
  have hval : ∀ (j : Nat) t v, Try.f6.params[j]? = some t → args[j]? = some v → Value.okWide Try.prog W .any base t v := hval0
  have hW' := hW
  obtain ⟨p, q, hA0, hV, rfl, hfz, hnd⟩ := hW
  have hA : DataW.TrodAll enc Try.prog W 0 (fun _ => true) true Try.f6.params.toList args.toList ds p := hA0
  rw [Try.params6] at hA hval hsz
  obtain ⟨v0, vs0, d0, ds0, p0, q0, hargs, rfl, rfl, h0, r0⟩ := trodAll_cons hA
  obtain ⟨v1, vs1, d1, ds1, p1, q1, rfl, rfl, rfl, h1, r1⟩ := trodAll_cons r0
  obtain ⟨rfl, rfl, rfl⟩ := trodAll_nil r1
  obtain rfl : args = #[v0, v1] := by cases args; simp_all
  obtain ⟨rfl, rfl⟩ := trodVars_none hV
  obtain ⟨a0, len0, cap0, rfl⟩ := okWide_slice Try.underlying33 (hval 0 33 v0 rfl rfl)
  have k0 := h0
  have lt0 : ∀ x ∈ p0, x.block < W.heap.size := by obtain ⟨m, hm⟩ := k0; exact DataW.trod_lt m _ _ _ hm
  obtain ⟨z0, w0⟩ : ∃ zs, IsRow .u8 W a0 len0 cap0 zs := by
    obtain ⟨fuel, hf⟩ := h0
    rcases open_ints Try.underlying33 Try.underlying5 (by kernel_rfl) hf with ⟨hcs, _⟩ | ⟨x, l, c, zs, hcs, _, hl, hm, hz, _, hcell, hwz⟩
    · simp [Value.cells] at hcs
      obtain ⟨rfl, rfl, rfl⟩ := hcs
      exact ⟨[], .inl ⟨rfl, rfl, rfl, rfl⟩⟩
    · simp [Value.cells] at hcs
      obtain ⟨rfl, rfl, rfl⟩ := hcs
      exact ⟨zs, .inr ⟨_, rfl, hl, hm, by simpa using hz, hcell, hwz⟩⟩
  have y0 : len0 * 1 ≤ 140737488351232 := Go.Proofs.YtmkcangcfammnaaW.PrintWords.sized_ints hsz (j := 0) (t := 33) rfl rfl Try.underlying33 Try.underlying5 (by kernel_rfl) (by kernel_rfl) h0
  obtain ⟨a1, len1, cap1, rfl⟩ := okWide_slice Try.underlying33 (hval 1 33 v1 rfl rfl)
  have k1 := h1
  have lt1 : ∀ x ∈ p1, x.block < W.heap.size := by obtain ⟨m, hm⟩ := k1; exact DataW.trod_lt m _ _ _ hm
  obtain ⟨z1, w1⟩ : ∃ zs, IsRow .u8 W a1 len1 cap1 zs := by
    obtain ⟨fuel, hf⟩ := h1
    rcases open_ints Try.underlying33 Try.underlying5 (by kernel_rfl) hf with ⟨hcs, _⟩ | ⟨x, l, c, zs, hcs, _, hl, hm, hz, _, hcell, hwz⟩
    · simp [Value.cells] at hcs
      obtain ⟨rfl, rfl, rfl⟩ := hcs
      exact ⟨[], .inl ⟨rfl, rfl, rfl, rfl⟩⟩
    · simp [Value.cells] at hcs
      obtain ⟨rfl, rfl, rfl⟩ := hcs
      exact ⟨zs, .inr ⟨_, rfl, hl, hm, by simpa using hz, hcell, hwz⟩⟩
  have y1 : len1 * 1 ≤ 140737488351232 := Go.Proofs.YtmkcangcfammnaaW.PrintWords.sized_ints hsz (j := 1) (t := 33) rfl rfl Try.underlying33 Try.underlying5 (by kernel_rfl) (by kernel_rfl) h1
  clear hA0 hval0 hsz0 hsz
  refine (F.laws_FnRoots.walk Pure.FnRoots a0 len0 cap0 z0 a1 len1 cap1 z1 W w0 y0 w1 y1).mono fun e W' ⟨he, bel⟩ => ?_
  subst he
  exact ⟨_, rfl, _, _, _, [], _, [], hW', trodAll_mk1 (shut_bool Try.underlying4 _), (trodAll_cons_mk (Below.trod laidOut (by kernel_rfl) (of_decide_eq_true (by kernel_rfl)) k0 bel lt0) (trodAll_cons_mk (Below.trod laidOut (by kernel_rfl) (of_decide_eq_true (by kernel_rfl)) k1 bel lt1) trodAll_mk0)), rfl, bel.frame _, fun h => by cases h⟩
theorem over : Rows.fnRootsRow.holds Try.pinned (OpenSpec.ofChange Rows.fnRootsSpec) :=
  OpenClaim.holds_of_wide 6 Try.f6 rfl rfl rfl rfl rfl rfl rfl ⟨rfl, rfl, rfl, rfl, rfl⟩ rfl rfl rfl rfl rfl (by kernel_rfl) Try.func6 (by kernel_rfl)
    (of_decide_eq_true (by kernel_rfl)) (by unfold Func.isWrapper; first | (rw [if_pos (by decide +kernel)]; kernel_rfl) | (rw [if_neg (by decide +kernel)]; exact ⟨rfl, rfl⟩))
    (fun os started H enc _ => lifted os started H enc)
theorem proved : Rows.FnRootsSaid := over
#print axioms proved
end Go.Proofs.Ytmkcangcfammnaa.fnRoots
namespace Go.Proofs.Ytmkcangcfammnaa
/-- The row, under a short name, for the claim. -/
theorem fnRoots_holds : Rows.FnRootsSaid := fnRoots.proved
end Go.Proofs.Ytmkcangcfammnaa
end
