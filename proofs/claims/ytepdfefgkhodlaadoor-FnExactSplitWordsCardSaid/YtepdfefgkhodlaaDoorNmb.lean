import Derived.Test.YtepdfefgkhodlaaDoorFx14
import Derived.Test.YtepdfefgkhodlaaDoorFx15
import Derived.Test.YtepdfefgkhodlaaDoorFx17
import Derived.Test.YtepdfefgkhodlaaDoorDig
import Derived.Test.YtepdfefgkhodlaaDoorSpl
import Derived.Test.YtepdfefgkhodlaaDoorVecS
import Derived.KernelRfl
set_option linter.unusedVariables false
set_option linter.unusedSimpArgs false
set_option linter.unusedSectionVars false
namespace Go.Proofs.YtepdfefgkhodlaaDoor.F
open Go.RowKit Go.Proofs.YtepdfefgkhodlaaDoorW.PrintWords Go.Proofs.YtepdfefgkhodlaaDoorW.PrintLast Go.Proofs.YtepdfefgkhodlaaDoor.Lin

open Go.Lib
theorem bt_nat (s : ByteArray) {i : Nat} (h : i < s.data.toList.length) : bt s (i : Int) = ((s.data.toList[i].toNat : Nat) : Int) := by
  have hs : i < s.size := by rw [size_len]; exact h
  unfold bt
  simp only [Int.toNat_natCast]
  rw [dif_pos hs]
  rfl
theorem digit_tellsN (b : Int) : spec_l01Digit.f b = some (decide (48 ≤ b) && decide (b ≤ 57)) := by
  unfold spec_l01Digit.f
  by_cases h : b ≥ 48
  · rw [if_pos h, decide_eq_true (show 48 ≤ b from h), Bool.true_and]
  · rw [if_neg h, decide_eq_false (show ¬ 48 ≤ b from h), Bool.false_and]
theorem num_loop (s : ByteArray) (hs : s.data.toList.length ≤ 1048576) (at_ : Int) : ∀ (d i k acc : Nat), s.data.toList.length - i = d → i ≤ s.data.toList.length → d < k → Aside0 ((acc + 1) * 10 ^ d ≤ 1000000000000000000) →
    spec_l01Number.l0 k s at_ acc i = some (if (s.data.toList.drop i).all isDig = true then (if at_ = 1 then -((decVal acc (s.data.toList.drop i) : Nat) : Int) else (decVal acc (s.data.toList.drop i) : Nat), true) else (0, false)) := by
  intro d
  induction d with
  | zero =>
    intro i k acc hd hi hk ha
    have ha := ha.out
    rw [Nat.pow_zero, Nat.mul_one] at ha
    obtain ⟨k, rfl⟩ : ∃ q, k = q + 1 := ⟨k - 1, by omega⟩
    simp only [spec_l01Number.l0]
    rw [if_neg (by rw [size_len]; omega), List.drop_eq_nil_of_le (by omega)]
    show _ = some (if true = true then _ else _)
    rw [if_pos rfl]
    show _ = some (if at_ = 1 then -(acc : Int) else (acc : Int), true)
    by_cases h1 : at_ = 1
    · rw [if_pos h1, if_pos h1, w64_idV (x := -(acc : Int)) (by omega) (by omega)]
    · rw [if_neg h1, if_neg h1]
  | succ d ih =>
    intro i k acc hd hi hk ha
    obtain ⟨k, rfl⟩ : ∃ q, k = q + 1 := ⟨k - 1, by omega⟩
    have hlt : i < s.data.toList.length := by omega
    have h10 : (acc + 1) * 10 ≤ 1000000000000000000 := by
      have hpow : 1 ≤ 10 ^ d := Nat.one_le_pow _ _ (by decide)
      have ha := ha.out
      rw [Nat.pow_succ, Nat.mul_comm (10 ^ d) 10, ← Nat.mul_assoc] at ha
      exact Nat.le_trans (Nat.le_mul_of_pos_right _ hpow) ha
    simp only [spec_l01Number.l0]
    rw [if_pos (by rw [size_len]; omega), if_pos (by omega), bt_nat s hlt, digit_tellsN, Option.bind_some, List.drop_eq_getElem_cons hlt, List.all_cons]
    generalize s.data.toList[i] = b
    by_cases hb : isDig b = true
    · have hbd := isDig_iff.mp hb
      rw [hb, Bool.true_and, decide_eq_true (show (48 : Int) ≤ (b.toNat : Int) by omega), decide_eq_true (show (b.toNat : Int) ≤ 57 by omega), Bool.true_and, if_pos rfl]
      have hle : acc * 10 + (b.toNat - 48) + 1 ≤ (acc + 1) * 10 := by omega
      have := ih (i + 1) k (acc * 10 + (b.toNat - 48)) (by omega) (by omega) (by omega) ⟨by
        refine Nat.le_trans ?_ ha.out
        rw [Nat.pow_succ, Nat.mul_comm (10 ^ d) 10, ← Nat.mul_assoc]
        exact Nat.mul_le_mul_right _ hle⟩
      have b1 : -9223372036854775808 ≤ 10 * (acc : Int) ∧ 10 * (acc : Int) ≤ 9223372036854775807 := by omega
      have b2 : -9223372036854775808 ≤ 10 * (acc : Int) + ((b.toNat - 48 : Nat) : Int) ∧ 10 * (acc : Int) + ((b.toNat - 48 : Nat) : Int) ≤ 9223372036854775807 := by omega
      have b3 : 10 * (acc : Int) + ((b.toNat - 48 : Nat) : Int) = ((acc * 10 + (b.toNat - 48) : Nat) : Int) := by omega
      have e2 : ((b.toNat : Int) - 48) % 256 = ((b.toNat - 48 : Nat) : Int) := by omega
      rw [w64_succ (n := s.data.toList.length) hlt (by omega), w64_idV b1.1 b1.2, e2, w64_idV b2.1 b2.2, b3]
      rw [this]
      rfl
    · have hbf : isDig b = false := Bool.eq_false_iff.mpr hb
      have hq : (decide ((48 : Int) ≤ (b.toNat : Int)) && decide ((b.toNat : Int) ≤ 57)) = false := by
        rw [← hbf]; unfold isDig
        congr 1
        · exact decide_eq_decide.mpr (by omega)
        · exact decide_eq_decide.mpr (by omega)
      rw [hq, hbf, Bool.false_and, if_neg (by decide), if_neg (by decide)]
theorem number_j1 (s : ByteArray) (hs : s.data.toList.length ≤ 1048576) (at_ : Nat) (h1 : at_ ≤ 1) (hat : (at_ = 1) = (s.data.toList.head? = some 45)) {k : Nat} (hk : s.data.toList.length + 5 ≤ k) :
    spec_l01Number.j1 k s at_ = some (numOf s.data.toList) := by
  obtain ⟨k, rfl⟩ : ∃ q, k = q + 2 := ⟨k - 2, by omega⟩
  have hdig : digitsOf s.data.toList = s.data.toList.drop at_ := by
    unfold digitsOf
    by_cases h : at_ = 1
    · rw [if_pos (hat ▸ h), h]
    · rw [if_neg (hat ▸ h), show at_ = 0 by omega, List.drop_zero]
  have hle : at_ ≤ s.data.toList.length := by
    by_cases h : at_ = 1
    · have := hat ▸ h
      cases hq : s.data.toList with
      | nil => rw [hq] at this; cases this
      | cons x r => simp; omega
    · omega
  unfold numOf
  rw [hdig]
  have hdl : (s.data.toList.drop at_).length = s.data.toList.length - at_ := List.length_drop
  rw [hdl]
  have j2t : ∀ a, spec_l01Number.j2 (k + 1) s a true = some (0, false) := fun a => by simp only [spec_l01Number.j2, if_true]
  simp only [spec_l01Number.j1]
  rw [size_len]
  by_cases c1 : s.data.toList.length - at_ = 0
  · rw [if_pos (show ((s.data.toList.length : Nat) : Int) = (at_ : Int) by omega), j2t, if_pos (.inl c1)]
  · rw [if_neg (show ¬ ((s.data.toList.length : Nat) : Int) = (at_ : Int) by omega), w64_idV (by omega) (by omega)]
    by_cases c2 : 18 < s.data.toList.length - at_
    · rw [if_pos (by omega), j2t, if_pos (.inr (.inl c2))]
    · have hlt : at_ < s.data.toList.length := by omega
      rw [if_neg (by omega), if_pos (by omega), if_pos (by omega), bt_nat s hlt]
      have hh : (s.data.toList.drop at_).head? = some s.data.toList[at_] := by rw [List.drop_eq_getElem_cons hlt]; rfl
      have loop := num_loop s hs (at_ : Int) (s.data.toList.length - at_) at_ k 0 rfl (by omega) (by omega) ⟨by
        rw [Nat.zero_add, Nat.one_mul, ← pow18]; exact Nat.pow_le_pow_right (by decide) (by omega)⟩
      have fin : spec_l01Number.l0 k s (at_ : Int) 0 (at_ : Int) = some (if (s.data.toList.drop at_).all isDig = false then (0, false) else (if s.data.toList.head? = some 45 then -((decVal 0 (s.data.toList.drop at_) : Nat) : Int) else (decVal 0 (s.data.toList.drop at_) : Nat), true)) := by
        refine loop.trans ?_
        congr 1
        by_cases hq : (s.data.toList.drop at_).all isDig = true
        · rw [if_pos hq, if_neg (show ¬ (s.data.toList.drop at_).all isDig = false by rw [hq]; decide)]
          by_cases h : at_ = 1
          · rw [if_pos (show (at_ : Int) = 1 by omega), if_pos (hat ▸ h)]
          · rw [if_neg (show ¬ (at_ : Int) = 1 by omega), if_neg (hat ▸ h)]
        · rw [if_neg hq, if_pos (Bool.eq_false_iff.mpr hq)]
      by_cases c3 : ((s.data.toList[at_].toNat : Nat) : Int) = 48
      · have h48 : s.data.toList[at_] = 48 := UInt8.toNat_inj.mp (by rw [show (48 : UInt8).toNat = 48 from rfl]; omega)
        rw [if_pos c3]
        by_cases c4 : 1 < s.data.toList.length
        · rw [decide_eq_true (show ((s.data.toList.length : Nat) : Int) > 1 by omega), j2t, if_pos (.inr (.inr (.inl ⟨by rw [hh, h48], c4⟩)))]
        · rw [decide_eq_false (show ¬ ((s.data.toList.length : Nat) : Int) > 1 by omega)]
          simp only [spec_l01Number.j2]
          rw [if_neg (by decide), fin]
          congr 1
          by_cases hq : (s.data.toList.drop at_).all isDig = false
          · rw [if_pos hq, if_pos (.inr (.inr (.inr hq)))]
          · have hn : ¬ (s.data.toList.length - at_ = 0 ∨ 18 < s.data.toList.length - at_ ∨ ((s.data.toList.drop at_).head? = some 48 ∧ 1 < s.data.toList.length) ∨ (s.data.toList.drop at_).all isDig = false) := by
              rintro (h | h | h | h)
              · omega
              · omega
              · omega
              · exact hq h
            rw [if_neg hq, if_neg hn]
      · rw [if_neg c3]
        simp only [spec_l01Number.j2]
        rw [if_neg (by decide), fin]
        congr 1
        by_cases hq : (s.data.toList.drop at_).all isDig = false
        · rw [if_pos hq, if_pos (.inr (.inr (.inr hq)))]
        · have hn : ¬ (s.data.toList.length - at_ = 0 ∨ 18 < s.data.toList.length - at_ ∨ ((s.data.toList.drop at_).head? = some 48 ∧ 1 < s.data.toList.length) ∨ (s.data.toList.drop at_).all isDig = false) := by
            rintro (h | h | h | h)
            · omega
            · omega
            · have h1 := h.1
              rw [hh] at h1
              have h2 := Option.some.inj h1
              exact c3 (by rw [h2]; rfl)
            · exact hq h
          rw [if_neg hq, if_neg hn]
theorem number_tells (s : ByteArray) (hs : s.size ≤ 1048576) {k : Nat} (hk : s.size + 8 ≤ k) : spec_l01Number.f k s = some (numOf s.data.toList) := by
  rw [size_len] at hs hk
  unfold spec_l01Number.f
  have j0 : ∀ b : Bool, (b = true) = (s.data.toList.head? = some 45) → spec_l01Number.j0 k s 0 b = some (numOf s.data.toList) := fun b hb => by
    obtain ⟨k, rfl⟩ : ∃ q, k = q + 1 := ⟨k - 1, by omega⟩
    simp only [spec_l01Number.j0]
    by_cases h : b = true
    · rw [if_pos h]
      exact number_j1 s hs 1 (by omega) (by rw [← hb]; simp [h]) (by omega)
    · rw [if_neg h]
      exact number_j1 s hs 0 (by omega) (by rw [← hb]; simp [h]) (by omega)
  by_cases h0 : 0 < s.data.toList.length
  · rw [if_pos (show (s.size : Int) > 0 by rw [size_len]; omega), if_pos (show (0 : Int) < (s.size : Int) by rw [size_len]; omega)]
    refine j0 _ ?_
    have e := bt_nat s h0
    rw [show ((0 : Nat) : Int) = 0 from rfl] at e
    rw [e]
    have hh : s.data.toList.head? = some s.data.toList[0] := by
      rw [List.head?_eq_getElem?, List.getElem?_eq_getElem h0]
    rw [hh]
    apply propext
    rw [beq_iff_eq, Option.some.injEq]
    exact ⟨fun h => UInt8.toNat_inj.mp (by rw [show (45 : UInt8).toNat = 45 from rfl]; omega), fun h => by rw [h]; rfl⟩
  · rw [if_neg (show ¬ (s.size : Int) > 0 by rw [size_len]; omega)]
    refine j0 _ ?_
    have : s.data.toList = [] := List.eq_nil_of_length_eq_zero (by omega)
    rw [this]; simp
theorem readDec_eq (s : ByteArray) : readDec s = numOf s.data.toList := readOf_eq s.data.toList
theorem readDecimal_tells (s : ByteArray) (hs : s.size ≤ 281474976710656) : impl_ReadDecimal.f s = some (numOf s.data.toList) := by
  unfold impl_ReadDecimal.f
  rw [if_pos hs, readDec_eq]
end Go.Proofs.YtepdfefgkhodlaaDoor.F
