-- Texts of this claim, merged by pack.py (a program of this session's).
import Derived.Lib.ItoaNum
import Derived.Lib.ParseIntB
import Derived.Lib.Strings
import Derived.Test.YtkndhjchlnepmaaDoorQFnBasics5
import Derived.Test.YtkndhjchlnepmaaDoorQFnBasics7
import Derived.KernelRfl
import Derived.Test.YtkndhjchlnepmaaDoorQFnBasics4

section
set_option linter.unusedVariables false
set_option linter.unusedSimpArgs false
set_option linter.unusedSectionVars false
namespace Go.Proofs.YtkndhjchlnepmaaDoor.Lin

open Go.Lib
/-! ### Decimal numerals -/
def isDig (b : UInt8) : Bool := decide (48 ≤ b.toNat) && decide (b.toNat ≤ 57)
theorem isDig_iff {b : UInt8} : isDig b = true ↔ 48 ≤ b.toNat ∧ b.toNat ≤ 57 := by unfold isDig; simp
/-- What digits spell, behind acc. -/
def decVal (acc : Nat) : List UInt8 → Nat
  | [] => acc
  | c :: r => decVal (acc * 10 + (c.toNat - 48)) r
theorem decVal_snoc (acc : Nat) (l : List UInt8) (c : UInt8) : decVal acc (l ++ [c]) = decVal acc l * 10 + (c.toNat - 48) := by
  induction l generalizing acc with
  | nil => rfl
  | cons x l ih => exact ih _
theorem decVal_ge (acc : Nat) (l : List UInt8) : acc ≤ decVal acc l := by
  induction l generalizing acc with
  | nil => exact Nat.le_refl _
  | cons x l ih => exact Nat.le_trans (by omega) (ih _)
theorem decVal_lt (acc : Nat) (l : List UInt8) (h : l.all isDig = true) : decVal acc l < (acc + 1) * 10 ^ l.length := by
  induction l generalizing acc with
  | nil => rw [List.length_nil, Nat.pow_zero, Nat.mul_one]; exact Nat.lt_succ_self acc
  | cons x l ih =>
    rw [List.all_cons, Bool.and_eq_true] at h
    have hd := isDig_iff.mp h.1
    have h1 := ih (acc * 10 + (x.toNat - 48)) h.2
    show decVal (acc * 10 + (x.toNat - 48)) l < _
    refine Nat.lt_of_lt_of_le h1 ?_
    rw [List.length_cons, Nat.pow_succ, Nat.mul_comm (10 ^ l.length) 10, ← Nat.mul_assoc]
    exact Nat.mul_le_mul_right _ (by omega)
theorem ofNat_dig {d : Nat} (h : d < 10) : (UInt8.ofNat (48 + d)).toNat = 48 + d := by
  rw [UInt8.toNat_ofNat_of_lt']
  show 48 + d < 256
  omega
theorem dig_ofNat {b : UInt8} (h : isDig b = true) : UInt8.ofNat (48 + (b.toNat - 48)) = b := by
  have := isDig_iff.mp h
  apply UInt8.toNat_inj.mp
  rw [ofNat_dig (by omega)]; omega
/-- A numeral: digits, no 0 ahead of others. -/
def Canon (l : List UInt8) : Prop := l ≠ [] ∧ l.all isDig = true ∧ (l.length = 1 ∨ l.head? ≠ some 48)
theorem canon_dec (u : Nat) : Canon (decDigits u) ∧ decVal 0 (decDigits u) = u ∧ (1 ≤ u → (decDigits u).head? ≠ some 48) := by
  induction u using Nat.strongRecOn with
  | _ u ih =>
    rw [decDigits]
    by_cases h : u < 10
    · rw [dif_pos h]
      have e := ofNat_dig h
      refine ⟨⟨by simp, by simp [isDig, e]; omega, .inl rfl⟩, ?_, fun h1 hh => ?_⟩
      · show 0 * 10 + ((UInt8.ofNat (48 + u)).toNat - 48) = u
        rw [e]; omega
      · have h2 : UInt8.ofNat (48 + u) = 48 := by simpa using hh
        have h3 := congrArg UInt8.toNat h2
        rw [e] at h3
        have : (48 : UInt8).toNat = 48 := rfl
        omega
    · rw [dif_neg h]
      obtain ⟨⟨c1, c2, c3⟩, v, hd⟩ := ih (u / 10) (by omega)
      have e := ofNat_dig (d := u % 10) (by omega)
      have hne : (decDigits (u / 10) ++ [UInt8.ofNat (48 + u % 10)]).head? = (decDigits (u / 10)).head? := by
        cases hq : decDigits (u / 10) with
        | nil => exact absurd hq c1
        | cons x r => rfl
      refine ⟨⟨by simp, ?_, .inr (by rw [hne]; exact hd (by omega))⟩, ?_, fun _ => by rw [hne]; exact hd (by omega)⟩
      · rw [List.all_append, c2]
        simp [isDig, e]; omega
      · rw [decVal_snoc, v, e]; omega
theorem dec_canon (n : Nat) : ∀ l : List UInt8, l.length = n → Canon l → decDigits (decVal 0 l) = l := by
  induction n with
  | zero => exact fun l hl hc => absurd (List.eq_nil_of_length_eq_zero hl) hc.1
  | succ n ih =>
    intro l hl ⟨h1, h2, h3⟩
    obtain ⟨r, c, rfl⟩ : ∃ r c, l = r ++ [c] := ⟨l.dropLast, l.getLast h1, (List.dropLast_concat_getLast h1).symm⟩
    rw [List.all_append, Bool.and_eq_true] at h2
    have hc : isDig c = true := by simpa using h2.2
    have hcd := isDig_iff.mp hc
    rw [decVal_snoc]
    cases r with
    | nil =>
      show decDigits (0 * 10 + (c.toNat - 48)) = [c]
      rw [decDigits, dif_pos (by omega), Nat.zero_mul, Nat.zero_add, dig_ofNat hc]
    | cons x r =>
      have hx : isDig x = true := by
        have := h2.1
        rw [List.all_cons, Bool.and_eq_true] at this
        exact this.1
      have hxd := isDig_iff.mp hx
      have hx48 : x ≠ 48 := by
        rcases h3 with h3 | h3
        · simp at h3
        · intro e; exact h3 (by rw [e]; rfl)
      have hx1 : x.toNat ≠ 48 := fun e => hx48 (UInt8.toNat_inj.mp (by rw [e]; rfl))
      have hge : 1 ≤ decVal 0 (x :: r) := by
        have := decVal_ge (0 * 10 + (x.toNat - 48)) r
        show 1 ≤ decVal (0 * 10 + (x.toNat - 48)) r
        omega
      have hrec := ih (x :: r) (by simp at hl; simp; omega) ⟨by simp, h2.1, .inr (by simp; exact hx48)⟩
      generalize decVal 0 (x :: r) = v at hge hrec
      rw [decDigits, dif_neg (by omega), show (v * 10 + (c.toNat - 48)) / 10 = v by omega, show (v * 10 + (c.toNat - 48)) % 10 = c.toNat - 48 by omega, dig_ofNat hc, hrec]
/-- Digits that spell little are parsed. -/
theorem parse_digits (M : Nat) (hM : 1000000000000000000 ≤ M) (l : List UInt8) (acc : Nat) (h : l.all isDig = true) (hv : decVal acc l < 1000000000000000000) : parseUintM M acc l = .ok (decVal acc l) := by
  induction l generalizing acc with
  | nil => rfl
  | cons c r ih =>
    rw [List.all_cons, Bool.and_eq_true] at h
    have hd := isDig_iff.mp h.1
    have h1 : decVal acc (c :: r) = decVal (acc * 10 + (c.toNat - 48)) r := rfl
    have h2 := decVal_ge (acc * 10 + (c.toNat - 48)) r
    rw [h1] at hv ⊢
    unfold parseUintM
    rw [if_pos hd, if_neg (by omega), if_neg (by omega)]
    exact ih _ h.2 hv
/-- What the sign leaves. -/
def digitsOf (s : List UInt8) : List UInt8 := if s.head? = some 45 then s.drop 1 else s
/-- The number with a decimal text of at most 18 digits. -/
def numOf (s : List UInt8) : Int × Bool :=
  if (digitsOf s).length = 0 ∨ 18 < (digitsOf s).length ∨ ((digitsOf s).head? = some 48 ∧ 1 < s.length) ∨ (digitsOf s).all isDig = false then (0, false)
  else (if s.head? = some 45 then -((decVal 0 (digitsOf s) : Nat) : Int) else (decVal 0 (digitsOf s) : Nat), true)
theorem trim_digits (s : List UInt8) : trimPrefix s [45] = digitsOf s := by
  unfold trimPrefix digitsOf hasPrefix
  cases s with
  | nil => rfl
  | cons c r =>
    by_cases h : c = 45
    · subst h; simp
    · have : ¬ ((45 : UInt8) == c) = true := fun e => h (by simpa using (beq_iff_eq.mp e).symm)
      simp [h, Ne.symm h]
/-- As the library's words tell it. -/
def readOf (s : List UInt8) : Int × Bool :=
  if (trimPrefix s [45]).length < 1 ∨ 18 < (trimPrefix s [45]).length then (0, false) else
  match parseIntB 64 s with
  | .ok v => if itoa v = s then (v, true) else (0, false)
  | _ => (0, false)
theorem itoa_num {s : List UInt8} {v : Int} (h : itoa v = s) : (digitsOf s).all isDig = true ∧ ¬ ((digitsOf s).head? = some 48 ∧ 1 < s.length) := by
  unfold itoa at h
  by_cases hv : v < 0
  · rw [if_pos hv] at h
    subst h
    have e : digitsOf (45 :: decDigits v.natAbs) = decDigits v.natAbs := by unfold digitsOf; simp
    obtain ⟨⟨_, c2, _⟩, _, hd⟩ := canon_dec v.natAbs
    rw [e]
    exact ⟨c2, fun hh => hd (by omega) hh.1⟩
  · rw [if_neg hv] at h
    subst h
    obtain ⟨⟨c1, c2, c3⟩, _, hd⟩ := canon_dec v.toNat
    have e : digitsOf (decDigits v.toNat) = decDigits v.toNat := by
      unfold digitsOf
      rw [if_neg]
      intro hh
      cases hq : decDigits v.toNat with
      | nil => exact c1 hq
      | cons x r =>
        rw [hq] at hh c2
        have : x = 45 := by simpa using hh
        subst this
        simp [isDig] at c2
    rw [e]
    exact ⟨c2, fun hh => by
      rcases c3 with c3 | c3
      · omega
      · exact c3 hh.1⟩
theorem pow18 : (10 : Nat) ^ 18 = 1000000000000000000 := by decide
theorem val18 {l : List UInt8} (h : l.all isDig = true) (hl : l.length ≤ 18) : decVal 0 l < 1000000000000000000 := by
  have h1 := decVal_lt 0 l h
  have h2 : (10 : Nat) ^ l.length ≤ 10 ^ 18 := Nat.pow_le_pow_right (by decide) hl
  rw [pow18] at h2
  omega
theorem readOf_eq (s : List UInt8) : readOf s = numOf s := by
  unfold readOf numOf
  rw [trim_digits]
  by_cases h0 : (digitsOf s).length < 1 ∨ 18 < (digitsOf s).length
  · rw [if_pos h0, if_pos (by omega)]
  · rw [if_neg h0]
    have hl1 : 1 ≤ (digitsOf s).length := by omega
    have hl2 : (digitsOf s).length ≤ 18 := by omega
    by_cases hg : (digitsOf s).all isDig = true ∧ ¬ ((digitsOf s).head? = some 48 ∧ 1 < s.length)
    · rw [if_neg (by rintro (h | h | h | h); · omega
                     · omega
                     · exact hg.2 h
                     · rw [hg.1] at h; cases h)]
      have hv := val18 hg.1 hl2
      cases hs : s with
      | nil => rw [hs] at hl1; simp [digitsOf] at hl1
      | cons c r =>
        by_cases h45 : c = 45
        · subst h45
          have e : digitsOf (45 :: r) = r := by unfold digitsOf; simp
          rw [hs, e] at hg hv hl1 hl2
          have hr : r ≠ [] := by intro e2; rw [e2] at hl1; simp at hl1
          have hp : parseUintB 64 r = .ok (decVal 0 r) := by
            unfold parseUintB
            rw [if_neg hr]
            exact parse_digits _ (by decide) r 0 hg.1 hv
          have h48 : r.head? ≠ some 48 := fun hh => hg.2 ⟨hh, by simp; omega⟩
          have hcan : decDigits (decVal 0 r) = r := dec_canon _ r rfl ⟨hr, hg.1, .inr h48⟩
          have hpos : 1 ≤ decVal 0 r := by
            cases hq : r with
            | nil => exact absurd hq hr
            | cons x q =>
              rw [hq] at h48 hg
              have h5 : isDig x = true := by
                have := hg.1
                rw [List.all_cons, Bool.and_eq_true] at this
                exact this.1
              have h6 := isDig_iff.mp h5
              have h7 : x.toNat ≠ 48 := fun e => h48 (by rw [show x = 48 from UInt8.toNat_inj.mp (by rw [e]; rfl)]; rfl)
              have := decVal_ge (0 * 10 + (x.toNat - 48)) q
              show 1 ≤ decVal (0 * 10 + (x.toNat - 48)) q
              omega
          have hP : parseIntB 64 (45 :: r) = .ok (-(decVal 0 r : Int)) := by
            unfold parseIntB
            have e45 : (45 : UInt8).toNat = 45 := rfl
            simp only [e45]
            rw [if_pos (by decide), hp]
            simp only
            have e63 : (2 : Nat) ^ (64 - 1) = 9223372036854775808 := by decide
            rw [e63, if_neg (by simp), if_neg (by omega), if_pos trivial]
          rw [hP, e]
          simp only [List.head?_cons, if_true]
          rw [if_pos]
          unfold itoa
          rw [if_pos (by omega), show (-(decVal 0 r : Int)).natAbs = decVal 0 r by omega, hcan]
        · have e : digitsOf (c :: r) = c :: r := by unfold digitsOf; simp [h45]
          rw [hs, e] at hg hv hl1 hl2
          have hcd : isDig c = true := by
            have := hg.1
            rw [List.all_cons, Bool.and_eq_true] at this
            exact this.1
          have h6 := isDig_iff.mp hcd
          have hp : parseUintB 64 (c :: r) = .ok (decVal 0 (c :: r)) := by
            unfold parseUintB
            rw [if_neg (by simp)]
            exact parse_digits _ (by decide) _ 0 hg.1 hv
          have hcan : decDigits (decVal 0 (c :: r)) = c :: r := dec_canon _ _ rfl ⟨by simp, hg.1, by
            by_cases h1 : (c :: r).length = 1
            · exact .inl h1
            · exact .inr (fun hh => hg.2 ⟨hh, by have : (c :: r).length = r.length + 1 := rfl; omega⟩)⟩
          have hP : parseIntB 64 (c :: r) = .ok (decVal 0 (c :: r) : Int) := by
            unfold parseIntB
            simp only
            have e63 : (2 : Nat) ^ (64 - 1) = 9223372036854775808 := by decide
            have n43 : ¬ (c.toNat = 43 ∨ c.toNat = 45) := by omega
            have n45 : ¬ c.toNat = 45 := by omega
            rw [if_neg n43, hp]
            simp only [e63]
            rw [if_neg (by omega), if_neg (by omega), if_neg n45]
          rw [hP, e]
          have hne : ¬ (c :: r).head? = some 45 := by simp [h45]
          simp only [if_neg hne]
          rw [if_pos]
          unfold itoa
          rw [if_neg (by omega), Int.toNat_natCast, hcan]
    · have hr : (match parseIntB 64 s with | .ok v => if itoa v = s then (v, true) else ((0 : Int), false) | _ => (0, false)) = (0, false) := by
        split
        · split
          · rename_i hh
            exact absurd (itoa_num hh) hg
          · rfl
        · rfl
      rw [hr, if_pos]
      by_cases h1 : (digitsOf s).all isDig = true
      · exact .inr (.inr (.inl (Classical.byContradiction fun h2 => hg ⟨h1, h2⟩)))
      · exact .inr (.inr (.inr (Bool.eq_false_iff.mpr h1)))
/-- What is read is what would be written. -/
theorem numOf_true {s : List UInt8} {v : Int} (h : numOf s = (v, true)) : itoa v = s ∧ -1000000000000000000 < v ∧ v < 1000000000000000000 := by
  have hr := readOf_eq s
  rw [h] at hr
  refine ⟨?_, ?_⟩
  · unfold readOf at hr
    split at hr
    · cases hr
    · split at hr
      · split at hr
        · rename_i hh
          cases hr; exact hh
        · cases hr
      · cases hr
  · unfold numOf at h
    split at h
    · cases h
    · rename_i hc
      have h1 : (digitsOf s).all isDig = true := by
        cases hq : (digitsOf s).all isDig with
        | true => rfl
        | false => exact absurd (.inr (.inr (.inr hq))) hc
      have h2 := val18 h1 (by omega)
      have h3 := (Prod.mk.inj h).1
      split at h3 <;> omega
theorem numOf_false {s : List UInt8} {v : Int} (h : numOf s = (v, false)) : v = 0 := by
  unfold numOf at h
  split at h
  · exact (Prod.mk.inj h).1.symm
  · cases (Prod.mk.inj h).2
/-- What is written is read. -/
theorem numOf_itoa {v : Int} (h0 : -1000000000000000000 < v) (h1 : v < 1000000000000000000) : numOf (itoa v) = (v, true) := by
  have hd := itoa_num (v := v) rfl
  have nd : ∀ k u, u < 10 ^ (k + 1) → (decDigits u).length ≤ k + 1 := fun k => by
    induction k with
    | zero => intro u hu; rw [decDigits, dif_pos (by simpa using hu)]; simp
    | succ k ih =>
      intro u hu
      rw [decDigits]
      split
      · simp
      · rw [List.length_append]
        have := ih (u / 10) (by rw [Nat.pow_succ] at hu; omega)
        simp; omega
  unfold numOf
  by_cases hv : v < 0
  · have e : itoa v = 45 :: decDigits v.natAbs := by unfold itoa; rw [if_pos hv]
    have e2 : digitsOf (45 :: decDigits v.natAbs) = decDigits v.natAbs := by unfold digitsOf; simp
    rw [e] at hd ⊢
    obtain ⟨⟨c1, c2, c3⟩, cv, _⟩ := canon_dec v.natAbs
    rw [e2] at hd ⊢
    have hl := nd 17 v.natAbs (by rw [pow18]; omega)
    have hl1 : (decDigits v.natAbs).length ≠ 0 := fun h => c1 (List.eq_nil_of_length_eq_zero h)
    rw [if_neg (by rintro (h | h | h | h); · exact hl1 h
                   · omega
                   · exact hd.2 h
                   · rw [c2] at h; cases h)]
    simp only [List.head?_cons, if_true, cv]
    rw [show -((v.natAbs : Nat) : Int) = v by omega]
  · have e : itoa v = decDigits v.toNat := by unfold itoa; rw [if_neg hv]
    rw [e] at hd ⊢
    obtain ⟨⟨c1, c2, c3⟩, cv, _⟩ := canon_dec v.toNat
    have hne : ¬ (decDigits v.toNat).head? = some 45 := by
      intro hh
      cases hq : decDigits v.toNat with
      | nil => exact c1 hq
      | cons x r =>
        rw [hq] at hh c2
        have : x = 45 := by simpa using hh
        subst this
        simp [isDig] at c2
    have e2 : digitsOf (decDigits v.toNat) = decDigits v.toNat := by unfold digitsOf; rw [if_neg hne]
    rw [e2] at hd ⊢
    have hl := nd 17 v.toNat (by rw [pow18]; omega)
    have hl1 : (decDigits v.toNat).length ≠ 0 := fun h => c1 (List.eq_nil_of_length_eq_zero h)
    rw [if_neg (by rintro (h | h | h | h); · exact hl1 h
                   · omega
                   · exact hd.2 h
                   · rw [c2] at h; cases h), if_neg hne, cv]
    rw [show ((v.toNat : Nat) : Int) = v by omega]
end Go.Proofs.YtkndhjchlnepmaaDoor.Lin
end

section
set_option linter.unusedVariables false
set_option linter.unusedSimpArgs false
set_option linter.unusedSectionVars false
namespace Go.Proofs.YtkndhjchlnepmaaDoor.F
open Go.RowKit Go.Proofs.YtkndhjchlnepmaaDoorW.PrintWords Go.Proofs.YtkndhjchlnepmaaDoorW.PrintLast Go.Proofs.YtkndhjchlnepmaaDoor.Lin

open Go.Lib
theorem bt_nat (s : ByteArray) {i : Nat} (h : i < s.data.toList.length) : bt s (i : Int) = ((s.data.toList[i].toNat : Nat) : Int) := by
  have hs : i < s.size := by rw [size_len]; exact h
  unfold bt
  simp only [Int.toNat_natCast]
  rw [dif_pos hs]
  rfl
theorem readDec_eq (s : ByteArray) : readDec s = numOf s.data.toList := readOf_eq s.data.toList
theorem readDecimal_tells (s : ByteArray) (hs : s.size ≤ 281474976710656) : impl_ReadDecimal.f s = some (numOf s.data.toList) := by
  unfold impl_ReadDecimal.f
  rw [if_pos hs, readDec_eq]

open Go.Lib
/-- The first part gets bytes ahead. -/
def glue (p : List UInt8) : List (List UInt8) → List (List UInt8)
  | [] => [p]
  | x :: xs => (p ++ x) :: xs
theorem glue_nil {l : List (List UInt8)} (h : l ≠ []) : glue [] l = l := by
  cases l with
  | nil => exact absurd rfl h
  | cons x xs => rfl
theorem extract_B (s : ByteArray) (a b : Nat) : s.extract a b = B ((s.data.toList.take b).drop a) := by
  apply Go.WideShapes.bytes_inj
  rw [B_list, ByteArray.data_extract, Array.toList_extract]
  simp only [List.extract_eq_take_drop]
  rw [List.drop_take]
theorem split_tells (s : ByteArray) (hs : s.size ≤ 1048576) (c : UInt8) : strings_Split.f s ⟨#[c]⟩ = some ((splitL c s.data.toList).map B) := by
  unfold strings_Split.f
  rw [if_pos ⟨by omega, Nat.le_refl 1⟩, splitB_eq]

open Go.Lib
/-- Digits as numbers, the last ahead. -/
def revDig (u : Nat) : List Int := (decDigits u).reverse.map (fun b => (b.toNat : Int))
theorem revDig_small {u : Nat} (h : u < 10) : revDig u = [(48 : Int) + u] := by
  unfold revDig
  rw [decDigits, dif_pos h]
  simp only [List.reverse_cons, List.reverse_nil, List.nil_append, List.map_cons, List.map_nil]
  rw [ofNat_dig h]; simp
theorem revDig_big {u : Nat} (h : ¬ u < 10) : revDig u = ((48 : Int) + (u % 10 : Nat)) :: revDig (u / 10) := by
  unfold revDig
  rw [decDigits, dif_neg h]
  simp only [List.reverse_append, List.reverse_cons, List.reverse_nil, List.nil_append, List.singleton_append, List.map_cons]
  rw [ofNat_dig (by omega)]; simp
theorem str_dig (l : List UInt8) : strOfNums (l.map (fun b => (b.toNat : Int))) = ⟨l.toArray⟩ := by
  unfold strOfNums
  congr 2
  rw [List.map_map]
  conv => rhs; rw [← List.map_id l]
  refine List.map_congr_left (fun b _ => ?_)
  simp
theorem revDig_length (u : Nat) (h : u < 10 ^ 20) : (revDig u).length ≤ 20 := by
  have nd : ∀ k u, u < 10 ^ (k + 1) → (decDigits u).length ≤ k + 1 := fun k => by
    induction k with
    | zero => intro u hu; rw [decDigits, dif_pos (by simpa using hu)]; simp
    | succ k ih =>
      intro u hu
      rw [decDigits]
      split
      · simp
      · rw [List.length_append]
        have := ih (u / 10) (by rw [Nat.pow_succ] at hu; omega)
        simp; omega
  unfold revDig
  rw [List.length_map, List.length_reverse]
  exact nd 19 u h
theorem decimal_tells {n : Int} (h0 : -9223372036854775808 ≤ n) (h1 : n ≤ 9223372036854775807) : impl_Decimal.f n = some ⟨(itoa n).toArray⟩ := by
  unfold impl_Decimal.f
  rw [if_pos ⟨h0, h1⟩]
theorem wf_bounds {x : Int} (h : (Lit.int .i64 x).wf = true) : -9223372036854775808 ≤ x ∧ x ≤ 9223372036854775807 := by
  have e1 : IntKind.i64.min = -9223372036854775808 := rfl
  have e2 : IntKind.i64.max = 9223372036854775807 := rfl
  simp [Lit.wf, e1, e2] at h
  omega

open Go.Lib
/-- The text of a list that has one. -/
def listTxt (l : List Int) : List UInt8 := if l.length = 0 then [45] else join (l.map itoa) [44]
/-- Has a list a text? -/
def fits (l : List Int) : Bool := decide (l.length ≤ 64) && l.all (fun x => decide (-1000000000000 ≤ x ∧ x ≤ 1000000000000))
def listText (l : List Int) : List UInt8 := if fits l = true then listTxt l else []
theorem fits_at {l : List Int} (h : fits l = true) : l.length ≤ 64 ∧ ∀ x ∈ l, -1000000000000 ≤ x ∧ x ≤ 1000000000000 := by
  unfold fits at h
  rw [Bool.and_eq_true, decide_eq_true_eq, List.all_eq_true] at h
  exact ⟨h.1, fun x hx => of_decide_eq_true (h.2 x hx)⟩
theorem itoa_short {x : Int} (h0 : -9223372036854775808 ≤ x) (h1 : x ≤ 9223372036854775807) : (itoa x).length ≤ 21 := by
  have h := revDig_length x.natAbs (Nat.lt_of_lt_of_le (show x.natAbs < 10000000000000000000 by omega) (by decide))
  unfold revDig at h
  rw [List.length_map, List.length_reverse] at h
  unfold itoa
  split
  · rw [List.length_cons]; omega
  · rename_i hx
    rw [show x.toNat = x.natAbs by omega]; omega
theorem join_short : ∀ (xs : List (List UInt8)) (n : Nat), (∀ x ∈ xs, x.length ≤ n) → (join xs [44]).length ≤ xs.length * (n + 1)
  | [], _, _ => by rw [join_nil]; simp
  | [x], n, h => by rw [join_one]; have := h x (by simp); simp; omega
  | x :: y :: r, n, h => by
    rw [join_cons2, List.length_append, List.length_append]
    have h1 := h x (by simp)
    have h2 := join_short (y :: r) n (fun z hz => h z (List.mem_cons_of_mem _ hz))
    rw [List.length_cons (a := x), Nat.add_mul, Nat.one_mul]
    have : ([44] : List UInt8).length = 1 := rfl
    omega
theorem take_map_succ {l : List Int} {i : Nat} (h : i < l.length) : (l.take (i + 1)).map itoa = (l.take i).map itoa ++ [itoa l[i]] := by
  rw [List.take_add_one, List.getElem?_eq_getElem h, List.map_append]; rfl
theorem any_fits (l : List Int) : (l.any noValue) = !(l.all (fun x => decide (-1000000000000 ≤ x ∧ x ≤ 1000000000000))) := by
  induction l with
  | nil => rfl
  | cons x l ih =>
    rw [List.any_cons, List.all_cons, ih]
    unfold noValue
    by_cases h1 : -1000000000000 ≤ x
    · by_cases h2 : x ≤ 1000000000000
      · simp [h1, h2]
      · simp [h1, h2]
    · simp [h1]
theorem implText_loop (l : List Int) (hl : l.length ≤ 64) (hw : ∀ x ∈ l, -9223372036854775808 ≤ x ∧ x ≤ 9223372036854775807) : ∀ (d i k : Nat), l.length - i = d → i ≤ l.length → d + 1 ≤ k →
    impl_ListText.l0 k (((l.take i).map itoa).map B) l l.length i = some (B (join (l.map itoa) [44])) := by
  intro d
  induction d with
  | zero =>
    intro i k hd hi hk
    obtain ⟨k, rfl⟩ : ∃ q, k = q + 1 := ⟨k - 1, by omega⟩
    simp only [impl_ListText.l0]
    have hid : ((l.map itoa).map B).map (fun x : ByteArray => x.data.toList) = l.map itoa := by
      rw [List.map_map]
      exact (List.map_congr_left (fun x _ => rfl)).trans (List.map_id _)
    have hlen : (join (l.map itoa) [44]).length ≤ 1408 := by
      refine Nat.le_trans (join_short _ 21 (fun x hx => ?_)) ?_
      · obtain ⟨y, hy, rfl⟩ := List.mem_map.mp hx
        have := hw y hy
        exact itoa_short this.1 this.2
      · rw [List.length_map]; omega
    rw [if_neg (by omega), List.take_of_length_le (by omega)]
    unfold strings_Join.f
    have e44 : (⟨#[44]⟩ : ByteArray).data.toList = [44] := rfl
    rw [hid, e44, if_pos ⟨by simp; omega, by omega⟩]
    rfl
  | succ d ih =>
    intro i k hd hi hk
    obtain ⟨k, rfl⟩ : ∃ q, k = q + 1 := ⟨k - 1, by omega⟩
    have hlt : i < l.length := by omega
    have hb := hw l[i] (List.getElem_mem hlt)
    simp only [impl_ListText.l0]
    rw [if_pos (by omega), if_pos (by omega), if_pos (by omega), rd_nat, getD_at hlt, decimal_tells hb.1 hb.2, Option.bind_some, if_pos (by simp; omega), w64_succ (n := l.length) hlt (by omega)]
    have := ih (i + 1) k (by omega) (by omega) (by omega)
    rw [take_map_succ hlt, List.map_append] at this
    exact this
theorem implListText_tells (l : List Int) (hl : l.length ≤ 35184372088832) (hw : ∀ x ∈ l, -9223372036854775808 ≤ x ∧ x ≤ 9223372036854775807) {k : Nat} (hk : 100 ≤ k) : impl_ListText.f k l = some (B (listText l)) := by
  obtain ⟨k, rfl⟩ : ∃ q, k = q + 1 := ⟨k - 1, by omega⟩
  unfold impl_ListText.f listText
  have jt : impl_ListText.j0 (k + 1) l true = some (B []) := by simp only [impl_ListText.j0]; rw [if_pos trivial]; rfl
  by_cases h64 : l.length ≤ 64
  · rw [if_neg (by omega)]
    unfold impl_ListText_1.any.f
    rw [Option.bind_some, any_fits]
    by_cases h : fits l = true
    · have h2 := h
      unfold fits at h2
      rw [decide_eq_true h64, Bool.true_and] at h2
      rw [h2, if_pos h]
      simp only [impl_ListText.j0, Bool.not_true]
      rw [if_neg (by decide)]
      unfold listTxt
      by_cases h0 : l.length = 0
      · rw [if_pos (by omega), if_pos h0]; rfl
      · rw [if_neg (by omega), if_neg h0]
        exact implText_loop l h64 hw l.length 0 k (by omega) (by omega) (by omega)
    · have h2 := Bool.eq_false_iff.mpr h
      unfold fits at h2
      rw [decide_eq_true h64, Bool.true_and] at h2
      rw [h2, if_neg h]
      exact jt
  · rw [if_pos (by omega), jt, if_neg]
    intro h
    exact h64 (fits_at h).1
end Go.Proofs.YtkndhjchlnepmaaDoor.F
end
