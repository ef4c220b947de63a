-- Texts of this claim, merged by packw.py (a program of this session's).
import Derived.Test.YtkndhjchlnepmaaGreatDoorQFnExactReadMatrix4
import Derived.Test.YtkndhjchlnepmaaGreatDoorQFnExactReadMatrix10
import Derived.Test.YtkndhjchlnepmaaGreatDoorQFnExactReadMatrix11
import Derived.KernelRfl
import Derived.Test.YtkndhjchlnepmaaGreatDoorQFnExactReadMatrix6
import Derived.Test.YtkndhjchlnepmaaGreatDoorQFnExactReadMatrix5
import Derived.Test.YtkndhjchlnepmaaGreatDoorQFnExactReadMatrix7
import Derived.Test.YtkndhjchlnepmaaGreatDoorQFnExactReadMatrix8
import Derived.Test.YtkndhjchlnepmaaGreatDoorQFnExactReadMatrix3
import Derived.Test.YtkndhjchlnepmaaGreatDoorQFnExactReadMatrix2
import Derived.Test.YtkndhjchlnepmaaGreatDoorQFnExactReadMatrix9

section
set_option linter.unusedVariables false
set_option linter.unusedSimpArgs false
set_option linter.unusedSectionVars false
namespace Go.Proofs.YtkndhjchlnepmaaGreatDoor.F
open Go.RowKit Go.Proofs.YtkndhjchlnepmaaGreatDoorW.PrintWords Go.Proofs.YtkndhjchlnepmaaGreatDoorW.PrintLast Go.Proofs.YtkndhjchlnepmaaGreatDoor.Lin
theorem specPrime_tells (p : Int) {k : Nat} (hk : 20 ≤ k) : spec_ValidPrime.f k p = some (isP p) := by
  unfold spec_ValidPrime.f
  rw [prime_tells p hk]; rfl
theorem eqMatrix_tells {p r c : Int} {l : List Int} (hl : l.length ≤ 35184372088832) {k : Nat} (hk : l.length < k) : laws_eqMatrix.f k p r c l p r c l = some true := by
  unfold laws_eqMatrix.f
  rw [eq_tells hl hk]
  simp
theorem markMatrix_tells {p r c : Int} {l : List Int} (hl : l.length ≤ 35184372088832) {k : Nat} (hk : l.length < k) : laws_markMatrix.f k p r c l 1 = some (1 + (l.length : Int), iota 1 l.length) := by
  unfold laws_markMatrix.f
  rw [mark_tells (by omega) (by omega) hl hk]; rfl
theorem heldMatrix_tells {p r c : Int} {n : Nat} (hl : n ≤ 35184372088832) {k : Nat} (hk : n < k) : laws_heldMatrix.f k p r c (iota 1 n) 1 = some (1 + (n : Int)) := by
  unfold laws_heldMatrix.f
  rw [held_tells (by omega) (by omega) hl hk]
  simp only [Option.bind_some]
  rw [if_neg (by omega)]
def allM (l : List Int) (p : Int) : Bool := l.all fun x => decide (0 ≤ x) && decide (x < p)
theorem allM_iff {l : List Int} {p : Int} : allM l p = true ↔ ∀ x, x ∈ l → 0 ≤ x ∧ x < p := by unfold allM; simp
theorem areM_tells {l : List Int} {p : Int} (hp : isP p = true) : impl_areElements.f l p = some (allM l p) := by
  have := isP_ge hp
  unfold impl_areElements.f allM
  rw [w64_id (x := p - 1) (by omega) (by omega)]
  congr 1
  induction l with
  | nil => rfl
  | cons x l ih =>
    simp only [List.any_cons, List.all_cons, Bool.not_or, Bool.not_not]
    rw [ih]
    congr 2
    rw [decide_eq_decide]; omega
theorem allM_drop {l : List Int} {p : Int} {i : Nat} (h : i < l.length) : allM (l.drop i) p = (decide (0 ≤ l.getD i 0 ∧ l.getD i 0 ≤ p - 1) && allM (l.drop (i + 1)) p) := by
  rw [List.drop_eq_getElem_cons h]
  unfold allM
  simp only [List.all_cons]
  congr 1
  rw [getD_at h, ← Bool.decide_and, decide_eq_decide]; omega
theorem getD_inM {l : List Int} {p : Int} (hp : 2 ≤ p) (h : ∀ x, x ∈ l → 0 ≤ x ∧ x < p) (j : Nat) : 0 ≤ l.getD j 0 ∧ l.getD j 0 < p := by
  by_cases hj : j < l.length
  · rw [getD_at hj]; exact h _ (List.getElem_mem hj)
  · rw [List.getD_eq_getElem?_getD, List.getElem?_eq_none (by omega)]; simp; omega
theorem column_loop {l : List Int} {n p : Int} (hp : 2 ≤ p) (hp' : p ≤ 251) (hl : l.length ≤ 35184372088832) (d : Nat) : ∀ (k i : Nat), l.length - i = d → i ≤ l.length → d < k →
    spec_l03Column.l0 k l n p i = some (allM (l.drop i) p && decide ((l.length : Int) = n)) := by
  induction d with
  | zero =>
    intro k i hd hi hk
    obtain ⟨k, rfl⟩ : ∃ m, k = m + 1 := ⟨k - 1, by omega⟩
    simp only [spec_l03Column.l0]
    rw [if_neg (by omega), show l.drop i = [] from List.drop_eq_nil_of_le (by omega)]
    simp only [allM, List.all_nil, Bool.true_and]
    congr 1
  | succ d ih =>
    intro k i hd hi hk
    obtain ⟨k, rfl⟩ : ∃ m, k = m + 1 := ⟨k - 1, by omega⟩
    simp only [spec_l03Column.l0]
    rw [if_pos (by omega), if_pos (by omega), rd_nat, w64_id (x := p - 1) (by omega) (by omega), in_tells, w64_succ (n := l.length) (by omega) hl, allM_drop (i := i) (by omega)]
    simp only [Option.bind_some]
    cases h : decide (0 ≤ l.getD i 0 ∧ l.getD i 0 ≤ p - 1) with
    | false => simp
    | true => rw [if_pos rfl, ih k (i + 1) (by omega) (by omega) (by omega)]; simp
theorem column_tells {l : List Int} {n p : Int} (hp : 2 ≤ p) (hp' : p ≤ 251) (hl : l.length ≤ 35184372088832) {k : Nat} (hk : l.length < k) : spec_l03Column.f k l n p = some (allM l p && decide ((l.length : Int) = n)) := by
  unfold spec_l03Column.f
  exact column_loop hp hp' hl l.length k 0 (by omega) (by omega) hk
def matOk (p r c : Int) (l : List Int) : Bool := isP p && (decide (0 ≤ r ∧ r ≤ 32) && (decide (0 ≤ c ∧ c ≤ 32) && (decide ((l.length : Int) = r * c) && allM l p)))
theorem matOk_iff {p r c : Int} {l : List Int} : matOk p r c l = true ↔ isP p = true ∧ (0 ≤ r ∧ r ≤ 32) ∧ (0 ≤ c ∧ c ≤ 32) ∧ (l.length : Int) = r * c ∧ ∀ x, x ∈ l → 0 ≤ x ∧ x < p := by
  unfold matOk; simp only [Bool.and_eq_true, decide_eq_true_eq, allM_iff]
theorem side_mulI {r c : Int} (hr : 0 ≤ r ∧ r ≤ 32) (hc : 0 ≤ c ∧ c ≤ 32) : wrap64 (r * c) = r * c ∧ 0 ≤ r * c ∧ r * c ≤ 1024 := by
  have h1 := Int.mul_nonneg hr.1 hc.1
  have h2 : r * c ≤ 32 * 32 := Int.mul_le_mul hr.2 hc.2 hc.1 (by omega)
  exact ⟨w64_id (by omega) (by omega), h1, by omega⟩
theorem specOk_tells (p r c : Int) {l : List Int} (hl : l.length ≤ 35184372088832) {k : Nat} (hk : l.length + 20 < k) : spec_l03Ok.f k p r c l = some (matOk p r c l) := by
  unfold spec_l03Ok.f matOk
  rw [specPrime_tells p (by omega)]
  cases hp : isP p with
  | false => simp
  | true =>
    have hp2 := isP_ge hp
    rw [in_tells, in_tells]
    by_cases h1 : 0 ≤ r ∧ r ≤ 32
    · by_cases h2 : 0 ≤ c ∧ c ≤ 32
      · rw [(side_mulI h1 h2).1, column_tells hp2.1 hp2.2 hl (by omega)]
        simp only [h1, h2, and_self, decide_true, Option.bind_some, if_true, Bool.true_and]
        rw [Bool.and_comm]
      · simp only [h1, h2, and_self, decide_true, decide_false, Option.bind_some, if_true, Bool.true_and, Bool.false_and]; rfl
    · simp only [h1, decide_false, Option.bind_some, if_true, Bool.true_and, Bool.false_and]; rfl
theorem implOk_tells (p r c : Int) {l : List Int} {k : Nat} (hk : 20 ≤ k) : impl_ValidMatrix.f k p r c l = some (matOk p r c l) := by
  unfold impl_ValidMatrix.f matOk
  rw [ask_prime, prime_tells p hk]
  cases hp : isP p with
  | false => simp
  | true =>
    have hp2 := isP_ge hp
    rw [side_tells, side_tells, areM_tells hp]
    by_cases h1 : 0 ≤ r ∧ r ≤ 32
    · by_cases h2 : 0 ≤ c ∧ c ≤ 32
      · rw [(side_mulI h1 h2).1]
        unfold impl_size_int64.f
        simp only [h1, h2, and_self, decide_true, Option.bind_some, if_true, Bool.true_and]
        by_cases h3 : (l.length : Int) = r * c
        · simp [h3]
        · simp [h3]
      · simp only [h1, h2, and_self, decide_true, decide_false, Option.bind_some, if_true, Bool.true_and, Bool.false_and]; rfl
    · simp only [h1, decide_false, Option.bind_some, if_true, Bool.true_and, Bool.false_and]; rfl
theorem dimsM {p r c : Int} {l : List Int} (h : matOk p r c l = true) : ∃ R C : Nat, r = R ∧ c = C ∧ R ≤ 32 ∧ C ≤ 32 ∧ l.length = R * C ∧ (2 ≤ p ∧ p ≤ 251) ∧ ∀ j, 0 ≤ l.getD j 0 ∧ l.getD j 0 < p := by
  obtain ⟨hp, hr, hc, hl, hx⟩ := matOk_iff.mp h
  obtain ⟨R, rfl⟩ := Int.eq_ofNat_of_zero_le hr.1
  obtain ⟨C, rfl⟩ := Int.eq_ofNat_of_zero_le hc.1
  exact ⟨R, C, rfl, rfl, by omega, by omega, by exact_mod_cast hl, isP_ge hp, fun j => getD_inM (isP_ge hp).1 hx j⟩
end Go.Proofs.YtkndhjchlnepmaaGreatDoor.F
end

section
set_option linter.unusedVariables false
set_option linter.unusedSimpArgs false
set_option linter.unusedSectionVars false
namespace Go.Proofs.YtkndhjchlnepmaaGreatDoor.F
open Go.RowKit Go.Proofs.YtkndhjchlnepmaaGreatDoorW.PrintWords Go.Proofs.YtkndhjchlnepmaaGreatDoorW.PrintLast Go.Proofs.YtkndhjchlnepmaaGreatDoor.Lin
open Go.Lib
def rowTxt (r : List Int) : List UInt8 := 47 :: listTxt r
def rowsTxt (rs : List (List Int)) : List UInt8 := (rs.map rowTxt).flatten
def headTxt (p r c : Int) : List UInt8 := itoa p ++ [32] ++ itoa r ++ [120] ++ itoa c
def mtxTxt (p : Int) (R C : Nat) (l : List Int) : List UInt8 := headTxt p R C ++ rowsTxt (rowsM R C l)
theorem rowsTxt_cons (r : List Int) (rs : List (List Int)) : rowsTxt (r :: rs) = rowTxt r ++ rowsTxt rs := by unfold rowsTxt; simp
theorem rowsTxt_drop {rs : List (List Int)} {i : Nat} (h : i < rs.length) : rowsTxt (rs.drop i) = rowTxt rs[i] ++ rowsTxt (rs.drop (i + 1)) := by rw [List.drop_eq_getElem_cons h, rowsTxt_cons]
theorem listTxt_short {l : List Int} (h : fits l = true) : (listTxt l).length ≤ 1408 := by
  obtain ⟨f1, f2⟩ := fits_at h
  unfold listTxt
  by_cases h0 : l.length = 0
  · rw [if_pos h0]; simp
  · rw [if_neg h0]
    have := join_short (l.map itoa) 21 (fun t ht => by
      obtain ⟨v, hv, rfl⟩ := List.mem_map.mp ht
      have := f2 v hv
      exact itoa_short (by omega) (by omega))
    rw [List.length_map] at this
    have h2 : l.length * (21 + 1) ≤ 64 * 22 := Nat.mul_le_mul f1 (Nat.le_refl _)
    omega
theorem rowsTxt_short {rs : List (List Int)} (h : ∀ r ∈ rs, fits r = true) : (rowsTxt rs).length ≤ rs.length * 1409 := by
  induction rs with
  | nil => simp [rowsTxt]
  | cons r rs ih =>
    have h1 := listTxt_short (h r List.mem_cons_self)
    have h2 := ih (fun x hx => h x (List.mem_cons_of_mem _ hx))
    rw [rowsTxt_cons, List.length_append, List.length_cons, Nat.add_mul, Nat.one_mul]
    unfold rowTxt
    rw [List.length_cons]
    omega
theorem fits_row {p : Int} (hp : 2 ≤ p ∧ p ≤ 251) {R C : Nat} (hC : C ≤ 64) {l : List Int} (hv : ∀ j, 0 ≤ l.getD j 0 ∧ l.getD j 0 < p) : ∀ r ∈ rowsM R C l, fits r = true := fun r hr => by
  obtain ⟨a, b⟩ := rowsM_ok (R := R) (C := C) hv r hr
  unfold fits
  rw [Bool.and_eq_true]
  exact ⟨decide_eq_true (by omega), List.all_eq_true.mpr (fun x hx => decide_eq_true (by have := b x hx; omega))⟩
theorem row_text {r : List Int} (h : fits r = true) : listText r = listTxt r := by unfold listText; rw [if_pos h]
theorem slashed_loop {rs : List (List Int)} (hl : rs.length ≤ 64) (hf : ∀ r ∈ rs, fits r = true) (d : Nat) : ∀ (k i : Nat) (acc : List UInt8), rs.length - i = d → i ≤ rs.length → d + 200 ≤ k → acc.length + d * 1409 ≤ 1000000 →
    impl_slashed.l0 k acc rs i = some (B (acc ++ rowsTxt (rs.drop i))) := by
  induction d with
  | zero =>
    intro k i acc hd hi hk ha
    obtain ⟨k, rfl⟩ : ∃ m, k = m + 1 := ⟨k - 1, by omega⟩
    simp only [impl_slashed.l0]
    rw [if_neg (by omega), List.drop_eq_nil_of_le (by omega)]
    simp [rowsTxt, B]
  | succ d ih =>
    intro k i acc hd hi hk ha
    obtain ⟨k, rfl⟩ : ∃ m, k = m + 1 := ⟨k - 1, by omega⟩
    rw [Nat.succ_mul] at ha
    have hlt : i < rs.length := by omega
    have g1 : (i : Int) < (rs.length : Int) := by omega
    have g2 : (0 : Int) ≤ (i : Int) := by omega
    have hr := hf _ (List.getElem_mem hlt)
    have hfr := fits_at hr
    have hs := listTxt_short hr
    have g3 : acc.length + ((B (listTxt rs[i])).size + 1) ≤ 140737488355328 := by rw [B_size]; omega
    have e1 : impl_ListText.f k rs[i] = some (B (listTxt rs[i])) := by
      rw [implListText_tells _ (by omega) (fun x hx => by have := hfr.2 x hx; omega) (by omega), row_text hr]
    have g4 : rs.length ≤ 35184372088832 := by omega
    have e2 := ih k (i + 1) (acc ++ 47 :: listTxt rs[i]) (by omega) (by omega) (by omega) (by rw [List.length_append, List.length_cons]; omega)
    simp only [impl_slashed.l0]
    rw [if_pos g1, if_pos g2, rdL_nat, getD_at hlt, e1, Option.bind_some, if_pos g3, B_list, w64_succ hlt g4, e2, rowsTxt_drop hlt]
    simp [rowTxt]
theorem slashed_tells {rs : List (List Int)} (hl : rs.length ≤ 64) (hf : ∀ r ∈ rs, fits r = true) {k : Nat} (hk : 300 ≤ k) : impl_slashed.f k rs = some (B (rowsTxt rs)) := by
  have h2 : rs.length * 1409 ≤ 64 * 1409 := Nat.mul_le_mul hl (Nat.le_refl _)
  have := slashed_loop hl hf rs.length k 0 [] (by omega) (by omega) (by omega) (by simp; omega)
  rw [List.drop_zero, List.nil_append] at this
  unfold impl_slashed.f
  exact this
def textOut (p r c : Int) (l : List Int) : ByteArray := if matOk p r c l = true then B (mtxTxt p r.toNat c.toNat l) else B []
theorem head_length (p r c : Int) (hp : -9223372036854775808 ≤ p ∧ p ≤ 9223372036854775807) (hr : -9223372036854775808 ≤ r ∧ r ≤ 9223372036854775807) (hc : -9223372036854775808 ≤ c ∧ c ≤ 9223372036854775807) : (headTxt p r c).length ≤ 65 := by
  unfold headTxt
  simp only [List.length_append, List.length_cons, List.length_nil]
  have a := itoa_short hp.1 hp.2
  have b := itoa_short hr.1 hr.2
  have d := itoa_short hc.1 hc.2
  omega
theorem impl_textM (p r c : Int) {l : List Int} {k : Nat} (hk : 17000 ≤ k) : impl_MatrixText.f k p r c l = some (textOut p r c l) := by
  unfold impl_MatrixText.f textOut
  rw [implOk_tells p r c (by omega)]
  cases h : matOk p r c l with
  | false => rfl
  | true =>
    obtain ⟨R, C, rfl, rfl, h1, h2, h3, h4, h5⟩ := dimsM h
    have d1 : impl_Decimal.f p = some (B (itoa p)) := decimal_tells (by omega) (by omega)
    have d2 : impl_Decimal.f (R : Int) = some (B (itoa R)) := decimal_tells (by omega) (by omega)
    have d3 : impl_Decimal.f (C : Int) = some (B (itoa C)) := decimal_tells (by omega) (by omega)
    have s1 := itoa_short (x := p) (by omega) (by omega)
    have s2 := itoa_short (x := (R : Int)) (by omega) (by omega)
    have s3 := itoa_short (x := (C : Int)) (by omega) (by omega)
    have e32 : (⟨#[32]⟩ : ByteArray) = B [32] := rfl
    have e120 : (⟨#[120]⟩ : ByteArray) = B [120] := rfl
    have er := rowsOf_tells (p := p) (R := R) (C := C) (by omega) (by omega) h3 (k := k) (by omega)
    have hfr := fits_row h4 (R := R) (C := C) (by omega) h5
    have es := slashed_tells (rs := rowsM R C l) (by rw [rowsM_length]; omega) hfr (k := k) (by omega)
    have ls := rowsTxt_short hfr
    rw [rowsM_length] at ls
    have ls2 : R * 1409 ≤ 32 * 1409 := Nat.mul_le_mul h1 (Nat.le_refl _)
    have l32 : ([32] : List UInt8).length = 1 := rfl
    have l120 : ([120] : List UInt8).length = 1 := rfl
    simp only [Option.bind_some, if_true, Int.toNat_natCast, e32, e120]
    rw [d1, Option.bind_some, if_pos (by rw [B_size]; omega), d2, Option.bind_some, B_append, if_pos (by rw [B_size, B_size, List.length_append]; omega), B_append, if_pos (by rw [B_size, List.length_append, List.length_append]; omega), d3, Option.bind_some, B_append, if_pos (by rw [B_size, B_size, List.length_append, List.length_append, List.length_append]; omega), er, Option.bind_some, es, Option.bind_some, B_append, if_pos (by rw [B_size, B_size, List.length_append, List.length_append, List.length_append, List.length_append]; omega), B_append]
    rfl
theorem bt_nat (s : ByteArray) {i : Nat} (h : i < s.data.toList.length) : bt s (i : Int) = ((s.data.toList[i].toNat : Nat) : Int) := by
  have hs : i < s.size := by rw [size_len]; exact h
  unfold bt
  simp only [Int.toNat_natCast]
  rw [dif_pos hs]
  rfl
theorem digit_tellsN (b : Int) : spec_l01Digit.f b = some (decide (48 ≤ b) && decide (b ≤ 57)) := by
  unfold spec_l01Digit.f
  by_cases h : b ≥ 48
  · rw [if_pos h, decide_eq_true (show 48 ≤ b from h), Bool.true_and]
  · rw [if_neg h, decide_eq_false (show ¬ 48 ≤ b from h), Bool.false_and]
theorem num_loop (s : ByteArray) (hs : s.data.toList.length ≤ 1048576) (at_ : Int) : ∀ (d i k acc : Nat), s.data.toList.length - i = d → i ≤ s.data.toList.length → d < k → Aside0 ((acc + 1) * 10 ^ d ≤ 1000000000000000000) →
    spec_l01Number.l0 k s at_ acc i = some (if (s.data.toList.drop i).all isDig = true then (if at_ = 1 then -((decVal acc (s.data.toList.drop i) : Nat) : Int) else (decVal acc (s.data.toList.drop i) : Nat), true) else (0, false)) := by
  intro d
  induction d with
  | zero =>
    intro i k acc hd hi hk ha
    have ha := ha.out
    rw [Nat.pow_zero, Nat.mul_one] at ha
    obtain ⟨k, rfl⟩ : ∃ q, k = q + 1 := ⟨k - 1, by omega⟩
    simp only [spec_l01Number.l0]
    rw [if_neg (by rw [size_len]; omega), List.drop_eq_nil_of_le (by omega)]
    show _ = some (if true = true then _ else _)
    rw [if_pos rfl]
    show _ = some (if at_ = 1 then -(acc : Int) else (acc : Int), true)
    by_cases h1 : at_ = 1
    · rw [if_pos h1, if_pos h1, w64_idV (x := -(acc : Int)) (by omega) (by omega)]
    · rw [if_neg h1, if_neg h1]
  | succ d ih =>
    intro i k acc hd hi hk ha
    obtain ⟨k, rfl⟩ : ∃ q, k = q + 1 := ⟨k - 1, by omega⟩
    have hlt : i < s.data.toList.length := by omega
    have h10 : (acc + 1) * 10 ≤ 1000000000000000000 := by
      have hpow : 1 ≤ 10 ^ d := Nat.one_le_pow _ _ (by decide)
      have ha := ha.out
      rw [Nat.pow_succ, Nat.mul_comm (10 ^ d) 10, ← Nat.mul_assoc] at ha
      exact Nat.le_trans (Nat.le_mul_of_pos_right _ hpow) ha
    simp only [spec_l01Number.l0]
    rw [if_pos (by rw [size_len]; omega), if_pos (by omega), bt_nat s hlt, digit_tellsN, Option.bind_some, List.drop_eq_getElem_cons hlt, List.all_cons]
    generalize s.data.toList[i] = b
    by_cases hb : isDig b = true
    · have hbd := isDig_iff.mp hb
      rw [hb, Bool.true_and, decide_eq_true (show (48 : Int) ≤ (b.toNat : Int) by omega), decide_eq_true (show (b.toNat : Int) ≤ 57 by omega), Bool.true_and, if_pos rfl]
      have hle : acc * 10 + (b.toNat - 48) + 1 ≤ (acc + 1) * 10 := by omega
      have := ih (i + 1) k (acc * 10 + (b.toNat - 48)) (by omega) (by omega) (by omega) ⟨by
        refine Nat.le_trans ?_ ha.out
        rw [Nat.pow_succ, Nat.mul_comm (10 ^ d) 10, ← Nat.mul_assoc]
        exact Nat.mul_le_mul_right _ hle⟩
      have b1 : -9223372036854775808 ≤ 10 * (acc : Int) ∧ 10 * (acc : Int) ≤ 9223372036854775807 := by omega
      have b2 : -9223372036854775808 ≤ 10 * (acc : Int) + ((b.toNat - 48 : Nat) : Int) ∧ 10 * (acc : Int) + ((b.toNat - 48 : Nat) : Int) ≤ 9223372036854775807 := by omega
      have b3 : 10 * (acc : Int) + ((b.toNat - 48 : Nat) : Int) = ((acc * 10 + (b.toNat - 48) : Nat) : Int) := by omega
      have e2 : ((b.toNat : Int) - 48) % 256 = ((b.toNat - 48 : Nat) : Int) := by omega
      rw [w64_succ (n := s.data.toList.length) hlt (by omega), w64_idV b1.1 b1.2, e2, w64_idV b2.1 b2.2, b3]
      rw [this]
      rfl
    · have hbf : isDig b = false := Bool.eq_false_iff.mpr hb
      have hq : (decide ((48 : Int) ≤ (b.toNat : Int)) && decide ((b.toNat : Int) ≤ 57)) = false := by
        rw [← hbf]; unfold isDig
        congr 1
        · exact decide_eq_decide.mpr (by omega)
        · exact decide_eq_decide.mpr (by omega)
      rw [hq, hbf, Bool.false_and, if_neg (by decide), if_neg (by decide)]
theorem number_j1 (s : ByteArray) (hs : s.data.toList.length ≤ 1048576) (at_ : Nat) (h1 : at_ ≤ 1) (hat : (at_ = 1) = (s.data.toList.head? = some 45)) {k : Nat} (hk : s.data.toList.length + 5 ≤ k) :
    spec_l01Number.j1 k s at_ = some (numOf s.data.toList) := by
  obtain ⟨k, rfl⟩ : ∃ q, k = q + 2 := ⟨k - 2, by omega⟩
  have hdig : digitsOf s.data.toList = s.data.toList.drop at_ := by
    unfold digitsOf
    by_cases h : at_ = 1
    · rw [if_pos (hat ▸ h), h]
    · rw [if_neg (hat ▸ h), show at_ = 0 by omega, List.drop_zero]
  have hle : at_ ≤ s.data.toList.length := by
    by_cases h : at_ = 1
    · have := hat ▸ h
      cases hq : s.data.toList with
      | nil => rw [hq] at this; cases this
      | cons x r => simp; omega
    · omega
  unfold numOf
  rw [hdig]
  have hdl : (s.data.toList.drop at_).length = s.data.toList.length - at_ := List.length_drop
  rw [hdl]
  have j2t : ∀ a, spec_l01Number.j2 (k + 1) s a true = some (0, false) := fun a => by simp only [spec_l01Number.j2, if_true]
  simp only [spec_l01Number.j1]
  rw [size_len]
  by_cases c1 : s.data.toList.length - at_ = 0
  · rw [if_pos (show ((s.data.toList.length : Nat) : Int) = (at_ : Int) by omega), j2t, if_pos (.inl c1)]
  · rw [if_neg (show ¬ ((s.data.toList.length : Nat) : Int) = (at_ : Int) by omega), w64_idV (by omega) (by omega)]
    by_cases c2 : 18 < s.data.toList.length - at_
    · rw [if_pos (by omega), j2t, if_pos (.inr (.inl c2))]
    · have hlt : at_ < s.data.toList.length := by omega
      rw [if_neg (by omega), if_pos (by omega), if_pos (by omega), bt_nat s hlt]
      have hh : (s.data.toList.drop at_).head? = some s.data.toList[at_] := by rw [List.drop_eq_getElem_cons hlt]; rfl
      have loop := num_loop s hs (at_ : Int) (s.data.toList.length - at_) at_ k 0 rfl (by omega) (by omega) ⟨by
        rw [Nat.zero_add, Nat.one_mul, ← pow18]; exact Nat.pow_le_pow_right (by decide) (by omega)⟩
      have fin : spec_l01Number.l0 k s (at_ : Int) 0 (at_ : Int) = some (if (s.data.toList.drop at_).all isDig = false then (0, false) else (if s.data.toList.head? = some 45 then -((decVal 0 (s.data.toList.drop at_) : Nat) : Int) else (decVal 0 (s.data.toList.drop at_) : Nat), true)) := by
        refine loop.trans ?_
        congr 1
        by_cases hq : (s.data.toList.drop at_).all isDig = true
        · rw [if_pos hq, if_neg (show ¬ (s.data.toList.drop at_).all isDig = false by rw [hq]; decide)]
          by_cases h : at_ = 1
          · rw [if_pos (show (at_ : Int) = 1 by omega), if_pos (hat ▸ h)]
          · rw [if_neg (show ¬ (at_ : Int) = 1 by omega), if_neg (hat ▸ h)]
        · rw [if_neg hq, if_pos (Bool.eq_false_iff.mpr hq)]
      by_cases c3 : ((s.data.toList[at_].toNat : Nat) : Int) = 48
      · have h48 : s.data.toList[at_] = 48 := UInt8.toNat_inj.mp (by rw [show (48 : UInt8).toNat = 48 from rfl]; omega)
        rw [if_pos c3]
        by_cases c4 : 1 < s.data.toList.length
        · rw [decide_eq_true (show ((s.data.toList.length : Nat) : Int) > 1 by omega), j2t, if_pos (.inr (.inr (.inl ⟨by rw [hh, h48], c4⟩)))]
        · rw [decide_eq_false (show ¬ ((s.data.toList.length : Nat) : Int) > 1 by omega)]
          simp only [spec_l01Number.j2]
          rw [if_neg (by decide), fin]
          congr 1
          by_cases hq : (s.data.toList.drop at_).all isDig = false
          · rw [if_pos hq, if_pos (.inr (.inr (.inr hq)))]
          · have hn : ¬ (s.data.toList.length - at_ = 0 ∨ 18 < s.data.toList.length - at_ ∨ ((s.data.toList.drop at_).head? = some 48 ∧ 1 < s.data.toList.length) ∨ (s.data.toList.drop at_).all isDig = false) := by
              rintro (h | h | h | h)
              · omega
              · omega
              · omega
              · exact hq h
            rw [if_neg hq, if_neg hn]
      · rw [if_neg c3]
        simp only [spec_l01Number.j2]
        rw [if_neg (by decide), fin]
        congr 1
        by_cases hq : (s.data.toList.drop at_).all isDig = false
        · rw [if_pos hq, if_pos (.inr (.inr (.inr hq)))]
        · have hn : ¬ (s.data.toList.length - at_ = 0 ∨ 18 < s.data.toList.length - at_ ∨ ((s.data.toList.drop at_).head? = some 48 ∧ 1 < s.data.toList.length) ∨ (s.data.toList.drop at_).all isDig = false) := by
            rintro (h | h | h | h)
            · omega
            · omega
            · have h1 := h.1
              rw [hh] at h1
              have h2 := Option.some.inj h1
              exact c3 (by rw [h2]; rfl)
            · exact hq h
          rw [if_neg hq, if_neg hn]
theorem number_tells (s : ByteArray) (hs : s.size ≤ 1048576) {k : Nat} (hk : s.size + 8 ≤ k) : spec_l01Number.f k s = some (numOf s.data.toList) := by
  rw [size_len] at hs hk
  unfold spec_l01Number.f
  have j0 : ∀ b : Bool, (b = true) = (s.data.toList.head? = some 45) → spec_l01Number.j0 k s 0 b = some (numOf s.data.toList) := fun b hb => by
    obtain ⟨k, rfl⟩ : ∃ q, k = q + 1 := ⟨k - 1, by omega⟩
    simp only [spec_l01Number.j0]
    by_cases h : b = true
    · rw [if_pos h]
      exact number_j1 s hs 1 (by omega) (by rw [← hb]; simp [h]) (by omega)
    · rw [if_neg h]
      exact number_j1 s hs 0 (by omega) (by rw [← hb]; simp [h]) (by omega)
  by_cases h0 : 0 < s.data.toList.length
  · rw [if_pos (show (s.size : Int) > 0 by rw [size_len]; omega), if_pos (show (0 : Int) < (s.size : Int) by rw [size_len]; omega)]
    refine j0 _ ?_
    have e := bt_nat s h0
    rw [show ((0 : Nat) : Int) = 0 from rfl] at e
    rw [e]
    have hh : s.data.toList.head? = some s.data.toList[0] := by
      rw [List.head?_eq_getElem?, List.getElem?_eq_getElem h0]
    rw [hh]
    apply propext
    rw [beq_iff_eq, Option.some.injEq]
    exact ⟨fun h => UInt8.toNat_inj.mp (by rw [show (45 : UInt8).toNat = 45 from rfl]; omega), fun h => by rw [h]; rfl⟩
  · rw [if_neg (show ¬ (s.size : Int) > 0 by rw [size_len]; omega)]
    refine j0 _ ?_
    have : s.data.toList = [] := List.eq_nil_of_length_eq_zero (by omega)
    rw [this]; simp
theorem readDec_eq (s : ByteArray) : readDec s = numOf s.data.toList := readOf_eq s.data.toList
theorem readDecimal_tells (s : ByteArray) (hs : s.size ≤ 281474976710656) : impl_ReadDecimal.f s = some (numOf s.data.toList) := by
  unfold impl_ReadDecimal.f
  rw [if_pos hs, readDec_eq]
def glue (p : List UInt8) : List (List UInt8) → List (List UInt8)
  | [] => [p]
  | x :: xs => (p ++ x) :: xs
theorem glue_nil {l : List (List UInt8)} (h : l ≠ []) : glue [] l = l := by
  cases l with
  | nil => exact absurd rfl h
  | cons x xs => rfl
theorem extract_B (s : ByteArray) (a b : Nat) : s.extract a b = B ((s.data.toList.take b).drop a) := by
  apply Go.WideShapes.bytes_inj
  rw [B_list, ByteArray.data_extract, Array.toList_extract]
  simp only [List.extract_eq_take_drop]
  rw [List.drop_take]
theorem l01Split_loop (s : ByteArray) (hs : s.data.toList.length ≤ 1048576) (c : UInt8) : ∀ (d i k from_ : Nat) (acc : List ByteArray), s.data.toList.length - i = d → i ≤ s.data.toList.length → from_ ≤ i → d < k → acc.length ≤ i →
    spec_l01Split.l0 k s (c.toNat : Int) acc from_ i = some (acc ++ (glue ((s.data.toList.take i).drop from_) (splitL c (s.data.toList.drop i))).map B) := by
  intro d
  induction d with
  | zero =>
    intro i k from_ acc hd hi hf hk ha
    obtain ⟨k, rfl⟩ : ∃ q, k = q + 1 := ⟨k - 1, by omega⟩
    have e : i = s.data.toList.length := by omega
    simp only [spec_l01Split.l0]
    rw [if_neg (by rw [size_len]; omega), if_pos (by omega), if_pos (by rw [size_len]; omega), if_pos (by omega), Int.toNat_natCast, extract_B, size_len, e, List.drop_length]
    simp [splitL, glue]
  | succ d ih =>
    intro i k from_ acc hd hi hf hk ha
    obtain ⟨k, rfl⟩ : ∃ q, k = q + 1 := ⟨k - 1, by omega⟩
    have hlt : i < s.data.toList.length := by omega
    simp only [spec_l01Split.l0]
    rw [if_pos (by rw [size_len]; omega), if_pos (by omega), bt_nat s hlt, List.drop_eq_getElem_cons hlt]
    have hsz : (s.size : Int) = (s.data.toList.length : Nat) := by rw [size_len]
    by_cases hc : s.data.toList[i] = c
    · rw [if_pos (by rw [hc]), if_pos (by omega), if_pos (by omega), if_pos (by omega), if_pos (by omega), Int.toNat_natCast, Int.toNat_natCast, extract_B, w64_succ (n := s.data.toList.length) hlt (by omega)]
      rw [ih (i + 1) k (i + 1) _ (by omega) (by omega) (by omega) (by omega) (by simp; omega), hc]
      have e0 : (s.data.toList.take (i + 1)).drop (i + 1) = [] := List.drop_eq_nil_of_le (by rw [List.length_take]; omega)
      have e1 : splitL c (c :: s.data.toList.drop (i + 1)) = [] :: splitL c (s.data.toList.drop (i + 1)) := by
        rw [splitL, if_pos rfl]
      rw [e0, glue_nil (splitL_ne _ _), e1]
      simp [glue]
    · have hn : ¬ ((s.data.toList[i].toNat : Nat) : Int) = (c.toNat : Int) := fun h => hc (UInt8.toNat_inj.mp (by omega))
      rw [if_neg hn, w64_succ (n := s.data.toList.length) hlt (by omega), ih (i + 1) k from_ acc (by omega) (by omega) (by omega) (by omega) (by omega)]
      congr 3
      have e2 : (s.data.toList.take (i + 1)).drop from_ = (s.data.toList.take i).drop from_ ++ [s.data.toList[i]] := by
        rw [List.take_add_one, List.getElem?_eq_getElem hlt, List.drop_append_of_le_length (by rw [List.length_take]; omega)]
        rfl
      rw [e2, splitL, if_neg hc]
      cases hq : splitL c (s.data.toList.drop (i + 1)) with
      | nil => exact absurd hq (splitL_ne _ _)
      | cons x xs => simp [glue]
theorem l01Split_tells (s : ByteArray) (hs : s.size ≤ 1048576) (c : UInt8) {n : Int} (hn : n = (c.toNat : Int)) {k : Nat} (hk : s.size + 1 ≤ k) : spec_l01Split.f k s n = some ((splitL c s.data.toList).map B) := by
  rw [size_len] at hs hk
  subst hn
  unfold spec_l01Split.f
  have := l01Split_loop s hs c s.data.toList.length 0 k 0 [] (by omega) (by omega) (by omega) (by omega) (by simp)
  refine this.trans ?_
  simp only [List.take_zero, List.drop_nil, List.nil_append, List.drop_zero]
  rw [glue_nil (splitL_ne _ _)]
theorem split_tells (s : ByteArray) (hs : s.size ≤ 1048576) (c : UInt8) : strings_Split.f s ⟨#[c]⟩ = some ((splitL c s.data.toList).map B) := by
  unfold strings_Split.f
  rw [if_pos ⟨by omega, Nat.le_refl 1⟩, splitB_eq]
def numsOf (P : List (List UInt8)) : List Int := P.map (fun x => (numOf x).1)
def partOk (x : List UInt8) : Bool := (numOf x).2 && decide (-1000000000000 ≤ (numOf x).1 ∧ (numOf x).1 ≤ 1000000000000)
def readL (s : List UInt8) : List Int × Bool :=
  if s = [45] then ([], true) else
  if (splitL 44 s).length ≤ 64 ∧ (splitL 44 s).all partOk = true then (numsOf (splitL 44 s), true) else ([], false)
theorem numOf_range (x : List UInt8) : -1000000000000000000 < (numOf x).1 ∧ (numOf x).1 < 1000000000000000000 := by
  cases h : numOf x with
  | mk v b =>
    cases b with
    | true => exact (numOf_true h).2
    | false => have := numOf_false h; subst this; exact ⟨by decide, by decide⟩
theorem rdOf_natR (l : List ByteArray) (i : Nat) : rdOf ByteArray.empty l (i : Int) = l.getD i ByteArray.empty := by unfold rdOf; rw [Int.toNat_natCast]
theorem getBR {P : List (List UInt8)} {i : Nat} (h : i < P.length) : (P.map B).getD i ByteArray.empty = B P[i] := by
  rw [getD_at (by simpa using h), List.getElem_map]
theorem nums_take_succ {P : List (List UInt8)} {i : Nat} (h : i < P.length) : numsOf (P.take (i + 1)) = numsOf (P.take i) ++ [(numOf P[i]).1] := by
  unfold numsOf
  rw [List.take_add_one, List.getElem?_eq_getElem h, List.map_append]; rfl
theorem nums_length (P : List (List UInt8)) : (numsOf P).length = P.length := by unfold numsOf; simp
theorem specRead_loop (P : List (List UInt8)) (hP : P.length ≤ 64) (hs : ∀ x ∈ P, x.length ≤ 1048576) : ∀ (d i k : Nat), P.length - i = d → i ≤ P.length → d + 1048600 < k →
    spec_ReadList.l0 k (P.map B) (numsOf (P.take i)) i = some (if (P.drop i).all partOk = true then (numsOf P, true) else ([], false)) := by
  intro d
  induction d with
  | zero =>
    intro i k hd hi hk
    obtain ⟨k, rfl⟩ : ∃ q, k = q + 1 := ⟨k - 1, by omega⟩
    simp only [spec_ReadList.l0, List.length_map]
    rw [if_neg (by omega), List.take_of_length_le (by omega), List.drop_eq_nil_of_le (by omega), List.all_nil, if_pos rfl]
  | succ d ih =>
    intro i k hd hi hk
    obtain ⟨k, rfl⟩ : ∃ q, k = q + 1 := ⟨k - 1, by omega⟩
    have hlt : i < P.length := by omega
    have hx := hs P[i] (List.getElem_mem hlt)
    have ih2 := ih (i + 1) k (by omega) (by omega) (by omega)
    rw [nums_take_succ hlt] at ih2
    have hn := nums_length (P.take i)
    rw [List.length_take] at hn
    simp only [spec_ReadList.l0, List.length_map]
    rw [if_pos (by omega), if_pos (by omega), rdOf_natR, getBR hlt, number_tells (B P[i]) (by rw [B_size]; exact hx) (by rw [B_size]; omega), Option.bind_some, B_list, List.drop_eq_getElem_cons hlt, List.all_cons]
    have hpo : partOk P[i] = ((numOf P[i]).2 && decide (-1000000000000 ≤ (numOf P[i]).1 ∧ (numOf P[i]).1 ≤ 1000000000000)) := rfl
    rw [hpo]
    cases hq : numOf P[i] with
    | mk v b =>
      rw [hq] at ih2
      dsimp only at ih2 ⊢
      cases b with
      | false => rw [if_neg (by decide), Bool.false_and, Bool.false_and, if_neg (by decide)]
      | true =>
        rw [if_pos rfl, in_tellsT, Option.bind_some, Bool.true_and]
        by_cases h : -1000000000000 ≤ v ∧ v ≤ 1000000000000
        · rw [decide_eq_true h, if_pos rfl, if_pos (by omega), w64_succ (n := P.length) hlt (by omega), Bool.true_and]
          exact ih2
        · rw [decide_eq_false h, if_neg (by decide), Bool.false_and, if_neg (by decide)]
theorem implRead_loop (s : ByteArray) (P : List (List UInt8)) (hP : P.length ≤ 1048577) (hs : ∀ x ∈ P, x.length ≤ 1048576) : ∀ (d i k : Nat), P.length - i = d → i ≤ P.length → d + 101 ≤ k →
    impl_ReadList.l0 k s (numsOf (P.take i)) (P.map B) P.length i = some (if (B (listText (numsOf P))).toList = s.toList then (numsOf P, true) else ([], false)) := by
  intro d
  induction d with
  | zero =>
    intro i k hd hi hk
    obtain ⟨k, rfl⟩ : ∃ q, k = q + 1 := ⟨k - 1, by omega⟩
    simp only [impl_ReadList.l0, List.length_map]
    rw [if_neg (by omega), List.take_of_length_le (by omega), implListText_tells (numsOf P) (by rw [nums_length]; omega) (fun x hx => by
      obtain ⟨y, _, rfl⟩ := List.mem_map.mp hx
      have := numOf_range y
      omega) (by omega), Option.bind_some]
    split <;> rfl
  | succ d ih =>
    intro i k hd hi hk
    obtain ⟨k, rfl⟩ : ∃ q, k = q + 1 := ⟨k - 1, by omega⟩
    have hlt : i < P.length := by omega
    have hx := hs P[i] (List.getElem_mem hlt)
    have ih2 := ih (i + 1) k (by omega) (by omega) (by omega)
    rw [nums_take_succ hlt] at ih2
    have hn := nums_length (P.take i)
    rw [List.length_take] at hn
    simp only [impl_ReadList.l0, List.length_map]
    rw [if_pos (by omega), if_pos (by omega), if_pos (by omega), rdOf_natR, getBR hlt, readDecimal_tells (B P[i]) (by rw [B_size]; omega), Option.bind_some, B_list, if_pos (by omega), w64_succ (n := P.length) hlt (by omega)]
    exact ih2
theorem specRead_tells (s : ByteArray) (hs : s.size ≤ 1048576) {k : Nat} (hk : 2097300 ≤ k) : spec_ReadList.f k s = some (readL s.data.toList) := by
  unfold spec_ReadList.f readL
  have e := size_len s
  rw [toList_data s]
  by_cases h45 : s.data.toList = [45]
  · rw [if_pos h45, if_pos h45]
  · rw [if_neg h45, if_neg h45, l01Split_tells (n := 44) s hs 44 rfl (by omega), Option.bind_some, List.length_map]
    by_cases h64 : (splitL 44 s.data.toList).length ≤ 64
    · rw [if_neg (by omega)]
      have := specRead_loop (splitL 44 s.data.toList) h64 (fun x hx => by have := splitL_short 44 s.data.toList x hx; omega) _ 0 k rfl (by omega) (by omega)
      refine this.trans ?_
      rw [List.drop_zero]
      by_cases hp : (splitL 44 s.data.toList).all partOk = true
      · rw [if_pos hp, if_pos ⟨h64, hp⟩]
      · rw [if_neg hp, if_neg (fun h => hp h.2)]
    · rw [if_pos (by omega), if_neg (fun h => h64 h.1)]
theorem itoa_free {x : Int} : (44 : UInt8) ∉ itoa x := by
  intro h
  have hd := (itoa_num (v := x) rfl).1
  unfold digitsOf at hd
  have bad : ∀ l : List UInt8, l.all isDig = true → (44 : UInt8) ∉ l := fun l hl hm => by
    have := List.all_eq_true.mp hl 44 hm
    simp [isDig] at this
  by_cases hh : (itoa x).head? = some 45
  · rw [if_pos hh] at hd
    cases hq : itoa x with
    | nil => rw [hq] at h; simp at h
    | cons a r =>
      rw [hq] at h hh hd
      rcases List.mem_cons.mp h with e | h
      · rw [← e] at hh; simp at hh
      · exact bad r hd h
  · rw [if_neg hh] at hd
    exact bad _ hd h
theorem text_iff (s : List UInt8) (h45 : s ≠ [45]) : listText (numsOf (splitL 44 s)) = s ↔ (splitL 44 s).length ≤ 64 ∧ (splitL 44 s).all partOk = true := by
  have hne := splitL_ne 44 s
  have hjs := join_split 44 s
  have hfree := splitL_free 44 s
  generalize hP : splitL 44 s = P at *
  have hlen := nums_length P
  have hP0 : P.length ≠ 0 := fun h => hne (List.eq_nil_of_length_eq_zero h)
  constructor
  · intro h
    unfold listText at h
    by_cases hf : fits (numsOf P) = true
    · rw [if_pos hf] at h
      obtain ⟨f1, f2⟩ := fits_at hf
      refine ⟨by omega, ?_⟩
      unfold listTxt at h
      rw [if_neg (by omega)] at h
      have hsp : (numsOf P).map itoa = P := by
        have := split_join (c := 44) (xs := (numsOf P).map itoa) (by intro e; have := congrArg List.length e; simp at this; exact hP0 (by rw [← hlen]; exact List.length_eq_zero_iff.mpr this)) (fun x hx => by
          obtain ⟨y, _, rfl⟩ := List.mem_map.mp hx
          exact itoa_free)
        rw [h, hP] at this
        exact this.symm
      rw [List.all_eq_true]
      intro x hx
      obtain ⟨i, hi, rfl⟩ := List.mem_iff_getElem.mp hx
      have hi2 : i < (numsOf P).length := by omega
      have e1 : itoa (numsOf P)[i] = P[i] := by
        have h1 : ((numsOf P).map itoa)[i]? = P[i]? := by rw [hsp]
        rw [List.getElem?_map, List.getElem?_eq_getElem hi2, List.getElem?_eq_getElem hi] at h1
        exact Option.some.inj h1
      have e2 := f2 _ (List.getElem_mem hi2)
      have e3 := numOf_itoa (v := (numsOf P)[i]) (by omega) (by omega)
      rw [e1] at e3
      unfold partOk
      rw [e3]
      simp only [Bool.true_and, decide_eq_true_eq]
      exact e2
    · rw [if_neg hf] at h
      exfalso
      subst h
      have e0 : splitL 44 [] = [[]] := rfl
      rw [e0] at hP
      subst hP
      apply hf
      have : numsOf [[]] = [0] := rfl
      rw [this]; rfl
  · rintro ⟨h1, h2⟩
    have hok : ∀ x ∈ P, itoa (numOf x).1 = x ∧ -1000000000000 ≤ (numOf x).1 ∧ (numOf x).1 ≤ 1000000000000 := fun x hx => by
      have := List.all_eq_true.mp h2 x hx
      unfold partOk at this
      rw [Bool.and_eq_true, decide_eq_true_eq] at this
      exact ⟨(numOf_true (show numOf x = ((numOf x).1, true) by rw [← this.1])).1, this.2⟩
    have hf : fits (numsOf P) = true := by
      unfold fits
      rw [decide_eq_true (show (numsOf P).length ≤ 64 by omega), Bool.true_and, List.all_eq_true]
      intro y hy
      obtain ⟨x, hx, rfl⟩ := List.mem_map.mp hy
      exact decide_eq_true (hok x hx).2
    unfold listText listTxt
    rw [if_pos hf, if_neg (by omega)]
    have : (numsOf P).map itoa = P := by
      unfold numsOf
      rw [List.map_map]
      conv => rhs; rw [← List.map_id P]
      exact List.map_congr_left (fun x hx => (hok x hx).1)
    rw [this, hjs]
theorem implRead_tells (s : ByteArray) (hs : s.size ≤ 1048576) {k : Nat} (hk : 1048700 ≤ k) : impl_ReadList.f k s = some (readL s.data.toList) := by
  unfold impl_ReadList.f readL
  have e := size_len s
  rw [toList_data s]
  by_cases h45 : s.data.toList = [45]
  · rw [if_pos h45, if_pos h45]
  · have hl := splitL_length 44 s.data.toList
    rw [if_neg h45, if_neg h45, split_tells s hs 44, Option.bind_some, List.length_map]
    refine (implRead_loop s (splitL 44 s.data.toList) (by omega) (fun x hx => by have := splitL_short 44 s.data.toList x hx; omega) _ 0 k rfl (by omega) (by omega)).trans ?_
    rw [B_toList, toList_data s]
    have ht := text_iff s.data.toList h45
    by_cases hp : (splitL 44 s.data.toList).length ≤ 64 ∧ (splitL 44 s.data.toList).all partOk = true
    · rw [if_pos (ht.mpr hp), if_pos hp]
    · rw [if_neg (fun h => hp (ht.mp h)), if_neg hp]
theorem readL_short (s : List UInt8) : (readL s).1.length ≤ 64 := by
  unfold readL
  split
  · simp
  · split
    · rename_i h; rw [nums_length]; exact h.1
    · simp
theorem no_comma {v : Int} : (44 : UInt8) ∉ itoa v := fun h => by
  obtain ⟨h1, _⟩ := itoa_num (v := v) rfl
  unfold digitsOf at h1
  by_cases c : (itoa v).head? = some 45
  · rw [if_pos c] at h1
    cases hs : itoa v with
    | nil => rw [hs] at h; cases h
    | cons x r =>
      rw [hs] at h h1 c
      simp only [List.head?_cons, Option.some.injEq] at c
      subst c
      rcases List.mem_cons.mp h with h | h
      · exact absurd h (by decide)
      · have := List.all_eq_true.mp h1 44 (by simpa using h)
        exact absurd this (by decide)
  · rw [if_neg c] at h1
    have := List.all_eq_true.mp h1 44 h
    exact absurd this (by decide)
theorem read_back {l : List Int} (hf : fits l = true) (h0 : l ≠ []) : readL (listText l) = (l, true) := by
  obtain ⟨f1, f2⟩ := fits_at hf
  have hlen : ¬ l.length = 0 := fun h => h0 (List.length_eq_zero_iff.mp h)
  have hm : l.map itoa ≠ [] := fun h => h0 (List.map_eq_nil_iff.mp h)
  have hj : splitL 44 (join (l.map itoa) [44]) = l.map itoa := split_join hm (fun x hx => by
    obtain ⟨v, _, rfl⟩ := List.mem_map.mp hx
    exact no_comma)
  have hn : ∀ x, x ∈ l → numOf (itoa x) = (x, true) := fun x hx => by
    have := f2 x hx
    exact numOf_itoa (by omega) (by omega)
  unfold listText listTxt readL
  rw [if_pos hf, if_neg hlen]
  have hne : join (l.map itoa) [44] ≠ [45] := fun e => by
    rw [e] at hj
    have h45 : splitL 44 [45] = [[45]] := splitL_none (by decide)
    rw [h45] at hj
    cases hl : l with
    | nil => exact h0 hl
    | cons x r =>
      rw [hl] at hj
      have hx := hn x (by rw [hl]; exact List.mem_cons_self)
      have hj2 : [45] = itoa x ∧ r = [] := by simpa using hj
      have := hj2.1
      rw [← this] at hx
      have : numOf [45] = (0, false) := by decide
      rw [this] at hx
      exact absurd (congrArg Prod.snd hx) (by simp)
  rw [if_neg hne, hj]
  have hall : (l.map itoa).all partOk = true := List.all_eq_true.mpr (fun y hy => by
    obtain ⟨x, hx, rfl⟩ := List.mem_map.mp hy
    unfold partOk
    rw [hn x hx]
    have := f2 x hx
    simp [this])
  have hnum : numsOf (l.map itoa) = l := by
    unfold numsOf
    rw [List.map_map]
    exact (List.map_congr_left (fun x hx => by show (numOf (itoa x)).1 = x; rw [hn x hx])).trans (List.map_id' l)
  rw [if_pos ⟨by rw [List.length_map]; exact f1, hall⟩, hnum]
end Go.Proofs.YtkndhjchlnepmaaGreatDoor.F
end

section
set_option linter.unusedVariables false
set_option linter.unusedSimpArgs false
set_option linter.unusedSectionVars false
namespace Go.Proofs.YtkndhjchlnepmaaGreatDoor.F
open Go.RowKit Go.Proofs.YtkndhjchlnepmaaGreatDoorW.PrintWords Go.Proofs.YtkndhjchlnepmaaGreatDoorW.PrintLast Go.Proofs.YtkndhjchlnepmaaGreatDoor.Lin
theorem concat_size {rs : List (List Int)} (hr : rs.length ≤ 100) (hl : rs.flatten.length ≤ 100000) (d : Nat) : ∀ k i, rs.length - i = d → i ≤ rs.length → d < k →
    ∃ k', k = k' + d + 1 ∧ slices_Concat_int64_int64.l0 k rs ((rs.take i).flatten.length : Int) rs rs.length i = slices_Concat_int64_int64.l1 k' [] rs rs.length 0 := by
  have hle : ∀ i, (rs.take i).flatten.length ≤ rs.flatten.length := fun i => by
    have : rs.flatten = (rs.take i).flatten ++ (rs.drop i).flatten := by rw [← List.flatten_append, List.take_append_drop]
    rw [this, List.length_append]; omega
  induction d with
  | zero =>
    intro k i hd hi hk
    obtain ⟨k, rfl⟩ : ∃ m, k = m + 1 := ⟨k - 1, by omega⟩
    refine ⟨k, by omega, ?_⟩
    have h1 := hle i
    simp only [slices_Concat_int64_int64.l0]
    rw [if_neg (nlt_nat (by omega))]
    have g : slices_Grow_int64_int64.f [] ((rs.take i).flatten.length : Int) = some [] := by
      unfold slices_Grow_int64_int64.f
      rw [if_pos (show ([] : List Int).length = 0 from rfl), if_pos (by omega), if_pos (by omega)]
    rw [g, Option.bind_some]
  | succ d ih =>
    intro k i hd hi hk
    obtain ⟨k, rfl⟩ : ∃ m, k = m + 1 := ⟨k - 1, by omega⟩
    obtain ⟨k', e1, e2⟩ := ih k (i + 1) (by omega) (by omega) (by omega)
    refine ⟨k', by omega, ?_⟩
    have hiR : i < rs.length := by omega
    have h1 := hle (i + 1)
    rw [← e2, take_flatten_succ rs hiR, List.length_append]
    rw [take_flatten_succ rs hiR, List.length_append] at h1
    have e3 : ((rs.take i).flatten.length : Int) + ((rs.getD i []).length : Int) = (((rs.take i).flatten.length + (rs.getD i []).length : Nat) : Int) := by omega
    simp only [slices_Concat_int64_int64.l0]
    rw [if_pos (lt_nat hiR), if_pos (idx0 _), if_pos (lt_nat hiR), rdL_nat, e3, w64_idV (x := (((rs.take i).flatten.length + (rs.getD i []).length : Nat) : Int)) (by omega) (by omega), if_neg (by omega), w64_succ (n := 100) (by omega) (by omega)]
theorem concat_rows {rs : List (List Int)} (hr : rs.length ≤ 100) (hl : rs.flatten.length ≤ 100000) (d : Nat) : ∀ k i, rs.length - i = d → i ≤ rs.length → d < k →
    slices_Concat_int64_int64.l1 k (rs.take i).flatten rs rs.length i = some rs.flatten := by
  have hle : ∀ i, (rs.take i).flatten.length ≤ rs.flatten.length := fun i => by
    have : rs.flatten = (rs.take i).flatten ++ (rs.drop i).flatten := by rw [← List.flatten_append, List.take_append_drop]
    rw [this, List.length_append]; omega
  induction d with
  | zero =>
    intro k i hd hi hk
    obtain ⟨k, rfl⟩ : ∃ m, k = m + 1 := ⟨k - 1, by omega⟩
    simp only [slices_Concat_int64_int64.l1]
    rw [if_neg (nlt_nat (by omega)), List.take_of_length_le (by omega)]
  | succ d ih =>
    intro k i hd hi hk
    obtain ⟨k, rfl⟩ : ∃ m, k = m + 1 := ⟨k - 1, by omega⟩
    have hiR : i < rs.length := by omega
    have h1 := hle (i + 1)
    have e2 := ih k (i + 1) (by omega) (by omega) (by omega)
    rw [take_flatten_succ rs hiR] at h1 e2
    rw [List.length_append] at h1
    simp only [slices_Concat_int64_int64.l1]
    rw [if_pos (lt_nat hiR), if_pos (idx0 _), if_pos (lt_nat hiR), rdL_nat, if_pos (by omega), w64_succ (n := 100) (by omega) (by omega)]
    exact e2
theorem concat_tells {rs : List (List Int)} (hr : rs.length ≤ 100) (hl : rs.flatten.length ≤ 100000) {k : Nat} (hk : 300 ≤ k) : slices_Concat_int64_int64.f k rs = some rs.flatten := by
  unfold slices_Concat_int64_int64.f
  obtain ⟨k', e1, e2⟩ := concat_size hr hl rs.length k 0 (by omega) (by omega) (by omega)
  refine e2.trans ?_
  exact concat_rows hr hl rs.length k' 0 (by omega) (by omega) (by omega)
end Go.Proofs.YtkndhjchlnepmaaGreatDoor.F
end

section
set_option linter.unusedVariables false
set_option linter.unusedSimpArgs false
set_option linter.unusedSectionVars false
namespace Go.Proofs.YtkndhjchlnepmaaGreatDoor.F
open Go.RowKit Go.Proofs.YtkndhjchlnepmaaGreatDoorW.PrintWords Go.Proofs.YtkndhjchlnepmaaGreatDoorW.PrintLast Go.Proofs.YtkndhjchlnepmaaGreatDoor.Lin
open Go.Lib
theorem byte_at {c : UInt8} : ∀ {a : List UInt8} (b : List UInt8), c ∉ a → indexByte (a ++ c :: b) c = (a.length : Int)
  | [], b, _ => by rw [List.nil_append]; unfold indexByte; simp
  | x :: r, b, h => by
    have hx : ¬ (x == c) = true := fun e => h (by rw [beq_iff_eq.mp e]; exact List.mem_cons_self)
    have ih := byte_at (a := r) b (fun hr => h (List.mem_cons_of_mem _ hr))
    rw [List.cons_append]
    unfold indexByte
    rw [if_neg hx, ih, if_neg (by first | (simp; done) | (simp; omega)), List.length_cons]
    push_cast
    first | done | rfl
theorem cut_at {c : UInt8} {a b : List UInt8} (h : c ∉ a) : cut (a ++ c :: b) [c] = (a, b, true) := by
  have e : index (a ++ c :: b) [c] = (a.length : Int) := (index_one _ c).trans (byte_at b h)
  unfold cut
  rw [e, if_pos (by omega), Int.toNat_natCast, List.take_left, show a.length + [c].length = (a ++ [c]).length by simp, show a ++ c :: b = (a ++ [c]) ++ b by simp, List.drop_left]
theorem no_byte {v : Int} {c : UInt8} (h1 : c ≠ 45) (h2 : isDig c = false) : c ∉ itoa v := fun h => by
  obtain ⟨h3, _⟩ := itoa_num (v := v) rfl
  unfold digitsOf at h3
  by_cases q : (itoa v).head? = some 45
  · rw [if_pos q] at h3
    cases hs : itoa v with
    | nil => rw [hs] at h; cases h
    | cons x r =>
      rw [hs] at h h3 q
      simp only [List.head?_cons, Option.some.injEq] at q
      subst q
      rcases List.mem_cons.mp h with h | h
      · exact h1 h
      · have := List.all_eq_true.mp h3 c (by simpa using h)
        exact absurd (h2.symm.trans this) (by decide)
  · rw [if_neg q] at h3
    have := List.all_eq_true.mp h3 c h
    exact absurd (h2.symm.trans this) (by decide)
theorem mem_join {x : UInt8} {sep : List UInt8} : ∀ {xs : List (List UInt8)}, x ∈ join xs sep → x ∈ sep ∨ ∃ y, y ∈ xs ∧ x ∈ y
  | [], h => by rw [join_nil] at h; cases h
  | [y], h => by rw [join_one] at h; exact .inr ⟨y, List.mem_cons_self, h⟩
  | y :: z :: r, h => by
    rw [join_cons2] at h
    rcases List.mem_append.mp h with h | h
    · rcases List.mem_append.mp h with h | h
      · exact .inr ⟨y, List.mem_cons_self, h⟩
      · exact .inl h
    · rcases mem_join h with h | ⟨w, hw, hx⟩
      · exact .inl h
      · exact .inr ⟨w, List.mem_cons_of_mem _ hw, hx⟩
theorem no_slash (l : List Int) : (47 : UInt8) ∉ listTxt l := fun h => by
  unfold listTxt at h
  by_cases h0 : l.length = 0
  · rw [if_pos h0] at h; exact absurd h (by decide)
  · rw [if_neg h0] at h
    rcases mem_join h with h | ⟨y, hy, hx⟩
    · exact absurd h (by decide)
    · obtain ⟨v, _, rfl⟩ := List.mem_map.mp hy
      exact no_byte (by decide) (by decide) hx
theorem no_slash_head (p r c : Int) : (47 : UInt8) ∉ headTxt p r c := fun h => by
  unfold headTxt at h
  simp only [List.mem_append] at h
  rcases h with (((h | h) | h) | h) | h
  · exact no_byte (by decide) (by decide) h
  · exact absurd h (by decide)
  · exact no_byte (by decide) (by decide) h
  · exact absurd h (by decide)
  · exact no_byte (by decide) (by decide) h
theorem join_slash : ∀ (xs : List (List UInt8)) (h : List UInt8), join (h :: xs) [47] = h ++ (xs.map (fun x => 47 :: x)).flatten
  | [], h => by rw [join_one]; simp
  | y :: r, h => by rw [join_cons2, join_slash r y]; simp
theorem rowsTxt_join (h : List UInt8) (rs : List (List Int)) : h ++ rowsTxt rs = join (h :: rs.map listTxt) [47] := by
  rw [join_slash, List.map_map]; rfl
theorem split_mtx (p r c : Int) (rs : List (List Int)) : splitL 47 (headTxt p r c ++ rowsTxt rs) = headTxt p r c :: rs.map listTxt := by
  rw [rowsTxt_join]
  refine split_join (by simp) (fun x hx => ?_)
  rcases List.mem_cons.mp hx with e | hx
  · rw [e]; exact no_slash_head p r c
  · obtain ⟨l, _, rfl⟩ := List.mem_map.mp hx
    exact no_slash l
theorem read_row {r : List Int} (h : fits r = true) : readL (listTxt r) = (r, true) := by
  by_cases h0 : r = []
  · subst h0
    unfold listTxt readL
    simp
  · have := read_back h h0
    rw [row_text h] at this
    exact this
theorem slash_loop (H : List ByteArray) (h0 : 0 < H.length) {rs : List (List Int)} (hl : rs.length ≤ 64) (hf : ∀ r ∈ rs, fits r = true) {K0 : Nat} (hK : 1048700 ≤ K0) (d : Nat) : ∀ (k i : Nat), rs.length - i = d → i ≤ rs.length → d + K0 ≤ k →
    impl_readSlashed.l0 k H (rs.take i) ((rs.map listTxt).map B) rs.length i = some (H.getD 0 ByteArray.empty, rs) := by
  induction d with
  | zero =>
    intro k i hd hi hk
    obtain ⟨k, rfl⟩ : ∃ m, k = m + 1 := ⟨k - 1, by omega⟩
    simp only [impl_readSlashed.l0]
    rw [if_neg (by omega), if_pos (by omega), List.take_of_length_le (by omega)]
    rfl
  | succ d ih =>
    intro k i hd hi hk
    obtain ⟨k, rfl⟩ : ∃ m, k = m + 1 := ⟨k - 1, by omega⟩
    have hlt : i < rs.length := by omega
    have g1 : (i : Int) < (rs.length : Int) := by omega
    have g2 : (0 : Int) ≤ (i : Int) := by omega
    have g4 : rs.length ≤ 35184372088832 := by omega
    have b1 : rs.length - (i + 1) = d := by omega
    have b2 : i + 1 ≤ rs.length := by omega
    have b3 : d + K0 ≤ k := by omega
    have b4 : 1048700 ≤ k := Nat.le_trans hK (Nat.le_trans (Nat.le_add_left K0 d) b3)
    have g5 : (rs.take i).length < 5864062014805 := by rw [List.length_take]; omega
    have hr := hf _ (List.getElem_mem hlt)
    have hs := listTxt_short hr
    have hm : i < (rs.map listTxt).length := by rw [List.length_map]; exact hlt
    have g3 : (i : Int) < (((rs.map listTxt).map B).length : Int) := by rw [List.length_map, List.length_map]; exact g1
    have e1 : impl_ReadList.f k (B (listTxt rs[i])) = some (rs[i], true) := by
      rw [implRead_tells _ (by rw [B_size]; exact Nat.le_trans hs (by decide)) b4, B_list, read_row hr]
    have e2 := ih k (i + 1) b1 b2 b3
    rw [List.take_add_one, List.getElem?_eq_getElem hlt] at e2
    simp only [impl_readSlashed.l0]
    rw [if_pos g1, if_pos g2, if_pos g3, rdOf_natR, getBR hm, List.getElem_map, e1, Option.bind_some, if_pos g5, w64_succ hlt g4]
    exact e2
theorem readSlashed_tells (p r c : Int) {rs : List (List Int)} (hl : rs.length ≤ 64) (hf : ∀ r ∈ rs, fits r = true) (hs : (headTxt p r c ++ rowsTxt rs).length ≤ 1048576) {k : Nat} (hk : 2000000 ≤ k) : impl_readSlashed.f k (B (headTxt p r c ++ rowsTxt rs)) = some (B (headTxt p r c), rs) := by
  have e := split_tells (B (headTxt p r c ++ rowsTxt rs)) (by rw [B_size]; exact hs) 47
  rw [B_list, split_mtx] at e
  have hlen : ((headTxt p r c :: rs.map listTxt).map B).length = rs.length + 1 := by simp
  have g1 : (1 : Int) ≤ (((headTxt p r c :: rs.map listTxt).map B).length : Int) := by rw [hlen]; omega
  have e2 := slash_loop ((headTxt p r c :: rs.map listTxt).map B) (by rw [hlen]; omega) hl hf (K0 := 1048700) (Nat.le_refl _) rs.length k 0 (by omega) (by omega) (by omega)
  have hd : (((headTxt p r c :: rs.map listTxt).map B).drop 1) = (rs.map listTxt).map B := rfl
  have hl2 : ((((rs.map listTxt).map B).length : Nat) : Int) = (rs.length : Int) := by rw [List.length_map, List.length_map]
  unfold impl_readSlashed.f
  rw [e, Option.bind_some, if_pos g1, Option.bind_some, hd, hl2]
  exact e2
theorem cut_tells (s : List UInt8) (c : UInt8) {a b : List UInt8} (hs : s.length ≤ 1048576) (h : s = a ++ c :: b) (hc : c ∉ a) : strings_Cut.f (B s) ⟨#[c]⟩ = some (B a, B b, true) := by
  unfold strings_Cut.f
  rw [if_pos (by rw [B_size]; omega), B_list]
  have e : cut s (⟨#[c]⟩ : ByteArray).data.toList = (a, b, true) := by rw [h]; exact cut_at hc
  rw [e]
  rfl
theorem read_matrix {p : Int} {R C : Nat} {l : List Int} (h : matOk p R C l = true) {k : Nat} (hk : 2000000 ≤ k) : impl_ReadMatrix.f k (textOut p R C l) = some (p, (R : Int), (C : Int), l, true) := by
  obtain ⟨R', C', hR', hC', h1, h2, h3, h4, h5⟩ := dimsM h
  have eR : R = R' := by omega
  have eC : C = C' := by omega
  subst eR; subst eC
  have hrows := rowsM_ok (R := R) (C := C) h5
  have hfr := fits_row h4 (R := R) (C := C) (by omega) h5
  have ls := rowsTxt_short hfr
  rw [rowsM_length] at ls
  have ls2 : R * 1409 ≤ 32 * 1409 := Nat.mul_le_mul h1 (Nat.le_refl _)
  have lh := head_length p R C (by omega) (by omega) (by omega)
  have hs : (headTxt p R C ++ rowsTxt (rowsM R C l)).length ≤ 1048576 := by rw [List.length_append]; omega
  have s1 := itoa_short (x := p) (by omega) (by omega)
  have s2 := itoa_short (x := (R : Int)) (by omega) (by omega)
  have s3 := itoa_short (x := (C : Int)) (by omega) (by omega)
  have e0 : textOut p R C l = B (headTxt p R C ++ rowsTxt (rowsM R C l)) := by unfold textOut; rw [if_pos h]; rfl
  have e1 := readSlashed_tells p R C (rs := rowsM R C l) (by rw [rowsM_length]; omega) hfr hs hk
  have e2 := cut_tells (headTxt p R C) 32 (a := itoa p) (b := itoa (R : Int) ++ 120 :: itoa (C : Int)) (by omega) (by unfold headTxt; simp) (no_byte (by decide) (by decide))
  have e3 := cut_tells (itoa (R : Int) ++ 120 :: itoa (C : Int)) 120 (a := itoa (R : Int)) (b := itoa (C : Int)) (by rw [List.length_append, List.length_cons]; omega) rfl (no_byte (by decide) (by decide))
  have d1 : impl_ReadDecimal.f (B (itoa p)) = some (p, true) := by rw [readDecimal_tells _ (by rw [B_size]; omega), B_list, numOf_itoa (by omega) (by omega)]
  have d2 : impl_ReadDecimal.f (B (itoa (R : Int))) = some ((R : Int), true) := by rw [readDecimal_tells _ (by rw [B_size]; omega), B_list, numOf_itoa (by omega) (by omega)]
  have d3 : impl_ReadDecimal.f (B (itoa (C : Int))) = some ((C : Int), true) := by rw [readDecimal_tells _ (by rw [B_size]; omega), B_list, numOf_itoa (by omega) (by omega)]
  have hfl : (rowsM R C l).flatten = l := by
    have := flatten_rows hrows
    rw [rowsM_length, rowsM_tab h3] at this
    exact this
  have hll : l.length ≤ 1024 := by rw [h3]; exact Nat.mul_le_mul h1 h2
  have e4 := concat_tells (rs := rowsM R C l) (by rw [rowsM_length]; omega) (by rw [hfl]; omega) (k := k) (by omega)
  rw [hfl] at e4
  have e5 : impl_ValidMatrix.f k p R C l = some true := by rw [implOk_tells p R C (by omega), h]
  have e6 := impl_textM p R C (l := l) (k := k) (by omega)
  unfold impl_ReadMatrix.f
  rw [e0, e1, Option.bind_some]
  dsimp only
  rw [e2, Option.bind_some]
  dsimp only
  rw [e3, Option.bind_some]
  dsimp only
  rw [d1, Option.bind_some, d2, Option.bind_some, d3, Option.bind_some]
  dsimp only
  rw [e4, Option.bind_some, e5, Option.bind_some, if_pos rfl, e6, Option.bind_some, e0, if_pos rfl]
end Go.Proofs.YtkndhjchlnepmaaGreatDoor.F
end
