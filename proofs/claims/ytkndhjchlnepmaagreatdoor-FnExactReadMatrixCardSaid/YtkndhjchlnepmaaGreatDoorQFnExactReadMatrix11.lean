-- Texts of this claim, merged by packw.py (a program of this session's).
import Derived.Lib.ItoaNum
import Derived.Lib.ParseIntB
import Derived.Lib.Strings
import Derived.Test.YtkndhjchlnepmaaGreatDoorQFnExactReadMatrix10
import Derived.KernelRfl
import Derived.Test.YtkndhjchlnepmaaGreatDoorQFnExactReadMatrix5
import Derived.Lib.Split
import Derived.Lib.IndexBytes
import Derived.Lib.Join
import Derived.WideShapes
import Derived.Test.YtkndhjchlnepmaaGreatDoorQFnExactReadMatrix3
import Derived.Test.YtkndhjchlnepmaaGreatDoorQFnExactReadMatrix7
import Derived.Test.YtkndhjchlnepmaaGreatDoorQFnExactReadMatrix4
import Derived.Test.YtkndhjchlnepmaaGreatDoorQFnExactReadMatrix6

section
set_option linter.unusedVariables false
set_option linter.unusedSimpArgs false
set_option linter.unusedSectionVars false
namespace Go.Proofs.YtkndhjchlnepmaaGreatDoor.Lin
open Go.Lib
/-! ### Decimal numerals -/
def isDig (b : UInt8) : Bool := decide (48 ≤ b.toNat) && decide (b.toNat ≤ 57)
theorem isDig_iff {b : UInt8} : isDig b = true ↔ 48 ≤ b.toNat ∧ b.toNat ≤ 57 := by unfold isDig; simp
def decVal (acc : Nat) : List UInt8 → Nat
  | [] => acc
  | c :: r => decVal (acc * 10 + (c.toNat - 48)) r
theorem decVal_snoc (acc : Nat) (l : List UInt8) (c : UInt8) : decVal acc (l ++ [c]) = decVal acc l * 10 + (c.toNat - 48) := by
  induction l generalizing acc with
  | nil => rfl
  | cons x l ih => exact ih _
theorem decVal_ge (acc : Nat) (l : List UInt8) : acc ≤ decVal acc l := by
  induction l generalizing acc with
  | nil => exact Nat.le_refl _
  | cons x l ih => exact Nat.le_trans (by omega) (ih _)
theorem decVal_lt (acc : Nat) (l : List UInt8) (h : l.all isDig = true) : decVal acc l < (acc + 1) * 10 ^ l.length := by
  induction l generalizing acc with
  | nil => rw [List.length_nil, Nat.pow_zero, Nat.mul_one]; exact Nat.lt_succ_self acc
  | cons x l ih =>
    rw [List.all_cons, Bool.and_eq_true] at h
    have hd := isDig_iff.mp h.1
    have h1 := ih (acc * 10 + (x.toNat - 48)) h.2
    show decVal (acc * 10 + (x.toNat - 48)) l < _
    refine Nat.lt_of_lt_of_le h1 ?_
    rw [List.length_cons, Nat.pow_succ, Nat.mul_comm (10 ^ l.length) 10, ← Nat.mul_assoc]
    exact Nat.mul_le_mul_right _ (by omega)
theorem ofNat_dig {d : Nat} (h : d < 10) : (UInt8.ofNat (48 + d)).toNat = 48 + d := by
  rw [UInt8.toNat_ofNat_of_lt']
  show 48 + d < 256
  omega
theorem dig_ofNat {b : UInt8} (h : isDig b = true) : UInt8.ofNat (48 + (b.toNat - 48)) = b := by
  have := isDig_iff.mp h
  apply UInt8.toNat_inj.mp
  rw [ofNat_dig (by omega)]; omega
def Canon (l : List UInt8) : Prop := l ≠ [] ∧ l.all isDig = true ∧ (l.length = 1 ∨ l.head? ≠ some 48)
theorem canon_dec (u : Nat) : Canon (decDigits u) ∧ decVal 0 (decDigits u) = u ∧ (1 ≤ u → (decDigits u).head? ≠ some 48) := by
  induction u using Nat.strongRecOn with
  | _ u ih =>
    rw [decDigits]
    by_cases h : u < 10
    · rw [dif_pos h]
      have e := ofNat_dig h
      refine ⟨⟨by simp, by simp [isDig, e]; omega, .inl rfl⟩, ?_, fun h1 hh => ?_⟩
      · show 0 * 10 + ((UInt8.ofNat (48 + u)).toNat - 48) = u
        rw [e]; omega
      · have h2 : UInt8.ofNat (48 + u) = 48 := by simpa using hh
        have h3 := congrArg UInt8.toNat h2
        rw [e] at h3
        have : (48 : UInt8).toNat = 48 := rfl
        omega
    · rw [dif_neg h]
      obtain ⟨⟨c1, c2, c3⟩, v, hd⟩ := ih (u / 10) (by omega)
      have e := ofNat_dig (d := u % 10) (by omega)
      have hne : (decDigits (u / 10) ++ [UInt8.ofNat (48 + u % 10)]).head? = (decDigits (u / 10)).head? := by
        cases hq : decDigits (u / 10) with
        | nil => exact absurd hq c1
        | cons x r => rfl
      refine ⟨⟨by simp, ?_, .inr (by rw [hne]; exact hd (by omega))⟩, ?_, fun _ => by rw [hne]; exact hd (by omega)⟩
      · rw [List.all_append, c2]
        simp [isDig, e]; omega
      · rw [decVal_snoc, v, e]; omega
theorem dec_canon (n : Nat) : ∀ l : List UInt8, l.length = n → Canon l → decDigits (decVal 0 l) = l := by
  induction n with
  | zero => exact fun l hl hc => absurd (List.eq_nil_of_length_eq_zero hl) hc.1
  | succ n ih =>
    intro l hl ⟨h1, h2, h3⟩
    obtain ⟨r, c, rfl⟩ : ∃ r c, l = r ++ [c] := ⟨l.dropLast, l.getLast h1, (List.dropLast_concat_getLast h1).symm⟩
    rw [List.all_append, Bool.and_eq_true] at h2
    have hc : isDig c = true := by simpa using h2.2
    have hcd := isDig_iff.mp hc
    rw [decVal_snoc]
    cases r with
    | nil =>
      show decDigits (0 * 10 + (c.toNat - 48)) = [c]
      rw [decDigits, dif_pos (by omega), Nat.zero_mul, Nat.zero_add, dig_ofNat hc]
    | cons x r =>
      have hx : isDig x = true := by
        have := h2.1
        rw [List.all_cons, Bool.and_eq_true] at this
        exact this.1
      have hxd := isDig_iff.mp hx
      have hx48 : x ≠ 48 := by
        rcases h3 with h3 | h3
        · simp at h3
        · intro e; exact h3 (by rw [e]; rfl)
      have hx1 : x.toNat ≠ 48 := fun e => hx48 (UInt8.toNat_inj.mp (by rw [e]; rfl))
      have hge : 1 ≤ decVal 0 (x :: r) := by
        have := decVal_ge (0 * 10 + (x.toNat - 48)) r
        show 1 ≤ decVal (0 * 10 + (x.toNat - 48)) r
        omega
      have hrec := ih (x :: r) (by simp at hl; simp; omega) ⟨by simp, h2.1, .inr (by simp; exact hx48)⟩
      generalize decVal 0 (x :: r) = v at hge hrec
      rw [decDigits, dif_neg (by omega), show (v * 10 + (c.toNat - 48)) / 10 = v by omega, show (v * 10 + (c.toNat - 48)) % 10 = c.toNat - 48 by omega, dig_ofNat hc, hrec]
theorem parse_digits (M : Nat) (hM : 1000000000000000000 ≤ M) (l : List UInt8) (acc : Nat) (h : l.all isDig = true) (hv : decVal acc l < 1000000000000000000) : parseUintM M acc l = .ok (decVal acc l) := by
  induction l generalizing acc with
  | nil => rfl
  | cons c r ih =>
    rw [List.all_cons, Bool.and_eq_true] at h
    have hd := isDig_iff.mp h.1
    have h1 : decVal acc (c :: r) = decVal (acc * 10 + (c.toNat - 48)) r := rfl
    have h2 := decVal_ge (acc * 10 + (c.toNat - 48)) r
    rw [h1] at hv ⊢
    unfold parseUintM
    rw [if_pos hd, if_neg (by omega), if_neg (by omega)]
    exact ih _ h.2 hv
def digitsOf (s : List UInt8) : List UInt8 := if s.head? = some 45 then s.drop 1 else s
def numOf (s : List UInt8) : Int × Bool :=
  if (digitsOf s).length = 0 ∨ 18 < (digitsOf s).length ∨ ((digitsOf s).head? = some 48 ∧ 1 < s.length) ∨ (digitsOf s).all isDig = false then (0, false)
  else (if s.head? = some 45 then -((decVal 0 (digitsOf s) : Nat) : Int) else (decVal 0 (digitsOf s) : Nat), true)
theorem trim_digits (s : List UInt8) : trimPrefix s [45] = digitsOf s := by
  unfold trimPrefix digitsOf hasPrefix
  cases s with
  | nil => rfl
  | cons c r =>
    by_cases h : c = 45
    · subst h; simp
    · have : ¬ ((45 : UInt8) == c) = true := fun e => h (by simpa using (beq_iff_eq.mp e).symm)
      simp [h, Ne.symm h]
def readOf (s : List UInt8) : Int × Bool :=
  if (trimPrefix s [45]).length < 1 ∨ 18 < (trimPrefix s [45]).length then (0, false) else
  match parseIntB 64 s with
  | .ok v => if itoa v = s then (v, true) else (0, false)
  | _ => (0, false)
theorem itoa_num {s : List UInt8} {v : Int} (h : itoa v = s) : (digitsOf s).all isDig = true ∧ ¬ ((digitsOf s).head? = some 48 ∧ 1 < s.length) := by
  unfold itoa at h
  by_cases hv : v < 0
  · rw [if_pos hv] at h
    subst h
    have e : digitsOf (45 :: decDigits v.natAbs) = decDigits v.natAbs := by unfold digitsOf; simp
    obtain ⟨⟨_, c2, _⟩, _, hd⟩ := canon_dec v.natAbs
    rw [e]
    exact ⟨c2, fun hh => hd (by omega) hh.1⟩
  · rw [if_neg hv] at h
    subst h
    obtain ⟨⟨c1, c2, c3⟩, _, hd⟩ := canon_dec v.toNat
    have e : digitsOf (decDigits v.toNat) = decDigits v.toNat := by
      unfold digitsOf
      rw [if_neg]
      intro hh
      cases hq : decDigits v.toNat with
      | nil => exact c1 hq
      | cons x r =>
        rw [hq] at hh c2
        have : x = 45 := by simpa using hh
        subst this
        simp [isDig] at c2
    rw [e]
    exact ⟨c2, fun hh => by
      rcases c3 with c3 | c3
      · omega
      · exact c3 hh.1⟩
theorem pow18 : (10 : Nat) ^ 18 = 1000000000000000000 := by decide
theorem val18 {l : List UInt8} (h : l.all isDig = true) (hl : l.length ≤ 18) : decVal 0 l < 1000000000000000000 := by
  have h1 := decVal_lt 0 l h
  have h2 : (10 : Nat) ^ l.length ≤ 10 ^ 18 := Nat.pow_le_pow_right (by decide) hl
  rw [pow18] at h2
  omega
theorem readOf_eq (s : List UInt8) : readOf s = numOf s := by
  unfold readOf numOf
  rw [trim_digits]
  by_cases h0 : (digitsOf s).length < 1 ∨ 18 < (digitsOf s).length
  · rw [if_pos h0, if_pos (by omega)]
  · rw [if_neg h0]
    have hl1 : 1 ≤ (digitsOf s).length := by omega
    have hl2 : (digitsOf s).length ≤ 18 := by omega
    by_cases hg : (digitsOf s).all isDig = true ∧ ¬ ((digitsOf s).head? = some 48 ∧ 1 < s.length)
    · rw [if_neg (by rintro (h | h | h | h); · omega
                     · omega
                     · exact hg.2 h
                     · rw [hg.1] at h; cases h)]
      have hv := val18 hg.1 hl2
      cases hs : s with
      | nil => rw [hs] at hl1; simp [digitsOf] at hl1
      | cons c r =>
        by_cases h45 : c = 45
        · subst h45
          have e : digitsOf (45 :: r) = r := by unfold digitsOf; simp
          rw [hs, e] at hg hv hl1 hl2
          have hr : r ≠ [] := by intro e2; rw [e2] at hl1; simp at hl1
          have hp : parseUintB 64 r = .ok (decVal 0 r) := by
            unfold parseUintB
            rw [if_neg hr]
            exact parse_digits _ (by decide) r 0 hg.1 hv
          have h48 : r.head? ≠ some 48 := fun hh => hg.2 ⟨hh, by simp; omega⟩
          have hcan : decDigits (decVal 0 r) = r := dec_canon _ r rfl ⟨hr, hg.1, .inr h48⟩
          have hpos : 1 ≤ decVal 0 r := by
            cases hq : r with
            | nil => exact absurd hq hr
            | cons x q =>
              rw [hq] at h48 hg
              have h5 : isDig x = true := by
                have := hg.1
                rw [List.all_cons, Bool.and_eq_true] at this
                exact this.1
              have h6 := isDig_iff.mp h5
              have h7 : x.toNat ≠ 48 := fun e => h48 (by rw [show x = 48 from UInt8.toNat_inj.mp (by rw [e]; rfl)]; rfl)
              have := decVal_ge (0 * 10 + (x.toNat - 48)) q
              show 1 ≤ decVal (0 * 10 + (x.toNat - 48)) q
              omega
          have hP : parseIntB 64 (45 :: r) = .ok (-(decVal 0 r : Int)) := by
            unfold parseIntB
            have e45 : (45 : UInt8).toNat = 45 := rfl
            simp only [e45]
            rw [if_pos (by decide), hp]
            simp only
            have e63 : (2 : Nat) ^ (64 - 1) = 9223372036854775808 := by decide
            rw [e63, if_neg (by simp), if_neg (by omega), if_pos trivial]
          rw [hP, e]
          simp only [List.head?_cons, if_true]
          rw [if_pos]
          unfold itoa
          rw [if_pos (by omega), show (-(decVal 0 r : Int)).natAbs = decVal 0 r by omega, hcan]
        · have e : digitsOf (c :: r) = c :: r := by unfold digitsOf; simp [h45]
          rw [hs, e] at hg hv hl1 hl2
          have hcd : isDig c = true := by
            have := hg.1
            rw [List.all_cons, Bool.and_eq_true] at this
            exact this.1
          have h6 := isDig_iff.mp hcd
          have hp : parseUintB 64 (c :: r) = .ok (decVal 0 (c :: r)) := by
            unfold parseUintB
            rw [if_neg (by simp)]
            exact parse_digits _ (by decide) _ 0 hg.1 hv
          have hcan : decDigits (decVal 0 (c :: r)) = c :: r := dec_canon _ _ rfl ⟨by simp, hg.1, by
            by_cases h1 : (c :: r).length = 1
            · exact .inl h1
            · exact .inr (fun hh => hg.2 ⟨hh, by have : (c :: r).length = r.length + 1 := rfl; omega⟩)⟩
          have hP : parseIntB 64 (c :: r) = .ok (decVal 0 (c :: r) : Int) := by
            unfold parseIntB
            simp only
            have e63 : (2 : Nat) ^ (64 - 1) = 9223372036854775808 := by decide
            have n43 : ¬ (c.toNat = 43 ∨ c.toNat = 45) := by omega
            have n45 : ¬ c.toNat = 45 := by omega
            rw [if_neg n43, hp]
            simp only [e63]
            rw [if_neg (by omega), if_neg (by omega), if_neg n45]
          rw [hP, e]
          have hne : ¬ (c :: r).head? = some 45 := by simp [h45]
          simp only [if_neg hne]
          rw [if_pos]
          unfold itoa
          rw [if_neg (by omega), Int.toNat_natCast, hcan]
    · have hr : (match parseIntB 64 s with | .ok v => if itoa v = s then (v, true) else ((0 : Int), false) | _ => (0, false)) = (0, false) := by
        split
        · split
          · rename_i hh
            exact absurd (itoa_num hh) hg
          · rfl
        · rfl
      rw [hr, if_pos]
      by_cases h1 : (digitsOf s).all isDig = true
      · exact .inr (.inr (.inl (Classical.byContradiction fun h2 => hg ⟨h1, h2⟩)))
      · exact .inr (.inr (.inr (Bool.eq_false_iff.mpr h1)))
theorem numOf_true {s : List UInt8} {v : Int} (h : numOf s = (v, true)) : itoa v = s ∧ -1000000000000000000 < v ∧ v < 1000000000000000000 := by
  have hr := readOf_eq s
  rw [h] at hr
  refine ⟨?_, ?_⟩
  · unfold readOf at hr
    split at hr
    · cases hr
    · split at hr
      · split at hr
        · rename_i hh
          cases hr; exact hh
        · cases hr
      · cases hr
  · unfold numOf at h
    split at h
    · cases h
    · rename_i hc
      have h1 : (digitsOf s).all isDig = true := by
        cases hq : (digitsOf s).all isDig with
        | true => rfl
        | false => exact absurd (.inr (.inr (.inr hq))) hc
      have h2 := val18 h1 (by omega)
      have h3 := (Prod.mk.inj h).1
      split at h3 <;> omega
theorem numOf_false {s : List UInt8} {v : Int} (h : numOf s = (v, false)) : v = 0 := by
  unfold numOf at h
  split at h
  · exact (Prod.mk.inj h).1.symm
  · cases (Prod.mk.inj h).2
theorem numOf_itoa {v : Int} (h0 : -1000000000000000000 < v) (h1 : v < 1000000000000000000) : numOf (itoa v) = (v, true) := by
  have hd := itoa_num (v := v) rfl
  have nd : ∀ k u, u < 10 ^ (k + 1) → (decDigits u).length ≤ k + 1 := fun k => by
    induction k with
    | zero => intro u hu; rw [decDigits, dif_pos (by simpa using hu)]; simp
    | succ k ih =>
      intro u hu
      rw [decDigits]
      split
      · simp
      · rw [List.length_append]
        have := ih (u / 10) (by rw [Nat.pow_succ] at hu; omega)
        simp; omega
  unfold numOf
  by_cases hv : v < 0
  · have e : itoa v = 45 :: decDigits v.natAbs := by unfold itoa; rw [if_pos hv]
    have e2 : digitsOf (45 :: decDigits v.natAbs) = decDigits v.natAbs := by unfold digitsOf; simp
    rw [e] at hd ⊢
    obtain ⟨⟨c1, c2, c3⟩, cv, _⟩ := canon_dec v.natAbs
    rw [e2] at hd ⊢
    have hl := nd 17 v.natAbs (by rw [pow18]; omega)
    have hl1 : (decDigits v.natAbs).length ≠ 0 := fun h => c1 (List.eq_nil_of_length_eq_zero h)
    rw [if_neg (by rintro (h | h | h | h); · exact hl1 h
                   · omega
                   · exact hd.2 h
                   · rw [c2] at h; cases h)]
    simp only [List.head?_cons, if_true, cv]
    rw [show -((v.natAbs : Nat) : Int) = v by omega]
  · have e : itoa v = decDigits v.toNat := by unfold itoa; rw [if_neg hv]
    rw [e] at hd ⊢
    obtain ⟨⟨c1, c2, c3⟩, cv, _⟩ := canon_dec v.toNat
    have hne : ¬ (decDigits v.toNat).head? = some 45 := by
      intro hh
      cases hq : decDigits v.toNat with
      | nil => exact c1 hq
      | cons x r =>
        rw [hq] at hh c2
        have : x = 45 := by simpa using hh
        subst this
        simp [isDig] at c2
    have e2 : digitsOf (decDigits v.toNat) = decDigits v.toNat := by unfold digitsOf; rw [if_neg hne]
    rw [e2] at hd ⊢
    have hl := nd 17 v.toNat (by rw [pow18]; omega)
    have hl1 : (decDigits v.toNat).length ≠ 0 := fun h => c1 (List.eq_nil_of_length_eq_zero h)
    rw [if_neg (by rintro (h | h | h | h); · exact hl1 h
                   · omega
                   · exact hd.2 h
                   · rw [c2] at h; cases h), if_neg hne, cv]
    rw [show ((v.toNat : Nat) : Int) = v by omega]
end Go.Proofs.YtkndhjchlnepmaaGreatDoor.Lin
end

section
set_option linter.unusedVariables false
set_option linter.unusedSimpArgs false
set_option linter.unusedSectionVars false
namespace Go.Proofs.YtkndhjchlnepmaaGreatDoor.Lin
def primes251 : List Nat := [2,3,5,7,11,13,17,19,23,29,31,37,41,43,47,53,59,61,67,71,73,79,83,89,97,101,103,107,109,113,127,131,137,139,149,151,157,163,167,173,179,181,191,193,197,199,211,223,227,229,233,239,241,251]
def isP (p : Int) : Bool := decide (2 ≤ p) && decide (p ≤ 251) && decide (p.toNat ∈ primes251)
theorem isP_ge {p : Int} (h : isP p = true) : 2 ≤ p ∧ p ≤ 251 := by unfold isP at h; simp at h; omega
def addRow (p : Int) (a b : List Int) (c : Int) : List Int := List.zipWith (fun x y => (x + c * y) % p) a b
theorem getD_set {α : Type} (l : List α) (k : Nat) (v d : α) (hk : k < l.length) (i : Nat) : (l.set k v).getD i d = if i = k then v else l.getD i d := by
  simp only [List.getD_eq_getElem?_getD, List.getElem?_set]
  by_cases h : k = i
  · subst h; simp [hk]
  · simp [h, Ne.symm h]
end Go.Proofs.YtkndhjchlnepmaaGreatDoor.Lin
end

section
set_option linter.unusedVariables false
set_option linter.unusedSimpArgs false
set_option linter.unusedSectionVars false
namespace Go.Proofs.YtkndhjchlnepmaaGreatDoor.F
open Go.RowKit Go.Proofs.YtkndhjchlnepmaaGreatDoorW.PrintWords Go.Proofs.YtkndhjchlnepmaaGreatDoorW.PrintLast Go.Proofs.YtkndhjchlnepmaaGreatDoor.Lin
theorem w64_idV {x : Int} (h0 : -9223372036854775808 ≤ x) (h1 : x ≤ 9223372036854775807) : wrap64 x = x := by unfold wrap64; omega
theorem w64_succ {i n : Nat} (h : i < n) (hn : n ≤ 35184372088832) : wrap64 ((i : Int) + 1) = ((i + 1 : Nat) : Int) := by
  rw [w64_idV (x := (i : Int) + 1) (by omega) (by omega)]; omega
theorem rd_nat (l : List Int) (i : Nat) : rd l (i : Int) = l.getD i 0 := by unfold rd; rw [Int.toNat_natCast]
theorem getD_at {α : Type} {l : List α} {i : Nat} {d : α} (h : i < l.length) : l.getD i d = l[i] := by simp [List.getD_eq_getElem?_getD, h]
theorem ext_getD {l m : List Int} (hl : l.length = m.length) (h : ∀ j, j < l.length → l.getD j 0 = m.getD j 0) : l = m := by
  refine List.ext_getElem hl (fun j h1 h2 => ?_)
  have := h j h1
  rwa [getD_at h1, getD_at h2] at this
theorem eq_loop {a b : List Int} (ha : a.length ≤ 35184372088832) (hab : a.length = b.length) (d : Nat) : ∀ (k i : Nat), a.length - i = d → i ≤ a.length → d < k → (∀ j, j < i → a.getD j 0 = b.getD j 0) →
    laws_eqInt64S.l0 k a b i = some (decide (a = b)) := by
  induction d with
  | zero =>
    intro k i hd hi hk h
    obtain ⟨k, rfl⟩ : ∃ m, k = m + 1 := ⟨k - 1, by omega⟩
    simp only [laws_eqInt64S.l0]
    rw [if_neg (by omega), decide_eq_true (ext_getD hab (fun j hj => h j (by omega)))]
  | succ d ih =>
    intro k i hd hi hk h
    obtain ⟨k, rfl⟩ : ∃ m, k = m + 1 := ⟨k - 1, by omega⟩
    simp only [laws_eqInt64S.l0]
    rw [if_pos (by omega), if_pos (by omega), if_pos (by omega), w64_succ (n := a.length) (by omega) ha, rd_nat, rd_nat]
    by_cases e : a.getD i 0 = b.getD i 0
    · rw [if_pos e]
      refine ih k (i + 1) (by omega) (by omega) (by omega) (fun j hj => ?_)
      by_cases e2 : j = i
      · rw [e2]; exact e
      · exact h j (by omega)
    · rw [if_neg e, decide_eq_false (fun h => e (by rw [h]))]
theorem eq_tells {a b : List Int} (ha : a.length ≤ 35184372088832) {k : Nat} (hk : a.length < k) : laws_eqInt64S.f k a b = some (decide (a = b)) := by
  unfold laws_eqInt64S.f
  by_cases h : a.length = b.length
  · rw [if_pos (by omega)]
    exact eq_loop ha h a.length k 0 (by omega) (by omega) hk (fun j hj => by omega)
  · rw [if_neg (by omega), decide_eq_false (fun e => h (by rw [e]))]
end Go.Proofs.YtkndhjchlnepmaaGreatDoor.F
end

section
set_option linter.unusedVariables false
set_option linter.unusedSimpArgs false
set_option linter.unusedSectionVars false
namespace Go.Proofs.YtkndhjchlnepmaaGreatDoor.F
open Go.RowKit Go.Proofs.YtkndhjchlnepmaaGreatDoorW.PrintWords Go.Proofs.YtkndhjchlnepmaaGreatDoorW.PrintLast Go.Proofs.YtkndhjchlnepmaaGreatDoor.Lin
open Go.Lib
def revDig (u : Nat) : List Int := (decDigits u).reverse.map (fun b => (b.toNat : Int))
theorem revDig_length (u : Nat) (h : u < 10 ^ 20) : (revDig u).length ≤ 20 := by
  have nd : ∀ k u, u < 10 ^ (k + 1) → (decDigits u).length ≤ k + 1 := fun k => by
    induction k with
    | zero => intro u hu; rw [decDigits, dif_pos (by simpa using hu)]; simp
    | succ k ih =>
      intro u hu
      rw [decDigits]
      split
      · simp
      · rw [List.length_append]
        have := ih (u / 10) (by rw [Nat.pow_succ] at hu; omega)
        simp; omega
  unfold revDig
  rw [List.length_map, List.length_reverse]
  exact nd 19 u h
theorem decimal_tells {n : Int} (h0 : -9223372036854775808 ≤ n) (h1 : n ≤ 9223372036854775807) : impl_Decimal.f n = some ⟨(itoa n).toArray⟩ := by
  unfold impl_Decimal.f
  rw [if_pos ⟨h0, h1⟩]
end Go.Proofs.YtkndhjchlnepmaaGreatDoor.F
end

section
set_option linter.unusedVariables false
set_option linter.unusedSimpArgs false
set_option linter.unusedSectionVars false
namespace Go.Proofs.YtkndhjchlnepmaaGreatDoor.Lin
open Go.Lib
def splitL (c : UInt8) : List UInt8 → List (List UInt8)
  | [] => [[]]
  | b :: r => if b = c then [] :: splitL c r else match splitL c r with
    | [] => [[b]]
    | x :: xs => (b :: x) :: xs
theorem splitL_ne (c : UInt8) (l : List UInt8) : splitL c l ≠ [] := by
  cases l with
  | nil => simp [splitL]
  | cons b r =>
    unfold splitL
    split
    · simp
    · split <;> simp
theorem splitL_none {c : UInt8} : ∀ {l : List UInt8}, c ∉ l → splitL c l = [l]
  | [], _ => rfl
  | b :: r, h => by
    unfold splitL
    rw [if_neg (fun e => h (by rw [e]; exact List.mem_cons_self)), splitL_none (fun hr => h (List.mem_cons_of_mem _ hr))]
theorem splitL_cut {c : UInt8} : ∀ {a : List UInt8} (b : List UInt8), c ∉ a → splitL c (a ++ c :: b) = a :: splitL c b
  | [], b, _ => by
    show splitL c (c :: b) = _
    unfold splitL
    rw [if_pos rfl]
    cases b <;> rfl
  | x :: a, b, h => by
    show splitL c (x :: (a ++ c :: b)) = _
    rw [splitL, if_neg (fun e => h (by rw [e]; exact List.mem_cons_self)), splitL_cut b (fun hr => h (List.mem_cons_of_mem _ hr))]
theorem splitL_free (c : UInt8) : ∀ (l : List UInt8), ∀ x ∈ splitL c l, c ∉ x
  | [], x, hx => by simp [splitL] at hx; subst hx; simp
  | b :: r, x, hx => by
    unfold splitL at hx
    split at hx
    · rcases List.mem_cons.mp hx with rfl | hx
      · simp
      · exact splitL_free c r x hx
    · rename_i hb
      have ih := splitL_free c r
      cases hq : splitL c r with
      | nil => exact absurd hq (splitL_ne c r)
      | cons y ys =>
        rw [hq] at hx ih
        rcases List.mem_cons.mp hx with rfl | hx
        · intro hc
          rcases List.mem_cons.mp hc with e | hc
          · exact hb e.symm
          · exact ih y List.mem_cons_self hc
        · exact ih x (List.mem_cons_of_mem _ hx)
theorem byte_miss {c : UInt8} : ∀ {l : List UInt8}, indexByte l c = -1 → c ∉ l
  | [], _ => by simp
  | b :: r, h => by
    unfold indexByte at h
    split at h
    · cases h
    · rename_i hb
      split at h
      · rename_i hr
        intro hc
        rcases List.mem_cons.mp hc with e | hc
        · exact hb (by rw [e]; exact beq_self_eq_true b)
        · exact byte_miss (beq_iff_eq.mp hr) hc
      · have := indexByte_ge r c
        omega
theorem byte_hit {c : UInt8} : ∀ {l : List UInt8} {i : Nat}, indexByte l c = i → ∃ a b, l = a ++ c :: b ∧ a.length = i ∧ c ∉ a
  | [], i, h => by unfold indexByte at h; omega
  | x :: r, i, h => by
    unfold indexByte at h
    split at h
    · rename_i hb
      have e : x = c := beq_iff_eq.mp hb
      subst e
      exact ⟨[], r, rfl, by simp; omega, by simp⟩
    · rename_i hb
      split at h
      · omega
      · have hge := indexByte_ge r c
        rename_i hr
        have hne : indexByte r c ≠ -1 := fun e => hr (by rw [e]; rfl)
        obtain ⟨j, hj⟩ := Int.eq_ofNat_of_zero_le (show 0 ≤ indexByte r c by omega)
        obtain ⟨a, b, e, hl, hc⟩ := byte_hit hj
        refine ⟨x :: a, b, by rw [e]; rfl, by simp; omega, fun hx => ?_⟩
        rcases List.mem_cons.mp hx with e2 | hx
        · exact hb (by rw [e2]; exact beq_self_eq_true x)
        · exact hc hx
theorem splitK_eq (c : UInt8) : ∀ (n : Nat) (l : List UInt8), l.length = n → splitK [c] 0 (count l [c]) l = splitL c l := by
  intro n
  induction n using Nat.strongRecOn with
  | _ n ih =>
    intro l hl
    have ho := index_one l c
    by_cases hm : indexByte l c = -1
    · rw [hm] at ho
      rw [count_miss ho, splitL_none (byte_miss hm)]
      rfl
    · have hge := indexByte_ge l c
      obtain ⟨i, hi⟩ := Int.eq_ofNat_of_zero_le (show 0 ≤ indexByte l c by omega)
      obtain ⟨a, b, e, hla, hca⟩ := byte_hit hi
      rw [hi] at ho
      have hcnt := count_hit (s := l) (sub := [c]) (i := i) (by simp) ho
      have hdrop : l.drop (i + 1) = b := by rw [e, ← hla, show a ++ c :: b = (a ++ [c]) ++ b by simp, show a.length + 1 = (a ++ [c]).length by simp, List.drop_left]
      have htake : l.take i = a := by rw [e, ← hla, List.take_left]
      have hcnt2 : count l [c] = count b [c] + 1 := by rw [hcnt, show ([c] : List UInt8).length = 1 from rfl, hdrop]; omega
      rw [hcnt2]
      unfold splitK
      rw [if_neg (by rw [ho]; simp), ho, Int.toNat_natCast, Nat.add_zero, htake, show ([c] : List UInt8).length = 1 from rfl, hdrop, ih b.length (by rw [← hl, e]; simp; omega) b rfl, e, splitL_cut b hca]
theorem join_cons2 (x y : List UInt8) (r : List (List UInt8)) (sep : List UInt8) : join (x :: y :: r) sep = x ++ sep ++ join (y :: r) sep := by
  rw [join_cons, join_cons]
  unfold joinTail
  simp [List.append_assoc]
theorem split_join {c : UInt8} : ∀ {xs : List (List UInt8)}, xs ≠ [] → (∀ x ∈ xs, c ∉ x) → splitL c (join xs [c]) = xs
  | [], h, _ => absurd rfl h
  | [x], _, hf => by rw [join_one]; exact splitL_none (hf x (by simp))
  | x :: y :: r, _, hf => by
    rw [join_cons2, show x ++ [c] ++ join (y :: r) [c] = x ++ c :: join (y :: r) [c] by simp, splitL_cut _ (hf x (by simp)), split_join (by simp) (fun z hz => hf z (List.mem_cons_of_mem _ hz))]
theorem join_split (c : UInt8) : ∀ (l : List UInt8), join (splitL c l) [c] = l
  | [] => rfl
  | b :: r => by
    have ih := join_split c r
    unfold splitL
    cases hq : splitL c r with
    | nil => exact absurd hq (splitL_ne c r)
    | cons x xs =>
      rw [hq] at ih
      by_cases hb : b = c
      · rw [if_pos hb, join_cons2, ih, hb]; simp
      · rw [if_neg hb]
        show join ((b :: x) :: xs) [c] = b :: r
        rw [join_cons] at ih ⊢
        rw [← ih]; rfl
theorem splitL_length (c : UInt8) : ∀ (l : List UInt8), (splitL c l).length ≤ l.length + 1
  | [] => by simp [splitL]
  | b :: r => by
    have ih := splitL_length c r
    unfold splitL
    split
    · simp; omega
    · cases hq : splitL c r with
      | nil => simp
      | cons x xs => rw [hq] at ih; simp at ih ⊢; omega
theorem splitL_short (c : UInt8) : ∀ (l : List UInt8), ∀ x ∈ splitL c l, x.length ≤ l.length
  | [], x, hx => by simp [splitL] at hx; subst hx; simp
  | b :: r, x, hx => by
    have ih := splitL_short c r
    unfold splitL at hx
    split at hx
    · rcases List.mem_cons.mp hx with rfl | hx
      · simp
      · have := ih x hx; simp; omega
    · cases hq : splitL c r with
      | nil => exact absurd hq (splitL_ne c r)
      | cons y ys =>
        rw [hq] at hx ih
        rcases List.mem_cons.mp hx with rfl | hx
        · have := ih y List.mem_cons_self; simp; omega
        · have := ih x (List.mem_cons_of_mem _ hx); simp; omega
def B (l : List UInt8) : ByteArray := ⟨l.toArray⟩
theorem B_list (l : List UInt8) : (B l).data.toList = l := rfl
theorem B_of (s : ByteArray) : B s.data.toList = s := Go.WideShapes.bytes_inj rfl
theorem B_size (l : List UInt8) : (B l).size = l.length := rfl
theorem B_append (x y : List UInt8) : B x ++ B y = B (x ++ y) := Go.WideShapes.bytes_inj (by simp [B])
theorem B_toList (l : List UInt8) : (B l).toList = l := Go.Lib.toList_data (B l)
theorem size_len (s : ByteArray) : s.size = s.data.toList.length := Array.length_toList.symm
theorem splitB_eq (c : UInt8) (s : ByteArray) : splitB ⟨#[c]⟩ 0 (countB s ⟨#[c]⟩) s = (splitL c s.data.toList).map B := by
  have h := splitB_data (⟨#[c]⟩ : ByteArray) 0 (countB s ⟨#[c]⟩) s
  have e : (⟨#[c]⟩ : ByteArray).data.toList = [c] := rfl
  rw [e] at h
  have h2 : splitK [c] 0 (countB s ⟨#[c]⟩) s.data.toList = splitL c s.data.toList := splitK_eq c _ _ rfl
  rw [h2] at h
  rw [← h, List.map_map]
  conv => lhs; rw [← List.map_id (splitB _ _ _ _)]
  exact List.map_congr_left (fun x _ => (B_of x).symm)
end Go.Proofs.YtkndhjchlnepmaaGreatDoor.Lin
end

section
set_option linter.unusedVariables false
set_option linter.unusedSimpArgs false
set_option linter.unusedSectionVars false
namespace Go.Proofs.YtkndhjchlnepmaaGreatDoor.F
open Go.RowKit Go.Proofs.YtkndhjchlnepmaaGreatDoorW.PrintWords Go.Proofs.YtkndhjchlnepmaaGreatDoorW.PrintLast Go.Proofs.YtkndhjchlnepmaaGreatDoor.Lin
open Go.Lib
def listTxt (l : List Int) : List UInt8 := if l.length = 0 then [45] else join (l.map itoa) [44]
def fits (l : List Int) : Bool := decide (l.length ≤ 64) && l.all (fun x => decide (-1000000000000 ≤ x ∧ x ≤ 1000000000000))
def listText (l : List Int) : List UInt8 := if fits l = true then listTxt l else []
theorem in_tellsT (n lo hi : Int) : spec_l00In.f n lo hi = some (decide (lo ≤ n ∧ n ≤ hi)) := by
  unfold spec_l00In.f
  by_cases h : n ≥ lo
  · rw [if_pos h]; congr 1; exact decide_eq_decide.mpr ⟨fun h2 => ⟨h, h2⟩, fun h2 => h2.2⟩
  · rw [if_neg h]; congr 1; exact (decide_eq_false (fun h2 => h h2.1)).symm
theorem fits_at {l : List Int} (h : fits l = true) : l.length ≤ 64 ∧ ∀ x ∈ l, -1000000000000 ≤ x ∧ x ≤ 1000000000000 := by
  unfold fits at h
  rw [Bool.and_eq_true, decide_eq_true_eq, List.all_eq_true] at h
  exact ⟨h.1, fun x hx => of_decide_eq_true (h.2 x hx)⟩
theorem itoa_short {x : Int} (h0 : -9223372036854775808 ≤ x) (h1 : x ≤ 9223372036854775807) : (itoa x).length ≤ 21 := by
  have h := revDig_length x.natAbs (Nat.lt_of_lt_of_le (show x.natAbs < 10000000000000000000 by omega) (by decide))
  unfold revDig at h
  rw [List.length_map, List.length_reverse] at h
  unfold itoa
  split
  · rw [List.length_cons]; omega
  · rename_i hx
    rw [show x.toNat = x.natAbs by omega]; omega
theorem join_short : ∀ (xs : List (List UInt8)) (n : Nat), (∀ x ∈ xs, x.length ≤ n) → (join xs [44]).length ≤ xs.length * (n + 1)
  | [], _, _ => by rw [join_nil]; simp
  | [x], n, h => by rw [join_one]; have := h x (by simp); simp; omega
  | x :: y :: r, n, h => by
    rw [join_cons2, List.length_append, List.length_append]
    have h1 := h x (by simp)
    have h2 := join_short (y :: r) n (fun z hz => h z (List.mem_cons_of_mem _ hz))
    rw [List.length_cons (a := x), Nat.add_mul, Nat.one_mul]
    have : ([44] : List UInt8).length = 1 := rfl
    omega
theorem take_map_succ {l : List Int} {i : Nat} (h : i < l.length) : (l.take (i + 1)).map itoa = (l.take i).map itoa ++ [itoa l[i]] := by
  rw [List.take_add_one, List.getElem?_eq_getElem h, List.map_append]; rfl
theorem any_fits (l : List Int) : (l.any noValue) = !(l.all (fun x => decide (-1000000000000 ≤ x ∧ x ≤ 1000000000000))) := by
  induction l with
  | nil => rfl
  | cons x l ih =>
    rw [List.any_cons, List.all_cons, ih]
    unfold noValue
    by_cases h1 : -1000000000000 ≤ x
    · by_cases h2 : x ≤ 1000000000000
      · simp [h1, h2]
      · simp [h1, h2]
    · simp [h1]
theorem implText_loop (l : List Int) (hl : l.length ≤ 64) (hw : ∀ x ∈ l, -9223372036854775808 ≤ x ∧ x ≤ 9223372036854775807) : ∀ (d i k : Nat), l.length - i = d → i ≤ l.length → d + 1 ≤ k →
    impl_ListText.l0 k (((l.take i).map itoa).map B) l l.length i = some (B (join (l.map itoa) [44])) := by
  intro d
  induction d with
  | zero =>
    intro i k hd hi hk
    obtain ⟨k, rfl⟩ : ∃ q, k = q + 1 := ⟨k - 1, by omega⟩
    simp only [impl_ListText.l0]
    have hid : ((l.map itoa).map B).map (fun x : ByteArray => x.data.toList) = l.map itoa := by
      rw [List.map_map]
      exact (List.map_congr_left (fun x _ => rfl)).trans (List.map_id _)
    have hlen : (join (l.map itoa) [44]).length ≤ 1408 := by
      refine Nat.le_trans (join_short _ 21 (fun x hx => ?_)) ?_
      · obtain ⟨y, hy, rfl⟩ := List.mem_map.mp hx
        have := hw y hy
        exact itoa_short this.1 this.2
      · rw [List.length_map]; omega
    rw [if_neg (by omega), List.take_of_length_le (by omega)]
    unfold strings_Join.f
    have e44 : (⟨#[44]⟩ : ByteArray).data.toList = [44] := rfl
    rw [hid, e44, if_pos ⟨by simp; omega, by omega⟩]
    rfl
  | succ d ih =>
    intro i k hd hi hk
    obtain ⟨k, rfl⟩ : ∃ q, k = q + 1 := ⟨k - 1, by omega⟩
    have hlt : i < l.length := by omega
    have hb := hw l[i] (List.getElem_mem hlt)
    simp only [impl_ListText.l0]
    rw [if_pos (by omega), if_pos (by omega), if_pos (by omega), rd_nat, getD_at hlt, decimal_tells hb.1 hb.2, Option.bind_some, if_pos (by simp; omega), w64_succ (n := l.length) hlt (by omega)]
    have := ih (i + 1) k (by omega) (by omega) (by omega)
    rw [take_map_succ hlt, List.map_append] at this
    exact this
theorem implListText_tells (l : List Int) (hl : l.length ≤ 35184372088832) (hw : ∀ x ∈ l, -9223372036854775808 ≤ x ∧ x ≤ 9223372036854775807) {k : Nat} (hk : 100 ≤ k) : impl_ListText.f k l = some (B (listText l)) := by
  obtain ⟨k, rfl⟩ : ∃ q, k = q + 1 := ⟨k - 1, by omega⟩
  unfold impl_ListText.f listText
  have jt : impl_ListText.j0 (k + 1) l true = some (B []) := by simp only [impl_ListText.j0]; rw [if_pos trivial]; rfl
  by_cases h64 : l.length ≤ 64
  · rw [if_neg (by omega)]
    unfold impl_ListText_1.any.f
    rw [Option.bind_some, any_fits]
    by_cases h : fits l = true
    · have h2 := h
      unfold fits at h2
      rw [decide_eq_true h64, Bool.true_and] at h2
      rw [h2, if_pos h]
      simp only [impl_ListText.j0, Bool.not_true]
      rw [if_neg (by decide)]
      unfold listTxt
      by_cases h0 : l.length = 0
      · rw [if_pos (by omega), if_pos h0]; rfl
      · rw [if_neg (by omega), if_neg h0]
        exact implText_loop l h64 hw l.length 0 k (by omega) (by omega) (by omega)
    · have h2 := Bool.eq_false_iff.mpr h
      unfold fits at h2
      rw [decide_eq_true h64, Bool.true_and] at h2
      rw [h2, if_neg h]
      exact jt
  · rw [if_pos (by omega), jt, if_neg]
    intro h
    exact h64 (fits_at h).1
end Go.Proofs.YtkndhjchlnepmaaGreatDoor.F
end

section
set_option linter.unusedVariables false
set_option linter.unusedSimpArgs false
set_option linter.unusedSectionVars false
namespace Go.Proofs.YtkndhjchlnepmaaGreatDoor.F
open Go.RowKit Go.Proofs.YtkndhjchlnepmaaGreatDoorW.PrintWords Go.Proofs.YtkndhjchlnepmaaGreatDoorW.PrintLast Go.Proofs.YtkndhjchlnepmaaGreatDoor.Lin
theorem w64_id {x : Int} (h0 : -9223372036854775808 ≤ x) (h1 : x ≤ 9223372036854775807) : wrap64 x = x := by unfold wrap64; omega
theorem same_in : impl_within.f = spec_l00In.f := rfl
theorem in_tells (n lo hi : Int) : spec_l00In.f n lo hi = some (decide (lo ≤ n ∧ n ≤ hi)) := by
  unfold spec_l00In.f
  by_cases h : n ≥ lo
  · have : lo ≤ n := h
    simp [this]
  · have : ¬ lo ≤ n := h
    simp [this]
theorem ask_prime : impl_ValidPrime.f = spec_l02Prime.f := by kernel_rfl
theorem prime_small : ∀ n, n < 252 → spec_l02Prime.f 20 (n : Nat) = some (isP n) := by decide +kernel
theorem prime_at (p : Int) : spec_l02Prime.f 20 p = some (isP p) := by
  by_cases h : 2 ≤ p ∧ p ≤ 251
  · obtain ⟨n, rfl⟩ := Int.eq_ofNat_of_zero_le (show 0 ≤ p by omega)
    exact prime_small n (by omega)
  · have : isP p = false := by unfold isP; simp; omega
    rw [this]
    unfold spec_l02Prime.f spec_l00In.f
    by_cases h1 : p ≥ 2
    · have : ¬ p ≤ 251 := by omega
      simp [h1, this]
    · simp [h1]
theorem prime_tells (p : Int) {k : Nat} (hk : 20 ≤ k) : spec_l02Prime.f k p = some (isP p) := at_rounds (spec_l02Prime.mono p) hk (prime_at p)
def tab (r c : Nat) (f : Nat → Nat → Int) : List Int := (List.range (r * c)).map fun x => f (x / c) (x % c)
theorem lt_nat {i n : Nat} (h : i < n) : (i : Int) < (n : Int) := Int.ofNat_lt.mpr h
theorem nlt_nat {i n : Nat} (h : n ≤ i) : ¬ (i : Int) < (n : Int) := by omega
theorem idx0 (n : Nat) : (0 : Int) ≤ ((n : Nat) : Int) := Int.natCast_nonneg n
theorem tab_length (r c : Nat) (f) : (tab r c f).length = r * c := by unfold tab; simp
theorem at_div {c i j : Nat} (h : j < c) : (i * c + j) / c = i ∧ (i * c + j) % c = j := by
  rw [Nat.mul_comm]
  exact ⟨by rw [Nat.mul_add_div (by omega), Nat.div_eq_of_lt h]; omega, by rw [Nat.mul_add_mod, Nat.mod_eq_of_lt h]⟩
theorem at_lt {r c i j : Nat} (hi : i < r) (hj : j < c) : i * c + j < r * c := by
  have : (i + 1) * c ≤ r * c := Nat.mul_le_mul_right _ hi
  rw [Nat.succ_mul] at this
  omega
theorem tab_getD {r c : Nat} (f) {x : Nat} (h : x < r * c) : (tab r c f).getD x 0 = f (x / c) (x % c) := by
  unfold tab; simp [List.getD_eq_getElem?_getD, h]
theorem tab_at {r c i j : Nat} (f) (hi : i < r) (hj : j < c) : (tab r c f).getD (i * c + j) 0 = f i j := by
  rw [tab_getD f (at_lt hi hj), (at_div hj).1, (at_div hj).2]
theorem split_at {r c x : Nat} (h : x < r * c) : x / c < r ∧ x % c < c ∧ x / c * c + x % c = x := by
  have hc : 0 < c := by rcases Nat.eq_zero_or_pos c with e | e; · subst e; simp at h
                        · exact e
  exact ⟨Nat.div_lt_of_lt_mul (by rw [Nat.mul_comm]; exact h), Nat.mod_lt _ hc, Nat.div_add_mod' x c⟩
theorem tab_ext {r c : Nat} {f} {l : List Int} (hl : l.length = r * c) (h : ∀ i j, i < r → j < c → l.getD (i * c + j) 0 = f i j) : l = tab r c f := by
  refine ext_getD (by rw [hl, tab_length]) (fun x hx => ?_)
  rw [hl] at hx
  obtain ⟨h1, h2, h3⟩ := split_at hx
  have := h _ _ h1 h2
  rw [h3] at this
  rw [this, tab_getD f hx]
theorem side_mul {r c : Nat} (hr : r ≤ 128) (hc : c ≤ 128) : r * c ≤ 16384 := Nat.mul_le_mul hr hc
theorem w64_mulN {r c : Nat} (hr : r ≤ 128) (hc : c ≤ 128) : wrap64 ((r : Int) * (c : Int)) = ((r * c : Nat) : Int) := by
  have h := side_mul hr hc
  have e : (r : Int) * (c : Int) = ((r * c : Nat) : Int) := by push_cast; rfl
  rw [e, w64_id (x := ((r * c : Nat) : Int)) (by omega) (by omega)]
theorem side_tells (n : Int) : impl_isSide.f n = some (decide (0 ≤ n ∧ n ≤ 32)) := by
  unfold impl_isSide.f
  rw [same_in, in_tells]; rfl
theorem slice_row {l : List Int} {r c i : Nat} (hl : l.length = r * c) (hi : i < r) : (l.take ((i + 1) * c)).drop (i * c) = (List.range c).map (fun j => l.getD (i * c + j) 0) := by
  have h1 : (i + 1) * c ≤ r * c := Nat.mul_le_mul_right _ hi
  have h2 := Nat.succ_mul i c
  have h4 : ((l.take ((i + 1) * c)).drop (i * c)).length = c := by
    rw [List.length_drop, List.length_take, Nat.min_eq_left (by rw [hl]; exact h1), h2, Nat.add_sub_cancel_left]
  refine List.ext_getElem (by rw [h4]; simp) (fun j hj hj' => ?_)
  have hj2 : j < c := by rw [h4] at hj; exact hj
  have h3 := at_lt hi hj2
  rw [List.getElem_drop, List.getElem_take, List.getElem_map, List.getElem_range, List.getD_eq_getElem?_getD, List.getElem?_eq_getElem (by omega)]
  rfl
end Go.Proofs.YtkndhjchlnepmaaGreatDoor.F
end

section
set_option linter.unusedVariables false
set_option linter.unusedSimpArgs false
set_option linter.unusedSectionVars false
namespace Go.Proofs.YtkndhjchlnepmaaGreatDoor.Lin
def pinv (p a : Int) : Int := a ^ (p - 2).toNat % p
/-! ### Rows as lists -/
def RowOk (p : Int) (n : Nat) (r : List Int) : Prop := r.length = n ∧ ∀ x, x ∈ r → 0 ≤ x ∧ x < p
def RowsOk (p : Int) (n : Nat) (rows : List (List Int)) : Prop := ∀ r, r ∈ rows → RowOk p n r
def cell (rows : List (List Int)) (i j : Nat) : Int := (rows.getD i []).getD j 0
theorem RowsOk.cell {p : Int} {n : Nat} {rows : List (List Int)} (h : RowsOk p n rows) (hp : 0 < p) (i j : Nat) : 0 ≤ cell rows i j ∧ cell rows i j < p := by
  unfold Lin.cell
  rw [List.getD_eq_getElem?_getD, List.getD_eq_getElem?_getD]
  by_cases hi : i < rows.length
  · rw [List.getElem?_eq_getElem hi]
    simp only [Option.getD_some]
    by_cases hj : j < (rows[i]).length
    · rw [List.getElem?_eq_getElem hj]
      exact (h _ (List.getElem_mem hi)).2 _ (List.getElem_mem hj)
    · rw [List.getElem?_eq_none (by omega)]; exact ⟨Int.le_refl 0, hp⟩
  · rw [List.getElem?_eq_none (show rows.length ≤ i by omega)]; simp; omega
def findPivot (rows : List (List Int)) (top c : Nat) : Option Nat := (rows.drop top).findIdx? (fun r => decide (r.getD c 0 ≠ 0))
def swapRows (rows : List (List Int)) (a b : Nat) : List (List Int) := (rows.set a (rows.getD b [])).set b (rows.getD a [])
def clearRow (p : Int) (c : Nat) (q r : List Int) : List Int := if r.getD c 0 = 0 then r else addRow p r q (p - r.getD c 0)
def clearAll (p : Int) (c top : Nat) (q : List Int) (rows : List (List Int)) : List (List Int) := rows.mapIdx (fun i r => if i = top then r else clearRow p c q r)
def elimStep (p : Int) (s : List (List Int) × List Int × Int) (c : Nat) : List (List Int) × List Int × Int :=
  match findPivot s.1 s.2.1.length c with
  | none => (s.1, s.2.1, 0)
  | some k =>
    let top := s.2.1.length
    let rows := if k = 0 then s.1 else swapRows s.1 top (top + k)
    let lead := cell rows top c
    let q := (rows.getD top []).map (fun x => pinv p lead * x % p)
    (clearAll p c top q (rows.set top q), s.2.1 ++ [(c : Int)], (if k = 0 then s.2.2 else -s.2.2 % p) * lead % p)
def elimTo (p : Int) (rows : List (List Int)) (c : Nat) : List (List Int) × List Int × Int := (List.range c).foldl (elimStep p) (rows, [], 1)
def elim (p : Int) (n : Nat) (rows : List (List Int)) : List (List Int) × List Int × Int := elimTo p rows n
theorem getD_mem {α : Type} {l : List α} {i : Nat} {d : α} (h : i < l.length) : l.getD i d ∈ l := by
  rw [List.getD_eq_getElem?_getD, List.getElem?_eq_getElem h]; exact List.getElem_mem h
theorem addRow_ok {p : Int} {n : Nat} {a b : List Int} (c : Int) (hp : 0 < p) (ha : a.length = n) (hb : b.length = n) : RowOk p n (addRow p a b c) := by
  refine ⟨by unfold addRow; simp [ha, hb], fun x hx => ?_⟩
  unfold addRow at hx
  rw [List.mem_iff_getElem] at hx
  obtain ⟨j, hj, rfl⟩ := hx
  rw [List.getElem_zipWith]
  exact ⟨Int.emod_nonneg _ (by omega), Int.emod_lt_of_pos _ hp⟩
theorem RowsOk.set {p : Int} {n : Nat} {rows : List (List Int)} (h : RowsOk p n rows) {r : List Int} (hr : RowOk p n r) (k : Nat) : RowsOk p n (rows.set k r) := fun x hx => by
  rcases List.mem_or_eq_of_mem_set hx with h1 | h1
  · exact h x h1
  · rw [h1]; exact hr
theorem clearRow_ok {p : Int} {n : Nat} {q r : List Int} (c : Nat) (hp : 0 < p) (hq : q.length = n) (hr : RowOk p n r) : RowOk p n (clearRow p c q r) := by
  unfold clearRow
  split
  · exact hr
  · exact addRow_ok _ hp hr.1 hq
theorem RowsOk.clear {p : Int} {n : Nat} {rows : List (List Int)} (h : RowsOk p n rows) (hp : 0 < p) {q : List Int} (hq : q.length = n) (c top : Nat) : RowsOk p n (clearAll p c top q rows) := fun x hx => by
  unfold clearAll at hx
  obtain ⟨i, hi, rfl⟩ := List.mem_mapIdx.mp hx
  split
  · exact h _ (List.getElem_mem hi)
  · exact clearRow_ok c hp hq (h _ (List.getElem_mem hi))
end Go.Proofs.YtkndhjchlnepmaaGreatDoor.Lin
end

section
set_option linter.unusedVariables false
set_option linter.unusedSimpArgs false
set_option linter.unusedSectionVars false
namespace Go.Proofs.YtkndhjchlnepmaaGreatDoor.F
open Go.RowKit Go.Proofs.YtkndhjchlnepmaaGreatDoorW.PrintWords Go.Proofs.YtkndhjchlnepmaaGreatDoorW.PrintLast Go.Proofs.YtkndhjchlnepmaaGreatDoor.Lin
theorem rdL_nat (l : List (List Int)) (i : Nat) : rd_L2 l (i : Int) = l.getD i [] := by unfold rd_L2; rw [Int.toNat_natCast]
def rowsM (R C : Nat) (l : List Int) : List (List Int) := (List.range R).map (fun i => (List.range C).map (fun j => l.getD (i * C + j) 0))
theorem rowsM_length (R C : Nat) (l : List Int) : (rowsM R C l).length = R := by unfold rowsM; simp
theorem rowsM_snoc (R C : Nat) (l : List Int) : rowsM R C l ++ [(List.range C).map (fun j => l.getD (R * C + j) 0)] = rowsM (R + 1) C l := by
  unfold rowsM; rw [List.range_succ, List.map_append]; rfl
theorem rowsM_ok {p : Int} {R C : Nat} {l : List Int} (h : ∀ j, 0 ≤ l.getD j 0 ∧ l.getD j 0 < p) : RowsOk p C (rowsM R C l) := fun r hr => by
  unfold rowsM at hr
  obtain ⟨i, _, rfl⟩ := List.mem_map.mp hr
  refine ⟨by simp, fun x hx => ?_⟩
  obtain ⟨j, _, rfl⟩ := List.mem_map.mp hx
  exact h _
theorem rowsM_cell {R C i j : Nat} (l : List Int) (hi : i < R) (hj : j < C) : cell (rowsM R C l) i j = l.getD (i * C + j) 0 := by
  unfold cell rowsM
  simp [List.getD_eq_getElem?_getD, hi, hj]
theorem rowsM_tab {R C : Nat} {l : List Int} (hl : l.length = R * C) : tab R C (cell (rowsM R C l)) = l :=
  (tab_ext hl (fun i j hi hj => (rowsM_cell l hi hj).symm)).symm
theorem clone_tells {p r : Int} {R C : Nat} {l : List Int} (hR : R ≤ 64) (hC : C ≤ 70) (hl : l.length = R * C) {i : Nat} (hi : i < R) :
    slices_Clone_int64_int64.f p r C l i = some ((List.range C).map (fun j => l.getD (i * C + j) 0)) := by
  unfold slices_Clone_int64_int64.f
  have h1 : (i + 1) * C ≤ R * C := Nat.mul_le_mul_right _ hi
  have h2 : i * C ≤ (i + 1) * C := Nat.mul_le_mul_right _ (by omega)
  rw [w64_succ (n := 64) (i := i) (by omega) (by omega), w64_mulN (r := i) (by omega) (by omega), w64_mulN (r := i + 1) (by omega) (by omega), if_pos (idx0 _), if_pos (by omega), if_pos (by omega), Int.toNat_natCast, Int.toNat_natCast, slice_row hl hi]
  rw [if_pos (by simp; omega)]
theorem rowsOf_loop {p r : Int} {R C : Nat} {l : List Int} (hR : R ≤ 64) (hC : C ≤ 70) (hl : l.length = R * C) (d : Nat) : ∀ k i, R - i = d → i ≤ R → d < k → impl_rowsOf.l0 k (rowsM i C l) R i p r C l = some (rowsM R C l) := by
  induction d with
  | zero =>
    intro k i hd hi hk
    obtain ⟨k, rfl⟩ : ∃ m, k = m + 1 := ⟨k - 1, by omega⟩
    obtain rfl : i = R := by omega
    simp only [impl_rowsOf.l0]
    rw [if_neg (nlt_nat (Nat.le_refl _))]
  | succ d ih =>
    intro k i hd hi hk
    obtain ⟨k, rfl⟩ : ∃ m, k = m + 1 := ⟨k - 1, by omega⟩
    have hiR : i < R := by omega
    simp only [impl_rowsOf.l0]
    rw [if_pos (lt_nat hiR), clone_tells hR hC hl hiR, Option.bind_some, if_pos (by rw [rowsM_length]; omega), rowsM_snoc, w64_succ (n := 64) (by omega) (by omega)]
    exact ih k (i + 1) (by omega) (by omega) (by omega)
theorem rowsOf_tells {p : Int} {R C : Nat} {l : List Int} (hR : R ≤ 64) (hC : C ≤ 70) (hl : l.length = R * C) {k : Nat} (hk : R < k) : impl_rowsOf.f k p R C l = some (rowsM R C l) := by
  unfold impl_rowsOf.f
  exact rowsOf_loop hR hC hl R k 0 (by omega) (by omega) hk
theorem take_flatten_succ {α : Type} (rs : List (List α)) {i : Nat} (hi : i < rs.length) : (rs.take (i + 1)).flatten = (rs.take i).flatten ++ rs.getD i [] := by
  rw [List.take_add_one, List.getElem?_eq_getElem hi, List.flatten_append, getD_at hi]
  simp
theorem tab_snoc (r c : Nat) (f : Nat → Nat → Int) : tab (r + 1) c f = tab r c f ++ (List.range c).map (f r) := by
  symm
  refine tab_ext (by rw [List.length_append, tab_length]; simp [Nat.succ_mul]) (fun i j hi hj => ?_)
  rw [List.getD_eq_getElem?_getD, List.getElem?_append, tab_length]
  by_cases h : i < r
  · have := at_lt h hj
    rw [if_pos this, ← List.getD_eq_getElem?_getD, tab_at f h hj]
  · obtain rfl : i = r := by omega
    rw [if_neg (by omega)]
    have e : i * c + j - i * c = j := by omega
    rw [e]
    simp [hj]
theorem flatten_tab {p : Int} {C : Nat} {rs : List (List Int)} (hok : RowsOk p C rs) (i : Nat) (hi : i ≤ rs.length) : (rs.take i).flatten = tab i C (cell rs) := by
  induction i with
  | zero => unfold tab; simp
  | succ i ih =>
    have hiR : i < rs.length := by omega
    rw [take_flatten_succ rs hiR, ih (by omega), tab_snoc]
    congr 1
    have h := (hok _ (getD_mem (d := []) hiR)).1
    refine ext_getD (by simpa using h) (fun j hj => ?_)
    rw [h] at hj
    show cell rs i j = _
    simp [List.getD_eq_getElem?_getD, hj]
theorem flatten_rows {p : Int} {C : Nat} {rs : List (List Int)} (hok : RowsOk p C rs) : rs.flatten = tab rs.length C (cell rs) := by
  have := flatten_tab hok rs.length (Nat.le_refl _)
  rwa [List.take_length] at this
theorem row_of_tab {p : Int} {C : Nat} {rs : List (List Int)} (hok : RowsOk p C rs) {i : Nat} (hi : i < rs.length) : ((tab rs.length C (cell rs)).take ((i + 1) * C)).drop (i * C) = rs.getD i [] := by
  rw [slice_row (tab_length _ _ _) hi]
  have h := (hok _ (getD_mem (d := []) hi)).1
  refine ext_getD (by simpa using h.symm) (fun j hj => ?_)
  have hj' : j < C := by simpa using hj
  rw [← h] at hj'
  have e := tab_at (cell rs) hi (show j < C by omega)
  simp only [List.getD_eq_getElem?_getD, List.getElem?_map, List.getElem?_range (show j < C by omega), Option.map_some, Option.getD_some] at e ⊢
  rw [e]
  unfold cell
  simp only [List.getD_eq_getElem?_getD]
def iota (m : Int) (n : Nat) : List Int := (List.range n).map (fun j : Nat => m + (j : Int))
theorem iota_length (m : Int) (n : Nat) : (iota m n).length = n := by unfold iota; simp
theorem iota_getD (m : Int) {n j : Nat} (h : j < n) : (iota m n).getD j 0 = m + j := by unfold iota; simp [List.getD_eq_getElem?_getD, h]
theorem mark_loop {m0 : Int} {n : Nat} (hm : 0 ≤ m0) (hm' : m0 + n ≤ 4611686018427387904) (hn : n ≤ 35184372088832) (d : Nat) : ∀ (k i : Nat) (acc : List Int) (m : Int), n - i = d → i ≤ n → d < k → acc.length = n → m = m0 + i → (∀ j, j < i → acc.getD j 0 = m0 + j) →
    laws_markInt64S.l0 k acc m i = some (m0 + n, iota m0 n) := by
  induction d with
  | zero =>
    intro k i acc m hd hi hk ha he h
    obtain ⟨k, rfl⟩ : ∃ m, k = m + 1 := ⟨k - 1, by omega⟩
    simp only [laws_markInt64S.l0]
    rw [if_neg (by omega)]
    have e1 : m = m0 + n := by omega
    have e2 : acc = iota m0 n := ext_getD (by rw [iota_length, ha]) (fun j hj => by rw [h j (by omega), iota_getD m0 (by omega)])
    rw [e1, e2]
  | succ d ih =>
    intro k i acc m hd hi hk ha he h
    obtain ⟨k, rfl⟩ : ∃ m, k = m + 1 := ⟨k - 1, by omega⟩
    simp only [laws_markInt64S.l0]
    rw [if_pos (by omega), if_pos (by omega), w64_succ (n := n) (by omega) hn, Int.toNat_natCast, w64_idV (x := m + 1) (by omega) (by omega)]
    refine ih k (i + 1) _ (m + 1) (by omega) (by omega) (by omega) (by simp [ha]) (by omega) (fun j hj => ?_)
    rw [getD_set _ _ _ _ (by omega)]
    by_cases e : j = i
    · rw [if_pos e, e]; exact he
    · rw [if_neg e]; exact h j (by omega)
theorem mark_tells {l : List Int} {m : Int} (hm : 0 ≤ m) (hm' : m + l.length ≤ 4611686018427387904) (hl : l.length ≤ 35184372088832) {k : Nat} (hk : l.length < k) : laws_markInt64S.f k l m = some (m + l.length, iota m l.length) := by
  unfold laws_markInt64S.f
  exact mark_loop hm hm' hl l.length k 0 l m (by omega) (by omega) hk rfl (by omega) (fun j hj => by omega)
theorem held_loop {m0 : Int} {n : Nat} (hm : 0 ≤ m0) (hm' : m0 + n ≤ 4611686018427387904) (hn : n ≤ 35184372088832) (d : Nat) : ∀ (k i : Nat) (m : Int), n - i = d → i ≤ n → d < k → m = m0 + i →
    laws_heldInt64S.l0 k (iota m0 n) m i = some (m0 + n) := by
  induction d with
  | zero =>
    intro k i m hd hi hk he
    obtain ⟨k, rfl⟩ : ∃ m, k = m + 1 := ⟨k - 1, by omega⟩
    simp only [laws_heldInt64S.l0, iota_length]
    rw [if_neg (by omega)]
    have e1 : m = m0 + n := by omega
    rw [e1]
  | succ d ih =>
    intro k i m hd hi hk he
    obtain ⟨k, rfl⟩ : ∃ m, k = m + 1 := ⟨k - 1, by omega⟩
    simp only [laws_heldInt64S.l0, iota_length]
    rw [if_pos (by omega), if_pos (by omega), rd_nat, iota_getD m0 (by omega), if_pos he.symm, w64_succ (n := n) (by omega) hn, w64_idV (x := m + 1) (by omega) (by omega)]
    exact ih k (i + 1) (m + 1) (by omega) (by omega) (by omega) (by omega)
theorem held_tells {m : Int} {n : Nat} (hm : 0 ≤ m) (hm' : m + n ≤ 4611686018427387904) (hn : n ≤ 35184372088832) {k : Nat} (hk : n < k) : laws_heldInt64S.f k (iota m n) m = some (m + n) := by
  unfold laws_heldInt64S.f
  exact held_loop hm hm' hn n k 0 m (by omega) (by omega) hk (by omega)
end Go.Proofs.YtkndhjchlnepmaaGreatDoor.F
end
