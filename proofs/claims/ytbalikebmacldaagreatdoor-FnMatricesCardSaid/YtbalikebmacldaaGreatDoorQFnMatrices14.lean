-- Texts of this claim, merged by packw.py (a program of this session's).
import Derived.Test.YtbalikebmacldaaGreatDoorQFnMatrices3
import Derived.Test.YtbalikebmacldaaGreatDoorQFnMatrices4
import Derived.Test.YtbalikebmacldaaGreatDoorQFnMatrices13
import Derived.KernelRfl
import Derived.Test.YtbalikebmacldaaGreatDoorQFnMatrices9
import Derived.Test.YtbalikebmacldaaGreatDoorQFnMatrices11
import Derived.Lib.ItoaNum
import Derived.Lib.ParseIntB
import Derived.Lib.Strings
import Derived.Test.YtbalikebmacldaaGreatDoorQFnMatrices7
import Derived.Lib.Split
import Derived.Lib.IndexBytes
import Derived.Lib.Join
import Derived.WideShapes
import Derived.Test.YtbalikebmacldaaGreatDoorQFnMatrices5
import Derived.Test.YtbalikebmacldaaGreatDoorQFnMatrices6
import Derived.Test.YtbalikebmacldaaGreatDoorQFnMatrices8

section
set_option linter.unusedVariables false
set_option linter.unusedSimpArgs false
set_option linter.unusedSectionVars false
namespace Go.Proofs.YtbalikebmacldaaGreatDoor.F
open Go.RowKit Go.Proofs.YtbalikebmacldaaGreatDoorW.PrintWords Go.Proofs.YtbalikebmacldaaGreatDoorW.PrintLast Go.Proofs.YtbalikebmacldaaGreatDoor.Lin
theorem bytesR_of {l : List Int} (h : ∀ x ∈ l, (Lit.int .u8 x).wf = true) : Bytes l := fun x hx => by
  have := h x hx
  simp [Lit.wf, IntKind.min, IntKind.max, IntKind.signed, IntKind.bits] at this
  omega
theorem r8prime_tells {l : List Int} (hl : Bytes l) : ∃ p, spec_R8Prime.f l = some p ∧ isP p = true := by
  unfold spec_R8Prime.f spec_l00From.f spec_l03DrawPrime.f
  simp only [Option.bind_some]
  obtain ⟨v, at2, s2, e2, hv, g3, g4⟩ := among_tells hl 0 (xs := [2, 2, 3, 5, 7, 31, 251]) (by simp) (at_ := 0) (by omega) (by omega)
  rw [e2]
  refine ⟨v, rfl, ?_⟩
  simp at hv
  rcases hv with h | h | h | h | h | h <;> subst h <;> decide
def OkL (p : Int) (o : List Int) : Prop := ∀ j, 0 ≤ o.getD j 0 ∧ o.getD j 0 < p
theorem okL_set {p : Int} {o : List Int} (h : OkL p o) {i : Nat} {v : Int} (hi : i < o.length) (h0 : 0 ≤ v) (h1 : v < p) : OkL p (o.set i v) := fun j => by
  rw [getD_set o i v 0 hi]
  split
  · exact ⟨h0, h1⟩
  · exact h j
theorem okL_zeros {p : Int} (hp : 2 ≤ p) (n : Nat) : OkL p (List.replicate n 0) := fun j => by
  have e : (List.replicate n (0 : Int)).getD j 0 = 0 := by
    simp only [List.getD_eq_getElem?_getD, List.getElem?_replicate]
    split <;> rfl
  rw [e]; omega
theorem fillRow_loop {p : Int} (hp : 2 ≤ p) (hp' : p ≤ 251) {R C : Nat} (hR : R ≤ 64) (hC : C ≤ 64) (h2 : 1 < R) (l : List Int) (at_ s q1 q2 q3 : Int) (d : Nat) : ∀ (k i : Nat) (o : List Int), C - i = d → i ≤ C → d < k → o.length = R * C → OkL p o →
    ∃ o', spec_l03Fill.l1 k p R C i l at_ s q1 q2 q3 o = some (q1, q2, q3, o', at_, s) ∧ o'.length = R * C ∧ OkL p o' := by
  induction d with
  | zero =>
    intro k i o hd hi hk ho hok
    obtain ⟨k, rfl⟩ : ∃ m, k = m + 1 := ⟨k - 1, by omega⟩
    simp only [spec_l03Fill.l1]
    rw [if_neg (by omega)]
    exact ⟨o, rfl, ho, hok⟩
  | succ d ih =>
    intro k i o hd hi hk ho hok
    obtain ⟨k, rfl⟩ : ∃ m, k = m + 1 := ⟨k - 1, by omega⟩
    have hm := side_mul (r := R) (c := C) (by omega) (by omega)
    have hlt : i < R * C := by
      have := at_lt (r := R) (c := C) (i := 0) (j := i) (by omega) (by omega)
      omega
    have hlt2 := at_lt (r := R) (c := C) (i := R - 1) (j := i) (by omega) (by omega)
    have hx := hok i
    have g1 : (i : Int) < (C : Int) := by omega
    have g2 : (0 : Int) ≤ (i : Int) := by omega
    have g3 : (i : Int) < (o.length : Int) := by rw [ho]; omega
    have g4 : ¬ p = 0 := by omega
    have g5 : (0 : Int) ≤ (((R - 1) * C + i : Nat) : Int) := by omega
    have g6 : (((R - 1) * C + i : Nat) : Int) < (o.length : Int) := by rw [ho]; omega
    have g7 : (R - 1) * C + i < o.length := by omega
    have g9 : i < C := by omega
    have g10 : C ≤ 35184372088832 := by omega
    have f1 : C - (i + 1) = d := by omega
    have f2 : i + 1 ≤ C := by omega
    have f3 : d < k := by omega
    have m1 : 0 ≤ o.getD i 0 * 2 % p := Int.emod_nonneg _ g4
    have m2 : o.getD i 0 * 2 % p < p := Int.emod_lt_of_pos _ (by omega)
    have e3 : Int.tmod (wrap64 (rd o i * 2)) p = (o.getD i 0 * 2) % p := by
      rw [rd_nat, w64_id (x := o.getD i 0 * 2) (by omega) (by omega), Int.tmod_eq_emod_of_nonneg (by omega)]
    have e1 : wrap64 ((R : Int) - 1) = ((R - 1 : Nat) : Int) := by rw [w64_id (x := (R : Int) - 1) (by omega) (by omega)]; omega
    have e2 := w64_at (r := R) (c := C) (i := R - 1) (j := i) (by omega) (by omega) (by omega) (by omega)
    have hw : wrap64 ((i : Int) + 1) = ((i + 1 : Nat) : Int) := w64_succ (n := C) g9 g10
    simp only [spec_l03Fill.l1]
    rw [if_pos g1, if_pos g2, if_pos g3, if_neg g4, e1, e2, if_pos g5, if_pos g6, hw, e3, Int.toNat_natCast]
    exact ih k (i + 1) _ f1 f2 f3 (by rw [List.length_set]; exact ho) (okL_set hok g7 m1 m2)
theorem fillEnd_tells {p : Int} (hp : 2 ≤ p) (hp' : p ≤ 251) {R C : Nat} (hR : R ≤ 64) (hC : C ≤ 64) (b : Bool) (hb : b = true → 1 < R) (l : List Int) (at_ s q1 q2 q3 : Int) {k : Nat} (hk : C + 1 < k) {o : List Int} (ho : o.length = R * C) (hok : OkL p o) :
    ∃ o', spec_l03Fill.j1 k p R C b l at_ s q1 q2 q3 o = some (q1, q2, q3, o', at_, s) ∧ o'.length = R * C ∧ OkL p o' := by
  obtain ⟨k, rfl⟩ : ∃ m, k = m + 1 := ⟨k - 1, by omega⟩
  simp only [spec_l03Fill.j1]
  cases b with
  | false => exact ⟨o, rfl, ho, hok⟩
  | true =>
    rw [if_pos rfl]
    exact fillRow_loop hp hp' hR hC (hb rfl) l at_ s q1 q2 q3 C k 0 o (by omega) (by omega) (by omega) ho hok
theorem fill_loop {l : List Int} (hl : Bytes l) {p : Int} (hp : 2 ≤ p) (hp' : p ≤ 251) {R C : Nat} (hR : R ≤ 64) (hC : C ≤ 64) (q1 q2 q3 : Int) (d : Nat) : ∀ (k i : Nat) (o : List Int) (at_ seed : Int), R * C - i = d → i ≤ R * C → d + C + 3 < k → o.length = R * C → OkL p o → 0 ≤ at_ → at_ + 4 * (d : Int) ≤ 1000000 →
    ∃ o' at' s', spec_l03Fill.l0 k p R C i l at_ seed q1 q2 q3 o = some (q1, q2, q3, o', at', s') ∧ o'.length = R * C ∧ OkL p o' := by
  induction d with
  | zero =>
    intro k i o at_ seed hd hi hk ho hok h0 h1
    obtain ⟨k, rfl⟩ : ∃ m, k = m + 1 := ⟨k - 1, by omega⟩
    simp only [spec_l03Fill.l0]
    rw [if_neg (by omega)]
    by_cases c : (R : Int) > 1
    · obtain ⟨b, at1, s1, e1, g1, g2⟩ := one_tells hl seed 3 h0 (by omega)
      rw [if_pos c, e1]
      simp only [Option.bind_some]
      obtain ⟨o', e, a1, a2⟩ := fillEnd_tells hp hp' hR hC b (fun _ => by omega) l at1 s1 q1 q2 q3 (k := k) (by omega) ho hok
      exact ⟨o', at1, s1, e, a1, a2⟩
    · rw [if_neg c]
      obtain ⟨o', e, a1, a2⟩ := fillEnd_tells hp hp' hR hC false (fun h => by simp at h) l at_ seed q1 q2 q3 (k := k) (by omega) ho hok
      exact ⟨o', at_, seed, e, a1, a2⟩
  | succ d ih =>
    intro k i o at_ seed hd hi hk ho hok h0 h1
    obtain ⟨k, rfl⟩ : ∃ m, k = m + 1 := ⟨k - 1, by omega⟩
    have hm := side_mul (r := R) (c := C) (by omega) (by omega)
    obtain ⟨v, at1, s1, e1, _, _, g1, g2⟩ := pick_tells hl seed 3 h0 (by omega)
    have b1 : (i : Int) < (o.length : Int) := by omega
    have b2 : i < o.length := by omega
    have b3 : (0 : Int) ≤ (i : Int) := by omega
    have b4 : R * C - (i + 1) = d := by omega
    have b5 : i + 1 ≤ R * C := by omega
    have b6 : d + C + 3 < k := by omega
    have b7 : i < R * C := by omega
    have b8 : R * C ≤ 35184372088832 := by omega
    by_cases c : v > 0
    · obtain ⟨u, at2, s2, e2, u0, u1, g3, g4⟩ := pick_tells hl s1 p (show 0 ≤ at1 by omega) (by omega)
      have u2 : u < p := by omega
      have b9 : 0 ≤ at2 := by omega
      have b10 : at2 + 4 * (d : Int) ≤ 1000000 := by omega
      simp only [spec_l03Fill.l0]
      rw [if_pos b1, e1]
      simp only [Option.bind_some]
      rw [if_pos c, e2]
      simp only [Option.bind_some]
      rw [if_pos b3, w64_succ b7 b8, Int.toNat_natCast]
      exact ih k (i + 1) _ at2 s2 b4 b5 b6 (by rw [List.length_set]; exact ho) (okL_set hok b2 u0 u2) b9 b10
    · have b9 : 0 ≤ at1 := by omega
      have b10 : at1 + 4 * (d : Int) ≤ 1000000 := by omega
      simp only [spec_l03Fill.l0]
      rw [if_pos b1, e1]
      simp only [Option.bind_some]
      rw [if_neg c, w64_succ b7 b8]
      exact ih k (i + 1) o at1 s1 b4 b5 b6 ho hok b9 b10
theorem zeroM_tells (p : Int) {R C : Nat} (hR : R ≤ 64) (hC : C ≤ 64) : spec_l03Zero.f p R C = some (p, (R : Int), (C : Int), List.replicate (R * C) 0) := by
  have hm := side_mul (r := R) (c := C) (by omega) (by omega)
  have g1 : (0 : Int) ≤ ((R * C : Nat) : Int) := by omega
  have g2 : R * C ≤ 35184372088832 := by omega
  unfold spec_l03Zero.f
  rw [w64_mulN (by omega) (by omega), if_pos g1, Int.toNat_natCast, if_pos g2]
theorem fillM_tells {l : List Int} (hl : Bytes l) {p : Int} (hp : 2 ≤ p) (hp' : p ≤ 251) {R C : Nat} (hR : R ≤ 64) (hC : C ≤ 64) {at_ seed : Int} (h0 : 0 ≤ at_) (h1 : at_ ≤ 900000) {k : Nat} (hk : R * C + C + 3 < k) :
    ∃ o at' s', spec_l03Fill.f k l at_ seed p R C = some (p, (R : Int), (C : Int), o, at', s') ∧ o.length = R * C ∧ OkL p o := by
  have hm := side_mul (r := R) (c := C) (by omega) (by omega)
  unfold spec_l03Fill.f
  rw [zeroM_tells p hR hC, Option.bind_some]
  exact fill_loop hl hp hp' hR hC p R C (R * C) k 0 (List.replicate (R * C) 0) at_ seed (by omega) (by omega) (by omega) (by simp) (okL_zeros hp _) h0 (by omega)
theorem r8matrix_tells {l : List Int} (hl : Bytes l) {p : Int} (hp : 2 ≤ p) (hp' : p ≤ 251) {R C : Nat} (hR : R ≤ 64) (hC : C ≤ 64) {k : Nat} (hk : R * C + C + 3 < k) :
    ∃ o, spec_R8Matrix.f k l p R C = some (p, (R : Int), (C : Int), o) ∧ o.length = R * C ∧ OkL p o := by
  obtain ⟨o, at', s', e, a1, a2⟩ := fillM_tells hl hp hp' hR hC (at_ := 0) (seed := 0) (by omega) (by omega) hk
  refine ⟨o, ?_, a1, a2⟩
  unfold spec_R8Matrix.f spec_l00From.f
  rw [Option.bind_some, e, Option.bind_some]
theorem r8At_tells {l : List Int} (hl : Bytes l) {j : Int} (h0 : 0 ≤ j) {n : Int} (hn : 2 ≤ n) : ∃ v : Nat, laws_r8At.f l j n = some (v : Int) ∧ (v : Int) < n := by
  unfold laws_r8At.f
  rw [if_neg (by omega)]
  by_cases c : j ≥ (l.length : Int)
  · rw [if_pos c]; exact ⟨0, rfl, by omega⟩
  · have hr := bytes_rd hl j
    rw [if_neg c, if_pos h0, if_pos (by omega), if_neg (by omega), w64_id (by omega) (by omega), Int.tmod_eq_emod_of_nonneg hr.1]
    have a := Int.emod_nonneg (rd l j) (show n ≠ 0 by omega)
    have b := Int.emod_lt_of_pos (rd l j) (show 0 < n by omega)
    exact ⟨(rd l j % n).toNat, by rw [Int.toNat_of_nonneg a], by rw [Int.toNat_of_nonneg a]; exact b⟩
theorem r8Same_loop {a : List Int} (ha : a.length ≤ 35184372088832) (d : Nat) : ∀ (k i : Nat), a.length - i = d → i ≤ a.length → d < k → laws_r8Same.l0 k a a i = some true := by
  induction d with
  | zero =>
    intro k i hd hi hk
    obtain ⟨k, rfl⟩ : ∃ m, k = m + 1 := ⟨k - 1, by omega⟩
    simp only [laws_r8Same.l0]
    rw [if_neg (by omega)]
  | succ d ih =>
    intro k i hd hi hk
    obtain ⟨k, rfl⟩ : ∃ m, k = m + 1 := ⟨k - 1, by omega⟩
    simp only [laws_r8Same.l0]
    rw [if_pos (by omega), if_pos (by omega), if_pos (by omega), if_pos trivial, w64_succ (n := a.length) (by omega) ha]
    exact ih k (i + 1) (by omega) (by omega) (by omega)
theorem r8Same_tells {a : List Int} (ha : a.length ≤ 35184372088832) {k : Nat} (hk : a.length < k) : laws_r8Same.f k a a = some true := by
  unfold laws_r8Same.f
  rw [if_pos rfl]
  exact r8Same_loop ha a.length k 0 (by omega) (by omega) (by omega)
theorem sameR_loop {a : List Int} (ha : a.length ≤ 35184372088832) (p r c p' r' c' : Int) (d : Nat) : ∀ (k i : Nat), a.length - i = d → i ≤ a.length → d < k → spec_l03Same.l0 k i p r c a p' r' c' a = some true := by
  induction d with
  | zero =>
    intro k i hd hi hk
    obtain ⟨k, rfl⟩ : ∃ m, k = m + 1 := ⟨k - 1, by omega⟩
    simp only [spec_l03Same.l0]
    rw [if_neg (by omega)]
  | succ d ih =>
    intro k i hd hi hk
    obtain ⟨k, rfl⟩ : ∃ m, k = m + 1 := ⟨k - 1, by omega⟩
    simp only [spec_l03Same.l0]
    rw [if_pos (by omega), if_pos (by omega), if_pos (by omega), if_pos trivial, w64_succ (n := a.length) (by omega) ha]
    exact ih k (i + 1) (by omega) (by omega) (by omega)
theorem sameR_tells (p r c : Int) {a : List Int} (ha : a.length ≤ 35184372088832) {k : Nat} (hk : a.length + 1 < k) : spec_SameMatrix.f k p r c a p r c a = some true := by
  unfold spec_SameMatrix.f spec_l03Same.f
  obtain ⟨k, rfl⟩ : ∃ m, k = m + 1 := ⟨k - 1, by omega⟩
  have e := sameR_loop ha p r c p r c a.length k 0 (by omega) (by omega) (by omega)
  have e0 : ((a.length : Int) != (a.length : Int)) = false := by simp
  rw [if_pos rfl, if_pos rfl, if_pos rfl, e0]
  simp only [spec_l03Same.j0]
  have e' : spec_l03Same.l0 k 0 p r c a p r c a = some true := e
  rw [if_neg (by simp), e']
  rfl
end Go.Proofs.YtbalikebmacldaaGreatDoor.F
end

section
set_option linter.unusedVariables false
set_option linter.unusedSimpArgs false
set_option linter.unusedSectionVars false
namespace Go.Proofs.YtbalikebmacldaaGreatDoor.Lin
open Go.Lib
/-! ### Decimal numerals -/
def isDig (b : UInt8) : Bool := decide (48 ≤ b.toNat) && decide (b.toNat ≤ 57)
theorem isDig_iff {b : UInt8} : isDig b = true ↔ 48 ≤ b.toNat ∧ b.toNat ≤ 57 := by unfold isDig; simp
def decVal (acc : Nat) : List UInt8 → Nat
  | [] => acc
  | c :: r => decVal (acc * 10 + (c.toNat - 48)) r
theorem decVal_snoc (acc : Nat) (l : List UInt8) (c : UInt8) : decVal acc (l ++ [c]) = decVal acc l * 10 + (c.toNat - 48) := by
  induction l generalizing acc with
  | nil => rfl
  | cons x l ih => exact ih _
theorem decVal_ge (acc : Nat) (l : List UInt8) : acc ≤ decVal acc l := by
  induction l generalizing acc with
  | nil => exact Nat.le_refl _
  | cons x l ih => exact Nat.le_trans (by omega) (ih _)
theorem decVal_lt (acc : Nat) (l : List UInt8) (h : l.all isDig = true) : decVal acc l < (acc + 1) * 10 ^ l.length := by
  induction l generalizing acc with
  | nil => rw [List.length_nil, Nat.pow_zero, Nat.mul_one]; exact Nat.lt_succ_self acc
  | cons x l ih =>
    rw [List.all_cons, Bool.and_eq_true] at h
    have hd := isDig_iff.mp h.1
    have h1 := ih (acc * 10 + (x.toNat - 48)) h.2
    show decVal (acc * 10 + (x.toNat - 48)) l < _
    refine Nat.lt_of_lt_of_le h1 ?_
    rw [List.length_cons, Nat.pow_succ, Nat.mul_comm (10 ^ l.length) 10, ← Nat.mul_assoc]
    exact Nat.mul_le_mul_right _ (by omega)
theorem ofNat_dig {d : Nat} (h : d < 10) : (UInt8.ofNat (48 + d)).toNat = 48 + d := by
  rw [UInt8.toNat_ofNat_of_lt']
  show 48 + d < 256
  omega
theorem dig_ofNat {b : UInt8} (h : isDig b = true) : UInt8.ofNat (48 + (b.toNat - 48)) = b := by
  have := isDig_iff.mp h
  apply UInt8.toNat_inj.mp
  rw [ofNat_dig (by omega)]; omega
def Canon (l : List UInt8) : Prop := l ≠ [] ∧ l.all isDig = true ∧ (l.length = 1 ∨ l.head? ≠ some 48)
theorem canon_dec (u : Nat) : Canon (decDigits u) ∧ decVal 0 (decDigits u) = u ∧ (1 ≤ u → (decDigits u).head? ≠ some 48) := by
  induction u using Nat.strongRecOn with
  | _ u ih =>
    rw [decDigits]
    by_cases h : u < 10
    · rw [dif_pos h]
      have e := ofNat_dig h
      refine ⟨⟨by simp, by simp [isDig, e]; omega, .inl rfl⟩, ?_, fun h1 hh => ?_⟩
      · show 0 * 10 + ((UInt8.ofNat (48 + u)).toNat - 48) = u
        rw [e]; omega
      · have h2 : UInt8.ofNat (48 + u) = 48 := by simpa using hh
        have h3 := congrArg UInt8.toNat h2
        rw [e] at h3
        have : (48 : UInt8).toNat = 48 := rfl
        omega
    · rw [dif_neg h]
      obtain ⟨⟨c1, c2, c3⟩, v, hd⟩ := ih (u / 10) (by omega)
      have e := ofNat_dig (d := u % 10) (by omega)
      have hne : (decDigits (u / 10) ++ [UInt8.ofNat (48 + u % 10)]).head? = (decDigits (u / 10)).head? := by
        cases hq : decDigits (u / 10) with
        | nil => exact absurd hq c1
        | cons x r => rfl
      refine ⟨⟨by simp, ?_, .inr (by rw [hne]; exact hd (by omega))⟩, ?_, fun _ => by rw [hne]; exact hd (by omega)⟩
      · rw [List.all_append, c2]
        simp [isDig, e]; omega
      · rw [decVal_snoc, v, e]; omega
theorem dec_canon (n : Nat) : ∀ l : List UInt8, l.length = n → Canon l → decDigits (decVal 0 l) = l := by
  induction n with
  | zero => exact fun l hl hc => absurd (List.eq_nil_of_length_eq_zero hl) hc.1
  | succ n ih =>
    intro l hl ⟨h1, h2, h3⟩
    obtain ⟨r, c, rfl⟩ : ∃ r c, l = r ++ [c] := ⟨l.dropLast, l.getLast h1, (List.dropLast_concat_getLast h1).symm⟩
    rw [List.all_append, Bool.and_eq_true] at h2
    have hc : isDig c = true := by simpa using h2.2
    have hcd := isDig_iff.mp hc
    rw [decVal_snoc]
    cases r with
    | nil =>
      show decDigits (0 * 10 + (c.toNat - 48)) = [c]
      rw [decDigits, dif_pos (by omega), Nat.zero_mul, Nat.zero_add, dig_ofNat hc]
    | cons x r =>
      have hx : isDig x = true := by
        have := h2.1
        rw [List.all_cons, Bool.and_eq_true] at this
        exact this.1
      have hxd := isDig_iff.mp hx
      have hx48 : x ≠ 48 := by
        rcases h3 with h3 | h3
        · simp at h3
        · intro e; exact h3 (by rw [e]; rfl)
      have hx1 : x.toNat ≠ 48 := fun e => hx48 (UInt8.toNat_inj.mp (by rw [e]; rfl))
      have hge : 1 ≤ decVal 0 (x :: r) := by
        have := decVal_ge (0 * 10 + (x.toNat - 48)) r
        show 1 ≤ decVal (0 * 10 + (x.toNat - 48)) r
        omega
      have hrec := ih (x :: r) (by simp at hl; simp; omega) ⟨by simp, h2.1, .inr (by simp; exact hx48)⟩
      generalize decVal 0 (x :: r) = v at hge hrec
      rw [decDigits, dif_neg (by omega), show (v * 10 + (c.toNat - 48)) / 10 = v by omega, show (v * 10 + (c.toNat - 48)) % 10 = c.toNat - 48 by omega, dig_ofNat hc, hrec]
theorem parse_digits (M : Nat) (hM : 1000000000000000000 ≤ M) (l : List UInt8) (acc : Nat) (h : l.all isDig = true) (hv : decVal acc l < 1000000000000000000) : parseUintM M acc l = .ok (decVal acc l) := by
  induction l generalizing acc with
  | nil => rfl
  | cons c r ih =>
    rw [List.all_cons, Bool.and_eq_true] at h
    have hd := isDig_iff.mp h.1
    have h1 : decVal acc (c :: r) = decVal (acc * 10 + (c.toNat - 48)) r := rfl
    have h2 := decVal_ge (acc * 10 + (c.toNat - 48)) r
    rw [h1] at hv ⊢
    unfold parseUintM
    rw [if_pos hd, if_neg (by omega), if_neg (by omega)]
    exact ih _ h.2 hv
def digitsOf (s : List UInt8) : List UInt8 := if s.head? = some 45 then s.drop 1 else s
def numOf (s : List UInt8) : Int × Bool :=
  if (digitsOf s).length = 0 ∨ 18 < (digitsOf s).length ∨ ((digitsOf s).head? = some 48 ∧ 1 < s.length) ∨ (digitsOf s).all isDig = false then (0, false)
  else (if s.head? = some 45 then -((decVal 0 (digitsOf s) : Nat) : Int) else (decVal 0 (digitsOf s) : Nat), true)
theorem trim_digits (s : List UInt8) : trimPrefix s [45] = digitsOf s := by
  unfold trimPrefix digitsOf hasPrefix
  cases s with
  | nil => rfl
  | cons c r =>
    by_cases h : c = 45
    · subst h; simp
    · have : ¬ ((45 : UInt8) == c) = true := fun e => h (by simpa using (beq_iff_eq.mp e).symm)
      simp [h, Ne.symm h]
def readOf (s : List UInt8) : Int × Bool :=
  if (trimPrefix s [45]).length < 1 ∨ 18 < (trimPrefix s [45]).length then (0, false) else
  match parseIntB 64 s with
  | .ok v => if itoa v = s then (v, true) else (0, false)
  | _ => (0, false)
theorem itoa_num {s : List UInt8} {v : Int} (h : itoa v = s) : (digitsOf s).all isDig = true ∧ ¬ ((digitsOf s).head? = some 48 ∧ 1 < s.length) := by
  unfold itoa at h
  by_cases hv : v < 0
  · rw [if_pos hv] at h
    subst h
    have e : digitsOf (45 :: decDigits v.natAbs) = decDigits v.natAbs := by unfold digitsOf; simp
    obtain ⟨⟨_, c2, _⟩, _, hd⟩ := canon_dec v.natAbs
    rw [e]
    exact ⟨c2, fun hh => hd (by omega) hh.1⟩
  · rw [if_neg hv] at h
    subst h
    obtain ⟨⟨c1, c2, c3⟩, _, hd⟩ := canon_dec v.toNat
    have e : digitsOf (decDigits v.toNat) = decDigits v.toNat := by
      unfold digitsOf
      rw [if_neg]
      intro hh
      cases hq : decDigits v.toNat with
      | nil => exact c1 hq
      | cons x r =>
        rw [hq] at hh c2
        have : x = 45 := by simpa using hh
        subst this
        simp [isDig] at c2
    rw [e]
    exact ⟨c2, fun hh => by
      rcases c3 with c3 | c3
      · omega
      · exact c3 hh.1⟩
theorem pow18 : (10 : Nat) ^ 18 = 1000000000000000000 := by decide
theorem val18 {l : List UInt8} (h : l.all isDig = true) (hl : l.length ≤ 18) : decVal 0 l < 1000000000000000000 := by
  have h1 := decVal_lt 0 l h
  have h2 : (10 : Nat) ^ l.length ≤ 10 ^ 18 := Nat.pow_le_pow_right (by decide) hl
  rw [pow18] at h2
  omega
theorem readOf_eq (s : List UInt8) : readOf s = numOf s := by
  unfold readOf numOf
  rw [trim_digits]
  by_cases h0 : (digitsOf s).length < 1 ∨ 18 < (digitsOf s).length
  · rw [if_pos h0, if_pos (by omega)]
  · rw [if_neg h0]
    have hl1 : 1 ≤ (digitsOf s).length := by omega
    have hl2 : (digitsOf s).length ≤ 18 := by omega
    by_cases hg : (digitsOf s).all isDig = true ∧ ¬ ((digitsOf s).head? = some 48 ∧ 1 < s.length)
    · rw [if_neg (by rintro (h | h | h | h); · omega
                     · omega
                     · exact hg.2 h
                     · rw [hg.1] at h; cases h)]
      have hv := val18 hg.1 hl2
      cases hs : s with
      | nil => rw [hs] at hl1; simp [digitsOf] at hl1
      | cons c r =>
        by_cases h45 : c = 45
        · subst h45
          have e : digitsOf (45 :: r) = r := by unfold digitsOf; simp
          rw [hs, e] at hg hv hl1 hl2
          have hr : r ≠ [] := by intro e2; rw [e2] at hl1; simp at hl1
          have hp : parseUintB 64 r = .ok (decVal 0 r) := by
            unfold parseUintB
            rw [if_neg hr]
            exact parse_digits _ (by decide) r 0 hg.1 hv
          have h48 : r.head? ≠ some 48 := fun hh => hg.2 ⟨hh, by simp; omega⟩
          have hcan : decDigits (decVal 0 r) = r := dec_canon _ r rfl ⟨hr, hg.1, .inr h48⟩
          have hpos : 1 ≤ decVal 0 r := by
            cases hq : r with
            | nil => exact absurd hq hr
            | cons x q =>
              rw [hq] at h48 hg
              have h5 : isDig x = true := by
                have := hg.1
                rw [List.all_cons, Bool.and_eq_true] at this
                exact this.1
              have h6 := isDig_iff.mp h5
              have h7 : x.toNat ≠ 48 := fun e => h48 (by rw [show x = 48 from UInt8.toNat_inj.mp (by rw [e]; rfl)]; rfl)
              have := decVal_ge (0 * 10 + (x.toNat - 48)) q
              show 1 ≤ decVal (0 * 10 + (x.toNat - 48)) q
              omega
          have hP : parseIntB 64 (45 :: r) = .ok (-(decVal 0 r : Int)) := by
            unfold parseIntB
            have e45 : (45 : UInt8).toNat = 45 := rfl
            simp only [e45]
            rw [if_pos (by decide), hp]
            simp only
            have e63 : (2 : Nat) ^ (64 - 1) = 9223372036854775808 := by decide
            rw [e63, if_neg (by simp), if_neg (by omega), if_pos trivial]
          rw [hP, e]
          simp only [List.head?_cons, if_true]
          rw [if_pos]
          unfold itoa
          rw [if_pos (by omega), show (-(decVal 0 r : Int)).natAbs = decVal 0 r by omega, hcan]
        · have e : digitsOf (c :: r) = c :: r := by unfold digitsOf; simp [h45]
          rw [hs, e] at hg hv hl1 hl2
          have hcd : isDig c = true := by
            have := hg.1
            rw [List.all_cons, Bool.and_eq_true] at this
            exact this.1
          have h6 := isDig_iff.mp hcd
          have hp : parseUintB 64 (c :: r) = .ok (decVal 0 (c :: r)) := by
            unfold parseUintB
            rw [if_neg (by simp)]
            exact parse_digits _ (by decide) _ 0 hg.1 hv
          have hcan : decDigits (decVal 0 (c :: r)) = c :: r := dec_canon _ _ rfl ⟨by simp, hg.1, by
            by_cases h1 : (c :: r).length = 1
            · exact .inl h1
            · exact .inr (fun hh => hg.2 ⟨hh, by have : (c :: r).length = r.length + 1 := rfl; omega⟩)⟩
          have hP : parseIntB 64 (c :: r) = .ok (decVal 0 (c :: r) : Int) := by
            unfold parseIntB
            simp only
            have e63 : (2 : Nat) ^ (64 - 1) = 9223372036854775808 := by decide
            have n43 : ¬ (c.toNat = 43 ∨ c.toNat = 45) := by omega
            have n45 : ¬ c.toNat = 45 := by omega
            rw [if_neg n43, hp]
            simp only [e63]
            rw [if_neg (by omega), if_neg (by omega), if_neg n45]
          rw [hP, e]
          have hne : ¬ (c :: r).head? = some 45 := by simp [h45]
          simp only [if_neg hne]
          rw [if_pos]
          unfold itoa
          rw [if_neg (by omega), Int.toNat_natCast, hcan]
    · have hr : (match parseIntB 64 s with | .ok v => if itoa v = s then (v, true) else ((0 : Int), false) | _ => (0, false)) = (0, false) := by
        split
        · split
          · rename_i hh
            exact absurd (itoa_num hh) hg
          · rfl
        · rfl
      rw [hr, if_pos]
      by_cases h1 : (digitsOf s).all isDig = true
      · exact .inr (.inr (.inl (Classical.byContradiction fun h2 => hg ⟨h1, h2⟩)))
      · exact .inr (.inr (.inr (Bool.eq_false_iff.mpr h1)))
theorem numOf_true {s : List UInt8} {v : Int} (h : numOf s = (v, true)) : itoa v = s ∧ -1000000000000000000 < v ∧ v < 1000000000000000000 := by
  have hr := readOf_eq s
  rw [h] at hr
  refine ⟨?_, ?_⟩
  · unfold readOf at hr
    split at hr
    · cases hr
    · split at hr
      · split at hr
        · rename_i hh
          cases hr; exact hh
        · cases hr
      · cases hr
  · unfold numOf at h
    split at h
    · cases h
    · rename_i hc
      have h1 : (digitsOf s).all isDig = true := by
        cases hq : (digitsOf s).all isDig with
        | true => rfl
        | false => exact absurd (.inr (.inr (.inr hq))) hc
      have h2 := val18 h1 (by omega)
      have h3 := (Prod.mk.inj h).1
      split at h3 <;> omega
theorem numOf_false {s : List UInt8} {v : Int} (h : numOf s = (v, false)) : v = 0 := by
  unfold numOf at h
  split at h
  · exact (Prod.mk.inj h).1.symm
  · cases (Prod.mk.inj h).2
theorem numOf_itoa {v : Int} (h0 : -1000000000000000000 < v) (h1 : v < 1000000000000000000) : numOf (itoa v) = (v, true) := by
  have hd := itoa_num (v := v) rfl
  have nd : ∀ k u, u < 10 ^ (k + 1) → (decDigits u).length ≤ k + 1 := fun k => by
    induction k with
    | zero => intro u hu; rw [decDigits, dif_pos (by simpa using hu)]; simp
    | succ k ih =>
      intro u hu
      rw [decDigits]
      split
      · simp
      · rw [List.length_append]
        have := ih (u / 10) (by rw [Nat.pow_succ] at hu; omega)
        simp; omega
  unfold numOf
  by_cases hv : v < 0
  · have e : itoa v = 45 :: decDigits v.natAbs := by unfold itoa; rw [if_pos hv]
    have e2 : digitsOf (45 :: decDigits v.natAbs) = decDigits v.natAbs := by unfold digitsOf; simp
    rw [e] at hd ⊢
    obtain ⟨⟨c1, c2, c3⟩, cv, _⟩ := canon_dec v.natAbs
    rw [e2] at hd ⊢
    have hl := nd 17 v.natAbs (by rw [pow18]; omega)
    have hl1 : (decDigits v.natAbs).length ≠ 0 := fun h => c1 (List.eq_nil_of_length_eq_zero h)
    rw [if_neg (by rintro (h | h | h | h); · exact hl1 h
                   · omega
                   · exact hd.2 h
                   · rw [c2] at h; cases h)]
    simp only [List.head?_cons, if_true, cv]
    rw [show -((v.natAbs : Nat) : Int) = v by omega]
  · have e : itoa v = decDigits v.toNat := by unfold itoa; rw [if_neg hv]
    rw [e] at hd ⊢
    obtain ⟨⟨c1, c2, c3⟩, cv, _⟩ := canon_dec v.toNat
    have hne : ¬ (decDigits v.toNat).head? = some 45 := by
      intro hh
      cases hq : decDigits v.toNat with
      | nil => exact c1 hq
      | cons x r =>
        rw [hq] at hh c2
        have : x = 45 := by simpa using hh
        subst this
        simp [isDig] at c2
    have e2 : digitsOf (decDigits v.toNat) = decDigits v.toNat := by unfold digitsOf; rw [if_neg hne]
    rw [e2] at hd ⊢
    have hl := nd 17 v.toNat (by rw [pow18]; omega)
    have hl1 : (decDigits v.toNat).length ≠ 0 := fun h => c1 (List.eq_nil_of_length_eq_zero h)
    rw [if_neg (by rintro (h | h | h | h); · exact hl1 h
                   · omega
                   · exact hd.2 h
                   · rw [c2] at h; cases h), if_neg hne, cv]
    rw [show ((v.toNat : Nat) : Int) = v by omega]
end Go.Proofs.YtbalikebmacldaaGreatDoor.Lin
end

section
set_option linter.unusedVariables false
set_option linter.unusedSimpArgs false
set_option linter.unusedSectionVars false
namespace Go.Proofs.YtbalikebmacldaaGreatDoor.F
open Go.RowKit Go.Proofs.YtbalikebmacldaaGreatDoorW.PrintWords Go.Proofs.YtbalikebmacldaaGreatDoorW.PrintLast Go.Proofs.YtbalikebmacldaaGreatDoor.Lin
open Go.Lib
def revDig (u : Nat) : List Int := (decDigits u).reverse.map (fun b => (b.toNat : Int))
theorem revDig_length (u : Nat) (h : u < 10 ^ 20) : (revDig u).length ≤ 20 := by
  have nd : ∀ k u, u < 10 ^ (k + 1) → (decDigits u).length ≤ k + 1 := fun k => by
    induction k with
    | zero => intro u hu; rw [decDigits, dif_pos (by simpa using hu)]; simp
    | succ k ih =>
      intro u hu
      rw [decDigits]
      split
      · simp
      · rw [List.length_append]
        have := ih (u / 10) (by rw [Nat.pow_succ] at hu; omega)
        simp; omega
  unfold revDig
  rw [List.length_map, List.length_reverse]
  exact nd 19 u h
theorem decimal_tells {n : Int} (h0 : -9223372036854775808 ≤ n) (h1 : n ≤ 9223372036854775807) : impl_Decimal.f n = some ⟨(itoa n).toArray⟩ := by
  unfold impl_Decimal.f
  rw [if_pos ⟨h0, h1⟩]
end Go.Proofs.YtbalikebmacldaaGreatDoor.F
end

section
set_option linter.unusedVariables false
set_option linter.unusedSimpArgs false
set_option linter.unusedSectionVars false
namespace Go.Proofs.YtbalikebmacldaaGreatDoor.Lin
open Go.Lib
def splitL (c : UInt8) : List UInt8 → List (List UInt8)
  | [] => [[]]
  | b :: r => if b = c then [] :: splitL c r else match splitL c r with
    | [] => [[b]]
    | x :: xs => (b :: x) :: xs
theorem splitL_ne (c : UInt8) (l : List UInt8) : splitL c l ≠ [] := by
  cases l with
  | nil => simp [splitL]
  | cons b r =>
    unfold splitL
    split
    · simp
    · split <;> simp
theorem splitL_none {c : UInt8} : ∀ {l : List UInt8}, c ∉ l → splitL c l = [l]
  | [], _ => rfl
  | b :: r, h => by
    unfold splitL
    rw [if_neg (fun e => h (by rw [e]; exact List.mem_cons_self)), splitL_none (fun hr => h (List.mem_cons_of_mem _ hr))]
theorem splitL_cut {c : UInt8} : ∀ {a : List UInt8} (b : List UInt8), c ∉ a → splitL c (a ++ c :: b) = a :: splitL c b
  | [], b, _ => by
    show splitL c (c :: b) = _
    unfold splitL
    rw [if_pos rfl]
    cases b <;> rfl
  | x :: a, b, h => by
    show splitL c (x :: (a ++ c :: b)) = _
    rw [splitL, if_neg (fun e => h (by rw [e]; exact List.mem_cons_self)), splitL_cut b (fun hr => h (List.mem_cons_of_mem _ hr))]
theorem splitL_free (c : UInt8) : ∀ (l : List UInt8), ∀ x ∈ splitL c l, c ∉ x
  | [], x, hx => by simp [splitL] at hx; subst hx; simp
  | b :: r, x, hx => by
    unfold splitL at hx
    split at hx
    · rcases List.mem_cons.mp hx with rfl | hx
      · simp
      · exact splitL_free c r x hx
    · rename_i hb
      have ih := splitL_free c r
      cases hq : splitL c r with
      | nil => exact absurd hq (splitL_ne c r)
      | cons y ys =>
        rw [hq] at hx ih
        rcases List.mem_cons.mp hx with rfl | hx
        · intro hc
          rcases List.mem_cons.mp hc with e | hc
          · exact hb e.symm
          · exact ih y List.mem_cons_self hc
        · exact ih x (List.mem_cons_of_mem _ hx)
theorem byte_miss {c : UInt8} : ∀ {l : List UInt8}, indexByte l c = -1 → c ∉ l
  | [], _ => by simp
  | b :: r, h => by
    unfold indexByte at h
    split at h
    · cases h
    · rename_i hb
      split at h
      · rename_i hr
        intro hc
        rcases List.mem_cons.mp hc with e | hc
        · exact hb (by rw [e]; exact beq_self_eq_true b)
        · exact byte_miss (beq_iff_eq.mp hr) hc
      · have := indexByte_ge r c
        omega
theorem byte_hit {c : UInt8} : ∀ {l : List UInt8} {i : Nat}, indexByte l c = i → ∃ a b, l = a ++ c :: b ∧ a.length = i ∧ c ∉ a
  | [], i, h => by unfold indexByte at h; omega
  | x :: r, i, h => by
    unfold indexByte at h
    split at h
    · rename_i hb
      have e : x = c := beq_iff_eq.mp hb
      subst e
      exact ⟨[], r, rfl, by simp; omega, by simp⟩
    · rename_i hb
      split at h
      · omega
      · have hge := indexByte_ge r c
        rename_i hr
        have hne : indexByte r c ≠ -1 := fun e => hr (by rw [e]; rfl)
        obtain ⟨j, hj⟩ := Int.eq_ofNat_of_zero_le (show 0 ≤ indexByte r c by omega)
        obtain ⟨a, b, e, hl, hc⟩ := byte_hit hj
        refine ⟨x :: a, b, by rw [e]; rfl, by simp; omega, fun hx => ?_⟩
        rcases List.mem_cons.mp hx with e2 | hx
        · exact hb (by rw [e2]; exact beq_self_eq_true x)
        · exact hc hx
theorem splitK_eq (c : UInt8) : ∀ (n : Nat) (l : List UInt8), l.length = n → splitK [c] 0 (count l [c]) l = splitL c l := by
  intro n
  induction n using Nat.strongRecOn with
  | _ n ih =>
    intro l hl
    have ho := index_one l c
    by_cases hm : indexByte l c = -1
    · rw [hm] at ho
      rw [count_miss ho, splitL_none (byte_miss hm)]
      rfl
    · have hge := indexByte_ge l c
      obtain ⟨i, hi⟩ := Int.eq_ofNat_of_zero_le (show 0 ≤ indexByte l c by omega)
      obtain ⟨a, b, e, hla, hca⟩ := byte_hit hi
      rw [hi] at ho
      have hcnt := count_hit (s := l) (sub := [c]) (i := i) (by simp) ho
      have hdrop : l.drop (i + 1) = b := by rw [e, ← hla, show a ++ c :: b = (a ++ [c]) ++ b by simp, show a.length + 1 = (a ++ [c]).length by simp, List.drop_left]
      have htake : l.take i = a := by rw [e, ← hla, List.take_left]
      have hcnt2 : count l [c] = count b [c] + 1 := by rw [hcnt, show ([c] : List UInt8).length = 1 from rfl, hdrop]; omega
      rw [hcnt2]
      unfold splitK
      rw [if_neg (by rw [ho]; simp), ho, Int.toNat_natCast, Nat.add_zero, htake, show ([c] : List UInt8).length = 1 from rfl, hdrop, ih b.length (by rw [← hl, e]; simp; omega) b rfl, e, splitL_cut b hca]
theorem join_cons2 (x y : List UInt8) (r : List (List UInt8)) (sep : List UInt8) : join (x :: y :: r) sep = x ++ sep ++ join (y :: r) sep := by
  rw [join_cons, join_cons]
  unfold joinTail
  simp [List.append_assoc]
theorem split_join {c : UInt8} : ∀ {xs : List (List UInt8)}, xs ≠ [] → (∀ x ∈ xs, c ∉ x) → splitL c (join xs [c]) = xs
  | [], h, _ => absurd rfl h
  | [x], _, hf => by rw [join_one]; exact splitL_none (hf x (by simp))
  | x :: y :: r, _, hf => by
    rw [join_cons2, show x ++ [c] ++ join (y :: r) [c] = x ++ c :: join (y :: r) [c] by simp, splitL_cut _ (hf x (by simp)), split_join (by simp) (fun z hz => hf z (List.mem_cons_of_mem _ hz))]
theorem join_split (c : UInt8) : ∀ (l : List UInt8), join (splitL c l) [c] = l
  | [] => rfl
  | b :: r => by
    have ih := join_split c r
    unfold splitL
    cases hq : splitL c r with
    | nil => exact absurd hq (splitL_ne c r)
    | cons x xs =>
      rw [hq] at ih
      by_cases hb : b = c
      · rw [if_pos hb, join_cons2, ih, hb]; simp
      · rw [if_neg hb]
        show join ((b :: x) :: xs) [c] = b :: r
        rw [join_cons] at ih ⊢
        rw [← ih]; rfl
theorem splitL_length (c : UInt8) : ∀ (l : List UInt8), (splitL c l).length ≤ l.length + 1
  | [] => by simp [splitL]
  | b :: r => by
    have ih := splitL_length c r
    unfold splitL
    split
    · simp; omega
    · cases hq : splitL c r with
      | nil => simp
      | cons x xs => rw [hq] at ih; simp at ih ⊢; omega
theorem splitL_short (c : UInt8) : ∀ (l : List UInt8), ∀ x ∈ splitL c l, x.length ≤ l.length
  | [], x, hx => by simp [splitL] at hx; subst hx; simp
  | b :: r, x, hx => by
    have ih := splitL_short c r
    unfold splitL at hx
    split at hx
    · rcases List.mem_cons.mp hx with rfl | hx
      · simp
      · have := ih x hx; simp; omega
    · cases hq : splitL c r with
      | nil => exact absurd hq (splitL_ne c r)
      | cons y ys =>
        rw [hq] at hx ih
        rcases List.mem_cons.mp hx with rfl | hx
        · have := ih y List.mem_cons_self; simp; omega
        · have := ih x (List.mem_cons_of_mem _ hx); simp; omega
def B (l : List UInt8) : ByteArray := ⟨l.toArray⟩
theorem B_list (l : List UInt8) : (B l).data.toList = l := rfl
theorem B_of (s : ByteArray) : B s.data.toList = s := Go.WideShapes.bytes_inj rfl
theorem B_size (l : List UInt8) : (B l).size = l.length := rfl
theorem B_append (x y : List UInt8) : B x ++ B y = B (x ++ y) := Go.WideShapes.bytes_inj (by simp [B])
theorem B_toList (l : List UInt8) : (B l).toList = l := Go.Lib.toList_data (B l)
theorem size_len (s : ByteArray) : s.size = s.data.toList.length := Array.length_toList.symm
theorem splitB_eq (c : UInt8) (s : ByteArray) : splitB ⟨#[c]⟩ 0 (countB s ⟨#[c]⟩) s = (splitL c s.data.toList).map B := by
  have h := splitB_data (⟨#[c]⟩ : ByteArray) 0 (countB s ⟨#[c]⟩) s
  have e : (⟨#[c]⟩ : ByteArray).data.toList = [c] := rfl
  rw [e] at h
  have h2 : splitK [c] 0 (countB s ⟨#[c]⟩) s.data.toList = splitL c s.data.toList := splitK_eq c _ _ rfl
  rw [h2] at h
  rw [← h, List.map_map]
  conv => lhs; rw [← List.map_id (splitB _ _ _ _)]
  exact List.map_congr_left (fun x _ => (B_of x).symm)
end Go.Proofs.YtbalikebmacldaaGreatDoor.Lin
end

section
set_option linter.unusedVariables false
set_option linter.unusedSimpArgs false
set_option linter.unusedSectionVars false
namespace Go.Proofs.YtbalikebmacldaaGreatDoor.F
open Go.RowKit Go.Proofs.YtbalikebmacldaaGreatDoorW.PrintWords Go.Proofs.YtbalikebmacldaaGreatDoorW.PrintLast Go.Proofs.YtbalikebmacldaaGreatDoor.Lin
open Go.Lib
def listTxt (l : List Int) : List UInt8 := if l.length = 0 then [45] else join (l.map itoa) [44]
def fits (l : List Int) : Bool := decide (l.length ≤ 64) && l.all (fun x => decide (-1000000000000 ≤ x ∧ x ≤ 1000000000000))
def listText (l : List Int) : List UInt8 := if fits l = true then listTxt l else []
theorem fits_at {l : List Int} (h : fits l = true) : l.length ≤ 64 ∧ ∀ x ∈ l, -1000000000000 ≤ x ∧ x ≤ 1000000000000 := by
  unfold fits at h
  rw [Bool.and_eq_true, decide_eq_true_eq, List.all_eq_true] at h
  exact ⟨h.1, fun x hx => of_decide_eq_true (h.2 x hx)⟩
theorem itoa_short {x : Int} (h0 : -9223372036854775808 ≤ x) (h1 : x ≤ 9223372036854775807) : (itoa x).length ≤ 21 := by
  have h := revDig_length x.natAbs (Nat.lt_of_lt_of_le (show x.natAbs < 10000000000000000000 by omega) (by decide))
  unfold revDig at h
  rw [List.length_map, List.length_reverse] at h
  unfold itoa
  split
  · rw [List.length_cons]; omega
  · rename_i hx
    rw [show x.toNat = x.natAbs by omega]; omega
theorem join_short : ∀ (xs : List (List UInt8)) (n : Nat), (∀ x ∈ xs, x.length ≤ n) → (join xs [44]).length ≤ xs.length * (n + 1)
  | [], _, _ => by rw [join_nil]; simp
  | [x], n, h => by rw [join_one]; have := h x (by simp); simp; omega
  | x :: y :: r, n, h => by
    rw [join_cons2, List.length_append, List.length_append]
    have h1 := h x (by simp)
    have h2 := join_short (y :: r) n (fun z hz => h z (List.mem_cons_of_mem _ hz))
    rw [List.length_cons (a := x), Nat.add_mul, Nat.one_mul]
    have : ([44] : List UInt8).length = 1 := rfl
    omega
theorem take_map_succ {l : List Int} {i : Nat} (h : i < l.length) : (l.take (i + 1)).map itoa = (l.take i).map itoa ++ [itoa l[i]] := by
  rw [List.take_add_one, List.getElem?_eq_getElem h, List.map_append]; rfl
theorem any_fits (l : List Int) : (l.any noValue) = !(l.all (fun x => decide (-1000000000000 ≤ x ∧ x ≤ 1000000000000))) := by
  induction l with
  | nil => rfl
  | cons x l ih =>
    rw [List.any_cons, List.all_cons, ih]
    unfold noValue
    by_cases h1 : -1000000000000 ≤ x
    · by_cases h2 : x ≤ 1000000000000
      · simp [h1, h2]
      · simp [h1, h2]
    · simp [h1]
theorem implText_loop (l : List Int) (hl : l.length ≤ 64) (hw : ∀ x ∈ l, -9223372036854775808 ≤ x ∧ x ≤ 9223372036854775807) : ∀ (d i k : Nat), l.length - i = d → i ≤ l.length → d + 1 ≤ k →
    impl_ListText.l0 k (((l.take i).map itoa).map B) l l.length i = some (B (join (l.map itoa) [44])) := by
  intro d
  induction d with
  | zero =>
    intro i k hd hi hk
    obtain ⟨k, rfl⟩ : ∃ q, k = q + 1 := ⟨k - 1, by omega⟩
    simp only [impl_ListText.l0]
    have hid : ((l.map itoa).map B).map (fun x : ByteArray => x.data.toList) = l.map itoa := by
      rw [List.map_map]
      exact (List.map_congr_left (fun x _ => rfl)).trans (List.map_id _)
    have hlen : (join (l.map itoa) [44]).length ≤ 1408 := by
      refine Nat.le_trans (join_short _ 21 (fun x hx => ?_)) ?_
      · obtain ⟨y, hy, rfl⟩ := List.mem_map.mp hx
        have := hw y hy
        exact itoa_short this.1 this.2
      · rw [List.length_map]; omega
    rw [if_neg (by omega), List.take_of_length_le (by omega)]
    unfold strings_Join.f
    have e44 : (⟨#[44]⟩ : ByteArray).data.toList = [44] := rfl
    rw [hid, e44, if_pos ⟨by simp; omega, by omega⟩]
    rfl
  | succ d ih =>
    intro i k hd hi hk
    obtain ⟨k, rfl⟩ : ∃ q, k = q + 1 := ⟨k - 1, by omega⟩
    have hlt : i < l.length := by omega
    have hb := hw l[i] (List.getElem_mem hlt)
    simp only [impl_ListText.l0]
    rw [if_pos (by omega), if_pos (by omega), if_pos (by omega), rd_nat, getD_at hlt, decimal_tells hb.1 hb.2, Option.bind_some, if_pos (by simp; omega), w64_succ (n := l.length) hlt (by omega)]
    have := ih (i + 1) k (by omega) (by omega) (by omega)
    rw [take_map_succ hlt, List.map_append] at this
    exact this
theorem implListText_tells (l : List Int) (hl : l.length ≤ 35184372088832) (hw : ∀ x ∈ l, -9223372036854775808 ≤ x ∧ x ≤ 9223372036854775807) {k : Nat} (hk : 100 ≤ k) : impl_ListText.f k l = some (B (listText l)) := by
  obtain ⟨k, rfl⟩ : ∃ q, k = q + 1 := ⟨k - 1, by omega⟩
  unfold impl_ListText.f listText
  have jt : impl_ListText.j0 (k + 1) l true = some (B []) := by simp only [impl_ListText.j0]; rw [if_pos trivial]; rfl
  by_cases h64 : l.length ≤ 64
  · rw [if_neg (by omega)]
    unfold impl_ListText_1.any.f
    rw [Option.bind_some, any_fits]
    by_cases h : fits l = true
    · have h2 := h
      unfold fits at h2
      rw [decide_eq_true h64, Bool.true_and] at h2
      rw [h2, if_pos h]
      simp only [impl_ListText.j0, Bool.not_true]
      rw [if_neg (by decide)]
      unfold listTxt
      by_cases h0 : l.length = 0
      · rw [if_pos (by omega), if_pos h0]; rfl
      · rw [if_neg (by omega), if_neg h0]
        exact implText_loop l h64 hw l.length 0 k (by omega) (by omega) (by omega)
    · have h2 := Bool.eq_false_iff.mpr h
      unfold fits at h2
      rw [decide_eq_true h64, Bool.true_and] at h2
      rw [h2, if_neg h]
      exact jt
  · rw [if_pos (by omega), jt, if_neg]
    intro h
    exact h64 (fits_at h).1
end Go.Proofs.YtbalikebmacldaaGreatDoor.F
end

section
set_option linter.unusedVariables false
set_option linter.unusedSimpArgs false
set_option linter.unusedSectionVars false
namespace Go.Proofs.YtbalikebmacldaaGreatDoor.F
open Go.RowKit Go.Proofs.YtbalikebmacldaaGreatDoorW.PrintWords Go.Proofs.YtbalikebmacldaaGreatDoorW.PrintLast Go.Proofs.YtbalikebmacldaaGreatDoor.Lin
theorem slice_row {l : List Int} {r c i : Nat} (hl : l.length = r * c) (hi : i < r) : (l.take ((i + 1) * c)).drop (i * c) = (List.range c).map (fun j => l.getD (i * c + j) 0) := by
  have h1 : (i + 1) * c ≤ r * c := Nat.mul_le_mul_right _ hi
  have h2 := Nat.succ_mul i c
  have h4 : ((l.take ((i + 1) * c)).drop (i * c)).length = c := by
    rw [List.length_drop, List.length_take, Nat.min_eq_left (by rw [hl]; exact h1), h2, Nat.add_sub_cancel_left]
  refine List.ext_getElem (by rw [h4]; simp) (fun j hj hj' => ?_)
  have hj2 : j < c := by rw [h4] at hj; exact hj
  have h3 := at_lt hi hj2
  rw [List.getElem_drop, List.getElem_take, List.getElem_map, List.getElem_range, List.getD_eq_getElem?_getD, List.getElem?_eq_getElem (by omega)]
  rfl
theorem rdL_nat (l : List (List Int)) (i : Nat) : rd_L2 l (i : Int) = l.getD i [] := by unfold rd_L2; rw [Int.toNat_natCast]
def rowsM (R C : Nat) (l : List Int) : List (List Int) := (List.range R).map (fun i => (List.range C).map (fun j => l.getD (i * C + j) 0))
theorem rowsM_length (R C : Nat) (l : List Int) : (rowsM R C l).length = R := by unfold rowsM; simp
theorem rowsM_snoc (R C : Nat) (l : List Int) : rowsM R C l ++ [(List.range C).map (fun j => l.getD (R * C + j) 0)] = rowsM (R + 1) C l := by
  unfold rowsM; rw [List.range_succ, List.map_append]; rfl
theorem rowsM_ok {p : Int} {R C : Nat} {l : List Int} (h : ∀ j, 0 ≤ l.getD j 0 ∧ l.getD j 0 < p) : RowsOk p C (rowsM R C l) := fun r hr => by
  unfold rowsM at hr
  obtain ⟨i, _, rfl⟩ := List.mem_map.mp hr
  refine ⟨by simp, fun x hx => ?_⟩
  obtain ⟨j, _, rfl⟩ := List.mem_map.mp hx
  exact h _
theorem rowsM_cell {R C i j : Nat} (l : List Int) (hi : i < R) (hj : j < C) : cell (rowsM R C l) i j = l.getD (i * C + j) 0 := by
  unfold cell rowsM
  simp [List.getD_eq_getElem?_getD, hi, hj]
theorem rowsM_tab {R C : Nat} {l : List Int} (hl : l.length = R * C) : tab R C (cell (rowsM R C l)) = l :=
  (tab_ext hl (fun i j hi hj => (rowsM_cell l hi hj).symm)).symm
theorem clone_tells {p r : Int} {R C : Nat} {l : List Int} (hR : R ≤ 64) (hC : C ≤ 70) (hl : l.length = R * C) {i : Nat} (hi : i < R) :
    slices_Clone_int64_int64.f p r C l i = some ((List.range C).map (fun j => l.getD (i * C + j) 0)) := by
  unfold slices_Clone_int64_int64.f
  have h1 : (i + 1) * C ≤ R * C := Nat.mul_le_mul_right _ hi
  have h2 : i * C ≤ (i + 1) * C := Nat.mul_le_mul_right _ (by omega)
  rw [w64_succ (n := 64) (i := i) (by omega) (by omega), w64_mulN (r := i) (by omega) (by omega), w64_mulN (r := i + 1) (by omega) (by omega), if_pos (idx0 _), if_pos (by omega), if_pos (by omega), Int.toNat_natCast, Int.toNat_natCast, slice_row hl hi]
  rw [if_pos (by simp; omega)]
theorem rowsOf_loop {p r : Int} {R C : Nat} {l : List Int} (hR : R ≤ 64) (hC : C ≤ 70) (hl : l.length = R * C) (d : Nat) : ∀ k i, R - i = d → i ≤ R → d < k → impl_rowsOf.l0 k (rowsM i C l) R i p r C l = some (rowsM R C l) := by
  induction d with
  | zero =>
    intro k i hd hi hk
    obtain ⟨k, rfl⟩ : ∃ m, k = m + 1 := ⟨k - 1, by omega⟩
    obtain rfl : i = R := by omega
    simp only [impl_rowsOf.l0]
    rw [if_neg (nlt_nat (Nat.le_refl _))]
  | succ d ih =>
    intro k i hd hi hk
    obtain ⟨k, rfl⟩ : ∃ m, k = m + 1 := ⟨k - 1, by omega⟩
    have hiR : i < R := by omega
    simp only [impl_rowsOf.l0]
    rw [if_pos (lt_nat hiR), clone_tells hR hC hl hiR, Option.bind_some, if_pos (by rw [rowsM_length]; omega), rowsM_snoc, w64_succ (n := 64) (by omega) (by omega)]
    exact ih k (i + 1) (by omega) (by omega) (by omega)
theorem rowsOf_tells {p : Int} {R C : Nat} {l : List Int} (hR : R ≤ 64) (hC : C ≤ 70) (hl : l.length = R * C) {k : Nat} (hk : R < k) : impl_rowsOf.f k p R C l = some (rowsM R C l) := by
  unfold impl_rowsOf.f
  exact rowsOf_loop hR hC hl R k 0 (by omega) (by omega) hk
theorem take_flatten_succ {α : Type} (rs : List (List α)) {i : Nat} (hi : i < rs.length) : (rs.take (i + 1)).flatten = (rs.take i).flatten ++ rs.getD i [] := by
  rw [List.take_add_one, List.getElem?_eq_getElem hi, List.flatten_append, getD_at hi]
  simp
theorem tab_snoc (r c : Nat) (f : Nat → Nat → Int) : tab (r + 1) c f = tab r c f ++ (List.range c).map (f r) := by
  symm
  refine tab_ext (by rw [List.length_append, tab_length]; simp [Nat.succ_mul]) (fun i j hi hj => ?_)
  rw [List.getD_eq_getElem?_getD, List.getElem?_append, tab_length]
  by_cases h : i < r
  · have := at_lt h hj
    rw [if_pos this, ← List.getD_eq_getElem?_getD, tab_at f h hj]
  · obtain rfl : i = r := by omega
    rw [if_neg (by omega)]
    have e : i * c + j - i * c = j := by omega
    rw [e]
    simp [hj]
theorem flatten_tab {p : Int} {C : Nat} {rs : List (List Int)} (hok : RowsOk p C rs) (i : Nat) (hi : i ≤ rs.length) : (rs.take i).flatten = tab i C (cell rs) := by
  induction i with
  | zero => unfold tab; simp
  | succ i ih =>
    have hiR : i < rs.length := by omega
    rw [take_flatten_succ rs hiR, ih (by omega), tab_snoc]
    congr 1
    have h := (hok _ (getD_mem (d := []) hiR)).1
    refine ext_getD (by simpa using h) (fun j hj => ?_)
    rw [h] at hj
    show cell rs i j = _
    simp [List.getD_eq_getElem?_getD, hj]
theorem flatten_rows {p : Int} {C : Nat} {rs : List (List Int)} (hok : RowsOk p C rs) : rs.flatten = tab rs.length C (cell rs) := by
  have := flatten_tab hok rs.length (Nat.le_refl _)
  rwa [List.take_length] at this
end Go.Proofs.YtbalikebmacldaaGreatDoor.F
end

section
set_option linter.unusedVariables false
set_option linter.unusedSimpArgs false
set_option linter.unusedSectionVars false
namespace Go.Proofs.YtbalikebmacldaaGreatDoor.F
open Go.RowKit Go.Proofs.YtbalikebmacldaaGreatDoorW.PrintWords Go.Proofs.YtbalikebmacldaaGreatDoorW.PrintLast Go.Proofs.YtbalikebmacldaaGreatDoor.Lin
open Go.Lib
def rowTxt (r : List Int) : List UInt8 := 47 :: listTxt r
def rowsTxt (rs : List (List Int)) : List UInt8 := (rs.map rowTxt).flatten
def headTxt (p r c : Int) : List UInt8 := itoa p ++ [32] ++ itoa r ++ [120] ++ itoa c
def mtxTxt (p : Int) (R C : Nat) (l : List Int) : List UInt8 := headTxt p R C ++ rowsTxt (rowsM R C l)
theorem rowsTxt_cons (r : List Int) (rs : List (List Int)) : rowsTxt (r :: rs) = rowTxt r ++ rowsTxt rs := by unfold rowsTxt; simp
theorem rowsTxt_drop {rs : List (List Int)} {i : Nat} (h : i < rs.length) : rowsTxt (rs.drop i) = rowTxt rs[i] ++ rowsTxt (rs.drop (i + 1)) := by rw [List.drop_eq_getElem_cons h, rowsTxt_cons]
theorem listTxt_short {l : List Int} (h : fits l = true) : (listTxt l).length ≤ 1408 := by
  obtain ⟨f1, f2⟩ := fits_at h
  unfold listTxt
  by_cases h0 : l.length = 0
  · rw [if_pos h0]; simp
  · rw [if_neg h0]
    have := join_short (l.map itoa) 21 (fun t ht => by
      obtain ⟨v, hv, rfl⟩ := List.mem_map.mp ht
      have := f2 v hv
      exact itoa_short (by omega) (by omega))
    rw [List.length_map] at this
    have h2 : l.length * (21 + 1) ≤ 64 * 22 := Nat.mul_le_mul f1 (Nat.le_refl _)
    omega
theorem rowsTxt_short {rs : List (List Int)} (h : ∀ r ∈ rs, fits r = true) : (rowsTxt rs).length ≤ rs.length * 1409 := by
  induction rs with
  | nil => simp [rowsTxt]
  | cons r rs ih =>
    have h1 := listTxt_short (h r List.mem_cons_self)
    have h2 := ih (fun x hx => h x (List.mem_cons_of_mem _ hx))
    rw [rowsTxt_cons, List.length_append, List.length_cons, Nat.add_mul, Nat.one_mul]
    unfold rowTxt
    rw [List.length_cons]
    omega
theorem fits_row {p : Int} (hp : 2 ≤ p ∧ p ≤ 251) {R C : Nat} (hC : C ≤ 64) {l : List Int} (hv : ∀ j, 0 ≤ l.getD j 0 ∧ l.getD j 0 < p) : ∀ r ∈ rowsM R C l, fits r = true := fun r hr => by
  obtain ⟨a, b⟩ := rowsM_ok (R := R) (C := C) hv r hr
  unfold fits
  rw [Bool.and_eq_true]
  exact ⟨decide_eq_true (by omega), List.all_eq_true.mpr (fun x hx => decide_eq_true (by have := b x hx; omega))⟩
theorem row_text {r : List Int} (h : fits r = true) : listText r = listTxt r := by unfold listText; rw [if_pos h]
theorem slashed_loop {rs : List (List Int)} (hl : rs.length ≤ 64) (hf : ∀ r ∈ rs, fits r = true) (d : Nat) : ∀ (k i : Nat) (acc : List UInt8), rs.length - i = d → i ≤ rs.length → d + 200 ≤ k → acc.length + d * 1409 ≤ 1000000 →
    impl_slashed.l0 k acc rs i = some (B (acc ++ rowsTxt (rs.drop i))) := by
  induction d with
  | zero =>
    intro k i acc hd hi hk ha
    obtain ⟨k, rfl⟩ : ∃ m, k = m + 1 := ⟨k - 1, by omega⟩
    simp only [impl_slashed.l0]
    rw [if_neg (by omega), List.drop_eq_nil_of_le (by omega)]
    simp [rowsTxt, B]
  | succ d ih =>
    intro k i acc hd hi hk ha
    obtain ⟨k, rfl⟩ : ∃ m, k = m + 1 := ⟨k - 1, by omega⟩
    rw [Nat.succ_mul] at ha
    have hlt : i < rs.length := by omega
    have g1 : (i : Int) < (rs.length : Int) := by omega
    have g2 : (0 : Int) ≤ (i : Int) := by omega
    have hr := hf _ (List.getElem_mem hlt)
    have hfr := fits_at hr
    have hs := listTxt_short hr
    have g3 : acc.length + ((B (listTxt rs[i])).size + 1) ≤ 140737488355328 := by rw [B_size]; omega
    have e1 : impl_ListText.f k rs[i] = some (B (listTxt rs[i])) := by
      rw [implListText_tells _ (by omega) (fun x hx => by have := hfr.2 x hx; omega) (by omega), row_text hr]
    have g4 : rs.length ≤ 35184372088832 := by omega
    have e2 := ih k (i + 1) (acc ++ 47 :: listTxt rs[i]) (by omega) (by omega) (by omega) (by rw [List.length_append, List.length_cons]; omega)
    simp only [impl_slashed.l0]
    rw [if_pos g1, if_pos g2, rdL_nat, getD_at hlt, e1, Option.bind_some, if_pos g3, B_list, w64_succ hlt g4, e2, rowsTxt_drop hlt]
    simp [rowTxt]
theorem slashed_tells {rs : List (List Int)} (hl : rs.length ≤ 64) (hf : ∀ r ∈ rs, fits r = true) {k : Nat} (hk : 300 ≤ k) : impl_slashed.f k rs = some (B (rowsTxt rs)) := by
  have h2 : rs.length * 1409 ≤ 64 * 1409 := Nat.mul_le_mul hl (Nat.le_refl _)
  have := slashed_loop hl hf rs.length k 0 [] (by omega) (by omega) (by omega) (by simp; omega)
  rw [List.drop_zero, List.nil_append] at this
  unfold impl_slashed.f
  exact this
def textOut (p r c : Int) (l : List Int) : ByteArray := if matOk p r c l = true then B (mtxTxt p r.toNat c.toNat l) else B []
theorem head_length (p r c : Int) (hp : -9223372036854775808 ≤ p ∧ p ≤ 9223372036854775807) (hr : -9223372036854775808 ≤ r ∧ r ≤ 9223372036854775807) (hc : -9223372036854775808 ≤ c ∧ c ≤ 9223372036854775807) : (headTxt p r c).length ≤ 65 := by
  unfold headTxt
  simp only [List.length_append, List.length_cons, List.length_nil]
  have a := itoa_short hp.1 hp.2
  have b := itoa_short hr.1 hr.2
  have d := itoa_short hc.1 hc.2
  omega
theorem impl_textM (p r c : Int) {l : List Int} {k : Nat} (hk : 17000 ≤ k) : impl_MatrixText.f k p r c l = some (textOut p r c l) := by
  unfold impl_MatrixText.f textOut
  rw [implOk_tells p r c (by omega)]
  cases h : matOk p r c l with
  | false => rfl
  | true =>
    obtain ⟨R, C, rfl, rfl, h1, h2, h3, h4, h5⟩ := dimsM h
    have d1 : impl_Decimal.f p = some (B (itoa p)) := decimal_tells (by omega) (by omega)
    have d2 : impl_Decimal.f (R : Int) = some (B (itoa R)) := decimal_tells (by omega) (by omega)
    have d3 : impl_Decimal.f (C : Int) = some (B (itoa C)) := decimal_tells (by omega) (by omega)
    have s1 := itoa_short (x := p) (by omega) (by omega)
    have s2 := itoa_short (x := (R : Int)) (by omega) (by omega)
    have s3 := itoa_short (x := (C : Int)) (by omega) (by omega)
    have e32 : (⟨#[32]⟩ : ByteArray) = B [32] := rfl
    have e120 : (⟨#[120]⟩ : ByteArray) = B [120] := rfl
    have er := rowsOf_tells (p := p) (R := R) (C := C) (by omega) (by omega) h3 (k := k) (by omega)
    have hfr := fits_row h4 (R := R) (C := C) (by omega) h5
    have es := slashed_tells (rs := rowsM R C l) (by rw [rowsM_length]; omega) hfr (k := k) (by omega)
    have ls := rowsTxt_short hfr
    rw [rowsM_length] at ls
    have ls2 : R * 1409 ≤ 32 * 1409 := Nat.mul_le_mul h1 (Nat.le_refl _)
    have l32 : ([32] : List UInt8).length = 1 := rfl
    have l120 : ([120] : List UInt8).length = 1 := rfl
    simp only [Option.bind_some, if_true, Int.toNat_natCast, e32, e120]
    rw [d1, Option.bind_some, if_pos (by rw [B_size]; omega), d2, Option.bind_some, B_append, if_pos (by rw [B_size, B_size, List.length_append]; omega), B_append, if_pos (by rw [B_size, List.length_append, List.length_append]; omega), d3, Option.bind_some, B_append, if_pos (by rw [B_size, B_size, List.length_append, List.length_append, List.length_append]; omega), er, Option.bind_some, es, Option.bind_some, B_append, if_pos (by rw [B_size, B_size, List.length_append, List.length_append, List.length_append, List.length_append]; omega), B_append]
    rfl
theorem readDec_eq (s : ByteArray) : readDec s = numOf s.data.toList := readOf_eq s.data.toList
theorem readDecimal_tells (s : ByteArray) (hs : s.size ≤ 281474976710656) : impl_ReadDecimal.f s = some (numOf s.data.toList) := by
  unfold impl_ReadDecimal.f
  rw [if_pos hs, readDec_eq]
def glue (p : List UInt8) : List (List UInt8) → List (List UInt8)
  | [] => [p]
  | x :: xs => (p ++ x) :: xs
theorem split_tells (s : ByteArray) (hs : s.size ≤ 1048576) (c : UInt8) : strings_Split.f s ⟨#[c]⟩ = some ((splitL c s.data.toList).map B) := by
  unfold strings_Split.f
  rw [if_pos ⟨by omega, Nat.le_refl 1⟩, splitB_eq]
def numsOf (P : List (List UInt8)) : List Int := P.map (fun x => (numOf x).1)
def partOk (x : List UInt8) : Bool := (numOf x).2 && decide (-1000000000000 ≤ (numOf x).1 ∧ (numOf x).1 ≤ 1000000000000)
def readL (s : List UInt8) : List Int × Bool :=
  if s = [45] then ([], true) else
  if (splitL 44 s).length ≤ 64 ∧ (splitL 44 s).all partOk = true then (numsOf (splitL 44 s), true) else ([], false)
theorem numOf_range (x : List UInt8) : -1000000000000000000 < (numOf x).1 ∧ (numOf x).1 < 1000000000000000000 := by
  cases h : numOf x with
  | mk v b =>
    cases b with
    | true => exact (numOf_true h).2
    | false => have := numOf_false h; subst this; exact ⟨by decide, by decide⟩
theorem rdOf_natR (l : List ByteArray) (i : Nat) : rdOf ByteArray.empty l (i : Int) = l.getD i ByteArray.empty := by unfold rdOf; rw [Int.toNat_natCast]
theorem getBR {P : List (List UInt8)} {i : Nat} (h : i < P.length) : (P.map B).getD i ByteArray.empty = B P[i] := by
  rw [getD_at (by simpa using h), List.getElem_map]
theorem nums_take_succ {P : List (List UInt8)} {i : Nat} (h : i < P.length) : numsOf (P.take (i + 1)) = numsOf (P.take i) ++ [(numOf P[i]).1] := by
  unfold numsOf
  rw [List.take_add_one, List.getElem?_eq_getElem h, List.map_append]; rfl
theorem nums_length (P : List (List UInt8)) : (numsOf P).length = P.length := by unfold numsOf; simp
theorem implRead_loop (s : ByteArray) (P : List (List UInt8)) (hP : P.length ≤ 1048577) (hs : ∀ x ∈ P, x.length ≤ 1048576) : ∀ (d i k : Nat), P.length - i = d → i ≤ P.length → d + 101 ≤ k →
    impl_ReadList.l0 k s (numsOf (P.take i)) (P.map B) P.length i = some (if (B (listText (numsOf P))).toList = s.toList then (numsOf P, true) else ([], false)) := by
  intro d
  induction d with
  | zero =>
    intro i k hd hi hk
    obtain ⟨k, rfl⟩ : ∃ q, k = q + 1 := ⟨k - 1, by omega⟩
    simp only [impl_ReadList.l0, List.length_map]
    rw [if_neg (by omega), List.take_of_length_le (by omega), implListText_tells (numsOf P) (by rw [nums_length]; omega) (fun x hx => by
      obtain ⟨y, _, rfl⟩ := List.mem_map.mp hx
      have := numOf_range y
      omega) (by omega), Option.bind_some]
    split <;> rfl
  | succ d ih =>
    intro i k hd hi hk
    obtain ⟨k, rfl⟩ : ∃ q, k = q + 1 := ⟨k - 1, by omega⟩
    have hlt : i < P.length := by omega
    have hx := hs P[i] (List.getElem_mem hlt)
    have ih2 := ih (i + 1) k (by omega) (by omega) (by omega)
    rw [nums_take_succ hlt] at ih2
    have hn := nums_length (P.take i)
    rw [List.length_take] at hn
    simp only [impl_ReadList.l0, List.length_map]
    rw [if_pos (by omega), if_pos (by omega), if_pos (by omega), rdOf_natR, getBR hlt, readDecimal_tells (B P[i]) (by rw [B_size]; omega), Option.bind_some, B_list, if_pos (by omega), w64_succ (n := P.length) hlt (by omega)]
    exact ih2
theorem itoa_free {x : Int} : (44 : UInt8) ∉ itoa x := by
  intro h
  have hd := (itoa_num (v := x) rfl).1
  unfold digitsOf at hd
  have bad : ∀ l : List UInt8, l.all isDig = true → (44 : UInt8) ∉ l := fun l hl hm => by
    have := List.all_eq_true.mp hl 44 hm
    simp [isDig] at this
  by_cases hh : (itoa x).head? = some 45
  · rw [if_pos hh] at hd
    cases hq : itoa x with
    | nil => rw [hq] at h; simp at h
    | cons a r =>
      rw [hq] at h hh hd
      rcases List.mem_cons.mp h with e | h
      · rw [← e] at hh; simp at hh
      · exact bad r hd h
  · rw [if_neg hh] at hd
    exact bad _ hd h
theorem text_iff (s : List UInt8) (h45 : s ≠ [45]) : listText (numsOf (splitL 44 s)) = s ↔ (splitL 44 s).length ≤ 64 ∧ (splitL 44 s).all partOk = true := by
  have hne := splitL_ne 44 s
  have hjs := join_split 44 s
  have hfree := splitL_free 44 s
  generalize hP : splitL 44 s = P at *
  have hlen := nums_length P
  have hP0 : P.length ≠ 0 := fun h => hne (List.eq_nil_of_length_eq_zero h)
  constructor
  · intro h
    unfold listText at h
    by_cases hf : fits (numsOf P) = true
    · rw [if_pos hf] at h
      obtain ⟨f1, f2⟩ := fits_at hf
      refine ⟨by omega, ?_⟩
      unfold listTxt at h
      rw [if_neg (by omega)] at h
      have hsp : (numsOf P).map itoa = P := by
        have := split_join (c := 44) (xs := (numsOf P).map itoa) (by intro e; have := congrArg List.length e; simp at this; exact hP0 (by rw [← hlen]; exact List.length_eq_zero_iff.mpr this)) (fun x hx => by
          obtain ⟨y, _, rfl⟩ := List.mem_map.mp hx
          exact itoa_free)
        rw [h, hP] at this
        exact this.symm
      rw [List.all_eq_true]
      intro x hx
      obtain ⟨i, hi, rfl⟩ := List.mem_iff_getElem.mp hx
      have hi2 : i < (numsOf P).length := by omega
      have e1 : itoa (numsOf P)[i] = P[i] := by
        have h1 : ((numsOf P).map itoa)[i]? = P[i]? := by rw [hsp]
        rw [List.getElem?_map, List.getElem?_eq_getElem hi2, List.getElem?_eq_getElem hi] at h1
        exact Option.some.inj h1
      have e2 := f2 _ (List.getElem_mem hi2)
      have e3 := numOf_itoa (v := (numsOf P)[i]) (by omega) (by omega)
      rw [e1] at e3
      unfold partOk
      rw [e3]
      simp only [Bool.true_and, decide_eq_true_eq]
      exact e2
    · rw [if_neg hf] at h
      exfalso
      subst h
      have e0 : splitL 44 [] = [[]] := rfl
      rw [e0] at hP
      subst hP
      apply hf
      have : numsOf [[]] = [0] := rfl
      rw [this]; rfl
  · rintro ⟨h1, h2⟩
    have hok : ∀ x ∈ P, itoa (numOf x).1 = x ∧ -1000000000000 ≤ (numOf x).1 ∧ (numOf x).1 ≤ 1000000000000 := fun x hx => by
      have := List.all_eq_true.mp h2 x hx
      unfold partOk at this
      rw [Bool.and_eq_true, decide_eq_true_eq] at this
      exact ⟨(numOf_true (show numOf x = ((numOf x).1, true) by rw [← this.1])).1, this.2⟩
    have hf : fits (numsOf P) = true := by
      unfold fits
      rw [decide_eq_true (show (numsOf P).length ≤ 64 by omega), Bool.true_and, List.all_eq_true]
      intro y hy
      obtain ⟨x, hx, rfl⟩ := List.mem_map.mp hy
      exact decide_eq_true (hok x hx).2
    unfold listText listTxt
    rw [if_pos hf, if_neg (by omega)]
    have : (numsOf P).map itoa = P := by
      unfold numsOf
      rw [List.map_map]
      conv => rhs; rw [← List.map_id P]
      exact List.map_congr_left (fun x hx => (hok x hx).1)
    rw [this, hjs]
theorem implRead_tells (s : ByteArray) (hs : s.size ≤ 1048576) {k : Nat} (hk : 1048700 ≤ k) : impl_ReadList.f k s = some (readL s.data.toList) := by
  unfold impl_ReadList.f readL
  have e := size_len s
  rw [toList_data s]
  by_cases h45 : s.data.toList = [45]
  · rw [if_pos h45, if_pos h45]
  · have hl := splitL_length 44 s.data.toList
    rw [if_neg h45, if_neg h45, split_tells s hs 44, Option.bind_some, List.length_map]
    refine (implRead_loop s (splitL 44 s.data.toList) (by omega) (fun x hx => by have := splitL_short 44 s.data.toList x hx; omega) _ 0 k rfl (by omega) (by omega)).trans ?_
    rw [B_toList, toList_data s]
    have ht := text_iff s.data.toList h45
    by_cases hp : (splitL 44 s.data.toList).length ≤ 64 ∧ (splitL 44 s.data.toList).all partOk = true
    · rw [if_pos (ht.mpr hp), if_pos hp]
    · rw [if_neg (fun h => hp (ht.mp h)), if_neg hp]
theorem no_comma {v : Int} : (44 : UInt8) ∉ itoa v := fun h => by
  obtain ⟨h1, _⟩ := itoa_num (v := v) rfl
  unfold digitsOf at h1
  by_cases c : (itoa v).head? = some 45
  · rw [if_pos c] at h1
    cases hs : itoa v with
    | nil => rw [hs] at h; cases h
    | cons x r =>
      rw [hs] at h h1 c
      simp only [List.head?_cons, Option.some.injEq] at c
      subst c
      rcases List.mem_cons.mp h with h | h
      · exact absurd h (by decide)
      · have := List.all_eq_true.mp h1 44 (by simpa using h)
        exact absurd this (by decide)
  · rw [if_neg c] at h1
    have := List.all_eq_true.mp h1 44 h
    exact absurd this (by decide)
theorem read_back {l : List Int} (hf : fits l = true) (h0 : l ≠ []) : readL (listText l) = (l, true) := by
  obtain ⟨f1, f2⟩ := fits_at hf
  have hlen : ¬ l.length = 0 := fun h => h0 (List.length_eq_zero_iff.mp h)
  have hm : l.map itoa ≠ [] := fun h => h0 (List.map_eq_nil_iff.mp h)
  have hj : splitL 44 (join (l.map itoa) [44]) = l.map itoa := split_join hm (fun x hx => by
    obtain ⟨v, _, rfl⟩ := List.mem_map.mp hx
    exact no_comma)
  have hn : ∀ x, x ∈ l → numOf (itoa x) = (x, true) := fun x hx => by
    have := f2 x hx
    exact numOf_itoa (by omega) (by omega)
  unfold listText listTxt readL
  rw [if_pos hf, if_neg hlen]
  have hne : join (l.map itoa) [44] ≠ [45] := fun e => by
    rw [e] at hj
    have h45 : splitL 44 [45] = [[45]] := splitL_none (by decide)
    rw [h45] at hj
    cases hl : l with
    | nil => exact h0 hl
    | cons x r =>
      rw [hl] at hj
      have hx := hn x (by rw [hl]; exact List.mem_cons_self)
      have hj2 : [45] = itoa x ∧ r = [] := by simpa using hj
      have := hj2.1
      rw [← this] at hx
      have : numOf [45] = (0, false) := by decide
      rw [this] at hx
      exact absurd (congrArg Prod.snd hx) (by simp)
  rw [if_neg hne, hj]
  have hall : (l.map itoa).all partOk = true := List.all_eq_true.mpr (fun y hy => by
    obtain ⟨x, hx, rfl⟩ := List.mem_map.mp hy
    unfold partOk
    rw [hn x hx]
    have := f2 x hx
    simp [this])
  have hnum : numsOf (l.map itoa) = l := by
    unfold numsOf
    rw [List.map_map]
    exact (List.map_congr_left (fun x hx => by show (numOf (itoa x)).1 = x; rw [hn x hx])).trans (List.map_id' l)
  rw [if_pos ⟨by rw [List.length_map]; exact f1, hall⟩, hnum]
end Go.Proofs.YtbalikebmacldaaGreatDoor.F
end
