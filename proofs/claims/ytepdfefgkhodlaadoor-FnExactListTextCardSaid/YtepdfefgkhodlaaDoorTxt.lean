import Derived.Test.YtepdfefgkhodlaaDoorFx19
import Derived.Test.YtepdfefgkhodlaaDoorFx20
import Derived.Test.YtepdfefgkhodlaaDoorFx21
import Derived.Test.YtepdfefgkhodlaaDoorFx22
import Derived.Test.YtepdfefgkhodlaaDoorFx27
import Derived.Test.YtepdfefgkhodlaaDoorFx28
import Derived.Test.YtepdfefgkhodlaaDoorDec
import Derived.Test.YtepdfefgkhodlaaDoorSpl
import Derived.Test.YtepdfefgkhodlaaDoorVecS
import Derived.KernelRfl
set_option linter.unusedVariables false
set_option linter.unusedSimpArgs false
set_option linter.unusedSectionVars false
namespace Go.Proofs.YtepdfefgkhodlaaDoor.F
open Go.RowKit Go.Proofs.YtepdfefgkhodlaaDoorW.PrintWords Go.Proofs.YtepdfefgkhodlaaDoorW.PrintLast Go.Proofs.YtepdfefgkhodlaaDoor.Lin

open Go.Lib
/-- The text of a list that has one. -/
def listTxt (l : List Int) : List UInt8 := if l.length = 0 then [45] else join (l.map itoa) [44]
/-- Has a list a text? -/
def fits (l : List Int) : Bool := decide (l.length ≤ 64) && l.all (fun x => decide (-1000000000000 ≤ x ∧ x ≤ 1000000000000))
def listText (l : List Int) : List UInt8 := if fits l = true then listTxt l else []
theorem in_tellsT (n lo hi : Int) : spec_l00In.f n lo hi = some (decide (lo ≤ n ∧ n ≤ hi)) := by
  unfold spec_l00In.f
  by_cases h : n ≥ lo
  · rw [if_pos h]; congr 1; exact decide_eq_decide.mpr ⟨fun h2 => ⟨h, h2⟩, fun h2 => h2.2⟩
  · rw [if_neg h]; congr 1; exact (decide_eq_false (fun h2 => h h2.1)).symm
theorem fits_loop (l : List Int) (hl : l.length ≤ 35184372088832) : ∀ (d i k : Nat), l.length - i = d → i ≤ l.length → d < k → spec_l01Fits.l0 k l i = some (decide (l.length ≤ 64) && (l.drop i).all (fun x => decide (-1000000000000 ≤ x ∧ x ≤ 1000000000000))) := by
  intro d
  induction d with
  | zero =>
    intro i k hd hi hk
    obtain ⟨k, rfl⟩ : ∃ q, k = q + 1 := ⟨k - 1, by omega⟩
    simp only [spec_l01Fits.l0]
    rw [if_neg (by omega), List.drop_eq_nil_of_le (by omega), List.all_nil, Bool.and_true]
    congr 1
    exact decide_eq_decide.mpr (by omega)
  | succ d ih =>
    intro i k hd hi hk
    obtain ⟨k, rfl⟩ : ∃ q, k = q + 1 := ⟨k - 1, by omega⟩
    have hlt : i < l.length := by omega
    simp only [spec_l01Fits.l0]
    rw [if_pos (by omega), if_pos (by omega), rd_nat, in_tellsT, Option.bind_some, w64_succ (n := l.length) hlt hl, ih (i + 1) k (by omega) (by omega) (by omega), getD_at hlt, List.drop_eq_getElem_cons hlt, List.all_cons]
    by_cases h : -1000000000000 ≤ l[i] ∧ l[i] ≤ 1000000000000
    · rw [decide_eq_true h, if_pos rfl, Bool.true_and]
    · rw [decide_eq_false h, if_neg (by decide), Bool.false_and, Bool.and_false]
theorem fits_tells (l : List Int) (hl : l.length ≤ 35184372088832) {k : Nat} (hk : l.length < k) : spec_l01Fits.f k l = some (fits l) := by
  unfold spec_l01Fits.f
  have := fits_loop l hl l.length 0 k (by omega) (by omega) hk
  exact this
theorem fits_at {l : List Int} (h : fits l = true) : l.length ≤ 64 ∧ ∀ x ∈ l, -1000000000000 ≤ x ∧ x ≤ 1000000000000 := by
  unfold fits at h
  rw [Bool.and_eq_true, decide_eq_true_eq, List.all_eq_true] at h
  exact ⟨h.1, fun x hx => of_decide_eq_true (h.2 x hx)⟩
theorem itoa_short {x : Int} (h0 : -9223372036854775808 ≤ x) (h1 : x ≤ 9223372036854775807) : (itoa x).length ≤ 21 := by
  have h := revDig_length x.natAbs (Nat.lt_of_lt_of_le (show x.natAbs < 10000000000000000000 by omega) (by decide))
  unfold revDig at h
  rw [List.length_map, List.length_reverse] at h
  unfold itoa
  split
  · rw [List.length_cons]; omega
  · rename_i hx
    rw [show x.toNat = x.natAbs by omega]; omega
theorem join_short : ∀ (xs : List (List UInt8)) (n : Nat), (∀ x ∈ xs, x.length ≤ n) → (join xs [44]).length ≤ xs.length * (n + 1)
  | [], _, _ => by rw [join_nil]; simp
  | [x], n, h => by rw [join_one]; have := h x (by simp); simp; omega
  | x :: y :: r, n, h => by
    rw [join_cons2, List.length_append, List.length_append]
    have h1 := h x (by simp)
    have h2 := join_short (y :: r) n (fun z hz => h z (List.mem_cons_of_mem _ hz))
    rw [List.length_cons (a := x), Nat.add_mul, Nat.one_mul]
    have : ([44] : List UInt8).length = 1 := rfl
    omega
theorem take_map_succ {l : List Int} {i : Nat} (h : i < l.length) : (l.take (i + 1)).map itoa = (l.take i).map itoa ++ [itoa l[i]] := by
  rw [List.take_add_one, List.getElem?_eq_getElem h, List.map_append]; rfl
theorem l01List_loop (l : List Int) (hl : l.length ≤ 64) (hw : ∀ x ∈ l, -9223372036854775808 ≤ x ∧ x ≤ 9223372036854775807) : ∀ (d i k : Nat), l.length - i = d → i ≤ l.length → d + 300 < k →
    spec_l01List.l0 k l (B (join ((l.take i).map itoa) [44])) i = some (B (join (l.map itoa) [44])) := by
  intro d
  induction d with
  | zero =>
    intro i k hd hi hk
    obtain ⟨k, rfl⟩ : ∃ q, k = q + 1 := ⟨k - 1, by omega⟩
    simp only [spec_l01List.l0]
    rw [if_neg (by omega), List.take_of_length_le (by omega)]
  | succ d ih =>
    intro i k hd hi hk
    obtain ⟨k, rfl⟩ : ∃ q, k = q + 1 := ⟨k - 1, by omega⟩
    have hlt : i < l.length := by omega
    have hb := hw l[i] (List.getElem_mem hlt)
    have hs : ∀ j, (join ((l.take j).map itoa) [44]).length ≤ 1408 := fun j => by
      refine Nat.le_trans (join_short _ 21 (fun x hx => ?_)) ?_
      · obtain ⟨y, hy, rfl⟩ := List.mem_map.mp hx
        have := hw y (List.mem_of_mem_take hy)
        exact itoa_short this.1 this.2
      · rw [List.length_map, List.length_take]
        have : min j l.length ≤ 64 := by omega
        omega
    have hsi := hs i
    have hil := itoa_short hb.1 hb.2
    have e44 : (⟨#[44]⟩ : ByteArray) = B [44] := rfl
    have eD : (⟨(itoa l[i]).toArray⟩ : ByteArray) = B (itoa l[i]) := rfl
    have nx := take_map_succ hlt
    simp only [spec_l01List.l0]
    rw [if_pos (by omega)]
    by_cases h0 : i = 0
    · subst h0
      rw [if_neg (by omega), if_pos (by omega), rd_nat, getD_at hlt, l01Dec_tells hb.1 hb.2 (by omega), Option.bind_some, eD, if_pos (by rw [B_size, B_size]; omega), w64_succ (n := l.length) hlt (by omega), B_append]
      have := ih 1 k (by omega) (by omega) (by omega)
      rw [nx, List.take_zero, List.map_nil, List.nil_append, join_one] at this
      exact this
    · rw [if_pos (by omega), if_pos (by rw [B_size]; omega), if_pos (by omega), rd_nat, getD_at hlt, l01Dec_tells hb.1 hb.2 (by omega), Option.bind_some, eD, e44, B_append, if_pos (by rw [B_size, B_size, List.length_append]; have e1 : ([44] : List UInt8).length = 1 := rfl; omega), w64_succ (n := l.length) hlt (by omega), B_append]
      have := ih (i + 1) k (by omega) (by omega) (by omega)
      rw [nx, join_snoc (by intro e; have := congrArg List.length e; rw [List.length_map, List.length_take, List.length_nil] at this; omega)] at this
      exact this
theorem specListText_tells (l : List Int) (hl : l.length ≤ 35184372088832) (hw : ∀ x ∈ l, -9223372036854775808 ≤ x ∧ x ≤ 9223372036854775807) {k : Nat} (hk : l.length + 400 ≤ k) : spec_ListText.f k l = some (B (listText l)) := by
  unfold spec_ListText.f listText
  rw [fits_tells l hl (by omega), Option.bind_some]
  by_cases h : fits l = true
  · rw [if_pos h, if_pos h]
    unfold spec_l01List.f listTxt
    by_cases h0 : l.length = 0
    · rw [if_pos (by omega), if_pos h0]; rfl
    · have hf := fits_at h
      rw [if_neg (by omega), if_neg h0]
      have := l01List_loop l hf.1 hw l.length 0 k (by omega) (by omega) (by omega)
      have e : (⟨#[]⟩ : ByteArray) = B (join ((l.take 0).map itoa) [44]) := rfl
      rw [e, show ((0 : Int)) = ((0 : Nat) : Int) from rfl, this]; rfl
  · rw [if_neg h, if_neg h]; rfl
theorem any_fits (l : List Int) : (l.any noValue) = !(l.all (fun x => decide (-1000000000000 ≤ x ∧ x ≤ 1000000000000))) := by
  induction l with
  | nil => rfl
  | cons x l ih =>
    rw [List.any_cons, List.all_cons, ih]
    unfold noValue
    by_cases h1 : -1000000000000 ≤ x
    · by_cases h2 : x ≤ 1000000000000
      · simp [h1, h2]
      · simp [h1, h2]
    · simp [h1]
theorem implText_loop (l : List Int) (hl : l.length ≤ 64) (hw : ∀ x ∈ l, -9223372036854775808 ≤ x ∧ x ≤ 9223372036854775807) : ∀ (d i k : Nat), l.length - i = d → i ≤ l.length → d + 1 ≤ k →
    impl_ListText.l0 k (((l.take i).map itoa).map B) l l.length i = some (B (join (l.map itoa) [44])) := by
  intro d
  induction d with
  | zero =>
    intro i k hd hi hk
    obtain ⟨k, rfl⟩ : ∃ q, k = q + 1 := ⟨k - 1, by omega⟩
    simp only [impl_ListText.l0]
    have hid : ((l.map itoa).map B).map (fun x : ByteArray => x.data.toList) = l.map itoa := by
      rw [List.map_map]
      exact (List.map_congr_left (fun x _ => rfl)).trans (List.map_id _)
    have hlen : (join (l.map itoa) [44]).length ≤ 1408 := by
      refine Nat.le_trans (join_short _ 21 (fun x hx => ?_)) ?_
      · obtain ⟨y, hy, rfl⟩ := List.mem_map.mp hx
        have := hw y hy
        exact itoa_short this.1 this.2
      · rw [List.length_map]; omega
    rw [if_neg (by omega), List.take_of_length_le (by omega)]
    unfold strings_Join.f
    have e44 : (⟨#[44]⟩ : ByteArray).data.toList = [44] := rfl
    rw [hid, e44, if_pos ⟨by simp; omega, by omega⟩]
    rfl
  | succ d ih =>
    intro i k hd hi hk
    obtain ⟨k, rfl⟩ : ∃ q, k = q + 1 := ⟨k - 1, by omega⟩
    have hlt : i < l.length := by omega
    have hb := hw l[i] (List.getElem_mem hlt)
    simp only [impl_ListText.l0]
    rw [if_pos (by omega), if_pos (by omega), if_pos (by omega), rd_nat, getD_at hlt, decimal_tells hb.1 hb.2, Option.bind_some, if_pos (by simp; omega), w64_succ (n := l.length) hlt (by omega)]
    have := ih (i + 1) k (by omega) (by omega) (by omega)
    rw [take_map_succ hlt, List.map_append] at this
    exact this
theorem implListText_tells (l : List Int) (hl : l.length ≤ 35184372088832) (hw : ∀ x ∈ l, -9223372036854775808 ≤ x ∧ x ≤ 9223372036854775807) {k : Nat} (hk : 100 ≤ k) : impl_ListText.f k l = some (B (listText l)) := by
  obtain ⟨k, rfl⟩ : ∃ q, k = q + 1 := ⟨k - 1, by omega⟩
  unfold impl_ListText.f listText
  have jt : impl_ListText.j0 (k + 1) l true = some (B []) := by simp only [impl_ListText.j0]; rw [if_pos trivial]; rfl
  by_cases h64 : l.length ≤ 64
  · rw [if_neg (by omega)]
    unfold impl_ListText_1.any.f
    rw [Option.bind_some, any_fits]
    by_cases h : fits l = true
    · have h2 := h
      unfold fits at h2
      rw [decide_eq_true h64, Bool.true_and] at h2
      rw [h2, if_pos h]
      simp only [impl_ListText.j0, Bool.not_true]
      rw [if_neg (by decide)]
      unfold listTxt
      by_cases h0 : l.length = 0
      · rw [if_pos (by omega), if_pos h0]; rfl
      · rw [if_neg (by omega), if_neg h0]
        exact implText_loop l h64 hw l.length 0 k (by omega) (by omega) (by omega)
    · have h2 := Bool.eq_false_iff.mpr h
      unfold fits at h2
      rw [decide_eq_true h64, Bool.true_and] at h2
      rw [h2, if_neg h]
      exact jt
  · rw [if_pos (by omega), jt, if_neg]
    intro h
    exact h64 (fits_at h).1
end Go.Proofs.YtepdfefgkhodlaaDoor.F
