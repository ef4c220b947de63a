-- Texts of this claim, merged by pack.py (a program of this session's).
import Derived.Test.YtepdfefgkhodlaaDoorQFnExactReadList3
import Derived.Test.YtepdfefgkhodlaaDoorQFnExactReadList9
import Derived.Test.YtepdfefgkhodlaaDoorQFnExactReadList10
import Derived.Test.YtepdfefgkhodlaaDoorQFnExactReadList4
import Derived.Test.YtepdfefgkhodlaaDoorQFnExactReadList7
import Derived.Test.YtepdfefgkhodlaaDoorQFnExactReadList8
import Derived.KernelRfl
import Derived.Test.YtepdfefgkhodlaaDoorQFnExactReadList5
import Derived.Test.YtepdfefgkhodlaaDoorQFnExactReadList6

section
set_option linter.unusedVariables false
set_option linter.unusedSimpArgs false
set_option linter.unusedSectionVars false
namespace Go.Proofs.YtepdfefgkhodlaaDoor.F
open Go.RowKit Go.Proofs.YtepdfefgkhodlaaDoorW.PrintWords Go.Proofs.YtepdfefgkhodlaaDoorW.PrintLast Go.Proofs.YtepdfefgkhodlaaDoor.Lin

open Go.Lib
/-- The text of a list that has one. -/
def listTxt (l : List Int) : List UInt8 := if l.length = 0 then [45] else join (l.map itoa) [44]
/-- Has a list a text? -/
def fits (l : List Int) : Bool := decide (l.length ≤ 64) && l.all (fun x => decide (-1000000000000 ≤ x ∧ x ≤ 1000000000000))
def listText (l : List Int) : List UInt8 := if fits l = true then listTxt l else []
theorem in_tellsT (n lo hi : Int) : spec_l00In.f n lo hi = some (decide (lo ≤ n ∧ n ≤ hi)) := by
  unfold spec_l00In.f
  by_cases h : n ≥ lo
  · rw [if_pos h]; congr 1; exact decide_eq_decide.mpr ⟨fun h2 => ⟨h, h2⟩, fun h2 => h2.2⟩
  · rw [if_neg h]; congr 1; exact (decide_eq_false (fun h2 => h h2.1)).symm
theorem fits_loop (l : List Int) (hl : l.length ≤ 35184372088832) : ∀ (d i k : Nat), l.length - i = d → i ≤ l.length → d < k → spec_l01Fits.l0 k l i = some (decide (l.length ≤ 64) && (l.drop i).all (fun x => decide (-1000000000000 ≤ x ∧ x ≤ 1000000000000))) := by
  intro d
  induction d with
  | zero =>
    intro i k hd hi hk
    obtain ⟨k, rfl⟩ : ∃ q, k = q + 1 := ⟨k - 1, by omega⟩
    simp only [spec_l01Fits.l0]
    rw [if_neg (by omega), List.drop_eq_nil_of_le (by omega), List.all_nil, Bool.and_true]
    congr 1
    exact decide_eq_decide.mpr (by omega)
  | succ d ih =>
    intro i k hd hi hk
    obtain ⟨k, rfl⟩ : ∃ q, k = q + 1 := ⟨k - 1, by omega⟩
    have hlt : i < l.length := by omega
    simp only [spec_l01Fits.l0]
    rw [if_pos (by omega), if_pos (by omega), rd_nat, in_tellsT, Option.bind_some, w64_succ (n := l.length) hlt hl, ih (i + 1) k (by omega) (by omega) (by omega), getD_at hlt, List.drop_eq_getElem_cons hlt, List.all_cons]
    by_cases h : -1000000000000 ≤ l[i] ∧ l[i] ≤ 1000000000000
    · rw [decide_eq_true h, if_pos rfl, Bool.true_and]
    · rw [decide_eq_false h, if_neg (by decide), Bool.false_and, Bool.and_false]
theorem fits_tells (l : List Int) (hl : l.length ≤ 35184372088832) {k : Nat} (hk : l.length < k) : spec_l01Fits.f k l = some (fits l) := by
  unfold spec_l01Fits.f
  have := fits_loop l hl l.length 0 k (by omega) (by omega) hk
  exact this
theorem fits_at {l : List Int} (h : fits l = true) : l.length ≤ 64 ∧ ∀ x ∈ l, -1000000000000 ≤ x ∧ x ≤ 1000000000000 := by
  unfold fits at h
  rw [Bool.and_eq_true, decide_eq_true_eq, List.all_eq_true] at h
  exact ⟨h.1, fun x hx => of_decide_eq_true (h.2 x hx)⟩
theorem itoa_short {x : Int} (h0 : -9223372036854775808 ≤ x) (h1 : x ≤ 9223372036854775807) : (itoa x).length ≤ 21 := by
  have h := revDig_length x.natAbs (Nat.lt_of_lt_of_le (show x.natAbs < 10000000000000000000 by omega) (by decide))
  unfold revDig at h
  rw [List.length_map, List.length_reverse] at h
  unfold itoa
  split
  · rw [List.length_cons]; omega
  · rename_i hx
    rw [show x.toNat = x.natAbs by omega]; omega
theorem join_short : ∀ (xs : List (List UInt8)) (n : Nat), (∀ x ∈ xs, x.length ≤ n) → (join xs [44]).length ≤ xs.length * (n + 1)
  | [], _, _ => by rw [join_nil]; simp
  | [x], n, h => by rw [join_one]; have := h x (by simp); simp; omega
  | x :: y :: r, n, h => by
    rw [join_cons2, List.length_append, List.length_append]
    have h1 := h x (by simp)
    have h2 := join_short (y :: r) n (fun z hz => h z (List.mem_cons_of_mem _ hz))
    rw [List.length_cons (a := x), Nat.add_mul, Nat.one_mul]
    have : ([44] : List UInt8).length = 1 := rfl
    omega
theorem take_map_succ {l : List Int} {i : Nat} (h : i < l.length) : (l.take (i + 1)).map itoa = (l.take i).map itoa ++ [itoa l[i]] := by
  rw [List.take_add_one, List.getElem?_eq_getElem h, List.map_append]; rfl
theorem l01List_loop (l : List Int) (hl : l.length ≤ 64) (hw : ∀ x ∈ l, -9223372036854775808 ≤ x ∧ x ≤ 9223372036854775807) : ∀ (d i k : Nat), l.length - i = d → i ≤ l.length → d + 300 < k →
    spec_l01List.l0 k l (B (join ((l.take i).map itoa) [44])) i = some (B (join (l.map itoa) [44])) := by
  intro d
  induction d with
  | zero =>
    intro i k hd hi hk
    obtain ⟨k, rfl⟩ : ∃ q, k = q + 1 := ⟨k - 1, by omega⟩
    simp only [spec_l01List.l0]
    rw [if_neg (by omega), List.take_of_length_le (by omega)]
  | succ d ih =>
    intro i k hd hi hk
    obtain ⟨k, rfl⟩ : ∃ q, k = q + 1 := ⟨k - 1, by omega⟩
    have hlt : i < l.length := by omega
    have hb := hw l[i] (List.getElem_mem hlt)
    have hs : ∀ j, (join ((l.take j).map itoa) [44]).length ≤ 1408 := fun j => by
      refine Nat.le_trans (join_short _ 21 (fun x hx => ?_)) ?_
      · obtain ⟨y, hy, rfl⟩ := List.mem_map.mp hx
        have := hw y (List.mem_of_mem_take hy)
        exact itoa_short this.1 this.2
      · rw [List.length_map, List.length_take]
        have : min j l.length ≤ 64 := by omega
        omega
    have hsi := hs i
    have hil := itoa_short hb.1 hb.2
    have e44 : (⟨#[44]⟩ : ByteArray) = B [44] := rfl
    have eD : (⟨(itoa l[i]).toArray⟩ : ByteArray) = B (itoa l[i]) := rfl
    have nx := take_map_succ hlt
    simp only [spec_l01List.l0]
    rw [if_pos (by omega)]
    by_cases h0 : i = 0
    · subst h0
      rw [if_neg (by omega), if_pos (by omega), rd_nat, getD_at hlt, l01Dec_tells hb.1 hb.2 (by omega), Option.bind_some, eD, if_pos (by rw [B_size, B_size]; omega), w64_succ (n := l.length) hlt (by omega), B_append]
      have := ih 1 k (by omega) (by omega) (by omega)
      rw [nx, List.take_zero, List.map_nil, List.nil_append, join_one] at this
      exact this
    · rw [if_pos (by omega), if_pos (by rw [B_size]; omega), if_pos (by omega), rd_nat, getD_at hlt, l01Dec_tells hb.1 hb.2 (by omega), Option.bind_some, eD, e44, B_append, if_pos (by rw [B_size, B_size, List.length_append]; have e1 : ([44] : List UInt8).length = 1 := rfl; omega), w64_succ (n := l.length) hlt (by omega), B_append]
      have := ih (i + 1) k (by omega) (by omega) (by omega)
      rw [nx, join_snoc (by intro e; have := congrArg List.length e; rw [List.length_map, List.length_take, List.length_nil] at this; omega)] at this
      exact this
theorem specListText_tells (l : List Int) (hl : l.length ≤ 35184372088832) (hw : ∀ x ∈ l, -9223372036854775808 ≤ x ∧ x ≤ 9223372036854775807) {k : Nat} (hk : l.length + 400 ≤ k) : spec_ListText.f k l = some (B (listText l)) := by
  unfold spec_ListText.f listText
  rw [fits_tells l hl (by omega), Option.bind_some]
  by_cases h : fits l = true
  · rw [if_pos h, if_pos h]
    unfold spec_l01List.f listTxt
    by_cases h0 : l.length = 0
    · rw [if_pos (by omega), if_pos h0]; rfl
    · have hf := fits_at h
      rw [if_neg (by omega), if_neg h0]
      have := l01List_loop l hf.1 hw l.length 0 k (by omega) (by omega) (by omega)
      have e : (⟨#[]⟩ : ByteArray) = B (join ((l.take 0).map itoa) [44]) := rfl
      rw [e, show ((0 : Int)) = ((0 : Nat) : Int) from rfl, this]; rfl
  · rw [if_neg h, if_neg h]; rfl
theorem any_fits (l : List Int) : (l.any noValue) = !(l.all (fun x => decide (-1000000000000 ≤ x ∧ x ≤ 1000000000000))) := by
  induction l with
  | nil => rfl
  | cons x l ih =>
    rw [List.any_cons, List.all_cons, ih]
    unfold noValue
    by_cases h1 : -1000000000000 ≤ x
    · by_cases h2 : x ≤ 1000000000000
      · simp [h1, h2]
      · simp [h1, h2]
    · simp [h1]
theorem implText_loop (l : List Int) (hl : l.length ≤ 64) (hw : ∀ x ∈ l, -9223372036854775808 ≤ x ∧ x ≤ 9223372036854775807) : ∀ (d i k : Nat), l.length - i = d → i ≤ l.length → d + 1 ≤ k →
    impl_ListText.l0 k (((l.take i).map itoa).map B) l l.length i = some (B (join (l.map itoa) [44])) := by
  intro d
  induction d with
  | zero =>
    intro i k hd hi hk
    obtain ⟨k, rfl⟩ : ∃ q, k = q + 1 := ⟨k - 1, by omega⟩
    simp only [impl_ListText.l0]
    have hid : ((l.map itoa).map B).map (fun x : ByteArray => x.data.toList) = l.map itoa := by
      rw [List.map_map]
      exact (List.map_congr_left (fun x _ => rfl)).trans (List.map_id _)
    have hlen : (join (l.map itoa) [44]).length ≤ 1408 := by
      refine Nat.le_trans (join_short _ 21 (fun x hx => ?_)) ?_
      · obtain ⟨y, hy, rfl⟩ := List.mem_map.mp hx
        have := hw y hy
        exact itoa_short this.1 this.2
      · rw [List.length_map]; omega
    rw [if_neg (by omega), List.take_of_length_le (by omega)]
    unfold strings_Join.f
    have e44 : (⟨#[44]⟩ : ByteArray).data.toList = [44] := rfl
    rw [hid, e44, if_pos ⟨by simp; omega, by omega⟩]
    rfl
  | succ d ih =>
    intro i k hd hi hk
    obtain ⟨k, rfl⟩ : ∃ q, k = q + 1 := ⟨k - 1, by omega⟩
    have hlt : i < l.length := by omega
    have hb := hw l[i] (List.getElem_mem hlt)
    simp only [impl_ListText.l0]
    rw [if_pos (by omega), if_pos (by omega), if_pos (by omega), rd_nat, getD_at hlt, decimal_tells hb.1 hb.2, Option.bind_some, if_pos (by simp; omega), w64_succ (n := l.length) hlt (by omega)]
    have := ih (i + 1) k (by omega) (by omega) (by omega)
    rw [take_map_succ hlt, List.map_append] at this
    exact this
theorem implListText_tells (l : List Int) (hl : l.length ≤ 35184372088832) (hw : ∀ x ∈ l, -9223372036854775808 ≤ x ∧ x ≤ 9223372036854775807) {k : Nat} (hk : 100 ≤ k) : impl_ListText.f k l = some (B (listText l)) := by
  obtain ⟨k, rfl⟩ : ∃ q, k = q + 1 := ⟨k - 1, by omega⟩
  unfold impl_ListText.f listText
  have jt : impl_ListText.j0 (k + 1) l true = some (B []) := by simp only [impl_ListText.j0]; rw [if_pos trivial]; rfl
  by_cases h64 : l.length ≤ 64
  · rw [if_neg (by omega)]
    unfold impl_ListText_1.any.f
    rw [Option.bind_some, any_fits]
    by_cases h : fits l = true
    · have h2 := h
      unfold fits at h2
      rw [decide_eq_true h64, Bool.true_and] at h2
      rw [h2, if_pos h]
      simp only [impl_ListText.j0, Bool.not_true]
      rw [if_neg (by decide)]
      unfold listTxt
      by_cases h0 : l.length = 0
      · rw [if_pos (by omega), if_pos h0]; rfl
      · rw [if_neg (by omega), if_neg h0]
        exact implText_loop l h64 hw l.length 0 k (by omega) (by omega) (by omega)
    · have h2 := Bool.eq_false_iff.mpr h
      unfold fits at h2
      rw [decide_eq_true h64, Bool.true_and] at h2
      rw [h2, if_neg h]
      exact jt
  · rw [if_pos (by omega), jt, if_neg]
    intro h
    exact h64 (fits_at h).1

/-- The marks: m, m + 1, .. -/
def iota (m : Int) (n : Nat) : List Int := (List.range n).map (fun j : Nat => m + (j : Int))
theorem iota_length (m : Int) (n : Nat) : (iota m n).length = n := by unfold iota; simp
theorem iota_getD (m : Int) {n j : Nat} (h : j < n) : (iota m n).getD j 0 = m + j := by unfold iota; simp [List.getD_eq_getElem?_getD, h]
theorem mark_loop {m0 : Int} {n : Nat} (hm : 0 ≤ m0) (hm' : m0 + n ≤ 4611686018427387904) (hn : n ≤ 35184372088832) (d : Nat) : ∀ (k i : Nat) (acc : List Int) (m : Int), n - i = d → i ≤ n → d < k → acc.length = n → m = m0 + i → (∀ j, j < i → acc.getD j 0 = m0 + j) →
    laws_markInt64S.l0 k acc m i = some (m0 + n, iota m0 n) := by
  induction d with
  | zero =>
    intro k i acc m hd hi hk ha he h
    obtain ⟨k, rfl⟩ : ∃ m, k = m + 1 := ⟨k - 1, by omega⟩
    simp only [laws_markInt64S.l0]
    rw [if_neg (by omega)]
    have e1 : m = m0 + n := by omega
    have e2 : acc = iota m0 n := ext_getD (by rw [iota_length, ha]) (fun j hj => by rw [h j (by omega), iota_getD m0 (by omega)])
    rw [e1, e2]
  | succ d ih =>
    intro k i acc m hd hi hk ha he h
    obtain ⟨k, rfl⟩ : ∃ m, k = m + 1 := ⟨k - 1, by omega⟩
    simp only [laws_markInt64S.l0]
    rw [if_pos (by omega), if_pos (by omega), w64_succ (n := n) (by omega) hn, Int.toNat_natCast, w64_idV (x := m + 1) (by omega) (by omega)]
    refine ih k (i + 1) _ (m + 1) (by omega) (by omega) (by omega) (by simp [ha]) (by omega) (fun j hj => ?_)
    rw [getD_set _ _ _ _ (by omega)]
    by_cases e : j = i
    · rw [if_pos e, e]; exact he
    · rw [if_neg e]; exact h j (by omega)
theorem mark_tells {l : List Int} {m : Int} (hm : 0 ≤ m) (hm' : m + l.length ≤ 4611686018427387904) (hl : l.length ≤ 35184372088832) {k : Nat} (hk : l.length < k) : laws_markInt64S.f k l m = some (m + l.length, iota m l.length) := by
  unfold laws_markInt64S.f
  exact mark_loop hm hm' hl l.length k 0 l m (by omega) (by omega) hk rfl (by omega) (fun j hj => by omega)
theorem held_loop {m0 : Int} {n : Nat} (hm : 0 ≤ m0) (hm' : m0 + n ≤ 4611686018427387904) (hn : n ≤ 35184372088832) (d : Nat) : ∀ (k i : Nat) (m : Int), n - i = d → i ≤ n → d < k → m = m0 + i →
    laws_heldInt64S.l0 k (iota m0 n) m i = some (m0 + n) := by
  induction d with
  | zero =>
    intro k i m hd hi hk he
    obtain ⟨k, rfl⟩ : ∃ m, k = m + 1 := ⟨k - 1, by omega⟩
    simp only [laws_heldInt64S.l0, iota_length]
    rw [if_neg (by omega)]
    have e1 : m = m0 + n := by omega
    rw [e1]
  | succ d ih =>
    intro k i m hd hi hk he
    obtain ⟨k, rfl⟩ : ∃ m, k = m + 1 := ⟨k - 1, by omega⟩
    simp only [laws_heldInt64S.l0, iota_length]
    rw [if_pos (by omega), if_pos (by omega), rd_nat, iota_getD m0 (by omega), if_pos he.symm, w64_succ (n := n) (by omega) hn, w64_idV (x := m + 1) (by omega) (by omega)]
    exact ih k (i + 1) (m + 1) (by omega) (by omega) (by omega) (by omega)
theorem held_tells {m : Int} {n : Nat} (hm : 0 ≤ m) (hm' : m + n ≤ 4611686018427387904) (hn : n ≤ 35184372088832) {k : Nat} (hk : n < k) : laws_heldInt64S.f k (iota m n) m = some (m + n) := by
  unfold laws_heldInt64S.f
  exact held_loop hm hm' hn n k 0 m (by omega) (by omega) hk (by omega)

open Go.Lib
/-- The numbers of the parts. -/
def numsOf (P : List (List UInt8)) : List Int := P.map (fun x => (numOf x).1)
/-- Is a part a number of a list? -/
def partOk (x : List UInt8) : Bool := (numOf x).2 && decide (-1000000000000 ≤ (numOf x).1 ∧ (numOf x).1 ≤ 1000000000000)
/-- The list with a text. -/
def readL (s : List UInt8) : List Int × Bool :=
  if s = [45] then ([], true) else
  if (splitL 44 s).length ≤ 64 ∧ (splitL 44 s).all partOk = true then (numsOf (splitL 44 s), true) else ([], false)
theorem numOf_range (x : List UInt8) : -1000000000000000000 < (numOf x).1 ∧ (numOf x).1 < 1000000000000000000 := by
  cases h : numOf x with
  | mk v b =>
    cases b with
    | true => exact (numOf_true h).2
    | false => have := numOf_false h; subst this; exact ⟨by decide, by decide⟩
theorem rdOf_natR (l : List ByteArray) (i : Nat) : rdOf ByteArray.empty l (i : Int) = l.getD i ByteArray.empty := by unfold rdOf; rw [Int.toNat_natCast]
theorem getBR {P : List (List UInt8)} {i : Nat} (h : i < P.length) : (P.map B).getD i ByteArray.empty = B P[i] := by
  rw [getD_at (by simpa using h), List.getElem_map]
theorem nums_take_succ {P : List (List UInt8)} {i : Nat} (h : i < P.length) : numsOf (P.take (i + 1)) = numsOf (P.take i) ++ [(numOf P[i]).1] := by
  unfold numsOf
  rw [List.take_add_one, List.getElem?_eq_getElem h, List.map_append]; rfl
theorem nums_length (P : List (List UInt8)) : (numsOf P).length = P.length := by unfold numsOf; simp
theorem specRead_loop (P : List (List UInt8)) (hP : P.length ≤ 64) (hs : ∀ x ∈ P, x.length ≤ 1048576) : ∀ (d i k : Nat), P.length - i = d → i ≤ P.length → d + 1048600 < k →
    spec_ReadList.l0 k (P.map B) (numsOf (P.take i)) i = some (if (P.drop i).all partOk = true then (numsOf P, true) else ([], false)) := by
  intro d
  induction d with
  | zero =>
    intro i k hd hi hk
    obtain ⟨k, rfl⟩ : ∃ q, k = q + 1 := ⟨k - 1, by omega⟩
    simp only [spec_ReadList.l0, List.length_map]
    rw [if_neg (by omega), List.take_of_length_le (by omega), List.drop_eq_nil_of_le (by omega), List.all_nil, if_pos rfl]
  | succ d ih =>
    intro i k hd hi hk
    obtain ⟨k, rfl⟩ : ∃ q, k = q + 1 := ⟨k - 1, by omega⟩
    have hlt : i < P.length := by omega
    have hx := hs P[i] (List.getElem_mem hlt)
    have ih2 := ih (i + 1) k (by omega) (by omega) (by omega)
    rw [nums_take_succ hlt] at ih2
    have hn := nums_length (P.take i)
    rw [List.length_take] at hn
    simp only [spec_ReadList.l0, List.length_map]
    rw [if_pos (by omega), if_pos (by omega), rdOf_natR, getBR hlt, number_tells (B P[i]) (by rw [B_size]; exact hx) (by rw [B_size]; omega), Option.bind_some, B_list, List.drop_eq_getElem_cons hlt, List.all_cons]
    have hpo : partOk P[i] = ((numOf P[i]).2 && decide (-1000000000000 ≤ (numOf P[i]).1 ∧ (numOf P[i]).1 ≤ 1000000000000)) := rfl
    rw [hpo]
    cases hq : numOf P[i] with
    | mk v b =>
      rw [hq] at ih2
      dsimp only at ih2 ⊢
      cases b with
      | false => rw [if_neg (by decide), Bool.false_and, Bool.false_and, if_neg (by decide)]
      | true =>
        rw [if_pos rfl, in_tellsT, Option.bind_some, Bool.true_and]
        by_cases h : -1000000000000 ≤ v ∧ v ≤ 1000000000000
        · rw [decide_eq_true h, if_pos rfl, if_pos (by omega), w64_succ (n := P.length) hlt (by omega), Bool.true_and]
          exact ih2
        · rw [decide_eq_false h, if_neg (by decide), Bool.false_and, if_neg (by decide)]
theorem implRead_loop (s : ByteArray) (P : List (List UInt8)) (hP : P.length ≤ 1048577) (hs : ∀ x ∈ P, x.length ≤ 1048576) : ∀ (d i k : Nat), P.length - i = d → i ≤ P.length → d + 101 ≤ k →
    impl_ReadList.l0 k s (numsOf (P.take i)) (P.map B) P.length i = some (if (B (listText (numsOf P))).toList = s.toList then (numsOf P, true) else ([], false)) := by
  intro d
  induction d with
  | zero =>
    intro i k hd hi hk
    obtain ⟨k, rfl⟩ : ∃ q, k = q + 1 := ⟨k - 1, by omega⟩
    simp only [impl_ReadList.l0, List.length_map]
    rw [if_neg (by omega), List.take_of_length_le (by omega), implListText_tells (numsOf P) (by rw [nums_length]; omega) (fun x hx => by
      obtain ⟨y, _, rfl⟩ := List.mem_map.mp hx
      have := numOf_range y
      omega) (by omega), Option.bind_some]
    split <;> rfl
  | succ d ih =>
    intro i k hd hi hk
    obtain ⟨k, rfl⟩ : ∃ q, k = q + 1 := ⟨k - 1, by omega⟩
    have hlt : i < P.length := by omega
    have hx := hs P[i] (List.getElem_mem hlt)
    have ih2 := ih (i + 1) k (by omega) (by omega) (by omega)
    rw [nums_take_succ hlt] at ih2
    have hn := nums_length (P.take i)
    rw [List.length_take] at hn
    simp only [impl_ReadList.l0, List.length_map]
    rw [if_pos (by omega), if_pos (by omega), if_pos (by omega), rdOf_natR, getBR hlt, readDecimal_tells (B P[i]) (by rw [B_size]; omega), Option.bind_some, B_list, if_pos (by omega), w64_succ (n := P.length) hlt (by omega)]
    exact ih2
theorem specRead_tells (s : ByteArray) (hs : s.size ≤ 1048576) {k : Nat} (hk : 2097300 ≤ k) : spec_ReadList.f k s = some (readL s.data.toList) := by
  unfold spec_ReadList.f readL
  have e := size_len s
  rw [toList_data s]
  by_cases h45 : s.data.toList = [45]
  · rw [if_pos h45, if_pos h45]
  · rw [if_neg h45, if_neg h45, l01Split_tells (n := 44) s hs 44 rfl (by omega), Option.bind_some, List.length_map]
    by_cases h64 : (splitL 44 s.data.toList).length ≤ 64
    · rw [if_neg (by omega)]
      have := specRead_loop (splitL 44 s.data.toList) h64 (fun x hx => by have := splitL_short 44 s.data.toList x hx; omega) _ 0 k rfl (by omega) (by omega)
      refine this.trans ?_
      rw [List.drop_zero]
      by_cases hp : (splitL 44 s.data.toList).all partOk = true
      · rw [if_pos hp, if_pos ⟨h64, hp⟩]
      · rw [if_neg hp, if_neg (fun h => hp h.2)]
    · rw [if_pos (by omega), if_neg (fun h => h64 h.1)]
theorem itoa_free {x : Int} : (44 : UInt8) ∉ itoa x := by
  intro h
  have hd := (itoa_num (v := x) rfl).1
  unfold digitsOf at hd
  have bad : ∀ l : List UInt8, l.all isDig = true → (44 : UInt8) ∉ l := fun l hl hm => by
    have := List.all_eq_true.mp hl 44 hm
    simp [isDig] at this
  by_cases hh : (itoa x).head? = some 45
  · rw [if_pos hh] at hd
    cases hq : itoa x with
    | nil => rw [hq] at h; simp at h
    | cons a r =>
      rw [hq] at h hh hd
      rcases List.mem_cons.mp h with e | h
      · rw [← e] at hh; simp at hh
      · exact bad r hd h
  · rw [if_neg hh] at hd
    exact bad _ hd h
theorem itoa_ne (x : Int) : itoa x ≠ [] := by
  unfold itoa
  split
  · simp
  · exact (canon_dec x.toNat).1.1
/-- The text of the numbers is the text that was parted: just when the parts are numbers of a list. -/
theorem text_iff (s : List UInt8) (h45 : s ≠ [45]) : listText (numsOf (splitL 44 s)) = s ↔ (splitL 44 s).length ≤ 64 ∧ (splitL 44 s).all partOk = true := by
  have hne := splitL_ne 44 s
  have hjs := join_split 44 s
  have hfree := splitL_free 44 s
  generalize hP : splitL 44 s = P at *
  have hlen := nums_length P
  have hP0 : P.length ≠ 0 := fun h => hne (List.eq_nil_of_length_eq_zero h)
  constructor
  · intro h
    unfold listText at h
    by_cases hf : fits (numsOf P) = true
    · rw [if_pos hf] at h
      obtain ⟨f1, f2⟩ := fits_at hf
      refine ⟨by omega, ?_⟩
      unfold listTxt at h
      rw [if_neg (by omega)] at h
      have hsp : (numsOf P).map itoa = P := by
        have := split_join (c := 44) (xs := (numsOf P).map itoa) (by intro e; have := congrArg List.length e; simp at this; exact hP0 (by rw [← hlen]; exact List.length_eq_zero_iff.mpr this)) (fun x hx => by
          obtain ⟨y, _, rfl⟩ := List.mem_map.mp hx
          exact itoa_free)
        rw [h, hP] at this
        exact this.symm
      rw [List.all_eq_true]
      intro x hx
      obtain ⟨i, hi, rfl⟩ := List.mem_iff_getElem.mp hx
      have hi2 : i < (numsOf P).length := by omega
      have e1 : itoa (numsOf P)[i] = P[i] := by
        have h1 : ((numsOf P).map itoa)[i]? = P[i]? := by rw [hsp]
        rw [List.getElem?_map, List.getElem?_eq_getElem hi2, List.getElem?_eq_getElem hi] at h1
        exact Option.some.inj h1
      have e2 := f2 _ (List.getElem_mem hi2)
      have e3 := numOf_itoa (v := (numsOf P)[i]) (by omega) (by omega)
      rw [e1] at e3
      unfold partOk
      rw [e3]
      simp only [Bool.true_and, decide_eq_true_eq]
      exact e2
    · rw [if_neg hf] at h
      exfalso
      subst h
      have e0 : splitL 44 [] = [[]] := rfl
      rw [e0] at hP
      subst hP
      apply hf
      have : numsOf [[]] = [0] := rfl
      rw [this]; rfl
  · rintro ⟨h1, h2⟩
    have hok : ∀ x ∈ P, itoa (numOf x).1 = x ∧ -1000000000000 ≤ (numOf x).1 ∧ (numOf x).1 ≤ 1000000000000 := fun x hx => by
      have := List.all_eq_true.mp h2 x hx
      unfold partOk at this
      rw [Bool.and_eq_true, decide_eq_true_eq] at this
      exact ⟨(numOf_true (show numOf x = ((numOf x).1, true) by rw [← this.1])).1, this.2⟩
    have hf : fits (numsOf P) = true := by
      unfold fits
      rw [decide_eq_true (show (numsOf P).length ≤ 64 by omega), Bool.true_and, List.all_eq_true]
      intro y hy
      obtain ⟨x, hx, rfl⟩ := List.mem_map.mp hy
      exact decide_eq_true (hok x hx).2
    unfold listText listTxt
    rw [if_pos hf, if_neg (by omega)]
    have : (numsOf P).map itoa = P := by
      unfold numsOf
      rw [List.map_map]
      conv => rhs; rw [← List.map_id P]
      exact List.map_congr_left (fun x hx => (hok x hx).1)
    rw [this, hjs]
theorem implRead_tells (s : ByteArray) (hs : s.size ≤ 1048576) {k : Nat} (hk : 1048700 ≤ k) : impl_ReadList.f k s = some (readL s.data.toList) := by
  unfold impl_ReadList.f readL
  have e := size_len s
  rw [toList_data s]
  by_cases h45 : s.data.toList = [45]
  · rw [if_pos h45, if_pos h45]
  · have hl := splitL_length 44 s.data.toList
    rw [if_neg h45, if_neg h45, split_tells s hs 44, Option.bind_some, List.length_map]
    refine (implRead_loop s (splitL 44 s.data.toList) (by omega) (fun x hx => by have := splitL_short 44 s.data.toList x hx; omega) _ 0 k rfl (by omega) (by omega)).trans ?_
    rw [B_toList, toList_data s]
    have ht := text_iff s.data.toList h45
    by_cases hp : (splitL 44 s.data.toList).length ≤ 64 ∧ (splitL 44 s.data.toList).all partOk = true
    · rw [if_pos (ht.mpr hp), if_pos hp]
    · rw [if_neg (fun h => hp (ht.mp h)), if_neg hp]
theorem readL_short (s : List UInt8) : (readL s).1.length ≤ 64 := by
  unfold readL
  split
  · simp
  · split
    · rename_i h; rw [nums_length]; exact h.1
    · simp
end Go.Proofs.YtepdfefgkhodlaaDoor.F
end
