-- Texts of this claim, merged by packw.py (a program of this session's).
import Derived.Lib.ItoaNum
import Derived.Lib.ParseIntB
import Derived.Lib.Strings
import Derived.Test.YtkndhjchlnepmaaDoorQFnExactMatrixText5
import Derived.Test.YtkndhjchlnepmaaDoorQFnExactMatrixText9
import Derived.KernelRfl
import Derived.Test.YtkndhjchlnepmaaDoorQFnExactMatrixText4
import Derived.Lib.Split
import Derived.Lib.IndexBytes
import Derived.Lib.Join
import Derived.WideShapes
import Derived.Test.YtkndhjchlnepmaaDoorQFnExactMatrixText3
import Derived.Test.YtkndhjchlnepmaaDoorQFnExactMatrixText7
import Derived.Test.YtkndhjchlnepmaaDoorQFnExactMatrixText6
import Derived.Test.YtkndhjchlnepmaaDoorQFnExactMatrixText8

section
set_option linter.unusedVariables false
set_option linter.unusedSimpArgs false
set_option linter.unusedSectionVars false
namespace Go.Proofs.YtkndhjchlnepmaaDoor.Lin
open Go.Lib
/-! ### Decimal numerals -/
def isDig (b : UInt8) : Bool := decide (48 ≤ b.toNat) && decide (b.toNat ≤ 57)
def decVal (acc : Nat) : List UInt8 → Nat
  | [] => acc
  | c :: r => decVal (acc * 10 + (c.toNat - 48)) r
theorem ofNat_dig {d : Nat} (h : d < 10) : (UInt8.ofNat (48 + d)).toNat = 48 + d := by
  rw [UInt8.toNat_ofNat_of_lt']
  show 48 + d < 256
  omega
def Canon (l : List UInt8) : Prop := l ≠ [] ∧ l.all isDig = true ∧ (l.length = 1 ∨ l.head? ≠ some 48)
def digitsOf (s : List UInt8) : List UInt8 := if s.head? = some 45 then s.drop 1 else s
def numOf (s : List UInt8) : Int × Bool :=
  if (digitsOf s).length = 0 ∨ 18 < (digitsOf s).length ∨ ((digitsOf s).head? = some 48 ∧ 1 < s.length) ∨ (digitsOf s).all isDig = false then (0, false)
  else (if s.head? = some 45 then -((decVal 0 (digitsOf s) : Nat) : Int) else (decVal 0 (digitsOf s) : Nat), true)
def readOf (s : List UInt8) : Int × Bool :=
  if (trimPrefix s [45]).length < 1 ∨ 18 < (trimPrefix s [45]).length then (0, false) else
  match parseIntB 64 s with
  | .ok v => if itoa v = s then (v, true) else (0, false)
  | _ => (0, false)
end Go.Proofs.YtkndhjchlnepmaaDoor.Lin
end

section
set_option linter.unusedVariables false
set_option linter.unusedSimpArgs false
set_option linter.unusedSectionVars false
namespace Go.Proofs.YtkndhjchlnepmaaDoor.Lin
def primes251 : List Nat := [2,3,5,7,11,13,17,19,23,29,31,37,41,43,47,53,59,61,67,71,73,79,83,89,97,101,103,107,109,113,127,131,137,139,149,151,157,163,167,173,179,181,191,193,197,199,211,223,227,229,233,239,241,251]
def isP (p : Int) : Bool := decide (2 ≤ p) && decide (p ≤ 251) && decide (p.toNat ∈ primes251)
theorem isP_ge {p : Int} (h : isP p = true) : 2 ≤ p ∧ p ≤ 251 := by unfold isP at h; simp at h; omega
def addRow (p : Int) (a b : List Int) (c : Int) : List Int := List.zipWith (fun x y => (x + c * y) % p) a b
theorem getD_set {α : Type} (l : List α) (k : Nat) (v d : α) (hk : k < l.length) (i : Nat) : (l.set k v).getD i d = if i = k then v else l.getD i d := by
  simp only [List.getD_eq_getElem?_getD, List.getElem?_set]
  by_cases h : k = i
  · subst h; simp [hk]
  · simp [h, Ne.symm h]
end Go.Proofs.YtkndhjchlnepmaaDoor.Lin
end

section
set_option linter.unusedVariables false
set_option linter.unusedSimpArgs false
set_option linter.unusedSectionVars false
namespace Go.Proofs.YtkndhjchlnepmaaDoor.F
open Go.RowKit Go.Proofs.YtkndhjchlnepmaaDoorW.PrintWords Go.Proofs.YtkndhjchlnepmaaDoorW.PrintLast Go.Proofs.YtkndhjchlnepmaaDoor.Lin
theorem w64_idV {x : Int} (h0 : -9223372036854775808 ≤ x) (h1 : x ≤ 9223372036854775807) : wrap64 x = x := by unfold wrap64; omega
theorem w64_succ {i n : Nat} (h : i < n) (hn : n ≤ 35184372088832) : wrap64 ((i : Int) + 1) = ((i + 1 : Nat) : Int) := by
  rw [w64_idV (x := (i : Int) + 1) (by omega) (by omega)]; omega
theorem rd_nat (l : List Int) (i : Nat) : rd l (i : Int) = l.getD i 0 := by unfold rd; rw [Int.toNat_natCast]
theorem getD_at {α : Type} {l : List α} {i : Nat} {d : α} (h : i < l.length) : l.getD i d = l[i] := by simp [List.getD_eq_getElem?_getD, h]
theorem ext_getD {l m : List Int} (hl : l.length = m.length) (h : ∀ j, j < l.length → l.getD j 0 = m.getD j 0) : l = m := by
  refine List.ext_getElem hl (fun j h1 h2 => ?_)
  have := h j h1
  rwa [getD_at h1, getD_at h2] at this
theorem copy_loop {l : List Int} (hl : l.length ≤ 35184372088832) (d : Nat) : ∀ (k i : Nat) (acc : List Int), l.length - i = d → i ≤ l.length → d < k → acc.length = l.length → (∀ j, j < i → acc.getD j 0 = l.getD j 0) →
    laws_toInt64S.l0 k l acc i = some l := by
  induction d with
  | zero =>
    intro k i acc hd hi hk ha h
    obtain ⟨k, rfl⟩ : ∃ m, k = m + 1 := ⟨k - 1, by omega⟩
    simp only [laws_toInt64S.l0]
    rw [if_neg (by omega), ext_getD ha (fun j hj => h j (by omega))]
  | succ d ih =>
    intro k i acc hd hi hk ha h
    obtain ⟨k, rfl⟩ : ∃ m, k = m + 1 := ⟨k - 1, by omega⟩
    simp only [laws_toInt64S.l0]
    rw [if_pos (by omega), if_pos (by omega), if_pos (by omega), w64_succ (n := l.length) (by omega) hl, Int.toNat_natCast, rd_nat]
    refine ih k (i + 1) _ (by omega) (by omega) (by omega) (by simp [ha]) (fun j hj => ?_)
    rw [getD_set _ _ _ _ (by omega)]
    by_cases e : j = i
    · rw [if_pos e, e]
    · rw [if_neg e]; exact h j (by omega)
theorem copy_tells {l : List Int} (hl : l.length ≤ 35184372088832) {k : Nat} (hk : l.length < k) : laws_toInt64S.f k l = some l := by
  unfold laws_toInt64S.f
  rw [if_pos (by omega), if_pos (by omega), Int.toNat_natCast]
  exact copy_loop hl l.length k 0 _ (by omega) (by omega) hk (by simp) (fun j hj => by omega)
theorem eq_loop {a b : List Int} (ha : a.length ≤ 35184372088832) (hab : a.length = b.length) (d : Nat) : ∀ (k i : Nat), a.length - i = d → i ≤ a.length → d < k → (∀ j, j < i → a.getD j 0 = b.getD j 0) →
    laws_eqInt64S.l0 k a b i = some (decide (a = b)) := by
  induction d with
  | zero =>
    intro k i hd hi hk h
    obtain ⟨k, rfl⟩ : ∃ m, k = m + 1 := ⟨k - 1, by omega⟩
    simp only [laws_eqInt64S.l0]
    rw [if_neg (by omega), decide_eq_true (ext_getD hab (fun j hj => h j (by omega)))]
  | succ d ih =>
    intro k i hd hi hk h
    obtain ⟨k, rfl⟩ : ∃ m, k = m + 1 := ⟨k - 1, by omega⟩
    simp only [laws_eqInt64S.l0]
    rw [if_pos (by omega), if_pos (by omega), if_pos (by omega), w64_succ (n := a.length) (by omega) ha, rd_nat, rd_nat]
    by_cases e : a.getD i 0 = b.getD i 0
    · rw [if_pos e]
      refine ih k (i + 1) (by omega) (by omega) (by omega) (fun j hj => ?_)
      by_cases e2 : j = i
      · rw [e2]; exact e
      · exact h j (by omega)
    · rw [if_neg e, decide_eq_false (fun h => e (by rw [h]))]
theorem eq_tells {a b : List Int} (ha : a.length ≤ 35184372088832) {k : Nat} (hk : a.length < k) : laws_eqInt64S.f k a b = some (decide (a = b)) := by
  unfold laws_eqInt64S.f
  by_cases h : a.length = b.length
  · rw [if_pos (by omega)]
    exact eq_loop ha h a.length k 0 (by omega) (by omega) hk (fun j hj => by omega)
  · rw [if_neg (by omega), decide_eq_false (fun e => h (by rw [e]))]
end Go.Proofs.YtkndhjchlnepmaaDoor.F
end

section
set_option linter.unusedVariables false
set_option linter.unusedSimpArgs false
set_option linter.unusedSectionVars false
namespace Go.Proofs.YtkndhjchlnepmaaDoor.F
open Go.RowKit Go.Proofs.YtkndhjchlnepmaaDoorW.PrintWords Go.Proofs.YtkndhjchlnepmaaDoorW.PrintLast Go.Proofs.YtkndhjchlnepmaaDoor.Lin
open Go.Lib
def revDig (u : Nat) : List Int := (decDigits u).reverse.map (fun b => (b.toNat : Int))
theorem revDig_small {u : Nat} (h : u < 10) : revDig u = [(48 : Int) + u] := by
  unfold revDig
  rw [decDigits, dif_pos h]
  simp only [List.reverse_cons, List.reverse_nil, List.nil_append, List.map_cons, List.map_nil]
  rw [ofNat_dig h]; simp
theorem revDig_big {u : Nat} (h : ¬ u < 10) : revDig u = ((48 : Int) + (u % 10 : Nat)) :: revDig (u / 10) := by
  unfold revDig
  rw [decDigits, dif_neg h]
  simp only [List.reverse_append, List.reverse_cons, List.reverse_nil, List.nil_append, List.singleton_append, List.map_cons]
  rw [ofNat_dig (by omega)]; simp
theorem dec_loop (x0 : Int) (K : Nat) (r : ByteArray) : ∀ (j : Nat) (m : Int) (acc : List Int) (k : Nat), m.natAbs < 10 ^ j → m ≠ 0 → -9223372036854775808 ≤ m → m ≤ 9223372036854775807 → K + j ≤ k → acc.length + j ≤ 100 →
    (∀ k', K ≤ k' → spec_l01Dec.l0 k' x0 (acc ++ revDig m.natAbs) 0 = some r) → spec_l01Dec.l0 k x0 acc m = some r := by
  intro j
  induction j with
  | zero => intro m acc k h hm; exfalso; rw [Nat.pow_zero] at h; omega
  | succ j ih =>
    intro m acc k h hm h0 h1 hk ha H
    obtain ⟨k, rfl⟩ : ∃ q, k = q + 1 := ⟨k - 1, by omega⟩
    rw [Nat.pow_succ] at h
    simp only [spec_l01Dec.l0]
    rw [if_neg hm]
    obtain ⟨d, hd⟩ : ∃ d : Nat, d = m.natAbs % 10 := ⟨_, rfl⟩
    have hd10 : d < 10 := by omega
    have hlen : acc.length < 140737488355328 := by omega
    have hq : (Int.tdiv m 10).natAbs = m.natAbs / 10 := Int.natAbs_tdiv m 10
    have hqr : -9223372036854775808 ≤ Int.tdiv m 10 ∧ Int.tdiv m 10 ≤ 9223372036854775807 := by
      have : (Int.tdiv m 10).natAbs ≤ 922337203685477581 := by rw [hq]; omega
      omega
    have next : spec_l01Dec.l0 k x0 (acc ++ [(48 : Int) + d]) (Int.tdiv m 10) = some r := by
      by_cases hs : m.natAbs < 10
      · have hz : Int.tdiv m 10 = 0 := by have : m.natAbs / 10 = 0 := by omega
                                          omega
        rw [hz]
        have := H k (by omega)
        rw [revDig_small hs] at this
        rw [show d = m.natAbs by omega]
        exact this
      · refine ih _ _ k (by rw [hq]; omega) (by omega) hqr.1 hqr.2 (by omega) (by simp; omega) (fun k' hk' => ?_)
        have := H k' hk'
        rw [revDig_big hs] at this
        rw [hq, List.append_assoc, hd]
        exact this
    rw [w64_idV hqr.1 hqr.2]
    by_cases hneg : m < 0
    · obtain ⟨u, rfl⟩ : ∃ u : Nat, m = -(u : Int) := ⟨m.natAbs, by omega⟩
      have e1 : Int.tmod (-(u : Int)) 10 = -((u % 10 : Nat) : Int) := by rw [Int.neg_tmod]; rfl
      have e2 : d = u % 10 := by rw [hd]; simp
      rw [e1, ← e2]
      by_cases hz : -(d : Int) < 0
      · rw [if_pos hz, if_pos hlen, w64_idV (x := -(-(d : Int))) (by omega) (by omega), Int.neg_neg, w64_idV (x := 48 + (d : Int)) (by omega) (by omega), Int.emod_eq_of_lt (by omega) (by omega)]
        exact next
      · rw [if_neg hz, if_pos hlen, show -(d : Int) = (d : Int) by omega, w64_idV (x := 48 + (d : Int)) (by omega) (by omega), Int.emod_eq_of_lt (by omega) (by omega)]
        exact next
    · obtain ⟨u, rfl⟩ := Int.eq_ofNat_of_zero_le (show 0 ≤ m by omega)
      have e1 : Int.tmod (u : Int) 10 = ((u % 10 : Nat) : Int) := rfl
      have e2 : d = u % 10 := by rw [hd]; simp
      rw [e1, ← e2, if_neg (by omega), if_pos hlen, w64_idV (x := 48 + (d : Int)) (by omega) (by omega), Int.emod_eq_of_lt (by omega) (by omega)]
      exact next
theorem rev_loop (l : List Int) (hl : l.length ≤ 100) : ∀ (i k : Nat), i ≤ l.length → i < k → spec_l01Dec.l1 k l (l.drop i).reverse ((i : Int) - 1) = some (strOfNums l.reverse) := by
  intro i
  induction i with
  | zero =>
    intro k _ hk
    obtain ⟨k, rfl⟩ : ∃ q, k = q + 1 := ⟨k - 1, by omega⟩
    simp only [spec_l01Dec.l1]
    rw [if_neg (by omega)]; rfl
  | succ i ih =>
    intro k hi hk
    obtain ⟨k, rfl⟩ : ∃ q, k = q + 1 := ⟨k - 1, by omega⟩
    have e : ((i + 1 : Nat) : Int) - 1 = (i : Int) := by omega
    simp only [spec_l01Dec.l1, e]
    rw [if_pos (by omega), if_pos (by omega), if_pos (by omega), if_pos (by rw [List.length_reverse, List.length_drop]; omega), w64_idV (x := (i : Int) - 1) (by omega) (by omega), rd_nat, getD_at (show i < l.length by omega)]
    have e2 : (l.drop (i + 1)).reverse ++ [l[i]'(by omega)] = (l.drop i).reverse := by
      rw [List.drop_eq_getElem_cons (show i < l.length by omega), List.reverse_cons]
    rw [e2]
    exact ih k (by omega) (by omega)
theorem str_dig (l : List UInt8) : strOfNums (l.map (fun b => (b.toNat : Int))) = ⟨l.toArray⟩ := by
  unfold strOfNums
  congr 2
  rw [List.map_map]
  conv => rhs; rw [← List.map_id l]
  refine List.map_congr_left (fun b _ => ?_)
  simp
theorem revDig_length (u : Nat) (h : u < 10 ^ 20) : (revDig u).length ≤ 20 := by
  have nd : ∀ k u, u < 10 ^ (k + 1) → (decDigits u).length ≤ k + 1 := fun k => by
    induction k with
    | zero => intro u hu; rw [decDigits, dif_pos (by simpa using hu)]; simp
    | succ k ih =>
      intro u hu
      rw [decDigits]
      split
      · simp
      · rw [List.length_append]
        have := ih (u / 10) (by rw [Nat.pow_succ] at hu; omega)
        simp; omega
  unfold revDig
  rw [List.length_map, List.length_reverse]
  exact nd 19 u h
theorem l01Dec_tells {n : Int} (h0 : -9223372036854775808 ≤ n) (h1 : n ≤ 9223372036854775807) {k : Nat} (hk : 200 ≤ k) : spec_l01Dec.f k n = some ⟨(itoa n).toArray⟩ := by
  unfold spec_l01Dec.f
  by_cases hz : n = 0
  · rw [if_pos hz, hz]
    unfold itoa
    rw [if_neg (by omega), decDigits, dif_pos (by decide)]
    rfl
  · rw [if_neg hz]
    have hu : n.natAbs < 10 ^ 20 := Nat.lt_of_lt_of_le (show n.natAbs < 10000000000000000000 by omega) (by decide)
    have hlen := revDig_length n.natAbs hu
    have er : (revDig n.natAbs).reverse = (decDigits n.natAbs).map (fun b => (b.toNat : Int)) := by unfold revDig; rw [← List.map_reverse, List.reverse_reverse]
    have rl : ∀ (l : List Int) (k : Nat), l.length ≤ 50 → 60 ≤ k → spec_l01Dec.j1 k l = some (strOfNums l.reverse) := fun l k hl hk => by
      obtain ⟨k, rfl⟩ : ∃ q, k = q + 1 := ⟨k - 1, by omega⟩
      simp only [spec_l01Dec.j1]
      rw [w64_idV (x := (l.length : Int) - 1) (by omega) (by omega)]
      have := rev_loop l (by omega) l.length k (Nat.le_refl _) (by omega)
      rw [List.drop_length] at this
      exact this
    refine dec_loop n 100 _ 20 n [] k hu hz h0 h1 (by omega) (by simp) (fun k' hk' => ?_)
    obtain ⟨k', rfl⟩ : ∃ q, k' = q + 1 := ⟨k' - 1, by omega⟩
    simp only [spec_l01Dec.l0, List.nil_append]
    rw [if_pos trivial]
    by_cases hneg : n < 0
    · rw [if_pos hneg, if_pos (by omega), rl _ k' (by simp; omega) (by omega), List.reverse_append, er]
      unfold itoa
      rw [if_pos hneg]
      exact congrArg some (str_dig (45 :: decDigits n.natAbs))
    · rw [if_neg hneg, rl _ k' (by omega) (by omega), er, str_dig]
      unfold itoa
      rw [if_neg hneg, show n.natAbs = n.toNat by omega]
theorem decimal_tells {n : Int} (h0 : -9223372036854775808 ≤ n) (h1 : n ≤ 9223372036854775807) : impl_Decimal.f n = some ⟨(itoa n).toArray⟩ := by
  unfold impl_Decimal.f
  rw [if_pos ⟨h0, h1⟩]
end Go.Proofs.YtkndhjchlnepmaaDoor.F
end

section
set_option linter.unusedVariables false
set_option linter.unusedSimpArgs false
set_option linter.unusedSectionVars false
namespace Go.Proofs.YtkndhjchlnepmaaDoor.Lin
open Go.Lib
def splitL (c : UInt8) : List UInt8 → List (List UInt8)
  | [] => [[]]
  | b :: r => if b = c then [] :: splitL c r else match splitL c r with
    | [] => [[b]]
    | x :: xs => (b :: x) :: xs
theorem join_snoc {xs : List (List UInt8)} (h : xs ≠ []) (y sep : List UInt8) : join (xs ++ [y]) sep = join xs sep ++ sep ++ y := by
  cases xs with
  | nil => exact absurd rfl h
  | cons x r =>
    rw [List.cons_append, join_cons, join_cons]
    unfold joinTail
    simp [List.append_assoc]
theorem join_cons2 (x y : List UInt8) (r : List (List UInt8)) (sep : List UInt8) : join (x :: y :: r) sep = x ++ sep ++ join (y :: r) sep := by
  rw [join_cons, join_cons]
  unfold joinTail
  simp [List.append_assoc]
def B (l : List UInt8) : ByteArray := ⟨l.toArray⟩
theorem B_list (l : List UInt8) : (B l).data.toList = l := rfl
theorem B_size (l : List UInt8) : (B l).size = l.length := rfl
theorem B_append (x y : List UInt8) : B x ++ B y = B (x ++ y) := Go.WideShapes.bytes_inj (by simp [B])
end Go.Proofs.YtkndhjchlnepmaaDoor.Lin
end

section
set_option linter.unusedVariables false
set_option linter.unusedSimpArgs false
set_option linter.unusedSectionVars false
namespace Go.Proofs.YtkndhjchlnepmaaDoor.F
open Go.RowKit Go.Proofs.YtkndhjchlnepmaaDoorW.PrintWords Go.Proofs.YtkndhjchlnepmaaDoorW.PrintLast Go.Proofs.YtkndhjchlnepmaaDoor.Lin
open Go.Lib
def listTxt (l : List Int) : List UInt8 := if l.length = 0 then [45] else join (l.map itoa) [44]
def fits (l : List Int) : Bool := decide (l.length ≤ 64) && l.all (fun x => decide (-1000000000000 ≤ x ∧ x ≤ 1000000000000))
def listText (l : List Int) : List UInt8 := if fits l = true then listTxt l else []
theorem fits_at {l : List Int} (h : fits l = true) : l.length ≤ 64 ∧ ∀ x ∈ l, -1000000000000 ≤ x ∧ x ≤ 1000000000000 := by
  unfold fits at h
  rw [Bool.and_eq_true, decide_eq_true_eq, List.all_eq_true] at h
  exact ⟨h.1, fun x hx => of_decide_eq_true (h.2 x hx)⟩
theorem itoa_short {x : Int} (h0 : -9223372036854775808 ≤ x) (h1 : x ≤ 9223372036854775807) : (itoa x).length ≤ 21 := by
  have h := revDig_length x.natAbs (Nat.lt_of_lt_of_le (show x.natAbs < 10000000000000000000 by omega) (by decide))
  unfold revDig at h
  rw [List.length_map, List.length_reverse] at h
  unfold itoa
  split
  · rw [List.length_cons]; omega
  · rename_i hx
    rw [show x.toNat = x.natAbs by omega]; omega
theorem join_short : ∀ (xs : List (List UInt8)) (n : Nat), (∀ x ∈ xs, x.length ≤ n) → (join xs [44]).length ≤ xs.length * (n + 1)
  | [], _, _ => by rw [join_nil]; simp
  | [x], n, h => by rw [join_one]; have := h x (by simp); simp; omega
  | x :: y :: r, n, h => by
    rw [join_cons2, List.length_append, List.length_append]
    have h1 := h x (by simp)
    have h2 := join_short (y :: r) n (fun z hz => h z (List.mem_cons_of_mem _ hz))
    rw [List.length_cons (a := x), Nat.add_mul, Nat.one_mul]
    have : ([44] : List UInt8).length = 1 := rfl
    omega
theorem take_map_succ {l : List Int} {i : Nat} (h : i < l.length) : (l.take (i + 1)).map itoa = (l.take i).map itoa ++ [itoa l[i]] := by
  rw [List.take_add_one, List.getElem?_eq_getElem h, List.map_append]; rfl
theorem l01List_loop (l : List Int) (hl : l.length ≤ 64) (hw : ∀ x ∈ l, -9223372036854775808 ≤ x ∧ x ≤ 9223372036854775807) : ∀ (d i k : Nat), l.length - i = d → i ≤ l.length → d + 300 < k →
    spec_l01List.l0 k l (B (join ((l.take i).map itoa) [44])) i = some (B (join (l.map itoa) [44])) := by
  intro d
  induction d with
  | zero =>
    intro i k hd hi hk
    obtain ⟨k, rfl⟩ : ∃ q, k = q + 1 := ⟨k - 1, by omega⟩
    simp only [spec_l01List.l0]
    rw [if_neg (by omega), List.take_of_length_le (by omega)]
  | succ d ih =>
    intro i k hd hi hk
    obtain ⟨k, rfl⟩ : ∃ q, k = q + 1 := ⟨k - 1, by omega⟩
    have hlt : i < l.length := by omega
    have hb := hw l[i] (List.getElem_mem hlt)
    have hs : ∀ j, (join ((l.take j).map itoa) [44]).length ≤ 1408 := fun j => by
      refine Nat.le_trans (join_short _ 21 (fun x hx => ?_)) ?_
      · obtain ⟨y, hy, rfl⟩ := List.mem_map.mp hx
        have := hw y (List.mem_of_mem_take hy)
        exact itoa_short this.1 this.2
      · rw [List.length_map, List.length_take]
        have : min j l.length ≤ 64 := by omega
        omega
    have hsi := hs i
    have hil := itoa_short hb.1 hb.2
    have e44 : (⟨#[44]⟩ : ByteArray) = B [44] := rfl
    have eD : (⟨(itoa l[i]).toArray⟩ : ByteArray) = B (itoa l[i]) := rfl
    have nx := take_map_succ hlt
    simp only [spec_l01List.l0]
    rw [if_pos (by omega)]
    by_cases h0 : i = 0
    · subst h0
      rw [if_neg (by omega), if_pos (by omega), rd_nat, getD_at hlt, l01Dec_tells hb.1 hb.2 (by omega), Option.bind_some, eD, if_pos (by rw [B_size, B_size]; omega), w64_succ (n := l.length) hlt (by omega), B_append]
      have := ih 1 k (by omega) (by omega) (by omega)
      rw [nx, List.take_zero, List.map_nil, List.nil_append, join_one] at this
      exact this
    · rw [if_pos (by omega), if_pos (by rw [B_size]; omega), if_pos (by omega), rd_nat, getD_at hlt, l01Dec_tells hb.1 hb.2 (by omega), Option.bind_some, eD, e44, B_append, if_pos (by rw [B_size, B_size, List.length_append]; have e1 : ([44] : List UInt8).length = 1 := rfl; omega), w64_succ (n := l.length) hlt (by omega), B_append]
      have := ih (i + 1) k (by omega) (by omega) (by omega)
      rw [nx, join_snoc (by intro e; have := congrArg List.length e; rw [List.length_map, List.length_take, List.length_nil] at this; omega)] at this
      exact this
theorem any_fits (l : List Int) : (l.any noValue) = !(l.all (fun x => decide (-1000000000000 ≤ x ∧ x ≤ 1000000000000))) := by
  induction l with
  | nil => rfl
  | cons x l ih =>
    rw [List.any_cons, List.all_cons, ih]
    unfold noValue
    by_cases h1 : -1000000000000 ≤ x
    · by_cases h2 : x ≤ 1000000000000
      · simp [h1, h2]
      · simp [h1, h2]
    · simp [h1]
theorem implText_loop (l : List Int) (hl : l.length ≤ 64) (hw : ∀ x ∈ l, -9223372036854775808 ≤ x ∧ x ≤ 9223372036854775807) : ∀ (d i k : Nat), l.length - i = d → i ≤ l.length → d + 1 ≤ k →
    impl_ListText.l0 k (((l.take i).map itoa).map B) l l.length i = some (B (join (l.map itoa) [44])) := by
  intro d
  induction d with
  | zero =>
    intro i k hd hi hk
    obtain ⟨k, rfl⟩ : ∃ q, k = q + 1 := ⟨k - 1, by omega⟩
    simp only [impl_ListText.l0]
    have hid : ((l.map itoa).map B).map (fun x : ByteArray => x.data.toList) = l.map itoa := by
      rw [List.map_map]
      exact (List.map_congr_left (fun x _ => rfl)).trans (List.map_id _)
    have hlen : (join (l.map itoa) [44]).length ≤ 1408 := by
      refine Nat.le_trans (join_short _ 21 (fun x hx => ?_)) ?_
      · obtain ⟨y, hy, rfl⟩ := List.mem_map.mp hx
        have := hw y hy
        exact itoa_short this.1 this.2
      · rw [List.length_map]; omega
    rw [if_neg (by omega), List.take_of_length_le (by omega)]
    unfold strings_Join.f
    have e44 : (⟨#[44]⟩ : ByteArray).data.toList = [44] := rfl
    rw [hid, e44, if_pos ⟨by simp; omega, by omega⟩]
    rfl
  | succ d ih =>
    intro i k hd hi hk
    obtain ⟨k, rfl⟩ : ∃ q, k = q + 1 := ⟨k - 1, by omega⟩
    have hlt : i < l.length := by omega
    have hb := hw l[i] (List.getElem_mem hlt)
    simp only [impl_ListText.l0]
    rw [if_pos (by omega), if_pos (by omega), if_pos (by omega), rd_nat, getD_at hlt, decimal_tells hb.1 hb.2, Option.bind_some, if_pos (by simp; omega), w64_succ (n := l.length) hlt (by omega)]
    have := ih (i + 1) k (by omega) (by omega) (by omega)
    rw [take_map_succ hlt, List.map_append] at this
    exact this
theorem implListText_tells (l : List Int) (hl : l.length ≤ 35184372088832) (hw : ∀ x ∈ l, -9223372036854775808 ≤ x ∧ x ≤ 9223372036854775807) {k : Nat} (hk : 100 ≤ k) : impl_ListText.f k l = some (B (listText l)) := by
  obtain ⟨k, rfl⟩ : ∃ q, k = q + 1 := ⟨k - 1, by omega⟩
  unfold impl_ListText.f listText
  have jt : impl_ListText.j0 (k + 1) l true = some (B []) := by simp only [impl_ListText.j0]; rw [if_pos trivial]; rfl
  by_cases h64 : l.length ≤ 64
  · rw [if_neg (by omega)]
    unfold impl_ListText_1.any.f
    rw [Option.bind_some, any_fits]
    by_cases h : fits l = true
    · have h2 := h
      unfold fits at h2
      rw [decide_eq_true h64, Bool.true_and] at h2
      rw [h2, if_pos h]
      simp only [impl_ListText.j0, Bool.not_true]
      rw [if_neg (by decide)]
      unfold listTxt
      by_cases h0 : l.length = 0
      · rw [if_pos (by omega), if_pos h0]; rfl
      · rw [if_neg (by omega), if_neg h0]
        exact implText_loop l h64 hw l.length 0 k (by omega) (by omega) (by omega)
    · have h2 := Bool.eq_false_iff.mpr h
      unfold fits at h2
      rw [decide_eq_true h64, Bool.true_and] at h2
      rw [h2, if_neg h]
      exact jt
  · rw [if_pos (by omega), jt, if_neg]
    intro h
    exact h64 (fits_at h).1
end Go.Proofs.YtkndhjchlnepmaaDoor.F
end

section
set_option linter.unusedVariables false
set_option linter.unusedSimpArgs false
set_option linter.unusedSectionVars false
namespace Go.Proofs.YtkndhjchlnepmaaDoor.F
open Go.RowKit Go.Proofs.YtkndhjchlnepmaaDoorW.PrintWords Go.Proofs.YtkndhjchlnepmaaDoorW.PrintLast Go.Proofs.YtkndhjchlnepmaaDoor.Lin
theorem w64_id {x : Int} (h0 : -9223372036854775808 ≤ x) (h1 : x ≤ 9223372036854775807) : wrap64 x = x := by unfold wrap64; omega
theorem same_in : impl_within.f = spec_l00In.f := rfl
theorem in_tells (n lo hi : Int) : spec_l00In.f n lo hi = some (decide (lo ≤ n ∧ n ≤ hi)) := by
  unfold spec_l00In.f
  by_cases h : n ≥ lo
  · have : lo ≤ n := h
    simp [this]
  · have : ¬ lo ≤ n := h
    simp [this]
theorem ask_prime : impl_ValidPrime.f = spec_l02Prime.f := by kernel_rfl
theorem prime_small : ∀ n, n < 252 → spec_l02Prime.f 20 (n : Nat) = some (isP n) := by decide +kernel
theorem prime_at (p : Int) : spec_l02Prime.f 20 p = some (isP p) := by
  by_cases h : 2 ≤ p ∧ p ≤ 251
  · obtain ⟨n, rfl⟩ := Int.eq_ofNat_of_zero_le (show 0 ≤ p by omega)
    exact prime_small n (by omega)
  · have : isP p = false := by unfold isP; simp; omega
    rw [this]
    unfold spec_l02Prime.f spec_l00In.f
    by_cases h1 : p ≥ 2
    · have : ¬ p ≤ 251 := by omega
      simp [h1, this]
    · simp [h1]
theorem prime_tells (p : Int) {k : Nat} (hk : 20 ≤ k) : spec_l02Prime.f k p = some (isP p) := at_rounds (spec_l02Prime.mono p) hk (prime_at p)
def tab (r c : Nat) (f : Nat → Nat → Int) : List Int := (List.range (r * c)).map fun x => f (x / c) (x % c)
theorem lt_nat {i n : Nat} (h : i < n) : (i : Int) < (n : Int) := Int.ofNat_lt.mpr h
theorem nlt_nat {i n : Nat} (h : n ≤ i) : ¬ (i : Int) < (n : Int) := by omega
theorem idx0 (n : Nat) : (0 : Int) ≤ ((n : Nat) : Int) := Int.natCast_nonneg n
theorem at_lt {r c i j : Nat} (hi : i < r) (hj : j < c) : i * c + j < r * c := by
  have : (i + 1) * c ≤ r * c := Nat.mul_le_mul_right _ hi
  rw [Nat.succ_mul] at this
  omega
theorem side_mul {r c : Nat} (hr : r ≤ 128) (hc : c ≤ 128) : r * c ≤ 16384 := Nat.mul_le_mul hr hc
theorem w64_mulN {r c : Nat} (hr : r ≤ 128) (hc : c ≤ 128) : wrap64 ((r : Int) * (c : Int)) = ((r * c : Nat) : Int) := by
  have h := side_mul hr hc
  have e : (r : Int) * (c : Int) = ((r * c : Nat) : Int) := by push_cast; rfl
  rw [e, w64_id (x := ((r * c : Nat) : Int)) (by omega) (by omega)]
theorem side_tells (n : Int) : impl_isSide.f n = some (decide (0 ≤ n ∧ n ≤ 32)) := by
  unfold impl_isSide.f
  rw [same_in, in_tells]; rfl
theorem slice_row {l : List Int} {r c i : Nat} (hl : l.length = r * c) (hi : i < r) : (l.take ((i + 1) * c)).drop (i * c) = (List.range c).map (fun j => l.getD (i * c + j) 0) := by
  have h1 : (i + 1) * c ≤ r * c := Nat.mul_le_mul_right _ hi
  have h2 := Nat.succ_mul i c
  have h4 : ((l.take ((i + 1) * c)).drop (i * c)).length = c := by
    rw [List.length_drop, List.length_take, Nat.min_eq_left (by rw [hl]; exact h1), h2, Nat.add_sub_cancel_left]
  refine List.ext_getElem (by rw [h4]; simp) (fun j hj hj' => ?_)
  have hj2 : j < c := by rw [h4] at hj; exact hj
  have h3 := at_lt hi hj2
  rw [List.getElem_drop, List.getElem_take, List.getElem_map, List.getElem_range, List.getD_eq_getElem?_getD, List.getElem?_eq_getElem (by omega)]
  rfl
end Go.Proofs.YtkndhjchlnepmaaDoor.F
end

section
set_option linter.unusedVariables false
set_option linter.unusedSimpArgs false
set_option linter.unusedSectionVars false
namespace Go.Proofs.YtkndhjchlnepmaaDoor.Lin
def pinv (p a : Int) : Int := a ^ (p - 2).toNat % p
/-! ### Rows as lists -/
def RowOk (p : Int) (n : Nat) (r : List Int) : Prop := r.length = n ∧ ∀ x, x ∈ r → 0 ≤ x ∧ x < p
def RowsOk (p : Int) (n : Nat) (rows : List (List Int)) : Prop := ∀ r, r ∈ rows → RowOk p n r
def cell (rows : List (List Int)) (i j : Nat) : Int := (rows.getD i []).getD j 0
theorem RowsOk.cell {p : Int} {n : Nat} {rows : List (List Int)} (h : RowsOk p n rows) (hp : 0 < p) (i j : Nat) : 0 ≤ cell rows i j ∧ cell rows i j < p := by
  unfold Lin.cell
  rw [List.getD_eq_getElem?_getD, List.getD_eq_getElem?_getD]
  by_cases hi : i < rows.length
  · rw [List.getElem?_eq_getElem hi]
    simp only [Option.getD_some]
    by_cases hj : j < (rows[i]).length
    · rw [List.getElem?_eq_getElem hj]
      exact (h _ (List.getElem_mem hi)).2 _ (List.getElem_mem hj)
    · rw [List.getElem?_eq_none (by omega)]; exact ⟨Int.le_refl 0, hp⟩
  · rw [List.getElem?_eq_none (show rows.length ≤ i by omega)]; simp; omega
def findPivot (rows : List (List Int)) (top c : Nat) : Option Nat := (rows.drop top).findIdx? (fun r => decide (r.getD c 0 ≠ 0))
def swapRows (rows : List (List Int)) (a b : Nat) : List (List Int) := (rows.set a (rows.getD b [])).set b (rows.getD a [])
def clearRow (p : Int) (c : Nat) (q r : List Int) : List Int := if r.getD c 0 = 0 then r else addRow p r q (p - r.getD c 0)
def clearAll (p : Int) (c top : Nat) (q : List Int) (rows : List (List Int)) : List (List Int) := rows.mapIdx (fun i r => if i = top then r else clearRow p c q r)
def elimStep (p : Int) (s : List (List Int) × List Int × Int) (c : Nat) : List (List Int) × List Int × Int :=
  match findPivot s.1 s.2.1.length c with
  | none => (s.1, s.2.1, 0)
  | some k =>
    let top := s.2.1.length
    let rows := if k = 0 then s.1 else swapRows s.1 top (top + k)
    let lead := cell rows top c
    let q := (rows.getD top []).map (fun x => pinv p lead * x % p)
    (clearAll p c top q (rows.set top q), s.2.1 ++ [(c : Int)], (if k = 0 then s.2.2 else -s.2.2 % p) * lead % p)
def elimTo (p : Int) (rows : List (List Int)) (c : Nat) : List (List Int) × List Int × Int := (List.range c).foldl (elimStep p) (rows, [], 1)
def elim (p : Int) (n : Nat) (rows : List (List Int)) : List (List Int) × List Int × Int := elimTo p rows n
theorem addRow_ok {p : Int} {n : Nat} {a b : List Int} (c : Int) (hp : 0 < p) (ha : a.length = n) (hb : b.length = n) : RowOk p n (addRow p a b c) := by
  refine ⟨by unfold addRow; simp [ha, hb], fun x hx => ?_⟩
  unfold addRow at hx
  rw [List.mem_iff_getElem] at hx
  obtain ⟨j, hj, rfl⟩ := hx
  rw [List.getElem_zipWith]
  exact ⟨Int.emod_nonneg _ (by omega), Int.emod_lt_of_pos _ hp⟩
theorem RowsOk.set {p : Int} {n : Nat} {rows : List (List Int)} (h : RowsOk p n rows) {r : List Int} (hr : RowOk p n r) (k : Nat) : RowsOk p n (rows.set k r) := fun x hx => by
  rcases List.mem_or_eq_of_mem_set hx with h1 | h1
  · exact h x h1
  · rw [h1]; exact hr
theorem clearRow_ok {p : Int} {n : Nat} {q r : List Int} (c : Nat) (hp : 0 < p) (hq : q.length = n) (hr : RowOk p n r) : RowOk p n (clearRow p c q r) := by
  unfold clearRow
  split
  · exact hr
  · exact addRow_ok _ hp hr.1 hq
theorem RowsOk.clear {p : Int} {n : Nat} {rows : List (List Int)} (h : RowsOk p n rows) (hp : 0 < p) {q : List Int} (hq : q.length = n) (c top : Nat) : RowsOk p n (clearAll p c top q rows) := fun x hx => by
  unfold clearAll at hx
  obtain ⟨i, hi, rfl⟩ := List.mem_mapIdx.mp hx
  split
  · exact h _ (List.getElem_mem hi)
  · exact clearRow_ok c hp hq (h _ (List.getElem_mem hi))
end Go.Proofs.YtkndhjchlnepmaaDoor.Lin
end

section
set_option linter.unusedVariables false
set_option linter.unusedSimpArgs false
set_option linter.unusedSectionVars false
namespace Go.Proofs.YtkndhjchlnepmaaDoor.F
open Go.RowKit Go.Proofs.YtkndhjchlnepmaaDoorW.PrintWords Go.Proofs.YtkndhjchlnepmaaDoorW.PrintLast Go.Proofs.YtkndhjchlnepmaaDoor.Lin
theorem rdL_nat (l : List (List Int)) (i : Nat) : rd_L3 l (i : Int) = l.getD i [] := by unfold rd_L3; rw [Int.toNat_natCast]
def rowsM (R C : Nat) (l : List Int) : List (List Int) := (List.range R).map (fun i => (List.range C).map (fun j => l.getD (i * C + j) 0))
theorem rowsM_length (R C : Nat) (l : List Int) : (rowsM R C l).length = R := by unfold rowsM; simp
theorem rowsM_snoc (R C : Nat) (l : List Int) : rowsM R C l ++ [(List.range C).map (fun j => l.getD (R * C + j) 0)] = rowsM (R + 1) C l := by
  unfold rowsM; rw [List.range_succ, List.map_append]; rfl
theorem rowsM_ok {p : Int} {R C : Nat} {l : List Int} (h : ∀ j, 0 ≤ l.getD j 0 ∧ l.getD j 0 < p) : RowsOk p C (rowsM R C l) := fun r hr => by
  unfold rowsM at hr
  obtain ⟨i, _, rfl⟩ := List.mem_map.mp hr
  refine ⟨by simp, fun x hx => ?_⟩
  obtain ⟨j, _, rfl⟩ := List.mem_map.mp hx
  exact h _
theorem clone_tells {p r : Int} {R C : Nat} {l : List Int} (hR : R ≤ 64) (hC : C ≤ 70) (hl : l.length = R * C) {i : Nat} (hi : i < R) :
    slices_Clone_int64_int64.f p r C l i = some ((List.range C).map (fun j => l.getD (i * C + j) 0)) := by
  unfold slices_Clone_int64_int64.f
  have h1 : (i + 1) * C ≤ R * C := Nat.mul_le_mul_right _ hi
  have h2 : i * C ≤ (i + 1) * C := Nat.mul_le_mul_right _ (by omega)
  rw [w64_succ (n := 64) (i := i) (by omega) (by omega), w64_mulN (r := i) (by omega) (by omega), w64_mulN (r := i + 1) (by omega) (by omega), if_pos (idx0 _), if_pos (by omega), if_pos (by omega), Int.toNat_natCast, Int.toNat_natCast, slice_row hl hi]
  rw [if_pos (by simp; omega)]
theorem rowsOf_loop {p r : Int} {R C : Nat} {l : List Int} (hR : R ≤ 64) (hC : C ≤ 70) (hl : l.length = R * C) (d : Nat) : ∀ k i, R - i = d → i ≤ R → d < k → impl_rowsOf.l0 k (rowsM i C l) R i p r C l = some (rowsM R C l) := by
  induction d with
  | zero =>
    intro k i hd hi hk
    obtain ⟨k, rfl⟩ : ∃ m, k = m + 1 := ⟨k - 1, by omega⟩
    obtain rfl : i = R := by omega
    simp only [impl_rowsOf.l0]
    rw [if_neg (nlt_nat (Nat.le_refl _))]
  | succ d ih =>
    intro k i hd hi hk
    obtain ⟨k, rfl⟩ : ∃ m, k = m + 1 := ⟨k - 1, by omega⟩
    have hiR : i < R := by omega
    simp only [impl_rowsOf.l0]
    rw [if_pos (lt_nat hiR), clone_tells hR hC hl hiR, Option.bind_some, if_pos (by rw [rowsM_length]; omega), rowsM_snoc, w64_succ (n := 64) (by omega) (by omega)]
    exact ih k (i + 1) (by omega) (by omega) (by omega)
theorem rowsOf_tells {p : Int} {R C : Nat} {l : List Int} (hR : R ≤ 64) (hC : C ≤ 70) (hl : l.length = R * C) {k : Nat} (hk : R < k) : impl_rowsOf.f k p R C l = some (rowsM R C l) := by
  unfold impl_rowsOf.f
  exact rowsOf_loop hR hC hl R k 0 (by omega) (by omega) hk
def iota (m : Int) (n : Nat) : List Int := (List.range n).map (fun j : Nat => m + (j : Int))
theorem specPrime_tells (p : Int) {k : Nat} (hk : 20 ≤ k) : spec_ValidPrime.f k p = some (isP p) := by
  unfold spec_ValidPrime.f
  rw [prime_tells p hk]; rfl
theorem eqMatrix_tells {p r c : Int} {l : List Int} (hl : l.length ≤ 35184372088832) {k : Nat} (hk : l.length < k) : laws_eqMatrix.f k p r c l p r c l = some true := by
  unfold laws_eqMatrix.f
  rw [eq_tells hl hk]
  simp
def allM (l : List Int) (p : Int) : Bool := l.all fun x => decide (0 ≤ x) && decide (x < p)
theorem allM_iff {l : List Int} {p : Int} : allM l p = true ↔ ∀ x, x ∈ l → 0 ≤ x ∧ x < p := by unfold allM; simp
theorem areM_tells {l : List Int} {p : Int} (hp : isP p = true) : impl_areElements.f l p = some (allM l p) := by
  have := isP_ge hp
  unfold impl_areElements.f allM
  rw [w64_id (x := p - 1) (by omega) (by omega)]
  congr 1
  induction l with
  | nil => rfl
  | cons x l ih =>
    simp only [List.any_cons, List.all_cons, Bool.not_or, Bool.not_not]
    rw [ih]
    congr 2
    rw [decide_eq_decide]; omega
theorem allM_drop {l : List Int} {p : Int} {i : Nat} (h : i < l.length) : allM (l.drop i) p = (decide (0 ≤ l.getD i 0 ∧ l.getD i 0 ≤ p - 1) && allM (l.drop (i + 1)) p) := by
  rw [List.drop_eq_getElem_cons h]
  unfold allM
  simp only [List.all_cons]
  congr 1
  rw [getD_at h, ← Bool.decide_and, decide_eq_decide]; omega
theorem getD_inM {l : List Int} {p : Int} (hp : 2 ≤ p) (h : ∀ x, x ∈ l → 0 ≤ x ∧ x < p) (j : Nat) : 0 ≤ l.getD j 0 ∧ l.getD j 0 < p := by
  by_cases hj : j < l.length
  · rw [getD_at hj]; exact h _ (List.getElem_mem hj)
  · rw [List.getD_eq_getElem?_getD, List.getElem?_eq_none (by omega)]; simp; omega
theorem column_loop {l : List Int} {n p : Int} (hp : 2 ≤ p) (hp' : p ≤ 251) (hl : l.length ≤ 35184372088832) (d : Nat) : ∀ (k i : Nat), l.length - i = d → i ≤ l.length → d < k →
    spec_l03Column.l0 k l n p i = some (allM (l.drop i) p && decide ((l.length : Int) = n)) := by
  induction d with
  | zero =>
    intro k i hd hi hk
    obtain ⟨k, rfl⟩ : ∃ m, k = m + 1 := ⟨k - 1, by omega⟩
    simp only [spec_l03Column.l0]
    rw [if_neg (by omega), show l.drop i = [] from List.drop_eq_nil_of_le (by omega)]
    simp only [allM, List.all_nil, Bool.true_and]
    congr 1
  | succ d ih =>
    intro k i hd hi hk
    obtain ⟨k, rfl⟩ : ∃ m, k = m + 1 := ⟨k - 1, by omega⟩
    simp only [spec_l03Column.l0]
    rw [if_pos (by omega), if_pos (by omega), rd_nat, w64_id (x := p - 1) (by omega) (by omega), in_tells, w64_succ (n := l.length) (by omega) hl, allM_drop (i := i) (by omega)]
    simp only [Option.bind_some]
    cases h : decide (0 ≤ l.getD i 0 ∧ l.getD i 0 ≤ p - 1) with
    | false => simp
    | true => rw [if_pos rfl, ih k (i + 1) (by omega) (by omega) (by omega)]; simp
theorem column_tells {l : List Int} {n p : Int} (hp : 2 ≤ p) (hp' : p ≤ 251) (hl : l.length ≤ 35184372088832) {k : Nat} (hk : l.length < k) : spec_l03Column.f k l n p = some (allM l p && decide ((l.length : Int) = n)) := by
  unfold spec_l03Column.f
  exact column_loop hp hp' hl l.length k 0 (by omega) (by omega) hk
def matOk (p r c : Int) (l : List Int) : Bool := isP p && (decide (0 ≤ r ∧ r ≤ 32) && (decide (0 ≤ c ∧ c ≤ 32) && (decide ((l.length : Int) = r * c) && allM l p)))
theorem matOk_iff {p r c : Int} {l : List Int} : matOk p r c l = true ↔ isP p = true ∧ (0 ≤ r ∧ r ≤ 32) ∧ (0 ≤ c ∧ c ≤ 32) ∧ (l.length : Int) = r * c ∧ ∀ x, x ∈ l → 0 ≤ x ∧ x < p := by
  unfold matOk; simp only [Bool.and_eq_true, decide_eq_true_eq, allM_iff]
theorem side_mulI {r c : Int} (hr : 0 ≤ r ∧ r ≤ 32) (hc : 0 ≤ c ∧ c ≤ 32) : wrap64 (r * c) = r * c ∧ 0 ≤ r * c ∧ r * c ≤ 1024 := by
  have h1 := Int.mul_nonneg hr.1 hc.1
  have h2 : r * c ≤ 32 * 32 := Int.mul_le_mul hr.2 hc.2 hc.1 (by omega)
  exact ⟨w64_id (by omega) (by omega), h1, by omega⟩
theorem specOk_tells (p r c : Int) {l : List Int} (hl : l.length ≤ 35184372088832) {k : Nat} (hk : l.length + 20 < k) : spec_l03Ok.f k p r c l = some (matOk p r c l) := by
  unfold spec_l03Ok.f matOk
  rw [specPrime_tells p (by omega)]
  cases hp : isP p with
  | false => simp
  | true =>
    have hp2 := isP_ge hp
    rw [in_tells, in_tells]
    by_cases h1 : 0 ≤ r ∧ r ≤ 32
    · by_cases h2 : 0 ≤ c ∧ c ≤ 32
      · rw [(side_mulI h1 h2).1, column_tells hp2.1 hp2.2 hl (by omega)]
        simp only [h1, h2, and_self, decide_true, Option.bind_some, if_true, Bool.true_and]
        rw [Bool.and_comm]
      · simp only [h1, h2, and_self, decide_true, decide_false, Option.bind_some, if_true, Bool.true_and, Bool.false_and]; rfl
    · simp only [h1, decide_false, Option.bind_some, if_true, Bool.true_and, Bool.false_and]; rfl
theorem implOk_tells (p r c : Int) {l : List Int} {k : Nat} (hk : 20 ≤ k) : impl_ValidMatrix.f k p r c l = some (matOk p r c l) := by
  unfold impl_ValidMatrix.f matOk
  rw [ask_prime, prime_tells p hk]
  cases hp : isP p with
  | false => simp
  | true =>
    have hp2 := isP_ge hp
    rw [side_tells, side_tells, areM_tells hp]
    by_cases h1 : 0 ≤ r ∧ r ≤ 32
    · by_cases h2 : 0 ≤ c ∧ c ≤ 32
      · rw [(side_mulI h1 h2).1]
        unfold impl_size_int64.f
        simp only [h1, h2, and_self, decide_true, Option.bind_some, if_true, Bool.true_and]
        by_cases h3 : (l.length : Int) = r * c
        · simp [h3]
        · simp [h3]
      · simp only [h1, h2, and_self, decide_true, decide_false, Option.bind_some, if_true, Bool.true_and, Bool.false_and]; rfl
    · simp only [h1, decide_false, Option.bind_some, if_true, Bool.true_and, Bool.false_and]; rfl
theorem szMatrix_tells (p r c : Int) {l : List Int} (hl : l.length ≤ maxLen) : laws_szMatrix.f p r c l 1048576 = some (if l.length ≤ 1048576 then 1048576 - (l.length : Int) else -1) := by
  unfold laws_szMatrix.f laws_szInt64S.f
  have hl : l.length ≤ 9223372036854775807 := hl
  rw [w64_id (x := 1048576 - (l.length : Int)) (by omega) (by omega)]
  by_cases h : l.length ≤ 1048576
  · rw [if_neg (by omega), if_pos h]
    simp only [Option.bind_some]
    rw [if_neg (by omega)]
  · rw [if_pos (by omega), if_neg h]; rfl
theorem toMatrix_tells (p r c : Int) {l : List Int} (hl : l.length ≤ 35184372088832) {k : Nat} (hk : l.length < k) : laws_toMatrix.f k p r c l = some (p, r, c, l) := by
  unfold laws_toMatrix.f
  rw [copy_tells hl hk]; rfl
theorem dimsM {p r c : Int} {l : List Int} (h : matOk p r c l = true) : ∃ R C : Nat, r = R ∧ c = C ∧ R ≤ 32 ∧ C ≤ 32 ∧ l.length = R * C ∧ (2 ≤ p ∧ p ≤ 251) ∧ ∀ j, 0 ≤ l.getD j 0 ∧ l.getD j 0 < p := by
  obtain ⟨hp, hr, hc, hl, hx⟩ := matOk_iff.mp h
  obtain ⟨R, rfl⟩ := Int.eq_ofNat_of_zero_le hr.1
  obtain ⟨C, rfl⟩ := Int.eq_ofNat_of_zero_le hc.1
  exact ⟨R, C, rfl, rfl, by omega, by omega, by exact_mod_cast hl, isP_ge hp, fun j => getD_inM (isP_ge hp).1 hx j⟩
end Go.Proofs.YtkndhjchlnepmaaDoor.F
end
