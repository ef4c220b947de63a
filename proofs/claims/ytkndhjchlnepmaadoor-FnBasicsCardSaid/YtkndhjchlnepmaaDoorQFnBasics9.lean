-- Texts of this claim, merged by pack.py (a program of this session's).
import Derived.Test.YtkndhjchlnepmaaDoorQFnBasics0
import Derived.Test.YtkndhjchlnepmaaDoorQFnBasics7
import Derived.KernelRfl
import Derived.Test.YtkndhjchlnepmaaDoorQFnBasics5
import Derived.Test.YtkndhjchlnepmaaDoorQFnBasics8
import Derived.Test.YtkndhjchlnepmaaDoorQFnBasics2

section
set_option linter.unusedVariables false
set_option linter.unusedSimpArgs false
set_option linter.unusedSectionVars false
namespace Go.Proofs.YtkndhjchlnepmaaDoor.F
open Go.RowKit Go.Proofs.YtkndhjchlnepmaaDoorW.PrintWords Go.Proofs.YtkndhjchlnepmaaDoorW.PrintLast Go.Proofs.YtkndhjchlnepmaaDoor.Lin

/-- The marks: m, m + 1, .. -/
def iota (m : Int) (n : Nat) : List Int := (List.range n).map (fun j : Nat => m + (j : Int))
theorem iota_length (m : Int) (n : Nat) : (iota m n).length = n := by unfold iota; simp
theorem iota_getD (m : Int) {n j : Nat} (h : j < n) : (iota m n).getD j 0 = m + j := by unfold iota; simp [List.getD_eq_getElem?_getD, h]

open Go.Lib
/-- The numbers of the parts. -/
def numsOf (P : List (List UInt8)) : List Int := P.map (fun x => (numOf x).1)
/-- Is a part a number of a list? -/
def partOk (x : List UInt8) : Bool := (numOf x).2 && decide (-1000000000000 ≤ (numOf x).1 ∧ (numOf x).1 ≤ 1000000000000)
/-- The list with a text. -/
def readL (s : List UInt8) : List Int × Bool :=
  if s = [45] then ([], true) else
  if (splitL 44 s).length ≤ 64 ∧ (splitL 44 s).all partOk = true then (numsOf (splitL 44 s), true) else ([], false)
theorem numOf_range (x : List UInt8) : -1000000000000000000 < (numOf x).1 ∧ (numOf x).1 < 1000000000000000000 := by
  cases h : numOf x with
  | mk v b =>
    cases b with
    | true => exact (numOf_true h).2
    | false => have := numOf_false h; subst this; exact ⟨by decide, by decide⟩
theorem rdOf_natR (l : List ByteArray) (i : Nat) : rdOf ByteArray.empty l (i : Int) = l.getD i ByteArray.empty := by unfold rdOf; rw [Int.toNat_natCast]
theorem getBR {P : List (List UInt8)} {i : Nat} (h : i < P.length) : (P.map B).getD i ByteArray.empty = B P[i] := by
  rw [getD_at (by simpa using h), List.getElem_map]
theorem nums_take_succ {P : List (List UInt8)} {i : Nat} (h : i < P.length) : numsOf (P.take (i + 1)) = numsOf (P.take i) ++ [(numOf P[i]).1] := by
  unfold numsOf
  rw [List.take_add_one, List.getElem?_eq_getElem h, List.map_append]; rfl
theorem nums_length (P : List (List UInt8)) : (numsOf P).length = P.length := by unfold numsOf; simp
theorem implRead_loop (s : ByteArray) (P : List (List UInt8)) (hP : P.length ≤ 1048577) (hs : ∀ x ∈ P, x.length ≤ 1048576) : ∀ (d i k : Nat), P.length - i = d → i ≤ P.length → d + 101 ≤ k →
    impl_ReadList.l0 k s (numsOf (P.take i)) (P.map B) P.length i = some (if (B (listText (numsOf P))).toList = s.toList then (numsOf P, true) else ([], false)) := by
  intro d
  induction d with
  | zero =>
    intro i k hd hi hk
    obtain ⟨k, rfl⟩ : ∃ q, k = q + 1 := ⟨k - 1, by omega⟩
    simp only [impl_ReadList.l0, List.length_map]
    rw [if_neg (by omega), List.take_of_length_le (by omega), implListText_tells (numsOf P) (by rw [nums_length]; omega) (fun x hx => by
      obtain ⟨y, _, rfl⟩ := List.mem_map.mp hx
      have := numOf_range y
      omega) (by omega), Option.bind_some]
    split <;> rfl
  | succ d ih =>
    intro i k hd hi hk
    obtain ⟨k, rfl⟩ : ∃ q, k = q + 1 := ⟨k - 1, by omega⟩
    have hlt : i < P.length := by omega
    have hx := hs P[i] (List.getElem_mem hlt)
    have ih2 := ih (i + 1) k (by omega) (by omega) (by omega)
    rw [nums_take_succ hlt] at ih2
    have hn := nums_length (P.take i)
    rw [List.length_take] at hn
    simp only [impl_ReadList.l0, List.length_map]
    rw [if_pos (by omega), if_pos (by omega), if_pos (by omega), rdOf_natR, getBR hlt, readDecimal_tells (B P[i]) (by rw [B_size]; omega), Option.bind_some, B_list, if_pos (by omega), w64_succ (n := P.length) hlt (by omega)]
    exact ih2
theorem itoa_free {x : Int} : (44 : UInt8) ∉ itoa x := by
  intro h
  have hd := (itoa_num (v := x) rfl).1
  unfold digitsOf at hd
  have bad : ∀ l : List UInt8, l.all isDig = true → (44 : UInt8) ∉ l := fun l hl hm => by
    have := List.all_eq_true.mp hl 44 hm
    simp [isDig] at this
  by_cases hh : (itoa x).head? = some 45
  · rw [if_pos hh] at hd
    cases hq : itoa x with
    | nil => rw [hq] at h; simp at h
    | cons a r =>
      rw [hq] at h hh hd
      rcases List.mem_cons.mp h with e | h
      · rw [← e] at hh; simp at hh
      · exact bad r hd h
  · rw [if_neg hh] at hd
    exact bad _ hd h
theorem itoa_ne (x : Int) : itoa x ≠ [] := by
  unfold itoa
  split
  · simp
  · exact (canon_dec x.toNat).1.1
/-- The text of the numbers is the text that was parted: just when the parts are numbers of a list. -/
theorem text_iff (s : List UInt8) (h45 : s ≠ [45]) : listText (numsOf (splitL 44 s)) = s ↔ (splitL 44 s).length ≤ 64 ∧ (splitL 44 s).all partOk = true := by
  have hne := splitL_ne 44 s
  have hjs := join_split 44 s
  have hfree := splitL_free 44 s
  generalize hP : splitL 44 s = P at *
  have hlen := nums_length P
  have hP0 : P.length ≠ 0 := fun h => hne (List.eq_nil_of_length_eq_zero h)
  constructor
  · intro h
    unfold listText at h
    by_cases hf : fits (numsOf P) = true
    · rw [if_pos hf] at h
      obtain ⟨f1, f2⟩ := fits_at hf
      refine ⟨by omega, ?_⟩
      unfold listTxt at h
      rw [if_neg (by omega)] at h
      have hsp : (numsOf P).map itoa = P := by
        have := split_join (c := 44) (xs := (numsOf P).map itoa) (by intro e; have := congrArg List.length e; simp at this; exact hP0 (by rw [← hlen]; exact List.length_eq_zero_iff.mpr this)) (fun x hx => by
          obtain ⟨y, _, rfl⟩ := List.mem_map.mp hx
          exact itoa_free)
        rw [h, hP] at this
        exact this.symm
      rw [List.all_eq_true]
      intro x hx
      obtain ⟨i, hi, rfl⟩ := List.mem_iff_getElem.mp hx
      have hi2 : i < (numsOf P).length := by omega
      have e1 : itoa (numsOf P)[i] = P[i] := by
        have h1 : ((numsOf P).map itoa)[i]? = P[i]? := by rw [hsp]
        rw [List.getElem?_map, List.getElem?_eq_getElem hi2, List.getElem?_eq_getElem hi] at h1
        exact Option.some.inj h1
      have e2 := f2 _ (List.getElem_mem hi2)
      have e3 := numOf_itoa (v := (numsOf P)[i]) (by omega) (by omega)
      rw [e1] at e3
      unfold partOk
      rw [e3]
      simp only [Bool.true_and, decide_eq_true_eq]
      exact e2
    · rw [if_neg hf] at h
      exfalso
      subst h
      have e0 : splitL 44 [] = [[]] := rfl
      rw [e0] at hP
      subst hP
      apply hf
      have : numsOf [[]] = [0] := rfl
      rw [this]; rfl
  · rintro ⟨h1, h2⟩
    have hok : ∀ x ∈ P, itoa (numOf x).1 = x ∧ -1000000000000 ≤ (numOf x).1 ∧ (numOf x).1 ≤ 1000000000000 := fun x hx => by
      have := List.all_eq_true.mp h2 x hx
      unfold partOk at this
      rw [Bool.and_eq_true, decide_eq_true_eq] at this
      exact ⟨(numOf_true (show numOf x = ((numOf x).1, true) by rw [← this.1])).1, this.2⟩
    have hf : fits (numsOf P) = true := by
      unfold fits
      rw [decide_eq_true (show (numsOf P).length ≤ 64 by omega), Bool.true_and, List.all_eq_true]
      intro y hy
      obtain ⟨x, hx, rfl⟩ := List.mem_map.mp hy
      exact decide_eq_true (hok x hx).2
    unfold listText listTxt
    rw [if_pos hf, if_neg (by omega)]
    have : (numsOf P).map itoa = P := by
      unfold numsOf
      rw [List.map_map]
      conv => rhs; rw [← List.map_id P]
      exact List.map_congr_left (fun x hx => (hok x hx).1)
    rw [this, hjs]
theorem implRead_tells (s : ByteArray) (hs : s.size ≤ 1048576) {k : Nat} (hk : 1048700 ≤ k) : impl_ReadList.f k s = some (readL s.data.toList) := by
  unfold impl_ReadList.f readL
  have e := size_len s
  rw [toList_data s]
  by_cases h45 : s.data.toList = [45]
  · rw [if_pos h45, if_pos h45]
  · have hl := splitL_length 44 s.data.toList
    rw [if_neg h45, if_neg h45, split_tells s hs 44, Option.bind_some, List.length_map]
    refine (implRead_loop s (splitL 44 s.data.toList) (by omega) (fun x hx => by have := splitL_short 44 s.data.toList x hx; omega) _ 0 k rfl (by omega) (by omega)).trans ?_
    rw [B_toList, toList_data s]
    have ht := text_iff s.data.toList h45
    by_cases hp : (splitL 44 s.data.toList).length ≤ 64 ∧ (splitL 44 s.data.toList).all partOk = true
    · rw [if_pos (ht.mpr hp), if_pos hp]
    · rw [if_neg (fun h => hp (ht.mp h)), if_neg hp]
theorem readL_short (s : List UInt8) : (readL s).1.length ≤ 64 := by
  unfold readL
  split
  · simp
  · split
    · rename_i h; rw [nums_length]; exact h.1
    · simp

theorem w64_id {x : Int} (h0 : -9223372036854775808 ≤ x) (h1 : x ≤ 9223372036854775807) : wrap64 x = x := by unfold wrap64; omega
end Go.Proofs.YtkndhjchlnepmaaDoor.F
end

section
set_option linter.unusedVariables false
set_option linter.unusedSimpArgs false
set_option linter.unusedSectionVars false
namespace Go.Proofs.YtkndhjchlnepmaaDoor.Lin

/-- The inverse of a number that is not 0. -/
def pinv (p a : Int) : Int := a ^ (p - 2).toNat % p
theorem pinv_range {p a : Int} (hp : isP p = true) : 0 ≤ pinv p a ∧ pinv p a < p := by
  have hp2 := isP_ge hp
  exact ⟨Int.emod_nonneg _ (by omega), Int.emod_lt_of_pos _ (by omega)⟩

/-! ### Rows as lists -/
/-- A row of n numbers modulo p. -/
def RowOk (p : Int) (n : Nat) (r : List Int) : Prop := r.length = n ∧ ∀ x, x ∈ r → 0 ≤ x ∧ x < p
def RowsOk (p : Int) (n : Nat) (rows : List (List Int)) : Prop := ∀ r, r ∈ rows → RowOk p n r
def cell (rows : List (List Int)) (i j : Nat) : Int := (rows.getD i []).getD j 0
theorem RowsOk.cell {p : Int} {n : Nat} {rows : List (List Int)} (h : RowsOk p n rows) (hp : 0 < p) (i j : Nat) : 0 ≤ cell rows i j ∧ cell rows i j < p := by
  unfold Lin.cell
  rw [List.getD_eq_getElem?_getD, List.getD_eq_getElem?_getD]
  by_cases hi : i < rows.length
  · rw [List.getElem?_eq_getElem hi]
    simp only [Option.getD_some]
    by_cases hj : j < (rows[i]).length
    · rw [List.getElem?_eq_getElem hj]
      exact (h _ (List.getElem_mem hi)).2 _ (List.getElem_mem hj)
    · rw [List.getElem?_eq_none (by omega)]; exact ⟨Int.le_refl 0, hp⟩
  · rw [List.getElem?_eq_none (show rows.length ≤ i by omega)]; simp; omega

/-- The rows below the first ones: where is the first number at c that is not 0? -/
def findPivot (rows : List (List Int)) (top c : Nat) : Option Nat := (rows.drop top).findIdx? (fun r => decide (r.getD c 0 ≠ 0))
def swapRows (rows : List (List Int)) (a b : Nat) : List (List Int) := (rows.set a (rows.getD b [])).set b (rows.getD a [])
def clearRow (p : Int) (c : Nat) (q r : List Int) : List Int := if r.getD c 0 = 0 then r else addRow p r q (p - r.getD c 0)
def clearAll (p : Int) (c top : Nat) (q : List Int) (rows : List (List Int)) : List (List Int) := rows.mapIdx (fun i r => if i = top then r else clearRow p c q r)
/-- A column of the elimination: rows, pivots, determinant. -/
def elimStep (p : Int) (s : List (List Int) × List Int × Int) (c : Nat) : List (List Int) × List Int × Int :=
  match findPivot s.1 s.2.1.length c with
  | none => (s.1, s.2.1, 0)
  | some k =>
    let top := s.2.1.length
    let rows := if k = 0 then s.1 else swapRows s.1 top (top + k)
    let lead := cell rows top c
    let q := (rows.getD top []).map (fun x => pinv p lead * x % p)
    (clearAll p c top q (rows.set top q), s.2.1 ++ [(c : Int)], (if k = 0 then s.2.2 else -s.2.2 % p) * lead % p)
def elimTo (p : Int) (rows : List (List Int)) (c : Nat) : List (List Int) × List Int × Int := (List.range c).foldl (elimStep p) (rows, [], 1)
theorem elimTo_succ (p : Int) (rows : List (List Int)) (c : Nat) : elimTo p rows (c + 1) = elimStep p (elimTo p rows c) c := by
  unfold elimTo; rw [List.range_succ, List.foldl_append]; rfl
/-- The reduced rows, the pivots, the determinant. -/
def elim (p : Int) (n : Nat) (rows : List (List Int)) : List (List Int) × List Int × Int := elimTo p rows n

theorem swapRows_length (rows : List (List Int)) (a b : Nat) : (swapRows rows a b).length = rows.length := by unfold swapRows; simp
theorem clearAll_length (p : Int) (c top : Nat) (q : List Int) (rows : List (List Int)) : (clearAll p c top q rows).length = rows.length := by unfold clearAll; simp
theorem swapRows_get (rows : List (List Int)) {a b : Nat} (ha : a < rows.length) (hb : b < rows.length) (i : Nat) : (swapRows rows a b).getD i [] = if i = b then rows.getD a [] else if i = a then rows.getD b [] else rows.getD i [] := by
  unfold swapRows
  simp only [List.getD_eq_getElem?_getD, List.getElem?_set, List.length_set]
  by_cases h1 : b = i
  · subst h1; simp [hb]
  · by_cases h2 : a = i
    · subst h2; simp [h1, ha, Ne.symm h1]
    · simp [h1, h2, Ne.symm h1, Ne.symm h2]
theorem getD_mem {α : Type} {l : List α} {i : Nat} {d : α} (h : i < l.length) : l.getD i d ∈ l := by
  rw [List.getD_eq_getElem?_getD, List.getElem?_eq_getElem h]; exact List.getElem_mem h
theorem findPivot_some {rows : List (List Int)} {top c k : Nat} (h : findPivot rows top c = some k) : top + k < rows.length ∧ cell rows (top + k) c ≠ 0 := by
  unfold findPivot at h
  obtain ⟨hk, hp, _⟩ := List.findIdx?_eq_some_iff_getElem.mp h
  rw [List.length_drop] at hk
  refine ⟨by omega, ?_⟩
  rw [List.getElem_drop] at hp
  unfold cell
  rw [List.getD_eq_getElem?_getD (l := rows), List.getElem?_eq_getElem (show top + k < rows.length by omega)]
  simpa using hp
theorem findPivot_none {rows : List (List Int)} {top c : Nat} (h : findPivot rows top c = none) (i : Nat) (h1 : top ≤ i) (h2 : i < rows.length) : cell rows i c = 0 := by
  unfold findPivot at h
  have h3 := List.findIdx?_eq_none_iff.mp h (rows[i]) (by
    rw [List.mem_iff_getElem]
    exact ⟨i - top, by rw [List.length_drop]; omega, by rw [List.getElem_drop]; congr 1; omega⟩)
  unfold cell
  rw [List.getD_eq_getElem?_getD (l := rows), List.getElem?_eq_getElem h2]
  simpa using h3
theorem addRow_ok {p : Int} {n : Nat} {a b : List Int} (c : Int) (hp : 0 < p) (ha : a.length = n) (hb : b.length = n) : RowOk p n (addRow p a b c) := by
  refine ⟨by unfold addRow; simp [ha, hb], fun x hx => ?_⟩
  unfold addRow at hx
  rw [List.mem_iff_getElem] at hx
  obtain ⟨j, hj, rfl⟩ := hx
  rw [List.getElem_zipWith]
  exact ⟨Int.emod_nonneg _ (by omega), Int.emod_lt_of_pos _ hp⟩
theorem scale_ok {p : Int} {n : Nat} {a : List Int} (c : Int) (hp : 0 < p) (ha : a.length = n) : RowOk p n (a.map (fun x => c * x % p)) := by
  refine ⟨by simp [ha], fun x hx => ?_⟩
  obtain ⟨y, _, rfl⟩ := List.mem_map.mp hx
  exact ⟨Int.emod_nonneg _ (by omega), Int.emod_lt_of_pos _ hp⟩
theorem RowsOk.set {p : Int} {n : Nat} {rows : List (List Int)} (h : RowsOk p n rows) {r : List Int} (hr : RowOk p n r) (k : Nat) : RowsOk p n (rows.set k r) := fun x hx => by
  rcases List.mem_or_eq_of_mem_set hx with h1 | h1
  · exact h x h1
  · rw [h1]; exact hr
theorem RowsOk.swap {p : Int} {n : Nat} {rows : List (List Int)} (h : RowsOk p n rows) {a b : Nat} (ha : a < rows.length) (hb : b < rows.length) : RowsOk p n (swapRows rows a b) :=
  (h.set (h _ (getD_mem hb)) a).set (h _ (getD_mem ha)) b
theorem clearRow_ok {p : Int} {n : Nat} {q r : List Int} (c : Nat) (hp : 0 < p) (hq : q.length = n) (hr : RowOk p n r) : RowOk p n (clearRow p c q r) := by
  unfold clearRow
  split
  · exact hr
  · exact addRow_ok _ hp hr.1 hq
theorem RowsOk.clear {p : Int} {n : Nat} {rows : List (List Int)} (h : RowsOk p n rows) (hp : 0 < p) {q : List Int} (hq : q.length = n) (c top : Nat) : RowsOk p n (clearAll p c top q rows) := fun x hx => by
  unfold clearAll at hx
  obtain ⟨i, hi, rfl⟩ := List.mem_mapIdx.mp hx
  split
  · exact h _ (List.getElem_mem hi)
  · exact clearRow_ok c hp hq (h _ (List.getElem_mem hi))
theorem clearAll_get {p : Int} {c top : Nat} {q : List Int} {rows : List (List Int)} {i : Nat} (hi : i < rows.length) : (clearAll p c top q rows).getD i [] = if i = top then rows.getD i [] else clearRow p c q (rows.getD i []) := by
  unfold clearAll
  simp only [List.getD_eq_getElem?_getD, List.getElem?_mapIdx, List.getElem?_eq_getElem hi, Option.map_some, Option.getD_some]
theorem elimStep_none {p : Int} {c : Nat} {rows : List (List Int)} {piv : List Int} {d : Int} (h : findPivot rows piv.length c = none) : elimStep p (rows, piv, d) c = (rows, piv, 0) := by
  unfold elimStep
  dsimp only
  rw [h]
/-- What every step of the elimination keeps. -/
theorem elimTo_small {p : Int} {n : Nat} {rows : List (List Int)} (hp : isP p = true) (hok : RowsOk p n rows) (c : Nat) (hc : c ≤ n) :
    RowsOk p n (elimTo p rows c).1 ∧ (elimTo p rows c).1.length = rows.length ∧ (elimTo p rows c).2.1.length ≤ c ∧ (elimTo p rows c).2.1.length ≤ rows.length ∧ (0 ≤ (elimTo p rows c).2.2 ∧ (elimTo p rows c).2.2 < p) ∧ ((elimTo p rows c).2.1.length < c → (elimTo p rows c).2.2 = 0) := by
  have hp2 := isP_ge hp
  induction c with
  | zero => exact ⟨hok, rfl, Nat.le_refl _, Nat.zero_le _, ⟨by show (0:Int) ≤ 1; omega, by show (1:Int) < p; omega⟩, fun h => absurd h (Nat.not_lt_zero _)⟩
  | succ c ih =>
    obtain ⟨h1, h2, h3, h4, h5, h6⟩ := ih (by omega)
    rw [elimTo_succ]
    generalize elimTo p rows c = s at *
    obtain ⟨R, piv, d⟩ := s
    dsimp only at *
    cases hf : findPivot R piv.length c with
    | none =>
      rw [elimStep_none hf]
      exact ⟨h1, h2, Nat.le_succ_of_le h3, h4, ⟨Int.le_refl 0, by show (0:Int) < p; omega⟩, fun _ => rfl⟩
    | some k =>
      obtain ⟨b1, b2⟩ := findPivot_some hf
      have hst : elimStep p (R, piv, d) c = (clearAll p c piv.length (((if k = 0 then R else swapRows R piv.length (piv.length + k)).getD piv.length []).map (fun x => pinv p (cell (if k = 0 then R else swapRows R piv.length (piv.length + k)) piv.length c) * x % p)) ((if k = 0 then R else swapRows R piv.length (piv.length + k)).set piv.length (((if k = 0 then R else swapRows R piv.length (piv.length + k)).getD piv.length []).map (fun x => pinv p (cell (if k = 0 then R else swapRows R piv.length (piv.length + k)) piv.length c) * x % p))), piv ++ [(c : Int)], (if k = 0 then d else -d % p) * cell (if k = 0 then R else swapRows R piv.length (piv.length + k)) piv.length c % p) := by
        unfold elimStep; simp only [hf]
      rw [hst]
      have hW : RowsOk p n (if k = 0 then R else swapRows R piv.length (piv.length + k)) ∧ (if k = 0 then R else swapRows R piv.length (piv.length + k)).length = R.length := by
        by_cases e : k = 0
        · rw [if_pos e]; exact ⟨h1, rfl⟩
        · rw [if_neg e]; exact ⟨RowsOk.swap h1 (by omega) b1, swapRows_length _ _ _⟩
      have hz : (if k = 0 then d else -d % p) = 0 ∨ ¬ piv.length < c := by
        by_cases e : piv.length < c
        · left; rw [h6 e]; simp
        · exact .inr e
      generalize (if k = 0 then R else swapRows R piv.length (piv.length + k)) = W at hW ⊢
      generalize (if k = 0 then d else -d % p) = e at hz ⊢
      have okT : RowOk p n (W.getD piv.length []) := hW.1 _ (getD_mem (by omega))
      have hq : RowOk p n ((W.getD piv.length []).map (fun x => pinv p (cell W piv.length c) * x % p)) := scale_ok _ (by omega) okT.1
      refine ⟨RowsOk.clear (RowsOk.set hW.1 hq _) (by omega) hq.1 c _, ?_, ?_, ?_, ⟨Int.emod_nonneg _ (by omega), Int.emod_lt_of_pos _ (by omega)⟩, fun h => ?_⟩
      · rw [clearAll_length, List.length_set]; omega
      · simp; omega
      · simp; omega
      · rcases hz with hz | hz
        · show e * _ % p = 0
          rw [hz]; simp
        · exfalso; simp at h; omega

/-- Sums of elements modulo p. -/
def sm {p : Nat} [NeZero p] (n : Nat) (f : Nat → Fin p) : Fin p := match n with | 0 => 0 | n+1 => sm n f + f n

section
variable {p : Nat} [NeZero p]

theorem sm_congr {n : Nat} {f g : Nat → Fin p} (h : ∀ i, i < n → f i = g i) : sm n f = sm n g := by
  induction n with
  | zero => rfl
  | succ n ih =>
    simp only [sm]
    rw [ih (fun i hi => h i (by omega)), h n (by omega)]
theorem sm_zero {n : Nat} {f : Nat → Fin p} (h : ∀ i, i < n → f i = 0) : sm n f = 0 := by
  induction n with
  | zero => rfl
  | succ n ih =>
    simp only [sm]
    rw [ih (fun i hi => h i (by omega)), h n (by omega)]
    grind
theorem sm_add (n : Nat) (f g : Nat → Fin p) : sm n (fun i => f i + g i) = sm n f + sm n g := by
  induction n with
  | zero => simp [sm]
  | succ n ih => simp only [sm, ih]; grind
theorem sm_mul (n : Nat) (f : Nat → Fin p) (c : Fin p) : sm n (fun i => c * f i) = c * sm n f := by
  induction n with
  | zero => simp only [sm]; grind
  | succ n ih => simp only [sm, ih]; grind
theorem sm_mul_r (n : Nat) (f : Nat → Fin p) (c : Fin p) : sm n (fun i => f i * c) = sm n f * c := by
  induction n with
  | zero => simp only [sm]; grind
  | succ n ih => simp only [sm, ih]; grind
theorem sm_comm (n m : Nat) (f : Nat → Nat → Fin p) : sm n (fun i => sm m (fun j => f i j)) = sm m (fun j => sm n (fun i => f i j)) := by
  induction n with
  | zero => simp only [sm]; exact (sm_zero (fun _ _ => rfl)).symm
  | succ n ih => simp only [sm, ih]; rw [← sm_add]
/-- One term alone. -/
theorem sm_one {n : Nat} {f : Nat → Fin p} (k : Nat) (hk : k < n) (h : ∀ i, i < n → i ≠ k → f i = 0) : sm n f = f k := by
  induction n with
  | zero => omega
  | succ n ih =>
    simp only [sm]
    by_cases e : k = n
    · subst e
      rw [sm_zero (fun i hi => h i (by omega) (by omega))]; grind
    · rw [ih (by omega) (fun i hi hne => h i (by omega) hne), h n (by omega) (by omega)]; grind
/-- What lies past the first r terms is 0. -/
theorem sm_cut {n r : Nat} {f : Nat → Fin p} (hr : r ≤ n) (h : ∀ i, r ≤ i → i < n → f i = 0) : sm n f = sm r f := by
  induction n with
  | zero => obtain rfl : r = 0 := by omega
            rfl
  | succ n ih =>
    by_cases e : r = n + 1
    · rw [e]
    · simp only [sm]
      rw [ih (by omega) (fun i h1 h2 => h i h1 (by omega)), h n (by omega) (by omega)]; grind
/-- The place past a left-out one. -/
def skip (k i : Nat) : Nat := if i < k then i else i + 1
theorem sm_skip {n : Nat} {f : Nat → Fin p} (k : Nat) (hk : k < n + 1) : sm (n + 1) f = f k + sm n (fun i => f (skip k i)) := by
  induction n with
  | zero => obtain rfl : k = 0 := by omega
            simp only [sm]; grind
  | succ n ih =>
    by_cases e : k = n + 1
    · subst e
      have h : sm (n + 1) (fun i => f (skip (n + 1) i)) = sm (n + 1) f := sm_congr (fun i hi => by unfold skip; rw [if_pos hi])
      rw [h]
      show sm (n + 1) f + f (n + 1) = _
      grind
    · have h1 : sm (n + 1 + 1) f = sm (n + 1) f + f (n + 1) := rfl
      have h2 : sm (n + 1) (fun i => f (skip k i)) = sm n (fun i => f (skip k i)) + f (skip k n) := rfl
      rw [h1, h2, ih (by omega)]
      have h3 : skip k n = n + 1 := by unfold skip; rw [if_neg (by omega)]
      rw [h3]; grind

/-! ### Spans -/
/-- v is a sum of multiples of m rows, at the first n places. -/
def Sp (n m : Nat) (A : Nat → Nat → Fin p) (v : Nat → Fin p) : Prop := ∃ c : Nat → Fin p, ∀ j, j < n → v j = sm m (fun i => c i * A i j)
theorem Sp.row {n m : Nat} {A : Nat → Nat → Fin p} {i : Nat} (hi : i < m) : Sp n m A (A i) :=
  ⟨fun k => if k = i then 1 else 0, fun j _ => by
    rw [sm_one i hi (fun k _ hk => by dsimp only; rw [if_neg hk]; grind)]; dsimp only; rw [if_pos rfl]; grind⟩
theorem Sp.trans {n m m' : Nat} {A B : Nat → Nat → Fin p} {v : Nat → Fin p} (h : Sp n m A v) (hB : ∀ i, i < m → Sp n m' B (A i)) : Sp n m' B v := by
  obtain ⟨c, hc⟩ := h
  have : ∀ i, ∃ d : Nat → Fin p, i < m → ∀ j, j < n → A i j = sm m' (fun k => d k * B k j) := fun i => by
    by_cases hi : i < m
    · obtain ⟨d, hd⟩ := hB i hi
      exact ⟨d, fun _ => hd⟩
    · exact ⟨fun _ => 0, fun h => absurd h hi⟩
  obtain ⟨d, hd⟩ := Classical.axiomOfChoice this
  refine ⟨fun k => sm m (fun i => c i * d i k), fun j hj => ?_⟩
  rw [hc j hj]
  have e1 : sm m (fun i => c i * A i j) = sm m (fun i => sm m' (fun k => c i * (d i k * B k j))) := sm_congr (fun i hi => by rw [hd i hi j hj, sm_mul])
  rw [e1, sm_comm]
  exact sm_congr (fun k _ => by rw [← sm_mul_r]; exact sm_congr (fun i _ => by grind))
theorem Sp.congr {n m : Nat} {A : Nat → Nat → Fin p} {v u : Nat → Fin p} (h : Sp n m A v) (e : ∀ j, j < n → u j = v j) : Sp n m A u := by
  obtain ⟨c, hc⟩ := h
  exact ⟨c, fun j hj => by rw [e j hj]; exact hc j hj⟩
theorem Sp.zero {n m : Nat} {A : Nat → Nat → Fin p} {v : Nat → Fin p} (h : ∀ j, j < n → v j = 0) : Sp n m A v :=
  ⟨fun _ => 0, fun j hj => by rw [h j hj, sm_zero (fun i _ => by grind)]⟩
theorem Sp.add {n m : Nat} {A : Nat → Nat → Fin p} {v u : Nat → Fin p} (h : Sp n m A v) (k : Sp n m A u) : Sp n m A (fun j => v j + u j) := by
  obtain ⟨c, hc⟩ := h
  obtain ⟨d, hd⟩ := k
  refine ⟨fun i => c i + d i, fun j hj => ?_⟩
  show v j + u j = _
  rw [hc j hj, hd j hj, ← sm_add]
  exact sm_congr (fun i _ => by grind)
theorem Sp.mul {n m : Nat} {A : Nat → Nat → Fin p} {v : Nat → Fin p} (a : Fin p) (h : Sp n m A v) : Sp n m A (fun j => a * v j) := by
  obtain ⟨c, hc⟩ := h
  refine ⟨fun i => a * c i, fun j hj => ?_⟩
  show a * v j = _
  rw [hc j hj, ← sm_mul]
  exact sm_congr (fun i _ => by grind)

/-! ### Reduced forms -/
/-- The first r of m rows have their pivots; the others are 0. -/
structure Rref (n m : Nat) (A : Nat → Nat → Fin p) (r : Nat) (P : Nat → Nat) : Prop where
  le : r ≤ m
  lt : ∀ i, i < r → P i < n
  inc : ∀ i k, i < k → k < r → P i < P k
  one : ∀ i, i < r → A i (P i) = 1
  col : ∀ i k, i < r → k < m → k ≠ i → A k (P i) = 0
  before : ∀ i j, i < r → j < P i → A i j = 0
  rest : ∀ i j, r ≤ i → i < m → j < n → A i j = 0
theorem Rref.coeff {n m r : Nat} {A : Nat → Nat → Fin p} {P : Nat → Nat} (h : Rref n m A r P) {v c : Nat → Fin p} (hc : ∀ j, j < n → v j = sm m (fun i => c i * A i j)) {i : Nat} (hi : i < r) : v (P i) = c i := by
  rw [hc _ (h.lt i hi), sm_one i (by have := h.le; omega) (fun k hk hne => by rw [h.col i k hi hk hne]; grind), h.one i hi]; grind
theorem Rref.as_sum {n m r : Nat} {A : Nat → Nat → Fin p} {P : Nat → Nat} (h : Rref n m A r P) {v : Nat → Fin p} (hv : Sp n m A v) (j : Nat) (hj : j < n) : v j = sm r (fun i => v (P i) * A i j) := by
  obtain ⟨c, hc⟩ := hv
  rw [hc j hj, sm_cut h.le (fun i h1 h2 => by rw [h.rest i j h1 h2 hj]; grind)]
  exact sm_congr (fun i hi => by rw [h.coeff hc hi])
/-- Where a vector of the span begins, there is a pivot. -/
theorem Rref.lead {n m r : Nat} {A : Nat → Nat → Fin p} {P : Nat → Nat} (h : Rref n m A r P) {v : Nat → Fin p} (hv : Sp n m A v) {k : Nat} (hk : k < n) (h0 : ∀ j, j < k → v j = 0) (h1 : v k ≠ 0) : ∃ i, i < r ∧ P i = k := by
  by_cases hx : ∃ i, i < r ∧ P i = k
  · exact hx
  · exfalso
    apply h1
    rw [h.as_sum hv k hk]
    refine sm_zero (fun i hi => ?_)
    rcases Nat.lt_trichotomy (P i) k with hlt | heq | hgt
    · rw [h0 _ hlt]; grind
    · exact absurd ⟨i, hi, heq⟩ hx
    · rw [h.before i k hi hgt]; grind
theorem Rref.zero_of {n m r : Nat} {A : Nat → Nat → Fin p} {P : Nat → Nat} (h : Rref n m A r P) {v : Nat → Fin p} (hv : Sp n m A v) (h0 : ∀ i, i < r → v (P i) = 0) (j : Nat) (hj : j < n) : v j = 0 := by
  rw [h.as_sum hv j hj]
  exact sm_zero (fun i hi => by rw [h0 i hi]; grind)
/-- Rising places of the same range are the same. -/
theorem same_places {r s : Nat} {P Q : Nat → Nat} (hP : ∀ i k, i < k → k < r → P i < P k) (hQ : ∀ i k, i < k → k < s → Q i < Q k) (h : ∀ i, i < r → ∃ k, k < s ∧ Q k = P i) (h' : ∀ i, i < s → ∃ k, k < r ∧ P k = Q i) : ∀ i, i < r → i < s ∧ P i = Q i := by
  intro i
  induction i using Nat.strongRecOn with
  | _ i ih =>
    intro hi
    obtain ⟨k, hk, e⟩ := h i hi
    rcases Nat.lt_trichotomy k i with hlt | heq | hgt
    · have h2 := (ih k hlt (by omega)).2
      have h3 := hP k i hlt hi
      omega
    · subst heq; exact ⟨hk, e.symm⟩
    · obtain ⟨q, hq, e2⟩ := h' i (by omega)
      have h3 := hQ i k hgt hk
      have h4 : q < i := by
        rcases Nat.lt_or_ge q i with h | h
        · exact h
        · rcases Nat.eq_or_lt_of_le h with h | h
          · subst h; omega
          · have := hP i q h hq; omega
      have h5 := (ih q h4 hq).2
      have h6 := hQ q i h4 (by omega)
      omega
theorem Rref.begins {n m r : Nat} {A : Nat → Nat → Fin p} {P : Nat → Nat} (h : Rref n m A r P) (h10 : (1 : Fin p) ≠ 0) (i : Nat) (hi : i < r) : A i (P i) ≠ 0 := by rw [h.one i hi]; exact h10
/-- A reduced form of a span is one alone. -/
theorem Rref.unique {n m m' r s : Nat} {A B : Nat → Nat → Fin p} {P Q : Nat → Nat} (h10 : (1 : Fin p) ≠ 0) (h : Rref n m A r P) (k : Rref n m' B s Q) (hAB : ∀ i, i < m → Sp n m' B (A i)) (hBA : ∀ i, i < m' → Sp n m A (B i)) :
    r = s ∧ (∀ i, i < r → P i = Q i) ∧ ∀ i j, i < r → j < n → A i j = B i j := by
  have e1 := same_places h.inc k.inc (fun i hi => k.lead (hAB i (by have := h.le; omega)) (h.lt i hi) (fun j hj => h.before i j hi hj) (h.begins h10 i hi)) (fun i hi => h.lead (hBA i (by have := k.le; omega)) (k.lt i hi) (fun j hj => k.before i j hi hj) (k.begins h10 i hi))
  have e2 := same_places k.inc h.inc (fun i hi => h.lead (hBA i (by have := k.le; omega)) (k.lt i hi) (fun j hj => k.before i j hi hj) (k.begins h10 i hi)) (fun i hi => k.lead (hAB i (by have := h.le; omega)) (h.lt i hi) (fun j hj => h.before i j hi hj) (h.begins h10 i hi))
  have hrs : r = s := by
    rcases Nat.lt_trichotomy r s with hlt | heq | hgt
    · have := (e2 r hlt).1; omega
    · exact heq
    · have := (e1 s hgt).1; omega
  subst hrs
  refine ⟨rfl, fun i hi => (e1 i hi).2, fun i j hi hj => ?_⟩
  rw [k.as_sum (hAB i (by have := h.le; omega)) j hj]
  rw [sm_one i hi (fun q hq hne => by rw [← (e1 q hq).2, h.col q i hq (by have := h.le; omega) (by omega)]; grind), ← (e1 i hi).2, h.one i hi]; grind
/-- The pivots of a larger span are among those of .. : each pivot of the part is one of the whole. -/
theorem Rref.pivots_sub {n m m' r s : Nat} {A B : Nat → Nat → Fin p} {P Q : Nat → Nat} (h10 : (1 : Fin p) ≠ 0) (h : Rref n m A r P) (k : Rref n m' B s Q) (hAB : ∀ i, i < m → Sp n m' B (A i)) (i : Nat) (hi : i < r) : ∃ q, q < s ∧ Q q = P i :=
  k.lead (hAB i (by have := h.le; omega)) (h.lt i hi) (fun j hj => h.before i j hi hj) (h.begins h10 i hi)

/-! ### More unknowns than equations -/
theorem nonzero_solution (h10 : (1 : Fin p) ≠ 0) (hinv : ∀ a : Fin p, a ≠ 0 → ∃ b, a * b = 1) (t : Nat) : ∀ (r : Nat) (D : Nat → Nat → Fin p), t < r → ∃ y : Nat → Fin p, (∃ i, i < r ∧ y i ≠ 0) ∧ ∀ k, k < t → sm r (fun i => y i * D i k) = 0 := by
  induction t with
  | zero => exact fun r D h => ⟨fun _ => 1, ⟨0, h, h10⟩, fun k hk => by omega⟩
  | succ t ih =>
    intro r D hr
    by_cases hz : ∀ i, i < r → D i t = 0
    · obtain ⟨y, hy, hs⟩ := ih r D (by omega)
      refine ⟨y, hy, fun k hk => ?_⟩
      by_cases e : k = t
      · subst e
        exact sm_zero (fun i hi => by rw [hz i hi]; grind)
      · exact hs k (by omega)
    · have : ∃ i0, i0 < r ∧ D i0 t ≠ 0 := by
        apply Classical.byContradiction
        intro h
        exact hz (fun i hi => Classical.byContradiction fun hne => h ⟨i, hi, hne⟩)
      obtain ⟨i0, hi0, hne⟩ := this
      obtain ⟨b, hb⟩ := hinv _ hne
      obtain ⟨r, rfl⟩ : ∃ q, r = q + 1 := ⟨r - 1, by omega⟩
      obtain ⟨y, ⟨i1, hi1, hy⟩, hs⟩ := ih r (fun i k => D (skip i0 i) k - D (skip i0 i) t * b * D i0 k) (by omega)
      let un : Nat → Nat := fun i => if i < i0 then i else i - 1
      have un_skip : ∀ i, un (skip i0 i) = i := fun i => by
        show (if skip i0 i < i0 then skip i0 i else skip i0 i - 1) = i
        unfold skip
        by_cases h : i < i0
        · rw [if_pos h, if_pos h]
        · rw [if_neg h, if_neg (by omega)]; omega
      have skip_ne : ∀ i, skip i0 i ≠ i0 := fun i => by unfold skip; split <;> omega
      let S := sm r (fun i => y i * (D (skip i0 i) t * b))
      refine ⟨fun i => if i = i0 then -S else y (un i), ⟨skip i0 i1, by unfold skip; split <;> omega, ?_⟩, fun k hk => ?_⟩
      · show (if skip i0 i1 = i0 then -S else y (un (skip i0 i1))) ≠ 0
        rw [if_neg (skip_ne i1), un_skip]; exact hy
      · rw [sm_skip i0 hi0]; dsimp only; rw [if_pos rfl]
        have e1 : sm r (fun i => (if skip i0 i = i0 then -S else y (un (skip i0 i))) * D (skip i0 i) k) = sm r (fun i => y i * D (skip i0 i) k) := sm_congr (fun i _ => by rw [if_neg (skip_ne i), un_skip])
        rw [e1]
        by_cases e : k = t
        · subst e
          have e2 : sm r (fun i => y i * D (skip i0 i) k) = S * D i0 k := by
            show _ = sm r _ * D i0 k
            rw [← sm_mul_r]
            exact sm_congr (fun i _ => by
              have : y i * (D (skip i0 i) k * b) * D i0 k = y i * D (skip i0 i) k * (D i0 k * b) := by grind
              rw [this, hb]; grind)
          rw [e2]; grind
        · have h3 := hs k (by omega)
          have e2 : sm r (fun i => y i * (D (skip i0 i) k - D (skip i0 i) t * b * D i0 k)) = sm r (fun i => y i * D (skip i0 i) k) + -(S * D i0 k) := by
            have : -(S * D i0 k) = sm r (fun i => (-(D i0 k)) * (y i * (D (skip i0 i) t * b))) := by
              rw [sm_mul]; show _ = -(D i0 k) * S; grind
            rw [this, ← sm_add]
            exact sm_congr (fun i _ => by grind)
          rw [e2] at h3
          grind
/-- Rows in reduced form that lie in the span of t vectors have at most t pivots. -/
theorem Rref.le_of_span {n m r t : Nat} {A G : Nat → Nat → Fin p} {P : Nat → Nat} (h10 : (1 : Fin p) ≠ 0) (hinv : ∀ a : Fin p, a ≠ 0 → ∃ b, a * b = 1) (h : Rref n m A r P) (hG : ∀ i, i < r → Sp n t G (A i)) : r ≤ t := by
  rcases Nat.lt_or_ge t r with hlt | hge
  · exfalso
    have : ∀ i, ∃ d : Nat → Fin p, i < r → ∀ j, j < n → A i j = sm t (fun k => d k * G k j) := fun i => by
      by_cases hi : i < r
      · obtain ⟨d, hd⟩ := hG i hi
        exact ⟨d, fun _ => hd⟩
      · exact ⟨fun _ => 0, fun h => absurd h hi⟩
    obtain ⟨D, hD⟩ := Classical.axiomOfChoice this
    obtain ⟨y, ⟨i, hi, hy⟩, hs⟩ := nonzero_solution h10 hinv t r D hlt
    apply hy
    have hz : ∀ j, j < n → (0 : Fin p) = sm m (fun k => (if k < r then y k else 0) * A k j) := fun j hj => by
      rw [sm_cut h.le (fun k h1 h2 => by rw [if_neg (by omega)]; grind)]
      have e1 : sm r (fun k => (if k < r then y k else 0) * A k j) = sm r (fun k => sm t (fun q => y k * (D k q * G q j))) := sm_congr (fun k hk => by rw [if_pos hk, hD k hk j hj, sm_mul])
      rw [e1, sm_comm]
      refine (sm_zero (fun q hq => ?_)).symm
      have e2 : sm r (fun k => y k * (D k q * G q j)) = sm r (fun k => y k * D k q) * G q j := by rw [← sm_mul_r]; exact sm_congr (fun k _ => by grind)
      rw [e2, hs q hq]; grind
    have := h.coeff (v := fun _ => 0) hz hi
    rw [if_pos hi] at this
    exact this.symm
  · exact hge
end
section
variable {p : Nat} [NeZero p]
theorem skip_ne' (k i : Nat) : skip k i ≠ k := by unfold skip; split <;> omega
/-- Two terms alone. -/
theorem sm_two {n : Nat} {f : Nat → Fin p} (a b : Nat) (ha : a < n) (hb : b < n) (hab : a ≠ b) (h : ∀ i, i < n → i ≠ a → i ≠ b → f i = 0) : sm n f = f a + f b := by
  obtain ⟨n, rfl⟩ : ∃ q, n = q + 1 := ⟨n - 1, by omega⟩
  rw [sm_skip a ha]
  congr 1
  have hb' : ∃ b', b' < n ∧ skip a b' = b := by
    rcases Nat.lt_or_ge b a with h | h
    · exact ⟨b, by omega, by unfold skip; rw [if_pos h]⟩
    · exact ⟨b - 1, by omega, by unfold skip; rw [if_neg (by omega)]; omega⟩
  obtain ⟨b', hb1, hb2⟩ := hb'
  rw [sm_one b' hb1 (fun i hi hne => h _ (by unfold skip; split <;> omega) (skip_ne' a i) (by
    intro e
    apply hne
    unfold skip at e hb2
    split at e <;> split at hb2 <;> omega)), hb2]

def sgn (i : Nat) : Fin p := if i % 2 = 0 then 1 else -1
theorem sgn_succ (i : Nat) : (sgn (i + 1) : Fin p) = - sgn i := by
  unfold sgn
  by_cases h : i % 2 = 0
  · rw [if_pos h, if_neg (by omega)]
  · rw [if_neg h, if_pos (by omega)]; grind

/-- The determinant of n rows, along the first column. -/
def det : Nat → (Nat → Nat → Fin p) → Fin p
  | 0, _ => 1
  | n + 1, M => sm (n + 1) (fun i => sgn i * M i 0 * det n (fun a b => M (skip i a) (b + 1)))

theorem det_congr {n : Nat} : ∀ {M N : Nat → Nat → Fin p}, (∀ i j, i < n → j < n → M i j = N i j) → det n M = det n N := by
  induction n with
  | zero => intro M N _; rfl
  | succ n ih =>
    intro M N h
    simp only [det]
    refine sm_congr (fun i hi => ?_)
    rw [h i 0 hi (by omega), ih (fun a b ha hb => h _ _ (by unfold skip; split <;> omega) (by omega))]

/-- A row that is a sum of multiples of two. -/
theorem det_linear {n : Nat} : ∀ {L M N : Nat → Nat → Fin p} (k : Nat) (x y : Fin p), k < n → (∀ i j, i ≠ k → L i j = M i j) → (∀ i j, i ≠ k → L i j = N i j) → (∀ j, L k j = x * M k j + y * N k j) → det n L = x * det n M + y * det n N := by
  induction n with
  | zero => intro L M N k x y hk; omega
  | succ n ih =>
    intro L M N k x y hk hM hN hL
    simp only [det]
    rw [← sm_mul, ← sm_mul, ← sm_add]
    refine sm_congr (fun i hi => ?_)
    by_cases e : i = k
    · subst e
      have e1 : det n (fun a b => L (skip i a) (b + 1)) = det n (fun a b => M (skip i a) (b + 1)) := det_congr (fun a b _ _ => hM _ _ (skip_ne' i a))
      have e2 : det n (fun a b => N (skip i a) (b + 1)) = det n (fun a b => M (skip i a) (b + 1)) := det_congr (fun a b _ _ => by rw [← hN _ _ (skip_ne' i a), hM _ _ (skip_ne' i a)])
      rw [e1, e2, hL]; grind
    · have hk' : ∃ k', k' < n ∧ skip i k' = k := by
        rcases Nat.lt_or_ge k i with h | h
        · exact ⟨k, by omega, by unfold skip; rw [if_pos h]⟩
        · exact ⟨k - 1, by omega, by unfold skip; rw [if_neg (by omega)]; omega⟩
      obtain ⟨k', h1, h2⟩ := hk'
      have hne : ∀ a, a ≠ k' → skip i a ≠ k := fun a ha e => by
        apply ha
        unfold skip at e h2
        split at e <;> split at h2 <;> omega
      rw [ih (L := fun a b => L (skip i a) (b + 1)) (M := fun a b => M (skip i a) (b + 1)) (N := fun a b => N (skip i a) (b + 1)) k' x y h1 (fun a b ha => hM _ _ (hne a ha)) (fun a b ha => hN _ _ (hne a ha)) (fun b => by rw [h2]; exact hL _)]
      rw [hM i 0 e, ← hN i 0 e, hM i 0 e]; grind

/-- Two equal rows side by side. -/
theorem det_adjacent {n : Nat} : ∀ {M : Nat → Nat → Fin p} (k : Nat), k + 1 < n → (∀ j, M k j = M (k + 1) j) → det n M = 0 := by
  induction n with
  | zero => intro M k hk; omega
  | succ n ih =>
    intro M k hk h
    simp only [det]
    rw [sm_two k (k + 1) (by omega) hk (by omega) (fun i hi h1 h2 => ?_)]
    · have e1 : det n (fun a b => M (skip (k + 1) a) (b + 1)) = det n (fun a b => M (skip k a) (b + 1)) := det_congr (fun a b _ _ => by
        unfold skip
        rcases Nat.lt_trichotomy a k with hlt | heq | hgt
        · rw [if_pos (by omega), if_pos hlt]
        · subst heq
          rw [if_pos (by omega), if_neg (by omega)]; exact h _
        · rw [if_neg (by omega), if_neg (by omega)])
      rw [e1, sgn_succ, ← h 0]; grind
    · rcases Nat.lt_or_ge i k with hlt | hge
      · rw [ih (M := fun a b => M (skip i a) (b + 1)) (k - 1) (by omega) (fun j => by
          unfold skip
          rw [if_neg (by omega), if_neg (by omega), show k - 1 + 1 = k by omega]; exact h _)]; grind
      · rw [ih (M := fun a b => M (skip i a) (b + 1)) k (by omega) (fun j => by
          unfold skip
          rw [if_pos (by omega), if_pos (by omega)]; exact h _)]; grind

/-- Row k put in the place of row i, and row v in that of row j. -/
def setRow (M : Nat → Nat → Fin p) (k : Nat) (v : Nat → Fin p) : Nat → Nat → Fin p := fun i j => if i = k then v j else M i j
omit [NeZero p] in
theorem setRow_at (M : Nat → Nat → Fin p) (k : Nat) (v : Nat → Fin p) (j : Nat) : setRow M k v k j = v j := by unfold setRow; rw [if_pos rfl]
omit [NeZero p] in
theorem setRow_ne (M : Nat → Nat → Fin p) {k i : Nat} (v : Nat → Fin p) (j : Nat) (h : i ≠ k) : setRow M k v i j = M i j := by unfold setRow; rw [if_neg h]
def swapRow (M : Nat → Nat → Fin p) (a b : Nat) : Nat → Nat → Fin p := fun i j => if i = a then M b j else if i = b then M a j else M i j

/-- If equal rows at a and b always give 0, an exchange of the two turns the sign. -/
theorem det_swap_of {n : Nat} {a b : Nat} (ha : a < n) (hb : b < n) (hab : a ≠ b) (H : ∀ M : Nat → Nat → Fin p, (∀ j, M a j = M b j) → det n M = 0) (M : Nat → Nat → Fin p) : det n (swapRow M a b) = - det n M := by
  let u := M a
  let v := M b
  let X : (Nat → Fin p) → (Nat → Fin p) → Nat → Nat → Fin p := fun s t => setRow (setRow M a s) b t
  have hXa : ∀ s t j, X s t a j = s j := fun s t j => by show setRow _ _ _ _ _ = _; rw [setRow_ne _ _ _ hab, setRow_at]
  have hXb : ∀ s t j, X s t b j = t j := fun s t j => setRow_at _ _ _ _
  have hXo : ∀ s t i j, i ≠ a → i ≠ b → X s t i j = M i j := fun s t i j h1 h2 => by show setRow _ _ _ _ _ = _; rw [setRow_ne _ _ _ h2, setRow_ne _ _ _ h1]
  have z : ∀ s, det n (X s s) = 0 := fun s => H _ (fun j => by rw [hXa, hXb])
  have l1 : ∀ s s' t, det n (X (fun j => s j + s' j) t) = det n (X s t) + det n (X s' t) := fun s s' t => by
    rw [det_linear (L := X (fun j => s j + s' j) t) (M := X s t) (N := X s' t) a 1 1 ha ?_ ?_ ?_]
    · grind
    · intro i j hi
      by_cases e : i = b
      · subst e; rw [hXb, hXb]
      · rw [hXo _ _ _ _ hi e, hXo _ _ _ _ hi e]
    · intro i j hi
      by_cases e : i = b
      · subst e; rw [hXb, hXb]
      · rw [hXo _ _ _ _ hi e, hXo _ _ _ _ hi e]
    · intro j; rw [hXa, hXa, hXa]; grind
  have l2 : ∀ s t t', det n (X s (fun j => t j + t' j)) = det n (X s t) + det n (X s t') := fun s t t' => by
    rw [det_linear (L := X s (fun j => t j + t' j)) (M := X s t) (N := X s t') b 1 1 hb ?_ ?_ ?_]
    · grind
    · intro i j hi
      by_cases e : i = a
      · subst e; rw [hXa, hXa]
      · rw [hXo _ _ _ _ e hi, hXo _ _ _ _ e hi]
    · intro i j hi
      by_cases e : i = a
      · subst e; rw [hXa, hXa]
      · rw [hXo _ _ _ _ e hi, hXo _ _ _ _ e hi]
    · intro j; rw [hXb, hXb, hXb]; grind
  have h0 := z (fun j => u j + v j)
  rw [l1, l2, l2, z, z] at h0
  have e1 : det n (X u v) = det n M := det_congr (fun i j _ _ => by
    by_cases e : i = a
    · subst e; rw [hXa]
    · by_cases e2 : i = b
      · subst e2; rw [hXb]
      · rw [hXo _ _ _ _ e e2])
  have e2 : det n (X v u) = det n (swapRow M a b) := det_congr (fun i j _ _ => by
    unfold swapRow
    by_cases e : i = a
    · subst e; rw [hXa, if_pos rfl]
    · by_cases e2 : i = b
      · subst e2; rw [hXb, if_neg e, if_pos rfl]
      · rw [hXo _ _ _ _ e e2, if_neg e, if_neg e2])
  rw [e1, e2] at h0
  grind
theorem det_equal_rows {n : Nat} (d : Nat) : ∀ {M : Nat → Nat → Fin p} (a : Nat), a + d + 1 < n → (∀ j, M a j = M (a + d + 1) j) → det n M = 0 := by
  induction d with
  | zero => exact fun a h e => det_adjacent a h e
  | succ d ih =>
    intro M a h e
    have h1 := det_swap_of (a := a + d + 1) (b := a + d + 2) (n := n) (by omega) (by omega) (by omega) (fun N hN => det_adjacent (a + d + 1) (by omega) hN) M
    have h2 : det n (swapRow M (a + d + 1) (a + d + 2)) = 0 := ih a (by omega) (fun j => by
      unfold swapRow
      rw [if_neg (by omega), if_neg (by omega), if_pos rfl]; exact e j)
    rw [h2] at h1
    grind
theorem det_equal {n : Nat} {M : Nat → Nat → Fin p} {a b : Nat} (ha : a < n) (hb : b < n) (hab : a ≠ b) (h : ∀ j, M a j = M b j) : det n M = 0 := by
  rcases Nat.lt_or_gt_of_ne hab with hlt | hgt
  · exact det_equal_rows (b - a - 1) a (by omega) (fun j => by rw [show a + (b - a - 1) + 1 = b by omega]; exact h j)
  · exact det_equal_rows (a - b - 1) b (by omega) (fun j => by rw [show b + (a - b - 1) + 1 = a by omega]; exact (h j).symm)
theorem det_swap {n : Nat} {a b : Nat} (ha : a < n) (hb : b < n) (hab : a ≠ b) (M : Nat → Nat → Fin p) : det n (swapRow M a b) = - det n M := det_swap_of ha hb hab (fun _ h => det_equal ha hb hab h) M
theorem det_scale {n : Nat} {k : Nat} (hk : k < n) (x : Fin p) (M : Nat → Nat → Fin p) : det n (setRow M k (fun j => x * M k j)) = x * det n M := by
  rw [det_linear (M := M) (N := M) k x 0 hk (fun i j h => setRow_ne _ _ _ h) (fun i j h => setRow_ne _ _ _ h) (fun j => by rw [setRow_at]; grind)]; grind
theorem det_add {n : Nat} {k t : Nat} (hk : k < n) (ht : t < n) (hkt : k ≠ t) (x : Fin p) (M : Nat → Nat → Fin p) : det n (setRow M k (fun j => M k j + x * M t j)) = det n M := by
  rw [det_linear (M := M) (N := setRow M k (M t)) k 1 x hk (fun i j h => setRow_ne _ _ _ h) (fun i j h => by rw [setRow_ne _ _ _ h, setRow_ne _ _ _ h]) (fun j => by rw [setRow_at, setRow_at]; grind),
    det_equal (M := setRow M k (M t)) hk ht hkt (fun j => by rw [setRow_at, setRow_ne _ _ _ (Ne.symm hkt)])]; grind
theorem det_zero_row {n : Nat} {k : Nat} (hk : k < n) (M : Nat → Nat → Fin p) (h : ∀ j, j < n → M k j = 0) : det n M = 0 := by
  have e : det n M = det n (setRow M k (fun j => 0 * M k j)) := det_congr (fun i j _ hj => by
    unfold setRow
    split
    · rename_i e; subst e; rw [h j hj]; grind
    · rfl)
  rw [e, det_scale hk]; grind
def idM : Nat → Nat → Fin p := fun i j => if i = j then 1 else 0
theorem det_id (n : Nat) : det n (idM : Nat → Nat → Fin p) = 1 := by
  induction n with
  | zero => rfl
  | succ n ih =>
    simp only [det]
    rw [sm_one 0 (by omega) (fun i _ hi => by unfold idM; rw [if_neg hi]; grind)]
    have : det n (fun a b => (idM (skip 0 a) (b + 1) : Fin p)) = det n idM := det_congr (fun a b _ _ => by unfold idM skip; simp)
    rw [this, ih]
    unfold idM sgn
    simp only [Nat.zero_mod, if_true]
    grind

/-! ### Products -/
def mulM (n : Nat) (A N : Nat → Nat → Fin p) : Nat → Nat → Fin p := fun i j => sm n (fun k => A i k * N k j)
theorem mulM_id_right {n : Nat} (A : Nat → Nat → Fin p) {i j : Nat} (hj : j < n) : mulM n A idM i j = A i j := by
  unfold mulM
  rw [sm_one j hj (fun k _ hk => by unfold idM; rw [if_neg hk]; grind)]
  unfold idM; rw [if_pos rfl]; grind
theorem mulM_id_left {n : Nat} (N : Nat → Nat → Fin p) {i j : Nat} (hi : i < n) : mulM n idM N i j = N i j := by
  unfold mulM
  rw [sm_one i hi (fun k _ hk => by unfold idM; rw [if_neg (Ne.symm hk)]; grind)]
  unfold idM; rw [if_pos rfl]; grind
/-- A comes to B by steps on its rows that take the factor d out of the determinant, whatever A is multiplied by. -/
def Ops (n : Nat) (A B : Nat → Nat → Fin p) (d : Fin p) : Prop := ∀ N, det n (mulM n A N) = d * det n (mulM n B N)
theorem Ops.refl (n : Nat) (A : Nat → Nat → Fin p) : Ops n A A 1 := fun N => by grind
theorem Ops.trans {n : Nat} {A B C : Nat → Nat → Fin p} {d e : Fin p} (h : Ops n A B d) (k : Ops n B C e) : Ops n A C (d * e) := fun N => by rw [h N, k N]; grind
theorem Ops.congr {n : Nat} {A B C : Nat → Nat → Fin p} {d : Fin p} (h : Ops n A B d) (e : ∀ i j, i < n → j < n → C i j = B i j) : Ops n A C d := fun N => by
  rw [h N]
  congr 1
  exact det_congr (fun i j hi _ => sm_congr (fun k hk => by rw [e i k hi hk]))
theorem Ops.swap {n : Nat} {a b : Nat} (ha : a < n) (hb : b < n) (hab : a ≠ b) (A : Nat → Nat → Fin p) : Ops n A (swapRow A a b) (-1) := fun N => by
  have e : det n (mulM n (swapRow A a b) N) = det n (swapRow (mulM n A N) a b) := det_congr (fun i j _ _ => by
    unfold mulM swapRow
    split
    · rfl
    · split
      · rfl
      · rfl)
  rw [e, det_swap ha hb hab]; grind
theorem mulM_setRow (n : Nat) (A N : Nat → Nat → Fin p) (k : Nat) (v : Nat → Fin p) (i j : Nat) : mulM n (setRow A k v) N i j = setRow (mulM n A N) k (fun j => sm n (fun q => v q * N q j)) i j := by
  by_cases e : i = k
  · subst e
    rw [setRow_at]
    exact sm_congr (fun q _ => by rw [setRow_at])
  · rw [setRow_ne _ _ _ e]
    exact sm_congr (fun q _ => by rw [setRow_ne _ _ _ e])
theorem Ops.scale {n : Nat} {k : Nat} (hk : k < n) (x y : Fin p) (hxy : x * y = 1) (A : Nat → Nat → Fin p) : Ops n A (setRow A k (fun j => y * A k j)) x := fun N => by
  have e : det n (mulM n (setRow A k (fun j => y * A k j)) N) = det n (setRow (mulM n A N) k (fun j => y * mulM n A N k j)) := det_congr (fun i j _ _ => by
    rw [mulM_setRow]
    have : (fun j => sm n (fun q => y * A k q * N q j)) = (fun j => y * mulM n A N k j) := funext fun j => by
      unfold mulM
      rw [← sm_mul]
      exact sm_congr (fun q _ => by grind)
    rw [this])
  rw [e, det_scale hk]
  have : x * (y * det n (mulM n A N)) = (x * y) * det n (mulM n A N) := by grind
  rw [this, hxy]; grind
theorem Ops.add {n : Nat} {k t : Nat} (hk : k < n) (ht : t < n) (hkt : k ≠ t) (x : Fin p) (A : Nat → Nat → Fin p) : Ops n A (setRow A k (fun j => A k j + x * A t j)) 1 := fun N => by
  have e : det n (mulM n (setRow A k (fun j => A k j + x * A t j)) N) = det n (setRow (mulM n A N) k (fun j => mulM n A N k j + x * mulM n A N t j)) := det_congr (fun i j _ _ => by
    rw [mulM_setRow]
    have : (fun j => sm n (fun q => (A k q + x * A t q) * N q j)) = (fun j => mulM n A N k j + x * mulM n A N t j) := funext fun j => by
      unfold mulM
      rw [← sm_mul, ← sm_add]
      exact sm_congr (fun q _ => by grind)
    rw [this])
  rw [e, det_add hk ht hkt]; grind
theorem Ops.det {n : Nat} {A B : Nat → Nat → Fin p} {d : Fin p} (h : Ops n A B d) : det n A = d * det n B := by
  have h1 := h idM
  rwa [det_congr (N := A) (fun i j _ hj => mulM_id_right A hj), det_congr (N := B) (fun i j _ hj => mulM_id_right B hj)] at h1
/-- What steps bring to the unit, or to rows one of which is 0, has a determinant that goes through products. -/
theorem det_mul_of {n : Nat} {A B : Nat → Nat → Fin p} {d : Fin p} (h : Ops n A B d) (hB : (∀ i j, i < n → j < n → B i j = idM i j) ∨ ∃ k, k < n ∧ ∀ j, j < n → B k j = 0) (N : Nat → Nat → Fin p) : Lin.det n (mulM n A N) = Lin.det n A * Lin.det n N := by
  rw [h N, h.det]
  rcases hB with hB | ⟨k, hk, hB⟩
  · have e1 : Lin.det n (mulM n B N) = Lin.det n N := det_congr (fun i j hi _ => by
      rw [← mulM_id_left N hi]
      exact sm_congr (fun q hq => by rw [hB i q hi hq]))
    have e2 : Lin.det n B = 1 := by rw [← det_id n]; exact det_congr hB
    rw [e1, e2]; grind
  · rw [det_zero_row hk (mulM n B N) (fun j _ => sm_zero (fun q hq => by rw [hB q hq]; grind)), det_zero_row hk B hB]; grind
end
section
variable {p : Nat} [NeZero p]
/-! ### A step of the elimination -/
/-- The first c columns are reduced: r pivots. -/
structure Part (n m c : Nat) (A : Nat → Nat → Fin p) (r : Nat) (P : Nat → Nat) : Prop where
  le : r ≤ m
  lt : ∀ i, i < r → P i < c
  inc : ∀ i k, i < k → k < r → P i < P k
  one : ∀ i, i < r → A i (P i) = 1
  col : ∀ i k, i < r → k < m → k ≠ i → A k (P i) = 0
  before : ∀ i j, i < r → j < P i → A i j = 0
  rest : ∀ i j, r ≤ i → i < m → j < c → A i j = 0
theorem Part.start (n m : Nat) (A : Nat → Nat → Fin p) (P : Nat → Nat) : Part n m 0 A 0 P :=
  ⟨Nat.zero_le _, fun i h => by omega, fun i k _ h => by omega, fun i h => by omega, fun i k h => by omega, fun i j h => by omega, fun i j _ _ h => by omega⟩
theorem Part.rref {n m r : Nat} {A : Nat → Nat → Fin p} {P : Nat → Nat} (h : Part n m n A r P) : Rref n m A r P := ⟨h.le, h.lt, h.inc, h.one, h.col, h.before, h.rest⟩
theorem Part.pass {n m c r : Nat} {A : Nat → Nat → Fin p} {P : Nat → Nat} (h : Part n m c A r P) (hz : ∀ i, r ≤ i → i < m → A i c = 0) : Part n m (c + 1) A r P :=
  ⟨h.le, fun i hi => by have := h.lt i hi; omega, h.inc, h.one, h.col, h.before, fun i j h1 h2 h3 => by
    by_cases e : j = c
    · subst e; exact hz i h1 h2
    · exact h.rest i j h1 h2 (by omega)⟩
/-- Row q, whose number at c is not 0, becomes row r, and is taken away from the others. -/
structure Stepped (n m c r q : Nat) (u : Fin p) (A B : Nat → Nat → Fin p) : Prop where
  hr : r ≤ q
  hq : q < m
  hu : A q c * u = 1
  at_ : ∀ j, j < n → B r j = u * A q j
  other : ∀ i j, i < m → i ≠ r → j < n → B i j = (if i = q then A r j else A i j) + -(if i = q then A r c else A i c) * B r j
theorem Part.step {n m c r q : Nat} {u : Fin p} {A B : Nat → Nat → Fin p} {P : Nat → Nat} (h : Part n m c A r P) (hc : c < n) (s : Stepped n m c r q u A B) :
    Part n m (c + 1) B (r + 1) (fun i => if i = r then c else P i) := by
  have hrq := s.hr
  have hqm := s.hq
  have hBr : ∀ j, j < c → B r j = 0 := fun j hj => by rw [s.at_ j (by omega), h.rest q j s.hr s.hq hj]; grind
  have hBrc : B r c = 1 := by rw [s.at_ c hc, ← s.hu]; grind
  have hlow : ∀ i j, i < m → i ≠ r → j < c → B i j = if i = q then A r j else A i j := fun i j hi hne hj => by
    rw [s.other i j hi hne (by omega), hBr j hj]; grind
  refine ⟨by have := h.le; omega, fun i hi => ?_, fun i k h1 h2 => ?_, fun i hi => ?_, fun i k hi hk hne => ?_, fun i j hi hj => ?_, fun i j h1 h2 h3 => ?_⟩
  · split
    · omega
    · have := h.lt i (by omega); omega
  · rw [if_neg (show ¬ i = r by omega)]
    split
    · exact h.lt i (by omega)
    · exact h.inc i k h1 (by omega)
  · by_cases e : i = r
    · subst e; rw [if_pos rfl]; exact hBrc
    · rw [if_neg e, hlow i _ (by omega) e (h.lt i (by omega)), if_neg (by omega)]
      exact h.one i (by omega)
  · by_cases e : i = r
    · subst e
      rw [if_pos rfl, s.other k c hk hne hc, hBrc]; grind
    · rw [if_neg e]
      have hlt := h.lt i (by omega)
      by_cases e2 : k = r
      · subst e2; exact hBr _ hlt
      · rw [hlow k _ hk e2 hlt]
        split
        · exact h.col i r (by omega) (by omega) (by omega)
        · exact h.col i k (by omega) hk hne
  · by_cases e : i = r
    · subst e
      rw [if_pos rfl] at hj
      exact hBr j hj
    · rw [if_neg e] at hj
      have hlt := h.lt i (by omega)
      rw [hlow i j (by omega) e (by omega), if_neg (by omega)]
      exact h.before i j (by omega) hj
  · by_cases e : j = c
    · subst e
      rw [s.other i j h2 (by omega) hc, hBrc]; grind
    · rw [hlow i j h2 (by omega) (by omega)]
      split
      · exact h.rest r j (Nat.le_refl _) (by omega) (by omega)
      · exact h.rest i j (by omega) h2 (by omega)
/-- Each row behind a step is in the span of the rows ahead of it, and the other way round. -/
theorem Stepped.span {n m c r q : Nat} {u : Fin p} {A B : Nat → Nat → Fin p} (s : Stepped n m c r q u A B) : (∀ i, i < m → Sp n m A (B i)) ∧ ∀ i, i < m → Sp n m B (A i) := by
  have hr := s.hr
  have hq := s.hq
  have spr : Sp n m A (B r) := ((Sp.row (A := A) hq).mul u).congr (fun j hj => s.at_ j hj)
  have f : ∀ i, i < m → Sp n m A (B i) := fun i hi => by
    by_cases e : i = r
    · subst e; exact spr
    · have h1 : Sp n m A (A (if i = q then r else i)) := Sp.row (by split <;> omega)
      refine (h1.add (spr.mul (-(if i = q then A r c else A i c)))).congr (fun j hj => ?_)
      rw [s.other i j hi e hj]
      split <;> rfl
  refine ⟨f, fun i hi => ?_⟩
  have hBr : Sp n m B (B r) := Sp.row (by omega)
  have hAq : Sp n m B (A q) := (hBr.mul (A q c)).congr (fun j hj => by
    rw [s.at_ j hj]
    have h1 := s.hu
    have : A q c * (u * A q j) = (A q c * u) * A q j := by grind
    rw [this, h1]; grind)
  by_cases e : i = q
  · subst e; exact hAq
  · by_cases e2 : i = r
    · subst e2
      have h1 : Sp n m B (B q) := Sp.row hq
      refine (h1.add (hBr.mul (A i c))).congr (fun j hj => ?_)
      rw [s.other q j hq (by omega) hj, if_pos rfl, if_pos rfl]; grind
    · have h1 : Sp n m B (B i) := Sp.row hi
      refine (h1.add (hBr.mul (A i c))).congr (fun j hj => ?_)
      rw [s.other i j hi e2 hj, if_neg e, if_neg e]; grind
/-- Multiples of row t added to all others. -/
theorem Ops.add_all {n t : Nat} (ht : t < n) (x : Nat → Fin p) (A : Nat → Nat → Fin p) (k : Nat) : k ≤ n → Ops n A (fun i j => if i < k ∧ i ≠ t then A i j + x i * A t j else A i j) 1 := by
  induction k with
  | zero => exact fun _ => (Ops.refl n A).congr (fun i j _ _ => by rw [if_neg (by omega)])
  | succ k ih =>
    intro hk
    by_cases e : k = t
    · refine (ih (by omega)).congr (fun i j _ _ => ?_)
      by_cases h1 : i < k ∧ i ≠ t
      · rw [if_pos h1, if_pos (by omega)]
      · rw [if_neg h1, if_neg (by omega)]
    · have h1 := Ops.add (n := n) (k := k) (t := t) (by omega) ht e (x k) (fun i j => if i < k ∧ i ≠ t then A i j + x i * A t j else A i j)
      have h2 := (ih (by omega)).trans h1
      have e1 : (1 : Fin p) * 1 = 1 := by grind
      rw [e1] at h2
      refine h2.congr (fun i j _ _ => ?_)
      unfold setRow
      dsimp only
      by_cases ei : i = k
      · subst ei
        rw [if_pos rfl, if_neg (show ¬ (i < i ∧ i ≠ t) by omega), if_neg (show ¬ (t < i ∧ t ≠ t) by omega), if_pos (by omega)]
      · rw [if_neg ei]
        by_cases h3 : i < k ∧ i ≠ t
        · rw [if_pos h3, if_pos (by omega)]
        · rw [if_neg h3, if_neg (by omega)]
theorem Stepped.ops {n c r q : Nat} {u : Fin p} {A B : Nat → Nat → Fin p} (s : Stepped n n c r q u A B) : Ops n A B ((if q = r then 1 else -1) * A q c) := by
  have hr := s.hr
  have hq := s.hq
  have h1 : Ops n A (swapRow A r q) (if q = r then 1 else -1) := by
    by_cases e : q = r
    · rw [if_pos e]
      refine (Ops.refl n A).congr (fun i j _ _ => ?_)
      unfold swapRow
      subst e
      split
      · rename_i e2; subst e2; rfl
      · rfl
    · rw [if_neg e]
      exact Ops.swap (by omega) hq (by omega) A
  have h2 := Ops.scale (n := n) (k := r) (by omega) (A q c) u s.hu (swapRow A r q)
  have h3 := Ops.add_all (n := n) (t := r) (by omega) (fun i => -(if i = q then A r c else A i c)) (setRow (swapRow A r q) r (fun j => u * swapRow A r q r j)) n (Nat.le_refl _)
  have h4 := (h1.trans h2).trans h3
  have e1 : (if q = r then 1 else -1) * A q c * 1 = (if q = r then 1 else -1) * A q c := by grind
  rw [e1] at h4
  have hrow : ∀ j, setRow (swapRow A r q) r (fun j => u * swapRow A r q r j) r j = u * A q j := fun j => by
    rw [setRow_at]; unfold swapRow; rw [if_pos rfl]
  refine h4.congr (fun i j hi hj => ?_)
  by_cases e : i = r
  · subst e
    rw [if_neg (by omega), hrow, s.at_ j hj]
  · rw [if_pos ⟨hi, e⟩, hrow, setRow_ne _ _ _ e, s.other i j hi e hj, s.at_ j hj]
    unfold swapRow
    rw [if_neg e]

/-! ### What follows of a reduced form -/
/-- The two spans are the same. -/
def Same (n m m' : Nat) (A B : Nat → Nat → Fin p) : Prop := (∀ i, i < m → Sp n m' B (A i)) ∧ ∀ i, i < m' → Sp n m A (B i)
theorem Same.refl (n m : Nat) (A : Nat → Nat → Fin p) : Same n m m A A := ⟨fun _ h => Sp.row h, fun _ h => Sp.row h⟩
theorem Same.symm {n m m' : Nat} {A B : Nat → Nat → Fin p} (h : Same n m m' A B) : Same n m' m B A := ⟨h.2, h.1⟩
theorem Same.trans {n m m' m'' : Nat} {A B C : Nat → Nat → Fin p} (h : Same n m m' A B) (k : Same n m' m'' B C) : Same n m m'' A C :=
  ⟨fun i hi => (h.1 i hi).trans k.1, fun i hi => (k.2 i hi).trans h.2⟩
theorem Stepped.same {n m c r q : Nat} {u : Fin p} {A B : Nat → Nat → Fin p} (s : Stepped n m c r q u A B) : Same n m m A B := ⟨s.span.2, s.span.1⟩
/-- A square reduced form with all its pivots is the unit. -/
theorem Rref.full {n : Nat} {A : Nat → Nat → Fin p} {P : Nat → Nat} (h : Rref n n A n P) : (∀ i, i < n → P i = i) ∧ ∀ i j, i < n → j < n → A i j = idM i j := by
  have ge : ∀ i, i < n → i ≤ P i := fun i => by
    induction i with
    | zero => exact fun _ => Nat.zero_le _
    | succ i ih =>
      intro hi
      have h1 := ih (by omega)
      have h2 := h.inc i (i + 1) (by omega) hi
      omega
  have le : ∀ d i, i < n → n - 1 - i = d → P i ≤ i := fun d => by
    induction d with
    | zero => exact fun i hi e => by have := h.lt i hi; omega
    | succ d ih =>
      intro i hi e
      have h1 := ih (i + 1) (by omega) (by omega)
      have h2 := h.inc i (i + 1) (by omega) (by omega)
      omega
  have hP : ∀ i, i < n → P i = i := fun i hi => Nat.le_antisymm (le _ i hi rfl) (ge i hi)
  refine ⟨hP, fun i j hi hj => ?_⟩
  unfold idM
  by_cases e : i = j
  · subst e
    have := h.one i hi
    rw [hP i hi] at this
    rw [if_pos rfl]; exact this
  · have := h.col j i hj hi e
    rw [hP j hj] at this
    rw [if_neg e]; exact this
theorem Rref.unit_or_zero {n r : Nat} {A : Nat → Nat → Fin p} {P : Nat → Nat} (h : Rref n n A r P) : (r = n ∧ ∀ i j, i < n → j < n → A i j = idM i j) ∨ (r < n ∧ ∃ k, k < n ∧ ∀ j, j < n → A k j = 0) := by
  rcases Nat.eq_or_lt_of_le h.le with e | e
  · subst e; exact .inl ⟨rfl, h.full.2⟩
  · exact .inr ⟨e, r, e, fun j hj => h.rest r j (Nat.le_refl _) e hj⟩
end
/-! ### Numbers and numbers modulo p -/
def phi (p : Nat) [NeZero p] (x : Int) : Fin p := ⟨(x % p).toNat, by have := NeZero.ne p; have := Int.emod_lt_of_pos x (show (0:Int) < p by omega); have := Int.emod_nonneg x (show (p:Int) ≠ 0 by omega); omega⟩
theorem fin_ext {p : Nat} {a b : Fin p} (h : (a.val : Int) = b.val) : a = b := Fin.ext (by omega)
section
variable {p : Nat} [NeZero p]
theorem phi_val (x : Int) : ((phi p x).val : Int) = x % p := by
  have := NeZero.ne p; have := Int.emod_nonneg x (show (p:Int) ≠ 0 by omega); simp [phi]; omega
theorem phi_emod (x : Int) : phi p (x % p) = phi p x := fin_ext (by rw [phi_val, phi_val, Int.emod_emod_of_dvd _ (Int.dvd_refl _)])
theorem phi_add (x y : Int) : phi p (x + y) = phi p x + phi p y :=
  fin_ext (by rw [Fin.val_add, phi_val, Int.natCast_emod, Int.natCast_add, phi_val, phi_val, ← Int.add_emod])
theorem phi_mul (x y : Int) : phi p (x * y) = phi p x * phi p y :=
  fin_ext (by rw [Fin.val_mul, phi_val, Int.natCast_emod, Int.natCast_mul, phi_val, phi_val, ← Int.mul_emod])
theorem phi_zero : phi p 0 = 0 := fin_ext (by rw [phi_val]; simp)
theorem phi_one : phi p 1 = 1 := fin_ext (by rw [phi_val]; show (1 : Int) % p = ((1 % p : Nat) : Int); simp)
theorem phi_neg (x : Int) : phi p (-x) = -(phi p x) := by
  have h : phi p (x + -x) = phi p x + phi p (-x) := phi_add x (-x)
  rw [Int.add_right_neg, phi_zero] at h
  grind
theorem phi_sub (x y : Int) : phi p (x - y) = phi p x - phi p y := by
  rw [Int.sub_eq_add_neg, phi_add, phi_neg]; grind
theorem phi_p : phi p (p : Int) = 0 := fin_ext (by rw [phi_val]; simp)
theorem phi_eq {x y : Int} : phi p x = phi p y ↔ x % p = y % p := by
  constructor
  · intro h; rw [← phi_val, ← phi_val, h]
  · intro h; rw [← phi_emod x, h, phi_emod]
theorem phi_inj {x y : Int} (hx : 0 ≤ x) (hx' : x < p) (hy : 0 ≤ y) (hy' : y < p) (h : phi p x = phi p y) : x = y := by
  have := phi_eq.mp h
  rwa [Int.emod_eq_of_lt hx hx', Int.emod_eq_of_lt hy hy'] at this
theorem phi_zero_iff {x : Int} (hx : 0 ≤ x) (hx' : x < p) : phi p x = 0 ↔ x = 0 := by
  constructor
  · intro h
    exact phi_inj hx hx' (Int.le_refl 0) (by have := NeZero.ne p; omega) (by rw [h, phi_zero])
  · intro h; rw [h, phi_zero]
end

theorem inv_table : ∀ p, p ∈ primes251 → ∀ a, a < p → 0 < a → (a * (a ^ (p - 2) % p)) % p = 1 := by decide +kernel
theorem pinv_tells {p a : Int} (hp : isP p = true) (h0 : 0 < a) (h1 : a < p) : (a * pinv p a) % p = 1 := by
  have hp2 := isP_ge hp
  obtain ⟨q, rfl⟩ := Int.eq_ofNat_of_zero_le (show 0 ≤ p by omega)
  obtain ⟨b, rfl⟩ := Int.eq_ofNat_of_zero_le (show 0 ≤ a by omega)
  have hm : q ∈ primes251 := by unfold isP at hp; simp at hp; exact hp.2
  have h := inv_table q hm b (by omega) (by omega)
  have e : ((q : Int) - 2).toNat = q - 2 := by omega
  unfold pinv
  rw [e]
  have h2 : (((b * (b ^ (q - 2) % q)) % q : Nat) : Int) = ((1 : Nat) : Int) := by rw [h]
  simp only [Int.natCast_emod, Int.natCast_mul, Int.natCast_pow] at h2
  exact h2
def fm (p : Nat) [NeZero p] (rows : List (List Int)) : Nat → Nat → Fin p := fun i j => phi p (cell rows i j)
theorem clear_phi {p : Nat} [NeZero p] {n c : Nat} {q r : List Int} (hq : q.length = n) (hr : r.length = n) {j : Nat} (hj : j < n) : phi p ((clearRow p c q r).getD j 0) = phi p (r.getD j 0) + -(phi p (r.getD c 0)) * phi p (q.getD j 0) := by
  unfold clearRow
  split
  · rename_i h; rw [h, phi_zero]; grind
  · rw [addRow_getD (by omega) (by omega), phi_emod, phi_add, phi_mul, phi_sub, phi_p]; grind

/-- What a column does, as steps on rows modulo p. -/
theorem elimStep_some {p : Nat} [NeZero p] {n c k : Nat} {rows : List (List Int)} {piv : List Int} {d : Int} (hp : isP p = true) (hok : RowsOk p n rows) (h : findPivot rows piv.length c = some k) :
    RowsOk p n (elimStep p (rows, piv, d) c).1 ∧ (elimStep p (rows, piv, d) c).1.length = rows.length ∧ (elimStep p (rows, piv, d) c).2.1 = piv ++ [(c : Int)] ∧
    (elimStep p (rows, piv, d) c).2.2 = (if k = 0 then d else -d % p) * cell rows (piv.length + k) c % p ∧
    Stepped n rows.length c piv.length (piv.length + k) (phi p (pinv p (cell rows (piv.length + k) c))) (fm p rows) (fm p (elimStep p (rows, piv, d) c).1) := by
  obtain ⟨hlt, hne⟩ := findPivot_some h
  have hp2 := isP_ge hp
  unfold elimStep
  dsimp only
  rw [h]
  dsimp only
  generalize ht : piv.length = top at *
  generalize hrows : (if k = 0 then rows else swapRows rows top (top + k)) = R at *
  have hlen : R.length = rows.length := by
    rw [← hrows]; split
    · rfl
    · exact swapRows_length _ _ _
  have hokR : RowsOk p n R := by
    rw [← hrows]; split
    · exact hok
    · exact hok.swap (by omega) hlt
  have hget : ∀ i, R.getD i [] = if i = top + k then rows.getD top [] else if i = top then rows.getD (top + k) [] else rows.getD i [] := fun i => by
    rw [← hrows]
    by_cases e : k = 0
    · subst e
      rw [if_pos rfl]
      by_cases e2 : i = top
      · subst e2; simp
      · simp [e2]
    · rw [if_neg e]
      exact swapRows_get rows (by omega) hlt i
  have htop : R.getD top [] = rows.getD (top + k) [] := by
    rw [hget]
    by_cases e : k = 0
    · subst e; simp
    · rw [if_neg (by omega), if_pos rfl]
  have hlead : cell R top c = cell rows (top + k) c := by unfold cell; rw [htop]
  rw [hlead]
  generalize hL : cell rows (top + k) c = L at *
  have hLr := hok.cell (p := p) (by omega) (top + k) c
  rw [hL] at hLr
  have hq : RowOk p n ((R.getD top []).map (fun x => pinv p L * x % p)) := scale_ok _ (by omega) (hokR _ (getD_mem (by omega))).1
  generalize hQ : (R.getD top []).map (fun x => pinv p L * x % p) = Q at *
  have hQj : ∀ j, j < n → Q.getD j 0 = pinv p L * (rows.getD (top + k) []).getD j 0 % p := fun j hj => by
    rw [← hQ, htop]
    have hl : j < (rows.getD (top + k) []).length := by rw [(hok _ (getD_mem hlt)).1]; exact hj
    rw [List.getD_eq_getElem?_getD, List.getElem?_map, List.getD_eq_getElem?_getD (l := rows.getD (top + k) []), List.getElem?_eq_getElem hl]
    rfl
  have hok2 : RowsOk p n (R.set top Q) := hokR.set hq top
  have hl2 : (R.set top Q).length = rows.length := by rw [List.length_set, hlen]
  refine ⟨hok2.clear (by omega) hq.1 c top, by rw [clearAll_length, hl2], rfl, rfl, ?_⟩
  refine ⟨by omega, hlt, ?_, fun j hj => ?_, fun i j hi hne' hj => ?_⟩
  · show phi p (cell rows (top + k) c) * phi p (pinv p L) = 1
    rw [hL, ← phi_mul, ← phi_emod, pinv_tells hp (by omega) (by omega), phi_one]
  · show phi p ((clearAll _ c top Q (R.set top Q)).getD top [] |>.getD j 0) = _
    rw [clearAll_get (by omega), if_pos rfl, getD_set _ _ _ _ (by omega), if_pos rfl, hQj j hj, phi_emod, phi_mul]
    rfl
  · show phi p ((clearAll _ c top Q (R.set top Q)).getD i [] |>.getD j 0) = _ + _ * phi p ((clearAll _ c top Q (R.set top Q)).getD top [] |>.getD j 0)
    rw [clearAll_get (by omega), if_neg hne', clearAll_get (by omega), if_pos rfl, getD_set _ _ _ _ (by omega), if_neg hne', getD_set _ _ _ _ (by omega), if_pos rfl]
    rw [clear_phi hq.1 (hokR _ (getD_mem (by omega))).1 hj, hget i]
    unfold fm cell
    split
    · rfl
    · rfl
/-- The pivots as a list. -/
def pivList (P : Nat → Nat) (r : Nat) : List Int := (List.range r).map (fun i => (P i : Int))
theorem pivList_length (P : Nat → Nat) (r : Nat) : (pivList P r).length = r := by unfold pivList; simp
theorem pivList_snoc (P : Nat → Nat) (r c : Nat) : pivList P r ++ [(c : Int)] = pivList (fun i => if i = r then c else P i) (r + 1) := by
  unfold pivList
  rw [List.range_succ, List.map_append]
  congr 1
  · refine List.map_congr_left (fun i hi => ?_)
    have := List.mem_range.mp hi
    dsimp only
    rw [if_neg (by omega)]
  · simp

/-- THE ELIMINATION, column by column. -/
theorem elimTo_tells {p : Nat} [NeZero p] {n : Nat} {rows : List (List Int)} (hp : isP p = true) (hok : RowsOk p n rows) (c : Nat) (hc : c ≤ n) :
    ∃ r P, RowsOk p n (elimTo p rows c).1 ∧ (elimTo p rows c).1.length = rows.length ∧ (elimTo p rows c).2.1 = pivList P r ∧ Part n rows.length c (fm p (elimTo p rows c).1) r P ∧
      Same n rows.length rows.length (fm p rows) (fm p (elimTo p rows c).1) ∧ (0 ≤ (elimTo p rows c).2.2 ∧ (elimTo p rows c).2.2 < p) ∧ r ≤ c ∧ (r < c → (elimTo p rows c).2.2 = 0) ∧
      (rows.length = n → ∃ d, Ops n (fm p rows) (fm p (elimTo p rows c).1) d ∧ (r = c → phi p (elimTo p rows c).2.2 = d)) := by
  have hp2 := isP_ge hp
  induction c with
  | zero =>
    refine ⟨0, fun _ => 0, hok, rfl, rfl, Part.start _ _ _ _, Same.refl _ _ _, ⟨by show (0:Int) ≤ 1; omega, by show (1:Int) < p; omega⟩, Nat.le_refl _, fun h => by omega, fun _ => ⟨1, Ops.refl _ _, fun _ => phi_one⟩⟩
  | succ c ih =>
    obtain ⟨r, P, h1, h2, h3, h4, h5, h6, h7, h8, h9⟩ := ih (by omega)
    rw [elimTo_succ]
    generalize hs : elimTo p rows c = s at *
    obtain ⟨R, piv, d⟩ := s
    dsimp only at *
    have hr : piv.length = r := by rw [h3, pivList_length]
    cases hf : findPivot R piv.length c with
    | none =>
      rw [elimStep_none hf]
      refine ⟨r, P, h1, h2, h3, h4.pass (fun i hi1 hi2 => ?_), h5, ⟨Int.le_refl 0, by show (0:Int) < p; omega⟩, by omega, fun _ => rfl, fun hsq => ?_⟩
      · show phi p (cell R i c) = 0
        rw [findPivot_none hf i (by omega) (by omega), phi_zero]
      · obtain ⟨d', hd, _⟩ := h9 hsq
        exact ⟨d', hd, fun h => by omega⟩
    | some k =>
      obtain ⟨g1, g2, g3, g4, g5⟩ := elimStep_some (d := d) hp h1 hf
      rw [hr] at g4 g5
      rw [h2] at g5
      generalize hs' : elimStep p (R, piv, d) c = s' at *
      obtain ⟨R', piv', d'⟩ := s'
      dsimp only at *
      refine ⟨r + 1, fun i => if i = r then c else P i, g1, by omega, by rw [g3, h3, pivList_snoc], h4.step (by omega) g5, h5.trans g5.same, ?_, by omega, fun h => ?_, fun hsq => ?_⟩
      · rw [g4]; exact ⟨Int.emod_nonneg _ (by omega), Int.emod_lt_of_pos _ (by omega)⟩
      · rw [g4, h8 (by omega)]; simp
      · obtain ⟨e, he, hd⟩ := h9 hsq
        rw [hsq] at g5
        refine ⟨_, he.trans g5.ops, fun h => ?_⟩
        rw [g4, phi_emod, phi_mul, ← hd (by omega)]
        show _ = phi p d * (_ * phi p (cell R (r + k) c))
        by_cases ek : k = 0
        · rw [if_pos ek, if_pos (by omega)]; grind
        · rw [if_neg ek, if_neg (by omega), phi_emod, phi_neg]; grind
end Go.Proofs.YtkndhjchlnepmaaDoor.Lin
end
