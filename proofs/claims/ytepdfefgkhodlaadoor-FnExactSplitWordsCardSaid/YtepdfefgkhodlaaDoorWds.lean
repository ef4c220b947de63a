import Derived.Test.YtepdfefgkhodlaaDoorFx6
import Derived.Test.YtepdfefgkhodlaaDoorFx8
import Derived.Test.YtepdfefgkhodlaaDoorSplI
import Derived.Test.YtepdfefgkhodlaaDoorMrk
import Derived.KernelRfl
set_option linter.unusedVariables false
set_option linter.unusedSimpArgs false
set_option linter.unusedSectionVars false
namespace Go.Proofs.YtepdfefgkhodlaaDoor.F
open Go.RowKit Go.Proofs.YtepdfefgkhodlaaDoorW.PrintWords Go.Proofs.YtepdfefgkhodlaaDoorW.PrintLast Go.Proofs.YtepdfefgkhodlaaDoor.Lin

open Go.Lib
/-- The parts that are not empty. -/
def wordsOf (s : List UInt8) : List (List UInt8) := (splitL 32 s).filter (fun x => decide (x ≠ []))
theorem filter_take_succ {l : List (List UInt8)} {i : Nat} (h : i < l.length) (f : List UInt8 → Bool) : (l.take (i + 1)).filter f = (l.take i).filter f ++ (if f l[i] = true then [l[i]] else []) := by
  rw [List.take_add_one, List.getElem?_eq_getElem h, List.filter_append]
  congr 1
  simp only [Option.toList_some, List.filter_cons, List.filter_nil]
theorem getB {P : List (List UInt8)} {i : Nat} (h : i < P.length) : (P.map B).getD i ByteArray.empty = B P[i] := by
  rw [getD_at (by simpa using h), List.getElem_map]
theorem specWords_loop (P : List (List UInt8)) (hP : P.length ≤ 1048577) : ∀ (d i k : Nat), P.length - i = d → i ≤ P.length → d < k →
    spec_SplitWords.l0 k (P.map B) (((P.take i).filter (fun x => decide (x ≠ []))).map B) i = some ((P.filter (fun x => decide (x ≠ []))).map B) := by
  intro d
  induction d with
  | zero =>
    intro i k hd hi hk
    obtain ⟨k, rfl⟩ : ∃ q, k = q + 1 := ⟨k - 1, by omega⟩
    simp only [spec_SplitWords.l0, List.length_map]
    rw [if_neg (by omega), List.take_of_length_le (by omega)]
  | succ d ih =>
    intro i k hd hi hk
    obtain ⟨k, rfl⟩ : ∃ q, k = q + 1 := ⟨k - 1, by omega⟩
    have hlt : i < P.length := by omega
    have nx := filter_take_succ hlt (fun x => decide (x ≠ []))
    have hle : ((P.take i).filter (fun x => decide (x ≠ []))).length ≤ 1048577 := Nat.le_trans (List.length_filter_le _ _) (by rw [List.length_take]; omega)
    simp only [spec_SplitWords.l0, List.length_map]
    rw [if_pos (by omega), if_pos (by omega), rdOf_nat, getB hlt, B_toList, w64_succ (n := P.length) hlt (by omega)]
    have := ih (i + 1) k (by omega) (by omega) (by omega)
    rw [nx] at this
    by_cases h : P[i] = []
    · rw [if_pos h]
      rw [if_neg (by simp [h]), List.append_nil] at this
      exact this
    · rw [if_neg h, if_pos (by omega)]
      rw [if_pos (by simp [h]), List.map_append] at this
      exact this
theorem implWords_loop (P : List (List UInt8)) (hP : P.length ≤ 1048577) : ∀ (d i k : Nat), P.length - i = d → i ≤ P.length → d < k →
    impl_SplitWords.l0 k (((P.take i).filter (fun x => decide (x ≠ []))).map B) (P.map B) P.length i = some ((P.filter (fun x => decide (x ≠ []))).map B) := by
  intro d
  induction d with
  | zero =>
    intro i k hd hi hk
    obtain ⟨k, rfl⟩ : ∃ q, k = q + 1 := ⟨k - 1, by omega⟩
    simp only [impl_SplitWords.l0, List.length_map]
    rw [if_neg (by omega), List.take_of_length_le (by omega)]
  | succ d ih =>
    intro i k hd hi hk
    obtain ⟨k, rfl⟩ : ∃ q, k = q + 1 := ⟨k - 1, by omega⟩
    have hlt : i < P.length := by omega
    have nx := filter_take_succ hlt (fun x => decide (x ≠ []))
    have hle : ((P.take i).filter (fun x => decide (x ≠ []))).length ≤ 1048577 := Nat.le_trans (List.length_filter_le _ _) (by rw [List.length_take]; omega)
    simp only [impl_SplitWords.l0, List.length_map]
    rw [if_pos (by omega), if_pos (by omega), if_pos (by omega), rdOf_nat, getB hlt, B_toList, w64_succ (n := P.length) hlt (by omega)]
    have := ih (i + 1) k (by omega) (by omega) (by omega)
    rw [nx] at this
    by_cases h : P[i] = []
    · rw [if_pos h]
      rw [if_neg (by simp [h]), List.append_nil] at this
      exact this
    · rw [if_neg h, if_pos (by omega)]
      rw [if_pos (by simp [h]), List.map_append] at this
      exact this
theorem specWords_tells (s : ByteArray) (hs : s.size ≤ 1048576) {k : Nat} (hk : s.size + 3 ≤ k) : spec_SplitWords.f k s = some ((wordsOf s.data.toList).map B) := by
  have hl := splitL_length 32 s.data.toList
  have e := size_len s
  unfold spec_SplitWords.f
  rw [l01Split_tells (n := 32) s hs 32 rfl (by omega), Option.bind_some]
  exact specWords_loop _ (by omega) _ 0 k rfl (by omega) (by omega)
theorem implWords_tells (s : ByteArray) (hs : s.size ≤ 1048576) {k : Nat} (hk : s.size + 3 ≤ k) : impl_SplitWords.f k s = some ((wordsOf s.data.toList).map B) := by
  have hl := splitL_length 32 s.data.toList
  have e := size_len s
  unfold impl_SplitWords.f
  rw [split_tells s hs 32, Option.bind_some, List.length_map]
  exact implWords_loop _ (by omega) _ 0 k rfl (by omega) (by omega)
end Go.Proofs.YtepdfefgkhodlaaDoor.F
