import Derived.Test.YtepdfefgkhodlaaDoorFx5
import Derived.Test.YtepdfefgkhodlaaDoorFx7
import Derived.Test.YtepdfefgkhodlaaDoorSpl
import Derived.Test.YtepdfefgkhodlaaDoorNmb
import Derived.KernelRfl
set_option linter.unusedVariables false
set_option linter.unusedSimpArgs false
set_option linter.unusedSectionVars false
namespace Go.Proofs.YtepdfefgkhodlaaDoor.F
open Go.RowKit Go.Proofs.YtepdfefgkhodlaaDoorW.PrintWords Go.Proofs.YtepdfefgkhodlaaDoorW.PrintLast Go.Proofs.YtepdfefgkhodlaaDoor.Lin

open Go.Lib
/-- The first part gets bytes ahead. -/
def glue (p : List UInt8) : List (List UInt8) → List (List UInt8)
  | [] => [p]
  | x :: xs => (p ++ x) :: xs
theorem glue_nil {l : List (List UInt8)} (h : l ≠ []) : glue [] l = l := by
  cases l with
  | nil => exact absurd rfl h
  | cons x xs => rfl
theorem extract_B (s : ByteArray) (a b : Nat) : s.extract a b = B ((s.data.toList.take b).drop a) := by
  apply Go.WideShapes.bytes_inj
  rw [B_list, ByteArray.data_extract, Array.toList_extract]
  simp only [List.extract_eq_take_drop]
  rw [List.drop_take]
theorem l01Split_loop (s : ByteArray) (hs : s.data.toList.length ≤ 1048576) (c : UInt8) : ∀ (d i k from_ : Nat) (acc : List ByteArray), s.data.toList.length - i = d → i ≤ s.data.toList.length → from_ ≤ i → d < k → acc.length ≤ i →
    spec_l01Split.l0 k s (c.toNat : Int) acc from_ i = some (acc ++ (glue ((s.data.toList.take i).drop from_) (splitL c (s.data.toList.drop i))).map B) := by
  intro d
  induction d with
  | zero =>
    intro i k from_ acc hd hi hf hk ha
    obtain ⟨k, rfl⟩ : ∃ q, k = q + 1 := ⟨k - 1, by omega⟩
    have e : i = s.data.toList.length := by omega
    simp only [spec_l01Split.l0]
    rw [if_neg (by rw [size_len]; omega), if_pos (by omega), if_pos (by rw [size_len]; omega), if_pos (by omega), Int.toNat_natCast, extract_B, size_len, e, List.drop_length]
    simp [splitL, glue]
  | succ d ih =>
    intro i k from_ acc hd hi hf hk ha
    obtain ⟨k, rfl⟩ : ∃ q, k = q + 1 := ⟨k - 1, by omega⟩
    have hlt : i < s.data.toList.length := by omega
    simp only [spec_l01Split.l0]
    rw [if_pos (by rw [size_len]; omega), if_pos (by omega), bt_nat s hlt, List.drop_eq_getElem_cons hlt]
    have hsz : (s.size : Int) = (s.data.toList.length : Nat) := by rw [size_len]
    by_cases hc : s.data.toList[i] = c
    · rw [if_pos (by rw [hc]), if_pos (by omega), if_pos (by omega), if_pos (by omega), if_pos (by omega), Int.toNat_natCast, Int.toNat_natCast, extract_B, w64_succ (n := s.data.toList.length) hlt (by omega)]
      rw [ih (i + 1) k (i + 1) _ (by omega) (by omega) (by omega) (by omega) (by simp; omega), hc]
      have e0 : (s.data.toList.take (i + 1)).drop (i + 1) = [] := List.drop_eq_nil_of_le (by rw [List.length_take]; omega)
      have e1 : splitL c (c :: s.data.toList.drop (i + 1)) = [] :: splitL c (s.data.toList.drop (i + 1)) := by
        rw [splitL, if_pos rfl]
      rw [e0, glue_nil (splitL_ne _ _), e1]
      simp [glue]
    · have hn : ¬ ((s.data.toList[i].toNat : Nat) : Int) = (c.toNat : Int) := fun h => hc (UInt8.toNat_inj.mp (by omega))
      rw [if_neg hn, w64_succ (n := s.data.toList.length) hlt (by omega), ih (i + 1) k from_ acc (by omega) (by omega) (by omega) (by omega) (by omega)]
      congr 3
      have e2 : (s.data.toList.take (i + 1)).drop from_ = (s.data.toList.take i).drop from_ ++ [s.data.toList[i]] := by
        rw [List.take_add_one, List.getElem?_eq_getElem hlt, List.drop_append_of_le_length (by rw [List.length_take]; omega)]
        rfl
      rw [e2, splitL, if_neg hc]
      cases hq : splitL c (s.data.toList.drop (i + 1)) with
      | nil => exact absurd hq (splitL_ne _ _)
      | cons x xs => simp [glue]
theorem l01Split_tells (s : ByteArray) (hs : s.size ≤ 1048576) (c : UInt8) {n : Int} (hn : n = (c.toNat : Int)) {k : Nat} (hk : s.size + 1 ≤ k) : spec_l01Split.f k s n = some ((splitL c s.data.toList).map B) := by
  rw [size_len] at hs hk
  subst hn
  unfold spec_l01Split.f
  have := l01Split_loop s hs c s.data.toList.length 0 k 0 [] (by omega) (by omega) (by omega) (by omega) (by simp)
  refine this.trans ?_
  simp only [List.take_zero, List.drop_nil, List.nil_append, List.drop_zero]
  rw [glue_nil (splitL_ne _ _)]
theorem split_tells (s : ByteArray) (hs : s.size ≤ 1048576) (c : UInt8) : strings_Split.f s ⟨#[c]⟩ = some ((splitL c s.data.toList).map B) := by
  unfold strings_Split.f
  rw [if_pos ⟨by omega, Nat.le_refl 1⟩, splitB_eq]
end Go.Proofs.YtepdfefgkhodlaaDoor.F
