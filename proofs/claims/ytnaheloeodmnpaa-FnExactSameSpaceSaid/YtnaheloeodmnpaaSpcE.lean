import Derived.Test.YtnaheloeodmnpaaFx4
import Derived.Test.YtnaheloeodmnpaaFx5
import Derived.Test.YtnaheloeodmnpaaFx10
import Derived.Test.YtnaheloeodmnpaaFx11
import Derived.Test.YtnaheloeodmnpaaSpc
import Derived.KernelRfl
set_option linter.unusedVariables false
set_option linter.unusedSimpArgs false
set_option linter.unusedSectionVars false
namespace Go.Proofs.Ytnaheloeodmnpaa.F
open Go.RowKit Go.Proofs.YtnaheloeodmnpaaW.PrintWords Go.Proofs.YtnaheloeodmnpaaW.PrintLast Go.Proofs.Ytnaheloeodmnpaa.Lin

theorem slE_loop {a b : List Int} (ha : a.length ≤ 35184372088832) (hab : a.length = b.length) (d : Nat) : ∀ (k i : Nat), a.length - i = d → i ≤ a.length → d < k → (∀ j, j < i → a.getD j 0 = b.getD j 0) →
    slices_Equal_int64_int64.l0 k a b a.length i = some (decide (a = b)) := by
  induction d with
  | zero =>
    intro k i hd hi hk h
    obtain ⟨k, rfl⟩ : ∃ m, k = m + 1 := ⟨k - 1, by omega⟩
    simp only [slices_Equal_int64_int64.l0]
    rw [if_neg (by omega), decide_eq_true (ext_getD hab (fun j hj => h j (by omega)))]
  | succ d ih =>
    intro k i hd hi hk h
    obtain ⟨k, rfl⟩ : ∃ m, k = m + 1 := ⟨k - 1, by omega⟩
    simp only [slices_Equal_int64_int64.l0]
    rw [if_pos (by omega), if_pos (by omega), if_pos (by omega), if_pos (by omega), w64_succ (n := a.length) (by omega) ha, rd_nat, rd_nat]
    by_cases e : a.getD i 0 = b.getD i 0
    · rw [if_pos e]
      refine ih k (i + 1) (by omega) (by omega) (by omega) (fun j hj => ?_)
      by_cases e2 : j = i
      · rw [e2]; exact e
      · exact h j (by omega)
    · rw [if_neg e, decide_eq_false (fun h => e (by rw [h]))]
theorem slE_tells {a b : List Int} (ha : a.length ≤ 35184372088832) {k : Nat} (hk : a.length < k) : slices_Equal_int64_int64.f k a b = some (decide (a = b)) := by
  unfold slices_Equal_int64_int64.f
  by_cases h : a.length = b.length
  · rw [if_pos (by omega)]
    exact slE_loop ha h a.length k 0 (by omega) (by omega) hk (fun j hj => by omega)
  · rw [if_neg (by omega), decide_eq_false (fun e => h (by rw [e]))]
theorem saE_loop {a b : List Int} (ha : a.length ≤ 35184372088832) (hab : a.length = b.length) (d : Nat) : ∀ (k i : Nat), a.length - i = d → i ≤ a.length → d < k → (∀ j, j < i → a.getD j 0 = b.getD j 0) →
    spec_l00Same.l0 k a b i = some (decide (a = b)) := by
  induction d with
  | zero =>
    intro k i hd hi hk h
    obtain ⟨k, rfl⟩ : ∃ m, k = m + 1 := ⟨k - 1, by omega⟩
    simp only [spec_l00Same.l0]
    rw [if_neg (by omega), decide_eq_true (ext_getD hab (fun j hj => h j (by omega)))]
  | succ d ih =>
    intro k i hd hi hk h
    obtain ⟨k, rfl⟩ : ∃ m, k = m + 1 := ⟨k - 1, by omega⟩
    simp only [spec_l00Same.l0]
    rw [if_pos (by omega), if_pos (by omega), if_pos (by omega), w64_succ (n := a.length) (by omega) ha, rd_nat, rd_nat]
    by_cases e : a.getD i 0 = b.getD i 0
    · rw [if_pos e]
      refine ih k (i + 1) (by omega) (by omega) (by omega) (fun j hj => ?_)
      by_cases e2 : j = i
      · rw [e2]; exact e
      · exact h j (by omega)
    · rw [if_neg e, decide_eq_false (fun h => e (by rw [h]))]
theorem saE_tells {a b : List Int} (ha : a.length ≤ 35184372088832) {k : Nat} (hk : a.length < k) : spec_l00Same.f k a b = some (decide (a = b)) := by
  unfold spec_l00Same.f
  by_cases h : a.length = b.length
  · rw [if_pos (by omega)]
    exact saE_loop ha h a.length k 0 (by omega) (by omega) hk (fun j hj => by omega)
  · rw [if_neg (by omega), decide_eq_false (fun e => h (by rw [e]))]
theorem slR_loop {a b : List (List Int)} (hn : a.length ≤ 1048576) (hr : ∀ r ∈ a, r.length ≤ 1048576) (hab : a.length = b.length) (d : Nat) : ∀ (k i : Nat), a.length - i = d → i ≤ a.length → d + 1048577 < k → (∀ j, j < i → a.getD j [] = b.getD j []) →
    slices_EqualFunc_int64_int64_int64_int64.l0 k b a a.length i = some (decide (a = b)) := by
  induction d with
  | zero =>
    intro k i hd hi hk h
    obtain ⟨k, rfl⟩ : ∃ m, k = m + 1 := ⟨k - 1, by omega⟩
    simp only [slices_EqualFunc_int64_int64_int64_int64.l0]
    rw [if_neg (by omega), decide_eq_true (ext_rows hab (fun j hj => h j (by omega)))]
  | succ d ih =>
    intro k i hd hi hk h
    obtain ⟨k, rfl⟩ : ∃ m, k = m + 1 := ⟨k - 1, by omega⟩
    have hlt : i < a.length := by omega
    have hw := hr _ (row_mem hlt)
    simp only [slices_EqualFunc_int64_int64_int64_int64.l0]
    rw [if_pos (by omega), if_pos (by omega), if_pos (by omega), if_pos (by omega), rdS_nat, rdS_nat, slE_tells (a := a.getD i []) (by omega) (k := k) (by omega), Option.bind_some, w64_succ (n := a.length) hlt (by omega)]
    by_cases e : a.getD i [] = b.getD i []
    · rw [decide_eq_true e, if_pos rfl]
      refine ih k (i + 1) (by omega) (by omega) (by omega) (fun j hj => ?_)
      by_cases e2 : j = i
      · rw [e2]; exact e
      · exact h j (by omega)
    · rw [decide_eq_false e, if_neg (by simp), decide_eq_false (fun h => e (by rw [h]))]
/-- Rows are compared. -/
theorem slR_tells {a b : List (List Int)} (hn : a.length ≤ 1048576) (hr : ∀ r ∈ a, r.length ≤ 1048576) {k : Nat} (hk : 2097154 < k) : slices_EqualFunc_int64_int64_int64_int64.f k a b = some (decide (a = b)) := by
  unfold slices_EqualFunc_int64_int64_int64_int64.f
  by_cases h : a.length = b.length
  · rw [if_pos (by omega)]
    exact slR_loop hn hr h a.length k 0 (by omega) (by omega) (by omega) (fun j hj => by omega)
  · rw [if_neg (by omega), decide_eq_false (fun e => h (by rw [e]))]
theorem saR_loop {a b : List (List Int)} (hn : a.length ≤ 1048576) (hr : ∀ r ∈ a, r.length ≤ 1048576) (hab : a.length = b.length) (d : Nat) : ∀ (k i : Nat), a.length - i = d → i ≤ a.length → d + 1048577 < k → (∀ j, j < i → a.getD j [] = b.getD j []) →
    spec_l04SameRows.l0 k a b i = some (decide (a = b)) := by
  induction d with
  | zero =>
    intro k i hd hi hk h
    obtain ⟨k, rfl⟩ : ∃ m, k = m + 1 := ⟨k - 1, by omega⟩
    simp only [spec_l04SameRows.l0]
    rw [if_neg (by omega), decide_eq_true (ext_rows hab (fun j hj => h j (by omega)))]
  | succ d ih =>
    intro k i hd hi hk h
    obtain ⟨k, rfl⟩ : ∃ m, k = m + 1 := ⟨k - 1, by omega⟩
    have hlt : i < a.length := by omega
    have hw := hr _ (row_mem hlt)
    simp only [spec_l04SameRows.l0]
    rw [if_pos (by omega), if_pos (by omega), if_pos (by omega), rdS_nat, rdS_nat, saE_tells (a := a.getD i []) (by omega) (k := k) (by omega), Option.bind_some, w64_succ (n := a.length) hlt (by omega)]
    by_cases e : a.getD i [] = b.getD i []
    · rw [decide_eq_true e, if_pos rfl]
      refine ih k (i + 1) (by omega) (by omega) (by omega) (fun j hj => ?_)
      by_cases e2 : j = i
      · rw [e2]; exact e
      · exact h j (by omega)
    · rw [decide_eq_false e, if_neg (by simp), decide_eq_false (fun h => e (by rw [h]))]
/-- Rows are compared. -/
theorem saR_tells {a b : List (List Int)} (hn : a.length ≤ 1048576) (hr : ∀ r ∈ a, r.length ≤ 1048576) {k : Nat} (hk : 2097154 < k) : spec_l04SameRows.f k a b = some (decide (a = b)) := by
  unfold spec_l04SameRows.f
  by_cases h : a.length = b.length
  · rw [if_pos (by omega)]
    exact saR_loop hn hr h a.length k 0 (by omega) (by omega) (by omega) (fun j hj => by omega)
  · rw [if_neg (by omega), decide_eq_false (fun e => h (by rw [e]))]
end Go.Proofs.Ytnaheloeodmnpaa.F
