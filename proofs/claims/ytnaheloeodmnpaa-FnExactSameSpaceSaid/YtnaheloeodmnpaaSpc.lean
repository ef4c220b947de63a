import Derived.Test.YtnaheloeodmnpaaFx1
import Derived.Test.YtnaheloeodmnpaaFx2
import Derived.Test.YtnaheloeodmnpaaFx8
import Derived.Test.YtnaheloeodmnpaaFx15
import Derived.Test.YtnaheloeodmnpaaVecS
import Derived.KernelRfl
set_option linter.unusedVariables false
set_option linter.unusedSimpArgs false
set_option linter.unusedSectionVars false
namespace Go.Proofs.Ytnaheloeodmnpaa.F
open Go.RowKit Go.Proofs.YtnaheloeodmnpaaW.PrintWords Go.Proofs.YtnaheloeodmnpaaW.PrintLast Go.Proofs.Ytnaheloeodmnpaa.Lin

theorem rdS_nat (l : List (List Int)) (i : Nat) : rd_L1 l (i : Int) = l.getD i [] := by unfold rd_L1; rw [Int.toNat_natCast]
theorem ext_rows {l m : List (List Int)} (hl : l.length = m.length) (h : ∀ j, j < l.length → l.getD j [] = m.getD j []) : l = m := by
  refine List.ext_getElem hl (fun j h1 h2 => ?_)
  have := h j h1
  rwa [getD_at h1, getD_at h2] at this
theorem row_mem {l : List (List Int)} {i : Nat} (h : i < l.length) : l.getD i [] ∈ l := by rw [getD_at h]; exact List.getElem_mem h
theorem set_rows (l : List (List Int)) (i : Nat) (v : List Int) (j : Nat) (h : i < l.length) : (l.set i v).getD j [] = if j = i then v else l.getD j [] := by
  simp only [List.getD_eq_getElem?_getD, List.getElem?_set, h]
  by_cases e : i = j
  · subst e; simp [h]
  · rw [if_neg e, if_neg (fun h => e h.symm)]
theorem szS_tells {r : List Int} (hr : r.length ≤ maxLen) {a : Int} (h0 : 0 ≤ a) (h1 : a ≤ 1048576) : laws_szInt64S.f r a = if a - (r.length : Int) < 0 then some (-1) else some (a - (r.length : Int)) := by
  unfold laws_szInt64S.f
  unfold maxLen at hr
  rw [w64_idV (x := a - (r.length : Int)) (by omega) (by omega)]
theorem szSS_loop {l : List (List Int)} (hn : l.length ≤ 1048576) (hr : ∀ r ∈ l, r.length ≤ maxLen) (d : Nat) : ∀ (k i : Nat) (a : Int), l.length - i = d → i ≤ l.length → d < k → 0 ≤ a → a ≤ 1048576 →
    ∃ z, laws_szInt64SS.l0 k l a i = some z ∧ z ≤ a ∧ (z < 0 ∨ ∀ j, i ≤ j → j < l.length → ((l.getD j []).length : Int) ≤ a) := by
  induction d with
  | zero =>
    intro k i a hd hi hk h0 h1
    obtain ⟨k, rfl⟩ : ∃ m, k = m + 1 := ⟨k - 1, by omega⟩
    simp only [laws_szInt64SS.l0]
    rw [if_neg (by omega)]
    exact ⟨a, rfl, Int.le_refl _, .inr (fun j hj hj2 => by omega)⟩
  | succ d ih =>
    intro k i a hd hi hk h0 h1
    obtain ⟨k, rfl⟩ : ∃ m, k = m + 1 := ⟨k - 1, by omega⟩
    have hlt : i < l.length := by omega
    simp only [laws_szInt64SS.l0]
    rw [if_pos (by omega), if_pos (by omega), rdS_nat, szS_tells (hr _ (row_mem hlt)) h0 h1]
    by_cases e : a - ((l.getD i []).length : Int) < 0
    · rw [if_pos e, Option.bind_some, if_pos (by omega)]
      exact ⟨-1, rfl, by omega, .inl (by omega)⟩
    · rw [if_neg e, Option.bind_some, if_neg e, w64_succ (n := l.length) hlt (by omega)]
      obtain ⟨z, hz, hz1, hz2⟩ := ih k (i + 1) (a - ((l.getD i []).length : Int)) (by omega) (by omega) (by omega) (by omega) (by omega)
      refine ⟨z, hz, by omega, hz2.imp id (fun h j hj hj2 => ?_)⟩
      by_cases e2 : j = i
      · rw [e2]; omega
      · have := h j (by omega) hj2; omega
/-- A budget: what is left of it, or a number below 0. -/
theorem szSS_tells {l : List (List Int)} (hl : l.length ≤ maxLen) (hr : ∀ r ∈ l, r.length ≤ maxLen) {a : Int} (h0 : 0 ≤ a) (h1 : a ≤ 1048576) {k : Nat} (hk : 1048577 ≤ k) :
    ∃ z, laws_szInt64SS.f k l a = some z ∧ z ≤ a ∧ (z < 0 ∨ ((l.length : Int) ≤ a ∧ ∀ r ∈ l, (r.length : Int) ≤ a)) := by
  unfold laws_szInt64SS.f
  unfold maxLen at hl
  rw [w64_idV (x := a - (l.length : Int)) (by omega) (by omega)]
  by_cases e : a - (l.length : Int) < 0
  · rw [if_pos e]; exact ⟨-1, rfl, by omega, .inl (by omega)⟩
  · rw [if_neg e]
    obtain ⟨z, hz, hz1, hz2⟩ := szSS_loop (l := l) (by omega) hr l.length k 0 (a - (l.length : Int)) (by omega) (by omega) (by omega) (by omega) (by omega)
    refine ⟨z, hz, by omega, hz2.imp id (fun h => ⟨by omega, fun r hm => ?_⟩)⟩
    obtain ⟨j, hj, rfl⟩ := List.mem_iff_getElem.mp hm
    have := h j (by omega) hj
    rw [getD_at hj] at this
    omega
theorem toSS_loop {l : List (List Int)} (hn : l.length ≤ 1048576) (hr : ∀ r ∈ l, r.length ≤ 1048576) (d : Nat) : ∀ (k i : Nat) (acc : List (List Int)), l.length - i = d → i ≤ l.length → d + 1048577 < k → acc.length = l.length → (∀ j, j < i → acc.getD j [] = l.getD j []) →
    laws_toInt64SS.l0 k l acc i = some l := by
  induction d with
  | zero =>
    intro k i acc hd hi hk ha h
    obtain ⟨k, rfl⟩ : ∃ m, k = m + 1 := ⟨k - 1, by omega⟩
    simp only [laws_toInt64SS.l0]
    rw [if_neg (by omega), ext_rows ha (fun j hj => h j (by omega))]
  | succ d ih =>
    intro k i acc hd hi hk ha h
    obtain ⟨k, rfl⟩ : ∃ m, k = m + 1 := ⟨k - 1, by omega⟩
    have hlt : i < l.length := by omega
    have hw := hr _ (row_mem hlt)
    simp only [laws_toInt64SS.l0]
    rw [if_pos (by omega), if_pos (by omega), rdS_nat, copy_tells (l := l.getD i []) (by omega) (k := k) (by omega), Option.bind_some, if_pos (by omega), Int.toNat_natCast, w64_succ (n := l.length) hlt (by omega)]
    refine ih k (i + 1) _ (by omega) (by omega) (by omega) (by simp [ha]) (fun j hj => ?_)
    rw [set_rows _ _ _ _ (by omega)]
    by_cases e : j = i
    · rw [if_pos e, e]
    · rw [if_neg e]; exact h j (by omega)
/-- A copy of rows is what is copied. -/
theorem toSS_tells {l : List (List Int)} (hn : l.length ≤ 1048576) (hr : ∀ r ∈ l, r.length ≤ 1048576) {k : Nat} (hk : 2097154 < k) : laws_toInt64SS.f k l = some l := by
  unfold laws_toInt64SS.f
  rw [if_pos (by omega), if_pos (by omega), Int.toNat_natCast]
  exact toSS_loop hn hr l.length k 0 _ (by omega) (by omega) (by omega) (by simp) (fun j hj => by omega)
theorem eqSS_loop {a b : List (List Int)} (hn : a.length ≤ 1048576) (hr : ∀ r ∈ a, r.length ≤ 1048576) (hab : a.length = b.length) (d : Nat) : ∀ (k i : Nat), a.length - i = d → i ≤ a.length → d + 1048577 < k → (∀ j, j < i → a.getD j [] = b.getD j []) →
    laws_eqInt64SS.l0 k a b i = some (decide (a = b)) := by
  induction d with
  | zero =>
    intro k i hd hi hk h
    obtain ⟨k, rfl⟩ : ∃ m, k = m + 1 := ⟨k - 1, by omega⟩
    simp only [laws_eqInt64SS.l0]
    rw [if_neg (by omega), decide_eq_true (ext_rows hab (fun j hj => h j (by omega)))]
  | succ d ih =>
    intro k i hd hi hk h
    obtain ⟨k, rfl⟩ : ∃ m, k = m + 1 := ⟨k - 1, by omega⟩
    have hlt : i < a.length := by omega
    have hw := hr _ (row_mem hlt)
    simp only [laws_eqInt64SS.l0]
    rw [if_pos (by omega), if_pos (by omega), if_pos (by omega), rdS_nat, rdS_nat, eq_tells (a := a.getD i []) (by omega) (k := k) (by omega), Option.bind_some, w64_succ (n := a.length) hlt (by omega)]
    by_cases e : a.getD i [] = b.getD i []
    · rw [decide_eq_true e, if_pos rfl]
      refine ih k (i + 1) (by omega) (by omega) (by omega) (fun j hj => ?_)
      by_cases e2 : j = i
      · rw [e2]; exact e
      · exact h j (by omega)
    · rw [decide_eq_false e, if_neg (by simp), decide_eq_false (fun h => e (by rw [h]))]
/-- Rows are compared. -/
theorem eqSS_tells {a b : List (List Int)} (hn : a.length ≤ 1048576) (hr : ∀ r ∈ a, r.length ≤ 1048576) {k : Nat} (hk : 2097154 < k) : laws_eqInt64SS.f k a b = some (decide (a = b)) := by
  unfold laws_eqInt64SS.f
  by_cases h : a.length = b.length
  · rw [if_pos (by omega)]
    exact eqSS_loop hn hr h a.length k 0 (by omega) (by omega) (by omega) (fun j hj => by omega)
  · rw [if_neg (by omega), decide_eq_false (fun e => h (by rw [e]))]
end Go.Proofs.Ytnaheloeodmnpaa.F
