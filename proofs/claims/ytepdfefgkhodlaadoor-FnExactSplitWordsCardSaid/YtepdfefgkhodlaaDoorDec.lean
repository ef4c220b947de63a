import Derived.Test.YtepdfefgkhodlaaDoorFx1
import Derived.Test.YtepdfefgkhodlaaDoorFx3
import Derived.Test.YtepdfefgkhodlaaDoorDig
import Derived.Test.YtepdfefgkhodlaaDoorVecS
import Derived.KernelRfl
set_option linter.unusedVariables false
set_option linter.unusedSimpArgs false
set_option linter.unusedSectionVars false
namespace Go.Proofs.YtepdfefgkhodlaaDoor.F
open Go.RowKit Go.Proofs.YtepdfefgkhodlaaDoorW.PrintWords Go.Proofs.YtepdfefgkhodlaaDoorW.PrintLast Go.Proofs.YtepdfefgkhodlaaDoor.Lin

open Go.Lib
/-- Digits as numbers, the last ahead. -/
def revDig (u : Nat) : List Int := (decDigits u).reverse.map (fun b => (b.toNat : Int))
theorem revDig_small {u : Nat} (h : u < 10) : revDig u = [(48 : Int) + u] := by
  unfold revDig
  rw [decDigits, dif_pos h]
  simp only [List.reverse_cons, List.reverse_nil, List.nil_append, List.map_cons, List.map_nil]
  rw [ofNat_dig h]; simp
theorem revDig_big {u : Nat} (h : ¬ u < 10) : revDig u = ((48 : Int) + (u % 10 : Nat)) :: revDig (u / 10) := by
  unfold revDig
  rw [decDigits, dif_neg h]
  simp only [List.reverse_append, List.reverse_cons, List.reverse_nil, List.nil_append, List.singleton_append, List.map_cons]
  rw [ofNat_dig (by omega)]; simp
theorem dec_loop (x0 : Int) (K : Nat) (r : ByteArray) : ∀ (j : Nat) (m : Int) (acc : List Int) (k : Nat), m.natAbs < 10 ^ j → m ≠ 0 → -9223372036854775808 ≤ m → m ≤ 9223372036854775807 → K + j ≤ k → acc.length + j ≤ 100 →
    (∀ k', K ≤ k' → spec_l01Dec.l0 k' x0 (acc ++ revDig m.natAbs) 0 = some r) → spec_l01Dec.l0 k x0 acc m = some r := by
  intro j
  induction j with
  | zero => intro m acc k h hm; exfalso; rw [Nat.pow_zero] at h; omega
  | succ j ih =>
    intro m acc k h hm h0 h1 hk ha H
    obtain ⟨k, rfl⟩ : ∃ q, k = q + 1 := ⟨k - 1, by omega⟩
    rw [Nat.pow_succ] at h
    simp only [spec_l01Dec.l0]
    rw [if_neg hm]
    obtain ⟨d, hd⟩ : ∃ d : Nat, d = m.natAbs % 10 := ⟨_, rfl⟩
    have hd10 : d < 10 := by omega
    have hlen : acc.length < 140737488355328 := by omega
    have hq : (Int.tdiv m 10).natAbs = m.natAbs / 10 := Int.natAbs_tdiv m 10
    have hqr : -9223372036854775808 ≤ Int.tdiv m 10 ∧ Int.tdiv m 10 ≤ 9223372036854775807 := by
      have : (Int.tdiv m 10).natAbs ≤ 922337203685477581 := by rw [hq]; omega
      omega
    have next : spec_l01Dec.l0 k x0 (acc ++ [(48 : Int) + d]) (Int.tdiv m 10) = some r := by
      by_cases hs : m.natAbs < 10
      · have hz : Int.tdiv m 10 = 0 := by have : m.natAbs / 10 = 0 := by omega
                                          omega
        rw [hz]
        have := H k (by omega)
        rw [revDig_small hs] at this
        rw [show d = m.natAbs by omega]
        exact this
      · refine ih _ _ k (by rw [hq]; omega) (by omega) hqr.1 hqr.2 (by omega) (by simp; omega) (fun k' hk' => ?_)
        have := H k' hk'
        rw [revDig_big hs] at this
        rw [hq, List.append_assoc, hd]
        exact this
    rw [w64_idV hqr.1 hqr.2]
    by_cases hneg : m < 0
    · obtain ⟨u, rfl⟩ : ∃ u : Nat, m = -(u : Int) := ⟨m.natAbs, by omega⟩
      have e1 : Int.tmod (-(u : Int)) 10 = -((u % 10 : Nat) : Int) := by rw [Int.neg_tmod]; rfl
      have e2 : d = u % 10 := by rw [hd]; simp
      rw [e1, ← e2]
      by_cases hz : -(d : Int) < 0
      · rw [if_pos hz, if_pos hlen, w64_idV (x := -(-(d : Int))) (by omega) (by omega), Int.neg_neg, w64_idV (x := 48 + (d : Int)) (by omega) (by omega), Int.emod_eq_of_lt (by omega) (by omega)]
        exact next
      · rw [if_neg hz, if_pos hlen, show -(d : Int) = (d : Int) by omega, w64_idV (x := 48 + (d : Int)) (by omega) (by omega), Int.emod_eq_of_lt (by omega) (by omega)]
        exact next
    · obtain ⟨u, rfl⟩ := Int.eq_ofNat_of_zero_le (show 0 ≤ m by omega)
      have e1 : Int.tmod (u : Int) 10 = ((u % 10 : Nat) : Int) := rfl
      have e2 : d = u % 10 := by rw [hd]; simp
      rw [e1, ← e2, if_neg (by omega), if_pos hlen, w64_idV (x := 48 + (d : Int)) (by omega) (by omega), Int.emod_eq_of_lt (by omega) (by omega)]
      exact next
theorem rev_loop (l : List Int) (hl : l.length ≤ 100) : ∀ (i k : Nat), i ≤ l.length → i < k → spec_l01Dec.l1 k l (l.drop i).reverse ((i : Int) - 1) = some (strOfNums l.reverse) := by
  intro i
  induction i with
  | zero =>
    intro k _ hk
    obtain ⟨k, rfl⟩ : ∃ q, k = q + 1 := ⟨k - 1, by omega⟩
    simp only [spec_l01Dec.l1]
    rw [if_neg (by omega)]; rfl
  | succ i ih =>
    intro k hi hk
    obtain ⟨k, rfl⟩ : ∃ q, k = q + 1 := ⟨k - 1, by omega⟩
    have e : ((i + 1 : Nat) : Int) - 1 = (i : Int) := by omega
    simp only [spec_l01Dec.l1, e]
    rw [if_pos (by omega), if_pos (by omega), if_pos (by omega), if_pos (by rw [List.length_reverse, List.length_drop]; omega), w64_idV (x := (i : Int) - 1) (by omega) (by omega), rd_nat, getD_at (show i < l.length by omega)]
    have e2 : (l.drop (i + 1)).reverse ++ [l[i]'(by omega)] = (l.drop i).reverse := by
      rw [List.drop_eq_getElem_cons (show i < l.length by omega), List.reverse_cons]
    rw [e2]
    exact ih k (by omega) (by omega)
theorem str_dig (l : List UInt8) : strOfNums (l.map (fun b => (b.toNat : Int))) = ⟨l.toArray⟩ := by
  unfold strOfNums
  congr 2
  rw [List.map_map]
  conv => rhs; rw [← List.map_id l]
  refine List.map_congr_left (fun b _ => ?_)
  simp
theorem revDig_length (u : Nat) (h : u < 10 ^ 20) : (revDig u).length ≤ 20 := by
  have nd : ∀ k u, u < 10 ^ (k + 1) → (decDigits u).length ≤ k + 1 := fun k => by
    induction k with
    | zero => intro u hu; rw [decDigits, dif_pos (by simpa using hu)]; simp
    | succ k ih =>
      intro u hu
      rw [decDigits]
      split
      · simp
      · rw [List.length_append]
        have := ih (u / 10) (by rw [Nat.pow_succ] at hu; omega)
        simp; omega
  unfold revDig
  rw [List.length_map, List.length_reverse]
  exact nd 19 u h
theorem l01Dec_tells {n : Int} (h0 : -9223372036854775808 ≤ n) (h1 : n ≤ 9223372036854775807) {k : Nat} (hk : 200 ≤ k) : spec_l01Dec.f k n = some ⟨(itoa n).toArray⟩ := by
  unfold spec_l01Dec.f
  by_cases hz : n = 0
  · rw [if_pos hz, hz]
    unfold itoa
    rw [if_neg (by omega), decDigits, dif_pos (by decide)]
    rfl
  · rw [if_neg hz]
    have hu : n.natAbs < 10 ^ 20 := Nat.lt_of_lt_of_le (show n.natAbs < 10000000000000000000 by omega) (by decide)
    have hlen := revDig_length n.natAbs hu
    have er : (revDig n.natAbs).reverse = (decDigits n.natAbs).map (fun b => (b.toNat : Int)) := by unfold revDig; rw [← List.map_reverse, List.reverse_reverse]
    have rl : ∀ (l : List Int) (k : Nat), l.length ≤ 50 → 60 ≤ k → spec_l01Dec.j1 k l = some (strOfNums l.reverse) := fun l k hl hk => by
      obtain ⟨k, rfl⟩ : ∃ q, k = q + 1 := ⟨k - 1, by omega⟩
      simp only [spec_l01Dec.j1]
      rw [w64_idV (x := (l.length : Int) - 1) (by omega) (by omega)]
      have := rev_loop l (by omega) l.length k (Nat.le_refl _) (by omega)
      rw [List.drop_length] at this
      exact this
    refine dec_loop n 100 _ 20 n [] k hu hz h0 h1 (by omega) (by simp) (fun k' hk' => ?_)
    obtain ⟨k', rfl⟩ : ∃ q, k' = q + 1 := ⟨k' - 1, by omega⟩
    simp only [spec_l01Dec.l0, List.nil_append]
    rw [if_pos trivial]
    by_cases hneg : n < 0
    · rw [if_pos hneg, if_pos (by omega), rl _ k' (by simp; omega) (by omega), List.reverse_append, er]
      unfold itoa
      rw [if_pos hneg]
      exact congrArg some (str_dig (45 :: decDigits n.natAbs))
    · rw [if_neg hneg, rl _ k' (by omega) (by omega), er, str_dig]
      unfold itoa
      rw [if_neg hneg, show n.natAbs = n.toNat by omega]
theorem decimal_tells {n : Int} (h0 : -9223372036854775808 ≤ n) (h1 : n ≤ 9223372036854775807) : impl_Decimal.f n = some ⟨(itoa n).toArray⟩ := by
  unfold impl_Decimal.f
  rw [if_pos ⟨h0, h1⟩]
theorem wf_bounds {x : Int} (h : (Lit.int .i64 x).wf = true) : -9223372036854775808 ≤ x ∧ x ≤ 9223372036854775807 := by
  have e1 : IntKind.i64.min = -9223372036854775808 := rfl
  have e2 : IntKind.i64.max = 9223372036854775807 := rfl
  simp [Lit.wf, e1, e2] at h
  omega
end Go.Proofs.YtepdfefgkhodlaaDoor.F
