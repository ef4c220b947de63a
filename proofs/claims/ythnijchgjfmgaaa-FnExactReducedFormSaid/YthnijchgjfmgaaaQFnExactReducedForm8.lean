-- Texts of this claim, merged by pack.py (a program of this session's).
import Derived.Test.YthnijchgjfmgaaaQFnExactReducedForm4
import Derived.Test.YthnijchgjfmgaaaQFnExactReducedForm7
import Derived.KernelRfl
import Derived.Test.YthnijchgjfmgaaaQFnExactReducedForm0
import Derived.Test.YthnijchgjfmgaaaQFnExactReducedForm1
import Derived.Test.YthnijchgjfmgaaaQFnExactReducedForm3
import Derived.Test.YthnijchgjfmgaaaQFnExactReducedForm2
import Derived.Test.YthnijchgjfmgaaaQFnExactReducedForm5
import Derived.Test.YthnijchgjfmgaaaQFnExactReducedForm6
import Derived.Test.YthnijchgjfmgaaaRows
import Derived.WalkKit
import Derived.ProofKit
import Derived.OpenShut
import Derived.ShutString
import Derived.ChangeOld
import Derived.Below
import Derived.SizedLaws
import Derived.Lib.SmallJoins
import Derived.Test.YthnijchgjfmgaaaWSized

section
set_option linter.unusedVariables false
set_option linter.unusedSimpArgs false
set_option linter.unusedSectionVars false
namespace Go.Proofs.Ythnijchgjfmgaaa.F
open Go.RowKit Go.Proofs.YthnijchgjfmgaaaW.PrintWords Go.Proofs.YthnijchgjfmgaaaW.PrintLast Go.Proofs.Ythnijchgjfmgaaa.Lin

theorem mul_smallV {p x y : Int} (hp : 2 ≤ p) (hp' : p ≤ 251) (hx : 0 ≤ x) (hx' : x ≤ 251) (hy : 0 ≤ y) (hy' : y < p) : 0 ≤ x * y ∧ x * y ≤ 63001 := by
  have g1 := Int.mul_nonneg hx hy
  have g2 : x * y ≤ 251 * 251 := Int.mul_le_mul hx' (by omega) hy (by omega)
  omega
theorem take_snocV {l : List Int} {i : Nat} (h : i < l.length) : l.take i ++ [l.getD i 0] = l.take (i + 1) := by
  rw [List.take_succ_eq_append_getElem h, getD_at h]
theorem addV_loop {a b : List Int} {c p : Int} (hp : 2 ≤ p) (hp' : p ≤ 251) (hl : a.length = b.length) (hn : a.length ≤ 17592186044416) (ha : ∀ j, 0 ≤ a.getD j 0 ∧ a.getD j 0 < p) (hb : ∀ j, 0 ≤ b.getD j 0 ∧ b.getD j 0 < p) (hc : 0 ≤ c) (hc' : c ≤ 251) (d : Nat) :
    ∀ (k i : Nat), a.length - i = d → i ≤ a.length → d < k → impl_addTimes.l0 k a b c p ((addRow p a b c).take i) a.length i = some (addRow p a b c) := by
  have hz : (addRow p a b c).length = a.length := by unfold addRow; simp [hl]
  induction d with
  | zero =>
    intro k i hd hi hk
    obtain ⟨k, rfl⟩ : ∃ m, k = m + 1 := ⟨k - 1, by omega⟩
    simp only [impl_addTimes.l0]
    have hf : ¬ (i : Int) < (a.length : Int) := by omega
    simp only [hf, if_false]
    rw [List.take_of_length_le (by omega)]
  | succ d ih =>
    intro k i hd hi hk
    obtain ⟨k, rfl⟩ : ∃ m, k = m + 1 := ⟨k - 1, by omega⟩
    simp only [impl_addTimes.l0]
    have h1 : (i : Int) < (a.length : Int) := by omega
    have h2 : (i : Int) < (b.length : Int) := by omega
    have h0 : (0 : Int) ≤ (i : Int) := by omega
    have hp0 : ¬ p = 0 := by omega
    have hlt : ((addRow p a b c).take i).length < 17592186044416 := by rw [List.length_take]; omega
    have hm := mul_smallV hp hp' hc hc' (hb i).1 (hb i).2
    have e : Int.tmod (wrap64 (rd a i + wrap64 (c * rd b i))) p = (addRow p a b c).getD i 0 := by
      have := ha i
      rw [rd_nat, rd_nat, w64_idV (x := c * b.getD i 0) (by omega) (by omega), w64_idV (x := a.getD i 0 + c * b.getD i 0) (by omega) (by omega), Int.tmod_eq_emod_of_nonneg (by omega), addRow_getD (by omega) (by omega)]
    simp only [h0, h1, h2, hp0, if_true, if_false, hlt]
    rw [e, w64_succ (n := a.length) (by omega) (by omega), take_snocV (by omega)]
    exact ih k (i + 1) (by omega) (by omega) (by omega)
theorem addV_tells {a b : List Int} {c p : Int} (hp : 2 ≤ p) (hp' : p ≤ 251) (hl : a.length = b.length) (hn : a.length ≤ 17592186044416) (ha : ∀ j, 0 ≤ a.getD j 0 ∧ a.getD j 0 < p) (hb : ∀ j, 0 ≤ b.getD j 0 ∧ b.getD j 0 < p) (hc : 0 ≤ c) (hc' : c ≤ 251) {k : Nat} (hk : a.length < k) :
    impl_addTimes.f k a b c p = some (addRow p a b c) := by
  unfold impl_addTimes.f
  exact addV_loop hp hp' hl hn ha hb hc hc' a.length k 0 (by omega) (by omega) hk

/-- The call over the rows: as the printed text's. -/
def firstRow (rs : List (List Int)) (t c : Int) : Option Int :=
  if 0 ≤ t then (if t ≤ (rs.length : Int) then (if 0 ≤ c then (if ((rs.drop t.toNat).all fun l => decide (c < (l.length : Int))) = true then some (idxOf (cellAt c) (rs.drop t.toNat)) else none) else none) else none) else none
theorem cellAt_nat (c : Nat) : cellAt (c : Int) = fun r => decide (r.getD c 0 ≠ 0) := by
  funext r; unfold cellAt; rw [rd_nat]
theorem firstRow_tells {n : Nat} {rs : List (List Int)} (h : ∀ r, r ∈ rs → r.length = n) {t c : Nat} (ht : t ≤ rs.length) (hc : c < n) :
    firstRow rs t c = some (match findPivot rs t c with | some k => (k : Int) | none => -1) := by
  unfold firstRow
  rw [if_pos (by omega), if_pos (by omega), if_pos (by omega), if_pos, Int.toNat_natCast]
  · unfold idxOf findPivot; rw [cellAt_nat]; rfl
  · rw [Int.toNat_natCast]
    exact List.all_eq_true.mpr (fun r hr => decide_eq_true (by rw [h r (List.mem_of_mem_drop hr)]; omega))
theorem rdL_nat (l : List (List Int)) (i : Nat) : rd_L1 l (i : Int) = l.getD i [] := by unfold rd_L1; rw [Int.toNat_natCast]
/-- The first i rows are cleared. -/
def clr (p : Int) (c top : Nat) (q : List Int) (i : Nat) (R : List (List Int)) : List (List Int) := R.mapIdx (fun j r => if j < i ∧ j ≠ top then clearRow p c q r else r)
theorem clr_length (p : Int) (c top : Nat) (q : List Int) (i : Nat) (R : List (List Int)) : (clr p c top q i R).length = R.length := by unfold clr; simp
theorem clr_zero (p : Int) (c top : Nat) (q : List Int) (R : List (List Int)) : clr p c top q 0 R = R := by
  apply List.ext_getElem? ; intro j
  unfold clr
  rw [List.getElem?_mapIdx]
  cases R[j]? <;> simp
theorem clr_all (p : Int) (c top : Nat) (q : List Int) (R : List (List Int)) : clr p c top q R.length R = clearAll p c top q R := by
  apply List.ext_getElem? ; intro j
  unfold clr clearAll
  rw [List.getElem?_mapIdx, List.getElem?_mapIdx]
  by_cases hj : j < R.length
  · by_cases e : j = top
    · simp [e]
    · simp [e, hj]
  · rw [List.getElem?_eq_none (by omega)]; rfl
theorem clr_get (p : Int) (c top : Nat) (q : List Int) (i : Nat) (R : List (List Int)) {j : Nat} (hj : j < R.length) :
    (clr p c top q i R).getD j [] = if j < i ∧ j ≠ top then clearRow p c q (R.getD j []) else R.getD j [] := by
  unfold clr
  rw [List.getD_eq_getElem?_getD, List.getElem?_mapIdx, List.getD_eq_getElem?_getD, List.getElem?_eq_getElem hj]
  rfl
theorem clr_step (p : Int) (c top : Nat) (q : List Int) (i : Nat) (R : List (List Int)) (hi : i < R.length) :
    clr p c top q (i + 1) R = if i = top then clr p c top q i R else (clr p c top q i R).set i (clearRow p c q (R.getD i [])) := by
  by_cases e : i = top
  · rw [if_pos e]
    apply List.ext_getElem? ; intro j
    unfold clr
    rw [List.getElem?_mapIdx, List.getElem?_mapIdx]
    by_cases e2 : j = top
    · simp [e2]
    · have : (j < i + 1) = (j < i) := by apply propext; omega
      simp [e2, this]
  · rw [if_neg e]
    apply List.ext_getElem? ; intro j
    rw [List.getElem?_set]
    unfold clr
    rw [List.getElem?_mapIdx, List.getElem?_mapIdx]
    by_cases e2 : i = j
    · subst e2
      rw [if_pos rfl, if_pos (by rw [List.length_mapIdx]; exact hi), List.getElem?_eq_getElem hi, List.getD_eq_getElem?_getD, List.getElem?_eq_getElem hi]
      simp [e]
    · have : (j < i + 1) = (j < i) := by apply propext; omega
      rw [if_neg e2]
      simp only [this]
theorem range_of {p : Int} {r : List Int} {n : Nat} (hp : 2 ≤ p) (h : RowOk p n r) (j : Nat) : 0 ≤ r.getD j 0 ∧ r.getD j 0 < p := by
  by_cases hj : j < r.length
  · rw [List.getD_eq_getElem?_getD, List.getElem?_eq_getElem hj]; exact h.2 _ (List.getElem_mem hj)
  · rw [List.getD_eq_getElem?_getD, List.getElem?_eq_none (by omega)]; simp; omega
theorem rowOk_at {p : Int} {R : List (List Int)} {n i : Nat} (h : RowsOk p n R) (hi : i < R.length) : RowOk p n (R.getD i []) := h _ (getD_mem hi)
theorem elim_inner {p : Int} (hp : isP p = true) {n : Nat} {R : List (List Int)} (hok : RowsOk p n R) {top c : Nat} (ht : top < R.length) (hc : c < n) (hm : R.length ≤ 64) (hn : n ≤ 70) (piv : List Int) (hpv : piv.length ≤ 100) (det : Int) (d : Nat) :
    ∀ k i, R.length - i = d → i ≤ R.length → d + 100 < k → ∃ k', k = k' + d + 1 ∧
      impl_eliminate.l1 k n p piv det top n c R.length i (clr p c top (R.getD top []) i R) c = impl_eliminate.l0 k' n p (piv ++ [(c : Int)]) det n ((c + 1 : Nat) : Int) (clearAll p c top (R.getD top []) R) := by
  have h2 := isP_ge hp
  induction d with
  | zero =>
    intro k i hd hi hk
    obtain ⟨k, rfl⟩ : ∃ m, k = m + 1 := ⟨k - 1, by omega⟩
    obtain rfl : i = R.length := by omega
    refine ⟨k, by omega, ?_⟩
    simp only [impl_eliminate.l1]
    rw [if_neg (by omega), if_pos (by omega), clr_all, w64_succ (n := 70) (by omega) (by omega)]
  | succ d ih =>
    intro k i hd hi hk
    obtain ⟨k, rfl⟩ : ∃ m, k = m + 1 := ⟨k - 1, by omega⟩
    obtain ⟨k', e', ih⟩ := ih k (i + 1) (by omega) (by omega) (by omega)
    refine ⟨k', by omega, ?_⟩
    have hiR : i < R.length := by omega
    rw [← ih]
    have hs := clr_step p c top (R.getD top []) i R hiR
    have gi : (clr p c top (R.getD top []) i R).getD i [] = R.getD i [] := by rw [clr_get _ _ _ _ _ _ hiR, if_neg (by omega)]
    have gt : (clr p c top (R.getD top []) i R).getD top [] = R.getD top [] := by rw [clr_get _ _ _ _ _ _ ht, if_neg (by omega)]
    have okI := rowOk_at hok hiR
    have okT := rowOk_at hok ht
    have hl := clr_length p c top (R.getD top []) i R
    generalize clr p c top (R.getD top []) i R = C at hs gi gt hl ⊢
    simp only [impl_eliminate.l1]
    rw [if_pos (by omega), if_pos (by omega), if_pos (by omega), w64_succ (n := 64) (i := i) (by omega) (by omega)]
    by_cases e : i = top
    · rw [if_pos (by omega), hs, if_pos e]
    · rw [if_neg (by omega), if_pos (by omega), rdL_nat, gi, if_pos (by rw [okI.1]; omega), rd_nat]
      by_cases ez : (R.getD i []).getD c 0 = 0
      · rw [if_pos ez, hs, if_neg e]
        have : C.set i (clearRow p c (R.getD top []) (R.getD i [])) = C := by
          unfold clearRow
          rw [if_pos ez]
          apply List.ext_getElem? ; intro j
          rw [List.getElem?_set]
          by_cases ej : i = j
          · subst ej
            rw [if_pos rfl, if_pos (by omega), ← gi, List.getD_eq_getElem?_getD, List.getElem?_eq_getElem (show i < C.length by omega)]; rfl
          · rw [if_neg ej]
        rw [this]
      · have rI := range_of h2.1 okI
        have rT := range_of h2.1 okT
        have rc := rI c
        rw [if_neg ez, if_pos (by omega), if_pos (by omega), rdL_nat, gt, w64_idV (x := p - (R.getD i []).getD c 0) (by omega) (by omega),
          addV_tells h2.1 h2.2 (by rw [okI.1, okT.1]) (by rw [okI.1]; omega) rI rT (by omega) (by omega) (by rw [okI.1]; omega), Option.bind_some, Int.toNat_natCast, hs, if_neg e]
        unfold clearRow
        rw [if_neg ez]
theorem reduce_small {p x : Int} (hp : 2 ≤ p) (hp' : p ≤ 251) (hx : -1000000 ≤ x) (hx' : x ≤ 1000000) : impl_reduce.f x p = some (x % p) := by
  unfold impl_reduce.f
  rw [if_neg (by omega)]
  have h1 : -p < Int.tmod x p := Int.lt_tmod_of_pos _ (by omega)
  have h2 : Int.tmod x p < p := Int.tmod_lt_of_pos _ (by omega)
  rw [w64_idV (x := Int.tmod x p + p) (by omega) (by omega), Int.tmod_eq_emod_of_nonneg (by omega), Int.add_emod_right]
  congr 1
  have h := Int.mul_tdiv_add_tmod x p
  have : x = Int.tmod x p + p * (Int.tdiv x p) := by omega
  conv => rhs; rw [this]
  rw [Int.add_mul_emod_self_left]
theorem addRow_zeros {p : Int} (n : Nat) (r : List Int) (hr : r.length = n) (c : Int) : addRow p (List.replicate n 0) r c = r.map (fun x => c * x % p) := by
  refine ext_getD (by unfold addRow; simp [hr]) (fun j hj => ?_)
  have hj' : j < n := by unfold addRow at hj; simp [hr] at hj; omega
  rw [addRow_getD (by simp; omega) (by omega)]
  have e0 : (List.replicate n (0 : Int)).getD j 0 = 0 := by simp [List.getD_eq_getElem?_getD, List.getElem?_replicate, hj']
  rw [e0, Int.zero_add]
  simp [List.getD_eq_getElem?_getD, List.getElem?_map, List.getElem?_eq_getElem (show j < r.length by omega)]
/-- A pivot is there: the row is scaled and the others are cleared. -/
theorem elim_j1 {p : Int} (hp : isP p = true) {n : Nat} {R : List (List Int)} (hok : RowsOk p n R) {top c : Nat} (ht : top < R.length) (hc : c < n) (hm : R.length ≤ 64) (hn : n ≤ 70) (piv : List Int) (hpv : piv.length ≤ 100) {det : Int} (hd : 0 ≤ det) (hd' : det < p) {k : Nat} (hk : R.length + 200 < k) :
    ∃ k', k = k' + R.length + 2 ∧ impl_eliminate.j1 k n p piv det top n c R c =
      impl_eliminate.l0 k' n p (piv ++ [(c : Int)]) (det * cell R top c % p) n ((c + 1 : Nat) : Int) (clearAll p c top ((R.getD top []).map (fun x => pinv p (cell R top c) * x % p)) (R.set top ((R.getD top []).map (fun x => pinv p (cell R top c) * x % p)))) := by
  have h2 := isP_ge hp
  have okT := rowOk_at hok ht
  have rT := range_of h2.1 okT
  have rc := rT c
  obtain ⟨k, rfl⟩ : ∃ m, k = m + 1 := ⟨k - 1, by omega⟩
  have hcell : cell R top c = (R.getD top []).getD c 0 := rfl
  have hq : RowOk p n ((R.getD top []).map (fun x => pinv p (cell R top c) * x % p)) := scale_ok _ (by omega) okT.1
  have hokS := RowsOk.set hok hq top
  obtain ⟨k', e', hin⟩ := elim_inner hp hokS (top := top) (c := c) (by simp; omega) hc (by simp; omega) hn piv hpv (det * cell R top c % p) (R.set top ((R.getD top []).map (fun x => pinv p (cell R top c) * x % p))).length k 0 (by omega) (by omega) (by simp; omega)
  rw [clr_zero, getD_set _ _ _ _ ht, if_pos rfl] at hin
  simp only [List.length_set] at e' hin
  refine ⟨k', by omega, ?_⟩
  rw [← hin]
  have hpi := pinv_range (p := p) (a := cell R top c) hp
  simp only [impl_eliminate.j1]
  rw [if_pos (by omega), if_pos (by omega), if_pos (by omega), rdL_nat, if_pos (by rw [okT.1]; omega), if_neg (by omega), if_pos (by omega), if_pos (by rw [Int.toNat_natCast]; omega), rd_nat,
    inverse_tells hp rc.1 rc.2 (by omega), Option.bind_some, Int.toNat_natCast]
  rw [addV_tells h2.1 h2.2 (by rw [okT.1]; simp) (by simp; omega) (fun j => by
      have : (List.replicate n (0 : Int)).getD j 0 = 0 := by
        rw [List.getD_eq_getElem?_getD, List.getElem?_replicate]; split <;> rfl
      rw [this]; omega) rT (by rw [← hcell]; omega) (by rw [← hcell]; omega) (by simp; omega), Option.bind_some, addRow_zeros n _ okT.1, Int.toNat_natCast]
  have hsm := mul_smallV h2.1 h2.2 hd (by omega) rc.1 rc.2
  rw [w64_idV (x := det * (R.getD top []).getD c 0) (by omega) (by omega), Int.tmod_eq_emod_of_nonneg hsm.1, ← hcell]
  rfl
/-- THE ELIMINATION IN THE PROGRAM. -/
theorem elim_loop {p : Int} (hp : isP p = true) {n : Nat} {rs : List (List Int)} (hm : rs.length ≤ 64) (hn : n ≤ 70) (hok : RowsOk p n rs) (d : Nat) :
    ∀ k c, n - c = d → c ≤ n → d * (rs.length + 4) + 300 < k →
      impl_eliminate.l0 k n p (elimTo p rs c).2.1 (elimTo p rs c).2.2 n c (elimTo p rs c).1 = some ((elim p n rs).2.1, (elim p n rs).2.2, (elim p n rs).1) := by
  have h2 := isP_ge hp
  induction d with
  | zero =>
    intro k c hd hc hk
    obtain ⟨k, rfl⟩ : ∃ m, k = m + 1 := ⟨k - 1, by omega⟩
    obtain rfl : c = n := by omega
    simp only [impl_eliminate.l0]
    rw [if_neg (by omega)]
    rfl
  | succ d ih =>
    intro k c hd hc hk
    obtain ⟨k, rfl⟩ : ∃ m, k = m + 1 := ⟨k - 1, by omega⟩
    have hcn : c < n := by omega
    have hmul : (d + 1) * (rs.length + 4) = d * (rs.length + 4) + (rs.length + 4) := by rw [Nat.add_mul, Nat.one_mul]
    have ih2 : ∀ k', d * (rs.length + 4) + 300 < k' → impl_eliminate.l0 k' n p (elimTo p rs (c + 1)).2.1 (elimTo p rs (c + 1)).2.2 n ((c + 1 : Nat) : Int) (elimTo p rs (c + 1)).1 = _ := fun k' hk' => ih k' (c + 1) (by omega) (by omega) hk'
    obtain ⟨t1, t2, t7, hle, t6, t8⟩ := elimTo_small hp hok c hc
    rw [elimTo_succ] at ih2
    generalize elimTo p rs c = s at *
    obtain ⟨R, piv, det⟩ := s
    dsimp only at *
    have hf := firstRow_tells (fun x hx => (t1 x hx).1) (t := piv.length) (c := c) (rs := R) (by omega) hcn
    simp only [impl_eliminate.l0]
    rw [if_pos (by omega)]
    show Option.bind (firstRow R (piv.length : Int) (c : Int)) _ = _
    rw [hf, Option.bind_some]
    cases hp1 : findPivot R piv.length c with
    | none =>
      rw [elimStep_none hp1] at ih2
      dsimp only at ih2 ⊢
      rw [if_pos (by omega), w64_succ (n := 70) (by omega) (by omega)]
      exact ih2 k (by omega)
    | some q =>
      obtain ⟨b1, b2⟩ := findPivot_some hp1
      have hst : elimStep p (R, piv, det) c = (clearAll p c piv.length (((if q = 0 then R else swapRows R piv.length (piv.length + q)).getD piv.length []).map (fun x => pinv p (cell (if q = 0 then R else swapRows R piv.length (piv.length + q)) piv.length c) * x % p)) ((if q = 0 then R else swapRows R piv.length (piv.length + q)).set piv.length (((if q = 0 then R else swapRows R piv.length (piv.length + q)).getD piv.length []).map (fun x => pinv p (cell (if q = 0 then R else swapRows R piv.length (piv.length + q)) piv.length c) * x % p))), piv ++ [(c : Int)], (if q = 0 then det else -det % p) * cell (if q = 0 then R else swapRows R piv.length (piv.length + q)) piv.length c % p) := by
        unfold elimStep; simp only [hp1]
      rw [hst] at ih2
      clear hst
      dsimp only at ih2 ⊢
      rw [if_neg (by omega)]
      by_cases e : q = 0
      · subst e
        simp only [if_true] at ih2
        rw [if_neg (show ¬ (((0 : Nat) : Int) > 0) by decide)]
        obtain ⟨k', ek, hj⟩ := elim_j1 hp t1 (top := piv.length) (c := c) (by omega) hcn (by omega) hn piv (by omega) t6.1 t6.2 (k := k) (by omega)
        rw [hj]
        exact ih2 k' (by omega)
      · simp only [if_neg e] at ih2
        have z1 : ((q : Nat) : Int) > 0 := by omega
        have z2 : (0 : Int) ≤ ((piv.length + q : Nat) : Int) := by omega
        have z3 : ((piv.length + q : Nat) : Int) < (R.length : Int) := by omega
        have z4 : (0 : Int) ≤ (piv.length : Int) := by omega
        have z5 : (piv.length : Int) < (R.length : Int) := by omega
        have z6 : -9223372036854775808 ≤ (piv.length : Int) + (q : Int) := by omega
        have z7 : (piv.length : Int) + (q : Int) ≤ 9223372036854775807 := by omega
        have z8 : (piv.length : Int) + (q : Int) = ((piv.length + q : Nat) : Int) := by omega
        have z9 : -9223372036854775808 ≤ -det := by omega
        have z10 : -det ≤ 9223372036854775807 := by omega
        have z11 : impl_reduce.f (-det) p = some (-det % p) := reduce_small h2.1 h2.2 (by omega) (by omega)
        rw [if_pos z1, w64_idV z6 z7, z8, if_pos z2, if_pos z3, if_pos z4, if_pos z5, w64_idV z9 z10, z11, Option.bind_some, rdL_nat, rdL_nat, Int.toNat_natCast, Int.toNat_natCast]
        have hsw : (R.set piv.length (R.getD (piv.length + q) [])).set (piv.length + q) (R.getD piv.length []) = swapRows R piv.length (piv.length + q) := rfl
        rw [hsw]
        have hl := swapRows_length R piv.length (piv.length + q)
        have hokW := RowsOk.swap t1 (a := piv.length) (b := piv.length + q) (by omega) b1
        obtain ⟨k', ek, hj⟩ := elim_j1 hp hokW (top := piv.length) (c := c) (by omega) hcn (by omega) hn piv (by omega) (det := -det % p) (Int.emod_nonneg _ (by omega)) (Int.emod_lt_of_pos _ (by omega)) (k := k) (by omega)
        rw [hj]
        exact ih2 k' (by omega)
theorem elim_tells {p : Int} (hp : isP p = true) {n : Nat} {rs : List (List Int)} (hm : rs.length ≤ 64) (hn : n ≤ 70) (hok : RowsOk p n rs) {k : Nat} (hk : 6000 ≤ k) :
    impl_eliminate.l0 k n p [] 1 n 0 rs = some ((elim p n rs).2.1, (elim p n rs).2.2, (elim p n rs).1) := by
  have h : n * (rs.length + 4) ≤ 70 * 68 := Nat.mul_le_mul hn (by omega)
  exact elim_loop hp hm hn hok n k 0 (by omega) (by omega) (by omega)

/-- All numbers of a list are numbers modulo p. -/
def allM (l : List Int) (p : Int) : Bool := l.all fun x => decide (0 ≤ x) && decide (x < p)
theorem allM_iff {l : List Int} {p : Int} : allM l p = true ↔ ∀ x, x ∈ l → 0 ≤ x ∧ x < p := by unfold allM; simp
theorem areM_tells {l : List Int} {p : Int} (hp : isP p = true) : impl_areElements.f l p = some (allM l p) := by
  have := isP_ge hp
  unfold impl_areElements.f allM
  rw [w64_id (x := p - 1) (by omega) (by omega)]
  congr 1
  induction l with
  | nil => rfl
  | cons x l ih =>
    simp only [List.any_cons, List.all_cons, Bool.not_or, Bool.not_not]
    rw [ih]
    congr 2
    rw [decide_eq_decide]; omega
theorem allM_drop {l : List Int} {p : Int} {i : Nat} (h : i < l.length) : allM (l.drop i) p = (decide (0 ≤ l.getD i 0 ∧ l.getD i 0 ≤ p - 1) && allM (l.drop (i + 1)) p) := by
  rw [List.drop_eq_getElem_cons h]
  unfold allM
  simp only [List.all_cons]
  congr 1
  rw [getD_at h, ← Bool.decide_and, decide_eq_decide]; omega
theorem getD_inM {l : List Int} {p : Int} (hp : 2 ≤ p) (h : ∀ x, x ∈ l → 0 ≤ x ∧ x < p) (j : Nat) : 0 ≤ l.getD j 0 ∧ l.getD j 0 < p := by
  by_cases hj : j < l.length
  · rw [getD_at hj]; exact h _ (List.getElem_mem hj)
  · rw [List.getD_eq_getElem?_getD, List.getElem?_eq_none (by omega)]; simp; omega
theorem column_loop {l : List Int} {n p : Int} (hp : 2 ≤ p) (hp' : p ≤ 251) (hl : l.length ≤ 35184372088832) (d : Nat) : ∀ (k i : Nat), l.length - i = d → i ≤ l.length → d < k →
    spec_l03Column.l0 k l n p i = some (allM (l.drop i) p && decide ((l.length : Int) = n)) := by
  induction d with
  | zero =>
    intro k i hd hi hk
    obtain ⟨k, rfl⟩ : ∃ m, k = m + 1 := ⟨k - 1, by omega⟩
    simp only [spec_l03Column.l0]
    rw [if_neg (by omega), show l.drop i = [] from List.drop_eq_nil_of_le (by omega)]
    simp only [allM, List.all_nil, Bool.true_and]
    congr 1
  | succ d ih =>
    intro k i hd hi hk
    obtain ⟨k, rfl⟩ : ∃ m, k = m + 1 := ⟨k - 1, by omega⟩
    simp only [spec_l03Column.l0]
    rw [if_pos (by omega), if_pos (by omega), rd_nat, w64_id (x := p - 1) (by omega) (by omega), in_tells, w64_succ (n := l.length) (by omega) hl, allM_drop (i := i) (by omega)]
    simp only [Option.bind_some]
    cases h : decide (0 ≤ l.getD i 0 ∧ l.getD i 0 ≤ p - 1) with
    | false => simp
    | true => rw [if_pos rfl, ih k (i + 1) (by omega) (by omega) (by omega)]; simp
theorem column_tells {l : List Int} {n p : Int} (hp : 2 ≤ p) (hp' : p ≤ 251) (hl : l.length ≤ 35184372088832) {k : Nat} (hk : l.length < k) : spec_l03Column.f k l n p = some (allM l p && decide ((l.length : Int) = n)) := by
  unfold spec_l03Column.f
  exact column_loop hp hp' hl l.length k 0 (by omega) (by omega) hk
/-- A matrix of numbers modulo a prime, its sides at most 32. -/
def matOk (p r c : Int) (l : List Int) : Bool := isP p && (decide (0 ≤ r ∧ r ≤ 32) && (decide (0 ≤ c ∧ c ≤ 32) && (decide ((l.length : Int) = r * c) && allM l p)))
theorem matOk_iff {p r c : Int} {l : List Int} : matOk p r c l = true ↔ isP p = true ∧ (0 ≤ r ∧ r ≤ 32) ∧ (0 ≤ c ∧ c ≤ 32) ∧ (l.length : Int) = r * c ∧ ∀ x, x ∈ l → 0 ≤ x ∧ x < p := by
  unfold matOk; simp only [Bool.and_eq_true, decide_eq_true_eq, allM_iff]
theorem side_mulI {r c : Int} (hr : 0 ≤ r ∧ r ≤ 32) (hc : 0 ≤ c ∧ c ≤ 32) : wrap64 (r * c) = r * c ∧ 0 ≤ r * c ∧ r * c ≤ 1024 := by
  have h1 := Int.mul_nonneg hr.1 hc.1
  have h2 : r * c ≤ 32 * 32 := Int.mul_le_mul hr.2 hc.2 hc.1 (by omega)
  exact ⟨w64_id (by omega) (by omega), h1, by omega⟩
theorem specOk_tells (p r c : Int) {l : List Int} (hl : l.length ≤ 35184372088832) {k : Nat} (hk : l.length + 20 < k) : spec_l03Ok.f k p r c l = some (matOk p r c l) := by
  unfold spec_l03Ok.f matOk
  rw [specPrime_tells p (by omega)]
  cases hp : isP p with
  | false => simp
  | true =>
    have hp2 := isP_ge hp
    rw [in_tells, in_tells]
    by_cases h1 : 0 ≤ r ∧ r ≤ 32
    · by_cases h2 : 0 ≤ c ∧ c ≤ 32
      · rw [(side_mulI h1 h2).1, column_tells hp2.1 hp2.2 hl (by omega)]
        simp only [h1, h2, and_self, decide_true, Option.bind_some, if_true, Bool.true_and]
        rw [Bool.and_comm]
      · simp only [h1, h2, and_self, decide_true, decide_false, Option.bind_some, if_true, Bool.true_and, Bool.false_and]; rfl
    · simp only [h1, decide_false, Option.bind_some, if_true, Bool.true_and, Bool.false_and]; rfl
theorem implOk_tells (p r c : Int) {l : List Int} {k : Nat} (hk : 20 ≤ k) : impl_ValidMatrix.f k p r c l = some (matOk p r c l) := by
  unfold impl_ValidMatrix.f matOk
  rw [ask_prime, prime_tells p hk]
  cases hp : isP p with
  | false => simp
  | true =>
    have hp2 := isP_ge hp
    rw [side_tells, side_tells, areM_tells hp]
    by_cases h1 : 0 ≤ r ∧ r ≤ 32
    · by_cases h2 : 0 ≤ c ∧ c ≤ 32
      · rw [(side_mulI h1 h2).1]
        unfold impl_size_int64_46.f
        simp only [h1, h2, and_self, decide_true, Option.bind_some, if_true, Bool.true_and]
        by_cases h3 : (l.length : Int) = r * c
        · simp [h3]
        · simp [h3]
      · simp only [h1, h2, and_self, decide_true, decide_false, Option.bind_some, if_true, Bool.true_and, Bool.false_and]; rfl
    · simp only [h1, decide_false, Option.bind_some, if_true, Bool.true_and, Bool.false_and]; rfl
theorem szMatrix_tells (p r c : Int) {l : List Int} (hl : l.length ≤ maxLen) : laws_szMatrix.f p r c l 1048576 = some (if l.length ≤ 1048576 then 1048576 - (l.length : Int) else -1) := by
  unfold laws_szMatrix.f laws_szInt64S.f
  have hl : l.length ≤ 9223372036854775807 := hl
  rw [w64_id (x := 1048576 - (l.length : Int)) (by omega) (by omega)]
  by_cases h : l.length ≤ 1048576
  · rw [if_neg (by omega), if_pos h]
    simp only [Option.bind_some]
    rw [if_neg (by omega)]
  · rw [if_pos (by omega), if_neg h]; rfl
theorem toMatrix_tells (p r c : Int) {l : List Int} (hl : l.length ≤ 35184372088832) {k : Nat} (hk : l.length < k) : laws_toMatrix.f k p r c l = some (p, r, c, l) := by
  unfold laws_toMatrix.f
  rw [copy_tells hl hk]; rfl
theorem mul_small {p x y : Int} (hp : 2 ≤ p) (hp' : p ≤ 251) (hx : 0 ≤ x) (hx' : x ≤ 251) (hy : 0 ≤ y) (hy' : y < p) : 0 ≤ x * y ∧ x * y ≤ 63001 := by
  have g1 := Int.mul_nonneg hx hy
  have g2 : x * y ≤ 251 * 251 := Int.mul_le_mul hx' (by omega) hy (by omega)
  omega
theorem dimsM {p r c : Int} {l : List Int} (h : matOk p r c l = true) : ∃ R C : Nat, r = R ∧ c = C ∧ R ≤ 32 ∧ C ≤ 32 ∧ l.length = R * C ∧ (2 ≤ p ∧ p ≤ 251) ∧ ∀ j, 0 ≤ l.getD j 0 ∧ l.getD j 0 < p := by
  obtain ⟨hp, hr, hc, hl, hx⟩ := matOk_iff.mp h
  obtain ⟨R, rfl⟩ := Int.eq_ofNat_of_zero_le hr.1
  obtain ⟨C, rfl⟩ := Int.eq_ofNat_of_zero_le hc.1
  exact ⟨R, C, rfl, rfl, by omega, by omega, by exact_mod_cast hl, isP_ge hp, fun j => getD_inM (isP_ge hp).1 hx j⟩

theorem slice_row {l : List Int} {r c i : Nat} (hl : l.length = r * c) (hi : i < r) : (l.take ((i + 1) * c)).drop (i * c) = (List.range c).map (fun j => l.getD (i * c + j) 0) := by
  have h1 : (i + 1) * c ≤ r * c := Nat.mul_le_mul_right _ hi
  have h2 := Nat.succ_mul i c
  have h4 : ((l.take ((i + 1) * c)).drop (i * c)).length = c := by
    rw [List.length_drop, List.length_take, Nat.min_eq_left (by rw [hl]; exact h1), h2, Nat.add_sub_cancel_left]
  refine List.ext_getElem (by rw [h4]; simp) (fun j hj hj' => ?_)
  have hj2 : j < c := by rw [h4] at hj; exact hj
  have h3 := at_lt hi hj2
  rw [List.getElem_drop, List.getElem_take, List.getElem_map, List.getElem_range, List.getD_eq_getElem?_getD, List.getElem?_eq_getElem (by omega)]
  rfl

/-- The rows of a matrix. -/
def rowsM (R C : Nat) (l : List Int) : List (List Int) := (List.range R).map (fun i => (List.range C).map (fun j => l.getD (i * C + j) 0))
theorem rowsM_length (R C : Nat) (l : List Int) : (rowsM R C l).length = R := by unfold rowsM; simp
theorem rowsM_snoc (R C : Nat) (l : List Int) : rowsM R C l ++ [(List.range C).map (fun j => l.getD (R * C + j) 0)] = rowsM (R + 1) C l := by
  unfold rowsM; rw [List.range_succ, List.map_append]; rfl
theorem rowsM_ok {p : Int} {R C : Nat} {l : List Int} (h : ∀ j, 0 ≤ l.getD j 0 ∧ l.getD j 0 < p) : RowsOk p C (rowsM R C l) := fun r hr => by
  unfold rowsM at hr
  obtain ⟨i, _, rfl⟩ := List.mem_map.mp hr
  refine ⟨by simp, fun x hx => ?_⟩
  obtain ⟨j, _, rfl⟩ := List.mem_map.mp hx
  exact h _
theorem rowsM_cell {R C i j : Nat} (l : List Int) (hi : i < R) (hj : j < C) : cell (rowsM R C l) i j = l.getD (i * C + j) 0 := by
  unfold cell rowsM
  simp [List.getD_eq_getElem?_getD, hi, hj]
theorem rowsM_tab {R C : Nat} {l : List Int} (hl : l.length = R * C) : tab R C (cell (rowsM R C l)) = l :=
  (tab_ext hl (fun i j hi hj => (rowsM_cell l hi hj).symm)).symm
theorem clone_tells {p r : Int} {R C : Nat} {l : List Int} (hR : R ≤ 64) (hC : C ≤ 70) (hl : l.length = R * C) {i : Nat} (hi : i < R) :
    slices_Clone_int64_int64.f p r C l i = some ((List.range C).map (fun j => l.getD (i * C + j) 0)) := by
  unfold slices_Clone_int64_int64.f
  have h1 : (i + 1) * C ≤ R * C := Nat.mul_le_mul_right _ hi
  have h2 : i * C ≤ (i + 1) * C := Nat.mul_le_mul_right _ (by omega)
  rw [w64_succ (n := 64) (i := i) (by omega) (by omega), w64_mulN (r := i) (by omega) (by omega), w64_mulN (r := i + 1) (by omega) (by omega), if_pos (idx0 _), if_pos (by omega), if_pos (by omega), Int.toNat_natCast, Int.toNat_natCast, slice_row hl hi]
  rw [if_pos (by simp; omega)]
theorem rowsOf_loop {p r : Int} {R C : Nat} {l : List Int} (hR : R ≤ 64) (hC : C ≤ 70) (hl : l.length = R * C) (d : Nat) : ∀ k i, R - i = d → i ≤ R → d < k → impl_rowsOf.l0 k (rowsM i C l) R i p r C l = some (rowsM R C l) := by
  induction d with
  | zero =>
    intro k i hd hi hk
    obtain ⟨k, rfl⟩ : ∃ m, k = m + 1 := ⟨k - 1, by omega⟩
    obtain rfl : i = R := by omega
    simp only [impl_rowsOf.l0]
    rw [if_neg (nlt_nat (Nat.le_refl _))]
  | succ d ih =>
    intro k i hd hi hk
    obtain ⟨k, rfl⟩ : ∃ m, k = m + 1 := ⟨k - 1, by omega⟩
    have hiR : i < R := by omega
    simp only [impl_rowsOf.l0]
    rw [if_pos (lt_nat hiR), clone_tells hR hC hl hiR, Option.bind_some, if_pos (by rw [rowsM_length]; omega), rowsM_snoc, w64_succ (n := 64) (by omega) (by omega)]
    exact ih k (i + 1) (by omega) (by omega) (by omega)
theorem rowsOf_tells {p : Int} {R C : Nat} {l : List Int} (hR : R ≤ 64) (hC : C ≤ 70) (hl : l.length = R * C) {k : Nat} (hk : R < k) : impl_rowsOf.f k p R C l = some (rowsM R C l) := by
  unfold impl_rowsOf.f
  exact rowsOf_loop hR hC hl R k 0 (by omega) (by omega) hk
theorem implElim_tells {p : Int} (hp : isP p = true) {R C : Nat} {l : List Int} (hR : R ≤ 64) (hC : C ≤ 70) (hl : l.length = R * C) (hv : ∀ j, 0 ≤ l.getD j 0 ∧ l.getD j 0 < p) {k : Nat} (hk : 6000 ≤ k) :
    impl_eliminate.f k p R C l C p = some ((elim p C (rowsM R C l)).2.1, (elim p C (rowsM R C l)).2.2, (elim p C (rowsM R C l)).1) := by
  unfold impl_eliminate.f
  rw [rowsOf_tells hR hC hl (by omega), Option.bind_some]
  exact elim_tells hp (by rw [rowsM_length]; exact hR) hC (rowsM_ok hv) hk
theorem specElim_tells {p : Int} (hp : isP p = true) {R C : Nat} {l : List Int} (hR : R ≤ 64) (hC : C ≤ 70) (hl : l.length = R * C) (hv : ∀ j, 0 ≤ l.getD j 0 ∧ l.getD j 0 < p) {k : Nat} (hk : 400000 ≤ k) :
    ∃ ds, 0 ≤ ds ∧ ds < p ∧ ((elim p C (rowsM R C l)).2.1.length = C → ds = (elim p C (rowsM R C l)).2.2) ∧
      spec_l03Reduced.f k p R C l = some (p, (R : Int), (C : Int), tab R C (cell (elim p C (rowsM R C l)).1), (elim p C (rowsM R C l)).2.1, ds) := by
  have h2 := isP_ge hp
  have hm : R * C ≤ 64 * 70 := Nat.mul_le_mul hR hC
  have hb : (C - 0) * 5200 ≤ 70 * 5200 := Nat.mul_le_mul (by omega) (Nat.le_refl _)
  obtain ⟨ds, a1, a2, a3, a4⟩ := spec_elim_loop (p := p) hp (C := C) (rs := rowsM R C l) (ml := l) (mp := p) (m2 := C) (op := p) (o1 := R) (o2 := C) (by rw [rowsM_length]; exact hR) hC (rowsM_ok hv) (C - 0) k 0 1 rfl (by omega) (by omega) (by omega) (by omega) (fun _ => rfl)
  refine ⟨ds, a1, a2, a3, ?_⟩
  unfold spec_l03Reduced.f spec_l00Own.f
  simp only [Option.bind_some, List.nil_append, List.length_nil]
  rw [if_pos (by omega), Option.bind_some]
  rw [rowsM_length] at a4
  rw [← a4]
  show _ = spec_l03Reduced.l0 k p C [] 1 0 0 p R C l p R C (tab R C (cell (rowsM R C l)))
  rw [rowsM_tab hl]

theorem take_flatten_succ {α : Type} (rs : List (List α)) {i : Nat} (hi : i < rs.length) : (rs.take (i + 1)).flatten = (rs.take i).flatten ++ rs.getD i [] := by
  rw [List.take_add_one, List.getElem?_eq_getElem hi, List.flatten_append, getD_at hi]
  simp
theorem concat_size {rs : List (List Int)} (hr : rs.length ≤ 100) (hl : rs.flatten.length ≤ 100000) (d : Nat) : ∀ k i, rs.length - i = d → i ≤ rs.length → d < k →
    ∃ k', k = k' + d + 1 ∧ slices_Concat_int64_int64.l0 k rs ((rs.take i).flatten.length : Int) rs rs.length i = slices_Concat_int64_int64.l1 k' [] rs rs.length 0 := by
  have hle : ∀ i, (rs.take i).flatten.length ≤ rs.flatten.length := fun i => by
    have : rs.flatten = (rs.take i).flatten ++ (rs.drop i).flatten := by rw [← List.flatten_append, List.take_append_drop]
    rw [this, List.length_append]; omega
  induction d with
  | zero =>
    intro k i hd hi hk
    obtain ⟨k, rfl⟩ : ∃ m, k = m + 1 := ⟨k - 1, by omega⟩
    refine ⟨k, by omega, ?_⟩
    have h1 := hle i
    simp only [slices_Concat_int64_int64.l0]
    rw [if_neg (nlt_nat (by omega))]
    have g : slices_Grow_int64_int64.f [] ((rs.take i).flatten.length : Int) = some [] := by
      unfold slices_Grow_int64_int64.f
      rw [if_pos (show ([] : List Int).length = 0 from rfl), if_pos (by omega), if_pos (by omega)]
    rw [g, Option.bind_some]
  | succ d ih =>
    intro k i hd hi hk
    obtain ⟨k, rfl⟩ : ∃ m, k = m + 1 := ⟨k - 1, by omega⟩
    obtain ⟨k', e1, e2⟩ := ih k (i + 1) (by omega) (by omega) (by omega)
    refine ⟨k', by omega, ?_⟩
    have hiR : i < rs.length := by omega
    have h1 := hle (i + 1)
    rw [← e2, take_flatten_succ rs hiR, List.length_append]
    rw [take_flatten_succ rs hiR, List.length_append] at h1
    have e3 : ((rs.take i).flatten.length : Int) + ((rs.getD i []).length : Int) = (((rs.take i).flatten.length + (rs.getD i []).length : Nat) : Int) := by omega
    simp only [slices_Concat_int64_int64.l0]
    rw [if_pos (lt_nat hiR), if_pos (idx0 _), if_pos (lt_nat hiR), rdL_nat, e3, w64_idV (x := (((rs.take i).flatten.length + (rs.getD i []).length : Nat) : Int)) (by omega) (by omega), if_neg (by omega), w64_succ (n := 100) (by omega) (by omega)]
theorem concat_rows {rs : List (List Int)} (hr : rs.length ≤ 100) (hl : rs.flatten.length ≤ 100000) (d : Nat) : ∀ k i, rs.length - i = d → i ≤ rs.length → d < k →
    slices_Concat_int64_int64.l1 k (rs.take i).flatten rs rs.length i = some rs.flatten := by
  have hle : ∀ i, (rs.take i).flatten.length ≤ rs.flatten.length := fun i => by
    have : rs.flatten = (rs.take i).flatten ++ (rs.drop i).flatten := by rw [← List.flatten_append, List.take_append_drop]
    rw [this, List.length_append]; omega
  induction d with
  | zero =>
    intro k i hd hi hk
    obtain ⟨k, rfl⟩ : ∃ m, k = m + 1 := ⟨k - 1, by omega⟩
    simp only [slices_Concat_int64_int64.l1]
    rw [if_neg (nlt_nat (by omega)), List.take_of_length_le (by omega)]
  | succ d ih =>
    intro k i hd hi hk
    obtain ⟨k, rfl⟩ : ∃ m, k = m + 1 := ⟨k - 1, by omega⟩
    have hiR : i < rs.length := by omega
    have h1 := hle (i + 1)
    have e2 := ih k (i + 1) (by omega) (by omega) (by omega)
    rw [take_flatten_succ rs hiR] at h1 e2
    rw [List.length_append] at h1
    simp only [slices_Concat_int64_int64.l1]
    rw [if_pos (lt_nat hiR), if_pos (idx0 _), if_pos (lt_nat hiR), rdL_nat, if_pos (by omega), w64_succ (n := 100) (by omega) (by omega)]
    exact e2
theorem concat_tells {rs : List (List Int)} (hr : rs.length ≤ 100) (hl : rs.flatten.length ≤ 100000) {k : Nat} (hk : 300 ≤ k) : slices_Concat_int64_int64.f k rs = some rs.flatten := by
  unfold slices_Concat_int64_int64.f
  obtain ⟨k', e1, e2⟩ := concat_size hr hl rs.length k 0 (by omega) (by omega) (by omega)
  refine e2.trans ?_
  exact concat_rows hr hl rs.length k' 0 (by omega) (by omega) (by omega)
theorem tab_snoc (r c : Nat) (f : Nat → Nat → Int) : tab (r + 1) c f = tab r c f ++ (List.range c).map (f r) := by
  symm
  refine tab_ext (by rw [List.length_append, tab_length]; simp [Nat.succ_mul]) (fun i j hi hj => ?_)
  rw [List.getD_eq_getElem?_getD, List.getElem?_append, tab_length]
  by_cases h : i < r
  · have := at_lt h hj
    rw [if_pos this, ← List.getD_eq_getElem?_getD, tab_at f h hj]
  · obtain rfl : i = r := by omega
    rw [if_neg (by omega)]
    have e : i * c + j - i * c = j := by omega
    rw [e]
    simp [hj]
theorem flatten_tab {p : Int} {C : Nat} {rs : List (List Int)} (hok : RowsOk p C rs) (i : Nat) (hi : i ≤ rs.length) : (rs.take i).flatten = tab i C (cell rs) := by
  induction i with
  | zero => unfold tab; simp
  | succ i ih =>
    have hiR : i < rs.length := by omega
    rw [take_flatten_succ rs hiR, ih (by omega), tab_snoc]
    congr 1
    have h := (hok _ (getD_mem (d := []) hiR)).1
    refine ext_getD (by simpa using h) (fun j hj => ?_)
    rw [h] at hj
    show cell rs i j = _
    simp [List.getD_eq_getElem?_getD, hj]
theorem flatten_rows {p : Int} {C : Nat} {rs : List (List Int)} (hok : RowsOk p C rs) : rs.flatten = tab rs.length C (cell rs) := by
  have := flatten_tab hok rs.length (Nat.le_refl _)
  rwa [List.take_length] at this
theorem matrixOf_tells {p q : Int} {C : Nat} (c : Int) {rs : List (List Int)} (hok : RowsOk p C rs) (hr : rs.length ≤ 100) (hC : C ≤ 100) {k : Nat} (hk : 300 ≤ k) : impl_matrixOf.f k q c rs = some (q, (rs.length : Int), c, tab rs.length C (cell rs)) := by
  have hl : rs.flatten.length ≤ 100000 := by
    rw [flatten_rows hok, tab_length]
    have : rs.length * C ≤ 100 * 100 := Nat.mul_le_mul hr hC
    omega
  unfold impl_matrixOf.f
  show Option.bind (some (rs.length : Int)) _ = _
  rw [Option.bind_some, concat_tells hr hl hk, Option.bind_some, flatten_rows hok]
/-- What the elimination keeps. -/
theorem elim_ok {p : Int} (hp : isP p = true) {n : Nat} {rs : List (List Int)} (hok : RowsOk p n rs) : RowsOk p n (elim p n rs).1 ∧ (elim p n rs).1.length = rs.length ∧ (elim p n rs).2.1.length ≤ n := by
  obtain ⟨t1, t2, t3, _, _, _⟩ := elimTo_small hp hok n (Nat.le_refl _)
  exact ⟨t1, t2, t3⟩
end Go.Proofs.Ythnijchgjfmgaaa.F
end

section
/- Both functions refuse the same matrices; both eliminations make the same rows and pivots; what is returned lies in memory of its own, the matrix stays as it is, and a second call answers the same. -/
set_option linter.unusedVariables false
set_option linter.unusedSimpArgs false
set_option linter.unusedSectionVars false
namespace Go.Proofs.Ythnijchgjfmgaaa.F
open Go.RowKit Go.Proofs.YthnijchgjfmgaaaW.PrintWords Go.Proofs.YthnijchgjfmgaaaW.PrintLast Go.Proofs.Ythnijchgjfmgaaa.Lin

def redOut (p r c : Int) (l : List Int) : Int × Int × Int × List Int × List Int × Int := if matOk p r c l = true then (p, r, c, tab r.toNat c.toNat (cell (elim p c.toNat (rowsM r.toNat c.toNat l)).1), (elim p c.toNat (rowsM r.toNat c.toNat l)).2.1, 0) else (0, 0, 0, [], [], 1)
theorem spec_redM (p r c : Int) {l : List Int} (hl : l.length ≤ 1048576) {k : Nat} (hk : l.length + 400000 ≤ k) : spec_ReducedForm.f k p r c l = some (redOut p r c l) := by
  unfold spec_ReducedForm.f redOut
  rw [specOk_tells p r c (by omega) (by omega)]
  cases h : matOk p r c l with
  | false => simp
  | true =>
    obtain ⟨R, C, rfl, rfl, h1, h2, h3, h4, h5⟩ := dimsM h
    obtain ⟨ds, _, _, _, e⟩ := specElim_tells (matOk_iff.mp h).1 (show R ≤ 64 by omega) (show C ≤ 70 by omega) h3 h5 (k := k) (by omega)
    simp only [Option.bind_some, if_true, Int.toNat_natCast, e]
theorem impl_redM (p r c : Int) {l : List Int} {k : Nat} (hk : 17000 ≤ k) : impl_ReducedForm.f k p r c l = some (redOut p r c l) := by
  unfold impl_ReducedForm.f redOut
  rw [implOk_tells p r c (by omega)]
  cases h : matOk p r c l with
  | false => simp
  | true =>
    obtain ⟨R, C, rfl, rfl, h1, h2, h3, h4, h5⟩ := dimsM h
    have hp := (matOk_iff.mp h).1
    have e := implElim_tells hp (show R ≤ 64 by omega) (show C ≤ 70 by omega) h3 h5 (k := k) (by omega)
    obtain ⟨o1, o2, o3⟩ := elim_ok hp (rowsM_ok (R := R) (C := C) h5)
    have e2 := matrixOf_tells (q := p) (C : Int) o1 (by rw [o2, rowsM_length]; omega) (by omega) (k := k) (by omega)
    rw [o2, rowsM_length] at e2
    simp only [Option.bind_some, if_true, Int.toNat_natCast, e, e2]
theorem redOut_length (p r c : Int) (l : List Int) : (redOut p r c l).2.2.2.1.length ≤ 16384 ∧ (redOut p r c l).2.2.2.2.1.length ≤ 100 := by
  unfold redOut
  split
  · rename_i h
    obtain ⟨R, C, rfl, rfl, h1, h2, h3, h4, h5⟩ := dimsM h
    obtain ⟨o1, o2, o3⟩ := elim_ok (matOk_iff.mp h).1 (rowsM_ok (R := R) (C := C) h5)
    simp only [tab_length, Int.toNat_natCast]; exact ⟨side_mul (by omega) (by omega), by omega⟩
  · simp
theorem FnExactReducedForm_pure : laws_FnExactReducedForm.Pure := by
  intro p r c l _ _ _ hm _
  by_cases hl : l.length ≤ 1048576
  · obtain ⟨ho, hq⟩ := redOut_length p r c l
    obtain ⟨B, hB⟩ : ∃ B, B = l.length + 400000 := ⟨_, rfl⟩
    have c1 : ∀ k, B ≤ k → laws_toMatrix.f k p r c l = some (p, r, c, l) := fun k hk => toMatrix_tells p r c (by omega) (by omega)
    have c2 : ∀ k, B ≤ k → spec_ReducedForm.f k p r c l = some (redOut p r c l) := fun k hk => spec_redM p r c hl (by omega)
    have c3 : ∀ k, B ≤ k → impl_ReducedForm.f k p r c l = some (redOut p r c l) := fun k hk => impl_redM p r c (by omega)
    generalize redOut p r c l = o at *
    obtain ⟨o1, o2, o3, o, q, code⟩ := o
    dsimp only at ho hq
    have c4 : ∀ k, B ≤ k → laws_eqMatrix.f k p r c l p r c l = some true := fun k hk => eqMatrix_tells (by omega) (by omega)
    have c5 : ∀ k, B ≤ k → laws_eqMatrix.f k o1 o2 o3 o o1 o2 o3 o = some true := fun k hk => eqMatrix_tells (by omega) (by omega)
    have c6 : ∀ k, B ≤ k → laws_markMatrix.f k p r c l 1 = some (1 + (l.length : Int), iota 1 l.length) := fun k hk => markMatrix_tells (by omega) (by omega)
    have c7 : ∀ k, B ≤ k → laws_markMatrix.f k o1 o2 o3 o 1 = some (1 + (o.length : Int), iota 1 o.length) := fun k hk => markMatrix_tells (by omega) (by omega)
    have c8 : ∀ k, B ≤ k → laws_heldMatrix.f k o1 o2 o3 (iota 1 o.length) 1 = some (1 + (o.length : Int)) := fun k hk => heldMatrix_tells (by omega) (by omega)
    have d1 : ∀ k, B ≤ k → laws_eqInt64S.f k q q = some true := fun k hk => by rw [eq_tells (by omega) (by omega)]; simp
    have d2 : ∀ k, B ≤ k → laws_markInt64S.f k q (1 + (o.length : Int)) = some (1 + (o.length : Int) + (q.length : Int), iota (1 + (o.length : Int)) q.length) := fun k hk => mark_tells (by omega) (by omega) (by omega) (by omega)
    have d3 : ∀ k, B ≤ k → laws_heldInt64S.f k (iota (1 + (o.length : Int)) q.length) (1 + (o.length : Int)) = some (1 + (o.length : Int) + (q.length : Int)) := fun k hk => held_tells (by omega) (by omega) (by omega) (by omega)
    have n0 : ¬ (1048576 - (l.length : Int) < 0) := by omega
    have n1 : ¬ (1 + (l.length : Int) < 0) := by omega
    have n2 : ¬ (1 + (o.length : Int) < 0) := by omega
    have n3 : ¬ (1 + (o.length : Int) + (q.length : Int) < 0) := by omega
    refine ⟨B + 1 + 1 + 1, ?_⟩
    unfold laws_FnExactReducedForm.f
    rw [szMatrix_tells p r c hm, if_pos hl]
    simp (disch := omega) only [Option.bind_some, if_true, if_false, bne_self_eq_false, Bool.false_eq_true, c1, c2, c3, c4, c5, c6, c7, c8, d1, d2, d3, n0, n1, n2, n3]
    simp only [laws_FnExactReducedForm.j0]
    simp (disch := omega) only [Option.bind_some, if_true, if_false, bne_self_eq_false, Bool.false_eq_true, c1, c2, c3, c4, c5, c6, c7, c8, d1, d2, d3, n0, n1, n2, n3]
    simp only [laws_FnExactReducedForm.j1]
    simp (disch := omega) only [Option.bind_some, if_true, if_false, bne_self_eq_false, Bool.false_eq_true, c1, c2, c3, c4, c5, c6, c7, c8, d1, d2, d3, n0, n1, n2, n3]
    simp only [laws_FnExactReducedForm.j2]
    simp (disch := omega) only [Option.bind_some, if_true, if_false, bne_self_eq_false, Bool.false_eq_true, c1, c2, c3, c4, c5, c6, c7, c8, d1, d2, d3, n0, n1, n2, n3]
  · refine ⟨0, ?_⟩
    unfold laws_FnExactReducedForm.f
    rw [szMatrix_tells p r c hm, if_neg hl]
    rfl
end Go.Proofs.Ythnijchgjfmgaaa.F
namespace Go.Proofs.Ythnijchgjfmgaaa.Pure
theorem FnExactReducedForm : F.laws_FnExactReducedForm.Pure := F.FnExactReducedForm_pure
end Go.Proofs.Ythnijchgjfmgaaa.Pure
end

section
namespace Go.Proofs.Ythnijchgjfmgaaa.fnExactReducedForm
open Go.ChangeShapes Go.WideShapes Go.ChangeAt Go.RowKit Go.Joins
open Go.ChangeMaps (open_string shut_string)
set_option linter.unusedVariables false
theorem own : ownKnob Try.prog.godebug = none := by kernel_rfl
theorem laidOut : laidOutB Try.prog = true := by kernel_rfl
/-- A slice's row of whole numbers in memory. -/
def IsRow (k : IntKind) (w : World) (a : Option Addr) (len cap : Nat) (zs : List Int) : Prop :=
  (a = none ∧ len = 0 ∧ cap = 0 ∧ zs = []) ∨
  ∃ x, a = some x ∧ len ≤ cap ∧ cap ≤ maxLen ∧ zs.length = cap ∧ (∀ i, i < zs.length → w.cell? (x.add i) = some (.int k (zs.getD i 0))) ∧ ∀ n ∈ zs, (Lit.int k n).wf = true
/-- A cell that reads as a slice of whole numbers holds one. -/
theorem row_of {H : Type} {enc : TypeId × Value → H} {P : Program} {W : World} {n : Nat} {t e : TypeId} {k : IntKind} {v : Value} {y : DataW H × List MemPlace} (hs : P.underlying t = some (.slice e)) (hi : P.underlying e = some (.int k)) (hc : P.cellsOf e = 1)
    (hf : DataW.trod enc P W 0 (fun _ => true) true n t [v] = some y) : ∃ a len cap zs, v = .slice a len cap ∧ IsRow k W a len cap zs := by
  rcases open_ints hs hi hc hf with ⟨hcs, _⟩ | ⟨x, l, c, zs, hcs, _, hl, hm, hz, _, hcell, hwz⟩
  · simp at hcs
    exact ⟨_, _, _, [], hcs, .inl ⟨rfl, rfl, rfl, rfl⟩⟩
  · simp at hcs
    exact ⟨_, _, _, zs, hcs, .inr ⟨_, rfl, hl, hm, by simpa using hz, hcell, hwz⟩⟩
set_option maxRecDepth 100000 in
theorem lifted (os : Os) (started : os.Started) (H : Type) (enc : TypeId × Value → H) :
    ReturnsInHanded {} Try.checked os 7 .any (Rows.fnExactReducedFormSpec.pre6 enc Try.prog Try.f7 Rows.fnExactReducedFormRow.domain false) (Rows.fnExactReducedFormSpec.post enc Try.prog Try.f7 false true false false) := by
  refine returnsInHanded_of_change_sized (C := Try.checked) own started (by kernel_rfl) Try.func7
    (ChangeSpec.witness6 (enc := enc) (C := Try.checked) false ⟨#[], #[.agg #[.int .i64 0, .int .i64 0, .int .i64 0, .slice none 0 0]], []⟩ 8 (by kernel_rfl) (by kernel_rfl) (by kernel_rfl) (by kernel_rfl)) ?_
  intro W base args ds gs before hval0 hW hcnd hsz0 _
  have hsz : (DataW.weightsEach Try.prog (Try.f7.params.toList ++ Rows.fnExactReducedFormSpec.plain.varTypes Try.prog) (ds ++ gs)).all (· ≤ reachBytes) = true := hsz0
  have hval : ∀ (j : Nat) t v, Try.f7.params[j]? = some t → args[j]? = some v → Value.okWide Try.prog W .any base t v := hval0
  have hW' := hW
  obtain ⟨p, q, hA0, hV, rfl, hfz, hnd⟩ := hW
  have hA : DataW.TrodAll enc Try.prog W 0 (fun _ => true) true Try.f7.params.toList args.toList ds p := hA0
  rw [Try.params7] at hA hval hsz
  obtain ⟨v0, vs0, d0, ds0, p0, q0, hargs, rfl, rfl, h0, r0⟩ := trodAll_cons hA
  obtain ⟨rfl, rfl, rfl⟩ := trodAll_nil r0
  obtain rfl : args = #[v0] := by cases args; simp_all
  obtain ⟨rfl, rfl⟩ := trodVars_none hV
  have k0 := h0
  have lt0 : ∀ x ∈ p0, x.block < W.heap.size := by obtain ⟨m, hm⟩ := k0; exact DataW.trod_lt m _ _ _ hm
  obtain ⟨c0_0, c0_1, c0_2, c0_3, y0_0, y0_1, y0_2, y0_3, m0, rfl, _, _, g0_0, g0_1, g0_2, g0_3⟩ := open_agg4 Try.underlying24 (by kernel_rfl) (show Try.prog.cellsOf 24 = 4 by kernel_rfl) (hval 0 24 v0 rfl rfl) h0
  obtain ⟨a0_0, e0_0, _, w0_0⟩ := DataW.trod_int Try.underlying2 g0_0
  simp at e0_0
  subst e0_0
  obtain ⟨a0_1, e0_1, _, w0_1⟩ := DataW.trod_int Try.underlying2 g0_1
  simp at e0_1
  subst e0_1
  obtain ⟨a0_2, e0_2, _, w0_2⟩ := DataW.trod_int Try.underlying2 g0_2
  simp at e0_2
  subst e0_2
  obtain ⟨a0_3, len0_3, cap0_3, z0_3, rfl, w0_3⟩ := row_of Try.underlying22 Try.underlying2 (by kernel_rfl) g0_3
  clear hA0 hval0 hsz0 hsz
  refine (F.laws_FnExactReducedForm.walk Pure.FnExactReducedForm a0_0 a0_1 a0_2 a0_3 len0_3 cap0_3 z0_3 W w0_0 w0_1 w0_2 w0_3).mono fun e W' ⟨he, bel⟩ => ?_
  subst he
  exact ⟨_, rfl, _, _, _, [], _, [], hW', trodAll_mk1 (shut_bool Try.underlying4 _), (trodAll_cons_mk (Below.trod laidOut (by kernel_rfl) (of_decide_eq_true (by kernel_rfl)) k0 bel lt0) trodAll_mk0), rfl, bel.frame _, fun h => by cases h⟩
theorem over : Rows.fnExactReducedFormRow.holds Try.pinned (OpenSpec.ofChange Rows.fnExactReducedFormSpec) :=
  OpenClaim.holds_of_wide 7 Try.f7 rfl rfl rfl rfl rfl rfl rfl ⟨rfl, rfl, rfl, rfl, rfl⟩ rfl rfl rfl rfl rfl (by kernel_rfl) Try.func7 (by kernel_rfl)
    (of_decide_eq_true (by kernel_rfl)) (by unfold Func.isWrapper; first | (rw [if_pos (by decide +kernel)]; kernel_rfl) | (rw [if_neg (by decide +kernel)]; exact ⟨rfl, rfl⟩))
    (fun os started H enc _ => lifted os started H enc)
theorem proved : Rows.FnExactReducedFormSaid := over
#print axioms proved
end Go.Proofs.Ythnijchgjfmgaaa.fnExactReducedForm
namespace Go.Proofs.Ythnijchgjfmgaaa
/-- The row, under a short name, for the claim. -/
theorem fnExactReducedForm_holds : Rows.FnExactReducedFormSaid := fnExactReducedForm.proved
end Go.Proofs.Ythnijchgjfmgaaa
end
