-- Texts of this claim, merged by pack.py (a program of this session's).
import Derived.Test.YtoibkfdmcajieaaQFnExactColumnSpace5
import Derived.Test.YtoibkfdmcajieaaQFnExactColumnSpace9
import Derived.KernelRfl
import Derived.Test.YtoibkfdmcajieaaQFnExactColumnSpace4
import Derived.Test.YtoibkfdmcajieaaQFnExactColumnSpace6
import Derived.Test.YtoibkfdmcajieaaQFnExactColumnSpace1
import Derived.Test.YtoibkfdmcajieaaQFnExactColumnSpace2
import Derived.Test.YtoibkfdmcajieaaQFnExactColumnSpace0

section
set_option linter.unusedVariables false
set_option linter.unusedSimpArgs false
set_option linter.unusedSectionVars false
namespace Go.Proofs.Ytoibkfdmcajieaa.F
open Go.RowKit Go.Proofs.YtoibkfdmcajieaaW.PrintWords Go.Proofs.YtoibkfdmcajieaaW.PrintLast Go.Proofs.Ytoibkfdmcajieaa.Lin

theorem mul_smallV {p x y : Int} (hp : 2 ≤ p) (hp' : p ≤ 251) (hx : 0 ≤ x) (hx' : x ≤ 251) (hy : 0 ≤ y) (hy' : y < p) : 0 ≤ x * y ∧ x * y ≤ 63001 := by
  have g1 := Int.mul_nonneg hx hy
  have g2 : x * y ≤ 251 * 251 := Int.mul_le_mul hx' (by omega) hy (by omega)
  omega
theorem take_snocV {l : List Int} {i : Nat} (h : i < l.length) : l.take i ++ [l.getD i 0] = l.take (i + 1) := by
  rw [List.take_succ_eq_append_getElem h, getD_at h]
theorem addV_loop {a b : List Int} {c p : Int} (hp : 2 ≤ p) (hp' : p ≤ 251) (hl : a.length = b.length) (hn : a.length ≤ 17592186044416) (ha : ∀ j, 0 ≤ a.getD j 0 ∧ a.getD j 0 < p) (hb : ∀ j, 0 ≤ b.getD j 0 ∧ b.getD j 0 < p) (hc : 0 ≤ c) (hc' : c ≤ 251) (d : Nat) :
    ∀ (k i : Nat), a.length - i = d → i ≤ a.length → d < k → impl_addTimes.l0 k a b c p ((addRow p a b c).take i) a.length i = some (addRow p a b c) := by
  have hz : (addRow p a b c).length = a.length := by unfold addRow; simp [hl]
  induction d with
  | zero =>
    intro k i hd hi hk
    obtain ⟨k, rfl⟩ : ∃ m, k = m + 1 := ⟨k - 1, by omega⟩
    simp only [impl_addTimes.l0]
    have hf : ¬ (i : Int) < (a.length : Int) := by omega
    simp only [hf, if_false]
    rw [List.take_of_length_le (by omega)]
  | succ d ih =>
    intro k i hd hi hk
    obtain ⟨k, rfl⟩ : ∃ m, k = m + 1 := ⟨k - 1, by omega⟩
    simp only [impl_addTimes.l0]
    have h1 : (i : Int) < (a.length : Int) := by omega
    have h2 : (i : Int) < (b.length : Int) := by omega
    have h0 : (0 : Int) ≤ (i : Int) := by omega
    have hp0 : ¬ p = 0 := by omega
    have hlt : ((addRow p a b c).take i).length < 17592186044416 := by rw [List.length_take]; omega
    have hm := mul_smallV hp hp' hc hc' (hb i).1 (hb i).2
    have e : Int.tmod (wrap64 (rd a i + wrap64 (c * rd b i))) p = (addRow p a b c).getD i 0 := by
      have := ha i
      rw [rd_nat, rd_nat, w64_idV (x := c * b.getD i 0) (by omega) (by omega), w64_idV (x := a.getD i 0 + c * b.getD i 0) (by omega) (by omega), Int.tmod_eq_emod_of_nonneg (by omega), addRow_getD (by omega) (by omega)]
    simp only [h0, h1, h2, hp0, if_true, if_false, hlt]
    rw [e, w64_succ (n := a.length) (by omega) (by omega), take_snocV (by omega)]
    exact ih k (i + 1) (by omega) (by omega) (by omega)
theorem addV_tells {a b : List Int} {c p : Int} (hp : 2 ≤ p) (hp' : p ≤ 251) (hl : a.length = b.length) (hn : a.length ≤ 17592186044416) (ha : ∀ j, 0 ≤ a.getD j 0 ∧ a.getD j 0 < p) (hb : ∀ j, 0 ≤ b.getD j 0 ∧ b.getD j 0 < p) (hc : 0 ≤ c) (hc' : c ≤ 251) {k : Nat} (hk : a.length < k) :
    impl_addTimes.f k a b c p = some (addRow p a b c) := by
  unfold impl_addTimes.f
  exact addV_loop hp hp' hl hn ha hb hc hc' a.length k 0 (by omega) (by omega) hk

/-- The call over the rows: as the printed text's. -/
def firstRow (rs : List (List Int)) (t c : Int) : Option Int :=
  if 0 ≤ t then (if t ≤ (rs.length : Int) then (if 0 ≤ c then (if ((rs.drop t.toNat).all fun l => decide (c < (l.length : Int))) = true then some (idxOf (cellAt c) (rs.drop t.toNat)) else none) else none) else none) else none
theorem cellAt_nat (c : Nat) : cellAt (c : Int) = fun r => decide (r.getD c 0 ≠ 0) := by
  funext r; unfold cellAt; rw [rd_nat]
theorem firstRow_tells {n : Nat} {rs : List (List Int)} (h : ∀ r, r ∈ rs → r.length = n) {t c : Nat} (ht : t ≤ rs.length) (hc : c < n) :
    firstRow rs t c = some (match findPivot rs t c with | some k => (k : Int) | none => -1) := by
  unfold firstRow
  rw [if_pos (by omega), if_pos (by omega), if_pos (by omega), if_pos, Int.toNat_natCast]
  · unfold idxOf findPivot; rw [cellAt_nat]; rfl
  · rw [Int.toNat_natCast]
    exact List.all_eq_true.mpr (fun r hr => decide_eq_true (by rw [h r (List.mem_of_mem_drop hr)]; omega))
/-- The first i rows are cleared. -/
def clr (p : Int) (c top : Nat) (q : List Int) (i : Nat) (R : List (List Int)) : List (List Int) := R.mapIdx (fun j r => if j < i ∧ j ≠ top then clearRow p c q r else r)
theorem clr_length (p : Int) (c top : Nat) (q : List Int) (i : Nat) (R : List (List Int)) : (clr p c top q i R).length = R.length := by unfold clr; simp
theorem clr_zero (p : Int) (c top : Nat) (q : List Int) (R : List (List Int)) : clr p c top q 0 R = R := by
  apply List.ext_getElem? ; intro j
  unfold clr
  rw [List.getElem?_mapIdx]
  cases R[j]? <;> simp
theorem clr_all (p : Int) (c top : Nat) (q : List Int) (R : List (List Int)) : clr p c top q R.length R = clearAll p c top q R := by
  apply List.ext_getElem? ; intro j
  unfold clr clearAll
  rw [List.getElem?_mapIdx, List.getElem?_mapIdx]
  by_cases hj : j < R.length
  · by_cases e : j = top
    · simp [e]
    · simp [e, hj]
  · rw [List.getElem?_eq_none (by omega)]; rfl
theorem clr_get (p : Int) (c top : Nat) (q : List Int) (i : Nat) (R : List (List Int)) {j : Nat} (hj : j < R.length) :
    (clr p c top q i R).getD j [] = if j < i ∧ j ≠ top then clearRow p c q (R.getD j []) else R.getD j [] := by
  unfold clr
  rw [List.getD_eq_getElem?_getD, List.getElem?_mapIdx, List.getD_eq_getElem?_getD, List.getElem?_eq_getElem hj]
  rfl
theorem clr_step (p : Int) (c top : Nat) (q : List Int) (i : Nat) (R : List (List Int)) (hi : i < R.length) :
    clr p c top q (i + 1) R = if i = top then clr p c top q i R else (clr p c top q i R).set i (clearRow p c q (R.getD i [])) := by
  by_cases e : i = top
  · rw [if_pos e]
    apply List.ext_getElem? ; intro j
    unfold clr
    rw [List.getElem?_mapIdx, List.getElem?_mapIdx]
    by_cases e2 : j = top
    · simp [e2]
    · have : (j < i + 1) = (j < i) := by apply propext; omega
      simp [e2, this]
  · rw [if_neg e]
    apply List.ext_getElem? ; intro j
    rw [List.getElem?_set]
    unfold clr
    rw [List.getElem?_mapIdx, List.getElem?_mapIdx]
    by_cases e2 : i = j
    · subst e2
      rw [if_pos rfl, if_pos (by rw [List.length_mapIdx]; exact hi), List.getElem?_eq_getElem hi, List.getD_eq_getElem?_getD, List.getElem?_eq_getElem hi]
      simp [e]
    · have : (j < i + 1) = (j < i) := by apply propext; omega
      rw [if_neg e2]
      simp only [this]
theorem range_of {p : Int} {r : List Int} {n : Nat} (hp : 2 ≤ p) (h : RowOk p n r) (j : Nat) : 0 ≤ r.getD j 0 ∧ r.getD j 0 < p := by
  by_cases hj : j < r.length
  · rw [List.getD_eq_getElem?_getD, List.getElem?_eq_getElem hj]; exact h.2 _ (List.getElem_mem hj)
  · rw [List.getD_eq_getElem?_getD, List.getElem?_eq_none (by omega)]; simp; omega
theorem rowOk_at {p : Int} {R : List (List Int)} {n i : Nat} (h : RowsOk p n R) (hi : i < R.length) : RowOk p n (R.getD i []) := h _ (getD_mem hi)
theorem elim_inner {p : Int} (hp : isP p = true) {n : Nat} {R : List (List Int)} (hok : RowsOk p n R) {top c : Nat} (ht : top < R.length) (hc : c < n) (hm : R.length ≤ 1048576) (hn : n ≤ 70) (piv : List Int) (hpv : piv.length ≤ 100) (det : Int) (d : Nat) :
    ∀ k i, R.length - i = d → i ≤ R.length → d + 100 < k → ∃ k', k = k' + d + 1 ∧
      impl_eliminate.l1 k n p piv det top n c R.length i (clr p c top (R.getD top []) i R) c = impl_eliminate.l0 k' n p (piv ++ [(c : Int)]) det n ((c + 1 : Nat) : Int) (clearAll p c top (R.getD top []) R) := by
  have h2 := isP_ge hp
  induction d with
  | zero =>
    intro k i hd hi hk
    obtain ⟨k, rfl⟩ : ∃ m, k = m + 1 := ⟨k - 1, by omega⟩
    obtain rfl : i = R.length := by omega
    refine ⟨k, by omega, ?_⟩
    simp only [impl_eliminate.l1]
    rw [if_neg (by omega), if_pos (by omega), clr_all, w64_succ (n := 70) (by omega) (by omega)]
  | succ d ih =>
    intro k i hd hi hk
    obtain ⟨k, rfl⟩ : ∃ m, k = m + 1 := ⟨k - 1, by omega⟩
    obtain ⟨k', e', ih⟩ := ih k (i + 1) (by omega) (by omega) (by omega)
    refine ⟨k', by omega, ?_⟩
    have hiR : i < R.length := by omega
    rw [← ih]
    have hs := clr_step p c top (R.getD top []) i R hiR
    have gi : (clr p c top (R.getD top []) i R).getD i [] = R.getD i [] := by rw [clr_get _ _ _ _ _ _ hiR, if_neg (by omega)]
    have gt : (clr p c top (R.getD top []) i R).getD top [] = R.getD top [] := by rw [clr_get _ _ _ _ _ _ ht, if_neg (by omega)]
    have okI := rowOk_at hok hiR
    have okT := rowOk_at hok ht
    have hl := clr_length p c top (R.getD top []) i R
    generalize clr p c top (R.getD top []) i R = C at hs gi gt hl ⊢
    simp only [impl_eliminate.l1]
    rw [if_pos (by omega), if_pos (by omega), if_pos (by omega), w64_succ (n := 1048576) (i := i) (by omega) (by omega)]
    by_cases e : i = top
    · rw [if_pos (by omega), hs, if_pos e]
    · rw [if_neg (by omega), if_pos (by omega), rdL_nat, gi, if_pos (by rw [okI.1]; omega), rd_nat]
      by_cases ez : (R.getD i []).getD c 0 = 0
      · rw [if_pos ez, hs, if_neg e]
        have : C.set i (clearRow p c (R.getD top []) (R.getD i [])) = C := by
          unfold clearRow
          rw [if_pos ez]
          apply List.ext_getElem? ; intro j
          rw [List.getElem?_set]
          by_cases ej : i = j
          · subst ej
            rw [if_pos rfl, if_pos (by omega), ← gi, List.getD_eq_getElem?_getD, List.getElem?_eq_getElem (show i < C.length by omega)]; rfl
          · rw [if_neg ej]
        rw [this]
      · have rI := range_of h2.1 okI
        have rT := range_of h2.1 okT
        have rc := rI c
        rw [if_neg ez, if_pos (by omega), if_pos (by omega), rdL_nat, gt, w64_idV (x := p - (R.getD i []).getD c 0) (by omega) (by omega),
          addV_tells h2.1 h2.2 (by rw [okI.1, okT.1]) (by rw [okI.1]; omega) rI rT (by omega) (by omega) (by rw [okI.1]; omega), Option.bind_some, Int.toNat_natCast, hs, if_neg e]
        unfold clearRow
        rw [if_neg ez]
theorem reduce_small {p x : Int} (hp : 2 ≤ p) (hp' : p ≤ 251) (hx : -1000000 ≤ x) (hx' : x ≤ 1000000) : impl_reduce.f x p = some (x % p) := by
  unfold impl_reduce.f
  rw [if_neg (by omega)]
  have h1 : -p < Int.tmod x p := Int.lt_tmod_of_pos _ (by omega)
  have h2 : Int.tmod x p < p := Int.tmod_lt_of_pos _ (by omega)
  rw [w64_idV (x := Int.tmod x p + p) (by omega) (by omega), Int.tmod_eq_emod_of_nonneg (by omega), Int.add_emod_right]
  congr 1
  have h := Int.mul_tdiv_add_tmod x p
  have : x = Int.tmod x p + p * (Int.tdiv x p) := by omega
  conv => rhs; rw [this]
  rw [Int.add_mul_emod_self_left]
theorem addRow_zeros {p : Int} (n : Nat) (r : List Int) (hr : r.length = n) (c : Int) : addRow p (List.replicate n 0) r c = r.map (fun x => c * x % p) := by
  refine ext_getD (by unfold addRow; simp [hr]) (fun j hj => ?_)
  have hj' : j < n := by unfold addRow at hj; simp [hr] at hj; omega
  rw [addRow_getD (by simp; omega) (by omega)]
  have e0 : (List.replicate n (0 : Int)).getD j 0 = 0 := by simp [List.getD_eq_getElem?_getD, List.getElem?_replicate, hj']
  rw [e0, Int.zero_add]
  simp [List.getD_eq_getElem?_getD, List.getElem?_map, List.getElem?_eq_getElem (show j < r.length by omega)]
/-- A pivot is there: the row is scaled and the others are cleared. -/
theorem elim_j1 {p : Int} (hp : isP p = true) {n : Nat} {R : List (List Int)} (hok : RowsOk p n R) {top c : Nat} (ht : top < R.length) (hc : c < n) (hm : R.length ≤ 1048576) (hn : n ≤ 70) (piv : List Int) (hpv : piv.length ≤ 100) {det : Int} (hd : 0 ≤ det) (hd' : det < p) {k : Nat} (hk : R.length + 200 < k) :
    ∃ k', k = k' + R.length + 2 ∧ impl_eliminate.j1 k n p piv det top n c R c =
      impl_eliminate.l0 k' n p (piv ++ [(c : Int)]) (det * cell R top c % p) n ((c + 1 : Nat) : Int) (clearAll p c top ((R.getD top []).map (fun x => pinv p (cell R top c) * x % p)) (R.set top ((R.getD top []).map (fun x => pinv p (cell R top c) * x % p)))) := by
  have h2 := isP_ge hp
  have okT := rowOk_at hok ht
  have rT := range_of h2.1 okT
  have rc := rT c
  obtain ⟨k, rfl⟩ : ∃ m, k = m + 1 := ⟨k - 1, by omega⟩
  have hcell : cell R top c = (R.getD top []).getD c 0 := rfl
  have hq : RowOk p n ((R.getD top []).map (fun x => pinv p (cell R top c) * x % p)) := scale_ok _ (by omega) okT.1
  have hokS := RowsOk.set hok hq top
  obtain ⟨k', e', hin⟩ := elim_inner hp hokS (top := top) (c := c) (by simp; omega) hc (by simp; omega) hn piv hpv (det * cell R top c % p) (R.set top ((R.getD top []).map (fun x => pinv p (cell R top c) * x % p))).length k 0 (by omega) (by omega) (by simp; omega)
  rw [clr_zero, getD_set _ _ _ _ ht, if_pos rfl] at hin
  simp only [List.length_set] at e' hin
  refine ⟨k', by omega, ?_⟩
  rw [← hin]
  have hpi := pinv_range (p := p) (a := cell R top c) hp
  simp only [impl_eliminate.j1]
  rw [if_pos (by omega), if_pos (by omega), if_pos (by omega), rdL_nat, if_pos (by rw [okT.1]; omega), if_neg (by omega), if_pos (by omega), if_pos (by rw [Int.toNat_natCast]; omega), rd_nat,
    inverse_tells hp rc.1 rc.2 (by omega), Option.bind_some, Int.toNat_natCast]
  rw [addV_tells h2.1 h2.2 (by rw [okT.1]; simp) (by simp; omega) (fun j => by
      have : (List.replicate n (0 : Int)).getD j 0 = 0 := by
        rw [List.getD_eq_getElem?_getD, List.getElem?_replicate]; split <;> rfl
      rw [this]; omega) rT (by rw [← hcell]; omega) (by rw [← hcell]; omega) (by simp; omega), Option.bind_some, addRow_zeros n _ okT.1, Int.toNat_natCast]
  have hsm := mul_smallV h2.1 h2.2 hd (by omega) rc.1 rc.2
  rw [w64_idV (x := det * (R.getD top []).getD c 0) (by omega) (by omega), Int.tmod_eq_emod_of_nonneg hsm.1, ← hcell]
  rfl
/-- THE ELIMINATION IN THE PROGRAM. -/
theorem elim_loop {p : Int} (hp : isP p = true) {n : Nat} {rs : List (List Int)} (hm : rs.length ≤ 1048576) (hn : n ≤ 70) (hok : RowsOk p n rs) (d : Nat) :
    ∀ k c, n - c = d → c ≤ n → d * (rs.length + 4) + 300 < k →
      impl_eliminate.l0 k n p (elimTo p rs c).2.1 (elimTo p rs c).2.2 n c (elimTo p rs c).1 = some ((elim p n rs).2.1, (elim p n rs).2.2, (elim p n rs).1) := by
  have h2 := isP_ge hp
  induction d with
  | zero =>
    intro k c hd hc hk
    obtain ⟨k, rfl⟩ : ∃ m, k = m + 1 := ⟨k - 1, by omega⟩
    obtain rfl : c = n := by omega
    simp only [impl_eliminate.l0]
    rw [if_neg (by omega)]
    rfl
  | succ d ih =>
    intro k c hd hc hk
    obtain ⟨k, rfl⟩ : ∃ m, k = m + 1 := ⟨k - 1, by omega⟩
    have hcn : c < n := by omega
    have hmul : (d + 1) * (rs.length + 4) = d * (rs.length + 4) + (rs.length + 4) := by rw [Nat.add_mul, Nat.one_mul]
    have ih2 : ∀ k', d * (rs.length + 4) + 300 < k' → impl_eliminate.l0 k' n p (elimTo p rs (c + 1)).2.1 (elimTo p rs (c + 1)).2.2 n ((c + 1 : Nat) : Int) (elimTo p rs (c + 1)).1 = _ := fun k' hk' => ih k' (c + 1) (by omega) (by omega) hk'
    obtain ⟨t1, t2, t7, hle, t6, t8⟩ := elimTo_small hp hok c hc
    rw [elimTo_succ] at ih2
    generalize elimTo p rs c = s at *
    obtain ⟨R, piv, det⟩ := s
    dsimp only at *
    have hf := firstRow_tells (fun x hx => (t1 x hx).1) (t := piv.length) (c := c) (rs := R) (by omega) hcn
    simp only [impl_eliminate.l0]
    rw [if_pos (by omega)]
    show Option.bind (firstRow R (piv.length : Int) (c : Int)) _ = _
    rw [hf, Option.bind_some]
    cases hp1 : findPivot R piv.length c with
    | none =>
      rw [elimStep_none hp1] at ih2
      dsimp only at ih2 ⊢
      rw [if_pos (by omega), w64_succ (n := 70) (by omega) (by omega)]
      exact ih2 k (by omega)
    | some q =>
      obtain ⟨b1, b2⟩ := findPivot_some hp1
      have hst : elimStep p (R, piv, det) c = (clearAll p c piv.length (((if q = 0 then R else swapRows R piv.length (piv.length + q)).getD piv.length []).map (fun x => pinv p (cell (if q = 0 then R else swapRows R piv.length (piv.length + q)) piv.length c) * x % p)) ((if q = 0 then R else swapRows R piv.length (piv.length + q)).set piv.length (((if q = 0 then R else swapRows R piv.length (piv.length + q)).getD piv.length []).map (fun x => pinv p (cell (if q = 0 then R else swapRows R piv.length (piv.length + q)) piv.length c) * x % p))), piv ++ [(c : Int)], (if q = 0 then det else -det % p) * cell (if q = 0 then R else swapRows R piv.length (piv.length + q)) piv.length c % p) := by
        unfold elimStep; simp only [hp1]
      rw [hst] at ih2
      clear hst
      dsimp only at ih2 ⊢
      rw [if_neg (by omega)]
      by_cases e : q = 0
      · subst e
        simp only [if_true] at ih2
        rw [if_neg (show ¬ (((0 : Nat) : Int) > 0) by decide)]
        obtain ⟨k', ek, hj⟩ := elim_j1 hp t1 (top := piv.length) (c := c) (by omega) hcn (by omega) hn piv (by omega) t6.1 t6.2 (k := k) (by omega)
        rw [hj]
        exact ih2 k' (by omega)
      · simp only [if_neg e] at ih2
        have z1 : ((q : Nat) : Int) > 0 := by omega
        have z2 : (0 : Int) ≤ ((piv.length + q : Nat) : Int) := by omega
        have z3 : ((piv.length + q : Nat) : Int) < (R.length : Int) := by omega
        have z4 : (0 : Int) ≤ (piv.length : Int) := by omega
        have z5 : (piv.length : Int) < (R.length : Int) := by omega
        have z6 : -9223372036854775808 ≤ (piv.length : Int) + (q : Int) := by omega
        have z7 : (piv.length : Int) + (q : Int) ≤ 9223372036854775807 := by omega
        have z8 : (piv.length : Int) + (q : Int) = ((piv.length + q : Nat) : Int) := by omega
        have z9 : -9223372036854775808 ≤ -det := by omega
        have z10 : -det ≤ 9223372036854775807 := by omega
        have z11 : impl_reduce.f (-det) p = some (-det % p) := reduce_small h2.1 h2.2 (by omega) (by omega)
        rw [if_pos z1, w64_idV z6 z7, z8, if_pos z2, if_pos z3, if_pos z4, if_pos z5, w64_idV z9 z10, z11, Option.bind_some, rdL_nat, rdL_nat, Int.toNat_natCast, Int.toNat_natCast]
        have hsw : (R.set piv.length (R.getD (piv.length + q) [])).set (piv.length + q) (R.getD piv.length []) = swapRows R piv.length (piv.length + q) := rfl
        rw [hsw]
        have hl := swapRows_length R piv.length (piv.length + q)
        have hokW := RowsOk.swap t1 (a := piv.length) (b := piv.length + q) (by omega) b1
        obtain ⟨k', ek, hj⟩ := elim_j1 hp hokW (top := piv.length) (c := c) (by omega) hcn (by omega) hn piv (by omega) (det := -det % p) (Int.emod_nonneg _ (by omega)) (Int.emod_lt_of_pos _ (by omega)) (k := k) (by omega)
        rw [hj]
        exact ih2 k' (by omega)
theorem elim_tells {p : Int} (hp : isP p = true) {n : Nat} {rs : List (List Int)} (hm : rs.length ≤ 64) (hn : n ≤ 70) (hok : RowsOk p n rs) {k : Nat} (hk : 6000 ≤ k) :
    impl_eliminate.l0 k n p [] 1 n 0 rs = some ((elim p n rs).2.1, (elim p n rs).2.2, (elim p n rs).1) := by
  have h : n * (rs.length + 4) ≤ 70 * 68 := Nat.mul_le_mul hn (by omega)
  exact elim_loop hp (by omega) hn hok n k 0 (by omega) (by omega) (by omega)
theorem elim_tellsL {p : Int} (hp : isP p = true) {n : Nat} {rs : List (List Int)} (hm : rs.length ≤ 1048576) (hn : n ≤ 70) (hok : RowsOk p n rs) {k : Nat} (hk : 74000000 ≤ k) :
    impl_eliminate.l0 k n p [] 1 n 0 rs = some ((elim p n rs).2.1, (elim p n rs).2.2, (elim p n rs).1) := by
  have h : n * (rs.length + 4) ≤ 70 * 1048580 := Nat.mul_le_mul hn (by omega)
  exact elim_loop hp hm hn hok n k 0 (by omega) (by omega) (by omega)

theorem copyL_loop {l : List (List Int)} (hm : l.length ≤ 1048576) (hr : ∀ r ∈ l, r.length ≤ 1048576) (d : Nat) : ∀ (k i : Nat), l.length - i = d → i ≤ l.length → d < k → impl_copyLists.l0 k (l.take i) l l.length i = some l := by
  induction d with
  | zero =>
    intro k i hd hi hk
    obtain ⟨k, rfl⟩ : ∃ m, k = m + 1 := ⟨k - 1, by omega⟩
    simp only [impl_copyLists.l0]
    rw [if_neg (by omega), List.take_of_length_le (by omega)]
  | succ d ih =>
    intro k i hd hi hk
    obtain ⟨k, rfl⟩ : ∃ m, k = m + 1 := ⟨k - 1, by omega⟩
    have hlt : i < l.length := by omega
    have hw := hr _ (row_mem hlt)
    simp only [impl_copyLists.l0]
    unfold slices_Clone_int64_int64.o.f
    rw [if_pos (by omega), if_pos (by omega), if_pos (by omega), rdS_nat, if_pos (by omega), Option.bind_some, if_pos (by rw [List.length_take]; omega), w64_succ (n := l.length) hlt (by omega)]
    have e : l.take i ++ [l.getD i []] = l.take (i + 1) := by rw [List.take_add_one, List.getElem?_eq_getElem hlt, getD_at hlt]; rfl
    rw [e]
    exact ih k (i + 1) (by omega) (by omega) (by omega)
theorem copyL_tells {l : List (List Int)} (hm : l.length ≤ 1048576) (hr : ∀ r ∈ l, r.length ≤ 1048576) {k : Nat} (hk : 1048577 ≤ k) : impl_copyLists.f k l = some l := by
  unfold impl_copyLists.f
  exact copyL_loop hm hr l.length k 0 (by omega) (by omega) (by omega)
theorem rows_short {p : Int} {n : Nat} {rs : List (List Int)} (hok : RowsOk p n rs) (hn : n ≤ 70) : ∀ r ∈ rs, r.length ≤ 1048576 := fun r hr => by have := (hok r hr).1; omega
/-- The basis: the rows that the elimination has found pivots for. -/
def basisOf (p : Int) (n : Nat) (rs : List (List Int)) : List (List Int) := (elim p n rs).1.take (elim p n rs).2.1.length
theorem spaceI_tells {p : Int} (hp : isP p = true) {n : Nat} (hn : n ≤ 32) {rs : List (List Int)} (hok : RowsOk p n rs) (hm : rs.length ≤ 1048576) {k : Nat} (hk : 74000000 ≤ k) : impl_spaceOf.f k p n rs = some (p, (n : Int), basisOf p n rs) := by
  obtain ⟨t1, t2, t3, t4, _, _⟩ := elimTo_small hp hok n (Nat.le_refl _)
  unfold impl_spaceOf.f impl_spaceOf.elimR.f basisOf
  rw [copyL_tells hm (rows_short hok (by omega)) (by omega), Option.bind_some, elim_tellsL hp hm (by omega) hok hk, Option.bind_some]
  show (if 0 ≤ ((elim p n rs).2.1.length : Int) then (if ((elim p n rs).2.1.length : Int) ≤ ((elim p n rs).1.length : Int) then _ else none) else none) = _
  have e1 : (elim p n rs).1.length = rs.length := t2
  have e2 : (elim p n rs).2.1.length ≤ rs.length := t4
  have e3 : RowsOk p n (elim p n rs).1 := t1
  rw [if_pos (by omega), if_pos (by omega), Int.toNat_natCast]
  show Option.bind (impl_copyLists.f k ((elim p n rs).1.take (elim p n rs).2.1.length)) _ = _
  rw [copyL_tells (by rw [List.length_take]; omega) (fun r hr => rows_short e3 (by omega) r (List.mem_of_mem_take hr)) (by omega), Option.bind_some]

theorem rdt {r c i j : Nat} (f : Nat → Nat → Int) (hi : i < r) (hj : j < c) : rd (tab r c f) ((i * c + j : Nat) : Int) = f i j := by rw [rd_nat, tab_at f hi hj]
theorem ne_nat {i n : Nat} (h : i ≠ n) : ¬ (i : Int) = (n : Int) := by omega
theorem modS {p x : Int} (hp : 2 ≤ p) (hp' : p ≤ 251) (hx : -1000000 ≤ x) (hx' : x ≤ 1000000) : spec_l03Mod.f x p = some (x % p) := by
  unfold spec_l03Mod.f
  rw [if_neg (by omega)]
  have h1 : -p < Int.tmod x p := Int.lt_tmod_of_pos _ (by omega)
  have h2 : Int.tmod x p < p := Int.tmod_lt_of_pos _ (by omega)
  rw [w64_idV (x := Int.tmod x p + p) (by omega) (by omega), Int.tmod_eq_emod_of_nonneg (by omega), Int.add_emod_right]
  congr 1
  have h := Int.mul_tdiv_add_tmod x p
  have : x = Int.tmod x p + p * (Int.tdiv x p) := by omega
  conv => rhs; rw [this]
  rw [Int.add_mul_emod_self_left]
section
variable {p : Int} {R C : Nat} {piv ml : List Int} {det mp m2 op o1 o2 : Int}
def sw (f : Nat → Nat → Int) (x y a b : Nat) : Int := if a = x then f y b else if a = y then f x b else f a b
theorem find_loop (hR : R ≤ 64) (hC : C ≤ 70) (f : Nat → Nat → Int) {row c : Nat} (hc : c < C) (d : Nat) : ∀ k q, R - q = d → q ≤ R → d < k → (∀ i, row ≤ i → i < q → f i c = 0) →
    ∃ k' q', k ≤ k' + d + 1 ∧ q ≤ q' ∧ q' ≤ R ∧ (∀ i, row ≤ i → i < q' → f i c = 0) ∧ (q' < R → f q' c ≠ 0) ∧
      spec_l03Reduced.l1 k p C piv det row c q mp R m2 ml op o1 o2 (tab R C f) = spec_l03Reduced.j3 k' p C piv det row c q' mp R m2 ml op o1 o2 (tab R C f) := by
  induction d with
  | zero =>
    intro k q hd hq hk h
    obtain ⟨k, rfl⟩ : ∃ m, k = m + 1 := ⟨k - 1, by omega⟩
    refine ⟨k, q, by omega, Nat.le_refl _, hq, h, fun e => by omega, ?_⟩
    simp only [spec_l03Reduced.l1]
    rw [if_neg (nlt_nat (by omega))]
  | succ d ih =>
    intro k q hd hq hk h
    obtain ⟨k, rfl⟩ : ∃ m, k = m + 1 := ⟨k - 1, by omega⟩
    have hqR : q < R := by omega
    by_cases e : f q c = 0
    · obtain ⟨k', q', e1, e2, e3, e4, e5, e6⟩ := ih k (q + 1) (by omega) (by omega) (by omega) (fun i h1 h2 => by
        by_cases h3 : i = q
        · rw [h3]; exact e
        · exact h i h1 (by omega))
      refine ⟨k', q', by omega, by omega, e3, e4, e5, ?_⟩
      rw [← e6]
      simp only [spec_l03Reduced.l1]
      rw [if_pos (lt_nat hqR), w64_at (r := R) (by omega) (by omega) (by omega) (by omega), if_pos (idx0 _), if_pos (idx1 f hqR hc), rdt f hqR hc, if_pos e, w64_succ (n := 64) (by omega) (by omega)]
    · refine ⟨k, q, by omega, Nat.le_refl _, hq, h, fun _ => e, ?_⟩
      simp only [spec_l03Reduced.l1]
      rw [if_pos (lt_nat hqR), w64_at (r := R) (by omega) (by omega) (by omega) (by omega), if_pos (idx0 _), if_pos (idx1 f hqR hc), rdt f hqR hc, if_neg e]
theorem swap_loop (hR : R ≤ 64) (hC : C ≤ 70) (f : Nat → Nat → Int) {row c q : Nat} (hq : q < R) (hr : row < R) (hne : q ≠ row) (d : Nat) : ∀ k j, C - j = d → j ≤ C → d < k →
    ∃ k', k ≤ k' + d + 1 ∧ spec_l03Reduced.l2 k p C piv det row c q j mp R m2 ml op o1 o2 (tab R C (fun a b => if b < j then sw f row q a b else f a b)) = spec_l03Reduced.j5 k' p C piv det row c mp R m2 ml op o1 o2 (tab R C (sw f row q)) := by
  induction d with
  | zero =>
    intro k j hd hj hk
    obtain ⟨k, rfl⟩ : ∃ m, k = m + 1 := ⟨k - 1, by omega⟩
    refine ⟨k, by omega, ?_⟩
    simp only [spec_l03Reduced.l2]
    rw [if_neg (nlt_nat (by omega)), tab_congr (g := sw f row q) (fun a b ha hb => by rw [if_pos (by omega)])]
  | succ d ih =>
    intro k j hd hj hk
    obtain ⟨k, rfl⟩ : ∃ m, k = m + 1 := ⟨k - 1, by omega⟩
    have hjC : j < C := by omega
    obtain ⟨k', e1, e2⟩ := ih k (j + 1) (by omega) (by omega) (by omega)
    refine ⟨k', by omega, ?_⟩
    rw [← e2]
    simp only [spec_l03Reduced.l2]
    rw [if_pos (lt_nat hjC), w64_at (r := R) (i := q) (by omega) (by omega) (by omega) (by omega), w64_at (r := R) (i := row) (by omega) (by omega) (by omega) (by omega), if_pos (idx0 _), if_pos (idx1 _ hq hjC), if_pos (idx0 _), if_pos (idx1 _ hr hjC),
      rdt _ hq hjC, rdt _ hr hjC, Int.toNat_natCast, Int.toNat_natCast, tab_set _ hq hjC, tab_set _ hr hjC, w64_succ (n := 70) (by omega) (by omega)]
    congr 1
    refine tab_congr (fun a b ha hb => ?_)
    unfold sw
    by_cases e1 : a = row
    · subst e1
      by_cases e2 : b = j
      · subst e2; simp [Nat.lt_irrefl]
      · have : (b < j + 1) = (b < j) := by apply propext; omega
        simp [e2, this]
    · by_cases e3 : a = q
      · subst e3
        by_cases e2 : b = j
        · subst e2; simp [e1, Nat.lt_irrefl]
        · have : (b < j + 1) = (b < j) := by apply propext; omega
          simp [e2, this, e1]
      · simp [e1, e3]
theorem scale_loop (hp : 2 ≤ p) (hp' : p ≤ 251) (hR : R ≤ 64) (hC : C ≤ 70) (f : Nat → Nat → Int) (hf : ∀ i j, 0 ≤ f i j ∧ f i j < p) {row c : Nat} (hr : row < R) {inv : Int} (hi : 0 ≤ inv ∧ inv < p) (d : Nat) : ∀ k j, C - j = d → j ≤ C → d < k →
    ∃ k', k ≤ k' + d + 1 ∧ spec_l03Reduced.l3 k p C piv det row c inv j mp R m2 ml op o1 o2 (tab R C (fun a b => if a = row ∧ b < j then f a b * inv % p else f a b)) = spec_l03Reduced.l4 k' p C piv det row c 0 mp R m2 ml op o1 o2 (tab R C (fun a b => if a = row then f a b * inv % p else f a b)) := by
  induction d with
  | zero =>
    intro k j hd hj hk
    obtain ⟨k, rfl⟩ : ∃ m, k = m + 1 := ⟨k - 1, by omega⟩
    refine ⟨k, by omega, ?_⟩
    simp only [spec_l03Reduced.l3]
    rw [if_neg (nlt_nat (by omega)), tab_congr (g := fun a b => if a = row then f a b * inv % p else f a b) (fun a b ha hb => by
      by_cases e : a = row
      · rw [if_pos ⟨e, by omega⟩, if_pos e]
      · rw [if_neg (fun h => e h.1), if_neg e])]
  | succ d ih =>
    intro k j hd hj hk
    obtain ⟨k, rfl⟩ : ∃ m, k = m + 1 := ⟨k - 1, by omega⟩
    have hjC : j < C := by omega
    obtain ⟨k', e1, e2⟩ := ih k (j + 1) (by omega) (by omega) (by omega)
    refine ⟨k', by omega, ?_⟩
    rw [← e2]
    simp only [spec_l03Reduced.l3]
    have hs := smallS hp hp' (hf row j).1 (by have := (hf row j).2; omega) hi.1 hi.2
    rw [if_pos (lt_nat hjC), w64_at (r := R) (i := row) (by omega) (by omega) (by omega) (by omega), if_pos (idx0 _), if_pos (idx1 _ hr hjC), if_neg (by omega),
      rdt _ hr hjC, Int.toNat_natCast, w64_succ (n := 70) (by omega) (by omega), if_neg (by omega), w64_idV (x := f row j * inv) (by omega) (by omega), Int.tmod_eq_emod_of_nonneg hs.1, tab_set _ hr hjC]
    congr 1
    refine tab_congr (fun a b ha hb => ?_)
    by_cases e1 : a = row
    · subst e1
      by_cases e2 : b = j
      · subst e2; simp
      · have : (b < j + 1) = (b < j) := by apply propext; omega
        simp [e2, this]
    · simp [e1]
theorem clear_loop (hp : 2 ≤ p) (hp' : p ≤ 251) (hR : R ≤ 64) (hC : C ≤ 70) (f : Nat → Nat → Int) (hf : ∀ i j, 0 ≤ f i j ∧ f i j < p) {row c i : Nat} (hr : row < R) (hi : i < R) (hne : i ≠ row) {v : Int} (hv : 0 ≤ v ∧ v < p) (d : Nat) : ∀ k j, C - j = d → j ≤ C → d < k →
    ∃ k', k ≤ k' + d + 1 ∧ spec_l03Reduced.l5 k p C piv det row c i v j mp R m2 ml op o1 o2 (tab R C (fun a b => if a = i ∧ b < j then (f a b - v * f row b) % p else f a b)) = spec_l03Reduced.l4 k' p C piv det row c ((i + 1 : Nat) : Int) mp R m2 ml op o1 o2 (tab R C (fun a b => if a = i then (f a b - v * f row b) % p else f a b)) := by
  induction d with
  | zero =>
    intro k j hd hj hk
    obtain ⟨k, rfl⟩ : ∃ m, k = m + 1 := ⟨k - 1, by omega⟩
    refine ⟨k, by omega, ?_⟩
    simp only [spec_l03Reduced.l5]
    rw [if_neg (nlt_nat (by omega)), w64_succ (n := 64) (by omega) (by omega), tab_congr (g := fun a b => if a = i then (f a b - v * f row b) % p else f a b) (fun a b ha hb => by
      by_cases e : a = i
      · rw [if_pos ⟨e, by omega⟩, if_pos e]
      · rw [if_neg (fun h => e h.1), if_neg e])]
  | succ d ih =>
    intro k j hd hj hk
    obtain ⟨k, rfl⟩ : ∃ m, k = m + 1 := ⟨k - 1, by omega⟩
    have hjC : j < C := by omega
    obtain ⟨k', e1, e2⟩ := ih k (j + 1) (by omega) (by omega) (by omega)
    refine ⟨k', by omega, ?_⟩
    rw [← e2]
    simp only [spec_l03Reduced.l5]
    have hs := smallS hp hp' hv.1 (by omega) (hf row j).1 (hf row j).2
    have hx := hf i j
    rw [if_pos (lt_nat hjC), w64_at (r := R) (i := i) (by omega) (by omega) (by omega) (by omega), w64_at (r := R) (i := row) (by omega) (by omega) (by omega) (by omega), if_pos (idx0 _), if_pos (idx1 _ hi hjC), if_pos (idx0 _), if_pos (idx1 _ hr hjC),
      rdt _ hi hjC, rdt _ hr hjC, Int.toNat_natCast, w64_succ (n := 70) (by omega) (by omega), if_neg (by omega), if_neg (by omega), w64_idV (x := v * f row j) (by omega) (by omega), w64_idV (x := f i j - v * f row j) (by omega) (by omega),
      modS hp hp' (by omega) (by omega), Option.bind_some, tab_set _ hi hjC]
    congr 1
    refine tab_congr (fun a b ha hb => ?_)
    by_cases e1 : a = i
    · subst e1
      by_cases e2 : b = j
      · subst e2; simp
      · have : (b < j + 1) = (b < j) := by apply propext; omega
        simp [e2, this]
    · simp [e1]
/-- A row of the matrix less its multiple of the pivot's row. -/
def cleared (p : Int) (f : Nat → Nat → Int) (row c a b : Nat) : Int := if f a c = 0 then f a b else (f a b - f a c * f row b) % p
theorem rows_loop (hp : 2 ≤ p) (hp' : p ≤ 251) (hR : R ≤ 64) (hC : C ≤ 70) (f : Nat → Nat → Int) (hf : ∀ i j, 0 ≤ f i j ∧ f i j < p) {row c : Nat} (hr : row < R) (hc : c < C) (hpv : piv.length ≤ 100) (d : Nat) : ∀ k i, R - i = d → i ≤ R → d * (C + 3) + 1 < k →
    ∃ k', k ≤ k' + d * (C + 3) + 1 ∧ spec_l03Reduced.l4 k p C piv det row c i mp R m2 ml op o1 o2 (tab R C (fun a b => if a < i ∧ a ≠ row then cleared p f row c a b else f a b)) =
      spec_l03Reduced.l0 k' p C (piv ++ [(c : Int)]) det ((row + 1 : Nat) : Int) ((c + 1 : Nat) : Int) mp R m2 ml op o1 o2 (tab R C (fun a b => if a ≠ row then cleared p f row c a b else f a b)) := by
  induction d with
  | zero =>
    intro k i hd hi hk
    obtain ⟨k, rfl⟩ : ∃ m, k = m + 1 := ⟨k - 1, by omega⟩
    refine ⟨k, by omega, ?_⟩
    simp only [spec_l03Reduced.l4]
    rw [if_neg (nlt_nat (by omega)), if_pos (by omega), w64_succ (n := 64) (i := row) (by omega) (by omega), w64_succ (n := 70) (i := c) (by omega) (by omega), tab_congr (g := fun a b => if a ≠ row then cleared p f row c a b else f a b) (fun a b ha hb => by
      by_cases e : a ≠ row
      · rw [if_pos ⟨by omega, e⟩, if_pos e]
      · rw [if_neg (fun h => e h.2), if_neg e])]
  | succ d ih =>
    intro k i hd hi hk
    obtain ⟨k, rfl⟩ : ∃ m, k = m + 1 := ⟨k - 1, by omega⟩
    obtain ⟨k, rfl⟩ : ∃ m, k = m + 1 := ⟨k - 1, by omega⟩
    have hiR : i < R := by omega
    have hm : (d + 1) * (C + 3) = d * (C + 3) + (C + 3) := by rw [Nat.add_mul, Nat.one_mul]
    simp only [spec_l03Reduced.l4]
    rw [if_pos (lt_nat hiR), w64_at (r := R) (by omega) (by omega) (by omega) (by omega), if_pos (idx0 _), if_pos (idx1 _ hiR hc), rdt _ hiR hc, if_neg (show ¬ (i < i ∧ i ≠ row) from fun h => Nat.lt_irrefl _ h.1)]
    by_cases e : i = row
    · obtain ⟨k', e1, e2⟩ := ih (k + 0) (i + 1) (by omega) (by omega) (by omega)
      refine ⟨k', by omega, ?_⟩
      rw [← e2, if_pos (by rw [e])]
      simp only [spec_l03Reduced.j8]
      rw [if_pos trivial, w64_succ (n := 64) (by omega) (by omega)]
      congr 1
      refine tab_congr (fun a b ha hb => ?_)
      by_cases e3 : a = row
      · simp [e3]
      · have : (a < i + 1) = (a < i) := by apply propext; omega
        simp [e3, this]
    · rw [if_neg (ne_nat e)]
      by_cases ez : f i c = 0
      · obtain ⟨k', e1, e2⟩ := ih k (i + 1) (by omega) (by omega) (by omega)
        refine ⟨k', by omega, ?_⟩
        rw [← e2]
        simp only [spec_l03Reduced.j8]
        rw [if_pos (by rw [ez]; rfl), w64_succ (n := 64) (by omega) (by omega)]
        congr 1
        refine tab_congr (fun a b ha hb => ?_)
        by_cases e3 : a = i
        · subst e3; simp [e, cleared, ez]
        · have : (a < i + 1) = (a < i) := by apply propext; omega
          simp [this]
      · have hg : ∀ a b, 0 ≤ (if a < i ∧ a ≠ row then cleared p f row c a b else f a b) ∧ (if a < i ∧ a ≠ row then cleared p f row c a b else f a b) < p := fun a b => by
          by_cases h : a < i ∧ a ≠ row
          · rw [if_pos h]; unfold cleared
            by_cases h2 : f a c = 0
            · rw [if_pos h2]; exact hf a b
            · rw [if_neg h2]; exact ⟨Int.emod_nonneg _ (by omega), Int.emod_lt_of_pos _ (by omega)⟩
          · rw [if_neg h]; exact hf a b
        obtain ⟨k1, c1, c2⟩ := clear_loop (p := p) (R := R) (C := C) (piv := piv) (ml := ml) (det := det) (mp := mp) (m2 := m2) (op := op) (o1 := o1) (o2 := o2) hp hp' hR hC _ hg hr hiR e (c := c) (v := f i c) (hf i c) C k 0 (by omega) (by omega) (by omega)
        obtain ⟨k', e1, e2⟩ := ih k1 (i + 1) (by omega) (by omega) (by omega)
        refine ⟨k', by omega, ?_⟩
        rw [← e2]
        simp only [spec_l03Reduced.j8]
        rw [if_neg (by simp [ez])]
        have c0 := tab_congr (r := R) (c := C) (f := fun a b => if a = i ∧ b < 0 then ((if a < i ∧ a ≠ row then cleared p f row c a b else f a b) - f i c * (if row < i ∧ row ≠ row then cleared p f row c row b else f row b)) % p else (if a < i ∧ a ≠ row then cleared p f row c a b else f a b)) (g := fun a b => if a < i ∧ a ≠ row then cleared p f row c a b else f a b) (fun a b ha hb => by rw [if_neg (fun h => Nat.not_lt_zero _ h.2)])
        rw [c0] at c2
        refine c2.trans ?_
        congr 1
        refine tab_congr (fun a b ha hb => ?_)
        by_cases e3 : a = i
        · subst e3; simp [e, cleared, ez, Nat.lt_irrefl]
        · have : (a < i + 1) = (a < i) := by apply propext; omega
          simp [e3, this]
theorem inv_loop (hp : 2 ≤ p) (hp' : p ≤ 251) {a : Int} (h0 : 0 ≤ a) (h1 : a < p) (n : Nat) : ∀ (k : Nat) (acc : Int), n < k → n ≤ 300 → 0 ≤ acc → acc < p → spec_l03Inverse.l0 k a p acc n = some (acc * a ^ n % p) := by
  induction n with
  | zero =>
    intro k acc hk _ g0 g1
    obtain ⟨k, rfl⟩ : ∃ m, k = m + 1 := ⟨k - 1, by omega⟩
    simp only [spec_l03Inverse.l0]
    rw [if_neg (by simp), Int.pow_zero, Int.mul_one, Int.emod_eq_of_lt g0 g1]
  | succ n ih =>
    intro k acc hk hn g0 g1
    obtain ⟨k, rfl⟩ : ∃ m, k = m + 1 := ⟨k - 1, by omega⟩
    have hs := smallS hp hp' g0 (by omega) h0 h1
    simp only [spec_l03Inverse.l0]
    have e1 : ((n + 1 : Nat) : Int) - 1 = (n : Int) := by omega
    rw [if_pos (by omega), if_neg (by omega), w64_idV (x := acc * a) (by omega) (by omega), Int.tmod_eq_emod_of_nonneg hs.1, e1, w64_idV (x := (n : Int)) (by omega) (by omega),
      ih k _ (by omega) (by omega) (Int.emod_nonneg _ (by omega)) (Int.emod_lt_of_pos _ (by omega)), Int.mul_emod, Int.emod_emod_of_dvd _ (Int.dvd_refl p), ← Int.mul_emod, Int.mul_assoc]
    congr 3
    rw [Int.pow_succ, Int.mul_comm]
theorem invS {a : Int} (hp : isP p = true) (h0 : 0 ≤ a) (h1 : a < p) {k : Nat} (hk : 300 ≤ k) : spec_l03Inverse.f k a p = some (pinv p a) := by
  have h := isP_ge hp
  unfold spec_l03Inverse.f
  rw [w64_idV (x := p - 2) (by omega) (by omega), show p - 2 = (((p - 2).toNat : Nat) : Int) by omega, inv_loop h.1 h.2 h0 h1 _ k 1 (by omega) (by omega) (by omega) (by omega), Int.one_mul]
  rfl
/-- What a pivot makes of the matrix. -/
def pivoted (p : Int) (f : Nat → Nat → Int) (row c : Nat) : Nat → Nat → Int :=
  fun a b => if a ≠ row then cleared p (fun a b => if a = row then f a b * pinv p (f row c) % p else f a b) row c a b else (if a = row then f a b * pinv p (f row c) % p else f a b)
theorem step5 (hp : isP p = true) (hR : R ≤ 64) (hC : C ≤ 70) (f : Nat → Nat → Int) (hf : ∀ i j, 0 ≤ f i j ∧ f i j < p) {row c : Nat} (hr : row < R) (hc : c < C) (hpv : piv.length ≤ 100) (hd : 0 ≤ det) (hd' : det ≤ 251) {k : Nat} (hk : 6000 ≤ k) :
    ∃ k', k ≤ k' + 5000 ∧ spec_l03Reduced.j5 k p C piv det row c mp R m2 ml op o1 o2 (tab R C f) =
      spec_l03Reduced.l0 k' p C (piv ++ [(c : Int)]) (det * f row c % p) ((row + 1 : Nat) : Int) ((c + 1 : Nat) : Int) mp R m2 ml op o1 o2 (tab R C (pivoted p f row c)) := by
  have h2 := isP_ge hp
  obtain ⟨k, rfl⟩ : ∃ m, k = m + 1 := ⟨k - 1, by omega⟩
  have hi := pinv_range (p := p) (a := f row c) hp
  have hs := smallS h2.1 h2.2 hd hd' (hf row c).1 (hf row c).2
  have hmul : R * (C + 3) ≤ 64 * 73 := Nat.mul_le_mul hR (by omega)
  obtain ⟨k1, c1, c2⟩ := scale_loop (p := p) (R := R) (C := C) (piv := piv) (ml := ml) (det := det * f row c % p) (mp := mp) (m2 := m2) (op := op) (o1 := o1) (o2 := o2) h2.1 h2.2 hR hC f hf hr (c := c) (inv := pinv p (f row c)) hi C k 0 (by omega) (by omega) (by omega)
  have hg : ∀ a b, 0 ≤ (if a = row then f a b * pinv p (f row c) % p else f a b) ∧ (if a = row then f a b * pinv p (f row c) % p else f a b) < p := fun a b => by
    by_cases h : a = row
    · rw [if_pos h]; exact ⟨Int.emod_nonneg _ (by omega), Int.emod_lt_of_pos _ (by omega)⟩
    · rw [if_neg h]; exact hf a b
  obtain ⟨k2, d1, d2⟩ := rows_loop (p := p) (R := R) (C := C) (piv := piv) (ml := ml) (det := det * f row c % p) (mp := mp) (m2 := m2) (op := op) (o1 := o1) (o2 := o2) h2.1 h2.2 hR hC _ hg hr hc hpv R k1 0 (by omega) (by omega) (by omega)
  refine ⟨k2, by omega, ?_⟩
  unfold pivoted
  rw [← d2]
  have d0 := tab_congr (r := R) (c := C) (f := fun a b => if a < 0 ∧ a ≠ row then cleared p (fun a b => if a = row then f a b * pinv p (f row c) % p else f a b) row c a b else (if a = row then f a b * pinv p (f row c) % p else f a b)) (g := fun a b => if a = row then f a b * pinv p (f row c) % p else f a b) (fun a b ha hb => by rw [if_neg (fun h => Nat.not_lt_zero _ h.1)])
  rw [d0]
  refine Eq.trans ?_ c2
  have c0 := tab_congr (r := R) (c := C) (f := fun a b => if a = row ∧ b < 0 then f a b * pinv p (f row c) % p else f a b) (g := f) (fun a b ha hb => by rw [if_neg (fun h => Nat.not_lt_zero _ h.2)])
  rw [c0]
  simp only [spec_l03Reduced.j5]
  rw [w64_at (r := R) (by omega) (by omega) (by omega) (by omega), if_pos (idx0 _), if_pos (idx1 _ hr hc), if_neg (by omega), rdt _ hr hc, invS hp (hf row c).1 (hf row c).2 (by omega), Option.bind_some, w64_idV (x := det * f row c) (by omega) (by omega), Int.tmod_eq_emod_of_nonneg hs.1]
  rfl
end

theorem rangeC {p : Int} {n : Nat} {rows : List (List Int)} (hp : 2 ≤ p) (h : RowsOk p n rows) (i j : Nat) : 0 ≤ cell rows i j ∧ cell rows i j < p := RowsOk.cell h (by omega) i j
theorem find_none {rows : List (List Int)} {top c : Nat} (h : ∀ i, top ≤ i → i < rows.length → cell rows i c = 0) : findPivot rows top c = none := by
  unfold findPivot
  rw [List.findIdx?_eq_none_iff]
  intro r hr
  obtain ⟨j, hj, rfl⟩ := List.mem_iff_getElem.mp hr
  rw [List.length_drop] at hj
  have := h (top + j) (by omega) (by omega)
  unfold cell at this
  rw [getD_at (l := rows) (i := top + j) (d := []) (by omega)] at this
  rw [List.getElem_drop]
  simpa using this
theorem find_some {rows : List (List Int)} {top c q : Nat} (h1 : top ≤ q) (h2 : q < rows.length) (h : ∀ i, top ≤ i → i < q → cell rows i c = 0) (hq : cell rows q c ≠ 0) : findPivot rows top c = some (q - top) := by
  unfold findPivot
  rw [List.findIdx?_eq_some_iff_getElem]
  refine ⟨by rw [List.length_drop]; omega, ?_, fun j hj => ?_⟩
  · rw [List.getElem_drop]
    unfold cell at hq
    rw [getD_at (l := rows) (i := q) (d := []) h2] at hq
    have e : top + (q - top) = q := by omega
    simp only [e]
    simpa using hq
  · have := h (top + j) (by omega) (by omega)
    unfold cell at this
    rw [getD_at (l := rows) (i := top + j) (d := []) (by omega)] at this
    rw [List.getElem_drop]
    simpa using this
theorem cell_swap {rows : List (List Int)} {a b : Nat} (ha : a < rows.length) (hb : b < rows.length) (hab : b ≠ a) (i j : Nat) : cell (swapRows rows a b) i j = sw (cell rows) a b i j := by
  unfold cell sw
  rw [swapRows_get rows ha hb]
  by_cases e : i = b
  · subst e; rw [if_pos rfl, if_neg hab, if_pos rfl]
  · rw [if_neg e]
    by_cases e2 : i = a
    · rw [if_pos e2, if_pos e2]
    · rw [if_neg e2, if_neg e2, if_neg e]
theorem cell_pivot {p : Int} {n : Nat} {rows : List (List Int)} (hp : 2 ≤ p) (hok : RowsOk p n rows) {top c : Nat} (ht : top < rows.length) (hc : c < n) {i j : Nat} (hi : i < rows.length) (hj : j < n) :
    cell (clearAll p c top ((rows.getD top []).map (fun x => pinv p (cell rows top c) * x % p)) (rows.set top ((rows.getD top []).map (fun x => pinv p (cell rows top c) * x % p)))) i j = pivoted p (cell rows) top c i j := by
  have okT : RowOk p n (rows.getD top []) := hok _ (getD_mem ht)
  have okI : RowOk p n (rows.getD i []) := hok _ (getD_mem hi)
  have hq : ∀ j, j < n → ((rows.getD top []).map (fun x => pinv p (cell rows top c) * x % p)).getD j 0 = cell rows top j * pinv p (cell rows top c) % p := fun j hj => by
    have hj' : j < (rows.getD top []).length := by rw [okT.1]; exact hj
    rw [Int.mul_comm (cell rows top j)]
    show _ = pinv p (cell rows top c) * (rows.getD top []).getD j 0 % p
    rw [List.getD_eq_getElem?_getD, List.getElem?_map, List.getElem?_eq_getElem hj', getD_at hj']
    rfl
  have hql : ((rows.getD top []).map (fun x => pinv p (cell rows top c) * x % p)).length = n := by rw [List.length_map, okT.1]
  generalize (rows.getD top []).map (fun x => pinv p (cell rows top c) * x % p) = q at hq hql ⊢
  unfold cell pivoted
  rw [clearAll_get (by rw [List.length_set]; exact hi), getD_set _ _ _ _ ht]
  by_cases e : i = top
  · subst e
    rw [if_pos rfl, if_pos rfl, if_neg (by simp), if_pos rfl]
    exact hq j hj
  · rw [if_neg e, if_neg e, if_pos e]
    unfold clearRow cleared
    simp only [if_neg e, if_true]
    by_cases ez : (rows.getD i []).getD c 0 = 0
    · rw [if_pos ez, if_pos (by exact ez)]
    · rw [if_neg ez, if_neg (by exact ez), addRow_getD (by rw [okI.1]; exact hj) (by rw [hql]; exact hj), hq j hj]
      show _ = ((rows.getD i []).getD j 0 - (rows.getD i []).getD c 0 * (cell rows top j * pinv p (cell rows top c) % p)) % p
      generalize (rows.getD i []).getD c 0 = y
      generalize (rows.getD i []).getD j 0 = x
      generalize cell rows top j * pinv p (cell rows top c) % p = z
      have : x + (p - y) * z = x - y * z + p * z := by rw [Int.sub_mul]; omega
      rw [this, Int.add_mul_emod_self_left]
theorem elimTo_stop {p : Int} {rs : List (List Int)} {c : Nat} (h : (elimTo p rs c).1.length = (elimTo p rs c).2.1.length) (d : Nat) :
    (elimTo p rs (c + d)).1 = (elimTo p rs c).1 ∧ (elimTo p rs (c + d)).2.1 = (elimTo p rs c).2.1 := by
  induction d with
  | zero => exact ⟨rfl, rfl⟩
  | succ d ih =>
    rw [← Nat.add_assoc, elimTo_succ]
    generalize elimTo p rs (c + d) = s at ih ⊢
    obtain ⟨R, piv, det⟩ := s
    dsimp only at ih
    rw [elimStep_none (find_none (fun i h1 h2 => by rw [ih.1] at h2; rw [ih.2] at h1; omega))]
    exact ih
theorem spec_elim_loop {p : Int} (hp : isP p = true) {C : Nat} {rs : List (List Int)} (hm : rs.length ≤ 64) (hn : C ≤ 70) (hok : RowsOk p C rs) {ml : List Int} {mp m2 op o1 o2 : Int} (d : Nat) :
    ∀ k c ds, C - c = d → c ≤ C → d * 5200 + 6500 < k → 0 ≤ ds → ds < p → ((elimTo p rs c).2.1.length = c → ds = (elimTo p rs c).2.2) →
      ∃ ds', 0 ≤ ds' ∧ ds' < p ∧ ((elim p C rs).2.1.length = C → ds' = (elim p C rs).2.2) ∧
        spec_l03Reduced.l0 k p C (elimTo p rs c).2.1 ds ((elimTo p rs c).2.1.length : Int) c mp rs.length m2 ml op o1 o2 (tab rs.length C (cell (elimTo p rs c).1)) = some (op, o1, o2, tab rs.length C (cell (elim p C rs).1), (elim p C rs).2.1, ds') := by
  have h2 := isP_ge hp
  induction d with
  | zero =>
    intro k c ds hd hc hk d0 d1 hds
    obtain ⟨k, rfl⟩ : ∃ m, k = m + 1 := ⟨k - 1, by omega⟩
    obtain ⟨k, rfl⟩ : ∃ m, k = m + 1 := ⟨k - 1, by omega⟩
    obtain rfl : c = C := by omega
    refine ⟨ds, d0, d1, hds, ?_⟩
    simp only [spec_l03Reduced.l0, spec_l03Reduced.j1]
    rw [if_neg (nlt_nat (Nat.le_refl _)), if_neg (by simp)]
    rfl
  | succ d ih =>
    intro k c ds hd hc hk d0 d1 hds
    obtain ⟨k, rfl⟩ : ∃ m, k = m + 1 := ⟨k - 1, by omega⟩
    obtain ⟨k, rfl⟩ : ∃ m, k = m + 1 := ⟨k - 1, by omega⟩
    have hcn : c < C := by omega
    have hk2 : (d + 1) * 5200 = d * 5200 + 5200 := Nat.succ_mul _ _
    rw [hk2] at hk
    clear hk2
    generalize d * 5200 = D at hk ih
    obtain ⟨t1, t2, t7, hle, t6, t8⟩ := elimTo_small hp hok c hc
    by_cases hfull : (elimTo p rs c).2.1.length < rs.length
    · have ih2 := fun k' ds' => ih k' (c + 1) ds' (by omega) (by omega)
      rw [elimTo_succ] at ih2
      generalize elimTo p rs c = s at *
      obtain ⟨A, piv, det⟩ := s
      dsimp only at *
      have hf := rangeC h2.1 t1
      simp only [spec_l03Reduced.l0, spec_l03Reduced.j1]
      rw [if_pos (lt_nat hcn), if_pos (by simpa using hfull)]
      obtain ⟨k1, q, a1, a2, a3, a4, a5, a6⟩ := find_loop (p := p) (R := rs.length) (C := C) (piv := piv) (ml := ml) (det := ds) (mp := mp) (m2 := m2) (op := op) (o1 := o1) (o2 := o2) hm hn (cell A) (row := piv.length) hcn (rs.length - piv.length) k piv.length rfl (by omega) (by omega) (fun i h1 h3 => by omega)
      rw [a6]
      clear a6
      obtain ⟨k1, rfl⟩ : ∃ m, k1 = m + 1 := ⟨k1 - 1, by omega⟩
      simp only [spec_l03Reduced.j3]
      by_cases eq : q = rs.length
      · rw [if_pos (by rw [eq]), w64_succ (n := 70) (by omega) (by omega)]
        rw [elimStep_none (find_none (fun i h1 h3 => a4 i h1 (by omega)))] at ih2
        dsimp only at ih2
        exact ih2 k1 ds (by omega) d0 d1 (fun h => by omega)
      · have hqR : q < rs.length := by omega
        have hne := a5 hqR
        have hfs := find_some a2 (by omega) a4 hne
        have hst : elimStep p (A, piv, det) c = (clearAll p c piv.length (((if q - piv.length = 0 then A else swapRows A piv.length (piv.length + (q - piv.length))).getD piv.length []).map (fun x => pinv p (cell (if q - piv.length = 0 then A else swapRows A piv.length (piv.length + (q - piv.length))) piv.length c) * x % p)) ((if q - piv.length = 0 then A else swapRows A piv.length (piv.length + (q - piv.length))).set piv.length (((if q - piv.length = 0 then A else swapRows A piv.length (piv.length + (q - piv.length))).getD piv.length []).map (fun x => pinv p (cell (if q - piv.length = 0 then A else swapRows A piv.length (piv.length + (q - piv.length))) piv.length c) * x % p))), piv ++ [(c : Int)], (if q - piv.length = 0 then det else -det % p) * cell (if q - piv.length = 0 then A else swapRows A piv.length (piv.length + (q - piv.length))) piv.length c % p) := by
          unfold elimStep; simp only [hfs]
        rw [hst] at ih2
        clear hst
        dsimp only at ih2
        rw [if_neg (ne_nat eq)]
        by_cases e : q = piv.length
        · rw [if_pos (by rw [e])]
          have e0 : q - piv.length = 0 := by omega
          simp only [e0, if_true] at ih2
          obtain ⟨k2, b1, b2⟩ := step5 (p := p) (R := rs.length) (C := C) (piv := piv) (ml := ml) (det := ds) (mp := mp) (m2 := m2) (op := op) (o1 := o1) (o2 := o2) hp hm hn (cell A) hf (row := piv.length) (c := c) hfull hcn (by omega) d0 (by omega) (k := k1) (by omega)
          rw [b2, ← tab_congr (fun i j hi hj => cell_pivot h2.1 t1 (top := piv.length) (c := c) (by omega) hcn (by omega) hj)]
          have := ih2 k2 (ds * cell A piv.length c % p) (by omega) (Int.emod_nonneg _ (by omega)) (Int.emod_lt_of_pos _ (by omega)) (fun h => by
            rw [hds (by simp at h; omega)])
          simpa using this
        · rw [if_neg (ne_nat e)]
          have e0 : ¬ q - piv.length = 0 := by omega
          have e1 : piv.length + (q - piv.length) = q := by omega
          simp only [if_neg e0, e1] at ih2
          have hokW := RowsOk.swap t1 (a := piv.length) (b := q) (by omega) (by omega)
          have hlW := swapRows_length A piv.length q
          have hsw : ∀ i j, sw (cell A) piv.length q i j = cell (swapRows A piv.length q) i j := fun i j => (cell_swap (by omega) (by omega) (by omega) i j).symm
          rw [w64_idV (x := p - ds) (by omega) (by omega)]
          obtain ⟨k3, g1, g2⟩ := swap_loop (p := p) (R := rs.length) (C := C) (piv := piv) (ml := ml) (det := p - ds) (mp := mp) (m2 := m2) (op := op) (o1 := o1) (o2 := o2) hm hn (cell A) (row := piv.length) (c := c) (q := q) hqR hfull e C k1 0 (by omega) (by omega) (by omega)
          have g0 := tab_congr (r := rs.length) (c := C) (f := fun a b => if b < 0 then sw (cell A) piv.length q a b else cell A a b) (g := cell A) (fun a b ha hb => by rw [if_neg (Nat.not_lt_zero _)])
          rw [g0, tab_congr (g := cell (swapRows A piv.length q)) (fun a b _ _ => hsw a b)] at g2
          have gz : ((0 : Nat) : Int) = 0 := rfl
          rw [gz] at g2
          rw [g2]
          obtain ⟨k2, b1, b2⟩ := step5 (p := p) (R := rs.length) (C := C) (piv := piv) (ml := ml) (det := p - ds) (mp := mp) (m2 := m2) (op := op) (o1 := o1) (o2 := o2) hp hm hn (cell (swapRows A piv.length q)) (rangeC h2.1 hokW) (row := piv.length) (c := c) hfull hcn (by omega) (by omega) (by omega) (k := k3) (by omega)
          rw [b2, ← tab_congr (fun i j hi hj => cell_pivot h2.1 hokW (top := piv.length) (c := c) (by omega) hcn (by omega) hj)]
          have := ih2 k2 ((p - ds) * cell (swapRows A piv.length q) piv.length c % p) (by omega) (Int.emod_nonneg _ (by omega)) (Int.emod_lt_of_pos _ (by omega)) (fun h => by
            rw [hds (by simp at h; omega)]
            rw [Int.mul_emod, ← Int.emod_emod_of_dvd (p - det) (Int.dvd_refl p), show (p - det) % p = -det % p by rw [show p - det = -det + p by omega, Int.add_emod_right], ← Int.mul_emod])
          simpa using this
    · have hA : (elimTo p rs c).1.length = (elimTo p rs c).2.1.length := by omega
      obtain ⟨s1, s2⟩ := elimTo_stop hA (C - c)
      rw [show c + (C - c) = C by omega] at s1 s2
      refine ⟨ds, d0, d1, fun h => ?_, ?_⟩
      · exfalso
        have : (elimTo p rs C).2.1.length = C := h
        rw [s2] at this
        omega
      · simp only [spec_l03Reduced.l0, spec_l03Reduced.j1]
        rw [if_pos (lt_nat hcn), if_neg (by simpa using hfull)]
        unfold elim
        rw [s1, s2]

theorem implElim_tells {p : Int} (hp : isP p = true) {R C : Nat} {l : List Int} (hR : R ≤ 64) (hC : C ≤ 70) (hl : l.length = R * C) (hv : ∀ j, 0 ≤ l.getD j 0 ∧ l.getD j 0 < p) {k : Nat} (hk : 6000 ≤ k) :
    impl_eliminate.f k p R C l C p = some ((elim p C (rowsM R C l)).2.1, (elim p C (rowsM R C l)).2.2, (elim p C (rowsM R C l)).1) := by
  unfold impl_eliminate.f
  rw [rowsOf_tells hR hC hl (by omega), Option.bind_some]
  exact elim_tells hp (by rw [rowsM_length]; exact hR) hC (rowsM_ok hv) hk
theorem specElim_tells {p : Int} (hp : isP p = true) {R C : Nat} {l : List Int} (hR : R ≤ 64) (hC : C ≤ 70) (hl : l.length = R * C) (hv : ∀ j, 0 ≤ l.getD j 0 ∧ l.getD j 0 < p) {k : Nat} (hk : 400000 ≤ k) :
    ∃ ds, 0 ≤ ds ∧ ds < p ∧ ((elim p C (rowsM R C l)).2.1.length = C → ds = (elim p C (rowsM R C l)).2.2) ∧
      spec_l03Reduced.f k p R C l = some (p, (R : Int), (C : Int), tab R C (cell (elim p C (rowsM R C l)).1), (elim p C (rowsM R C l)).2.1, ds) := by
  have h2 := isP_ge hp
  have hm : R * C ≤ 64 * 70 := Nat.mul_le_mul hR hC
  have hb : (C - 0) * 5200 ≤ 70 * 5200 := Nat.mul_le_mul (by omega) (Nat.le_refl _)
  obtain ⟨ds, a1, a2, a3, a4⟩ := spec_elim_loop (p := p) hp (C := C) (rs := rowsM R C l) (ml := l) (mp := p) (m2 := C) (op := p) (o1 := R) (o2 := C) (by rw [rowsM_length]; exact hR) hC (rowsM_ok hv) (C - 0) k 0 1 rfl (by omega) (by omega) (by omega) (by omega) (fun _ => rfl)
  refine ⟨ds, a1, a2, a3, ?_⟩
  unfold spec_l03Reduced.f spec_l00Own.f
  simp only [Option.bind_some, List.nil_append, List.length_nil]
  rw [if_pos (by omega), Option.bind_some]
  rw [rowsM_length] at a4
  rw [← a4]
  show _ = spec_l03Reduced.l0 k p C [] 1 0 0 p R C l p R C (tab R C (cell (rowsM R C l)))
  rw [rowsM_tab hl]

theorem l04Rows_loop {p q : Int} {n : Nat} (hn : n ≤ 70) {rs : List (List Int)} (hok : RowsOk q n rs) (hm : rs.length ≤ 1048576) (R : Int) (d : Nat) : ∀ (k i : Nat), rs.length - i = d → i ≤ rs.length → d < k →
    spec_l04Rows.l0 k rs i p R n (rs.take i).flatten = some (p, R, (n : Int), rs.flatten) := by
  induction d with
  | zero =>
    intro k i hd hi hk
    obtain ⟨k, rfl⟩ : ∃ m, k = m + 1 := ⟨k - 1, by omega⟩
    simp only [spec_l04Rows.l0]
    rw [if_neg (by omega), List.take_of_length_le (by omega)]
  | succ d ih =>
    intro k i hd hi hk
    obtain ⟨k, rfl⟩ : ∃ m, k = m + 1 := ⟨k - 1, by omega⟩
    have hlt : i < rs.length := by omega
    have hw := (hok _ (row_mem hlt)).1
    have hl : (rs.take i).flatten.length ≤ 1048576 * 70 := by
      rw [flatten_tab hok i hi, tab_length]; exact Nat.mul_le_mul (by omega) hn
    simp only [spec_l04Rows.l0]
    rw [if_pos (by omega), if_pos (by omega), rdS_nat, if_pos (by omega), w64_succ (n := rs.length) hlt (by omega), ← take_flatten_succ rs hlt]
    exact ih k (i + 1) (by omega) (by omega) (by omega)
theorem l04Rows_tells {p q : Int} {n : Nat} (hn : n ≤ 70) {rs : List (List Int)} (hok : RowsOk q n rs) (hm : rs.length ≤ 1048576) {k : Nat} (hk : 1048577 ≤ k) : spec_l04Rows.f k p n rs = some (p, (rs.length : Int), (n : Int), rs.flatten) := by
  unfold spec_l04Rows.f
  exact l04Rows_loop hn hok hm _ rs.length k 0 (by omega) (by omega) (by omega)
theorem rowsM_self {p : Int} {C : Nat} {rs : List (List Int)} (hok : RowsOk p C rs) : rowsM rs.length C rs.flatten = rs := by
  rw [flatten_rows hok]
  refine ext_rows (by rw [rowsM_length]) (fun j hj => ?_)
  rw [rowsM_length] at hj
  have h := row_of_tab hok hj
  rw [slice_row (tab_length _ _ _) hj] at h
  rw [← h]
  generalize tab rs.length C (cell rs) = l
  unfold rowsM
  simp [List.getD_eq_getElem?_getD, hj]
theorem basis_loop {p q : Int} {n : Nat} (hn : n ≤ 70) {Q : List (List Int)} (hok : RowsOk q n Q) (hm : Q.length ≤ 1048576) {piv : List Int} (hpv : piv.length ≤ Q.length) (R C : Int) (d : Nat) : ∀ (k i : Nat), piv.length - i = d → i ≤ piv.length → d < k →
    spec_l04Basis.l0 k n piv (Q.take i) i p R C (tab Q.length n (cell Q)) = some (Q.take piv.length) := by
  induction d with
  | zero =>
    intro k i hd hi hk
    obtain ⟨k, rfl⟩ : ∃ m, k = m + 1 := ⟨k - 1, by omega⟩
    obtain rfl : i = piv.length := by omega
    simp only [spec_l04Basis.l0]
    rw [if_neg (by omega)]
  | succ d ih =>
    intro k i hd hi hk
    obtain ⟨k, rfl⟩ : ∃ m, k = m + 1 := ⟨k - 1, by omega⟩
    have hlt : i < Q.length := by omega
    have m1 : i * n ≤ 1048576 * 70 := Nat.mul_le_mul (by omega) hn
    have m2 : (i + 1) * n ≤ 1048576 * 70 := Nat.mul_le_mul (by omega) hn
    have m3 : (i + 1) * n ≤ Q.length * n := Nat.mul_le_mul_right _ hlt
    have m4 : i * n ≤ (i + 1) * n := Nat.mul_le_mul_right _ (by omega)
    have hw := (hok _ (row_mem hlt)).1
    have q0 : (i : Int) < (piv.length : Int) := by omega
    have q1 : (0 : Int) ≤ ((i * n : Nat) : Int) := Int.natCast_nonneg _
    have q2 : ((i * n : Nat) : Int) ≤ (((i + 1) * n : Nat) : Int) := Int.ofNat_le.mpr m4
    have q3 : (((i + 1) * n : Nat) : Int) ≤ ((tab Q.length n (cell Q)).length : Int) := by rw [tab_length]; exact Int.ofNat_le.mpr m3
    have q4 : 0 + (Q.getD i []).length < 17592186044416 := by omega
    have q5 : (Q.take i).length < 5864062014805 := by rw [List.length_take]; omega
    have b1 : -9223372036854775808 ≤ ((i * n : Nat) : Int) ∧ ((i * n : Nat) : Int) ≤ 9223372036854775807 := by omega
    have b2 : -9223372036854775808 ≤ (((i + 1) * n : Nat) : Int) ∧ (((i + 1) * n : Nat) : Int) ≤ 9223372036854775807 := by omega
    have ih2 := ih k (i + 1) (by omega) (by omega) (by omega)
    have es := w64_succ (n := piv.length) (i := i) (by omega) (by omega)
    have e1 : wrap64 ((i : Int) * (n : Int)) = ((i * n : Nat) : Int) := by rw [← Int.natCast_mul]; exact w64_idV b1.1 b1.2
    have e2 : wrap64 (((i + 1 : Nat) : Int) * (n : Int)) = (((i + 1) * n : Nat) : Int) := by rw [← Int.natCast_mul]; exact w64_idV b2.1 b2.2
    simp only [spec_l04Basis.l0]
    unfold spec_l00Own.f
    rw [if_pos q0, es, e1, e2, if_pos q1, if_pos q2, if_pos q3, Int.toNat_natCast, Int.toNat_natCast, row_of_tab hok hlt]
    simp only [Option.bind_some, List.nil_append, List.length_nil]
    rw [if_pos q4, Option.bind_some, if_pos q5]
    have e : Q.take i ++ [Q.getD i []] = Q.take (i + 1) := by rw [List.take_add_one, List.getElem?_eq_getElem hlt, getD_at hlt]; rfl
    rw [e]
    exact ih2
theorem basisS_tells {p : Int} (hp : isP p = true) {n : Nat} (hn : n ≤ 70) {rs : List (List Int)} (hok : RowsOk p n rs) (hm : rs.length ≤ 64) {k : Nat} (hk : 1048577 ≤ k) : spec_l04Basis.f k p n rs = some (basisOf p n rs) := by
  have hp2 := (isP_ge hp).1
  obtain ⟨t1, t2, t3, t4, _, _⟩ := elimTo_small hp hok n (Nat.le_refl _)
  have hl : rs.flatten.length = rs.length * n := by rw [flatten_rows hok, tab_length]
  have hv : ∀ j, 0 ≤ rs.flatten.getD j 0 ∧ rs.flatten.getD j 0 < p := fun j => by
    by_cases hj : j < rs.flatten.length
    · obtain ⟨r, hr, hx⟩ := List.mem_flatten.mp (getD_mem (d := 0) hj)
      exact (hok r hr).2 _ hx
    · rw [List.getD_eq_getElem?_getD, List.getElem?_eq_none (by omega)]; simp; omega
  obtain ⟨ds, _, _, _, h⟩ := specElim_tells hp hm hn hl hv (k := k) (by omega)
  rw [rowsM_self hok] at h
  unfold spec_l04Basis.f
  rw [l04Rows_tells hn hok (by omega) hk, Option.bind_some]
  show Option.bind (spec_l03Reduced.f k p (rs.length : Int) (n : Int) rs.flatten) _ = _
  rw [h, Option.bind_some]
  have e1 : (elim p n rs).1.length = rs.length := t2
  have e2 : (elim p n rs).2.1.length ≤ rs.length := t4
  have e3 : RowsOk p n (elim p n rs).1 := t1
  have b := basis_loop (p := p) hn (q := p) (Q := (elim p n rs).1) e3 (by omega) (piv := (elim p n rs).2.1) (by omega) (rs.length : Int) (n : Int) (elim p n rs).2.1.length k 0 (by omega) (by omega) (by omega)
  rw [e1] at b
  exact b

/-- The marks: m, m + 1, .. -/
def iota (m : Int) (n : Nat) : List Int := (List.range n).map (fun j : Nat => m + (j : Int))
theorem iota_length (m : Int) (n : Nat) : (iota m n).length = n := by unfold iota; simp
theorem iota_getD (m : Int) {n j : Nat} (h : j < n) : (iota m n).getD j 0 = m + j := by unfold iota; simp [List.getD_eq_getElem?_getD, h]
theorem mark_loop {m0 : Int} {n : Nat} (hm : 0 ≤ m0) (hm' : m0 + n ≤ 4611686018427387904) (hn : n ≤ 35184372088832) (d : Nat) : ∀ (k i : Nat) (acc : List Int) (m : Int), n - i = d → i ≤ n → d < k → acc.length = n → m = m0 + i → (∀ j, j < i → acc.getD j 0 = m0 + j) →
    laws_markInt64S.l0 k acc m i = some (m0 + n, iota m0 n) := by
  induction d with
  | zero =>
    intro k i acc m hd hi hk ha he h
    obtain ⟨k, rfl⟩ : ∃ m, k = m + 1 := ⟨k - 1, by omega⟩
    simp only [laws_markInt64S.l0]
    rw [if_neg (by omega)]
    have e1 : m = m0 + n := by omega
    have e2 : acc = iota m0 n := ext_getD (by rw [iota_length, ha]) (fun j hj => by rw [h j (by omega), iota_getD m0 (by omega)])
    rw [e1, e2]
  | succ d ih =>
    intro k i acc m hd hi hk ha he h
    obtain ⟨k, rfl⟩ : ∃ m, k = m + 1 := ⟨k - 1, by omega⟩
    simp only [laws_markInt64S.l0]
    rw [if_pos (by omega), if_pos (by omega), w64_succ (n := n) (by omega) hn, Int.toNat_natCast, w64_idV (x := m + 1) (by omega) (by omega)]
    refine ih k (i + 1) _ (m + 1) (by omega) (by omega) (by omega) (by simp [ha]) (by omega) (fun j hj => ?_)
    rw [getD_set _ _ _ _ (by omega)]
    by_cases e : j = i
    · rw [if_pos e, e]; exact he
    · rw [if_neg e]; exact h j (by omega)
theorem mark_tells {l : List Int} {m : Int} (hm : 0 ≤ m) (hm' : m + l.length ≤ 4611686018427387904) (hl : l.length ≤ 35184372088832) {k : Nat} (hk : l.length < k) : laws_markInt64S.f k l m = some (m + l.length, iota m l.length) := by
  unfold laws_markInt64S.f
  exact mark_loop hm hm' hl l.length k 0 l m (by omega) (by omega) hk rfl (by omega) (fun j hj => by omega)
theorem held_loop {m0 : Int} {n : Nat} (hm : 0 ≤ m0) (hm' : m0 + n ≤ 4611686018427387904) (hn : n ≤ 35184372088832) (d : Nat) : ∀ (k i : Nat) (m : Int), n - i = d → i ≤ n → d < k → m = m0 + i →
    laws_heldInt64S.l0 k (iota m0 n) m i = some (m0 + n) := by
  induction d with
  | zero =>
    intro k i m hd hi hk he
    obtain ⟨k, rfl⟩ : ∃ m, k = m + 1 := ⟨k - 1, by omega⟩
    simp only [laws_heldInt64S.l0, iota_length]
    rw [if_neg (by omega)]
    have e1 : m = m0 + n := by omega
    rw [e1]
  | succ d ih =>
    intro k i m hd hi hk he
    obtain ⟨k, rfl⟩ : ∃ m, k = m + 1 := ⟨k - 1, by omega⟩
    simp only [laws_heldInt64S.l0, iota_length]
    rw [if_pos (by omega), if_pos (by omega), rd_nat, iota_getD m0 (by omega), if_pos he.symm, w64_succ (n := n) (by omega) hn, w64_idV (x := m + 1) (by omega) (by omega)]
    exact ih k (i + 1) (m + 1) (by omega) (by omega) (by omega) (by omega)
theorem held_tells {m : Int} {n : Nat} (hm : 0 ≤ m) (hm' : m + n ≤ 4611686018427387904) (hn : n ≤ 35184372088832) {k : Nat} (hk : n < k) : laws_heldInt64S.f k (iota m n) m = some (m + n) := by
  unfold laws_heldInt64S.f
  exact held_loop hm hm' hn n k 0 m (by omega) (by omega) hk (by omega)
end Go.Proofs.Ytoibkfdmcajieaa.F
end
