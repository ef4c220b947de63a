-- Texts of this claim, merged by packw.py (a program of this session's).
import Derived.Test.YtmbbjmkcbpefhaaQFnExactCertificate8
import Derived.Test.YtmbbjmkcbpefhaaQFnExactCertificate11
import Derived.KernelRfl
import Derived.Test.YtmbbjmkcbpefhaaQFnExactCertificate4
import Derived.Test.YtmbbjmkcbpefhaaQFnExactCertificate5
import Derived.Test.YtmbbjmkcbpefhaaQFnExactCertificate9
import Derived.Test.YtmbbjmkcbpefhaaQFnExactCertificate6
import Derived.Test.YtmbbjmkcbpefhaaQFnExactCertificate10
import Derived.Test.YtmbbjmkcbpefhaaQFnExactCertificate2
import Derived.Test.YtmbbjmkcbpefhaaQFnExactCertificate7
import Derived.Test.YtmbbjmkcbpefhaaQFnExactCertificate3

section
set_option linter.unusedVariables false
set_option linter.unusedSimpArgs false
set_option linter.unusedSectionVars false
namespace Go.Proofs.Ytmbbjmkcbpefhaa.F
open Go.RowKit Go.Proofs.YtmbbjmkcbpefhaaW.PrintWords Go.Proofs.YtmbbjmkcbpefhaaW.PrintLast Go.Proofs.Ytmbbjmkcbpefhaa.Lin
theorem mul_smallV {p x y : Int} (hp : 2 ≤ p) (hp' : p ≤ 251) (hx : 0 ≤ x) (hx' : x ≤ 251) (hy : 0 ≤ y) (hy' : y < p) : 0 ≤ x * y ∧ x * y ≤ 63001 := by
  have g1 := Int.mul_nonneg hx hy
  have g2 : x * y ≤ 251 * 251 := Int.mul_le_mul hx' (by omega) hy (by omega)
  omega
theorem take_snocV {l : List Int} {i : Nat} (h : i < l.length) : l.take i ++ [l.getD i 0] = l.take (i + 1) := by
  rw [List.take_succ_eq_append_getElem h, getD_at h]
theorem addV_loop {a b : List Int} {c p : Int} (hp : 2 ≤ p) (hp' : p ≤ 251) (hl : a.length = b.length) (hn : a.length ≤ 17592186044416) (ha : ∀ j, 0 ≤ a.getD j 0 ∧ a.getD j 0 < p) (hb : ∀ j, 0 ≤ b.getD j 0 ∧ b.getD j 0 < p) (hc : 0 ≤ c) (hc' : c ≤ 251) (d : Nat) :
    ∀ (k i : Nat), a.length - i = d → i ≤ a.length → d < k → impl_addTimes.l0 k a b c p ((addRow p a b c).take i) a.length i = some (addRow p a b c) := by
  have hz : (addRow p a b c).length = a.length := by unfold addRow; simp [hl]
  induction d with
  | zero =>
    intro k i hd hi hk
    obtain ⟨k, rfl⟩ : ∃ m, k = m + 1 := ⟨k - 1, by omega⟩
    simp only [impl_addTimes.l0]
    have hf : ¬ (i : Int) < (a.length : Int) := by omega
    simp only [hf, if_false]
    rw [List.take_of_length_le (by omega)]
  | succ d ih =>
    intro k i hd hi hk
    obtain ⟨k, rfl⟩ : ∃ m, k = m + 1 := ⟨k - 1, by omega⟩
    simp only [impl_addTimes.l0]
    have h1 : (i : Int) < (a.length : Int) := by omega
    have h2 : (i : Int) < (b.length : Int) := by omega
    have h0 : (0 : Int) ≤ (i : Int) := by omega
    have hp0 : ¬ p = 0 := by omega
    have hlt : ((addRow p a b c).take i).length < 17592186044416 := by rw [List.length_take]; omega
    have hm := mul_smallV hp hp' hc hc' (hb i).1 (hb i).2
    have e : Int.tmod (wrap64 (rd a i + wrap64 (c * rd b i))) p = (addRow p a b c).getD i 0 := by
      have := ha i
      rw [rd_nat, rd_nat, w64_idV (x := c * b.getD i 0) (by omega) (by omega), w64_idV (x := a.getD i 0 + c * b.getD i 0) (by omega) (by omega), Int.tmod_eq_emod_of_nonneg (by omega), addRow_getD (by omega) (by omega)]
    simp only [h0, h1, h2, hp0, if_true, if_false, hlt]
    rw [e, w64_succ (n := a.length) (by omega) (by omega), take_snocV (by omega)]
    exact ih k (i + 1) (by omega) (by omega) (by omega)
theorem addV_tells {a b : List Int} {c p : Int} (hp : 2 ≤ p) (hp' : p ≤ 251) (hl : a.length = b.length) (hn : a.length ≤ 17592186044416) (ha : ∀ j, 0 ≤ a.getD j 0 ∧ a.getD j 0 < p) (hb : ∀ j, 0 ≤ b.getD j 0 ∧ b.getD j 0 < p) (hc : 0 ≤ c) (hc' : c ≤ 251) {k : Nat} (hk : a.length < k) :
    impl_addTimes.f k a b c p = some (addRow p a b c) := by
  unfold impl_addTimes.f
  exact addV_loop hp hp' hl hn ha hb hc hc' a.length k 0 (by omega) (by omega) hk
def firstRow (rs : List (List Int)) (t c : Int) : Option Int :=
  if 0 ≤ t then (if t ≤ (rs.length : Int) then (if 0 ≤ c then (if ((rs.drop t.toNat).all fun l => decide (c < (l.length : Int))) = true then some (idxOf (cellAt c) (rs.drop t.toNat)) else none) else none) else none) else none
theorem cellAt_nat (c : Nat) : cellAt (c : Int) = fun r => decide (r.getD c 0 ≠ 0) := by
  funext r; unfold cellAt; rw [rd_nat]
theorem firstRow_tells {n : Nat} {rs : List (List Int)} (h : ∀ r, r ∈ rs → r.length = n) {t c : Nat} (ht : t ≤ rs.length) (hc : c < n) :
    firstRow rs t c = some (match findPivot rs t c with | some k => (k : Int) | none => -1) := by
  unfold firstRow
  rw [if_pos (by omega), if_pos (by omega), if_pos (by omega), if_pos, Int.toNat_natCast]
  · unfold idxOf findPivot; rw [cellAt_nat]; rfl
  · rw [Int.toNat_natCast]
    exact List.all_eq_true.mpr (fun r hr => decide_eq_true (by rw [h r (List.mem_of_mem_drop hr)]; omega))
def clr (p : Int) (c top : Nat) (q : List Int) (i : Nat) (R : List (List Int)) : List (List Int) := R.mapIdx (fun j r => if j < i ∧ j ≠ top then clearRow p c q r else r)
theorem clr_length (p : Int) (c top : Nat) (q : List Int) (i : Nat) (R : List (List Int)) : (clr p c top q i R).length = R.length := by unfold clr; simp
theorem clr_zero (p : Int) (c top : Nat) (q : List Int) (R : List (List Int)) : clr p c top q 0 R = R := by
  apply List.ext_getElem? ; intro j
  unfold clr
  rw [List.getElem?_mapIdx]
  cases R[j]? <;> simp
theorem clr_all (p : Int) (c top : Nat) (q : List Int) (R : List (List Int)) : clr p c top q R.length R = clearAll p c top q R := by
  apply List.ext_getElem? ; intro j
  unfold clr clearAll
  rw [List.getElem?_mapIdx, List.getElem?_mapIdx]
  by_cases hj : j < R.length
  · by_cases e : j = top
    · simp [e]
    · simp [e, hj]
  · rw [List.getElem?_eq_none (by omega)]; rfl
theorem clr_get (p : Int) (c top : Nat) (q : List Int) (i : Nat) (R : List (List Int)) {j : Nat} (hj : j < R.length) :
    (clr p c top q i R).getD j [] = if j < i ∧ j ≠ top then clearRow p c q (R.getD j []) else R.getD j [] := by
  unfold clr
  rw [List.getD_eq_getElem?_getD, List.getElem?_mapIdx, List.getD_eq_getElem?_getD, List.getElem?_eq_getElem hj]
  rfl
theorem clr_step (p : Int) (c top : Nat) (q : List Int) (i : Nat) (R : List (List Int)) (hi : i < R.length) :
    clr p c top q (i + 1) R = if i = top then clr p c top q i R else (clr p c top q i R).set i (clearRow p c q (R.getD i [])) := by
  by_cases e : i = top
  · rw [if_pos e]
    apply List.ext_getElem? ; intro j
    unfold clr
    rw [List.getElem?_mapIdx, List.getElem?_mapIdx]
    by_cases e2 : j = top
    · simp [e2]
    · have : (j < i + 1) = (j < i) := by apply propext; omega
      simp [e2, this]
  · rw [if_neg e]
    apply List.ext_getElem? ; intro j
    rw [List.getElem?_set]
    unfold clr
    rw [List.getElem?_mapIdx, List.getElem?_mapIdx]
    by_cases e2 : i = j
    · subst e2
      rw [if_pos rfl, if_pos (by rw [List.length_mapIdx]; exact hi), List.getElem?_eq_getElem hi, List.getD_eq_getElem?_getD, List.getElem?_eq_getElem hi]
      simp [e]
    · have : (j < i + 1) = (j < i) := by apply propext; omega
      rw [if_neg e2]
      simp only [this]
theorem range_of {p : Int} {r : List Int} {n : Nat} (hp : 2 ≤ p) (h : RowOk p n r) (j : Nat) : 0 ≤ r.getD j 0 ∧ r.getD j 0 < p := by
  by_cases hj : j < r.length
  · rw [List.getD_eq_getElem?_getD, List.getElem?_eq_getElem hj]; exact h.2 _ (List.getElem_mem hj)
  · rw [List.getD_eq_getElem?_getD, List.getElem?_eq_none (by omega)]; simp; omega
theorem rowOk_at {p : Int} {R : List (List Int)} {n i : Nat} (h : RowsOk p n R) (hi : i < R.length) : RowOk p n (R.getD i []) := h _ (getD_mem hi)
theorem elim_inner {p : Int} (hp : isP p = true) {n : Nat} {R : List (List Int)} (hok : RowsOk p n R) {top c : Nat} (ht : top < R.length) (hc : c < n) (hm : R.length ≤ 1048576) (hn : n ≤ 70) (piv : List Int) (hpv : piv.length ≤ 100) (det : Int) (d : Nat) :
    ∀ k i, R.length - i = d → i ≤ R.length → d + 100 < k → ∃ k', k = k' + d + 1 ∧
      impl_eliminate.l1 k n p piv det top n c R.length i (clr p c top (R.getD top []) i R) c = impl_eliminate.l0 k' n p (piv ++ [(c : Int)]) det n ((c + 1 : Nat) : Int) (clearAll p c top (R.getD top []) R) := by
  have h2 := isP_ge hp
  induction d with
  | zero =>
    intro k i hd hi hk
    obtain ⟨k, rfl⟩ : ∃ m, k = m + 1 := ⟨k - 1, by omega⟩
    obtain rfl : i = R.length := by omega
    refine ⟨k, by omega, ?_⟩
    simp only [impl_eliminate.l1]
    rw [if_neg (by omega), if_pos (by omega), clr_all, w64_succ (n := 70) (by omega) (by omega)]
  | succ d ih =>
    intro k i hd hi hk
    obtain ⟨k, rfl⟩ : ∃ m, k = m + 1 := ⟨k - 1, by omega⟩
    obtain ⟨k', e', ih⟩ := ih k (i + 1) (by omega) (by omega) (by omega)
    refine ⟨k', by omega, ?_⟩
    have hiR : i < R.length := by omega
    rw [← ih]
    have hs := clr_step p c top (R.getD top []) i R hiR
    have gi : (clr p c top (R.getD top []) i R).getD i [] = R.getD i [] := by rw [clr_get _ _ _ _ _ _ hiR, if_neg (by omega)]
    have gt : (clr p c top (R.getD top []) i R).getD top [] = R.getD top [] := by rw [clr_get _ _ _ _ _ _ ht, if_neg (by omega)]
    have okI := rowOk_at hok hiR
    have okT := rowOk_at hok ht
    have hl := clr_length p c top (R.getD top []) i R
    generalize clr p c top (R.getD top []) i R = C at hs gi gt hl ⊢
    simp only [impl_eliminate.l1]
    rw [if_pos (by omega), if_pos (by omega), if_pos (by omega), w64_succ (n := 1048576) (i := i) (by omega) (by omega)]
    by_cases e : i = top
    · rw [if_pos (by omega), hs, if_pos e]
    · rw [if_neg (by omega), if_pos (by omega), rdL_nat, gi, if_pos (by rw [okI.1]; omega), rd_nat]
      by_cases ez : (R.getD i []).getD c 0 = 0
      · rw [if_pos ez, hs, if_neg e]
        have : C.set i (clearRow p c (R.getD top []) (R.getD i [])) = C := by
          unfold clearRow
          rw [if_pos ez]
          apply List.ext_getElem? ; intro j
          rw [List.getElem?_set]
          by_cases ej : i = j
          · subst ej
            rw [if_pos rfl, if_pos (by omega), ← gi, List.getD_eq_getElem?_getD, List.getElem?_eq_getElem (show i < C.length by omega)]; rfl
          · rw [if_neg ej]
        rw [this]
      · have rI := range_of h2.1 okI
        have rT := range_of h2.1 okT
        have rc := rI c
        rw [if_neg ez, if_pos (by omega), if_pos (by omega), rdL_nat, gt, w64_idV (x := p - (R.getD i []).getD c 0) (by omega) (by omega),
          addV_tells h2.1 h2.2 (by rw [okI.1, okT.1]) (by rw [okI.1]; omega) rI rT (by omega) (by omega) (by rw [okI.1]; omega), Option.bind_some, Int.toNat_natCast, hs, if_neg e]
        unfold clearRow
        rw [if_neg ez]
theorem reduce_small {p x : Int} (hp : 2 ≤ p) (hp' : p ≤ 251) (hx : -1000000 ≤ x) (hx' : x ≤ 1000000) : impl_reduce.f x p = some (x % p) := by
  unfold impl_reduce.f
  rw [if_neg (by omega)]
  have h1 : -p < Int.tmod x p := Int.lt_tmod_of_pos _ (by omega)
  have h2 : Int.tmod x p < p := Int.tmod_lt_of_pos _ (by omega)
  rw [w64_idV (x := Int.tmod x p + p) (by omega) (by omega), Int.tmod_eq_emod_of_nonneg (by omega), Int.add_emod_right]
  congr 1
  have h := Int.mul_tdiv_add_tmod x p
  have : x = Int.tmod x p + p * (Int.tdiv x p) := by omega
  conv => rhs; rw [this]
  rw [Int.add_mul_emod_self_left]
theorem addRow_zeros {p : Int} (n : Nat) (r : List Int) (hr : r.length = n) (c : Int) : addRow p (List.replicate n 0) r c = r.map (fun x => c * x % p) := by
  refine ext_getD (by unfold addRow; simp [hr]) (fun j hj => ?_)
  have hj' : j < n := by unfold addRow at hj; simp [hr] at hj; omega
  rw [addRow_getD (by simp; omega) (by omega)]
  have e0 : (List.replicate n (0 : Int)).getD j 0 = 0 := by simp [List.getD_eq_getElem?_getD, List.getElem?_replicate, hj']
  rw [e0, Int.zero_add]
  simp [List.getD_eq_getElem?_getD, List.getElem?_map, List.getElem?_eq_getElem (show j < r.length by omega)]
theorem elim_j1 {p : Int} (hp : isP p = true) {n : Nat} {R : List (List Int)} (hok : RowsOk p n R) {top c : Nat} (ht : top < R.length) (hc : c < n) (hm : R.length ≤ 1048576) (hn : n ≤ 70) (piv : List Int) (hpv : piv.length ≤ 100) {det : Int} (hd : 0 ≤ det) (hd' : det < p) {k : Nat} (hk : R.length + 200 < k) :
    ∃ k', k = k' + R.length + 2 ∧ impl_eliminate.j1 k n p piv det top n c R c =
      impl_eliminate.l0 k' n p (piv ++ [(c : Int)]) (det * cell R top c % p) n ((c + 1 : Nat) : Int) (clearAll p c top ((R.getD top []).map (fun x => pinv p (cell R top c) * x % p)) (R.set top ((R.getD top []).map (fun x => pinv p (cell R top c) * x % p)))) := by
  have h2 := isP_ge hp
  have okT := rowOk_at hok ht
  have rT := range_of h2.1 okT
  have rc := rT c
  obtain ⟨k, rfl⟩ : ∃ m, k = m + 1 := ⟨k - 1, by omega⟩
  have hcell : cell R top c = (R.getD top []).getD c 0 := rfl
  have hq : RowOk p n ((R.getD top []).map (fun x => pinv p (cell R top c) * x % p)) := scale_ok _ (by omega) okT.1
  have hokS := RowsOk.set hok hq top
  obtain ⟨k', e', hin⟩ := elim_inner hp hokS (top := top) (c := c) (by simp; omega) hc (by simp; omega) hn piv hpv (det * cell R top c % p) (R.set top ((R.getD top []).map (fun x => pinv p (cell R top c) * x % p))).length k 0 (by omega) (by omega) (by simp; omega)
  rw [clr_zero, getD_set _ _ _ _ ht, if_pos rfl] at hin
  simp only [List.length_set] at e' hin
  refine ⟨k', by omega, ?_⟩
  rw [← hin]
  have hpi := pinv_range (p := p) (a := cell R top c) hp
  simp only [impl_eliminate.j1]
  rw [if_pos (by omega), if_pos (by omega), if_pos (by omega), rdL_nat, if_pos (by rw [okT.1]; omega), if_neg (by omega), if_pos (by omega), if_pos (by rw [Int.toNat_natCast]; omega), rd_nat,
    inverse_tells hp rc.1 rc.2 (by omega), Option.bind_some, Int.toNat_natCast]
  rw [addV_tells h2.1 h2.2 (by rw [okT.1]; simp) (by simp; omega) (fun j => by
      have : (List.replicate n (0 : Int)).getD j 0 = 0 := by
        rw [List.getD_eq_getElem?_getD, List.getElem?_replicate]; split <;> rfl
      rw [this]; omega) rT (by rw [← hcell]; omega) (by rw [← hcell]; omega) (by simp; omega), Option.bind_some, addRow_zeros n _ okT.1, Int.toNat_natCast]
  have hsm := mul_smallV h2.1 h2.2 hd (by omega) rc.1 rc.2
  rw [w64_idV (x := det * (R.getD top []).getD c 0) (by omega) (by omega), Int.tmod_eq_emod_of_nonneg hsm.1, ← hcell]
  rfl
theorem elim_loop {p : Int} (hp : isP p = true) {n : Nat} {rs : List (List Int)} (hm : rs.length ≤ 1048576) (hn : n ≤ 70) (hok : RowsOk p n rs) (d : Nat) :
    ∀ k c, n - c = d → c ≤ n → d * (rs.length + 4) + 300 < k →
      impl_eliminate.l0 k n p (elimTo p rs c).2.1 (elimTo p rs c).2.2 n c (elimTo p rs c).1 = some ((elim p n rs).2.1, (elim p n rs).2.2, (elim p n rs).1) := by
  have h2 := isP_ge hp
  induction d with
  | zero =>
    intro k c hd hc hk
    obtain ⟨k, rfl⟩ : ∃ m, k = m + 1 := ⟨k - 1, by omega⟩
    obtain rfl : c = n := by omega
    simp only [impl_eliminate.l0]
    rw [if_neg (by omega)]
    rfl
  | succ d ih =>
    intro k c hd hc hk
    obtain ⟨k, rfl⟩ : ∃ m, k = m + 1 := ⟨k - 1, by omega⟩
    have hcn : c < n := by omega
    have hmul : (d + 1) * (rs.length + 4) = d * (rs.length + 4) + (rs.length + 4) := by rw [Nat.add_mul, Nat.one_mul]
    have ih2 : ∀ k', d * (rs.length + 4) + 300 < k' → impl_eliminate.l0 k' n p (elimTo p rs (c + 1)).2.1 (elimTo p rs (c + 1)).2.2 n ((c + 1 : Nat) : Int) (elimTo p rs (c + 1)).1 = _ := fun k' hk' => ih k' (c + 1) (by omega) (by omega) hk'
    obtain ⟨t1, t2, t7, hle, t6, t8⟩ := elimTo_small hp hok c hc
    rw [elimTo_succ] at ih2
    generalize elimTo p rs c = s at *
    obtain ⟨R, piv, det⟩ := s
    dsimp only at *
    have hf := firstRow_tells (fun x hx => (t1 x hx).1) (t := piv.length) (c := c) (rs := R) (by omega) hcn
    simp only [impl_eliminate.l0]
    rw [if_pos (by omega)]
    show Option.bind (firstRow R (piv.length : Int) (c : Int)) _ = _
    rw [hf, Option.bind_some]
    cases hp1 : findPivot R piv.length c with
    | none =>
      rw [elimStep_none hp1] at ih2
      dsimp only at ih2 ⊢
      rw [if_pos (by omega), w64_succ (n := 70) (by omega) (by omega)]
      exact ih2 k (by omega)
    | some q =>
      obtain ⟨b1, b2⟩ := findPivot_some hp1
      have hst : elimStep p (R, piv, det) c = (clearAll p c piv.length (((if q = 0 then R else swapRows R piv.length (piv.length + q)).getD piv.length []).map (fun x => pinv p (cell (if q = 0 then R else swapRows R piv.length (piv.length + q)) piv.length c) * x % p)) ((if q = 0 then R else swapRows R piv.length (piv.length + q)).set piv.length (((if q = 0 then R else swapRows R piv.length (piv.length + q)).getD piv.length []).map (fun x => pinv p (cell (if q = 0 then R else swapRows R piv.length (piv.length + q)) piv.length c) * x % p))), piv ++ [(c : Int)], (if q = 0 then det else -det % p) * cell (if q = 0 then R else swapRows R piv.length (piv.length + q)) piv.length c % p) := by
        unfold elimStep; simp only [hp1]
      rw [hst] at ih2
      clear hst
      dsimp only at ih2 ⊢
      rw [if_neg (by omega)]
      by_cases e : q = 0
      · subst e
        simp only [if_true] at ih2
        rw [if_neg (show ¬ (((0 : Nat) : Int) > 0) by decide)]
        obtain ⟨k', ek, hj⟩ := elim_j1 hp t1 (top := piv.length) (c := c) (by omega) hcn (by omega) hn piv (by omega) t6.1 t6.2 (k := k) (by omega)
        rw [hj]
        exact ih2 k' (by omega)
      · simp only [if_neg e] at ih2
        have z1 : ((q : Nat) : Int) > 0 := by omega
        have z2 : (0 : Int) ≤ ((piv.length + q : Nat) : Int) := by omega
        have z3 : ((piv.length + q : Nat) : Int) < (R.length : Int) := by omega
        have z4 : (0 : Int) ≤ (piv.length : Int) := by omega
        have z5 : (piv.length : Int) < (R.length : Int) := by omega
        have z6 : -9223372036854775808 ≤ (piv.length : Int) + (q : Int) := by omega
        have z7 : (piv.length : Int) + (q : Int) ≤ 9223372036854775807 := by omega
        have z8 : (piv.length : Int) + (q : Int) = ((piv.length + q : Nat) : Int) := by omega
        have z9 : -9223372036854775808 ≤ -det := by omega
        have z10 : -det ≤ 9223372036854775807 := by omega
        have z11 : impl_reduce.f (-det) p = some (-det % p) := reduce_small h2.1 h2.2 (by omega) (by omega)
        rw [if_pos z1, w64_idV z6 z7, z8, if_pos z2, if_pos z3, if_pos z4, if_pos z5, w64_idV z9 z10, z11, Option.bind_some, rdL_nat, rdL_nat, Int.toNat_natCast, Int.toNat_natCast]
        have hsw : (R.set piv.length (R.getD (piv.length + q) [])).set (piv.length + q) (R.getD piv.length []) = swapRows R piv.length (piv.length + q) := rfl
        rw [hsw]
        have hl := swapRows_length R piv.length (piv.length + q)
        have hokW := RowsOk.swap t1 (a := piv.length) (b := piv.length + q) (by omega) b1
        obtain ⟨k', ek, hj⟩ := elim_j1 hp hokW (top := piv.length) (c := c) (by omega) hcn (by omega) hn piv (by omega) (det := -det % p) (Int.emod_nonneg _ (by omega)) (Int.emod_lt_of_pos _ (by omega)) (k := k) (by omega)
        rw [hj]
        exact ih2 k' (by omega)
theorem elim_tells {p : Int} (hp : isP p = true) {n : Nat} {rs : List (List Int)} (hm : rs.length ≤ 64) (hn : n ≤ 70) (hok : RowsOk p n rs) {k : Nat} (hk : 6000 ≤ k) :
    impl_eliminate.l0 k n p [] 1 n 0 rs = some ((elim p n rs).2.1, (elim p n rs).2.2, (elim p n rs).1) := by
  have h : n * (rs.length + 4) ≤ 70 * 68 := Nat.mul_le_mul hn (by omega)
  exact elim_loop hp (by omega) hn hok n k 0 (by omega) (by omega) (by omega)
theorem specElim_tells {p : Int} (hp : isP p = true) {R C : Nat} {l : List Int} (hR : R ≤ 64) (hC : C ≤ 70) (hl : l.length = R * C) (hv : ∀ j, 0 ≤ l.getD j 0 ∧ l.getD j 0 < p) {k : Nat} (hk : 400000 ≤ k) :
    ∃ ds, 0 ≤ ds ∧ ds < p ∧ ((elim p C (rowsM R C l)).2.1.length = C → ds = (elim p C (rowsM R C l)).2.2) ∧
      spec_l03Reduced.f k p R C l = some (p, (R : Int), (C : Int), tab R C (cell (elim p C (rowsM R C l)).1), (elim p C (rowsM R C l)).2.1, ds) := by
  have h2 := isP_ge hp
  have hm : R * C ≤ 64 * 70 := Nat.mul_le_mul hR hC
  have hb : (C - 0) * 5200 ≤ 70 * 5200 := Nat.mul_le_mul (by omega) (Nat.le_refl _)
  obtain ⟨ds, a1, a2, a3, a4⟩ := spec_elim_loop (p := p) hp (C := C) (rs := rowsM R C l) (ml := l) (mp := p) (m2 := C) (op := p) (o1 := R) (o2 := C) (by rw [rowsM_length]; exact hR) hC (rowsM_ok hv) (C - 0) k 0 1 rfl (by omega) (by omega) (by omega) (by omega) (fun _ => rfl)
  refine ⟨ds, a1, a2, a3, ?_⟩
  unfold spec_l03Reduced.f spec_l00Own.f
  simp only [Option.bind_some, List.nil_append, List.length_nil]
  rw [if_pos (by omega), Option.bind_some]
  rw [rowsM_length] at a4
  rw [← a4]
  show _ = spec_l03Reduced.l0 k p C [] 1 0 0 p R C l p R C (tab R C (cell (rowsM R C l)))
  rw [rowsM_tab hl]
theorem range_map_snoc (g : Nat → Int) (n : Nat) : (List.range n).map g ++ [g n] = (List.range (n + 1)).map g := by rw [List.range_succ]; simp
theorem filled_row {cf : Cell2} {f : Nat → Nat → Int} {r c : Nat} (hr : r ≤ 128) (hc : c ≤ 128) {i : Nat} (hi : i < r) (h : ∀ j, j < c → cf.f i j = some (f i j)) (p : Int) (d : Nat) : ∀ (k j : Nat), c - j = d → j ≤ c →
    impl_filled.l1 cf (k + d + 1) c i r i c j p r c ((List.range (i * c + j)).map fun x => f (x / c) (x % c)) =
    impl_filled.l0 cf k c r ((i + 1 : Nat) : Int) p r c ((List.range ((i + 1) * c)).map fun x => f (x / c) (x % c)) := by
  induction d with
  | zero =>
    intro k j hd hj
    obtain rfl : j = c := by omega
    rw [show k + 0 + 1 = k + 1 by omega]
    simp only [impl_filled.l1]
    rw [if_neg (by omega), w64_succ (n := r) hi (by omega), Nat.succ_mul]
  | succ d ih =>
    intro k j hd hj
    have hj' : j < c := by omega
    have hlt := at_lt hi hj'
    have hm := side_mul hr hc
    rw [show k + (d + 1) + 1 = (k + d + 1) + 1 by omega]
    simp only [impl_filled.l1]
    rw [if_pos (by omega), h j hj']
    simp only [Option.bind_some, List.length_map, List.length_range]
    rw [if_pos (by omega), w64_succ (n := c) hj' (by omega)]
    have e : f i j = (fun x => f (x / c) (x % c)) (i * c + j) := by simp only [(at_div hj').1, (at_div hj').2]
    rw [e, range_map_snoc]
    exact ih k (j + 1) (by omega) (by omega)
theorem filled_loop {cf : Cell2} {f : Nat → Nat → Int} {r c : Nat} (hr : r ≤ 128) (hc : c ≤ 128) (h : ∀ i j, i < r → j < c → cf.f i j = some (f i j)) (p : Int) (d : Nat) : ∀ (k i : Nat), r - i = d → i ≤ r → d * (c + 2) < k →
    impl_filled.l0 cf k c r i p r c ((List.range (i * c)).map fun x => f (x / c) (x % c)) = some (p, (r : Int), (c : Int), tab r c f) := by
  induction d with
  | zero =>
    intro k i hd hi hk
    obtain ⟨k, rfl⟩ : ∃ m, k = m + 1 := ⟨k - 1, by omega⟩
    obtain rfl : i = r := by omega
    simp only [impl_filled.l0]
    rw [if_neg (by omega)]
    rfl
  | succ d ih =>
    intro k i hd hi hk
    rw [Nat.succ_mul] at hk
    obtain ⟨k, rfl⟩ : ∃ m, k = m + c + 1 + 1 := ⟨k - c - 1 - 1, by omega⟩
    simp only [impl_filled.l0]
    rw [if_pos (by omega)]
    have := filled_row hr hc (show i < r by omega) (fun j hj => h i j (by omega) hj) p c k 0 (by omega) (by omega)
    rw [show i * c + 0 = i * c from rfl] at this
    rw [show (0 : Int) = ((0 : Nat) : Int) from rfl, this]
    exact ih k (i + 1) (by omega) (by omega) (by omega)
theorem filled_tells {cf : Cell2} {f : Nat → Nat → Int} {r c : Nat} (hr : r ≤ 128) (hc : c ≤ 128) (h : ∀ i j, i < r → j < c → cf.f i j = some (f i j)) (p a3 : Int) {k : Nat} (hk : 17000 ≤ k) :
    impl_filled.f cf k p r c a3 = some (p, (r : Int), (c : Int), tab r c f) := by
  have h2 : r * (c + 2) ≤ 128 * 130 := Nat.mul_le_mul hr (by omega)
  have := filled_loop hr hc h p r k 0 (by omega) (by omega) (by omega)
  unfold impl_filled.f
  rw [show ([] : List Int) = (List.range (0 * c)).map fun x => f (x / c) (x % c) by simp]
  exact this
theorem at_tells {p r c : Int} {l : List Int} {R C : Nat} (hr : R ≤ 128) (hc : C ≤ 128) (ec : c = C) (hl : l.length = R * C) {i j : Nat} (hi : i < R) (hj : j < C) : impl_Matrix_at.f p r c l i j = some (l.getD (i * C + j) 0) := by
  subst ec
  have h := at_lt hi hj
  unfold impl_Matrix_at.f
  rw [w64_at (r := R) hr hc (by omega) (by omega), if_pos (by omega), if_pos (by omega), rd_nat]
def turned (r c : Nat) (l : List Int) : List Int := tab c r (fun i j => l.getD (j * c + i) 0)
theorem implTransposed_tells (p : Int) {r c : Nat} (hr : r ≤ 128) (hc : c ≤ 128) {l : List Int} (hl : l.length = r * c) {k : Nat} (hk : 17000 ≤ k) : impl_transpose.f k p r c l = some (p, (c : Int), (r : Int), turned r c l) := by
  unfold impl_transpose.f
  rw [filled_tells (f := fun i j => l.getD (j * c + i) 0) hc hr (fun i j hi hj => at_tells (p := p) (r := (r : Int)) (R := r) hr hc rfl hl hj hi) p 0 hk]
  rfl
def colsM (R C : Nat) (l : List Int) : List (List Int) := (List.range C).map (fun j => (List.range R).map (fun i => l.getD (i * C + j) 0))
theorem colsM_turned {R C : Nat} {l : List Int} : rowsM C R (turned R C l) = colsM R C l := by
  unfold rowsM colsM turned
  refine List.map_congr_left (fun i hi => List.map_congr_left (fun j hj => ?_))
  exact tab_at _ (List.mem_range.mp hi) (List.mem_range.mp hj)
theorem colsM_snoc (R C : Nat) (l : List Int) (j : Nat) : (List.range j).map (fun j => (List.range R).map (fun i => l.getD (i * C + j) 0)) ++ [(List.range R).map (fun i => l.getD (i * C + j) 0)] = (List.range (j + 1)).map (fun j => (List.range R).map (fun i => l.getD (i * C + j) 0)) := by
  rw [List.range_succ, List.map_append]; rfl
theorem rows_snocN (g : Nat → Int) (i : Nat) : (List.range i).map g ++ [g i] = (List.range (i + 1)).map g := by rw [List.range_succ, List.map_append]; rfl
theorem colLoop1 {p : Int} {R C : Nat} {l : List Int} (hR : R ≤ 32) (hC : C ≤ 32) (hl : l.length = R * C) {j : Nat} (hj : j < C) (acc : List (List Int)) (ha : acc.length ≤ 32) (d : Nat) : ∀ k i, R - i = d → i ≤ R → d < k →
    ∃ k', k ≤ k' + d + 1 ∧ spec_l04Columns.l1 k acc j ((List.range i).map (fun i => l.getD (i * C + j) 0)) i p R C l = spec_l04Columns.l0 k' (acc ++ [(List.range R).map (fun i => l.getD (i * C + j) 0)]) ((j + 1 : Nat) : Int) p R C l := by
  induction d with
  | zero =>
    intro k i hd hi hk
    obtain ⟨k, rfl⟩ : ∃ m, k = m + 1 := ⟨k - 1, by omega⟩
    obtain rfl : i = R := by omega
    refine ⟨k, by omega, ?_⟩
    simp only [spec_l04Columns.l1]
    rw [if_neg (nlt_nat (Nat.le_refl _)), if_pos (by omega), w64_succ (n := C) hj (by omega)]
  | succ d ih =>
    intro k i hd hi hk
    obtain ⟨k, rfl⟩ : ∃ m, k = m + 1 := ⟨k - 1, by omega⟩
    have hiR : i < R := by omega
    have hx := at_lt hiR hj
    obtain ⟨k', h1, h2⟩ := ih k (i + 1) (by omega) (by omega) (by omega)
    refine ⟨k', by omega, ?_⟩
    simp only [spec_l04Columns.l1]
    rw [if_pos (lt_nat hiR), w64_at (r := R) (by omega) (by omega) (by omega) (by omega), if_pos (by omega), if_pos (by rw [hl]; exact_mod_cast hx), if_pos (by simp; omega), rd_nat, rows_snocN (fun i => l.getD (i * C + j) 0) i, w64_succ (n := R) hiR (by omega)]
    exact h2
theorem colLoop0 {p : Int} {R C : Nat} {l : List Int} (hR : R ≤ 32) (hC : C ≤ 32) (hl : l.length = R * C) (d : Nat) : ∀ k j, C - j = d → j ≤ C → d * 40 + 40 < k →
    spec_l04Columns.l0 k ((List.range j).map (fun j => (List.range R).map (fun i => l.getD (i * C + j) 0))) j p R C l = some (colsM R C l) := by
  induction d with
  | zero =>
    intro k j hd hj hk
    obtain ⟨k, rfl⟩ : ∃ m, k = m + 1 := ⟨k - 1, by omega⟩
    obtain rfl : j = C := by omega
    simp only [spec_l04Columns.l0]
    rw [if_neg (nlt_nat (Nat.le_refl _))]
    rfl
  | succ d ih =>
    intro k j hd hj hk
    obtain ⟨k, rfl⟩ : ∃ m, k = m + 1 := ⟨k - 1, by omega⟩
    have hjC : j < C := by omega
    simp only [spec_l04Columns.l0]
    rw [if_pos (lt_nat hjC)]
    obtain ⟨k', h1, h2⟩ := colLoop1 (p := p) hR hC hl hjC ((List.range j).map (fun j => (List.range R).map (fun i => l.getD (i * C + j) 0))) (by simp; omega) R k 0 (by omega) (by omega) (by omega)
    refine Eq.trans h2 ?_
    rw [colsM_snoc]
    exact ih k' (j + 1) (by omega) (by omega) (by omega)
theorem specCols_tells {p : Int} {R C : Nat} {l : List Int} (hR : R ≤ 32) (hC : C ≤ 32) (hl : l.length = R * C) {k : Nat} (hk : 2000 ≤ k) : spec_l04Columns.f k p R C l = some (colsM R C l) := by
  unfold spec_l04Columns.f
  exact colLoop0 hR hC hl C k 0 (by omega) (by omega) (by omega)
theorem implCols_tells (p : Int) {R C : Nat} {l : List Int} (hR : R ≤ 32) (hC : C ≤ 32) (hl : l.length = R * C) {k : Nat} (hk : 17000 ≤ k) : impl_columnsOf.f k p R C l = some (colsM R C l) := by
  unfold impl_columnsOf.f
  rw [implTransposed_tells p (by omega) (by omega) hl hk, Option.bind_some]
  dsimp only
  rw [rowsOf_tells (R := C) (C := R) (by omega) (by omega) (by unfold turned; rw [tab_length]) (by omega), Option.bind_some, colsM_turned]
theorem colsM_ok {p : Int} {R C : Nat} {l : List Int} (hv : ∀ j, 0 ≤ l.getD j 0 ∧ l.getD j 0 < p) : RowsOk p R (colsM R C l) := by
  intro r hr
  unfold colsM at hr
  obtain ⟨j, _, rfl⟩ := List.mem_map.mp hr
  refine ⟨by simp, fun x hx => ?_⟩
  obtain ⟨i, _, rfl⟩ := List.mem_map.mp hx
  exact hv _
theorem concat_size {rs : List (List Int)} (hr : rs.length ≤ 100) (hl : rs.flatten.length ≤ 100000) (d : Nat) : ∀ k i, rs.length - i = d → i ≤ rs.length → d < k →
    ∃ k', k = k' + d + 1 ∧ slices_Concat_int64_int64.l0 k rs ((rs.take i).flatten.length : Int) rs rs.length i = slices_Concat_int64_int64.l1 k' [] rs rs.length 0 := by
  have hle : ∀ i, (rs.take i).flatten.length ≤ rs.flatten.length := fun i => by
    have : rs.flatten = (rs.take i).flatten ++ (rs.drop i).flatten := by rw [← List.flatten_append, List.take_append_drop]
    rw [this, List.length_append]; omega
  induction d with
  | zero =>
    intro k i hd hi hk
    obtain ⟨k, rfl⟩ : ∃ m, k = m + 1 := ⟨k - 1, by omega⟩
    refine ⟨k, by omega, ?_⟩
    have h1 := hle i
    simp only [slices_Concat_int64_int64.l0]
    rw [if_neg (nlt_nat (by omega))]
    have g : slices_Grow_int64_int64.f [] ((rs.take i).flatten.length : Int) = some [] := by
      unfold slices_Grow_int64_int64.f
      rw [if_pos (show ([] : List Int).length = 0 from rfl), if_pos (by omega), if_pos (by omega)]
    rw [g, Option.bind_some]
  | succ d ih =>
    intro k i hd hi hk
    obtain ⟨k, rfl⟩ : ∃ m, k = m + 1 := ⟨k - 1, by omega⟩
    obtain ⟨k', e1, e2⟩ := ih k (i + 1) (by omega) (by omega) (by omega)
    refine ⟨k', by omega, ?_⟩
    have hiR : i < rs.length := by omega
    have h1 := hle (i + 1)
    rw [← e2, take_flatten_succ rs hiR, List.length_append]
    rw [take_flatten_succ rs hiR, List.length_append] at h1
    have e3 : ((rs.take i).flatten.length : Int) + ((rs.getD i []).length : Int) = (((rs.take i).flatten.length + (rs.getD i []).length : Nat) : Int) := by omega
    simp only [slices_Concat_int64_int64.l0]
    rw [if_pos (lt_nat hiR), if_pos (idx0 _), if_pos (lt_nat hiR), rdL_nat, e3, w64_idV (x := (((rs.take i).flatten.length + (rs.getD i []).length : Nat) : Int)) (by omega) (by omega), if_neg (by omega), w64_succ (n := 100) (by omega) (by omega)]
theorem concat_rows {rs : List (List Int)} (hr : rs.length ≤ 100) (hl : rs.flatten.length ≤ 100000) (d : Nat) : ∀ k i, rs.length - i = d → i ≤ rs.length → d < k →
    slices_Concat_int64_int64.l1 k (rs.take i).flatten rs rs.length i = some rs.flatten := by
  have hle : ∀ i, (rs.take i).flatten.length ≤ rs.flatten.length := fun i => by
    have : rs.flatten = (rs.take i).flatten ++ (rs.drop i).flatten := by rw [← List.flatten_append, List.take_append_drop]
    rw [this, List.length_append]; omega
  induction d with
  | zero =>
    intro k i hd hi hk
    obtain ⟨k, rfl⟩ : ∃ m, k = m + 1 := ⟨k - 1, by omega⟩
    simp only [slices_Concat_int64_int64.l1]
    rw [if_neg (nlt_nat (by omega)), List.take_of_length_le (by omega)]
  | succ d ih =>
    intro k i hd hi hk
    obtain ⟨k, rfl⟩ : ∃ m, k = m + 1 := ⟨k - 1, by omega⟩
    have hiR : i < rs.length := by omega
    have h1 := hle (i + 1)
    have e2 := ih k (i + 1) (by omega) (by omega) (by omega)
    rw [take_flatten_succ rs hiR] at h1 e2
    rw [List.length_append] at h1
    simp only [slices_Concat_int64_int64.l1]
    rw [if_pos (lt_nat hiR), if_pos (idx0 _), if_pos (lt_nat hiR), rdL_nat, if_pos (by omega), w64_succ (n := 100) (by omega) (by omega)]
    exact e2
theorem concat_tells {rs : List (List Int)} (hr : rs.length ≤ 100) (hl : rs.flatten.length ≤ 100000) {k : Nat} (hk : 300 ≤ k) : slices_Concat_int64_int64.f k rs = some rs.flatten := by
  unfold slices_Concat_int64_int64.f
  obtain ⟨k', e1, e2⟩ := concat_size hr hl rs.length k 0 (by omega) (by omega) (by omega)
  refine e2.trans ?_
  exact concat_rows hr hl rs.length k' 0 (by omega) (by omega) (by omega)
theorem matrixOf_tells {p q : Int} {C : Nat} (c : Int) {rs : List (List Int)} (hok : RowsOk p C rs) (hr : rs.length ≤ 100) (hC : C ≤ 100) {k : Nat} (hk : 300 ≤ k) : impl_matrixOf.f k q c rs = some (q, (rs.length : Int), c, tab rs.length C (cell rs)) := by
  have hl : rs.flatten.length ≤ 100000 := by
    rw [flatten_rows hok, tab_length]
    have : rs.length * C ≤ 100 * 100 := Nat.mul_le_mul hr hC
    omega
  unfold impl_matrixOf.f
  show Option.bind (some (rs.length : Int)) _ = _
  rw [Option.bind_some, concat_tells hr hl hk, Option.bind_some, flatten_rows hok]
theorem rdS_nat (l : List (List Int)) (i : Nat) : rd_L1 l (i : Int) = l.getD i [] := by unfold rd_L1; rw [Int.toNat_natCast]
theorem row_mem {l : List (List Int)} {i : Nat} (h : i < l.length) : l.getD i [] ∈ l := by rw [getD_at h]; exact List.getElem_mem h
def basisOf (p : Int) (n : Nat) (rs : List (List Int)) : List (List Int) := (elim p n rs).1.take (elim p n rs).2.1.length
theorem l04Rows_loop {p q : Int} {n : Nat} (hn : n ≤ 70) {rs : List (List Int)} (hok : RowsOk q n rs) (hm : rs.length ≤ 1048576) (R : Int) (d : Nat) : ∀ (k i : Nat), rs.length - i = d → i ≤ rs.length → d < k →
    spec_l04Rows.l0 k rs i p R n (rs.take i).flatten = some (p, R, (n : Int), rs.flatten) := by
  induction d with
  | zero =>
    intro k i hd hi hk
    obtain ⟨k, rfl⟩ : ∃ m, k = m + 1 := ⟨k - 1, by omega⟩
    simp only [spec_l04Rows.l0]
    rw [if_neg (by omega), List.take_of_length_le (by omega)]
  | succ d ih =>
    intro k i hd hi hk
    obtain ⟨k, rfl⟩ : ∃ m, k = m + 1 := ⟨k - 1, by omega⟩
    have hlt : i < rs.length := by omega
    have hw := (hok _ (row_mem hlt)).1
    have hl : (rs.take i).flatten.length ≤ 1048576 * 70 := by
      rw [flatten_tab hok i hi, tab_length]; exact Nat.mul_le_mul (by omega) hn
    simp only [spec_l04Rows.l0]
    rw [if_pos (by omega), if_pos (by omega), rdS_nat, if_pos (by omega), w64_succ (n := rs.length) hlt (by omega), ← take_flatten_succ rs hlt]
    exact ih k (i + 1) (by omega) (by omega) (by omega)
theorem l04Rows_tells {p q : Int} {n : Nat} (hn : n ≤ 70) {rs : List (List Int)} (hok : RowsOk q n rs) (hm : rs.length ≤ 1048576) {k : Nat} (hk : 1048577 ≤ k) : spec_l04Rows.f k p n rs = some (p, (rs.length : Int), (n : Int), rs.flatten) := by
  unfold spec_l04Rows.f
  exact l04Rows_loop hn hok hm _ rs.length k 0 (by omega) (by omega) (by omega)
theorem okTab {p : Int} (hp : 2 ≤ p) {r c : Nat} {f : Nat → Nat → Int} (hf : ∀ i j, i < r → j < c → 0 ≤ f i j ∧ f i j < p) (j : Nat) : 0 ≤ (tab r c f).getD j 0 ∧ (tab r c f).getD j 0 < p := by
  by_cases hj : j < r * c
  · obtain ⟨a, b, _⟩ := split_at hj
    rw [tab_getD _ hj]; exact hf _ _ a b
  · rw [List.getD_eq_getElem?_getD, List.getElem?_eq_none (by rw [tab_length]; omega)]
    simp; omega
def joined (r c c' : Nat) (l l' : List Int) : List Int := tab r (c + c') (fun i j => if j < c then l.getD (i * c + j) 0 else l'.getD (i * c' + (j - c)) 0)
theorem tab_succ (r c : Nat) (f : Nat → Nat → Int) : tab (r + 1) c f = tab r c f ++ (List.range c).map (f r) := by
  unfold tab
  rw [Nat.succ_mul, List.range_add, List.map_append]
  congr 1
  rw [List.map_map]
  refine List.map_congr_left (fun x hx => ?_)
  have hx : x < c := by simpa using hx
  simp only [Function.comp, (at_div (i := r) hx).1, (at_div (i := r) hx).2]
theorem range_two (c c' : Nat) (f g : Nat → Int) : (List.range c).map f ++ (List.range c').map g = (List.range (c + c')).map (fun j => if j < c then f j else g (j - c)) := by
  refine List.ext_getElem (by simp) (fun j hj hj' => ?_)
  have h : j < c + c' := by simpa using hj'
  rw [List.getElem_map, List.getElem_range]
  by_cases q : j < c
  · rw [List.getElem_append_left (by simpa using q), List.getElem_map, List.getElem_range, if_pos q]
  · rw [List.getElem_append_right (by simpa using q), List.getElem_map, List.getElem_range, if_neg q]
    simp
theorem join_loop {p p' r' : Int} {r c c' : Nat} (hr : r ≤ 64) (hc : c ≤ 64) (hc' : c' ≤ 64) {l l' : List Int} (hl : l.length = r * c) (hl' : l'.length = r * c') (q1 q2 q3 : Int) (d : Nat) : ∀ (k i : Nat), r - i = d → i ≤ r → d < k →
    spec_l03Join.l0 k i p r c l p' r' c' l' q1 q2 q3 (joined i c c' l l') = some (q1, q2, q3, joined r c c' l l') := by
  have h0 : 16384 + 64 < 17592186044416 := by omega
  have h00 : 16384 + 64 + 64 < 17592186044416 := by omega
  induction d with
  | zero =>
    intro k i hd hi hk
    obtain ⟨k, rfl⟩ : ∃ m, k = m + 1 := ⟨k - 1, by omega⟩
    obtain rfl : i = r := by omega
    simp only [spec_l03Join.l0]
    rw [if_neg (by omega)]
  | succ d ih =>
    intro k i hd hi hk
    obtain ⟨k, rfl⟩ : ∃ m, k = m + 1 := ⟨k - 1, by omega⟩
    have hi' : i < r := by omega
    have a1 : i ≤ 128 := by omega
    have a2 : i + 1 ≤ 128 := by omega
    have a3 : c ≤ 128 := by omega
    have a4 : c' ≤ 128 := by omega
    have a5 : c + c' ≤ 128 := by omega
    have a6 : r - (i + 1) = d := by omega
    have a7 : d < k := by omega
    have a8 : r ≤ 35184372088832 := by omega
    have e1 : wrap64 ((i : Int) + 1) = ((i + 1 : Nat) : Int) := w64_succ (n := r) hi' a8
    have m1 := w64_mulN a1 a3
    have m2 := w64_mulN a2 a3
    have m3 := w64_mulN a1 a4
    have m4 := w64_mulN a2 a4
    have g1 : (i + 1) * c ≤ r * c := Nat.mul_le_mul_right _ hi'
    have g2 : (i + 1) * c' ≤ r * c' := Nat.mul_le_mul_right _ hi'
    have g3 : (i + 1) * c = i * c + c := Nat.succ_mul i c
    have g4 : (i + 1) * c' = i * c' + c' := Nat.succ_mul i c'
    have g7 := side_mul a1 a5
    have s1 := slice_row hl hi'
    have s2 := slice_row hl' hi'
    have t1 : (joined i c c' l l').length = i * (c + c') := by unfold joined; rw [tab_length]
    have t2 : (joined i c c' l l' ++ (List.range c).map (fun j => l.getD (i * c + j) 0)).length = i * (c + c') + c := by rw [List.length_append, t1]; simp
    have n1 : (0 : Int) ≤ ((i * c : Nat) : Int) := Int.natCast_nonneg _
    have n2 : ((i * c : Nat) : Int) ≤ (((i + 1) * c : Nat) : Int) := Int.ofNat_le.mpr (by rw [g3]; exact Nat.le_add_right _ _)
    have n3 : (((i + 1) * c : Nat) : Int) ≤ (l.length : Int) := Int.ofNat_le.mpr (by rw [hl]; exact g1)
    have n4 : (0 : Int) ≤ ((i * c' : Nat) : Int) := Int.natCast_nonneg _
    have n5 : ((i * c' : Nat) : Int) ≤ (((i + 1) * c' : Nat) : Int) := Int.ofNat_le.mpr (by rw [g4]; exact Nat.le_add_right _ _)
    have n6 : (((i + 1) * c' : Nat) : Int) ≤ (l'.length : Int) := Int.ofNat_le.mpr (by rw [hl']; exact g2)
    have n0 : (i : Int) < (r : Int) := Int.ofNat_lt.mpr hi'
    have n7 : (joined i c c' l l').length + ((List.range c).map (fun j => l.getD (i * c + j) 0)).length < 17592186044416 := by
      rw [t1, List.length_map, List.length_range]
      exact Nat.lt_of_le_of_lt (Nat.add_le_add g7 hc) h0
    have n8 : (joined i c c' l l' ++ (List.range c).map (fun j => l.getD (i * c + j) 0)).length + ((List.range c').map (fun j => l'.getD (i * c' + j) 0)).length < 17592186044416 := by
      rw [t2, List.length_map, List.length_range]
      exact Nat.lt_of_le_of_lt (Nat.add_le_add (Nat.add_le_add g7 hc) hc') h00
    simp only [spec_l03Join.l0]
    simp only [e1, m1, m2, m3, m4, Int.toNat_natCast, s1, s2, n0, n1, n2, n3, n4, n5, n6, n7, if_true, Option.bind_some]
    rw [if_pos n8]
    have e : joined i c c' l l' ++ (List.range c).map (fun j => l.getD (i * c + j) 0) ++ (List.range c').map (fun j => l'.getD (i * c' + j) 0) = joined (i + 1) c c' l l' := by
      unfold joined
      rw [tab_succ, List.append_assoc, range_two]
    rw [e]
    exact ih k (i + 1) a6 hi' a7
theorem specJoin_tells {p p' r' : Int} {r c c' : Nat} (hr : r ≤ 64) (hc : c ≤ 64) (hc' : c' ≤ 64) {l l' : List Int} (hl : l.length = r * c) (hl' : l'.length = r * c') {k : Nat} (hk : r < k) :
    spec_l03Join.f k p r c l p' r' c' l' = some (p, (r : Int), ((c + c' : Nat) : Int), joined r c c' l l') := by
  unfold spec_l03Join.f
  have e : wrap64 ((c : Int) + (c' : Int)) = ((c + c' : Nat) : Int) := by rw [w64_id (by omega) (by omega)]; push_cast; rfl
  rw [e, show ([] : List Int) = joined 0 c c' l l' by unfold joined tab; simp]
  exact join_loop hr hc hc' hl hl' _ _ _ r k 0 (by omega) (by omega) hk
def joinOut (p r c : Int) (a : List Int) (p' r' c' : Int) (b : List Int) : Int × Int × Int × List Int × Int := if (matOk p r c a && matOk p' r' c' b) = true then if p = p' ∧ r = r' then if c + c' ≤ 32 then (p, r, ((c.toNat + c'.toNat : Nat) : Int), joined r.toNat c.toNat c'.toNat a b, 0) else (0, 0, 0, [], 5) else (0, 0, 0, [], 6) else (0, 0, 0, [], 1)
end Go.Proofs.Ytmbbjmkcbpefhaa.F
end

section
set_option linter.unusedVariables false
set_option linter.unusedSimpArgs false
set_option linter.unusedSectionVars false
namespace Go.Proofs.Ytmbbjmkcbpefhaa.Lin
def sm {p : Nat} [NeZero p] (n : Nat) (f : Nat → Fin p) : Fin p := match n with | 0 => 0 | n+1 => sm n f + f n
section
variable {p : Nat} [NeZero p]
theorem sm_congr {n : Nat} {f g : Nat → Fin p} (h : ∀ i, i < n → f i = g i) : sm n f = sm n g := by
  induction n with
  | zero => rfl
  | succ n ih =>
    simp only [sm]
    rw [ih (fun i hi => h i (by omega)), h n (by omega)]
theorem sm_zero {n : Nat} {f : Nat → Fin p} (h : ∀ i, i < n → f i = 0) : sm n f = 0 := by
  induction n with
  | zero => rfl
  | succ n ih =>
    simp only [sm]
    rw [ih (fun i hi => h i (by omega)), h n (by omega)]
    grind
theorem sm_add (n : Nat) (f g : Nat → Fin p) : sm n (fun i => f i + g i) = sm n f + sm n g := by
  induction n with
  | zero => simp [sm]
  | succ n ih => simp only [sm, ih]; grind
theorem sm_mul (n : Nat) (f : Nat → Fin p) (c : Fin p) : sm n (fun i => c * f i) = c * sm n f := by
  induction n with
  | zero => simp only [sm]; grind
  | succ n ih => simp only [sm, ih]; grind
theorem sm_mul_r (n : Nat) (f : Nat → Fin p) (c : Fin p) : sm n (fun i => f i * c) = sm n f * c := by
  induction n with
  | zero => simp only [sm]; grind
  | succ n ih => simp only [sm, ih]; grind
theorem sm_comm (n m : Nat) (f : Nat → Nat → Fin p) : sm n (fun i => sm m (fun j => f i j)) = sm m (fun j => sm n (fun i => f i j)) := by
  induction n with
  | zero => simp only [sm]; exact (sm_zero (fun _ _ => rfl)).symm
  | succ n ih => simp only [sm, ih]; rw [← sm_add]
theorem sm_one {n : Nat} {f : Nat → Fin p} (k : Nat) (hk : k < n) (h : ∀ i, i < n → i ≠ k → f i = 0) : sm n f = f k := by
  induction n with
  | zero => omega
  | succ n ih =>
    simp only [sm]
    by_cases e : k = n
    · subst e
      rw [sm_zero (fun i hi => h i (by omega) (by omega))]; grind
    · rw [ih (by omega) (fun i hi hne => h i (by omega) hne), h n (by omega) (by omega)]; grind
theorem sm_cut {n r : Nat} {f : Nat → Fin p} (hr : r ≤ n) (h : ∀ i, r ≤ i → i < n → f i = 0) : sm n f = sm r f := by
  induction n with
  | zero => obtain rfl : r = 0 := by omega
            rfl
  | succ n ih =>
    by_cases e : r = n + 1
    · rw [e]
    · simp only [sm]
      rw [ih (by omega) (fun i h1 h2 => h i h1 (by omega)), h n (by omega) (by omega)]; grind
def skip (k i : Nat) : Nat := if i < k then i else i + 1
theorem sm_skip {n : Nat} {f : Nat → Fin p} (k : Nat) (hk : k < n + 1) : sm (n + 1) f = f k + sm n (fun i => f (skip k i)) := by
  induction n with
  | zero => obtain rfl : k = 0 := by omega
            simp only [sm]; grind
  | succ n ih =>
    by_cases e : k = n + 1
    · subst e
      have h : sm (n + 1) (fun i => f (skip (n + 1) i)) = sm (n + 1) f := sm_congr (fun i hi => by unfold skip; rw [if_pos hi])
      rw [h]
      show sm (n + 1) f + f (n + 1) = _
      grind
    · have h1 : sm (n + 1 + 1) f = sm (n + 1) f + f (n + 1) := rfl
      have h2 : sm (n + 1) (fun i => f (skip k i)) = sm n (fun i => f (skip k i)) + f (skip k n) := rfl
      rw [h1, h2, ih (by omega)]
      have h3 : skip k n = n + 1 := by unfold skip; rw [if_neg (by omega)]
      rw [h3]; grind
/-! ### Spans -/
def Sp (n m : Nat) (A : Nat → Nat → Fin p) (v : Nat → Fin p) : Prop := ∃ c : Nat → Fin p, ∀ j, j < n → v j = sm m (fun i => c i * A i j)
theorem Sp.row {n m : Nat} {A : Nat → Nat → Fin p} {i : Nat} (hi : i < m) : Sp n m A (A i) :=
  ⟨fun k => if k = i then 1 else 0, fun j _ => by
    rw [sm_one i hi (fun k _ hk => by dsimp only; rw [if_neg hk]; grind)]; dsimp only; rw [if_pos rfl]; grind⟩
theorem Sp.trans {n m m' : Nat} {A B : Nat → Nat → Fin p} {v : Nat → Fin p} (h : Sp n m A v) (hB : ∀ i, i < m → Sp n m' B (A i)) : Sp n m' B v := by
  obtain ⟨c, hc⟩ := h
  have : ∀ i, ∃ d : Nat → Fin p, i < m → ∀ j, j < n → A i j = sm m' (fun k => d k * B k j) := fun i => by
    by_cases hi : i < m
    · obtain ⟨d, hd⟩ := hB i hi
      exact ⟨d, fun _ => hd⟩
    · exact ⟨fun _ => 0, fun h => absurd h hi⟩
  obtain ⟨d, hd⟩ := Classical.axiomOfChoice this
  refine ⟨fun k => sm m (fun i => c i * d i k), fun j hj => ?_⟩
  rw [hc j hj]
  have e1 : sm m (fun i => c i * A i j) = sm m (fun i => sm m' (fun k => c i * (d i k * B k j))) := sm_congr (fun i hi => by rw [hd i hi j hj, sm_mul])
  rw [e1, sm_comm]
  exact sm_congr (fun k _ => by rw [← sm_mul_r]; exact sm_congr (fun i _ => by grind))
theorem Sp.congr {n m : Nat} {A : Nat → Nat → Fin p} {v u : Nat → Fin p} (h : Sp n m A v) (e : ∀ j, j < n → u j = v j) : Sp n m A u := by
  obtain ⟨c, hc⟩ := h
  exact ⟨c, fun j hj => by rw [e j hj]; exact hc j hj⟩
theorem Sp.zero {n m : Nat} {A : Nat → Nat → Fin p} {v : Nat → Fin p} (h : ∀ j, j < n → v j = 0) : Sp n m A v :=
  ⟨fun _ => 0, fun j hj => by rw [h j hj, sm_zero (fun i _ => by grind)]⟩
theorem Sp.add {n m : Nat} {A : Nat → Nat → Fin p} {v u : Nat → Fin p} (h : Sp n m A v) (k : Sp n m A u) : Sp n m A (fun j => v j + u j) := by
  obtain ⟨c, hc⟩ := h
  obtain ⟨d, hd⟩ := k
  refine ⟨fun i => c i + d i, fun j hj => ?_⟩
  show v j + u j = _
  rw [hc j hj, hd j hj, ← sm_add]
  exact sm_congr (fun i _ => by grind)
theorem Sp.mul {n m : Nat} {A : Nat → Nat → Fin p} {v : Nat → Fin p} (a : Fin p) (h : Sp n m A v) : Sp n m A (fun j => a * v j) := by
  obtain ⟨c, hc⟩ := h
  refine ⟨fun i => a * c i, fun j hj => ?_⟩
  show a * v j = _
  rw [hc j hj, ← sm_mul]
  exact sm_congr (fun i _ => by grind)
/-! ### Reduced forms -/
structure Rref (n m : Nat) (A : Nat → Nat → Fin p) (r : Nat) (P : Nat → Nat) : Prop where
  le : r ≤ m
  lt : ∀ i, i < r → P i < n
  inc : ∀ i k, i < k → k < r → P i < P k
  one : ∀ i, i < r → A i (P i) = 1
  col : ∀ i k, i < r → k < m → k ≠ i → A k (P i) = 0
  before : ∀ i j, i < r → j < P i → A i j = 0
  rest : ∀ i j, r ≤ i → i < m → j < n → A i j = 0
theorem Rref.coeff {n m r : Nat} {A : Nat → Nat → Fin p} {P : Nat → Nat} (h : Rref n m A r P) {v c : Nat → Fin p} (hc : ∀ j, j < n → v j = sm m (fun i => c i * A i j)) {i : Nat} (hi : i < r) : v (P i) = c i := by
  rw [hc _ (h.lt i hi), sm_one i (by have := h.le; omega) (fun k hk hne => by rw [h.col i k hi hk hne]; grind), h.one i hi]; grind
theorem Rref.as_sum {n m r : Nat} {A : Nat → Nat → Fin p} {P : Nat → Nat} (h : Rref n m A r P) {v : Nat → Fin p} (hv : Sp n m A v) (j : Nat) (hj : j < n) : v j = sm r (fun i => v (P i) * A i j) := by
  obtain ⟨c, hc⟩ := hv
  rw [hc j hj, sm_cut h.le (fun i h1 h2 => by rw [h.rest i j h1 h2 hj]; grind)]
  exact sm_congr (fun i hi => by rw [h.coeff hc hi])
theorem Rref.lead {n m r : Nat} {A : Nat → Nat → Fin p} {P : Nat → Nat} (h : Rref n m A r P) {v : Nat → Fin p} (hv : Sp n m A v) {k : Nat} (hk : k < n) (h0 : ∀ j, j < k → v j = 0) (h1 : v k ≠ 0) : ∃ i, i < r ∧ P i = k := by
  by_cases hx : ∃ i, i < r ∧ P i = k
  · exact hx
  · exfalso
    apply h1
    rw [h.as_sum hv k hk]
    refine sm_zero (fun i hi => ?_)
    rcases Nat.lt_trichotomy (P i) k with hlt | heq | hgt
    · rw [h0 _ hlt]; grind
    · exact absurd ⟨i, hi, heq⟩ hx
    · rw [h.before i k hi hgt]; grind
theorem Rref.begins {n m r : Nat} {A : Nat → Nat → Fin p} {P : Nat → Nat} (h : Rref n m A r P) (h10 : (1 : Fin p) ≠ 0) (i : Nat) (hi : i < r) : A i (P i) ≠ 0 := by rw [h.one i hi]; exact h10
/-! ### More unknowns than equations -/
end
section
variable {p : Nat} [NeZero p]
theorem skip_ne' (k i : Nat) : skip k i ≠ k := by unfold skip; split <;> omega
theorem sm_two {n : Nat} {f : Nat → Fin p} (a b : Nat) (ha : a < n) (hb : b < n) (hab : a ≠ b) (h : ∀ i, i < n → i ≠ a → i ≠ b → f i = 0) : sm n f = f a + f b := by
  obtain ⟨n, rfl⟩ : ∃ q, n = q + 1 := ⟨n - 1, by omega⟩
  rw [sm_skip a ha]
  congr 1
  have hb' : ∃ b', b' < n ∧ skip a b' = b := by
    rcases Nat.lt_or_ge b a with h | h
    · exact ⟨b, by omega, by unfold skip; rw [if_pos h]⟩
    · exact ⟨b - 1, by omega, by unfold skip; rw [if_neg (by omega)]; omega⟩
  obtain ⟨b', hb1, hb2⟩ := hb'
  rw [sm_one b' hb1 (fun i hi hne => h _ (by unfold skip; split <;> omega) (skip_ne' a i) (by
    intro e
    apply hne
    unfold skip at e hb2
    split at e <;> split at hb2 <;> omega)), hb2]
def sgn (i : Nat) : Fin p := if i % 2 = 0 then 1 else -1
theorem sgn_succ (i : Nat) : (sgn (i + 1) : Fin p) = - sgn i := by
  unfold sgn
  by_cases h : i % 2 = 0
  · rw [if_pos h, if_neg (by omega)]
  · rw [if_neg h, if_pos (by omega)]; grind
def det : Nat → (Nat → Nat → Fin p) → Fin p
  | 0, _ => 1
  | n + 1, M => sm (n + 1) (fun i => sgn i * M i 0 * det n (fun a b => M (skip i a) (b + 1)))
theorem det_congr {n : Nat} : ∀ {M N : Nat → Nat → Fin p}, (∀ i j, i < n → j < n → M i j = N i j) → det n M = det n N := by
  induction n with
  | zero => intro M N _; rfl
  | succ n ih =>
    intro M N h
    simp only [det]
    refine sm_congr (fun i hi => ?_)
    rw [h i 0 hi (by omega), ih (fun a b ha hb => h _ _ (by unfold skip; split <;> omega) (by omega))]
theorem det_linear {n : Nat} : ∀ {L M N : Nat → Nat → Fin p} (k : Nat) (x y : Fin p), k < n → (∀ i j, i ≠ k → L i j = M i j) → (∀ i j, i ≠ k → L i j = N i j) → (∀ j, L k j = x * M k j + y * N k j) → det n L = x * det n M + y * det n N := by
  induction n with
  | zero => intro L M N k x y hk; omega
  | succ n ih =>
    intro L M N k x y hk hM hN hL
    simp only [det]
    rw [← sm_mul, ← sm_mul, ← sm_add]
    refine sm_congr (fun i hi => ?_)
    by_cases e : i = k
    · subst e
      have e1 : det n (fun a b => L (skip i a) (b + 1)) = det n (fun a b => M (skip i a) (b + 1)) := det_congr (fun a b _ _ => hM _ _ (skip_ne' i a))
      have e2 : det n (fun a b => N (skip i a) (b + 1)) = det n (fun a b => M (skip i a) (b + 1)) := det_congr (fun a b _ _ => by rw [← hN _ _ (skip_ne' i a), hM _ _ (skip_ne' i a)])
      rw [e1, e2, hL]; grind
    · have hk' : ∃ k', k' < n ∧ skip i k' = k := by
        rcases Nat.lt_or_ge k i with h | h
        · exact ⟨k, by omega, by unfold skip; rw [if_pos h]⟩
        · exact ⟨k - 1, by omega, by unfold skip; rw [if_neg (by omega)]; omega⟩
      obtain ⟨k', h1, h2⟩ := hk'
      have hne : ∀ a, a ≠ k' → skip i a ≠ k := fun a ha e => by
        apply ha
        unfold skip at e h2
        split at e <;> split at h2 <;> omega
      rw [ih (L := fun a b => L (skip i a) (b + 1)) (M := fun a b => M (skip i a) (b + 1)) (N := fun a b => N (skip i a) (b + 1)) k' x y h1 (fun a b ha => hM _ _ (hne a ha)) (fun a b ha => hN _ _ (hne a ha)) (fun b => by rw [h2]; exact hL _)]
      rw [hM i 0 e, ← hN i 0 e, hM i 0 e]; grind
theorem det_adjacent {n : Nat} : ∀ {M : Nat → Nat → Fin p} (k : Nat), k + 1 < n → (∀ j, M k j = M (k + 1) j) → det n M = 0 := by
  induction n with
  | zero => intro M k hk; omega
  | succ n ih =>
    intro M k hk h
    simp only [det]
    rw [sm_two k (k + 1) (by omega) hk (by omega) (fun i hi h1 h2 => ?_)]
    · have e1 : det n (fun a b => M (skip (k + 1) a) (b + 1)) = det n (fun a b => M (skip k a) (b + 1)) := det_congr (fun a b _ _ => by
        unfold skip
        rcases Nat.lt_trichotomy a k with hlt | heq | hgt
        · rw [if_pos (by omega), if_pos hlt]
        · subst heq
          rw [if_pos (by omega), if_neg (by omega)]; exact h _
        · rw [if_neg (by omega), if_neg (by omega)])
      rw [e1, sgn_succ, ← h 0]; grind
    · rcases Nat.lt_or_ge i k with hlt | hge
      · rw [ih (M := fun a b => M (skip i a) (b + 1)) (k - 1) (by omega) (fun j => by
          unfold skip
          rw [if_neg (by omega), if_neg (by omega), show k - 1 + 1 = k by omega]; exact h _)]; grind
      · rw [ih (M := fun a b => M (skip i a) (b + 1)) k (by omega) (fun j => by
          unfold skip
          rw [if_pos (by omega), if_pos (by omega)]; exact h _)]; grind
def setRow (M : Nat → Nat → Fin p) (k : Nat) (v : Nat → Fin p) : Nat → Nat → Fin p := fun i j => if i = k then v j else M i j
omit [NeZero p] in
theorem setRow_at (M : Nat → Nat → Fin p) (k : Nat) (v : Nat → Fin p) (j : Nat) : setRow M k v k j = v j := by unfold setRow; rw [if_pos rfl]
omit [NeZero p] in
theorem setRow_ne (M : Nat → Nat → Fin p) {k i : Nat} (v : Nat → Fin p) (j : Nat) (h : i ≠ k) : setRow M k v i j = M i j := by unfold setRow; rw [if_neg h]
def swapRow (M : Nat → Nat → Fin p) (a b : Nat) : Nat → Nat → Fin p := fun i j => if i = a then M b j else if i = b then M a j else M i j
theorem det_swap_of {n : Nat} {a b : Nat} (ha : a < n) (hb : b < n) (hab : a ≠ b) (H : ∀ M : Nat → Nat → Fin p, (∀ j, M a j = M b j) → det n M = 0) (M : Nat → Nat → Fin p) : det n (swapRow M a b) = - det n M := by
  let u := M a
  let v := M b
  let X : (Nat → Fin p) → (Nat → Fin p) → Nat → Nat → Fin p := fun s t => setRow (setRow M a s) b t
  have hXa : ∀ s t j, X s t a j = s j := fun s t j => by show setRow _ _ _ _ _ = _; rw [setRow_ne _ _ _ hab, setRow_at]
  have hXb : ∀ s t j, X s t b j = t j := fun s t j => setRow_at _ _ _ _
  have hXo : ∀ s t i j, i ≠ a → i ≠ b → X s t i j = M i j := fun s t i j h1 h2 => by show setRow _ _ _ _ _ = _; rw [setRow_ne _ _ _ h2, setRow_ne _ _ _ h1]
  have z : ∀ s, det n (X s s) = 0 := fun s => H _ (fun j => by rw [hXa, hXb])
  have l1 : ∀ s s' t, det n (X (fun j => s j + s' j) t) = det n (X s t) + det n (X s' t) := fun s s' t => by
    rw [det_linear (L := X (fun j => s j + s' j) t) (M := X s t) (N := X s' t) a 1 1 ha ?_ ?_ ?_]
    · grind
    · intro i j hi
      by_cases e : i = b
      · subst e; rw [hXb, hXb]
      · rw [hXo _ _ _ _ hi e, hXo _ _ _ _ hi e]
    · intro i j hi
      by_cases e : i = b
      · subst e; rw [hXb, hXb]
      · rw [hXo _ _ _ _ hi e, hXo _ _ _ _ hi e]
    · intro j; rw [hXa, hXa, hXa]; grind
  have l2 : ∀ s t t', det n (X s (fun j => t j + t' j)) = det n (X s t) + det n (X s t') := fun s t t' => by
    rw [det_linear (L := X s (fun j => t j + t' j)) (M := X s t) (N := X s t') b 1 1 hb ?_ ?_ ?_]
    · grind
    · intro i j hi
      by_cases e : i = a
      · subst e; rw [hXa, hXa]
      · rw [hXo _ _ _ _ e hi, hXo _ _ _ _ e hi]
    · intro i j hi
      by_cases e : i = a
      · subst e; rw [hXa, hXa]
      · rw [hXo _ _ _ _ e hi, hXo _ _ _ _ e hi]
    · intro j; rw [hXb, hXb, hXb]; grind
  have h0 := z (fun j => u j + v j)
  rw [l1, l2, l2, z, z] at h0
  have e1 : det n (X u v) = det n M := det_congr (fun i j _ _ => by
    by_cases e : i = a
    · subst e; rw [hXa]
    · by_cases e2 : i = b
      · subst e2; rw [hXb]
      · rw [hXo _ _ _ _ e e2])
  have e2 : det n (X v u) = det n (swapRow M a b) := det_congr (fun i j _ _ => by
    unfold swapRow
    by_cases e : i = a
    · subst e; rw [hXa, if_pos rfl]
    · by_cases e2 : i = b
      · subst e2; rw [hXb, if_neg e, if_pos rfl]
      · rw [hXo _ _ _ _ e e2, if_neg e, if_neg e2])
  rw [e1, e2] at h0
  grind
theorem det_equal_rows {n : Nat} (d : Nat) : ∀ {M : Nat → Nat → Fin p} (a : Nat), a + d + 1 < n → (∀ j, M a j = M (a + d + 1) j) → det n M = 0 := by
  induction d with
  | zero => exact fun a h e => det_adjacent a h e
  | succ d ih =>
    intro M a h e
    have h1 := det_swap_of (a := a + d + 1) (b := a + d + 2) (n := n) (by omega) (by omega) (by omega) (fun N hN => det_adjacent (a + d + 1) (by omega) hN) M
    have h2 : det n (swapRow M (a + d + 1) (a + d + 2)) = 0 := ih a (by omega) (fun j => by
      unfold swapRow
      rw [if_neg (by omega), if_neg (by omega), if_pos rfl]; exact e j)
    rw [h2] at h1
    grind
theorem det_equal {n : Nat} {M : Nat → Nat → Fin p} {a b : Nat} (ha : a < n) (hb : b < n) (hab : a ≠ b) (h : ∀ j, M a j = M b j) : det n M = 0 := by
  rcases Nat.lt_or_gt_of_ne hab with hlt | hgt
  · exact det_equal_rows (b - a - 1) a (by omega) (fun j => by rw [show a + (b - a - 1) + 1 = b by omega]; exact h j)
  · exact det_equal_rows (a - b - 1) b (by omega) (fun j => by rw [show b + (a - b - 1) + 1 = a by omega]; exact (h j).symm)
theorem det_swap {n : Nat} {a b : Nat} (ha : a < n) (hb : b < n) (hab : a ≠ b) (M : Nat → Nat → Fin p) : det n (swapRow M a b) = - det n M := det_swap_of ha hb hab (fun _ h => det_equal ha hb hab h) M
theorem det_scale {n : Nat} {k : Nat} (hk : k < n) (x : Fin p) (M : Nat → Nat → Fin p) : det n (setRow M k (fun j => x * M k j)) = x * det n M := by
  rw [det_linear (M := M) (N := M) k x 0 hk (fun i j h => setRow_ne _ _ _ h) (fun i j h => setRow_ne _ _ _ h) (fun j => by rw [setRow_at]; grind)]; grind
theorem det_add {n : Nat} {k t : Nat} (hk : k < n) (ht : t < n) (hkt : k ≠ t) (x : Fin p) (M : Nat → Nat → Fin p) : det n (setRow M k (fun j => M k j + x * M t j)) = det n M := by
  rw [det_linear (M := M) (N := setRow M k (M t)) k 1 x hk (fun i j h => setRow_ne _ _ _ h) (fun i j h => by rw [setRow_ne _ _ _ h, setRow_ne _ _ _ h]) (fun j => by rw [setRow_at, setRow_at]; grind),
    det_equal (M := setRow M k (M t)) hk ht hkt (fun j => by rw [setRow_at, setRow_ne _ _ _ (Ne.symm hkt)])]; grind
def idM : Nat → Nat → Fin p := fun i j => if i = j then 1 else 0
/-! ### Products -/
def mulM (n : Nat) (A N : Nat → Nat → Fin p) : Nat → Nat → Fin p := fun i j => sm n (fun k => A i k * N k j)
theorem mulM_id_right {n : Nat} (A : Nat → Nat → Fin p) {i j : Nat} (hj : j < n) : mulM n A idM i j = A i j := by
  unfold mulM
  rw [sm_one j hj (fun k _ hk => by unfold idM; rw [if_neg hk]; grind)]
  unfold idM; rw [if_pos rfl]; grind
def Ops (n : Nat) (A B : Nat → Nat → Fin p) (d : Fin p) : Prop := ∀ N, det n (mulM n A N) = d * det n (mulM n B N)
theorem Ops.refl (n : Nat) (A : Nat → Nat → Fin p) : Ops n A A 1 := fun N => by grind
theorem Ops.trans {n : Nat} {A B C : Nat → Nat → Fin p} {d e : Fin p} (h : Ops n A B d) (k : Ops n B C e) : Ops n A C (d * e) := fun N => by rw [h N, k N]; grind
theorem Ops.congr {n : Nat} {A B C : Nat → Nat → Fin p} {d : Fin p} (h : Ops n A B d) (e : ∀ i j, i < n → j < n → C i j = B i j) : Ops n A C d := fun N => by
  rw [h N]
  congr 1
  exact det_congr (fun i j hi _ => sm_congr (fun k hk => by rw [e i k hi hk]))
theorem Ops.swap {n : Nat} {a b : Nat} (ha : a < n) (hb : b < n) (hab : a ≠ b) (A : Nat → Nat → Fin p) : Ops n A (swapRow A a b) (-1) := fun N => by
  have e : det n (mulM n (swapRow A a b) N) = det n (swapRow (mulM n A N) a b) := det_congr (fun i j _ _ => by
    unfold mulM swapRow
    split
    · rfl
    · split
      · rfl
      · rfl)
  rw [e, det_swap ha hb hab]; grind
theorem mulM_setRow (n : Nat) (A N : Nat → Nat → Fin p) (k : Nat) (v : Nat → Fin p) (i j : Nat) : mulM n (setRow A k v) N i j = setRow (mulM n A N) k (fun j => sm n (fun q => v q * N q j)) i j := by
  by_cases e : i = k
  · subst e
    rw [setRow_at]
    exact sm_congr (fun q _ => by rw [setRow_at])
  · rw [setRow_ne _ _ _ e]
    exact sm_congr (fun q _ => by rw [setRow_ne _ _ _ e])
theorem Ops.scale {n : Nat} {k : Nat} (hk : k < n) (x y : Fin p) (hxy : x * y = 1) (A : Nat → Nat → Fin p) : Ops n A (setRow A k (fun j => y * A k j)) x := fun N => by
  have e : det n (mulM n (setRow A k (fun j => y * A k j)) N) = det n (setRow (mulM n A N) k (fun j => y * mulM n A N k j)) := det_congr (fun i j _ _ => by
    rw [mulM_setRow]
    have : (fun j => sm n (fun q => y * A k q * N q j)) = (fun j => y * mulM n A N k j) := funext fun j => by
      unfold mulM
      rw [← sm_mul]
      exact sm_congr (fun q _ => by grind)
    rw [this])
  rw [e, det_scale hk]
  have : x * (y * det n (mulM n A N)) = (x * y) * det n (mulM n A N) := by grind
  rw [this, hxy]; grind
theorem Ops.add {n : Nat} {k t : Nat} (hk : k < n) (ht : t < n) (hkt : k ≠ t) (x : Fin p) (A : Nat → Nat → Fin p) : Ops n A (setRow A k (fun j => A k j + x * A t j)) 1 := fun N => by
  have e : det n (mulM n (setRow A k (fun j => A k j + x * A t j)) N) = det n (setRow (mulM n A N) k (fun j => mulM n A N k j + x * mulM n A N t j)) := det_congr (fun i j _ _ => by
    rw [mulM_setRow]
    have : (fun j => sm n (fun q => (A k q + x * A t q) * N q j)) = (fun j => mulM n A N k j + x * mulM n A N t j) := funext fun j => by
      unfold mulM
      rw [← sm_mul, ← sm_add]
      exact sm_congr (fun q _ => by grind)
    rw [this])
  rw [e, det_add hk ht hkt]; grind
theorem Ops.det {n : Nat} {A B : Nat → Nat → Fin p} {d : Fin p} (h : Ops n A B d) : det n A = d * det n B := by
  have h1 := h idM
  rwa [det_congr (N := A) (fun i j _ hj => mulM_id_right A hj), det_congr (N := B) (fun i j _ hj => mulM_id_right B hj)] at h1
end
section
variable {p : Nat} [NeZero p]
/-! ### A step of the elimination -/
structure Part (n m c : Nat) (A : Nat → Nat → Fin p) (r : Nat) (P : Nat → Nat) : Prop where
  le : r ≤ m
  lt : ∀ i, i < r → P i < c
  inc : ∀ i k, i < k → k < r → P i < P k
  one : ∀ i, i < r → A i (P i) = 1
  col : ∀ i k, i < r → k < m → k ≠ i → A k (P i) = 0
  before : ∀ i j, i < r → j < P i → A i j = 0
  rest : ∀ i j, r ≤ i → i < m → j < c → A i j = 0
theorem Part.pass {n m c r : Nat} {A : Nat → Nat → Fin p} {P : Nat → Nat} (h : Part n m c A r P) (hz : ∀ i, r ≤ i → i < m → A i c = 0) : Part n m (c + 1) A r P :=
  ⟨h.le, fun i hi => by have := h.lt i hi; omega, h.inc, h.one, h.col, h.before, fun i j h1 h2 h3 => by
    by_cases e : j = c
    · subst e; exact hz i h1 h2
    · exact h.rest i j h1 h2 (by omega)⟩
structure Stepped (n m c r q : Nat) (u : Fin p) (A B : Nat → Nat → Fin p) : Prop where
  hr : r ≤ q
  hq : q < m
  hu : A q c * u = 1
  at_ : ∀ j, j < n → B r j = u * A q j
  other : ∀ i j, i < m → i ≠ r → j < n → B i j = (if i = q then A r j else A i j) + -(if i = q then A r c else A i c) * B r j
theorem Part.step {n m c r q : Nat} {u : Fin p} {A B : Nat → Nat → Fin p} {P : Nat → Nat} (h : Part n m c A r P) (hc : c < n) (s : Stepped n m c r q u A B) :
    Part n m (c + 1) B (r + 1) (fun i => if i = r then c else P i) := by
  have hrq := s.hr
  have hqm := s.hq
  have hBr : ∀ j, j < c → B r j = 0 := fun j hj => by rw [s.at_ j (by omega), h.rest q j s.hr s.hq hj]; grind
  have hBrc : B r c = 1 := by rw [s.at_ c hc, ← s.hu]; grind
  have hlow : ∀ i j, i < m → i ≠ r → j < c → B i j = if i = q then A r j else A i j := fun i j hi hne hj => by
    rw [s.other i j hi hne (by omega), hBr j hj]; grind
  refine ⟨by have := h.le; omega, fun i hi => ?_, fun i k h1 h2 => ?_, fun i hi => ?_, fun i k hi hk hne => ?_, fun i j hi hj => ?_, fun i j h1 h2 h3 => ?_⟩
  · split
    · omega
    · have := h.lt i (by omega); omega
  · rw [if_neg (show ¬ i = r by omega)]
    split
    · exact h.lt i (by omega)
    · exact h.inc i k h1 (by omega)
  · by_cases e : i = r
    · subst e; rw [if_pos rfl]; exact hBrc
    · rw [if_neg e, hlow i _ (by omega) e (h.lt i (by omega)), if_neg (by omega)]
      exact h.one i (by omega)
  · by_cases e : i = r
    · subst e
      rw [if_pos rfl, s.other k c hk hne hc, hBrc]; grind
    · rw [if_neg e]
      have hlt := h.lt i (by omega)
      by_cases e2 : k = r
      · subst e2; exact hBr _ hlt
      · rw [hlow k _ hk e2 hlt]
        split
        · exact h.col i r (by omega) (by omega) (by omega)
        · exact h.col i k (by omega) hk hne
  · by_cases e : i = r
    · subst e
      rw [if_pos rfl] at hj
      exact hBr j hj
    · rw [if_neg e] at hj
      have hlt := h.lt i (by omega)
      rw [hlow i j (by omega) e (by omega), if_neg (by omega)]
      exact h.before i j (by omega) hj
  · by_cases e : j = c
    · subst e
      rw [s.other i j h2 (by omega) hc, hBrc]; grind
    · rw [hlow i j h2 (by omega) (by omega)]
      split
      · exact h.rest r j (Nat.le_refl _) (by omega) (by omega)
      · exact h.rest i j (by omega) h2 (by omega)
theorem Stepped.span {n m c r q : Nat} {u : Fin p} {A B : Nat → Nat → Fin p} (s : Stepped n m c r q u A B) : (∀ i, i < m → Sp n m A (B i)) ∧ ∀ i, i < m → Sp n m B (A i) := by
  have hr := s.hr
  have hq := s.hq
  have spr : Sp n m A (B r) := ((Sp.row (A := A) hq).mul u).congr (fun j hj => s.at_ j hj)
  have f : ∀ i, i < m → Sp n m A (B i) := fun i hi => by
    by_cases e : i = r
    · subst e; exact spr
    · have h1 : Sp n m A (A (if i = q then r else i)) := Sp.row (by split <;> omega)
      refine (h1.add (spr.mul (-(if i = q then A r c else A i c)))).congr (fun j hj => ?_)
      rw [s.other i j hi e hj]
      split <;> rfl
  refine ⟨f, fun i hi => ?_⟩
  have hBr : Sp n m B (B r) := Sp.row (by omega)
  have hAq : Sp n m B (A q) := (hBr.mul (A q c)).congr (fun j hj => by
    rw [s.at_ j hj]
    have h1 := s.hu
    have : A q c * (u * A q j) = (A q c * u) * A q j := by grind
    rw [this, h1]; grind)
  by_cases e : i = q
  · subst e; exact hAq
  · by_cases e2 : i = r
    · subst e2
      have h1 : Sp n m B (B q) := Sp.row hq
      refine (h1.add (hBr.mul (A i c))).congr (fun j hj => ?_)
      rw [s.other q j hq (by omega) hj, if_pos rfl, if_pos rfl]; grind
    · have h1 : Sp n m B (B i) := Sp.row hi
      refine (h1.add (hBr.mul (A i c))).congr (fun j hj => ?_)
      rw [s.other i j hi e2 hj, if_neg e, if_neg e]; grind
theorem Ops.add_all {n t : Nat} (ht : t < n) (x : Nat → Fin p) (A : Nat → Nat → Fin p) (k : Nat) : k ≤ n → Ops n A (fun i j => if i < k ∧ i ≠ t then A i j + x i * A t j else A i j) 1 := by
  induction k with
  | zero => exact fun _ => (Ops.refl n A).congr (fun i j _ _ => by rw [if_neg (by omega)])
  | succ k ih =>
    intro hk
    by_cases e : k = t
    · refine (ih (by omega)).congr (fun i j _ _ => ?_)
      by_cases h1 : i < k ∧ i ≠ t
      · rw [if_pos h1, if_pos (by omega)]
      · rw [if_neg h1, if_neg (by omega)]
    · have h1 := Ops.add (n := n) (k := k) (t := t) (by omega) ht e (x k) (fun i j => if i < k ∧ i ≠ t then A i j + x i * A t j else A i j)
      have h2 := (ih (by omega)).trans h1
      have e1 : (1 : Fin p) * 1 = 1 := by grind
      rw [e1] at h2
      refine h2.congr (fun i j _ _ => ?_)
      unfold setRow
      dsimp only
      by_cases ei : i = k
      · subst ei
        rw [if_pos rfl, if_neg (show ¬ (i < i ∧ i ≠ t) by omega), if_neg (show ¬ (t < i ∧ t ≠ t) by omega), if_pos (by omega)]
      · rw [if_neg ei]
        by_cases h3 : i < k ∧ i ≠ t
        · rw [if_pos h3, if_pos (by omega)]
        · rw [if_neg h3, if_neg (by omega)]
theorem Stepped.ops {n c r q : Nat} {u : Fin p} {A B : Nat → Nat → Fin p} (s : Stepped n n c r q u A B) : Ops n A B ((if q = r then 1 else -1) * A q c) := by
  have hr := s.hr
  have hq := s.hq
  have h1 : Ops n A (swapRow A r q) (if q = r then 1 else -1) := by
    by_cases e : q = r
    · rw [if_pos e]
      refine (Ops.refl n A).congr (fun i j _ _ => ?_)
      unfold swapRow
      subst e
      split
      · rename_i e2; subst e2; rfl
      · rfl
    · rw [if_neg e]
      exact Ops.swap (by omega) hq (by omega) A
  have h2 := Ops.scale (n := n) (k := r) (by omega) (A q c) u s.hu (swapRow A r q)
  have h3 := Ops.add_all (n := n) (t := r) (by omega) (fun i => -(if i = q then A r c else A i c)) (setRow (swapRow A r q) r (fun j => u * swapRow A r q r j)) n (Nat.le_refl _)
  have h4 := (h1.trans h2).trans h3
  have e1 : (if q = r then 1 else -1) * A q c * 1 = (if q = r then 1 else -1) * A q c := by grind
  rw [e1] at h4
  have hrow : ∀ j, setRow (swapRow A r q) r (fun j => u * swapRow A r q r j) r j = u * A q j := fun j => by
    rw [setRow_at]; unfold swapRow; rw [if_pos rfl]
  refine h4.congr (fun i j hi hj => ?_)
  by_cases e : i = r
  · subst e
    rw [if_neg (by omega), hrow, s.at_ j hj]
  · rw [if_pos ⟨hi, e⟩, hrow, setRow_ne _ _ _ e, s.other i j hi e hj, s.at_ j hj]
    unfold swapRow
    rw [if_neg e]
/-! ### What follows of a reduced form -/
def Same (n m m' : Nat) (A B : Nat → Nat → Fin p) : Prop := (∀ i, i < m → Sp n m' B (A i)) ∧ ∀ i, i < m' → Sp n m A (B i)
theorem Same.refl (n m : Nat) (A : Nat → Nat → Fin p) : Same n m m A A := ⟨fun _ h => Sp.row h, fun _ h => Sp.row h⟩
theorem Same.symm {n m m' : Nat} {A B : Nat → Nat → Fin p} (h : Same n m m' A B) : Same n m' m B A := ⟨h.2, h.1⟩
theorem Same.trans {n m m' m'' : Nat} {A B C : Nat → Nat → Fin p} (h : Same n m m' A B) (k : Same n m' m'' B C) : Same n m m'' A C :=
  ⟨fun i hi => (h.1 i hi).trans k.1, fun i hi => (k.2 i hi).trans h.2⟩
theorem Stepped.same {n m c r q : Nat} {u : Fin p} {A B : Nat → Nat → Fin p} (s : Stepped n m c r q u A B) : Same n m m A B := ⟨s.span.2, s.span.1⟩
end
/-! ### Numbers and numbers modulo p -/
def phi (p : Nat) [NeZero p] (x : Int) : Fin p := ⟨(x % p).toNat, by have := NeZero.ne p; have := Int.emod_lt_of_pos x (show (0:Int) < p by omega); have := Int.emod_nonneg x (show (p:Int) ≠ 0 by omega); omega⟩
section
variable {p : Nat} [NeZero p]
end
def fm (p : Nat) [NeZero p] (rows : List (List Int)) : Nat → Nat → Fin p := fun i j => phi p (cell rows i j)
def pivList (P : Nat → Nat) (r : Nat) : List Int := (List.range r).map (fun i => (P i : Int))
section
variable {p : Nat} [NeZero p] {n : Nat} {rows : List (List Int)}
end
def sx (F : List (List Int)) (piv : List Int) (n : Nat) : Nat → List Int
  | 0 => List.replicate n 0
  | i + 1 => (sx F piv n i).set (piv.getD i 0).toNat (cell F i n)
theorem sx_length (F : List (List Int)) (piv : List Int) (n : Nat) : ∀ i, (sx F piv n i).length = n
  | 0 => by simp [sx]
  | i + 1 => by simp [sx, sx_length F piv n i]
section
variable {p : Nat} [NeZero p] {n m : Nat} {rows : List (List Int)}
end
end Go.Proofs.Ytmbbjmkcbpefhaa.Lin
end

section
set_option linter.unusedVariables false
set_option linter.unusedSimpArgs false
set_option linter.unusedSectionVars false
namespace Go.Proofs.Ytmbbjmkcbpefhaa.F
open Go.RowKit Go.Proofs.YtmbbjmkcbpefhaaW.PrintWords Go.Proofs.YtmbbjmkcbpefhaaW.PrintLast Go.Proofs.Ytmbbjmkcbpefhaa.Lin
def augL (R C : Nat) (l b : List Int) : List Int := joined R C 1 l b
def augM (R C : Nat) (l b : List Int) : List (List Int) := rowsM R (C + 1) (augL R C l b)
theorem augL_length (R C : Nat) (l b : List Int) : (augL R C l b).length = R * (C + 1) := by unfold augL joined; rw [tab_length]
theorem augM_length (R C : Nat) (l b : List Int) : (augM R C l b).length = R := rowsM_length _ _ _
theorem augL_at {R C i j : Nat} (l b : List Int) (hi : i < R) (hj : j < C + 1) : (augL R C l b).getD (i * (C + 1) + j) 0 = if j < C then l.getD (i * C + j) 0 else b.getD i 0 := by
  unfold augL joined
  rw [tab_at _ hi hj]
  by_cases h : j < C
  · rw [if_pos h, if_pos h]
  · rw [if_neg h, if_neg h, show i * 1 + (j - C) = i by omega]
theorem augL_ok {p : Int} (hp : 2 ≤ p) {R C : Nat} {l b : List Int} (hv : ∀ j, 0 ≤ l.getD j 0 ∧ l.getD j 0 < p) (hb : ∀ j, 0 ≤ b.getD j 0 ∧ b.getD j 0 < p) (j : Nat) : 0 ≤ (augL R C l b).getD j 0 ∧ (augL R C l b).getD j 0 < p := by
  unfold augL joined
  refine okTab hp (fun a c _ _ => ?_) j
  split
  · exact hv _
  · exact hb _
theorem augM_ok {p : Int} (hp : 2 ≤ p) {R C : Nat} {l b : List Int} (hv : ∀ j, 0 ≤ l.getD j 0 ∧ l.getD j 0 < p) (hb : ∀ j, 0 ≤ b.getD j 0 ∧ b.getD j 0 < p) : RowsOk p (C + 1) (augM R C l b) := rowsM_ok (augL_ok hp hv hb)
theorem rowsM_get {R C i : Nat} (l : List Int) (hi : i < R) : (rowsM R C l).getD i [] = (List.range C).map (fun j => l.getD (i * C + j) 0) := by
  unfold rowsM; simp [List.getD_eq_getElem?_getD, hi]
theorem rowA {R C i : Nat} (l b : List Int) (hi : i < R) : (augM R C l b).getD i [] = (rowsM R C l).getD i [] ++ [b.getD i 0] := by
  unfold augM
  rw [rowsM_get _ hi, rowsM_get _ hi, List.range_succ, List.map_append]
  congr 1
  · refine List.map_congr_left (fun j hj => ?_)
    have hj := List.mem_range.mp hj
    rw [augL_at l b hi (by omega), if_pos hj]
  · simp only [List.map_cons, List.map_nil]
    rw [augL_at l b hi (by omega), if_neg (by omega)]
def apN (R C : Nat) (l b : List Int) (i : Nat) : List (List Int) := (augM R C l b).take i ++ (rowsM R C l).drop i
theorem apN_length {R C : Nat} (l b : List Int) {i : Nat} (hi : i ≤ R) : (apN R C l b i).length = R := by
  unfold apN
  rw [List.length_append, List.length_take, List.length_drop, augM_length, rowsM_length]; omega
theorem apN_get {R C : Nat} (l b : List Int) {i : Nat} (hi : i < R) : (apN R C l b i).getD i [] = (rowsM R C l).getD i [] := by
  unfold apN
  have h := augM_length R C l b
  rw [List.getD_eq_getElem?_getD, List.getD_eq_getElem?_getD, List.getElem?_append_right (by rw [List.length_take]; omega), List.length_take, List.getElem?_drop]
  congr 2; omega
theorem apN_set {R C : Nat} (l b : List Int) {i : Nat} (hi : i < R) : (apN R C l b i).set i ((rowsM R C l).getD i [] ++ [b.getD i 0]) = apN R C l b (i + 1) := by
  have h := augM_length R C l b
  have h2 := rowsM_length R C l
  unfold apN
  rw [← rowA l b hi, List.set_append, if_neg (by rw [List.length_take]; omega), List.length_take, show i - min i (augM R C l b).length = 0 by omega, List.drop_eq_getElem_cons (by omega : i < (rowsM R C l).length), List.set_cons_zero, List.take_add_one, List.getElem?_eq_getElem (by omega), List.append_assoc, getD_at (by omega)]
  rfl
theorem ap_loop {R C : Nat} {l b : List Int} (hR : R ≤ 64) (hC : C ≤ 70) (hb : R ≤ b.length) (d : Nat) : ∀ k i, R - i = d → i ≤ R → d < k → impl_solve.ap k b (apN R C l b i) (R : Int) (i : Int) = some (augM R C l b) := by
  induction d with
  | zero =>
    intro k i hd hi hk
    obtain ⟨k, rfl⟩ : ∃ m, k = m + 1 := ⟨k - 1, by omega⟩
    obtain rfl : i = R := by omega
    simp only [impl_solve.ap]
    rw [if_neg (nlt_nat (Nat.le_refl _))]
    unfold apN
    rw [List.take_of_length_le (by rw [augM_length]; omega), List.drop_eq_nil_of_le (by rw [rowsM_length]; omega), List.append_nil]
  | succ d ih =>
    intro k i hd hi hk
    obtain ⟨k, rfl⟩ : ∃ m, k = m + 1 := ⟨k - 1, by omega⟩
    have hiR : i < R := by omega
    have hrl : ((rowsM R C l).getD i []).length = C := by rw [rowsM_get l hiR]; simp
    simp only [impl_solve.ap, rd_nat, rdL_nat]
    rw [if_pos (lt_nat hiR), if_pos (idx0 _), if_pos (by rw [apN_length l b (by omega)]; omega), if_pos (by omega), apN_get l b hiR, if_pos (by rw [hrl]; omega), Int.toNat_natCast, apN_set l b hiR, w64_succ (n := R) hiR (by omega)]
    exact ih k (i + 1) (by omega) (by omega) (by omega)
theorem piv_ltE (p : Int) (rows : List (List Int)) : ∀ (c : Nat), ∀ x ∈ (elimTo p rows c).2.1, 0 ≤ x ∧ x < (c : Int)
  | 0 => by intro x hx; simp [elimTo] at hx
  | c + 1 => by
    have ih := piv_ltE p rows c
    intro x hx
    rw [elimTo_succ] at hx
    unfold elimStep at hx
    split at hx
    · have := ih x hx; omega
    · rcases List.mem_append.mp hx with h | h
      · have := ih x h; omega
      · have : x = (c : Int) := by simpa using h
        omega
def slvOf (p : Int) (C : Nat) (aug : List (List Int)) : List Int × Bool := if (C : Int) ∈ (elim p (C + 1) aug).2.1 then ([], false) else (sx (elim p (C + 1) aug).1 (elim p (C + 1) aug).2.1 C (elim p (C + 1) aug).2.1.length, true)
section
variable {p : Int} {Q : List (List Int)} {piv : List Int} {R C : Nat} {l : List Int}
theorem not_in {piv : List Int} {c : Int} (h : ∀ q, q < piv.length → piv.getD q 0 ≠ c) : ¬ c ∈ piv := fun hm => by
  obtain ⟨j, hj, e⟩ := List.mem_iff_getElem.mp hm
  exact h j hj (by rw [getD_at hj]; exact e)
theorem implSol_loop (hC : C ≤ 70) (hok : ∀ r ∈ Q, r.length = C + 1) (hpl : piv.length ≤ 100) (hpq : piv.length ≤ Q.length) (hpv : ∀ x ∈ piv, 0 ≤ x ∧ x < ((C + 1 : Nat) : Int)) (d : Nat) : ∀ k i, piv.length - i = d → i ≤ piv.length → d < k → (∀ q, q < i → piv.getD q 0 ≠ (C : Int)) →
    impl_solve.l0 k Q (sx Q piv C i) piv piv.length i p R C l = some (if (C : Int) ∈ piv then ([], false) else (sx Q piv C piv.length, true)) := by
  induction d with
  | zero =>
    intro k i hd hi hk h
    obtain ⟨k, rfl⟩ : ∃ m, k = m + 1 := ⟨k - 1, by omega⟩
    obtain rfl : i = piv.length := by omega
    simp only [impl_solve.l0]
    rw [if_neg (by omega), if_neg (not_in h)]
  | succ d ih =>
    intro k i hd hi hk h
    obtain ⟨k, rfl⟩ : ∃ m, k = m + 1 := ⟨k - 1, by omega⟩
    have hip : i < piv.length := by omega
    simp only [impl_solve.l0, rd_nat, rdL_nat]
    rw [if_pos (by omega), if_pos (by omega), if_pos (by omega)]
    by_cases e : piv.getD i 0 = (C : Int)
    · rw [if_pos e, if_pos (by rw [← e]; exact getD_mem hip)]
    · have hv := hpv _ (getD_mem (d := 0) hip)
      have hr : (Q.getD i []).length = C + 1 := hok _ (getD_mem (by omega))
      rw [if_neg e, if_pos (by omega), if_pos (by omega), if_pos (by rw [hr]; omega), if_pos hv.1, if_pos (by rw [sx_length]; omega), w64_succ (n := piv.length) hip (by omega)]
      refine ih k (i + 1) (by omega) (by omega) (by omega) (fun q hq => ?_)
      by_cases e2 : q = i
      · rw [e2]; exact e
      · exact h q (by omega)
theorem specSol_loop {al : List Int} (hR : R ≤ 64) (hC : C ≤ 70) (hpl : piv.length ≤ 100) (hpq : piv.length ≤ R) (hpv : ∀ x ∈ piv, 0 ≤ x ∧ x < ((C + 1 : Nat) : Int)) (d : Nat) : ∀ k i, piv.length - i = d → i ≤ piv.length → d < k → (∀ q, q < i → piv.getD q 0 ≠ (C : Int)) →
    spec_l03Solve.l0 k piv (sx Q piv C i) i p R C l p R ((C + 1 : Nat) : Int) al p R ((C + 1 : Nat) : Int) (tab R (C + 1) (cell Q)) = some (if (C : Int) ∈ piv then ([], false) else (sx Q piv C piv.length, true)) := by
  induction d with
  | zero =>
    intro k i hd hi hk h
    obtain ⟨k, rfl⟩ : ∃ m, k = m + 1 := ⟨k - 1, by omega⟩
    obtain rfl : i = piv.length := by omega
    simp only [spec_l03Solve.l0]
    rw [if_neg (by omega), if_neg (not_in h)]
  | succ d ih =>
    intro k i hd hi hk h
    obtain ⟨k, rfl⟩ : ∃ m, k = m + 1 := ⟨k - 1, by omega⟩
    have hip : i < piv.length := by omega
    simp only [spec_l03Solve.l0]
    rw [rd_nat piv i, if_pos (by omega), if_pos (by omega)]
    by_cases e : piv.getD i 0 = (C : Int)
    · rw [if_pos e, if_pos (by rw [← e]; exact getD_mem hip)]
    · have hv := hpv _ (getD_mem (d := 0) hip)
      rw [if_neg e, w64_at (r := R) (c := C + 1) (by omega) (by omega) (by omega) (by omega), if_pos (idx0 _), if_pos (idx1 _ (by omega) (by omega)), if_pos hv.1, if_pos (by rw [sx_length]; omega), rdt _ (by omega) (by omega), w64_succ (n := piv.length) hip (by omega)]
      refine ih k (i + 1) (by omega) (by omega) (by omega) (fun q hq => ?_)
      by_cases e2 : q = i
      · rw [e2]; exact e
      · exact h q (by omega)
end
theorem implSolve_tells {p : Int} (hp : isP p = true) {R C : Nat} {l b : List Int} (hR : R ≤ 64) (hC : C ≤ 64) (hl : l.length = R * C) (hv : ∀ j, 0 ≤ l.getD j 0 ∧ l.getD j 0 < p) (hbl : b.length = R) (hb : ∀ j, 0 ≤ b.getD j 0 ∧ b.getD j 0 < p) {k : Nat} (hk : 6000 ≤ k) :
    impl_solve.f k p R C l b = some (slvOf p C (augM R C l b)) := by
  have h2 := isP_ge hp
  have ha := augM_ok h2.1 (R := R) (C := C) hv hb
  obtain ⟨t1, t2, t3, t4, _, _⟩ := elimTo_small hp ha (C + 1) (Nat.le_refl _)
  have t5 := piv_ltE p (augM R C l b) (C + 1)
  have t6 := augM_length R C l b
  unfold impl_solve.f impl_solve.elimB slvOf
  rw [rowsOf_tells hR (by omega) hl (by omega), Option.bind_some, rowsM_length]
  have h0 : rowsM R C l = apN R C l b 0 := by unfold apN; simp
  have h3 := ap_loop (R := R) (C := C) (l := l) (b := b) hR (by omega) (by omega) R k 0 (by omega) (by omega) (by omega)
  rw [show ((0 : Nat) : Int) = 0 from rfl] at h3
  rw [h0, h3, Option.bind_some, w64_succ (i := C) (n := 70) (by omega) (by omega), elim_tells hp (by omega) (by omega) ha (by omega), Option.bind_some, if_pos (by omega), if_pos (by omega), Int.toNat_natCast]
  exact implSol_loop (Q := (elim p (C + 1) (augM R C l b)).1) (piv := (elim p (C + 1) (augM R C l b)).2.1) (by omega) (fun r hr => (t1 r hr).1) (Nat.le_trans t3 (by omega)) (by show _ ≤ (elimTo p (augM R C l b) (C + 1)).1.length; rw [t2]; exact t4) t5 _ k 0 rfl (by omega) (by have : (elim p (C + 1) (augM R C l b)).2.1.length ≤ C + 1 := t3; omega) (fun q hq => by omega)
theorem specSolve_tells {p : Int} (hp : isP p = true) {R C : Nat} {l b : List Int} (hR : R ≤ 64) (hC : C ≤ 64) (hl : l.length = R * C) (hv : ∀ j, 0 ≤ l.getD j 0 ∧ l.getD j 0 < p) (hbl : b.length = R) (hb : ∀ j, 0 ≤ b.getD j 0 ∧ b.getD j 0 < p) {k : Nat} (hk : 400000 ≤ k) :
    spec_l03Solve.f k p R C l b = some (slvOf p C (augM R C l b)) := by
  have h2 := isP_ge hp
  have ha := augM_ok h2.1 (R := R) (C := C) hv hb
  obtain ⟨t1, t2, t3, t4, _, _⟩ := elimTo_small hp ha (C + 1) (Nat.le_refl _)
  have t5 := piv_ltE p (augM R C l b) (C + 1)
  have t6 := augM_length R C l b
  have j : spec_l03Join.f k p R C l p R 1 b = some (p, (R : Int), ((C + 1 : Nat) : Int), augL R C l b) := specJoin_tells (p' := p) (r' := (R : Int)) (c' := 1) hR hC (by omega) hl (by omega) (by omega)
  obtain ⟨ds, _, _, _, e⟩ := specElim_tells hp (R := R) (C := C + 1) hR (by omega) (augL_length R C l b) (augL_ok h2.1 hv hb) (k := k) (by omega)
  unfold spec_l03Solve.f slvOf
  rw [j, Option.bind_some]
  dsimp only
  rw [e, Option.bind_some]
  dsimp only
  rw [if_pos (by omega), if_pos (by omega), Int.toNat_natCast]
  exact specSol_loop (Q := (elim p (C + 1) (augM R C l b)).1) (piv := (elim p (C + 1) (augM R C l b)).2.1) hR (by omega) (Nat.le_trans t3 (by omega)) (by have : (elim p (C + 1) (augM R C l b)).2.1.length ≤ (augM R C l b).length := t4; omega) t5 _ k 0 rfl (by omega) (by have : (elim p (C + 1) (augM R C l b)).2.1.length ≤ C + 1 := t3; omega) (fun q hq => by omega)
end Go.Proofs.Ytmbbjmkcbpefhaa.F
end
