-- Texts of this claim, merged by packw.py (a program of this session's).
import Derived.Test.YtoekjicknclooaaQFnExactInverseMatrix4
import Derived.Test.YtoekjicknclooaaQFnExactInverseMatrix5
import Derived.Test.YtoekjicknclooaaQFnExactInverseMatrix6
import Derived.Test.YtoekjicknclooaaQFnExactInverseMatrix8
import Derived.Test.YtoekjicknclooaaQFnExactInverseMatrix10
import Derived.Test.YtoekjicknclooaaQFnExactInverseMatrix11
import Derived.KernelRfl
import Derived.Test.YtoekjicknclooaaQFnExactInverseMatrix9
import Derived.SizedLaws
import Derived.ChangeSlices
import Derived.Test.YtoekjicknclooaaRows
import Derived.WalkKit
import Derived.ProofKit
import Derived.OpenShut
import Derived.ShutString
import Derived.ChangeOld
import Derived.Below
import Derived.Lib.SmallJoins
import Derived.Deep.Slices

section
set_option linter.unusedVariables false
set_option linter.unusedSimpArgs false
set_option linter.unusedSectionVars false
namespace Go.Proofs.Ytoekjicknclooaa.F
open Go.RowKit Go.Proofs.YtoekjicknclooaaW.PrintWords Go.Proofs.YtoekjicknclooaaW.PrintLast Go.Proofs.Ytoekjicknclooaa.Lin
def wideL (n : Nat) (l : List Int) : List Int := joined n n n l (tab n n unitAt)
def wideQ (p : Int) (n : Nat) (l : List Int) : List (List Int) := (elim p (n + n) (rowsM n (n + n) (wideL n l))).1
theorem wideL_length (n : Nat) (l : List Int) : (wideL n l).length = n * (n + n) := by unfold wideL joined; rw [tab_length]
theorem unit_range {p : Int} (hp : 2 ≤ p) (n j : Nat) : 0 ≤ (tab n n unitAt).getD j 0 ∧ (tab n n unitAt).getD j 0 < p :=
  okTab hp (fun a b _ _ => by unfold unitAt; split <;> omega) j
theorem wideL_ok {p : Int} (hp : 2 ≤ p) {n : Nat} {l : List Int} (hv : ∀ j, 0 ≤ l.getD j 0 ∧ l.getD j 0 < p) (j : Nat) : 0 ≤ (wideL n l).getD j 0 ∧ (wideL n l).getD j 0 < p := by
  unfold wideL joined
  refine okTab hp (fun a b _ _ => ?_) j
  split
  · exact hv _
  · exact unit_range hp _ _
theorem wide_cells {n : Nat} {l : List Int} {i j : Nat} (hi : i < n) (hj : j < n) : cell (rowsM n (n + n) (wideL n l)) i j = cell (rowsM n n l) i j ∧ cell (rowsM n (n + n) (wideL n l)) i (n + j) = if i = j then 1 else 0 := by
  have h1 : j < n + n := by omega
  have h2 : n + j < n + n := by omega
  refine ⟨?_, ?_⟩
  · rw [rowsM_cell _ hi h1, rowsM_cell _ hi hj]
    unfold wideL joined
    rw [tab_at _ hi h1, if_pos hj]
  · rw [rowsM_cell _ hi h2]
    unfold wideL joined
    rw [tab_at _ hi h2, if_neg (by omega), show n + j - n = j by omega, tab_at _ hi hj]
    rfl
theorem implWide_tells {p a3 : Int} {n : Nat} (hn : n ≤ 32) {l : List Int} (hl : l.length = n * n) {k : Nat} (hk : 17000 ≤ k) :
    impl_filled.f (impl_inverse_1.cell n p n n l) k p n ((n + n : Nat) : Int) a3 = some (p, (n : Int), ((n + n : Nat) : Int), wideL n l) := by
  refine filled_tells (f := fun i j => if j < n then l.getD (i * n + j) 0 else (tab n n unitAt).getD (i * n + (j - n)) 0) (by omega) (by omega) (fun i j hi hj => ?_) p a3 hk
  show (if (j : Int) < (n : Int) then impl_Matrix_at.f p n n l i j else (impl_unit.f 20000 p n).bind fun u => impl_Matrix_at.f u.1 u.2.1 u.2.2.1 u.2.2.2 i (wrap64 ((j : Int) - (n : Int)))) = _
  by_cases h : j < n
  · rw [if_pos (by omega), at_tells (R := n) (C := n) (by omega) (by omega) rfl hl hi h, if_pos h]
  · have e := implUnit_tells (n := n) (by omega) p (k := 20000) (by omega)
    rw [if_neg (by omega), e, Option.bind_some, w64_id (by omega) (by omega), show (j : Int) - (n : Int) = ((j - n : Nat) : Int) by omega, at_tells (R := n) (C := n) (by omega) (by omega) rfl (tab_length _ _ _) hi (by omega), if_neg h]
def cutTo (n i : Nat) (Q : List (List Int)) : List (List Int) := Q.mapIdx (fun j r => if j < i then r.drop n else r)
theorem cutTo_length (n i : Nat) (Q : List (List Int)) : (cutTo n i Q).length = Q.length := by unfold cutTo; simp
theorem cutTo_get {n i : Nat} {Q : List (List Int)} {j : Nat} (hj : j < Q.length) : (cutTo n i Q)[j]'(by rw [cutTo_length]; exact hj) = if j < i then Q[j].drop n else Q[j] := by unfold cutTo; simp
theorem cutTo_zero (n : Nat) (Q : List (List Int)) : cutTo n 0 Q = Q := by
  refine List.ext_getElem (cutTo_length _ _ _) (fun j h1 h2 => ?_)
  rw [cutTo_get h2, if_neg (by omega)]
theorem cutTo_at {n i : Nat} {Q : List (List Int)} (hi : i < Q.length) : (cutTo n i Q).getD i [] = Q.getD i [] := by
  have h1 : i < (cutTo n i Q).length := by rw [cutTo_length]; exact hi
  rw [getD_at h1, getD_at hi, cutTo_get hi, if_neg (by omega)]
theorem cutTo_step {n i : Nat} {Q : List (List Int)} (hi : i < Q.length) : (cutTo n i Q).set i ((Q.getD i []).drop n) = cutTo n (i + 1) Q := by
  refine List.ext_getElem (by rw [List.length_set, cutTo_length, cutTo_length]) (fun j h1 h2 => ?_)
  have hj : j < Q.length := by rw [cutTo_length] at h2; exact h2
  rw [cutTo_get hj, List.getElem_set]
  by_cases e : i = j
  · subst e
    rw [if_pos rfl, if_pos (by omega), getD_at hi]
  · rw [if_neg e, cutTo_get hj]
    by_cases h : j < i
    · rw [if_pos h, if_pos (by omega)]
    · rw [if_neg h, if_neg (by omega)]
theorem cutTo_ok {p : Int} {n : Nat} {Q : List (List Int)} (hok : RowsOk p (n + n) Q) : RowsOk p n (cutTo n Q.length Q) := fun r hr => by
  obtain ⟨j, hj, rfl⟩ := List.mem_iff_getElem.mp hr
  have hj' : j < Q.length := by rw [cutTo_length] at hj; exact hj
  rw [cutTo_get hj', if_pos hj']
  have h := hok _ (List.getElem_mem hj')
  exact ⟨by rw [List.length_drop, h.1]; omega, fun x hx => h.2 x (List.mem_of_mem_drop hx)⟩
theorem cutTo_cell {n : Nat} {Q : List (List Int)} {a b : Nat} (ha : a < Q.length) : cell (cutTo n Q.length Q) a b = cell Q a (n + b) := by
  have h1 : a < (cutTo n Q.length Q).length := by rw [cutTo_length]; exact ha
  unfold cell
  rw [getD_at h1, getD_at ha, cutTo_get ha, if_pos ha]
  simp [List.getD_eq_getElem?_getD]
theorem cutR_tells {l : List Int} {n : Nat} (h : n ≤ l.length) : impl_inverse.cutR l n = some (l.drop n) := by
  unfold impl_inverse.cutR
  rw [if_pos (by omega), if_pos (by omega), Int.toNat_natCast]
theorem invers_good {p : Int} (q1 q2 : Int) (l : List Int) {n : Nat} (hn : n ≤ 32) {Q : List (List Int)} (hQ : Q.length = n) (hok : RowsOk p (n + n) Q) (hd : ∀ j, j < n → cell Q j j = 1) (d : Nat) : ∀ (k i : Nat), n - i = d → i ≤ n → d + 1000 ≤ k →
    impl_inverse.l0 k (cutTo n i Q) n i p q1 q2 l n = some (p, (n : Int), (n : Int), tab n n (fun a b => cell Q a (n + b)), true) := by
  induction d with
  | zero =>
    intro k i hi1 hi hk
    obtain ⟨k, rfl⟩ : ∃ m, k = m + 1 := ⟨k - 1, by omega⟩
    obtain rfl : i = n := by omega
    have h1 : (cutTo i i Q).length = i := by rw [cutTo_length]; exact hQ
    have e := matrixOf_tells (q := p) (i : Int) (cutTo_ok hok) (by rw [cutTo_length]; omega) (by omega) (k := k) (by omega)
    rw [hQ] at e
    rw [h1] at e
    simp only [impl_inverse.l0]
    rw [if_neg (by omega), e, Option.bind_some]
    have e2 : tab i i (cell (cutTo i i Q)) = tab i i (fun a b => cell Q a (i + b)) := by
      refine tab_ext (tab_length _ _ _) (fun a b ha hb => ?_)
      rw [tab_at _ ha hb]
      have := cutTo_cell (n := i) (Q := Q) (a := a) (b := b) (by omega)
      rw [hQ] at this
      exact this
    rw [e2]
  | succ d ih =>
    intro k i hi1 hi hk
    obtain ⟨k, rfl⟩ : ∃ m, k = m + 1 := ⟨k - 1, by omega⟩
    have g0 : i < n := by omega
    have g1 : (i : Int) < (n : Int) := by omega
    have g2 : (0 : Int) ≤ (i : Int) := by omega
    have g3 : (i : Int) < ((cutTo n i Q).length : Int) := by rw [cutTo_length, hQ]; omega
    have g4 : i < Q.length := by omega
    have hrow : (Q.getD i []).length = n + n := by rw [getD_at g4]; exact (hok _ (List.getElem_mem g4)).1
    have g5 : (i : Int) < (((Q.getD i []).length : Nat) : Int) := by rw [hrow]; omega
    have g6 : n ≤ (Q.getD i []).length := by rw [hrow]; omega
    have g7 : n ≤ 35184372088832 := by omega
    have g8 : (Q.getD i []).getD i 0 = 1 := hd i g0
    have g9 := ih k (i + 1) (by omega) (by omega) (by omega)
    simp only [impl_inverse.l0]
    rw [if_pos g1, if_pos g2, if_pos g3, rdL_nat, cutTo_at g4, if_pos g5, rd_nat, g8, if_pos rfl, cutR_tells g6, Option.bind_some, Int.toNat_natCast, cutTo_step g4, w64_succ g0 g7]
    exact g9
theorem invers_bad {p : Int} (q1 q2 : Int) (l : List Int) {n : Nat} (hn : n ≤ 32) {Q : List (List Int)} (hQ : Q.length = n) (hok : RowsOk p (n + n) Q) {j : Nat} (hj : j < n) (hd : cell Q j j ≠ 1) (d : Nat) : ∀ (k i : Nat), n - i = d → i ≤ j → d + 1000 ≤ k →
    impl_inverse.l0 k (cutTo n i Q) n i p q1 q2 l n = some (0, 0, 0, [], false) := by
  induction d with
  | zero => intro k i hi1 hi hk; omega
  | succ d ih =>
    intro k i hi1 hi hk
    obtain ⟨k, rfl⟩ : ∃ m, k = m + 1 := ⟨k - 1, by omega⟩
    have g0 : i < n := by omega
    have g1 : (i : Int) < (n : Int) := by omega
    have g2 : (0 : Int) ≤ (i : Int) := by omega
    have g3 : (i : Int) < ((cutTo n i Q).length : Int) := by rw [cutTo_length, hQ]; omega
    have g4 : i < Q.length := by omega
    have hrow : (Q.getD i []).length = n + n := by rw [getD_at g4]; exact (hok _ (List.getElem_mem g4)).1
    have g5 : (i : Int) < (((Q.getD i []).length : Nat) : Int) := by rw [hrow]; omega
    have g6 : n ≤ (Q.getD i []).length := by rw [hrow]; omega
    have g7 : n ≤ 35184372088832 := by omega
    by_cases q : (Q.getD i []).getD i 0 = 1
    · have hne : i ≠ j := fun e => hd (by subst e; exact q)
      have g9 := ih k (i + 1) (by omega) (by omega) (by omega)
      simp only [impl_inverse.l0]
      rw [if_pos g1, if_pos g2, if_pos g3, rdL_nat, cutTo_at g4, if_pos g5, rd_nat, if_pos q, cutR_tells g6, Option.bind_some, Int.toNat_natCast, cutTo_step g4, w64_succ g0 g7]
      exact g9
    · simp only [impl_inverse.l0]
      rw [if_pos g1, if_pos g2, if_pos g3, rdL_nat, cutTo_at g4, if_pos g5, rd_nat, if_neg q]
def invOut (p r c : Int) (l : List Int) : Int × Int × Int × List Int × Int := if matOk p r c l = true then (if r = c then (if (elim p r.toNat (rowsM r.toNat r.toNat l)).2.1.length = r.toNat then (p, r, r, tab r.toNat r.toNat (fun a b => cell (wideQ p r.toNat l) a (r.toNat + b)), 0) else (0, 0, 0, [], 3)) else (0, 0, 0, [], 6)) else (0, 0, 0, [], 1)
theorem invOut_length (p r c : Int) (l : List Int) : (invOut p r c l).2.2.2.1.length ≤ 16384 := by
  unfold invOut
  split
  · rename_i h
    obtain ⟨R, C, rfl, rfl, h1, h2, h3, h4, h5⟩ := dimsM h
    split
    · split
      · simp only [tab_length, Int.toNat_natCast]; exact side_mul (by omega) (by omega)
      · simp
    · simp
  · simp
theorem wideQ_ok {p : Int} (hp : isP p = true) {n : Nat} {l : List Int} (hv : ∀ j, 0 ≤ l.getD j 0 ∧ l.getD j 0 < p) : RowsOk p (n + n) (wideQ p n l) ∧ (wideQ p n l).length = n := by
  have hw := rowsM_ok (R := n) (C := n + n) (wideL_ok (isP_ge hp).1 (n := n) hv)
  obtain ⟨a, b, _⟩ := elim_ok hp hw
  exact ⟨a, by unfold wideQ; rw [b, rowsM_length]⟩
theorem two_n {n : Nat} (hn : n ≤ 32) : wrap64 (2 * (n : Int)) = ((n + n : Nat) : Int) := by rw [w64_id (by omega) (by omega)]; push_cast; omega
theorem implInverse_tells {p : Int} (hp : isP p = true) {n : Nat} (hn : n ≤ 32) {l : List Int} (hl : l.length = n * n) (hv : ∀ j, 0 ≤ l.getD j 0 ∧ l.getD j 0 < p) {k : Nat} (hk : 17000 ≤ k) :
    impl_inverse.f k p n n l = some (if (elim p n (rowsM n n l)).2.1.length = n then (p, (n : Int), (n : Int), tab n n (fun a b => cell (wideQ p n l) a (n + b)), true) else (0, 0, 0, [], false)) := by
  have e1 := implElim_tells hp (R := n) (C := n + n) (by omega) (by omega) (wideL_length n l) (wideL_ok (isP_ge hp).1 hv) (k := k) (by omega)
  obtain ⟨q1, q2⟩ := wideQ_ok hp (n := n) hv
  unfold impl_inverse.f
  rw [two_n hn, implWide_tells hn hl hk, Option.bind_some]
  dsimp only
  rw [e1, Option.bind_some]
  dsimp only
  show impl_inverse.l0 k (wideQ p n l) ((wideQ p n l).length : Int) 0 p n n l n = _
  rw [q2]
  have hok := rowsM_ok (R := n) (C := n) hv
  have hokw := rowsM_ok (R := n) (C := n + n) (wideL_ok (isP_ge hp).1 (n := n) hv)
  obtain ⟨q, rfl⟩ := Int.eq_ofNat_of_zero_le (show 0 ≤ p by have := isP_ge hp; omega)
  haveI : NeZero q := ⟨by have := isP_ge hp; omega⟩
  by_cases hr : (elim q n (rowsM n n l)).2.1.length = n
  · obtain ⟨d1, _, _⟩ := inv_full hp hok (rowsM_length _ _ _) hokw (rowsM_length _ _ _) (fun i j hi hj => wide_cells hi hj) hr
    have g := invers_good (p := (q : Int)) n n l hn q2 q1 (fun j hj => by have := d1 j j hj hj; rw [if_pos rfl] at this; exact this) n k 0 (by omega) (by omega) (by omega)
    rw [cutTo_zero] at g
    rw [if_pos hr]
    exact g
  · have hx : ∃ j, j < n ∧ cell (wideQ q n l) j j ≠ 1 := Classical.byContradiction fun hno => hr (inv_diag hp hok (rowsM_length _ _ _) hokw (rowsM_length _ _ _) (fun i j hi hj => wide_cells hi hj) (fun i hi => Classical.byContradiction fun hne => hno ⟨i, hi, hne⟩))
    obtain ⟨j, hj, hne⟩ := hx
    have g := invers_bad (p := (q : Int)) n n l hn q2 q1 hj hne n k 0 (by omega) (by omega) (by omega)
    rw [cutTo_zero] at g
    rw [if_neg hr]
    exact g
theorem impl_invM (p r c : Int) {l : List Int} {k : Nat} (hk : 17000 ≤ k) : impl_InverseMatrix.f k p r c l = some (invOut p r c l) := by
  unfold impl_InverseMatrix.f invOut
  rw [implOk_tells p r c (by omega)]
  cases h : matOk p r c l with
  | false => simp
  | true =>
    obtain ⟨R, C, rfl, rfl, h1, h2, h3, h4, h5⟩ := dimsM h
    simp only [Option.bind_some, if_true, Int.toNat_natCast]
    by_cases hs : (R : Int) = (C : Int)
    · obtain rfl : R = C := by omega
      rw [if_pos rfl, if_pos rfl, implInverse_tells (matOk_iff.mp h).1 h1 h3 h5 hk, Option.bind_some]
      by_cases hr : (elim p R (rowsM R R l)).2.1.length = R
      · rw [if_pos hr, if_pos hr]; rfl
      · rw [if_neg hr, if_neg hr]; rfl
    · rw [if_neg hs, if_neg hs]
theorem w64_three {i n j : Nat} (h : i * (n + n) + (n + j) ≤ 16384) : wrap64 (wrap64 (wrap64 ((i : Int) * ((n + n : Nat) : Int)) + (n : Int)) + (j : Int)) = ((i * (n + n) + (n + j) : Nat) : Int) := by
  have e : (i : Int) * ((n + n : Nat) : Int) = ((i * (n + n) : Nat) : Int) := (Int.natCast_mul i (n + n)).symm
  rw [e]
  generalize i * (n + n) = x at h
  rw [w64_id (x := (x : Int)) (by omega) (by omega), w64_id (x := (x : Int) + (n : Int)) (by omega) (by omega), w64_id (x := (x : Int) + (n : Int) + (j : Int)) (by omega) (by omega)]
  omega
theorem out_row {p q1 q2 : Int} {n : Nat} (hn : n ≤ 32) {l m : List Int} (f : Nat → Nat → Int) {i : Nat} (hi : i < n) (x1 x2 x3 : Int) (d : Nat) : ∀ (k j : Nat) (o : List Int), n - j = d → j ≤ n → o.length = n * n → (∀ a b, a < n → b < n → o.getD (a * n + b) 0 = if a < i ∨ (a = i ∧ b < j) then f a (n + b) else 0) →
    ∃ o', o'.length = n * n ∧ (∀ a b, a < n → b < n → o'.getD (a * n + b) 0 = if a < i + 1 then f a (n + b) else 0) ∧
    spec_InverseMatrix.l1 (k + d + 1) i j p n q1 l q2 x1 ((n + n : Nat) : Int) m x2 x3 ((n + n : Nat) : Int) (tab n (n + n) f) p n n o = spec_InverseMatrix.l0 k ((i + 1 : Nat) : Int) p n q1 l q2 x1 ((n + n : Nat) : Int) m x2 x3 ((n + n : Nat) : Int) (tab n (n + n) f) p n n o' := by
  induction d with
  | zero =>
    intro k j o hd hj ho h
    obtain rfl : j = n := by omega
    refine ⟨o, ho, fun a b ha hb => ?_, ?_⟩
    · rw [h a b ha hb]
      by_cases e : a < i + 1
      · rw [if_pos (by omega), if_pos e]
      · rw [if_neg (by omega), if_neg e]
    · rw [show k + 0 + 1 = k + 1 by omega]
      simp only [spec_InverseMatrix.l1]
      rw [if_neg (by omega), w64_succ (n := j) hi (by omega)]
  | succ d ih =>
    intro k j o hd hj ho h
    have hj' : j < n := by omega
    have h1 := at_lt hi hj'
    have h2 := at_lt (r := n) (c := n + n) (i := i) (j := n + j) hi (by omega)
    have hm := side_mul (r := n) (c := n + n) (by omega) (by omega)
    have g1 : (j : Int) < (n : Int) := by omega
    have g2 : (0 : Int) ≤ ((i * (n + n) + (n + j) : Nat) : Int) := by omega
    have g3 : ((i * (n + n) + (n + j) : Nat) : Int) < ((tab n (n + n) f).length : Int) := by rw [tab_length]; omega
    have g4 : (0 : Int) ≤ ((i * n + j : Nat) : Int) := by omega
    have g5 : ((i * n + j : Nat) : Int) < (o.length : Int) := by rw [ho]; omega
    have g6 : i * n + j < o.length := by omega
    have g7 : n ≤ 35184372088832 := by omega
    have g8 : i * (n + n) + n ≤ 16384 := by omega
    have g9 : i * (n + n) + (n + j) ≤ 16384 := by omega
    have g10 : n + j < n + n := by omega
    rw [show k + (d + 1) + 1 = (k + d + 1) + 1 by omega]
    simp only [spec_InverseMatrix.l1]
    rw [w64_three g9, w64_at (r := n) (c := n) (i := i) (j := j) (by omega) (by omega) (by omega) (by omega), if_pos g1, if_pos g2, if_pos g3, if_pos g4, if_pos g5, w64_succ hj' g7, rd_nat, tab_at _ hi g10, Int.toNat_natCast]
    refine ih k (j + 1) _ (by omega) (by omega) (by rw [List.length_set]; exact ho) (fun a b ha hb => ?_)
    rw [getD_set _ _ _ _ g6, h a b ha hb]
    by_cases e : a * n + b = i * n + j
    · have f1 : a = i := by have := (at_div (i := a) hb).1; rw [e, (at_div hj').1] at this; exact this.symm
      have f2 : b = j := by have := (at_div (i := a) hb).2; rw [e, (at_div hj').2] at this; exact this.symm
      subst f1; subst f2
      rw [if_pos rfl, if_pos (by omega)]
    · rw [if_neg e]
      have : (a < i ∨ (a = i ∧ b < j)) ↔ (a < i ∨ (a = i ∧ b < j + 1)) := by
        constructor
        · rintro (h | ⟨h, h'⟩)
          · exact .inl h
          · exact .inr ⟨h, by omega⟩
        · rintro (h | ⟨h, h'⟩)
          · exact .inl h
          · refine .inr ⟨h, ?_⟩
            rcases Nat.lt_or_ge b j with g | g
            · exact g
            · exfalso; apply e; rw [h, show b = j by omega]
      by_cases q : a < i ∨ (a = i ∧ b < j)
      · rw [if_pos q, if_pos (this.mp q)]
      · rw [if_neg q, if_neg (fun z => q (this.mpr z))]
theorem out_loop {p q1 q2 : Int} {n : Nat} (hn : n ≤ 32) {l m : List Int} (f : Nat → Nat → Int) (x1 x2 x3 : Int) (d : Nat) : ∀ (k i : Nat) (o : List Int), n - i = d → i ≤ n → d * (n + 2) < k → o.length = n * n → (∀ a b, a < n → b < n → o.getD (a * n + b) 0 = if a < i then f a (n + b) else 0) →
    spec_InverseMatrix.l0 k i p n q1 l q2 x1 ((n + n : Nat) : Int) m x2 x3 ((n + n : Nat) : Int) (tab n (n + n) f) p n n o = some (p, (n : Int), (n : Int), tab n n (fun a b => f a (n + b)), 0) := by
  induction d with
  | zero =>
    intro k i o hd hi hk ho h
    obtain ⟨k, rfl⟩ : ∃ m, k = m + 1 := ⟨k - 1, by omega⟩
    obtain rfl : i = n := by omega
    simp only [spec_InverseMatrix.l0]
    rw [if_neg (by omega), tab_ext (f := fun a b => f a (i + b)) ho (fun a b ha hb => by rw [h a b ha hb, if_pos ha])]
  | succ d ih =>
    intro k i o hd hi hk ho h
    rw [Nat.succ_mul] at hk
    obtain ⟨k, rfl⟩ : ∃ m, k = m + n + 1 + 1 := ⟨k - n - 1 - 1, by omega⟩
    simp only [spec_InverseMatrix.l0]
    rw [if_pos (by omega)]
    obtain ⟨o', ho', h', e⟩ := out_row (p := p) (q1 := q1) (q2 := q2) hn (l := l) (m := m) f (show i < n by omega) x1 x2 x3 n k 0 o (by omega) (by omega) ho (fun a b ha hb => by rw [h a b ha hb]; simp)
    rw [show (0 : Int) = ((0 : Nat) : Int) from rfl, e]
    exact ih k (i + 1) o' (by omega) (by omega) (by omega) ho' h'
theorem spec_invM (p r c : Int) {l : List Int} (hl : l.length ≤ 1048576) {k : Nat} (hk : l.length + 400000 ≤ k) : spec_InverseMatrix.f k p r c l = some (invOut p r c l) := by
  unfold spec_InverseMatrix.f invOut
  rw [specOk_tells p r c (by omega) (by omega)]
  cases h : matOk p r c l with
  | false => simp
  | true =>
    obtain ⟨R, C, rfl, rfl, h1, h2, h3, h4, h5⟩ := dimsM h
    have hp := (matOk_iff.mp h).1
    simp only [Option.bind_some, if_true, Int.toNat_natCast]
    by_cases hs : (R : Int) = (C : Int)
    · obtain rfl : R = C := by omega
      obtain ⟨ds, _, _, _, e⟩ := specElim_tells hp (show R ≤ 64 by omega) (show R ≤ 70 by omega) h3 h5 (k := k) (by omega)
      have e1 : spec_l03Rank.f k p R R l = some ((elim p R (rowsM R R l)).2.1.length : Int) := by
        unfold spec_l03Rank.f
        rw [e]; rfl
      rw [if_pos rfl, if_pos rfl, e1, Option.bind_some]
      by_cases hr : (elim p R (rowsM R R l)).2.1.length = R
      · obtain ⟨dt, _, _, _, e2⟩ := specElim_tells hp (R := R) (C := R + R) (by omega) (by omega) (wideL_length R l) (wideL_ok (isP_ge hp).1 h5) (k := k) (by omega)
        have e3 := specJoin_tells (p := p) (p' := p) (r' := (R : Int)) (r := R) (c := R) (c' := R) (by omega) (by omega) (by omega) h3 (tab_length R R unitAt) (k := k) (by omega)
        have hb : R * (R + 2) ≤ 32 * 34 := Nat.mul_le_mul h1 (by omega)
        rw [if_pos (by omega), if_pos hr, specUnit_tells (by omega) p (by omega), Option.bind_some]
        dsimp only
        rw [e3, Option.bind_some]
        dsimp only
        rw [show joined R R R l (tab R R unitAt) = wideL R l from rfl, e2, Option.bind_some]
        dsimp only
        rw [zero_tells (by omega) (by omega), Option.bind_some]
        dsimp only
        exact out_loop (p := p) (q1 := (R : Int)) (q2 := p) h1 (l := l) (m := wideL R l) (cell (wideQ p R l)) (R : Int) p (R : Int) R k 0 (tab R R (fun _ _ => 0)) (by omega) (by omega) (by omega) (tab_length _ _ _) (fun a b ha hb => by rw [tab_at _ ha hb, if_neg (by omega)])
      · rw [if_neg (by omega), if_neg hr]
    · rw [if_neg hs, if_neg hs]
end Go.Proofs.Ytoekjicknclooaa.F
end

section
/- Both functions refuse the same matrices; both eliminate the matrix beside the unit and return the right half, in memory of its own; the matrix stays as it is, and a second call answers the same. -/
set_option linter.unusedVariables false
set_option linter.unusedSimpArgs false
set_option linter.unusedSectionVars false
namespace Go.Proofs.Ytoekjicknclooaa.F
open Go.RowKit Go.Proofs.YtoekjicknclooaaW.PrintWords Go.Proofs.YtoekjicknclooaaW.PrintLast Go.Proofs.Ytoekjicknclooaa.Lin
theorem FnExactInverseMatrix_pure : laws_FnExactInverseMatrix.Pure := by
  intro p r c l _ _ _ hm _
  by_cases hl : l.length ≤ 1048576
  · have ho := invOut_length p r c l
    obtain ⟨B, hB⟩ : ∃ B, B = l.length + 400000 := ⟨_, rfl⟩
    have c1 : ∀ k, B ≤ k → laws_toMatrix.f k p r c l = some (p, r, c, l) := fun k hk => toMatrix_tells p r c (by omega) (by omega)
    have c2 : ∀ k, B ≤ k → spec_InverseMatrix.f k p r c l = some (invOut p r c l) := fun k hk => spec_invM p r c hl (by omega)
    have c3 : ∀ k, B ≤ k → impl_InverseMatrix.f k p r c l = some (invOut p r c l) := fun k hk => impl_invM p r c (by omega)
    generalize invOut p r c l = o at *
    obtain ⟨o1, o2, o3, o, code⟩ := o
    dsimp only at ho
    have c4 : ∀ k, B ≤ k → laws_eqMatrix.f k p r c l p r c l = some true := fun k hk => eqMatrix_tells (by omega) (by omega)
    have c5 : ∀ k, B ≤ k → laws_eqMatrix.f k o1 o2 o3 o o1 o2 o3 o = some true := fun k hk => eqMatrix_tells (by omega) (by omega)
    have c6 : ∀ k, B ≤ k → laws_markMatrix.f k p r c l 1 = some (1 + (l.length : Int), iota 1 l.length) := fun k hk => markMatrix_tells (by omega) (by omega)
    have c7 : ∀ k, B ≤ k → laws_markMatrix.f k o1 o2 o3 o 1 = some (1 + (o.length : Int), iota 1 o.length) := fun k hk => markMatrix_tells (by omega) (by omega)
    have c8 : ∀ k, B ≤ k → laws_heldMatrix.f k o1 o2 o3 (iota 1 o.length) 1 = some (1 + (o.length : Int)) := fun k hk => heldMatrix_tells (by omega) (by omega)
    have n0 : ¬ (1048576 - (l.length : Int) < 0) := by omega
    have n1 : ¬ (1 + (l.length : Int) < 0) := by omega
    have n2 : ¬ (1 + (o.length : Int) < 0) := by omega
    refine ⟨B + 1 + 1 + 1, ?_⟩
    unfold laws_FnExactInverseMatrix.f
    rw [szMatrix_tells p r c hm, if_pos hl]
    simp (disch := omega) only [Option.bind_some, if_true, if_false, bne_self_eq_false, Bool.false_eq_true, c1, c2, c3, c4, c5, c6, c7, c8, n0, n1, n2]
    simp only [laws_FnExactInverseMatrix.j0]
    simp (disch := omega) only [Option.bind_some, if_true, if_false, bne_self_eq_false, Bool.false_eq_true, c1, c2, c3, c4, c5, c6, c7, c8, n0, n1, n2]
    simp only [laws_FnExactInverseMatrix.j1]
    simp (disch := omega) only [Option.bind_some, if_true, if_false, bne_self_eq_false, Bool.false_eq_true, c1, c2, c3, c4, c5, c6, c7, c8, n0, n1, n2]
    simp only [laws_FnExactInverseMatrix.j2]
    simp (disch := omega) only [Option.bind_some, if_true, if_false, bne_self_eq_false, Bool.false_eq_true, c1, c2, c3, c4, c5, c6, c7, c8, n0, n1, n2]
  · refine ⟨0, ?_⟩
    unfold laws_FnExactInverseMatrix.f
    rw [szMatrix_tells p r c hm, if_neg hl]
    rfl
end Go.Proofs.Ytoekjicknclooaa.F
namespace Go.Proofs.Ytoekjicknclooaa.Pure
theorem FnExactInverseMatrix : F.laws_FnExactInverseMatrix.Pure := F.FnExactInverseMatrix_pure
end Go.Proofs.Ytoekjicknclooaa.Pure
end

section
-- PRINTED BY print.sh 35421559b90ae4d0a3588c463048766b98c2df88dd9212a6774a882060cdf62d: not written by this session
-- PRINTED WORDS (module Derived/Print/Sized.lean): go-gate-2's, for the rows of laws over slices: an AI agent of Go's test side, Tue Nov 17 2026; no person has read it. Lean checks it.
namespace Go.Proofs.YtoekjicknclooaaW.PrintWords
open Go.ChangeShapes Go.WideShapes
end Go.Proofs.YtoekjicknclooaaW.PrintWords
end

section
namespace Go.Proofs.Ytoekjicknclooaa.fnExactInverseMatrix
open Go.ChangeShapes Go.WideShapes Go.ChangeAt Go.RowKit Go.Joins
open Go.ChangeMaps (open_string shut_string)
set_option linter.unusedVariables false
theorem own : ownKnob Try.prog.godebug = none := by kernel_rfl
theorem laidOut : laidOutB Try.prog = true := by kernel_rfl
def IsRow (k : IntKind) (w : World) (a : Option Addr) (len cap : Nat) (zs : List Int) : Prop :=
  (a = none ∧ len = 0 ∧ cap = 0 ∧ zs = []) ∨
  ∃ x, a = some x ∧ len ≤ cap ∧ cap ≤ maxLen ∧ zs.length = cap ∧ (∀ i, i < zs.length → w.cell? (x.add i) = some (.int k (zs.getD i 0))) ∧ ∀ n ∈ zs, (Lit.int k n).wf = true
theorem row_of {H : Type} {enc : TypeId × Value → H} {P : Program} {W : World} {n : Nat} {t e : TypeId} {k : IntKind} {v : Value} {y : DataW H × List MemPlace} (hs : P.underlying t = some (.slice e)) (hi : P.underlying e = some (.int k)) (hc : P.cellsOf e = 1)
    (hf : DataW.trod enc P W 0 (fun _ => true) true n t [v] = some y) : ∃ a len cap zs, v = .slice a len cap ∧ IsRow k W a len cap zs := by
  rcases open_ints hs hi hc hf with ⟨hcs, _⟩ | ⟨x, l, c, zs, hcs, _, hl, hm, hz, _, hcell, hwz⟩
  · simp at hcs
    exact ⟨_, _, _, [], hcs, .inl ⟨rfl, rfl, rfl, rfl⟩⟩
  · simp at hcs
    exact ⟨_, _, _, zs, hcs, .inr ⟨_, rfl, hl, hm, by simpa using hz, hcell, hwz⟩⟩
set_option maxRecDepth 100000 in
theorem lifted (os : Os) (started : os.Started) (H : Type) (enc : TypeId × Value → H) :
    ReturnsInHanded {} Try.checked os 7 .any (Rows.fnExactInverseMatrixSpec.pre6 enc Try.prog Try.f7 Rows.fnExactInverseMatrixRow.domain false) (Rows.fnExactInverseMatrixSpec.post enc Try.prog Try.f7 false true false false) := by
  refine returnsInHanded_of_change_sized (C := Try.checked) own started (by kernel_rfl) Try.func7
    (ChangeSpec.witness6 (enc := enc) (C := Try.checked) false ⟨#[], #[.agg #[.int .i64 0, .int .i64 0, .int .i64 0, .slice none 0 0]], []⟩ 8 (by kernel_rfl) (by kernel_rfl) (by kernel_rfl) (by kernel_rfl)) ?_
  intro W base args ds gs before hval0 hW hcnd hsz0 _
  have hsz : (DataW.weightsEach Try.prog (Try.f7.params.toList ++ Rows.fnExactInverseMatrixSpec.plain.varTypes Try.prog) (ds ++ gs)).all (· ≤ reachBytes) = true := hsz0
  have hval : ∀ (j : Nat) t v, Try.f7.params[j]? = some t → args[j]? = some v → Value.okWide Try.prog W .any base t v := hval0
  have hW' := hW
  obtain ⟨p, q, hA0, hV, rfl, hfz, hnd⟩ := hW
  have hA : DataW.TrodAll enc Try.prog W 0 (fun _ => true) true Try.f7.params.toList args.toList ds p := hA0
  rw [Try.params7] at hA hval hsz
  obtain ⟨v0, vs0, d0, ds0, p0, q0, hargs, rfl, rfl, h0, r0⟩ := trodAll_cons hA
  obtain ⟨rfl, rfl, rfl⟩ := trodAll_nil r0
  obtain rfl : args = #[v0] := by cases args; simp_all
  obtain ⟨rfl, rfl⟩ := trodVars_none hV
  have k0 := h0
  have lt0 : ∀ x ∈ p0, x.block < W.heap.size := by obtain ⟨m, hm⟩ := k0; exact DataW.trod_lt m _ _ _ hm
  obtain ⟨c0_0, c0_1, c0_2, c0_3, y0_0, y0_1, y0_2, y0_3, m0, rfl, _, _, g0_0, g0_1, g0_2, g0_3⟩ := open_agg4 Try.underlying40 (by kernel_rfl) (show Try.prog.cellsOf 40 = 4 by kernel_rfl) (hval 0 40 v0 rfl rfl) h0
  obtain ⟨a0_0, e0_0, _, w0_0⟩ := DataW.trod_int Try.underlying2 g0_0
  simp at e0_0
  subst e0_0
  obtain ⟨a0_1, e0_1, _, w0_1⟩ := DataW.trod_int Try.underlying2 g0_1
  simp at e0_1
  subst e0_1
  obtain ⟨a0_2, e0_2, _, w0_2⟩ := DataW.trod_int Try.underlying2 g0_2
  simp at e0_2
  subst e0_2
  obtain ⟨a0_3, len0_3, cap0_3, z0_3, rfl, w0_3⟩ := row_of Try.underlying25 Try.underlying2 (by kernel_rfl) g0_3
  clear hA0 hval0 hsz0 hsz
  refine (F.laws_FnExactInverseMatrix.walk Pure.FnExactInverseMatrix a0_0 a0_1 a0_2 a0_3 len0_3 cap0_3 z0_3 W w0_0 w0_1 w0_2 w0_3).mono fun e W' ⟨he, bel⟩ => ?_
  subst he
  exact ⟨_, rfl, _, _, _, [], _, [], hW', trodAll_mk1 (shut_bool Try.underlying4 _), (trodAll_cons_mk (Below.trod laidOut (by kernel_rfl) (of_decide_eq_true (by kernel_rfl)) k0 bel lt0) trodAll_mk0), rfl, bel.frame _, fun h => by cases h⟩
theorem over : Rows.fnExactInverseMatrixRow.holds Try.pinned (OpenSpec.ofChange Rows.fnExactInverseMatrixSpec) :=
  OpenClaim.holds_of_wide 7 Try.f7 rfl rfl rfl rfl rfl rfl rfl ⟨rfl, rfl, rfl, rfl, rfl⟩ rfl rfl rfl rfl rfl (by kernel_rfl) Try.func7 (by kernel_rfl)
    (of_decide_eq_true (by kernel_rfl)) (by unfold Func.isWrapper; first | (rw [if_pos (by decide +kernel)]; kernel_rfl) | (rw [if_neg (by decide +kernel)]; exact ⟨rfl, rfl⟩))
    (fun os started H enc _ => lifted os started H enc)
theorem proved : Rows.FnExactInverseMatrixSaid := over
#print axioms proved
end Go.Proofs.Ytoekjicknclooaa.fnExactInverseMatrix
namespace Go.Proofs.Ytoekjicknclooaa
theorem fnExactInverseMatrix_holds : Rows.FnExactInverseMatrixSaid := fnExactInverseMatrix.proved
end Go.Proofs.Ytoekjicknclooaa
end
