-- Texts of this claim, merged by packw.py (a program of this session's).
import Derived.Test.YtoekjicknclooaaQFnInverse5
import Derived.Test.YtoekjicknclooaaQFnInverse10
import Derived.KernelRfl
import Derived.Test.YtoekjicknclooaaQFnInverse8
import Derived.Test.YtoekjicknclooaaQFnInverse9
import Derived.Test.YtoekjicknclooaaQFnInverse11
import Derived.Test.YtoekjicknclooaaQFnInverse2
import Derived.Test.YtoekjicknclooaaQFnInverse3
import Derived.Test.YtoekjicknclooaaQFnInverse4
import Derived.Test.YtoekjicknclooaaQFnInverse6
import Derived.SizedLaws
import Derived.ChangeSlices
import Derived.Test.YtoekjicknclooaaRows
import Derived.WalkKit
import Derived.ProofKit
import Derived.OpenShut
import Derived.ShutString
import Derived.ChangeOld
import Derived.Below

section
set_option linter.unusedVariables false
set_option linter.unusedSimpArgs false
set_option linter.unusedSectionVars false
namespace Go.Proofs.Ytoekjicknclooaa.F
open Go.RowKit Go.Proofs.YtoekjicknclooaaW.PrintWords Go.Proofs.YtoekjicknclooaaW.PrintLast Go.Proofs.Ytoekjicknclooaa.Lin
def rowS (c : Nat) (v l : List Int) (i n : Nat) : Int := ((List.range n).map (fun j => l.getD (i * c + j) 0 * v.getD j 0)).sum
theorem rowS_succ (c : Nat) (v l : List Int) (i n : Nat) : rowS c v l i (n + 1) = rowS c v l i n + l.getD (i * c + n) 0 * v.getD n 0 := by
  unfold rowS
  rw [List.range_succ, List.map_append, List.sum_append]
  simp
theorem dotI_loop {a b : List Int} {p : Int} (hp : 2 ≤ p) (hp' : p ≤ 251) (hl : a.length = b.length) (hn : a.length ≤ 35184372088832) (ha : ∀ j, 0 ≤ a.getD j 0 ∧ a.getD j 0 < p) (hb : ∀ j, 0 ≤ b.getD j 0 ∧ b.getD j 0 < p) (d : Nat) :
    ∀ (k i : Nat) (s : Int), a.length - i = d → i ≤ a.length → d < k → s = rowS 0 b a 0 i % p → impl_dot.l0 k a b p s a.length i = some (rowS 0 b a 0 a.length % p) := by
  induction d with
  | zero =>
    intro k i s hd hi hk hs
    obtain ⟨k, rfl⟩ : ∃ m, k = m + 1 := ⟨k - 1, by omega⟩
    obtain rfl : i = a.length := by omega
    simp only [impl_dot.l0]
    rw [if_neg (by omega), hs]
  | succ d ih =>
    intro k i s hd hi hk hs
    obtain ⟨k, rfl⟩ : ∃ m, k = m + 1 := ⟨k - 1, by omega⟩
    simp only [impl_dot.l0]
    have h1 : (i : Int) < (a.length : Int) := by omega
    have h2 : (i : Int) < (b.length : Int) := by omega
    have h0 : (0 : Int) ≤ (i : Int) := by omega
    have hp0 : ¬ p = 0 := by omega
    have hs2 : 0 ≤ s ∧ s < p := by rw [hs]; exact ⟨Int.emod_nonneg _ (by omega), Int.emod_lt_of_pos _ (by omega)⟩
    have hm := mul_small hp hp' (ha i).1 (by have := (ha i).2; omega) (hb i).1 (hb i).2
    have e : Int.tmod (wrap64 (s + wrap64 (rd a i * rd b i))) p = rowS 0 b a 0 (i + 1) % p := by
      rw [rd_nat, rd_nat, w64_id (x := a.getD i 0 * b.getD i 0) (by omega) (by omega), w64_id (x := s + a.getD i 0 * b.getD i 0) (by omega) (by omega), Int.tmod_eq_emod_of_nonneg (by omega), rowS_succ, hs, Int.emod_add_emod]
      congr 3
      rw [show 0 * 0 + i = i by omega]
    simp only [h0, h1, h2, hp0, if_true, if_false]
    rw [e, w64_succ (n := a.length) (by omega) hn]
    exact ih k (i + 1) _ (by omega) (by omega) (by omega) rfl
theorem dotI_tells {a b : List Int} {p : Int} (hp : 2 ≤ p) (hp' : p ≤ 251) (hl : a.length = b.length) (hn : a.length ≤ 35184372088832) (ha : ∀ j, 0 ≤ a.getD j 0 ∧ a.getD j 0 < p) (hb : ∀ j, 0 ≤ b.getD j 0 ∧ b.getD j 0 < p) {k : Nat} (hk : a.length < k) :
    impl_dot.f k a b p = some (rowS 0 b a 0 a.length % p) := by
  unfold impl_dot.f
  exact dotI_loop hp hp' hl hn ha hb a.length k 0 0 (by omega) (by omega) hk (by unfold rowS; simp)
theorem mapD {n j : Nat} (f : Nat → Int) (h : j < n) : ((List.range n).map f).getD j 0 = f j := by simp [List.getD_eq_getElem?_getD, h]
theorem mapD_in {p : Int} (hp : 2 ≤ p) {n : Nat} {f : Nat → Int} (h : ∀ j, 0 ≤ f j ∧ f j < p) (j : Nat) : 0 ≤ ((List.range n).map f).getD j 0 ∧ ((List.range n).map f).getD j 0 < p := by
  by_cases hj : j < n
  · rw [mapD f hj]; exact h j
  · rw [List.getD_eq_getElem?_getD, List.getElem?_eq_none (by simp; omega)]; simp; omega
theorem rowS_congr {c i : Nat} {v l a : List Int} (n : Nat) (h : ∀ j, j < n → a.getD j 0 = l.getD (i * c + j) 0) : rowS 0 v a 0 n = rowS c v l i n := by
  induction n with
  | zero => rfl
  | succ n ih => rw [rowS_succ, rowS_succ, ih (fun j hj => h j (by omega)), show 0 * 0 + n = n by omega, h n (by omega)]
theorem row_tells {p r : Int} {R c : Nat} {l v : List Int} (hp : 2 ≤ p) (hp' : p ≤ 251) (hR : R ≤ 64) (hc : c ≤ 64) (hlen : l.length = R * c) (hl : ∀ j, 0 ≤ l.getD j 0 ∧ l.getD j 0 < p) (hv : ∀ j, 0 ≤ v.getD j 0 ∧ v.getD j 0 < p) (hvl : v.length = c) {i : Nat} (hi : i < R) {k : Nat} (hk : 64 < k) :
    impl_Matrix_row.f k p r c l i v p = some (rowS c v l i c % p) := by
  have a1 : i ≤ 128 := by omega
  have a2 : i + 1 ≤ 128 := by omega
  have a3 : c ≤ 128 := by omega
  have a8 : R ≤ 35184372088832 := by omega
  have a9 : c < k := by omega
  have a10 : c ≤ 35184372088832 := by omega
  have g1 : (i + 1) * c ≤ R * c := Nat.mul_le_mul_right _ hi
  have g3 : (i + 1) * c = i * c + c := Nat.succ_mul i c
  have n1 : (0 : Int) ≤ ((i * c : Nat) : Int) := Int.natCast_nonneg _
  have n2 : ((i * c : Nat) : Int) ≤ (((i + 1) * c : Nat) : Int) := Int.ofNat_le.mpr (by rw [g3]; exact Nat.le_add_right _ _)
  have n3 : (((i + 1) * c : Nat) : Int) ≤ (l.length : Int) := Int.ofNat_le.mpr (by rw [hlen]; exact g1)
  have e1 : wrap64 ((i : Int) + 1) = ((i + 1 : Nat) : Int) := w64_succ (n := R) hi a8
  have m1 := w64_mulN a1 a3
  have m2 := w64_mulN a2 a3
  unfold impl_Matrix_row.f
  rw [e1, m1, m2, if_pos n1, if_pos n2, if_pos n3, Int.toNat_natCast, Int.toNat_natCast, slice_row hlen hi]
  have hz : ((List.range c).map (fun j => l.getD (i * c + j) 0)).length = c := by simp
  have := dotI_tells (a := (List.range c).map (fun j => l.getD (i * c + j) 0)) hp hp' (by rw [hz, hvl]) (by rw [hz]; exact a10) (mapD_in hp (fun j => hl _)) hv (k := k) (by rw [hz]; exact a9)
  rw [this, hz, rowS_congr c (fun j hj => mapD (fun j => l.getD (i * c + j) 0) hj)]
def turned (r c : Nat) (l : List Int) : List Int := tab c r (fun i j => l.getD (j * c + i) 0)
theorem implTransposed_tells (p : Int) {r c : Nat} (hr : r ≤ 128) (hc : c ≤ 128) {l : List Int} (hl : l.length = r * c) {k : Nat} (hk : 17000 ≤ k) : impl_transpose.f k p r c l = some (p, (c : Int), (r : Int), turned r c l) := by
  unfold impl_transpose.f
  rw [filled_tells (f := fun i j => l.getD (j * c + i) 0) hc hr (fun i j hi hj => at_tells (p := p) (r := (r : Int)) (R := r) hr hc rfl hl hj hi) p 0 hk]
  rfl
def colM (R C : Nat) (b : List Int) (j : Nat) : List Int := (List.range R).map (fun t => b.getD (t * C + j) 0)
theorem colM_length (R C : Nat) (b : List Int) (j : Nat) : (colM R C b j).length = R := by unfold colM; simp
def prodAt (p : Int) (C C' : Nat) (a b : List Int) (i j : Nat) : Int := rowS C (colM C C' b j) a i C % p
theorem turned_rows {R C : Nat} (b : List Int) {j : Nat} (hj : j < C) : (rowsM C R (turned R C b)).getD j [] = colM R C b j := by
  unfold rowsM colM
  rw [List.getD_eq_getElem?_getD, List.getElem?_map]
  simp only [List.getElem?_range hj, Option.map_some, Option.getD_some]
  refine List.map_congr_left (fun t ht => ?_)
  have := List.mem_range.mp ht
  unfold turned
  rw [tab_at _ hj this]
theorem columns_tells (p : Int) {R C : Nat} (hR : R ≤ 64) (hC : C ≤ 64) {b : List Int} (hl : b.length = R * C) {k : Nat} (hk : 17000 ≤ k) : impl_columnsOf.f k p R C b = some (rowsM C R (turned R C b)) := by
  unfold impl_columnsOf.f
  rw [implTransposed_tells p (by omega) (by omega) hl hk, Option.bind_some]
  dsimp only
  rw [rowsOf_tells (by omega) (by omega) (by unfold turned; rw [tab_length]) (by omega), Option.bind_some]
theorem implProduct_tells {p p' : Int} (hp : 2 ≤ p) (hp' : p ≤ 251) {R C C' : Nat} (hR : R ≤ 64) (hC : C ≤ 64) (hC' : C' ≤ 64) {a b : List Int} (ha : a.length = R * C) (hb : b.length = C * C') (va : ∀ j, 0 ≤ a.getD j 0 ∧ a.getD j 0 < p) (vb : ∀ j, 0 ≤ b.getD j 0 ∧ b.getD j 0 < p) {k : Nat} (hk : 17000 ≤ k) :
    impl_product.f k p R C a p' C C' b = some (p, (R : Int), (C' : Int), tab R C' (prodAt p C C' a b)) := by
  unfold impl_product.f
  rw [columns_tells p' hC hC' hb hk, Option.bind_some]
  rw [filled_tells (f := prodAt p C C' a b) (by omega) (by omega) (fun i j hi hj => by
    show (if 0 ≤ (j : Int) then (if (j : Int) < ((rowsM C' C (turned C C' b)).length : Int) then impl_Matrix_row.f 100 p R C a i (rd_L2 (rowsM C' C (turned C C' b)) j) p else none) else none) = _
    rw [if_pos (by omega), if_pos (by rw [rowsM_length]; omega), rdL_nat, turned_rows b hj]
    exact row_tells hp hp' hR hC ha va (fun t => by
      unfold colM
      by_cases ht : t < C
      · rw [mapD _ ht]; exact vb _
      · rw [List.getD_eq_getElem?_getD, List.getElem?_eq_none (by simp; omega)]; simp; omega) (colM_length _ _ _ _) hi (by omega)) p 0 hk]
  rfl
section
variable {p p' q1 : Int} {R C C' : Nat} {a b : List Int}
end
def mulOut (p r c : Int) (a : List Int) (p' r' c' : Int) (b : List Int) : Int × Int × Int × List Int × Int := if (matOk p r c a && matOk p' r' c' b) = true then if p = p' ∧ c = r' then (p, r, c', tab r.toNat c'.toNat (prodAt p c.toNat c'.toNat a b), 0) else (0, 0, 0, [], 6) else (0, 0, 0, [], 1)
theorem impl_mulM (p r c p' r' c' : Int) {a b : List Int} {k : Nat} (hk : 18000 ≤ k) : impl_Multiply.f k p r c a p' r' c' b = some (mulOut p r c a p' r' c' b) := by
  unfold impl_Multiply.f mulOut
  obtain ⟨k, rfl⟩ : ∃ m, k = m + 1 := ⟨k - 1, by omega⟩
  rw [implOk_tells p r c (by omega), implOk_tells p' r' c' (by omega)]
  cases h : matOk p r c a with
  | false => simp [impl_Multiply.j0]
  | true =>
    cases h' : matOk p' r' c' b with
    | false => simp [impl_Multiply.j0]
    | true =>
      obtain ⟨R, C, rfl, rfl, h1, h2, h3, hp, hx⟩ := dimsM h
      obtain ⟨R', C', rfl, rfl, h1', h2', h3', hp', hx'⟩ := dimsM h'
      simp only [Option.bind_some, if_true, impl_Multiply.j0, Bool.not_true, Bool.false_eq_true, if_false, Bool.and_self]
      by_cases e1 : p = p'
      · subst e1
        by_cases e2 : (C : Int) = (R' : Int)
        · have : C = R' := by omega
          subst this
          rw [if_pos rfl, if_pos rfl, if_pos ⟨rfl, rfl⟩, implProduct_tells hp.1 hp.2 (by omega) (by omega) (by omega) h3 h3' hx hx' (by omega), Option.bind_some]
          rfl
        · simp [e2]
      · simp [e1]
section
variable {q : Nat} [NeZero q] {R C : Nat} {l : List Int}
end
end Go.Proofs.Ytoekjicknclooaa.F
end

section
set_option linter.unusedVariables false
set_option linter.unusedSimpArgs false
set_option linter.unusedSectionVars false
namespace Go.Proofs.Ytoekjicknclooaa.Lin
section
variable {p : Nat} [NeZero p] {n : Nat} {rows : List (List Int)}
theorem elim_ops (hp : isP p = true) (hok : RowsOk p n rows) (hl : rows.length = n) : (0 ≤ (elim p n rows).2.2 ∧ (elim p n rows).2.2 < p) ∧ phi p (elim p n rows).2.2 = det n (fm p rows) ∧ ((elim p n rows).2.1.length = n ∨ (elim p n rows).2.2 = 0) ∧ ∀ N, det n (mulM n (fm p rows) N) = det n (fm p rows) * det n N := by
  obtain ⟨r, P, h1, h2, h3, h4, h5, h6, h7, h8, h9⟩ := elimTo_tells hp hok n (Nat.le_refl _)
  obtain ⟨e, he, hd⟩ := h9 hl
  have hR := h4.rref
  rw [hl] at hR
  have hdet := he.det
  refine ⟨h6, ?_, ?_, ?_⟩
  · rcases hR.unit_or_zero with ⟨hr, hI⟩ | ⟨hr, k, hk, hz⟩
    · rw [hdet, det_congr hI, det_id]
      exact (hd hr).trans (by grind)
    · rw [hdet, det_zero_row hk _ hz]
      show phi p (elimTo p rows n).2.2 = _
      rw [h8 hr, phi_zero]; grind
  · rcases Nat.lt_or_ge r n with h | h
    · exact .inr (h8 h)
    · refine .inl ?_
      show (elimTo p rows n).2.1.length = n
      rw [h3, pivList_length]; omega
  · intro N
    refine det_mul_of he ?_ N
    rcases hR.unit_or_zero with ⟨_, hI⟩ | ⟨_, hz⟩
    · exact .inl hI
    · exact .inr hz
theorem det_inverse {rows' : List (List Int)} (hp : isP p = true) (hok : RowsOk p n rows) (hl : rows.length = n) (hok' : RowsOk p n rows') (hl' : rows'.length = n) (h : ∀ i j, i < n → j < n → sm n (fun k => fm p rows i k * fm p rows' k j) = idM i j) :
    (elim p n rows').2.2 * (elim p n rows).2.2 % p = 1 ∧ 0 < (elim p n rows).2.2 := by
  have hpn := isP_nat hp
  obtain ⟨a1, a2, _, a4⟩ := elim_ops hp hok hl
  obtain ⟨b1, b2, _, _⟩ := elim_ops hp hok' hl'
  have e := a4 (fm p rows')
  rw [det_congr (M := mulM n (fm p rows) (fm p rows')) (N := idM) (fun i j hi hj => h i j hi hj), det_id, ← a2, ← b2, ← phi_mul, ← phi_one, phi_eq] at e
  have e1 : (1 : Int) % p = 1 := Int.emod_eq_of_lt (by omega) (by omega)
  rw [e1] at e
  refine ⟨by rw [Int.mul_comm]; exact e.symm, ?_⟩
  rcases Int.lt_or_le 0 (elim p n rows).2.2 with h0 | h0
  · exact h0
  · have : (elim p n rows).2.2 = 0 := by omega
    rw [this] at e; simp at e
end
end Go.Proofs.Ytoekjicknclooaa.Lin
end

section
set_option linter.unusedVariables false
set_option linter.unusedSimpArgs false
set_option linter.unusedSectionVars false
namespace Go.Proofs.Ytoekjicknclooaa.F
open Go.RowKit Go.Proofs.YtoekjicknclooaaW.PrintWords Go.Proofs.YtoekjicknclooaaW.PrintLast Go.Proofs.Ytoekjicknclooaa.Lin
section
variable {p : Nat} [NeZero p]
theorem phi_sum (f : Nat → Int) : ∀ n, phi p ((List.range n).map f).sum = sm n (fun j => phi p (f j))
  | 0 => by simp [sm, phi_zero]
  | n + 1 => by
    rw [List.range_succ, List.map_append, List.sum_append]
    simp only [List.map_cons, List.map_nil, List.sum_cons, List.sum_nil, Int.add_zero]
    rw [phi_add, phi_sum f n]; rfl
theorem phi_prodAt {R C C' : Nat} (a b : List Int) {i j : Nat} : phi p (prodAt p C C' a b i j) = sm C (fun t => phi p (a.getD (i * C + t) 0) * phi p (b.getD (t * C' + j) 0)) := by
  unfold prodAt rowS
  rw [phi_emod, phi_sum]
  refine sm_congr (fun t ht => ?_)
  rw [phi_mul]
  congr 2
  unfold colM
  simp [List.getD_eq_getElem?_getD, ht]
theorem prodAt_range (hp : isP (p : Int) = true) {C C' : Nat} (a b : List Int) (i j : Nat) : 0 ≤ prodAt p C C' a b i j ∧ prodAt p C C' a b i j < p := by
  have := isP_nat hp
  unfold prodAt
  exact ⟨Int.emod_nonneg _ (by omega), Int.emod_lt_of_pos _ (by omega)⟩
end
section
variable {q : Nat} [NeZero q] {n : Nat} {l : List Int}
def invL (p : Int) (n : Nat) (l : List Int) : List Int := tab n n (fun a b => cell (wideQ p n l) a (n + b))
theorem invL_range {p : Int} (hp : isP p = true) (hv : ∀ j, 0 ≤ l.getD j 0 ∧ l.getD j 0 < p) (j : Nat) : 0 ≤ (invL p n l).getD j 0 ∧ (invL p n l).getD j 0 < p := by
  unfold invL
  exact okTab (isP_ge hp).1 (fun a b _ _ => okCell (isP_ge hp).1 (wideQ_ok hp hv).1 a (n + b)) j
theorem small_eq {x y : Int} (hx : 0 ≤ x ∧ x < (q : Int)) (hy : 0 ≤ y ∧ y < (q : Int)) (h : phi q x = phi q y) : x = y := by
  have := phi_eq.mp h
  rwa [Int.emod_eq_of_lt hx.1 hx.2, Int.emod_eq_of_lt hy.1 hy.2] at this
theorem phi_unitAt (i j : Nat) : phi q (unitAt i j) = idM i j := by
  unfold unitAt idM
  by_cases e : i = j
  · rw [if_pos e, if_pos e, phi_one]
  · rw [if_neg e, if_neg e, phi_zero]
theorem inv_law (hp : isP (q : Int) = true) (hv : ∀ j, 0 ≤ l.getD j 0 ∧ l.getD j 0 < (q : Int)) (hr : (elim q n (rowsM n n l)).2.1.length = n) :
    tab n n (prodAt q n n l (invL q n l)) = tab n n unitAt ∧ tab n n (prodAt q n n (invL q n l) l) = tab n n unitAt ∧ (elim q n (rowsM n n (invL q n l))).2.2 * (elim q n (rowsM n n l)).2.2 % q = 1 ∧ 0 < (elim q n (rowsM n n l)).2.2 := by
  have h2 := isP_nat hp
  have hok := rowsM_ok (R := n) (C := n) hv
  have hokw := rowsM_ok (R := n) (C := n + n) (wideL_ok (isP_ge hp).1 (n := n) hv)
  obtain ⟨_, d2, d3⟩ := inv_full hp hok (rowsM_length _ _ _) hokw (rowsM_length _ _ _) (fun i j hi hj => wide_cells hi hj) hr
  have fl : ∀ i j, i < n → j < n → phi q (l.getD (i * n + j) 0) = fm q (rowsM n n l) i j := fun i j hi hj => by unfold fm; rw [rowsM_cell _ hi hj]
  have fi : ∀ i j, i < n → j < n → phi q ((invL q n l).getD (i * n + j) 0) = fm q (wideQ q n l) i (n + j) := fun i j hi hj => by unfold invL fm; rw [tab_at _ hi hj]
  have d2 : ∀ i j, i < n → j < n → sm n (fun k => fm q (wideQ q n l) i (n + k) * fm q (rowsM n n l) k j) = idM i j := d2
  have d3 : ∀ i j, i < n → j < n → sm n (fun k => fm q (rowsM n n l) i k * fm q (wideQ q n l) k (n + j)) = idM i j := d3
  have fr : ∀ i j, i < n → j < n → fm q (rowsM n n (invL q n l)) i j = fm q (wideQ q n l) i (n + j) := fun i j hi hj => by
    rw [← fi i j hi hj]
    show phi q (cell (rowsM n n (invL q n l)) i j) = _
    rw [rowsM_cell _ hi hj]
  have ur : ∀ i j, 0 ≤ unitAt i j ∧ unitAt i j < (q : Int) := fun i j => by unfold unitAt; split <;> omega
  refine ⟨?_, ?_, ?_⟩
  · refine tab_ext (tab_length _ _ _) (fun i j hi hj => ?_)
    rw [tab_at _ hi hj]
    refine small_eq (prodAt_range hp _ _ i j) (ur i j) ?_
    rw [phi_prodAt (R := n), phi_unitAt, ← d3 i j hi hj]
    exact sm_congr (fun t ht => by rw [fl i t hi ht, fi t j ht hj])
  · refine tab_ext (tab_length _ _ _) (fun i j hi hj => ?_)
    rw [tab_at _ hi hj]
    refine small_eq (prodAt_range hp _ _ i j) (ur i j) ?_
    rw [phi_prodAt (R := n), phi_unitAt, ← d2 i j hi hj]
    exact sm_congr (fun t ht => by rw [fi i t hi ht, fl t j ht hj])
  · refine det_inverse hp hok (rowsM_length _ _ _) (rowsM_ok (R := n) (C := n) (invL_range hp hv)) (rowsM_length _ _ _) (fun i j hi hj => ?_)
    rw [← d3 i j hi hj]
    exact sm_congr (fun t ht => by rw [fr t j ht hj])
theorem no_inv (hp : isP (q : Int) = true) (hv : ∀ j, 0 ≤ l.getD j 0 ∧ l.getD j 0 < (q : Int)) (hr : (elim q n (rowsM n n l)).2.1.length ≠ n) : (elim q n (rowsM n n l)).2.2 = 0 := by
  obtain ⟨_, _, h, _⟩ := elim_ops hp (rowsM_ok (R := n) (C := n) hv) (rowsM_length _ _ _)
  rcases h with h | h
  · exact absurd h hr
  · exact h
end
theorem u64_wrap (n : Int) : IntKind.u64.wrap n = n % 18446744073709551616 := by simp [IntKind.wrap, IntKind.bits, IntKind.signed]
theorem and255 {x : Int} (h0 : 0 ≤ x) (h1 : x < 18446744073709551616) : Go.bits .and .u64 x 255 = x % 256 :=
  bits_mask .u64 64 (by decide) (fun n h0 h1 => by rw [u64_wrap]; exact Int.emod_eq_of_lt h0 (by omega)) 8 (by decide) x h0 (by omega)
def Bytes (l : List Int) : Prop := ∀ x, x ∈ l → 0 ≤ x ∧ x ≤ 255
theorem bytes_rd {l : List Int} (h : Bytes l) (i : Int) : 0 ≤ rd l i ∧ rd l i ≤ 255 := by
  unfold rd
  by_cases hj : i.toNat < l.length
  · rw [getD_at hj]; exact h _ (List.getElem_mem hj)
  · rw [List.getD_eq_getElem?_getD, List.getElem?_eq_none (by omega)]; simp
theorem next_tells {l : List Int} (hl : Bytes l) {at_ : Int} (seed : Int) (h0 : 0 ≤ at_) (h1 : at_ ≤ 4611686018427387904) : ∃ v s, spec_l00Src_next.f l at_ seed = some (v, at_ + 1, s) ∧ 0 ≤ v ∧ v ≤ 255 := by
  have e : wrap64 (at_ + 1) = at_ + 1 := w64_id (by omega) (by omega)
  have hr := bytes_rd hl at_
  have er : wrap64 (rd l at_) = rd l at_ := w64_id (by omega) (by omega)
  have key : ∀ y : Int, 0 ≤ wrap64 (Go.bits .and .u64 (IntKind.u64.wrap y / 1099511627776) 255) ∧ wrap64 (Go.bits .and .u64 (IntKind.u64.wrap y / 1099511627776) 255) ≤ 255 := fun y => by
    have hz : 0 ≤ IntKind.u64.wrap y / 1099511627776 ∧ IntKind.u64.wrap y / 1099511627776 < 18446744073709551616 := by rw [u64_wrap]; omega
    rw [and255 hz.1 hz.2, w64_id (x := IntKind.u64.wrap y / 1099511627776 % 256) (by omega) (by omega)]; omega
  unfold spec_l00Src_next.f
  rw [e, er]
  by_cases c1 : at_ < (l.length : Int)
  · rw [if_pos c1, if_pos h0]
    by_cases c2 : at_ + 1 ≤ (l.length : Int)
    · rw [if_pos c2]; exact ⟨_, _, rfl, hr.1, hr.2⟩
    · rw [if_neg c2]; exact ⟨_, _, rfl, key _⟩
  · rw [if_neg c1]
    by_cases c2 : at_ + 1 ≤ (l.length : Int)
    · rw [if_pos c2]; exact ⟨_, _, rfl, by omega, by omega⟩
    · rw [if_neg c2]; exact ⟨_, _, rfl, key _⟩
theorem pick_tells {l : List Int} (hl : Bytes l) {at_ : Int} (seed n : Int) (h0 : 0 ≤ at_) (h1 : at_ ≤ 4611686018427387000) : ∃ v at' s, spec_l00Src_pick.f l at_ seed n = some (v, at', s) ∧ 0 ≤ v ∧ (v < n ∨ v = 0) ∧ at_ ≤ at' ∧ at' ≤ at_ + 2 := by
  unfold spec_l00Src_pick.f
  by_cases c1 : n ≤ 1
  · rw [if_pos c1]; exact ⟨0, at_, seed, rfl, by omega, .inr rfl, by omega, by omega⟩
  · rw [if_neg c1]
    obtain ⟨v, s, e, v0, v1⟩ := next_tells hl seed h0 (by omega)
    rw [e]
    simp only [Option.bind_some]
    have hn : ¬ n = 0 := by omega
    by_cases c2 : n > 200
    · rw [if_pos c2]
      obtain ⟨u, s', e', u0, u1⟩ := next_tells hl s (show 0 ≤ at_ + 1 by omega) (by omega)
      rw [e']
      simp only [Option.bind_some]
      rw [if_neg hn, w64_id (x := v * 256) (by omega) (by omega), w64_id (x := v * 256 + u) (by omega) (by omega), Int.tmod_eq_emod_of_nonneg (by omega)]
      exact ⟨_, _, _, rfl, Int.emod_nonneg _ hn, .inl (Int.emod_lt_of_pos _ (by omega)), by omega, by omega⟩
    · rw [if_neg c2, if_neg hn, Int.tmod_eq_emod_of_nonneg v0]
      exact ⟨_, _, _, rfl, Int.emod_nonneg _ hn, .inl (Int.emod_lt_of_pos _ (by omega)), by omega, by omega⟩
theorem one_tells {l : List Int} (hl : Bytes l) {at_ : Int} (seed n : Int) (h0 : 0 ≤ at_) (h1 : at_ ≤ 4611686018427387000) : ∃ b at' s, spec_l00Src_one.f l at_ seed n = some (b, at', s) ∧ at_ ≤ at' ∧ at' ≤ at_ + 2 := by
  unfold spec_l00Src_one.f
  obtain ⟨v, at', s, e, _, _, h2, h3⟩ := pick_tells hl seed n h0 h1
  rw [e]
  exact ⟨_, _, _, rfl, h2, h3⟩
theorem among_tells {l : List Int} (hl : Bytes l) {at_ : Int} (seed : Int) {xs : List Int} (hx : xs ≠ []) (h0 : 0 ≤ at_) (h1 : at_ ≤ 4611686018427387000) : ∃ v at' s, spec_l00Src_among.f l at_ seed xs = some (v, at', s) ∧ v ∈ xs ∧ at_ ≤ at' ∧ at' ≤ at_ + 2 := by
  unfold spec_l00Src_among.f
  have hpos := List.length_pos_iff.mpr hx
  obtain ⟨v, at', s, e, v0, v1, h2, h3⟩ := pick_tells hl seed (xs.length : Int) h0 h1
  have hlt : v < (xs.length : Int) := by omega
  rw [e]
  simp only [Option.bind_some]
  rw [if_pos v0, if_pos hlt]
  refine ⟨_, _, _, rfl, ?_, h2, h3⟩
  obtain ⟨i, rfl⟩ := Int.eq_ofNat_of_zero_le v0
  rw [rd_nat]
  exact getD_mem (by omega)
theorem bytesR_of {l : List Int} (h : ∀ x ∈ l, (Lit.int .u8 x).wf = true) : Bytes l := fun x hx => by
  have := h x hx
  simp [Lit.wf, IntKind.min, IntKind.max, IntKind.signed, IntKind.bits] at this
  omega
theorem r8prime_tells {l : List Int} (hl : Bytes l) : ∃ p, spec_R8Prime.f l = some p ∧ isP p = true := by
  unfold spec_R8Prime.f spec_l00From.f spec_l03DrawPrime.f
  simp only [Option.bind_some]
  obtain ⟨v, at2, s2, e2, hv, g3, g4⟩ := among_tells hl 0 (xs := [2, 2, 3, 5, 7, 31, 251]) (by simp) (at_ := 0) (by omega) (by omega)
  rw [e2]
  refine ⟨v, rfl, ?_⟩
  simp at hv
  rcases hv with h | h | h | h | h | h <;> subst h <;> decide
def OkL (p : Int) (o : List Int) : Prop := ∀ j, 0 ≤ o.getD j 0 ∧ o.getD j 0 < p
theorem okL_set {p : Int} {o : List Int} (h : OkL p o) {i : Nat} {v : Int} (hi : i < o.length) (h0 : 0 ≤ v) (h1 : v < p) : OkL p (o.set i v) := fun j => by
  rw [getD_set o i v 0 hi]
  split
  · exact ⟨h0, h1⟩
  · exact h j
theorem okL_zeros {p : Int} (hp : 2 ≤ p) (n : Nat) : OkL p (List.replicate n 0) := fun j => by
  have e : (List.replicate n (0 : Int)).getD j 0 = 0 := by
    simp only [List.getD_eq_getElem?_getD, List.getElem?_replicate]
    split <;> rfl
  rw [e]; omega
theorem fillRow_loop {p : Int} (hp : 2 ≤ p) (hp' : p ≤ 251) {R C : Nat} (hR : R ≤ 64) (hC : C ≤ 64) (h2 : 1 < R) (l : List Int) (at_ s q1 q2 q3 : Int) (d : Nat) : ∀ (k i : Nat) (o : List Int), C - i = d → i ≤ C → d < k → o.length = R * C → OkL p o →
    ∃ o', spec_l03Fill.l1 k p R C i l at_ s q1 q2 q3 o = some (q1, q2, q3, o', at_, s) ∧ o'.length = R * C ∧ OkL p o' := by
  induction d with
  | zero =>
    intro k i o hd hi hk ho hok
    obtain ⟨k, rfl⟩ : ∃ m, k = m + 1 := ⟨k - 1, by omega⟩
    simp only [spec_l03Fill.l1]
    rw [if_neg (by omega)]
    exact ⟨o, rfl, ho, hok⟩
  | succ d ih =>
    intro k i o hd hi hk ho hok
    obtain ⟨k, rfl⟩ : ∃ m, k = m + 1 := ⟨k - 1, by omega⟩
    have hm := side_mul (r := R) (c := C) (by omega) (by omega)
    have hlt : i < R * C := by
      have := at_lt (r := R) (c := C) (i := 0) (j := i) (by omega) (by omega)
      omega
    have hlt2 := at_lt (r := R) (c := C) (i := R - 1) (j := i) (by omega) (by omega)
    have hx := hok i
    have g1 : (i : Int) < (C : Int) := by omega
    have g2 : (0 : Int) ≤ (i : Int) := by omega
    have g3 : (i : Int) < (o.length : Int) := by rw [ho]; omega
    have g4 : ¬ p = 0 := by omega
    have g5 : (0 : Int) ≤ (((R - 1) * C + i : Nat) : Int) := by omega
    have g6 : (((R - 1) * C + i : Nat) : Int) < (o.length : Int) := by rw [ho]; omega
    have g7 : (R - 1) * C + i < o.length := by omega
    have g9 : i < C := by omega
    have g10 : C ≤ 35184372088832 := by omega
    have f1 : C - (i + 1) = d := by omega
    have f2 : i + 1 ≤ C := by omega
    have f3 : d < k := by omega
    have m1 : 0 ≤ o.getD i 0 * 2 % p := Int.emod_nonneg _ g4
    have m2 : o.getD i 0 * 2 % p < p := Int.emod_lt_of_pos _ (by omega)
    have e3 : Int.tmod (wrap64 (rd o i * 2)) p = (o.getD i 0 * 2) % p := by
      rw [rd_nat, w64_id (x := o.getD i 0 * 2) (by omega) (by omega), Int.tmod_eq_emod_of_nonneg (by omega)]
    have e1 : wrap64 ((R : Int) - 1) = ((R - 1 : Nat) : Int) := by rw [w64_id (x := (R : Int) - 1) (by omega) (by omega)]; omega
    have e2 := w64_at (r := R) (c := C) (i := R - 1) (j := i) (by omega) (by omega) (by omega) (by omega)
    have hw : wrap64 ((i : Int) + 1) = ((i + 1 : Nat) : Int) := w64_succ (n := C) g9 g10
    simp only [spec_l03Fill.l1]
    rw [if_pos g1, if_pos g2, if_pos g3, if_neg g4, e1, e2, if_pos g5, if_pos g6, hw, e3, Int.toNat_natCast]
    exact ih k (i + 1) _ f1 f2 f3 (by rw [List.length_set]; exact ho) (okL_set hok g7 m1 m2)
theorem fillEnd_tells {p : Int} (hp : 2 ≤ p) (hp' : p ≤ 251) {R C : Nat} (hR : R ≤ 64) (hC : C ≤ 64) (b : Bool) (hb : b = true → 1 < R) (l : List Int) (at_ s q1 q2 q3 : Int) {k : Nat} (hk : C + 1 < k) {o : List Int} (ho : o.length = R * C) (hok : OkL p o) :
    ∃ o', spec_l03Fill.j1 k p R C b l at_ s q1 q2 q3 o = some (q1, q2, q3, o', at_, s) ∧ o'.length = R * C ∧ OkL p o' := by
  obtain ⟨k, rfl⟩ : ∃ m, k = m + 1 := ⟨k - 1, by omega⟩
  simp only [spec_l03Fill.j1]
  cases b with
  | false => exact ⟨o, rfl, ho, hok⟩
  | true =>
    rw [if_pos rfl]
    exact fillRow_loop hp hp' hR hC (hb rfl) l at_ s q1 q2 q3 C k 0 o (by omega) (by omega) (by omega) ho hok
theorem fill_loop {l : List Int} (hl : Bytes l) {p : Int} (hp : 2 ≤ p) (hp' : p ≤ 251) {R C : Nat} (hR : R ≤ 64) (hC : C ≤ 64) (q1 q2 q3 : Int) (d : Nat) : ∀ (k i : Nat) (o : List Int) (at_ seed : Int), R * C - i = d → i ≤ R * C → d + C + 3 < k → o.length = R * C → OkL p o → 0 ≤ at_ → at_ + 4 * (d : Int) ≤ 1000000 →
    ∃ o' at' s', spec_l03Fill.l0 k p R C i l at_ seed q1 q2 q3 o = some (q1, q2, q3, o', at', s') ∧ o'.length = R * C ∧ OkL p o' := by
  induction d with
  | zero =>
    intro k i o at_ seed hd hi hk ho hok h0 h1
    obtain ⟨k, rfl⟩ : ∃ m, k = m + 1 := ⟨k - 1, by omega⟩
    simp only [spec_l03Fill.l0]
    rw [if_neg (by omega)]
    by_cases c : (R : Int) > 1
    · obtain ⟨b, at1, s1, e1, g1, g2⟩ := one_tells hl seed 3 h0 (by omega)
      rw [if_pos c, e1]
      simp only [Option.bind_some]
      obtain ⟨o', e, a1, a2⟩ := fillEnd_tells hp hp' hR hC b (fun _ => by omega) l at1 s1 q1 q2 q3 (k := k) (by omega) ho hok
      exact ⟨o', at1, s1, e, a1, a2⟩
    · rw [if_neg c]
      obtain ⟨o', e, a1, a2⟩ := fillEnd_tells hp hp' hR hC false (fun h => by simp at h) l at_ seed q1 q2 q3 (k := k) (by omega) ho hok
      exact ⟨o', at_, seed, e, a1, a2⟩
  | succ d ih =>
    intro k i o at_ seed hd hi hk ho hok h0 h1
    obtain ⟨k, rfl⟩ : ∃ m, k = m + 1 := ⟨k - 1, by omega⟩
    have hm := side_mul (r := R) (c := C) (by omega) (by omega)
    obtain ⟨v, at1, s1, e1, _, _, g1, g2⟩ := pick_tells hl seed 3 h0 (by omega)
    have b1 : (i : Int) < (o.length : Int) := by omega
    have b2 : i < o.length := by omega
    have b3 : (0 : Int) ≤ (i : Int) := by omega
    have b4 : R * C - (i + 1) = d := by omega
    have b5 : i + 1 ≤ R * C := by omega
    have b6 : d + C + 3 < k := by omega
    have b7 : i < R * C := by omega
    have b8 : R * C ≤ 35184372088832 := by omega
    by_cases c : v > 0
    · obtain ⟨u, at2, s2, e2, u0, u1, g3, g4⟩ := pick_tells hl s1 p (show 0 ≤ at1 by omega) (by omega)
      have u2 : u < p := by omega
      have b9 : 0 ≤ at2 := by omega
      have b10 : at2 + 4 * (d : Int) ≤ 1000000 := by omega
      simp only [spec_l03Fill.l0]
      rw [if_pos b1, e1]
      simp only [Option.bind_some]
      rw [if_pos c, e2]
      simp only [Option.bind_some]
      rw [if_pos b3, w64_succ b7 b8, Int.toNat_natCast]
      exact ih k (i + 1) _ at2 s2 b4 b5 b6 (by rw [List.length_set]; exact ho) (okL_set hok b2 u0 u2) b9 b10
    · have b9 : 0 ≤ at1 := by omega
      have b10 : at1 + 4 * (d : Int) ≤ 1000000 := by omega
      simp only [spec_l03Fill.l0]
      rw [if_pos b1, e1]
      simp only [Option.bind_some]
      rw [if_neg c, w64_succ b7 b8]
      exact ih k (i + 1) o at1 s1 b4 b5 b6 ho hok b9 b10
theorem zeroM_tells (p : Int) {R C : Nat} (hR : R ≤ 64) (hC : C ≤ 64) : spec_l03Zero.f p R C = some (p, (R : Int), (C : Int), List.replicate (R * C) 0) := by
  have hm := side_mul (r := R) (c := C) (by omega) (by omega)
  have g1 : (0 : Int) ≤ ((R * C : Nat) : Int) := by omega
  have g2 : R * C ≤ 35184372088832 := by omega
  unfold spec_l03Zero.f
  rw [w64_mulN (by omega) (by omega), if_pos g1, Int.toNat_natCast, if_pos g2]
theorem fillM_tells {l : List Int} (hl : Bytes l) {p : Int} (hp : 2 ≤ p) (hp' : p ≤ 251) {R C : Nat} (hR : R ≤ 64) (hC : C ≤ 64) {at_ seed : Int} (h0 : 0 ≤ at_) (h1 : at_ ≤ 900000) {k : Nat} (hk : R * C + C + 3 < k) :
    ∃ o at' s', spec_l03Fill.f k l at_ seed p R C = some (p, (R : Int), (C : Int), o, at', s') ∧ o.length = R * C ∧ OkL p o := by
  have hm := side_mul (r := R) (c := C) (by omega) (by omega)
  unfold spec_l03Fill.f
  rw [zeroM_tells p hR hC, Option.bind_some]
  exact fill_loop hl hp hp' hR hC p R C (R * C) k 0 (List.replicate (R * C) 0) at_ seed (by omega) (by omega) (by omega) (by simp) (okL_zeros hp _) h0 (by omega)
theorem r8matrix_tells {l : List Int} (hl : Bytes l) {p : Int} (hp : 2 ≤ p) (hp' : p ≤ 251) {R C : Nat} (hR : R ≤ 64) (hC : C ≤ 64) {k : Nat} (hk : R * C + C + 3 < k) :
    ∃ o, spec_R8Matrix.f k l p R C = some (p, (R : Int), (C : Int), o) ∧ o.length = R * C ∧ OkL p o := by
  obtain ⟨o, at', s', e, a1, a2⟩ := fillM_tells hl hp hp' hR hC (at_ := 0) (seed := 0) (by omega) (by omega) hk
  refine ⟨o, ?_, a1, a2⟩
  unfold spec_R8Matrix.f spec_l00From.f
  rw [Option.bind_some, e, Option.bind_some]
theorem r8At_tells {l : List Int} (hl : Bytes l) {j : Int} (h0 : 0 ≤ j) {n : Int} (hn : 2 ≤ n) : ∃ v : Nat, laws_r8At.f l j n = some (v : Int) ∧ (v : Int) < n := by
  unfold laws_r8At.f
  rw [if_neg (by omega)]
  by_cases c : j ≥ (l.length : Int)
  · rw [if_pos c]; exact ⟨0, rfl, by omega⟩
  · have hr := bytes_rd hl j
    rw [if_neg c, if_pos h0, if_pos (by omega), if_neg (by omega), w64_id (by omega) (by omega), Int.tmod_eq_emod_of_nonneg hr.1]
    have a := Int.emod_nonneg (rd l j) (show n ≠ 0 by omega)
    have b := Int.emod_lt_of_pos (rd l j) (show 0 < n by omega)
    exact ⟨(rd l j % n).toNat, by rw [Int.toNat_of_nonneg a], by rw [Int.toNat_of_nonneg a]; exact b⟩
theorem sameR_loop {a : List Int} (ha : a.length ≤ 35184372088832) (p r c p' r' c' : Int) (d : Nat) : ∀ (k i : Nat), a.length - i = d → i ≤ a.length → d < k → spec_l03Same.l0 k i p r c a p' r' c' a = some true := by
  induction d with
  | zero =>
    intro k i hd hi hk
    obtain ⟨k, rfl⟩ : ∃ m, k = m + 1 := ⟨k - 1, by omega⟩
    simp only [spec_l03Same.l0]
    rw [if_neg (by omega)]
  | succ d ih =>
    intro k i hd hi hk
    obtain ⟨k, rfl⟩ : ∃ m, k = m + 1 := ⟨k - 1, by omega⟩
    simp only [spec_l03Same.l0]
    rw [if_pos (by omega), if_pos (by omega), if_pos (by omega), if_pos trivial, w64_succ (n := a.length) (by omega) ha]
    exact ih k (i + 1) (by omega) (by omega) (by omega)
theorem sameR_tells (p r c : Int) {a : List Int} (ha : a.length ≤ 35184372088832) {k : Nat} (hk : a.length + 1 < k) : spec_SameMatrix.f k p r c a p r c a = some true := by
  unfold spec_SameMatrix.f spec_l03Same.f
  obtain ⟨k, rfl⟩ : ∃ m, k = m + 1 := ⟨k - 1, by omega⟩
  have e := sameR_loop ha p r c p r c a.length k 0 (by omega) (by omega) (by omega)
  have e0 : ((a.length : Int) != (a.length : Int)) = false := by simp
  rw [if_pos rfl, if_pos rfl, if_pos rfl, e0]
  simp only [spec_l03Same.j0]
  have e' : spec_l03Same.l0 k 0 p r c a p r c a = some true := e
  rw [if_neg (by simp), e']
  rfl
def detOut (p r c : Int) (l : List Int) : Int × Int := if matOk p r c l = true then (if r = c then ((elim p c.toNat (rowsM r.toNat c.toNat l)).2.2, 0) else (0, 6)) else (0, 1)
theorem impl_detM (p r c : Int) {l : List Int} {k : Nat} (hk : 17000 ≤ k) : impl_DeterminantOf.f k p r c l = some (detOut p r c l) := by
  unfold impl_DeterminantOf.f detOut
  rw [implOk_tells p r c (by omega)]
  cases h : matOk p r c l with
  | false => simp
  | true =>
    obtain ⟨R, C, rfl, rfl, h1, h2, h3, h4, h5⟩ := dimsM h
    have e := implElim_tells (matOk_iff.mp h).1 (show R ≤ 64 by omega) (show C ≤ 70 by omega) h3 h5 (k := k) (by omega)
    simp only [Option.bind_some, if_true, Int.toNat_natCast]
    by_cases hs : (R : Int) = (C : Int)
    · rw [if_pos hs, if_pos hs, e]; rfl
    · rw [if_neg hs, if_neg hs]
def unitOut (p r : Int) : Int × Int × Int × List Int × Int := if isP p = true then (if 0 ≤ r ∧ r ≤ 32 then (p, r, r, tab r.toNat r.toNat unitAt, 0) else (0, 0, 0, [], 2)) else (0, 0, 0, [], 1)
theorem impl_unitM (p r : Int) {k : Nat} (hk : 17000 ≤ k) : impl_UnitMatrix.f k p r = some (unitOut p r) := by
  unfold impl_UnitMatrix.f unitOut
  rw [ask_prime, prime_tells p (by omega)]
  cases hp : isP p with
  | false => simp
  | true =>
    rw [side_tells]
    by_cases h1 : 0 ≤ r ∧ r ≤ 32
    · have e := implUnit_tells (n := r.toNat) (by omega) p hk
      rw [show ((r.toNat : Nat) : Int) = r by omega] at e
      simp [h1, e]
    · simp only [h1, decide_false]; simp
end Go.Proofs.Ytoekjicknclooaa.F
end

section
/- Where the determinant of a drawn matrix is not 0, its inverse undoes it from both sides and has the inverse determinant; where it is 0, there is none. -/
set_option linter.unusedVariables false
set_option linter.unusedSimpArgs false
set_option linter.unusedSectionVars false
namespace Go.Proofs.Ytoekjicknclooaa.F
open Go.RowKit Go.Proofs.YtoekjicknclooaaW.PrintWords Go.Proofs.YtoekjicknclooaaW.PrintLast Go.Proofs.Ytoekjicknclooaa.Lin
theorem inv_chain {k : Nat} {l m o I U : List Int} {p n det other : Int} (e0 : laws_r8Long.f l m = some false) (e1 : spec_R8Prime.f l = some p) (e2 : laws_r8At.f m 0 6 = some n) (e4 : spec_R8Matrix.f (k + 1) l p n n = some (p, n, n, o))
    (e5 : impl_DeterminantOf.f (k + 1) p n n o = some (det, 0)) (e6 : impl_InverseMatrix.f (k + 1) p n n o = some (p, n, n, I, 0)) (e7 : impl_UnitMatrix.f (k + 1) p n = some (p, n, n, U, 0)) (d0 : 0 < det) (d1 : det < p)
    (e8 : impl_Multiply.f k p n n o p n n I = some (p, n, n, U, 0)) (e9 : impl_Multiply.f k p n n I p n n o = some (p, n, n, U, 0)) (e10 : impl_DeterminantOf.f k p n n I = some (other, 0)) (f0 : 0 ≤ other) (f1 : other < p)
    (e11 : spec_SameMatrix.f k p n n U p n n U = some true) (e12 : Int.tmod (wrap64 (other * det)) p = 1 % p) : laws_FnInverse.f (k + 1) l m = some true := by
  have h1 : ((0 : Int) == 0) = true := rfl
  have h2 : (det != 0) = true := by simp; omega
  have h3 : (((0 : Int) == 0) != (det != 0)) = false := by rw [h1, h2]; rfl
  unfold laws_FnInverse.f
  rw [e0, Option.bind_some, if_neg (by simp), e1, Option.bind_some, e2, Option.bind_some, e4, Option.bind_some]
  dsimp only
  rw [e5, Option.bind_some]
  dsimp only
  rw [e6, Option.bind_some]
  dsimp only
  rw [e7, Option.bind_some]
  dsimp only
  simp only [if_true]
  rw [h3]
  simp only [laws_FnInverse.j0]
  rw [if_neg (by simp)]
  simp only [if_true]
  rw [e8, Option.bind_some]
  dsimp only
  rw [e9, Option.bind_some]
  dsimp only
  rw [e10, Option.bind_some]
  dsimp only
  simp only [if_true]
  rw [e11]
  simp only [Option.bind_some, if_true]
  rw [if_pos f0, if_pos f1, if_pos d0, if_pos d1, if_neg (by omega), e12]
  simp
theorem inv_none {k : Nat} {l m o U : List Int} {p n : Int} (e0 : laws_r8Long.f l m = some false) (e1 : spec_R8Prime.f l = some p) (e2 : laws_r8At.f m 0 6 = some n) (e4 : spec_R8Matrix.f (k + 1) l p n n = some (p, n, n, o))
    (e5 : impl_DeterminantOf.f (k + 1) p n n o = some (0, 0)) (e6 : impl_InverseMatrix.f (k + 1) p n n o = some (0, 0, 0, [], 3)) (e7 : impl_UnitMatrix.f (k + 1) p n = some (p, n, n, U, 0)) : laws_FnInverse.f (k + 1) l m = some true := by
  have h3 : (((3 : Int) == 0) != ((0 : Int) != 0)) = false := by decide
  unfold laws_FnInverse.f
  rw [e0, Option.bind_some, if_neg (by simp), e1, Option.bind_some, e2, Option.bind_some, e4, Option.bind_some]
  dsimp only
  rw [e5, Option.bind_some]
  dsimp only
  rw [e6, Option.bind_some]
  dsimp only
  rw [e7, Option.bind_some]
  dsimp only
  simp only [if_true]
  rw [h3]
  simp only [laws_FnInverse.j0]
  rw [if_neg (by simp), if_neg (by decide)]
  rfl
theorem FnInverse_pure : laws_FnInverse.Pure := by
  intro l m _ _ hl _ _ hm
  have hl := bytesR_of hl
  have hm := bytesR_of hm
  obtain ⟨K, hK⟩ : ∃ K : Nat, 20000 ≤ K := ⟨20000, Nat.le_refl _⟩
  refine ⟨K + 1, ?_⟩
  by_cases c1 : (l.length : Int) > 1048576
  · unfold laws_FnInverse.f laws_r8Long.f
    rw [if_pos c1, Option.bind_some, if_pos rfl]
  · by_cases c2 : (m.length : Int) > 1048576
    · unfold laws_FnInverse.f laws_r8Long.f
      rw [if_neg c1, decide_eq_true c2, Option.bind_some, if_pos rfl]
    · obtain ⟨p, ep, hp⟩ := r8prime_tells hl
      obtain ⟨n, en, hn⟩ := r8At_tells hm (j := 0) (by omega) (n := 6) (by omega)
      have hp2 := isP_ge hp
      have hnn := side_mul (r := n) (c := n) (by omega) (by omega)
      obtain ⟨o, eo, ho, hok⟩ := r8matrix_tells hl hp2.1 hp2.2 (R := n) (C := n) (by omega) (by omega) (k := K + 1) (by omega)
      obtain ⟨q, rfl⟩ := Int.eq_ofNat_of_zero_le (show 0 ≤ p by omega)
      haveI : NeZero q := ⟨by omega⟩
      have hn5 : n ≤ 5 := by omega
      clear hn
      have hI := invL_range hp (n := n) hok
      have lI : (invL q n o).length = n * n := tab_length _ _ _
      have lU : (tab n n unitAt).length = n * n := tab_length _ _ _
      have mA : matOk q n n o = true := matOk_of hp (by omega) (by omega) ho hok
      have mI : matOk q n n (invL q n o) = true := matOk_of hp (by omega) (by omega) lI hI
      have r0 : laws_r8Long.f l m = some false := by unfold laws_r8Long.f; rw [if_neg c1, decide_eq_false c2]
      have eD : ∀ k, 20000 ≤ k → impl_DeterminantOf.f k q n n o = some ((elim q n (rowsM n n o)).2.2, 0) := fun k hk => by
        rw [impl_detM q n n (by omega)]; unfold detOut; rw [if_pos mA, if_pos rfl]; simp only [Int.toNat_natCast]
      have eDI : ∀ k, 20000 ≤ k → impl_DeterminantOf.f k q n n (invL q n o) = some ((elim q n (rowsM n n (invL q n o))).2.2, 0) := fun k hk => by
        rw [impl_detM q n n (by omega)]; unfold detOut; rw [if_pos mI, if_pos rfl]; simp only [Int.toNat_natCast]
      have eU : ∀ k, 20000 ≤ k → impl_UnitMatrix.f k q n = some ((q : Int), (n : Int), (n : Int), tab n n unitAt, 0) := fun k hk => by
        rw [impl_unitM q n (by omega)]; unfold unitOut; rw [if_pos hp, if_pos ⟨by omega, by omega⟩]; simp only [Int.toNat_natCast]
      have eV : ∀ k, 20000 ≤ k → impl_InverseMatrix.f k q n n o = some (if (elim q n (rowsM n n o)).2.1.length = n then ((q : Int), (n : Int), (n : Int), invL q n o, 0) else (0, 0, 0, [], 3)) := fun k hk => by
        rw [impl_invM q n n (by omega)]; unfold invOut; rw [if_pos mA, if_pos rfl]; simp only [Int.toNat_natCast]; rfl
      obtain ⟨⟨b0, b1⟩, _⟩ := elim_ops hp (rowsM_ok (R := n) (C := n) hok) (rowsM_length _ _ _)
      obtain ⟨⟨i0, i1⟩, _⟩ := elim_ops hp (rowsM_ok (R := n) (C := n) hI) (rowsM_length _ _ _)
      by_cases hr : (elim q n (rowsM n n o)).2.1.length = n
      · obtain ⟨p1, p2, p3, p4⟩ := inv_law hp hok hr
        have m1 : ∀ k, 20000 ≤ k → impl_Multiply.f k q n n o q n n (invL q n o) = some ((q : Int), (n : Int), (n : Int), tab n n unitAt, 0) := fun k hk => by
          rw [impl_mulM q n n q n n (by omega)]; unfold mulOut; rw [mA, mI, if_pos (show (true && true) = true from rfl), if_pos ⟨rfl, rfl⟩]; simp only [Int.toNat_natCast]; rw [p1]
        have m2 : ∀ k, 20000 ≤ k → impl_Multiply.f k q n n (invL q n o) q n n o = some ((q : Int), (n : Int), (n : Int), tab n n unitAt, 0) := fun k hk => by
          rw [impl_mulM q n n q n n (by omega)]; unfold mulOut; rw [mA, mI, if_pos (show (true && true) = true from rfl), if_pos ⟨rfl, rfl⟩]; simp only [Int.toNat_natCast]; rw [p2]
        have eV' := eV (K + 1) (by omega)
        rw [if_pos hr] at eV'
        have w1 := eD (K + 1) (by omega)
        have w2 := eU (K + 1) (by omega)
        have w3 := m1 K hK
        have w4 := m2 K hK
        have w5 := eDI K hK
        have w6 := sameR_tells q n n (a := tab n n unitAt) (k := K) (by omega) (by omega)
        generalize (elim q n (rowsM n n (invL q n o))).2.2 = other at *
        generalize (elim q n (rowsM n n o)).2.2 = det at *
        have w7 : Int.tmod (wrap64 (other * det)) q = 1 % q := by
          have g1 := Int.mul_nonneg i0 b0
          have g2 : other * det ≤ 251 * 251 := Int.mul_le_mul (by omega) (by omega) b0 (by omega)
          rw [w64_id (by omega) (by omega), Int.tmod_eq_emod_of_nonneg g1, p3, Int.emod_eq_of_lt (by omega) (by omega)]
        exact inv_chain r0 ep en eo w1 eV' w2 p4 b1 w3 w4 w5 i0 i1 w6 w7
      · have eV' := eV (K + 1) (by omega)
        rw [if_neg hr] at eV'
        have w1 := eD (K + 1) (by omega)
        rw [no_inv hp hok hr] at w1
        exact inv_none r0 ep en eo w1 eV' (eU (K + 1) (by omega))
end Go.Proofs.Ytoekjicknclooaa.F
namespace Go.Proofs.Ytoekjicknclooaa.Pure
theorem FnInverse : F.laws_FnInverse.Pure := F.FnInverse_pure
end Go.Proofs.Ytoekjicknclooaa.Pure
end

section
-- PRINTED BY print.sh 35421559b90ae4d0a3588c463048766b98c2df88dd9212a6774a882060cdf62d: not written by this session
-- PRINTED WORDS (module Derived/Print/Sized.lean): go-gate-2's, for the rows of laws over slices: an AI agent of Go's test side, Tue Nov 17 2026; no person has read it. Lean checks it.
namespace Go.Proofs.YtoekjicknclooaaW.PrintWords
open Go.ChangeShapes Go.WideShapes
theorem sized_ints {H : Type} {enc : TypeId × Value → H} {P : Program} {W : World} {base : Nat} {spare : Nat → Bool} {held : Bool} {t e : TypeId} {k : IntKind} {a : Option Addr} {len cap : Nat} {d : DataW H} {ps : List MemPlace} {ts : List TypeId} {ds : List (DataW H)} {j : Nat}
    (hsz : (DataW.weightsEach P ts ds).all (· ≤ reachBytes) = true) (ht : ts[j]? = some t) (hd : ds[j]? = some d) (hu : P.underlying t = some (.slice e)) (he : P.underlying e = some (.int k)) (hc : P.cellsOf e = 1) {B : Nat} (hB : P.bytesOf e = B)
    (h : DataW.Trod enc P W base spare held t (.slice a len cap) d ps) : len * B ≤ 140737488351232 := by
  obtain ⟨fuel, hf⟩ := h
  rcases open_ints hu he hc hf with ⟨hcs, _⟩ | ⟨x, l, c, zs, hcs, _, hl, _, hz, hx, _, _⟩
  · simp [Value.cells] at hcs
    obtain ⟨rfl, rfl, rfl⟩ := hcs
    simp
  · simp [Value.cells] at hcs
    obtain ⟨rfl, rfl, rfl⟩ := hcs
    obtain ⟨hx, _⟩ := Prod.mk.inj hx
    subst hx
    have z := sized_slice hsz ht hd hu
    rw [hB] at z
    have hl2 : len ≤ zs.length := by
      rw [hz]
      split
      · exact hl
      · exact Nat.le_refl _
    have h1 : (lits (H := H) k (zs.take len)).length + (lits (H := H) k (zs.drop len)).length = zs.length := by
      simp [lits]
      omega
    rw [h1] at z
    exact Nat.le_trans (Nat.mul_le_mul_right _ hl2) z
end Go.Proofs.YtoekjicknclooaaW.PrintWords
end

section
namespace Go.Proofs.Ytoekjicknclooaa.fnInverse
open Go.ChangeShapes Go.WideShapes Go.ChangeAt Go.RowKit
open Go.ChangeMaps (open_string shut_string)
set_option linter.unusedVariables false
theorem own : ownKnob Try.prog.godebug = none := by kernel_rfl
theorem laidOut : laidOutB Try.prog = true := by kernel_rfl
def IsRow (k : IntKind) (w : World) (a : Option Addr) (len cap : Nat) (zs : List Int) : Prop :=
  (a = none ∧ len = 0 ∧ cap = 0 ∧ zs = []) ∨
  ∃ x, a = some x ∧ len ≤ cap ∧ cap ≤ maxLen ∧ zs.length = cap ∧ (∀ i, i < zs.length → w.cell? (x.add i) = some (.int k (zs.getD i 0))) ∧ ∀ n ∈ zs, (Lit.int k n).wf = true
set_option maxRecDepth 100000 in
theorem lifted (os : Os) (started : os.Started) (H : Type) (enc : TypeId × Value → H) :
    ReturnsInHanded {} Try.checked os 4 .any (Rows.fnInverseSpec.pre6 enc Try.prog Try.f4 Rows.fnInverseRow.domain false) (Rows.fnInverseSpec.post enc Try.prog Try.f4 false true false false) := by
  refine returnsInHanded_of_change_sized (C := Try.checked) own started (by kernel_rfl) Try.func4
    (ChangeSpec.witness6 (enc := enc) (C := Try.checked) false ⟨#[], #[.slice none 0 0, .slice none 0 0], []⟩ 8 (by kernel_rfl) (by kernel_rfl) (by kernel_rfl) (by kernel_rfl)) ?_
  intro W base args ds gs before hval0 hW hcnd hsz0 _
  have hsz : (DataW.weightsEach Try.prog (Try.f4.params.toList ++ Rows.fnInverseSpec.plain.varTypes Try.prog) (ds ++ gs)).all (· ≤ reachBytes) = true := hsz0
  have hval : ∀ (j : Nat) t v, Try.f4.params[j]? = some t → args[j]? = some v → Value.okWide Try.prog W .any base t v := hval0
  have hW' := hW
  obtain ⟨p, q, hA0, hV, rfl, hfz, hnd⟩ := hW
  have hA : DataW.TrodAll enc Try.prog W 0 (fun _ => true) true Try.f4.params.toList args.toList ds p := hA0
  rw [Try.params4] at hA hval hsz
  obtain ⟨v0, vs0, d0, ds0, p0, q0, hargs, rfl, rfl, h0, r0⟩ := trodAll_cons hA
  obtain ⟨v1, vs1, d1, ds1, p1, q1, rfl, rfl, rfl, h1, r1⟩ := trodAll_cons r0
  obtain ⟨rfl, rfl, rfl⟩ := trodAll_nil r1
  obtain rfl : args = #[v0, v1] := by cases args; simp_all
  obtain ⟨rfl, rfl⟩ := trodVars_none hV
  obtain ⟨a0, len0, cap0, rfl⟩ := okWide_slice Try.underlying22 (hval 0 22 v0 rfl rfl)
  have k0 := h0
  have lt0 : ∀ x ∈ p0, x.block < W.heap.size := by obtain ⟨m, hm⟩ := k0; exact DataW.trod_lt m _ _ _ hm
  obtain ⟨z0, w0⟩ : ∃ zs, IsRow .u8 W a0 len0 cap0 zs := by
    obtain ⟨fuel, hf⟩ := h0
    rcases open_ints Try.underlying22 Try.underlying5 (by kernel_rfl) hf with ⟨hcs, _⟩ | ⟨x, l, c, zs, hcs, _, hl, hm, hz, _, hcell, hwz⟩
    · simp [Value.cells] at hcs
      obtain ⟨rfl, rfl, rfl⟩ := hcs
      exact ⟨[], .inl ⟨rfl, rfl, rfl, rfl⟩⟩
    · simp [Value.cells] at hcs
      obtain ⟨rfl, rfl, rfl⟩ := hcs
      exact ⟨zs, .inr ⟨_, rfl, hl, hm, by simpa using hz, hcell, hwz⟩⟩
  have y0 : len0 * 1 ≤ 140737488351232 := Go.Proofs.YtoekjicknclooaaW.PrintWords.sized_ints hsz (j := 0) (t := 22) rfl rfl Try.underlying22 Try.underlying5 (by kernel_rfl) (by kernel_rfl) h0
  obtain ⟨a1, len1, cap1, rfl⟩ := okWide_slice Try.underlying22 (hval 1 22 v1 rfl rfl)
  have k1 := h1
  have lt1 : ∀ x ∈ p1, x.block < W.heap.size := by obtain ⟨m, hm⟩ := k1; exact DataW.trod_lt m _ _ _ hm
  obtain ⟨z1, w1⟩ : ∃ zs, IsRow .u8 W a1 len1 cap1 zs := by
    obtain ⟨fuel, hf⟩ := h1
    rcases open_ints Try.underlying22 Try.underlying5 (by kernel_rfl) hf with ⟨hcs, _⟩ | ⟨x, l, c, zs, hcs, _, hl, hm, hz, _, hcell, hwz⟩
    · simp [Value.cells] at hcs
      obtain ⟨rfl, rfl, rfl⟩ := hcs
      exact ⟨[], .inl ⟨rfl, rfl, rfl, rfl⟩⟩
    · simp [Value.cells] at hcs
      obtain ⟨rfl, rfl, rfl⟩ := hcs
      exact ⟨zs, .inr ⟨_, rfl, hl, hm, by simpa using hz, hcell, hwz⟩⟩
  have y1 : len1 * 1 ≤ 140737488351232 := Go.Proofs.YtoekjicknclooaaW.PrintWords.sized_ints hsz (j := 1) (t := 22) rfl rfl Try.underlying22 Try.underlying5 (by kernel_rfl) (by kernel_rfl) h1
  clear hA0 hval0 hsz0 hsz
  refine (F.laws_FnInverse.walk Pure.FnInverse a0 len0 cap0 z0 a1 len1 cap1 z1 W w0 y0 w1 y1).mono fun e W' ⟨he, bel⟩ => ?_
  subst he
  exact ⟨_, rfl, _, _, _, [], _, [], hW', trodAll_mk1 (shut_bool Try.underlying4 _), (trodAll_cons_mk (Below.trod laidOut (by kernel_rfl) (of_decide_eq_true (by kernel_rfl)) k0 bel lt0) (trodAll_cons_mk (Below.trod laidOut (by kernel_rfl) (of_decide_eq_true (by kernel_rfl)) k1 bel lt1) trodAll_mk0)), rfl, bel.frame _, fun h => by cases h⟩
theorem over : Rows.fnInverseRow.holds Try.pinned (OpenSpec.ofChange Rows.fnInverseSpec) :=
  OpenClaim.holds_of_wide 4 Try.f4 rfl rfl rfl rfl rfl rfl rfl ⟨rfl, rfl, rfl, rfl, rfl⟩ rfl rfl rfl rfl rfl (by kernel_rfl) Try.func4 (by kernel_rfl)
    (of_decide_eq_true (by kernel_rfl)) (by unfold Func.isWrapper; first | (rw [if_pos (by decide +kernel)]; kernel_rfl) | (rw [if_neg (by decide +kernel)]; exact ⟨rfl, rfl⟩))
    (fun os started H enc _ => lifted os started H enc)
theorem proved : Rows.FnInverseSaid := over
#print axioms proved
end Go.Proofs.Ytoekjicknclooaa.fnInverse
namespace Go.Proofs.Ytoekjicknclooaa
theorem fnInverse_holds : Rows.FnInverseSaid := fnInverse.proved
end Go.Proofs.Ytoekjicknclooaa
end
