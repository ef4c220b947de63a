-- Texts of this claim, merged by packw.py (a program of this session's).
import Derived.Test.YtmbbjmkcbpefhaaQFnExactContainsVector3
import Derived.Test.YtmbbjmkcbpefhaaQFnExactContainsVector11
import Derived.KernelRfl
import Derived.Test.YtmbbjmkcbpefhaaQFnExactContainsVector7
import Derived.Test.YtmbbjmkcbpefhaaQFnExactContainsVector4
import Derived.Test.YtmbbjmkcbpefhaaQFnExactContainsVector5
import Derived.Test.YtmbbjmkcbpefhaaQFnExactContainsVector6
import Derived.Test.YtmbbjmkcbpefhaaQFnExactContainsVector8
import Derived.Test.YtmbbjmkcbpefhaaQFnExactContainsVector9
import Derived.Test.YtmbbjmkcbpefhaaQFnExactContainsVector10

section
set_option linter.unusedVariables false
set_option linter.unusedSimpArgs false
set_option linter.unusedSectionVars false
namespace Go.Proofs.Ytmbbjmkcbpefhaa.F
open Go.RowKit Go.Proofs.YtmbbjmkcbpefhaaW.PrintWords Go.Proofs.YtmbbjmkcbpefhaaW.PrintLast Go.Proofs.Ytmbbjmkcbpefhaa.Lin
theorem rangeC {p : Int} {n : Nat} {rows : List (List Int)} (hp : 2 ≤ p) (h : RowsOk p n rows) (i j : Nat) : 0 ≤ cell rows i j ∧ cell rows i j < p := RowsOk.cell h (by omega) i j
theorem find_none {rows : List (List Int)} {top c : Nat} (h : ∀ i, top ≤ i → i < rows.length → cell rows i c = 0) : findPivot rows top c = none := by
  unfold findPivot
  rw [List.findIdx?_eq_none_iff]
  intro r hr
  obtain ⟨j, hj, rfl⟩ := List.mem_iff_getElem.mp hr
  rw [List.length_drop] at hj
  have := h (top + j) (by omega) (by omega)
  unfold cell at this
  rw [getD_at (l := rows) (i := top + j) (d := []) (by omega)] at this
  rw [List.getElem_drop]
  simpa using this
theorem find_some {rows : List (List Int)} {top c q : Nat} (h1 : top ≤ q) (h2 : q < rows.length) (h : ∀ i, top ≤ i → i < q → cell rows i c = 0) (hq : cell rows q c ≠ 0) : findPivot rows top c = some (q - top) := by
  unfold findPivot
  rw [List.findIdx?_eq_some_iff_getElem]
  refine ⟨by rw [List.length_drop]; omega, ?_, fun j hj => ?_⟩
  · rw [List.getElem_drop]
    unfold cell at hq
    rw [getD_at (l := rows) (i := q) (d := []) h2] at hq
    have e : top + (q - top) = q := by omega
    simp only [e]
    simpa using hq
  · have := h (top + j) (by omega) (by omega)
    unfold cell at this
    rw [getD_at (l := rows) (i := top + j) (d := []) (by omega)] at this
    rw [List.getElem_drop]
    simpa using this
theorem cell_swap {rows : List (List Int)} {a b : Nat} (ha : a < rows.length) (hb : b < rows.length) (hab : b ≠ a) (i j : Nat) : cell (swapRows rows a b) i j = sw (cell rows) a b i j := by
  unfold cell sw
  rw [swapRows_get rows ha hb]
  by_cases e : i = b
  · subst e; rw [if_pos rfl, if_neg hab, if_pos rfl]
  · rw [if_neg e]
    by_cases e2 : i = a
    · rw [if_pos e2, if_pos e2]
    · rw [if_neg e2, if_neg e2, if_neg e]
theorem cell_pivot {p : Int} {n : Nat} {rows : List (List Int)} (hp : 2 ≤ p) (hok : RowsOk p n rows) {top c : Nat} (ht : top < rows.length) (hc : c < n) {i j : Nat} (hi : i < rows.length) (hj : j < n) :
    cell (clearAll p c top ((rows.getD top []).map (fun x => pinv p (cell rows top c) * x % p)) (rows.set top ((rows.getD top []).map (fun x => pinv p (cell rows top c) * x % p)))) i j = pivoted p (cell rows) top c i j := by
  have okT : RowOk p n (rows.getD top []) := hok _ (getD_mem ht)
  have okI : RowOk p n (rows.getD i []) := hok _ (getD_mem hi)
  have hq : ∀ j, j < n → ((rows.getD top []).map (fun x => pinv p (cell rows top c) * x % p)).getD j 0 = cell rows top j * pinv p (cell rows top c) % p := fun j hj => by
    have hj' : j < (rows.getD top []).length := by rw [okT.1]; exact hj
    rw [Int.mul_comm (cell rows top j)]
    show _ = pinv p (cell rows top c) * (rows.getD top []).getD j 0 % p
    rw [List.getD_eq_getElem?_getD, List.getElem?_map, List.getElem?_eq_getElem hj', getD_at hj']
    rfl
  have hql : ((rows.getD top []).map (fun x => pinv p (cell rows top c) * x % p)).length = n := by rw [List.length_map, okT.1]
  generalize (rows.getD top []).map (fun x => pinv p (cell rows top c) * x % p) = q at hq hql ⊢
  unfold cell pivoted
  rw [clearAll_get (by rw [List.length_set]; exact hi), getD_set _ _ _ _ ht]
  by_cases e : i = top
  · subst e
    rw [if_pos rfl, if_pos rfl, if_neg (by simp), if_pos rfl]
    exact hq j hj
  · rw [if_neg e, if_neg e, if_pos e]
    unfold clearRow cleared
    simp only [if_neg e, if_true]
    by_cases ez : (rows.getD i []).getD c 0 = 0
    · rw [if_pos ez, if_pos (by exact ez)]
    · rw [if_neg ez, if_neg (by exact ez), addRow_getD (by rw [okI.1]; exact hj) (by rw [hql]; exact hj), hq j hj]
      show _ = ((rows.getD i []).getD j 0 - (rows.getD i []).getD c 0 * (cell rows top j * pinv p (cell rows top c) % p)) % p
      generalize (rows.getD i []).getD c 0 = y
      generalize (rows.getD i []).getD j 0 = x
      generalize cell rows top j * pinv p (cell rows top c) % p = z
      have : x + (p - y) * z = x - y * z + p * z := by rw [Int.sub_mul]; omega
      rw [this, Int.add_mul_emod_self_left]
theorem elimTo_stop {p : Int} {rs : List (List Int)} {c : Nat} (h : (elimTo p rs c).1.length = (elimTo p rs c).2.1.length) (d : Nat) :
    (elimTo p rs (c + d)).1 = (elimTo p rs c).1 ∧ (elimTo p rs (c + d)).2.1 = (elimTo p rs c).2.1 := by
  induction d with
  | zero => exact ⟨rfl, rfl⟩
  | succ d ih =>
    rw [← Nat.add_assoc, elimTo_succ]
    generalize elimTo p rs (c + d) = s at ih ⊢
    obtain ⟨R, piv, det⟩ := s
    dsimp only at ih
    rw [elimStep_none (find_none (fun i h1 h2 => by rw [ih.1] at h2; rw [ih.2] at h1; omega))]
    exact ih
theorem spec_elim_loop {p : Int} (hp : isP p = true) {C : Nat} {rs : List (List Int)} (hm : rs.length ≤ 64) (hn : C ≤ 70) (hok : RowsOk p C rs) {ml : List Int} {mp m2 op o1 o2 : Int} (d : Nat) :
    ∀ k c ds, C - c = d → c ≤ C → d * 5200 + 6500 < k → 0 ≤ ds → ds < p → ((elimTo p rs c).2.1.length = c → ds = (elimTo p rs c).2.2) →
      ∃ ds', 0 ≤ ds' ∧ ds' < p ∧ ((elim p C rs).2.1.length = C → ds' = (elim p C rs).2.2) ∧
        spec_l03Reduced.l0 k p C (elimTo p rs c).2.1 ds ((elimTo p rs c).2.1.length : Int) c mp rs.length m2 ml op o1 o2 (tab rs.length C (cell (elimTo p rs c).1)) = some (op, o1, o2, tab rs.length C (cell (elim p C rs).1), (elim p C rs).2.1, ds') := by
  have h2 := isP_ge hp
  induction d with
  | zero =>
    intro k c ds hd hc hk d0 d1 hds
    obtain ⟨k, rfl⟩ : ∃ m, k = m + 1 := ⟨k - 1, by omega⟩
    obtain ⟨k, rfl⟩ : ∃ m, k = m + 1 := ⟨k - 1, by omega⟩
    obtain rfl : c = C := by omega
    refine ⟨ds, d0, d1, hds, ?_⟩
    simp only [spec_l03Reduced.l0, spec_l03Reduced.j1]
    rw [if_neg (nlt_nat (Nat.le_refl _)), if_neg (by simp)]
    rfl
  | succ d ih =>
    intro k c ds hd hc hk d0 d1 hds
    obtain ⟨k, rfl⟩ : ∃ m, k = m + 1 := ⟨k - 1, by omega⟩
    obtain ⟨k, rfl⟩ : ∃ m, k = m + 1 := ⟨k - 1, by omega⟩
    have hcn : c < C := by omega
    have hk2 : (d + 1) * 5200 = d * 5200 + 5200 := Nat.succ_mul _ _
    rw [hk2] at hk
    clear hk2
    generalize d * 5200 = D at hk ih
    obtain ⟨t1, t2, t7, hle, t6, t8⟩ := elimTo_small hp hok c hc
    by_cases hfull : (elimTo p rs c).2.1.length < rs.length
    · have ih2 := fun k' ds' => ih k' (c + 1) ds' (by omega) (by omega)
      rw [elimTo_succ] at ih2
      generalize elimTo p rs c = s at *
      obtain ⟨A, piv, det⟩ := s
      dsimp only at *
      have hf := rangeC h2.1 t1
      simp only [spec_l03Reduced.l0, spec_l03Reduced.j1]
      rw [if_pos (lt_nat hcn), if_pos (by simpa using hfull)]
      obtain ⟨k1, q, a1, a2, a3, a4, a5, a6⟩ := find_loop (p := p) (R := rs.length) (C := C) (piv := piv) (ml := ml) (det := ds) (mp := mp) (m2 := m2) (op := op) (o1 := o1) (o2 := o2) hm hn (cell A) (row := piv.length) hcn (rs.length - piv.length) k piv.length rfl (by omega) (by omega) (fun i h1 h3 => by omega)
      rw [a6]
      clear a6
      obtain ⟨k1, rfl⟩ : ∃ m, k1 = m + 1 := ⟨k1 - 1, by omega⟩
      simp only [spec_l03Reduced.j3]
      by_cases eq : q = rs.length
      · rw [if_pos (by rw [eq]), w64_succ (n := 70) (by omega) (by omega)]
        rw [elimStep_none (find_none (fun i h1 h3 => a4 i h1 (by omega)))] at ih2
        dsimp only at ih2
        exact ih2 k1 ds (by omega) d0 d1 (fun h => by omega)
      · have hqR : q < rs.length := by omega
        have hne := a5 hqR
        have hfs := find_some a2 (by omega) a4 hne
        have hst : elimStep p (A, piv, det) c = (clearAll p c piv.length (((if q - piv.length = 0 then A else swapRows A piv.length (piv.length + (q - piv.length))).getD piv.length []).map (fun x => pinv p (cell (if q - piv.length = 0 then A else swapRows A piv.length (piv.length + (q - piv.length))) piv.length c) * x % p)) ((if q - piv.length = 0 then A else swapRows A piv.length (piv.length + (q - piv.length))).set piv.length (((if q - piv.length = 0 then A else swapRows A piv.length (piv.length + (q - piv.length))).getD piv.length []).map (fun x => pinv p (cell (if q - piv.length = 0 then A else swapRows A piv.length (piv.length + (q - piv.length))) piv.length c) * x % p))), piv ++ [(c : Int)], (if q - piv.length = 0 then det else -det % p) * cell (if q - piv.length = 0 then A else swapRows A piv.length (piv.length + (q - piv.length))) piv.length c % p) := by
          unfold elimStep; simp only [hfs]
        rw [hst] at ih2
        clear hst
        dsimp only at ih2
        rw [if_neg (ne_nat eq)]
        by_cases e : q = piv.length
        · rw [if_pos (by rw [e])]
          have e0 : q - piv.length = 0 := by omega
          simp only [e0, if_true] at ih2
          obtain ⟨k2, b1, b2⟩ := step5 (p := p) (R := rs.length) (C := C) (piv := piv) (ml := ml) (det := ds) (mp := mp) (m2 := m2) (op := op) (o1 := o1) (o2 := o2) hp hm hn (cell A) hf (row := piv.length) (c := c) hfull hcn (by omega) d0 (by omega) (k := k1) (by omega)
          rw [b2, ← tab_congr (fun i j hi hj => cell_pivot h2.1 t1 (top := piv.length) (c := c) (by omega) hcn (by omega) hj)]
          have := ih2 k2 (ds * cell A piv.length c % p) (by omega) (Int.emod_nonneg _ (by omega)) (Int.emod_lt_of_pos _ (by omega)) (fun h => by
            rw [hds (by simp at h; omega)])
          simpa using this
        · rw [if_neg (ne_nat e)]
          have e0 : ¬ q - piv.length = 0 := by omega
          have e1 : piv.length + (q - piv.length) = q := by omega
          simp only [if_neg e0, e1] at ih2
          have hokW := RowsOk.swap t1 (a := piv.length) (b := q) (by omega) (by omega)
          have hlW := swapRows_length A piv.length q
          have hsw : ∀ i j, sw (cell A) piv.length q i j = cell (swapRows A piv.length q) i j := fun i j => (cell_swap (by omega) (by omega) (by omega) i j).symm
          rw [w64_idV (x := p - ds) (by omega) (by omega)]
          obtain ⟨k3, g1, g2⟩ := swap_loop (p := p) (R := rs.length) (C := C) (piv := piv) (ml := ml) (det := p - ds) (mp := mp) (m2 := m2) (op := op) (o1 := o1) (o2 := o2) hm hn (cell A) (row := piv.length) (c := c) (q := q) hqR hfull e C k1 0 (by omega) (by omega) (by omega)
          have g0 := tab_congr (r := rs.length) (c := C) (f := fun a b => if b < 0 then sw (cell A) piv.length q a b else cell A a b) (g := cell A) (fun a b ha hb => by rw [if_neg (Nat.not_lt_zero _)])
          rw [g0, tab_congr (g := cell (swapRows A piv.length q)) (fun a b _ _ => hsw a b)] at g2
          have gz : ((0 : Nat) : Int) = 0 := rfl
          rw [gz] at g2
          rw [g2]
          obtain ⟨k2, b1, b2⟩ := step5 (p := p) (R := rs.length) (C := C) (piv := piv) (ml := ml) (det := p - ds) (mp := mp) (m2 := m2) (op := op) (o1 := o1) (o2 := o2) hp hm hn (cell (swapRows A piv.length q)) (rangeC h2.1 hokW) (row := piv.length) (c := c) hfull hcn (by omega) (by omega) (by omega) (k := k3) (by omega)
          rw [b2, ← tab_congr (fun i j hi hj => cell_pivot h2.1 hokW (top := piv.length) (c := c) (by omega) hcn (by omega) hj)]
          have := ih2 k2 ((p - ds) * cell (swapRows A piv.length q) piv.length c % p) (by omega) (Int.emod_nonneg _ (by omega)) (Int.emod_lt_of_pos _ (by omega)) (fun h => by
            rw [hds (by simp at h; omega)]
            rw [Int.mul_emod, ← Int.emod_emod_of_dvd (p - det) (Int.dvd_refl p), show (p - det) % p = -det % p by rw [show p - det = -det + p by omega, Int.add_emod_right], ← Int.mul_emod])
          simpa using this
    · have hA : (elimTo p rs c).1.length = (elimTo p rs c).2.1.length := by omega
      obtain ⟨s1, s2⟩ := elimTo_stop hA (C - c)
      rw [show c + (C - c) = C by omega] at s1 s2
      refine ⟨ds, d0, d1, fun h => ?_, ?_⟩
      · exfalso
        have : (elimTo p rs C).2.1.length = C := h
        rw [s2] at this
        omega
      · simp only [spec_l03Reduced.l0, spec_l03Reduced.j1]
        rw [if_pos (lt_nat hcn), if_neg (by simpa using hfull)]
        unfold elim
        rw [s1, s2]
theorem specElim_tells {p : Int} (hp : isP p = true) {R C : Nat} {l : List Int} (hR : R ≤ 64) (hC : C ≤ 70) (hl : l.length = R * C) (hv : ∀ j, 0 ≤ l.getD j 0 ∧ l.getD j 0 < p) {k : Nat} (hk : 400000 ≤ k) :
    ∃ ds, 0 ≤ ds ∧ ds < p ∧ ((elim p C (rowsM R C l)).2.1.length = C → ds = (elim p C (rowsM R C l)).2.2) ∧
      spec_l03Reduced.f k p R C l = some (p, (R : Int), (C : Int), tab R C (cell (elim p C (rowsM R C l)).1), (elim p C (rowsM R C l)).2.1, ds) := by
  have h2 := isP_ge hp
  have hm : R * C ≤ 64 * 70 := Nat.mul_le_mul hR hC
  have hb : (C - 0) * 5200 ≤ 70 * 5200 := Nat.mul_le_mul (by omega) (Nat.le_refl _)
  obtain ⟨ds, a1, a2, a3, a4⟩ := spec_elim_loop (p := p) hp (C := C) (rs := rowsM R C l) (ml := l) (mp := p) (m2 := C) (op := p) (o1 := R) (o2 := C) (by rw [rowsM_length]; exact hR) hC (rowsM_ok hv) (C - 0) k 0 1 rfl (by omega) (by omega) (by omega) (by omega) (fun _ => rfl)
  refine ⟨ds, a1, a2, a3, ?_⟩
  unfold spec_l03Reduced.f spec_l00Own.f
  simp only [Option.bind_some, List.nil_append, List.length_nil]
  rw [if_pos (by omega), Option.bind_some]
  rw [rowsM_length] at a4
  rw [← a4]
  show _ = spec_l03Reduced.l0 k p C [] 1 0 0 p R C l p R C (tab R C (cell (rowsM R C l)))
  rw [rowsM_tab hl]
theorem l04Rows_loop {p q : Int} {n : Nat} (hn : n ≤ 70) {rs : List (List Int)} (hok : RowsOk q n rs) (hm : rs.length ≤ 1048576) (R : Int) (d : Nat) : ∀ (k i : Nat), rs.length - i = d → i ≤ rs.length → d < k →
    spec_l04Rows.l0 k rs i p R n (rs.take i).flatten = some (p, R, (n : Int), rs.flatten) := by
  induction d with
  | zero =>
    intro k i hd hi hk
    obtain ⟨k, rfl⟩ : ∃ m, k = m + 1 := ⟨k - 1, by omega⟩
    simp only [spec_l04Rows.l0]
    rw [if_neg (by omega), List.take_of_length_le (by omega)]
  | succ d ih =>
    intro k i hd hi hk
    obtain ⟨k, rfl⟩ : ∃ m, k = m + 1 := ⟨k - 1, by omega⟩
    have hlt : i < rs.length := by omega
    have hw := (hok _ (row_mem hlt)).1
    have hl : (rs.take i).flatten.length ≤ 1048576 * 70 := by
      rw [flatten_tab hok i hi, tab_length]; exact Nat.mul_le_mul (by omega) hn
    simp only [spec_l04Rows.l0]
    rw [if_pos (by omega), if_pos (by omega), rdS_nat, if_pos (by omega), w64_succ (n := rs.length) hlt (by omega), ← take_flatten_succ rs hlt]
    exact ih k (i + 1) (by omega) (by omega) (by omega)
theorem l04Rows_tells {p q : Int} {n : Nat} (hn : n ≤ 70) {rs : List (List Int)} (hok : RowsOk q n rs) (hm : rs.length ≤ 1048576) {k : Nat} (hk : 1048577 ≤ k) : spec_l04Rows.f k p n rs = some (p, (rs.length : Int), (n : Int), rs.flatten) := by
  unfold spec_l04Rows.f
  exact l04Rows_loop hn hok hm _ rs.length k 0 (by omega) (by omega) (by omega)
theorem rowsM_self {p : Int} {C : Nat} {rs : List (List Int)} (hok : RowsOk p C rs) : rowsM rs.length C rs.flatten = rs := by
  rw [flatten_rows hok]
  refine ext_rows (by rw [rowsM_length]) (fun j hj => ?_)
  rw [rowsM_length] at hj
  have h := row_of_tab hok hj
  rw [slice_row (tab_length _ _ _) hj] at h
  rw [← h]
  generalize tab rs.length C (cell rs) = l
  unfold rowsM
  simp [List.getD_eq_getElem?_getD, hj]
theorem basis_loop {p q : Int} {n : Nat} (hn : n ≤ 70) {Q : List (List Int)} (hok : RowsOk q n Q) (hm : Q.length ≤ 1048576) {piv : List Int} (hpv : piv.length ≤ Q.length) (R C : Int) (d : Nat) : ∀ (k i : Nat), piv.length - i = d → i ≤ piv.length → d < k →
    spec_l04Basis.l0 k n piv (Q.take i) i p R C (tab Q.length n (cell Q)) = some (Q.take piv.length) := by
  induction d with
  | zero =>
    intro k i hd hi hk
    obtain ⟨k, rfl⟩ : ∃ m, k = m + 1 := ⟨k - 1, by omega⟩
    obtain rfl : i = piv.length := by omega
    simp only [spec_l04Basis.l0]
    rw [if_neg (by omega)]
  | succ d ih =>
    intro k i hd hi hk
    obtain ⟨k, rfl⟩ : ∃ m, k = m + 1 := ⟨k - 1, by omega⟩
    have hlt : i < Q.length := by omega
    have m1 : i * n ≤ 1048576 * 70 := Nat.mul_le_mul (by omega) hn
    have m2 : (i + 1) * n ≤ 1048576 * 70 := Nat.mul_le_mul (by omega) hn
    have m3 : (i + 1) * n ≤ Q.length * n := Nat.mul_le_mul_right _ hlt
    have m4 : i * n ≤ (i + 1) * n := Nat.mul_le_mul_right _ (by omega)
    have hw := (hok _ (row_mem hlt)).1
    have q0 : (i : Int) < (piv.length : Int) := by omega
    have q1 : (0 : Int) ≤ ((i * n : Nat) : Int) := Int.natCast_nonneg _
    have q2 : ((i * n : Nat) : Int) ≤ (((i + 1) * n : Nat) : Int) := Int.ofNat_le.mpr m4
    have q3 : (((i + 1) * n : Nat) : Int) ≤ ((tab Q.length n (cell Q)).length : Int) := by rw [tab_length]; exact Int.ofNat_le.mpr m3
    have q4 : 0 + (Q.getD i []).length < 17592186044416 := by omega
    have q5 : (Q.take i).length < 5864062014805 := by rw [List.length_take]; omega
    have b1 : -9223372036854775808 ≤ ((i * n : Nat) : Int) ∧ ((i * n : Nat) : Int) ≤ 9223372036854775807 := by omega
    have b2 : -9223372036854775808 ≤ (((i + 1) * n : Nat) : Int) ∧ (((i + 1) * n : Nat) : Int) ≤ 9223372036854775807 := by omega
    have ih2 := ih k (i + 1) (by omega) (by omega) (by omega)
    have es := w64_succ (n := piv.length) (i := i) (by omega) (by omega)
    have e1 : wrap64 ((i : Int) * (n : Int)) = ((i * n : Nat) : Int) := by rw [← Int.natCast_mul]; exact w64_idV b1.1 b1.2
    have e2 : wrap64 (((i + 1 : Nat) : Int) * (n : Int)) = (((i + 1) * n : Nat) : Int) := by rw [← Int.natCast_mul]; exact w64_idV b2.1 b2.2
    simp only [spec_l04Basis.l0]
    unfold spec_l00Own.f
    rw [if_pos q0, es, e1, e2, if_pos q1, if_pos q2, if_pos q3, Int.toNat_natCast, Int.toNat_natCast, row_of_tab hok hlt]
    simp only [Option.bind_some, List.nil_append, List.length_nil]
    rw [if_pos q4, Option.bind_some, if_pos q5]
    have e : Q.take i ++ [Q.getD i []] = Q.take (i + 1) := by rw [List.take_add_one, List.getElem?_eq_getElem hlt, getD_at hlt]; rfl
    rw [e]
    exact ih2
theorem basisS_tells {p : Int} (hp : isP p = true) {n : Nat} (hn : n ≤ 70) {rs : List (List Int)} (hok : RowsOk p n rs) (hm : rs.length ≤ 64) {k : Nat} (hk : 1048577 ≤ k) : spec_l04Basis.f k p n rs = some (basisOf p n rs) := by
  have hp2 := (isP_ge hp).1
  obtain ⟨t1, t2, t3, t4, _, _⟩ := elimTo_small hp hok n (Nat.le_refl _)
  have hl : rs.flatten.length = rs.length * n := by rw [flatten_rows hok, tab_length]
  have hv : ∀ j, 0 ≤ rs.flatten.getD j 0 ∧ rs.flatten.getD j 0 < p := fun j => by
    by_cases hj : j < rs.flatten.length
    · obtain ⟨r, hr, hx⟩ := List.mem_flatten.mp (getD_mem (d := 0) hj)
      exact (hok r hr).2 _ hx
    · rw [List.getD_eq_getElem?_getD, List.getElem?_eq_none (by omega)]; simp; omega
  obtain ⟨ds, _, _, _, h⟩ := specElim_tells hp hm hn hl hv (k := k) (by omega)
  rw [rowsM_self hok] at h
  unfold spec_l04Basis.f
  rw [l04Rows_tells hn hok (by omega) hk, Option.bind_some]
  show Option.bind (spec_l03Reduced.f k p (rs.length : Int) (n : Int) rs.flatten) _ = _
  rw [h, Option.bind_some]
  have e1 : (elim p n rs).1.length = rs.length := t2
  have e2 : (elim p n rs).2.1.length ≤ rs.length := t4
  have e3 : RowsOk p n (elim p n rs).1 := t1
  have b := basis_loop (p := p) hn (q := p) (Q := (elim p n rs).1) e3 (by omega) (piv := (elim p n rs).2.1) (by omega) (rs.length : Int) (n : Int) (elim p n rs).2.1.length k 0 (by omega) (by omega) (by omega)
  rw [e1] at b
  exact b
end Go.Proofs.Ytmbbjmkcbpefhaa.F
end

section
set_option linter.unusedVariables false
set_option linter.unusedSimpArgs false
set_option linter.unusedSectionVars false
namespace Go.Proofs.Ytmbbjmkcbpefhaa.Lin
def sm {p : Nat} [NeZero p] (n : Nat) (f : Nat → Fin p) : Fin p := match n with | 0 => 0 | n+1 => sm n f + f n
section
variable {p : Nat} [NeZero p]
theorem sm_congr {n : Nat} {f g : Nat → Fin p} (h : ∀ i, i < n → f i = g i) : sm n f = sm n g := by
  induction n with
  | zero => rfl
  | succ n ih =>
    simp only [sm]
    rw [ih (fun i hi => h i (by omega)), h n (by omega)]
theorem sm_zero {n : Nat} {f : Nat → Fin p} (h : ∀ i, i < n → f i = 0) : sm n f = 0 := by
  induction n with
  | zero => rfl
  | succ n ih =>
    simp only [sm]
    rw [ih (fun i hi => h i (by omega)), h n (by omega)]
    grind
theorem sm_add (n : Nat) (f g : Nat → Fin p) : sm n (fun i => f i + g i) = sm n f + sm n g := by
  induction n with
  | zero => simp [sm]
  | succ n ih => simp only [sm, ih]; grind
theorem sm_mul (n : Nat) (f : Nat → Fin p) (c : Fin p) : sm n (fun i => c * f i) = c * sm n f := by
  induction n with
  | zero => simp only [sm]; grind
  | succ n ih => simp only [sm, ih]; grind
theorem sm_mul_r (n : Nat) (f : Nat → Fin p) (c : Fin p) : sm n (fun i => f i * c) = sm n f * c := by
  induction n with
  | zero => simp only [sm]; grind
  | succ n ih => simp only [sm, ih]; grind
theorem sm_comm (n m : Nat) (f : Nat → Nat → Fin p) : sm n (fun i => sm m (fun j => f i j)) = sm m (fun j => sm n (fun i => f i j)) := by
  induction n with
  | zero => simp only [sm]; exact (sm_zero (fun _ _ => rfl)).symm
  | succ n ih => simp only [sm, ih]; rw [← sm_add]
theorem sm_one {n : Nat} {f : Nat → Fin p} (k : Nat) (hk : k < n) (h : ∀ i, i < n → i ≠ k → f i = 0) : sm n f = f k := by
  induction n with
  | zero => omega
  | succ n ih =>
    simp only [sm]
    by_cases e : k = n
    · subst e
      rw [sm_zero (fun i hi => h i (by omega) (by omega))]; grind
    · rw [ih (by omega) (fun i hi hne => h i (by omega) hne), h n (by omega) (by omega)]; grind
theorem sm_cut {n r : Nat} {f : Nat → Fin p} (hr : r ≤ n) (h : ∀ i, r ≤ i → i < n → f i = 0) : sm n f = sm r f := by
  induction n with
  | zero => obtain rfl : r = 0 := by omega
            rfl
  | succ n ih =>
    by_cases e : r = n + 1
    · rw [e]
    · simp only [sm]
      rw [ih (by omega) (fun i h1 h2 => h i h1 (by omega)), h n (by omega) (by omega)]; grind
def skip (k i : Nat) : Nat := if i < k then i else i + 1
theorem sm_skip {n : Nat} {f : Nat → Fin p} (k : Nat) (hk : k < n + 1) : sm (n + 1) f = f k + sm n (fun i => f (skip k i)) := by
  induction n with
  | zero => obtain rfl : k = 0 := by omega
            simp only [sm]; grind
  | succ n ih =>
    by_cases e : k = n + 1
    · subst e
      have h : sm (n + 1) (fun i => f (skip (n + 1) i)) = sm (n + 1) f := sm_congr (fun i hi => by unfold skip; rw [if_pos hi])
      rw [h]
      show sm (n + 1) f + f (n + 1) = _
      grind
    · have h1 : sm (n + 1 + 1) f = sm (n + 1) f + f (n + 1) := rfl
      have h2 : sm (n + 1) (fun i => f (skip k i)) = sm n (fun i => f (skip k i)) + f (skip k n) := rfl
      rw [h1, h2, ih (by omega)]
      have h3 : skip k n = n + 1 := by unfold skip; rw [if_neg (by omega)]
      rw [h3]; grind
/-! ### Spans -/
def Sp (n m : Nat) (A : Nat → Nat → Fin p) (v : Nat → Fin p) : Prop := ∃ c : Nat → Fin p, ∀ j, j < n → v j = sm m (fun i => c i * A i j)
theorem Sp.row {n m : Nat} {A : Nat → Nat → Fin p} {i : Nat} (hi : i < m) : Sp n m A (A i) :=
  ⟨fun k => if k = i then 1 else 0, fun j _ => by
    rw [sm_one i hi (fun k _ hk => by dsimp only; rw [if_neg hk]; grind)]; dsimp only; rw [if_pos rfl]; grind⟩
theorem Sp.trans {n m m' : Nat} {A B : Nat → Nat → Fin p} {v : Nat → Fin p} (h : Sp n m A v) (hB : ∀ i, i < m → Sp n m' B (A i)) : Sp n m' B v := by
  obtain ⟨c, hc⟩ := h
  have : ∀ i, ∃ d : Nat → Fin p, i < m → ∀ j, j < n → A i j = sm m' (fun k => d k * B k j) := fun i => by
    by_cases hi : i < m
    · obtain ⟨d, hd⟩ := hB i hi
      exact ⟨d, fun _ => hd⟩
    · exact ⟨fun _ => 0, fun h => absurd h hi⟩
  obtain ⟨d, hd⟩ := Classical.axiomOfChoice this
  refine ⟨fun k => sm m (fun i => c i * d i k), fun j hj => ?_⟩
  rw [hc j hj]
  have e1 : sm m (fun i => c i * A i j) = sm m (fun i => sm m' (fun k => c i * (d i k * B k j))) := sm_congr (fun i hi => by rw [hd i hi j hj, sm_mul])
  rw [e1, sm_comm]
  exact sm_congr (fun k _ => by rw [← sm_mul_r]; exact sm_congr (fun i _ => by grind))
theorem Sp.congr {n m : Nat} {A : Nat → Nat → Fin p} {v u : Nat → Fin p} (h : Sp n m A v) (e : ∀ j, j < n → u j = v j) : Sp n m A u := by
  obtain ⟨c, hc⟩ := h
  exact ⟨c, fun j hj => by rw [e j hj]; exact hc j hj⟩
theorem Sp.zero {n m : Nat} {A : Nat → Nat → Fin p} {v : Nat → Fin p} (h : ∀ j, j < n → v j = 0) : Sp n m A v :=
  ⟨fun _ => 0, fun j hj => by rw [h j hj, sm_zero (fun i _ => by grind)]⟩
theorem Sp.add {n m : Nat} {A : Nat → Nat → Fin p} {v u : Nat → Fin p} (h : Sp n m A v) (k : Sp n m A u) : Sp n m A (fun j => v j + u j) := by
  obtain ⟨c, hc⟩ := h
  obtain ⟨d, hd⟩ := k
  refine ⟨fun i => c i + d i, fun j hj => ?_⟩
  show v j + u j = _
  rw [hc j hj, hd j hj, ← sm_add]
  exact sm_congr (fun i _ => by grind)
theorem Sp.mul {n m : Nat} {A : Nat → Nat → Fin p} {v : Nat → Fin p} (a : Fin p) (h : Sp n m A v) : Sp n m A (fun j => a * v j) := by
  obtain ⟨c, hc⟩ := h
  refine ⟨fun i => a * c i, fun j hj => ?_⟩
  show a * v j = _
  rw [hc j hj, ← sm_mul]
  exact sm_congr (fun i _ => by grind)
/-! ### Reduced forms -/
structure Rref (n m : Nat) (A : Nat → Nat → Fin p) (r : Nat) (P : Nat → Nat) : Prop where
  le : r ≤ m
  lt : ∀ i, i < r → P i < n
  inc : ∀ i k, i < k → k < r → P i < P k
  one : ∀ i, i < r → A i (P i) = 1
  col : ∀ i k, i < r → k < m → k ≠ i → A k (P i) = 0
  before : ∀ i j, i < r → j < P i → A i j = 0
  rest : ∀ i j, r ≤ i → i < m → j < n → A i j = 0
theorem Rref.coeff {n m r : Nat} {A : Nat → Nat → Fin p} {P : Nat → Nat} (h : Rref n m A r P) {v c : Nat → Fin p} (hc : ∀ j, j < n → v j = sm m (fun i => c i * A i j)) {i : Nat} (hi : i < r) : v (P i) = c i := by
  rw [hc _ (h.lt i hi), sm_one i (by have := h.le; omega) (fun k hk hne => by rw [h.col i k hi hk hne]; grind), h.one i hi]; grind
theorem Rref.as_sum {n m r : Nat} {A : Nat → Nat → Fin p} {P : Nat → Nat} (h : Rref n m A r P) {v : Nat → Fin p} (hv : Sp n m A v) (j : Nat) (hj : j < n) : v j = sm r (fun i => v (P i) * A i j) := by
  obtain ⟨c, hc⟩ := hv
  rw [hc j hj, sm_cut h.le (fun i h1 h2 => by rw [h.rest i j h1 h2 hj]; grind)]
  exact sm_congr (fun i hi => by rw [h.coeff hc hi])
theorem Rref.lead {n m r : Nat} {A : Nat → Nat → Fin p} {P : Nat → Nat} (h : Rref n m A r P) {v : Nat → Fin p} (hv : Sp n m A v) {k : Nat} (hk : k < n) (h0 : ∀ j, j < k → v j = 0) (h1 : v k ≠ 0) : ∃ i, i < r ∧ P i = k := by
  by_cases hx : ∃ i, i < r ∧ P i = k
  · exact hx
  · exfalso
    apply h1
    rw [h.as_sum hv k hk]
    refine sm_zero (fun i hi => ?_)
    rcases Nat.lt_trichotomy (P i) k with hlt | heq | hgt
    · rw [h0 _ hlt]; grind
    · exact absurd ⟨i, hi, heq⟩ hx
    · rw [h.before i k hi hgt]; grind
theorem same_places {r s : Nat} {P Q : Nat → Nat} (hP : ∀ i k, i < k → k < r → P i < P k) (hQ : ∀ i k, i < k → k < s → Q i < Q k) (h : ∀ i, i < r → ∃ k, k < s ∧ Q k = P i) (h' : ∀ i, i < s → ∃ k, k < r ∧ P k = Q i) : ∀ i, i < r → i < s ∧ P i = Q i := by
  intro i
  induction i using Nat.strongRecOn with
  | _ i ih =>
    intro hi
    obtain ⟨k, hk, e⟩ := h i hi
    rcases Nat.lt_trichotomy k i with hlt | heq | hgt
    · have h2 := (ih k hlt (by omega)).2
      have h3 := hP k i hlt hi
      omega
    · subst heq; exact ⟨hk, e.symm⟩
    · obtain ⟨q, hq, e2⟩ := h' i (by omega)
      have h3 := hQ i k hgt hk
      have h4 : q < i := by
        rcases Nat.lt_or_ge q i with h | h
        · exact h
        · rcases Nat.eq_or_lt_of_le h with h | h
          · subst h; omega
          · have := hP i q h hq; omega
      have h5 := (ih q h4 hq).2
      have h6 := hQ q i h4 (by omega)
      omega
theorem Rref.begins {n m r : Nat} {A : Nat → Nat → Fin p} {P : Nat → Nat} (h : Rref n m A r P) (h10 : (1 : Fin p) ≠ 0) (i : Nat) (hi : i < r) : A i (P i) ≠ 0 := by rw [h.one i hi]; exact h10
theorem Rref.unique {n m m' r s : Nat} {A B : Nat → Nat → Fin p} {P Q : Nat → Nat} (h10 : (1 : Fin p) ≠ 0) (h : Rref n m A r P) (k : Rref n m' B s Q) (hAB : ∀ i, i < m → Sp n m' B (A i)) (hBA : ∀ i, i < m' → Sp n m A (B i)) :
    r = s ∧ (∀ i, i < r → P i = Q i) ∧ ∀ i j, i < r → j < n → A i j = B i j := by
  have e1 := same_places h.inc k.inc (fun i hi => k.lead (hAB i (by have := h.le; omega)) (h.lt i hi) (fun j hj => h.before i j hi hj) (h.begins h10 i hi)) (fun i hi => h.lead (hBA i (by have := k.le; omega)) (k.lt i hi) (fun j hj => k.before i j hi hj) (k.begins h10 i hi))
  have e2 := same_places k.inc h.inc (fun i hi => h.lead (hBA i (by have := k.le; omega)) (k.lt i hi) (fun j hj => k.before i j hi hj) (k.begins h10 i hi)) (fun i hi => k.lead (hAB i (by have := h.le; omega)) (h.lt i hi) (fun j hj => h.before i j hi hj) (h.begins h10 i hi))
  have hrs : r = s := by
    rcases Nat.lt_trichotomy r s with hlt | heq | hgt
    · have := (e2 r hlt).1; omega
    · exact heq
    · have := (e1 s hgt).1; omega
  subst hrs
  refine ⟨rfl, fun i hi => (e1 i hi).2, fun i j hi hj => ?_⟩
  rw [k.as_sum (hAB i (by have := h.le; omega)) j hj]
  rw [sm_one i hi (fun q hq hne => by rw [← (e1 q hq).2, h.col q i hq (by have := h.le; omega) (by omega)]; grind), ← (e1 i hi).2, h.one i hi]; grind
theorem Rref.pivots_sub {n m m' r s : Nat} {A B : Nat → Nat → Fin p} {P Q : Nat → Nat} (h10 : (1 : Fin p) ≠ 0) (h : Rref n m A r P) (k : Rref n m' B s Q) (hAB : ∀ i, i < m → Sp n m' B (A i)) (i : Nat) (hi : i < r) : ∃ q, q < s ∧ Q q = P i :=
  k.lead (hAB i (by have := h.le; omega)) (h.lt i hi) (fun j hj => h.before i j hi hj) (h.begins h10 i hi)
/-! ### More unknowns than equations -/
end
section
variable {p : Nat} [NeZero p]
theorem skip_ne' (k i : Nat) : skip k i ≠ k := by unfold skip; split <;> omega
theorem sm_two {n : Nat} {f : Nat → Fin p} (a b : Nat) (ha : a < n) (hb : b < n) (hab : a ≠ b) (h : ∀ i, i < n → i ≠ a → i ≠ b → f i = 0) : sm n f = f a + f b := by
  obtain ⟨n, rfl⟩ : ∃ q, n = q + 1 := ⟨n - 1, by omega⟩
  rw [sm_skip a ha]
  congr 1
  have hb' : ∃ b', b' < n ∧ skip a b' = b := by
    rcases Nat.lt_or_ge b a with h | h
    · exact ⟨b, by omega, by unfold skip; rw [if_pos h]⟩
    · exact ⟨b - 1, by omega, by unfold skip; rw [if_neg (by omega)]; omega⟩
  obtain ⟨b', hb1, hb2⟩ := hb'
  rw [sm_one b' hb1 (fun i hi hne => h _ (by unfold skip; split <;> omega) (skip_ne' a i) (by
    intro e
    apply hne
    unfold skip at e hb2
    split at e <;> split at hb2 <;> omega)), hb2]
def sgn (i : Nat) : Fin p := if i % 2 = 0 then 1 else -1
theorem sgn_succ (i : Nat) : (sgn (i + 1) : Fin p) = - sgn i := by
  unfold sgn
  by_cases h : i % 2 = 0
  · rw [if_pos h, if_neg (by omega)]
  · rw [if_neg h, if_pos (by omega)]; grind
def det : Nat → (Nat → Nat → Fin p) → Fin p
  | 0, _ => 1
  | n + 1, M => sm (n + 1) (fun i => sgn i * M i 0 * det n (fun a b => M (skip i a) (b + 1)))
theorem det_congr {n : Nat} : ∀ {M N : Nat → Nat → Fin p}, (∀ i j, i < n → j < n → M i j = N i j) → det n M = det n N := by
  induction n with
  | zero => intro M N _; rfl
  | succ n ih =>
    intro M N h
    simp only [det]
    refine sm_congr (fun i hi => ?_)
    rw [h i 0 hi (by omega), ih (fun a b ha hb => h _ _ (by unfold skip; split <;> omega) (by omega))]
theorem det_linear {n : Nat} : ∀ {L M N : Nat → Nat → Fin p} (k : Nat) (x y : Fin p), k < n → (∀ i j, i ≠ k → L i j = M i j) → (∀ i j, i ≠ k → L i j = N i j) → (∀ j, L k j = x * M k j + y * N k j) → det n L = x * det n M + y * det n N := by
  induction n with
  | zero => intro L M N k x y hk; omega
  | succ n ih =>
    intro L M N k x y hk hM hN hL
    simp only [det]
    rw [← sm_mul, ← sm_mul, ← sm_add]
    refine sm_congr (fun i hi => ?_)
    by_cases e : i = k
    · subst e
      have e1 : det n (fun a b => L (skip i a) (b + 1)) = det n (fun a b => M (skip i a) (b + 1)) := det_congr (fun a b _ _ => hM _ _ (skip_ne' i a))
      have e2 : det n (fun a b => N (skip i a) (b + 1)) = det n (fun a b => M (skip i a) (b + 1)) := det_congr (fun a b _ _ => by rw [← hN _ _ (skip_ne' i a), hM _ _ (skip_ne' i a)])
      rw [e1, e2, hL]; grind
    · have hk' : ∃ k', k' < n ∧ skip i k' = k := by
        rcases Nat.lt_or_ge k i with h | h
        · exact ⟨k, by omega, by unfold skip; rw [if_pos h]⟩
        · exact ⟨k - 1, by omega, by unfold skip; rw [if_neg (by omega)]; omega⟩
      obtain ⟨k', h1, h2⟩ := hk'
      have hne : ∀ a, a ≠ k' → skip i a ≠ k := fun a ha e => by
        apply ha
        unfold skip at e h2
        split at e <;> split at h2 <;> omega
      rw [ih (L := fun a b => L (skip i a) (b + 1)) (M := fun a b => M (skip i a) (b + 1)) (N := fun a b => N (skip i a) (b + 1)) k' x y h1 (fun a b ha => hM _ _ (hne a ha)) (fun a b ha => hN _ _ (hne a ha)) (fun b => by rw [h2]; exact hL _)]
      rw [hM i 0 e, ← hN i 0 e, hM i 0 e]; grind
theorem det_adjacent {n : Nat} : ∀ {M : Nat → Nat → Fin p} (k : Nat), k + 1 < n → (∀ j, M k j = M (k + 1) j) → det n M = 0 := by
  induction n with
  | zero => intro M k hk; omega
  | succ n ih =>
    intro M k hk h
    simp only [det]
    rw [sm_two k (k + 1) (by omega) hk (by omega) (fun i hi h1 h2 => ?_)]
    · have e1 : det n (fun a b => M (skip (k + 1) a) (b + 1)) = det n (fun a b => M (skip k a) (b + 1)) := det_congr (fun a b _ _ => by
        unfold skip
        rcases Nat.lt_trichotomy a k with hlt | heq | hgt
        · rw [if_pos (by omega), if_pos hlt]
        · subst heq
          rw [if_pos (by omega), if_neg (by omega)]; exact h _
        · rw [if_neg (by omega), if_neg (by omega)])
      rw [e1, sgn_succ, ← h 0]; grind
    · rcases Nat.lt_or_ge i k with hlt | hge
      · rw [ih (M := fun a b => M (skip i a) (b + 1)) (k - 1) (by omega) (fun j => by
          unfold skip
          rw [if_neg (by omega), if_neg (by omega), show k - 1 + 1 = k by omega]; exact h _)]; grind
      · rw [ih (M := fun a b => M (skip i a) (b + 1)) k (by omega) (fun j => by
          unfold skip
          rw [if_pos (by omega), if_pos (by omega)]; exact h _)]; grind
def setRow (M : Nat → Nat → Fin p) (k : Nat) (v : Nat → Fin p) : Nat → Nat → Fin p := fun i j => if i = k then v j else M i j
omit [NeZero p] in
theorem setRow_at (M : Nat → Nat → Fin p) (k : Nat) (v : Nat → Fin p) (j : Nat) : setRow M k v k j = v j := by unfold setRow; rw [if_pos rfl]
omit [NeZero p] in
theorem setRow_ne (M : Nat → Nat → Fin p) {k i : Nat} (v : Nat → Fin p) (j : Nat) (h : i ≠ k) : setRow M k v i j = M i j := by unfold setRow; rw [if_neg h]
def swapRow (M : Nat → Nat → Fin p) (a b : Nat) : Nat → Nat → Fin p := fun i j => if i = a then M b j else if i = b then M a j else M i j
theorem det_swap_of {n : Nat} {a b : Nat} (ha : a < n) (hb : b < n) (hab : a ≠ b) (H : ∀ M : Nat → Nat → Fin p, (∀ j, M a j = M b j) → det n M = 0) (M : Nat → Nat → Fin p) : det n (swapRow M a b) = - det n M := by
  let u := M a
  let v := M b
  let X : (Nat → Fin p) → (Nat → Fin p) → Nat → Nat → Fin p := fun s t => setRow (setRow M a s) b t
  have hXa : ∀ s t j, X s t a j = s j := fun s t j => by show setRow _ _ _ _ _ = _; rw [setRow_ne _ _ _ hab, setRow_at]
  have hXb : ∀ s t j, X s t b j = t j := fun s t j => setRow_at _ _ _ _
  have hXo : ∀ s t i j, i ≠ a → i ≠ b → X s t i j = M i j := fun s t i j h1 h2 => by show setRow _ _ _ _ _ = _; rw [setRow_ne _ _ _ h2, setRow_ne _ _ _ h1]
  have z : ∀ s, det n (X s s) = 0 := fun s => H _ (fun j => by rw [hXa, hXb])
  have l1 : ∀ s s' t, det n (X (fun j => s j + s' j) t) = det n (X s t) + det n (X s' t) := fun s s' t => by
    rw [det_linear (L := X (fun j => s j + s' j) t) (M := X s t) (N := X s' t) a 1 1 ha ?_ ?_ ?_]
    · grind
    · intro i j hi
      by_cases e : i = b
      · subst e; rw [hXb, hXb]
      · rw [hXo _ _ _ _ hi e, hXo _ _ _ _ hi e]
    · intro i j hi
      by_cases e : i = b
      · subst e; rw [hXb, hXb]
      · rw [hXo _ _ _ _ hi e, hXo _ _ _ _ hi e]
    · intro j; rw [hXa, hXa, hXa]; grind
  have l2 : ∀ s t t', det n (X s (fun j => t j + t' j)) = det n (X s t) + det n (X s t') := fun s t t' => by
    rw [det_linear (L := X s (fun j => t j + t' j)) (M := X s t) (N := X s t') b 1 1 hb ?_ ?_ ?_]
    · grind
    · intro i j hi
      by_cases e : i = a
      · subst e; rw [hXa, hXa]
      · rw [hXo _ _ _ _ e hi, hXo _ _ _ _ e hi]
    · intro i j hi
      by_cases e : i = a
      · subst e; rw [hXa, hXa]
      · rw [hXo _ _ _ _ e hi, hXo _ _ _ _ e hi]
    · intro j; rw [hXb, hXb, hXb]; grind
  have h0 := z (fun j => u j + v j)
  rw [l1, l2, l2, z, z] at h0
  have e1 : det n (X u v) = det n M := det_congr (fun i j _ _ => by
    by_cases e : i = a
    · subst e; rw [hXa]
    · by_cases e2 : i = b
      · subst e2; rw [hXb]
      · rw [hXo _ _ _ _ e e2])
  have e2 : det n (X v u) = det n (swapRow M a b) := det_congr (fun i j _ _ => by
    unfold swapRow
    by_cases e : i = a
    · subst e; rw [hXa, if_pos rfl]
    · by_cases e2 : i = b
      · subst e2; rw [hXb, if_neg e, if_pos rfl]
      · rw [hXo _ _ _ _ e e2, if_neg e, if_neg e2])
  rw [e1, e2] at h0
  grind
theorem det_equal_rows {n : Nat} (d : Nat) : ∀ {M : Nat → Nat → Fin p} (a : Nat), a + d + 1 < n → (∀ j, M a j = M (a + d + 1) j) → det n M = 0 := by
  induction d with
  | zero => exact fun a h e => det_adjacent a h e
  | succ d ih =>
    intro M a h e
    have h1 := det_swap_of (a := a + d + 1) (b := a + d + 2) (n := n) (by omega) (by omega) (by omega) (fun N hN => det_adjacent (a + d + 1) (by omega) hN) M
    have h2 : det n (swapRow M (a + d + 1) (a + d + 2)) = 0 := ih a (by omega) (fun j => by
      unfold swapRow
      rw [if_neg (by omega), if_neg (by omega), if_pos rfl]; exact e j)
    rw [h2] at h1
    grind
theorem det_equal {n : Nat} {M : Nat → Nat → Fin p} {a b : Nat} (ha : a < n) (hb : b < n) (hab : a ≠ b) (h : ∀ j, M a j = M b j) : det n M = 0 := by
  rcases Nat.lt_or_gt_of_ne hab with hlt | hgt
  · exact det_equal_rows (b - a - 1) a (by omega) (fun j => by rw [show a + (b - a - 1) + 1 = b by omega]; exact h j)
  · exact det_equal_rows (a - b - 1) b (by omega) (fun j => by rw [show b + (a - b - 1) + 1 = a by omega]; exact (h j).symm)
theorem det_swap {n : Nat} {a b : Nat} (ha : a < n) (hb : b < n) (hab : a ≠ b) (M : Nat → Nat → Fin p) : det n (swapRow M a b) = - det n M := det_swap_of ha hb hab (fun _ h => det_equal ha hb hab h) M
theorem det_scale {n : Nat} {k : Nat} (hk : k < n) (x : Fin p) (M : Nat → Nat → Fin p) : det n (setRow M k (fun j => x * M k j)) = x * det n M := by
  rw [det_linear (M := M) (N := M) k x 0 hk (fun i j h => setRow_ne _ _ _ h) (fun i j h => setRow_ne _ _ _ h) (fun j => by rw [setRow_at]; grind)]; grind
theorem det_add {n : Nat} {k t : Nat} (hk : k < n) (ht : t < n) (hkt : k ≠ t) (x : Fin p) (M : Nat → Nat → Fin p) : det n (setRow M k (fun j => M k j + x * M t j)) = det n M := by
  rw [det_linear (M := M) (N := setRow M k (M t)) k 1 x hk (fun i j h => setRow_ne _ _ _ h) (fun i j h => by rw [setRow_ne _ _ _ h, setRow_ne _ _ _ h]) (fun j => by rw [setRow_at, setRow_at]; grind),
    det_equal (M := setRow M k (M t)) hk ht hkt (fun j => by rw [setRow_at, setRow_ne _ _ _ (Ne.symm hkt)])]; grind
def idM : Nat → Nat → Fin p := fun i j => if i = j then 1 else 0
/-! ### Products -/
def mulM (n : Nat) (A N : Nat → Nat → Fin p) : Nat → Nat → Fin p := fun i j => sm n (fun k => A i k * N k j)
theorem mulM_id_right {n : Nat} (A : Nat → Nat → Fin p) {i j : Nat} (hj : j < n) : mulM n A idM i j = A i j := by
  unfold mulM
  rw [sm_one j hj (fun k _ hk => by unfold idM; rw [if_neg hk]; grind)]
  unfold idM; rw [if_pos rfl]; grind
def Ops (n : Nat) (A B : Nat → Nat → Fin p) (d : Fin p) : Prop := ∀ N, det n (mulM n A N) = d * det n (mulM n B N)
theorem Ops.refl (n : Nat) (A : Nat → Nat → Fin p) : Ops n A A 1 := fun N => by grind
theorem Ops.trans {n : Nat} {A B C : Nat → Nat → Fin p} {d e : Fin p} (h : Ops n A B d) (k : Ops n B C e) : Ops n A C (d * e) := fun N => by rw [h N, k N]; grind
theorem Ops.congr {n : Nat} {A B C : Nat → Nat → Fin p} {d : Fin p} (h : Ops n A B d) (e : ∀ i j, i < n → j < n → C i j = B i j) : Ops n A C d := fun N => by
  rw [h N]
  congr 1
  exact det_congr (fun i j hi _ => sm_congr (fun k hk => by rw [e i k hi hk]))
theorem Ops.swap {n : Nat} {a b : Nat} (ha : a < n) (hb : b < n) (hab : a ≠ b) (A : Nat → Nat → Fin p) : Ops n A (swapRow A a b) (-1) := fun N => by
  have e : det n (mulM n (swapRow A a b) N) = det n (swapRow (mulM n A N) a b) := det_congr (fun i j _ _ => by
    unfold mulM swapRow
    split
    · rfl
    · split
      · rfl
      · rfl)
  rw [e, det_swap ha hb hab]; grind
theorem mulM_setRow (n : Nat) (A N : Nat → Nat → Fin p) (k : Nat) (v : Nat → Fin p) (i j : Nat) : mulM n (setRow A k v) N i j = setRow (mulM n A N) k (fun j => sm n (fun q => v q * N q j)) i j := by
  by_cases e : i = k
  · subst e
    rw [setRow_at]
    exact sm_congr (fun q _ => by rw [setRow_at])
  · rw [setRow_ne _ _ _ e]
    exact sm_congr (fun q _ => by rw [setRow_ne _ _ _ e])
theorem Ops.scale {n : Nat} {k : Nat} (hk : k < n) (x y : Fin p) (hxy : x * y = 1) (A : Nat → Nat → Fin p) : Ops n A (setRow A k (fun j => y * A k j)) x := fun N => by
  have e : det n (mulM n (setRow A k (fun j => y * A k j)) N) = det n (setRow (mulM n A N) k (fun j => y * mulM n A N k j)) := det_congr (fun i j _ _ => by
    rw [mulM_setRow]
    have : (fun j => sm n (fun q => y * A k q * N q j)) = (fun j => y * mulM n A N k j) := funext fun j => by
      unfold mulM
      rw [← sm_mul]
      exact sm_congr (fun q _ => by grind)
    rw [this])
  rw [e, det_scale hk]
  have : x * (y * det n (mulM n A N)) = (x * y) * det n (mulM n A N) := by grind
  rw [this, hxy]; grind
theorem Ops.add {n : Nat} {k t : Nat} (hk : k < n) (ht : t < n) (hkt : k ≠ t) (x : Fin p) (A : Nat → Nat → Fin p) : Ops n A (setRow A k (fun j => A k j + x * A t j)) 1 := fun N => by
  have e : det n (mulM n (setRow A k (fun j => A k j + x * A t j)) N) = det n (setRow (mulM n A N) k (fun j => mulM n A N k j + x * mulM n A N t j)) := det_congr (fun i j _ _ => by
    rw [mulM_setRow]
    have : (fun j => sm n (fun q => (A k q + x * A t q) * N q j)) = (fun j => mulM n A N k j + x * mulM n A N t j) := funext fun j => by
      unfold mulM
      rw [← sm_mul, ← sm_add]
      exact sm_congr (fun q _ => by grind)
    rw [this])
  rw [e, det_add hk ht hkt]; grind
theorem Ops.det {n : Nat} {A B : Nat → Nat → Fin p} {d : Fin p} (h : Ops n A B d) : det n A = d * det n B := by
  have h1 := h idM
  rwa [det_congr (N := A) (fun i j _ hj => mulM_id_right A hj), det_congr (N := B) (fun i j _ hj => mulM_id_right B hj)] at h1
end
section
variable {p : Nat} [NeZero p]
/-! ### A step of the elimination -/
structure Part (n m c : Nat) (A : Nat → Nat → Fin p) (r : Nat) (P : Nat → Nat) : Prop where
  le : r ≤ m
  lt : ∀ i, i < r → P i < c
  inc : ∀ i k, i < k → k < r → P i < P k
  one : ∀ i, i < r → A i (P i) = 1
  col : ∀ i k, i < r → k < m → k ≠ i → A k (P i) = 0
  before : ∀ i j, i < r → j < P i → A i j = 0
  rest : ∀ i j, r ≤ i → i < m → j < c → A i j = 0
theorem Part.start (n m : Nat) (A : Nat → Nat → Fin p) (P : Nat → Nat) : Part n m 0 A 0 P :=
  ⟨Nat.zero_le _, fun i h => by omega, fun i k _ h => by omega, fun i h => by omega, fun i k h => by omega, fun i j h => by omega, fun i j _ _ h => by omega⟩
theorem Part.rref {n m r : Nat} {A : Nat → Nat → Fin p} {P : Nat → Nat} (h : Part n m n A r P) : Rref n m A r P := ⟨h.le, h.lt, h.inc, h.one, h.col, h.before, h.rest⟩
theorem Part.pass {n m c r : Nat} {A : Nat → Nat → Fin p} {P : Nat → Nat} (h : Part n m c A r P) (hz : ∀ i, r ≤ i → i < m → A i c = 0) : Part n m (c + 1) A r P :=
  ⟨h.le, fun i hi => by have := h.lt i hi; omega, h.inc, h.one, h.col, h.before, fun i j h1 h2 h3 => by
    by_cases e : j = c
    · subst e; exact hz i h1 h2
    · exact h.rest i j h1 h2 (by omega)⟩
structure Stepped (n m c r q : Nat) (u : Fin p) (A B : Nat → Nat → Fin p) : Prop where
  hr : r ≤ q
  hq : q < m
  hu : A q c * u = 1
  at_ : ∀ j, j < n → B r j = u * A q j
  other : ∀ i j, i < m → i ≠ r → j < n → B i j = (if i = q then A r j else A i j) + -(if i = q then A r c else A i c) * B r j
theorem Part.step {n m c r q : Nat} {u : Fin p} {A B : Nat → Nat → Fin p} {P : Nat → Nat} (h : Part n m c A r P) (hc : c < n) (s : Stepped n m c r q u A B) :
    Part n m (c + 1) B (r + 1) (fun i => if i = r then c else P i) := by
  have hrq := s.hr
  have hqm := s.hq
  have hBr : ∀ j, j < c → B r j = 0 := fun j hj => by rw [s.at_ j (by omega), h.rest q j s.hr s.hq hj]; grind
  have hBrc : B r c = 1 := by rw [s.at_ c hc, ← s.hu]; grind
  have hlow : ∀ i j, i < m → i ≠ r → j < c → B i j = if i = q then A r j else A i j := fun i j hi hne hj => by
    rw [s.other i j hi hne (by omega), hBr j hj]; grind
  refine ⟨by have := h.le; omega, fun i hi => ?_, fun i k h1 h2 => ?_, fun i hi => ?_, fun i k hi hk hne => ?_, fun i j hi hj => ?_, fun i j h1 h2 h3 => ?_⟩
  · split
    · omega
    · have := h.lt i (by omega); omega
  · rw [if_neg (show ¬ i = r by omega)]
    split
    · exact h.lt i (by omega)
    · exact h.inc i k h1 (by omega)
  · by_cases e : i = r
    · subst e; rw [if_pos rfl]; exact hBrc
    · rw [if_neg e, hlow i _ (by omega) e (h.lt i (by omega)), if_neg (by omega)]
      exact h.one i (by omega)
  · by_cases e : i = r
    · subst e
      rw [if_pos rfl, s.other k c hk hne hc, hBrc]; grind
    · rw [if_neg e]
      have hlt := h.lt i (by omega)
      by_cases e2 : k = r
      · subst e2; exact hBr _ hlt
      · rw [hlow k _ hk e2 hlt]
        split
        · exact h.col i r (by omega) (by omega) (by omega)
        · exact h.col i k (by omega) hk hne
  · by_cases e : i = r
    · subst e
      rw [if_pos rfl] at hj
      exact hBr j hj
    · rw [if_neg e] at hj
      have hlt := h.lt i (by omega)
      rw [hlow i j (by omega) e (by omega), if_neg (by omega)]
      exact h.before i j (by omega) hj
  · by_cases e : j = c
    · subst e
      rw [s.other i j h2 (by omega) hc, hBrc]; grind
    · rw [hlow i j h2 (by omega) (by omega)]
      split
      · exact h.rest r j (Nat.le_refl _) (by omega) (by omega)
      · exact h.rest i j (by omega) h2 (by omega)
theorem Stepped.span {n m c r q : Nat} {u : Fin p} {A B : Nat → Nat → Fin p} (s : Stepped n m c r q u A B) : (∀ i, i < m → Sp n m A (B i)) ∧ ∀ i, i < m → Sp n m B (A i) := by
  have hr := s.hr
  have hq := s.hq
  have spr : Sp n m A (B r) := ((Sp.row (A := A) hq).mul u).congr (fun j hj => s.at_ j hj)
  have f : ∀ i, i < m → Sp n m A (B i) := fun i hi => by
    by_cases e : i = r
    · subst e; exact spr
    · have h1 : Sp n m A (A (if i = q then r else i)) := Sp.row (by split <;> omega)
      refine (h1.add (spr.mul (-(if i = q then A r c else A i c)))).congr (fun j hj => ?_)
      rw [s.other i j hi e hj]
      split <;> rfl
  refine ⟨f, fun i hi => ?_⟩
  have hBr : Sp n m B (B r) := Sp.row (by omega)
  have hAq : Sp n m B (A q) := (hBr.mul (A q c)).congr (fun j hj => by
    rw [s.at_ j hj]
    have h1 := s.hu
    have : A q c * (u * A q j) = (A q c * u) * A q j := by grind
    rw [this, h1]; grind)
  by_cases e : i = q
  · subst e; exact hAq
  · by_cases e2 : i = r
    · subst e2
      have h1 : Sp n m B (B q) := Sp.row hq
      refine (h1.add (hBr.mul (A i c))).congr (fun j hj => ?_)
      rw [s.other q j hq (by omega) hj, if_pos rfl, if_pos rfl]; grind
    · have h1 : Sp n m B (B i) := Sp.row hi
      refine (h1.add (hBr.mul (A i c))).congr (fun j hj => ?_)
      rw [s.other i j hi e2 hj, if_neg e, if_neg e]; grind
theorem Ops.add_all {n t : Nat} (ht : t < n) (x : Nat → Fin p) (A : Nat → Nat → Fin p) (k : Nat) : k ≤ n → Ops n A (fun i j => if i < k ∧ i ≠ t then A i j + x i * A t j else A i j) 1 := by
  induction k with
  | zero => exact fun _ => (Ops.refl n A).congr (fun i j _ _ => by rw [if_neg (by omega)])
  | succ k ih =>
    intro hk
    by_cases e : k = t
    · refine (ih (by omega)).congr (fun i j _ _ => ?_)
      by_cases h1 : i < k ∧ i ≠ t
      · rw [if_pos h1, if_pos (by omega)]
      · rw [if_neg h1, if_neg (by omega)]
    · have h1 := Ops.add (n := n) (k := k) (t := t) (by omega) ht e (x k) (fun i j => if i < k ∧ i ≠ t then A i j + x i * A t j else A i j)
      have h2 := (ih (by omega)).trans h1
      have e1 : (1 : Fin p) * 1 = 1 := by grind
      rw [e1] at h2
      refine h2.congr (fun i j _ _ => ?_)
      unfold setRow
      dsimp only
      by_cases ei : i = k
      · subst ei
        rw [if_pos rfl, if_neg (show ¬ (i < i ∧ i ≠ t) by omega), if_neg (show ¬ (t < i ∧ t ≠ t) by omega), if_pos (by omega)]
      · rw [if_neg ei]
        by_cases h3 : i < k ∧ i ≠ t
        · rw [if_pos h3, if_pos (by omega)]
        · rw [if_neg h3, if_neg (by omega)]
theorem Stepped.ops {n c r q : Nat} {u : Fin p} {A B : Nat → Nat → Fin p} (s : Stepped n n c r q u A B) : Ops n A B ((if q = r then 1 else -1) * A q c) := by
  have hr := s.hr
  have hq := s.hq
  have h1 : Ops n A (swapRow A r q) (if q = r then 1 else -1) := by
    by_cases e : q = r
    · rw [if_pos e]
      refine (Ops.refl n A).congr (fun i j _ _ => ?_)
      unfold swapRow
      subst e
      split
      · rename_i e2; subst e2; rfl
      · rfl
    · rw [if_neg e]
      exact Ops.swap (by omega) hq (by omega) A
  have h2 := Ops.scale (n := n) (k := r) (by omega) (A q c) u s.hu (swapRow A r q)
  have h3 := Ops.add_all (n := n) (t := r) (by omega) (fun i => -(if i = q then A r c else A i c)) (setRow (swapRow A r q) r (fun j => u * swapRow A r q r j)) n (Nat.le_refl _)
  have h4 := (h1.trans h2).trans h3
  have e1 : (if q = r then 1 else -1) * A q c * 1 = (if q = r then 1 else -1) * A q c := by grind
  rw [e1] at h4
  have hrow : ∀ j, setRow (swapRow A r q) r (fun j => u * swapRow A r q r j) r j = u * A q j := fun j => by
    rw [setRow_at]; unfold swapRow; rw [if_pos rfl]
  refine h4.congr (fun i j hi hj => ?_)
  by_cases e : i = r
  · subst e
    rw [if_neg (by omega), hrow, s.at_ j hj]
  · rw [if_pos ⟨hi, e⟩, hrow, setRow_ne _ _ _ e, s.other i j hi e hj, s.at_ j hj]
    unfold swapRow
    rw [if_neg e]
/-! ### What follows of a reduced form -/
def Same (n m m' : Nat) (A B : Nat → Nat → Fin p) : Prop := (∀ i, i < m → Sp n m' B (A i)) ∧ ∀ i, i < m' → Sp n m A (B i)
theorem Same.refl (n m : Nat) (A : Nat → Nat → Fin p) : Same n m m A A := ⟨fun _ h => Sp.row h, fun _ h => Sp.row h⟩
theorem Same.symm {n m m' : Nat} {A B : Nat → Nat → Fin p} (h : Same n m m' A B) : Same n m' m B A := ⟨h.2, h.1⟩
theorem Same.trans {n m m' m'' : Nat} {A B C : Nat → Nat → Fin p} (h : Same n m m' A B) (k : Same n m' m'' B C) : Same n m m'' A C :=
  ⟨fun i hi => (h.1 i hi).trans k.1, fun i hi => (k.2 i hi).trans h.2⟩
theorem Stepped.same {n m c r q : Nat} {u : Fin p} {A B : Nat → Nat → Fin p} (s : Stepped n m c r q u A B) : Same n m m A B := ⟨s.span.2, s.span.1⟩
end
/-! ### Numbers and numbers modulo p -/
def phi (p : Nat) [NeZero p] (x : Int) : Fin p := ⟨(x % p).toNat, by have := NeZero.ne p; have := Int.emod_lt_of_pos x (show (0:Int) < p by omega); have := Int.emod_nonneg x (show (p:Int) ≠ 0 by omega); omega⟩
theorem fin_ext {p : Nat} {a b : Fin p} (h : (a.val : Int) = b.val) : a = b := Fin.ext (by omega)
section
variable {p : Nat} [NeZero p]
theorem phi_val (x : Int) : ((phi p x).val : Int) = x % p := by
  have := NeZero.ne p; have := Int.emod_nonneg x (show (p:Int) ≠ 0 by omega); simp [phi]; omega
theorem phi_emod (x : Int) : phi p (x % p) = phi p x := fin_ext (by rw [phi_val, phi_val, Int.emod_emod_of_dvd _ (Int.dvd_refl _)])
theorem phi_add (x y : Int) : phi p (x + y) = phi p x + phi p y :=
  fin_ext (by rw [Fin.val_add, phi_val, Int.natCast_emod, Int.natCast_add, phi_val, phi_val, ← Int.add_emod])
theorem phi_mul (x y : Int) : phi p (x * y) = phi p x * phi p y :=
  fin_ext (by rw [Fin.val_mul, phi_val, Int.natCast_emod, Int.natCast_mul, phi_val, phi_val, ← Int.mul_emod])
theorem phi_zero : phi p 0 = 0 := fin_ext (by rw [phi_val]; simp)
theorem phi_one : phi p 1 = 1 := fin_ext (by rw [phi_val]; show (1 : Int) % p = ((1 % p : Nat) : Int); simp)
theorem phi_neg (x : Int) : phi p (-x) = -(phi p x) := by
  have h : phi p (x + -x) = phi p x + phi p (-x) := phi_add x (-x)
  rw [Int.add_right_neg, phi_zero] at h
  grind
theorem phi_sub (x y : Int) : phi p (x - y) = phi p x - phi p y := by
  rw [Int.sub_eq_add_neg, phi_add, phi_neg]; grind
theorem phi_p : phi p (p : Int) = 0 := fin_ext (by rw [phi_val]; simp)
theorem phi_eq {x y : Int} : phi p x = phi p y ↔ x % p = y % p := by
  constructor
  · intro h; rw [← phi_val, ← phi_val, h]
  · intro h; rw [← phi_emod x, h, phi_emod]
theorem phi_inj {x y : Int} (hx : 0 ≤ x) (hx' : x < p) (hy : 0 ≤ y) (hy' : y < p) (h : phi p x = phi p y) : x = y := by
  have := phi_eq.mp h
  rwa [Int.emod_eq_of_lt hx hx', Int.emod_eq_of_lt hy hy'] at this
theorem phi_zero_iff {x : Int} (hx : 0 ≤ x) (hx' : x < p) : phi p x = 0 ↔ x = 0 := by
  constructor
  · intro h
    exact phi_inj hx hx' (Int.le_refl 0) (by have := NeZero.ne p; omega) (by rw [h, phi_zero])
  · intro h; rw [h, phi_zero]
end
theorem inv_table : ∀ p, p ∈ primes251 → ∀ a, a < p → 0 < a → (a * (a ^ (p - 2) % p)) % p = 1 := by decide +kernel
theorem pinv_tells {p a : Int} (hp : isP p = true) (h0 : 0 < a) (h1 : a < p) : (a * pinv p a) % p = 1 := by
  have hp2 := isP_ge hp
  obtain ⟨q, rfl⟩ := Int.eq_ofNat_of_zero_le (show 0 ≤ p by omega)
  obtain ⟨b, rfl⟩ := Int.eq_ofNat_of_zero_le (show 0 ≤ a by omega)
  have hm : q ∈ primes251 := by unfold isP at hp; simp at hp; exact hp.2
  have h := inv_table q hm b (by omega) (by omega)
  have e : ((q : Int) - 2).toNat = q - 2 := by omega
  unfold pinv
  rw [e]
  have h2 : (((b * (b ^ (q - 2) % q)) % q : Nat) : Int) = ((1 : Nat) : Int) := by rw [h]
  simp only [Int.natCast_emod, Int.natCast_mul, Int.natCast_pow] at h2
  exact h2
def fm (p : Nat) [NeZero p] (rows : List (List Int)) : Nat → Nat → Fin p := fun i j => phi p (cell rows i j)
theorem clear_phi {p : Nat} [NeZero p] {n c : Nat} {q r : List Int} (hq : q.length = n) (hr : r.length = n) {j : Nat} (hj : j < n) : phi p ((clearRow p c q r).getD j 0) = phi p (r.getD j 0) + -(phi p (r.getD c 0)) * phi p (q.getD j 0) := by
  unfold clearRow
  split
  · rename_i h; rw [h, phi_zero]; grind
  · rw [addRow_getD (by omega) (by omega), phi_emod, phi_add, phi_mul, phi_sub, phi_p]; grind
theorem elimStep_some {p : Nat} [NeZero p] {n c k : Nat} {rows : List (List Int)} {piv : List Int} {d : Int} (hp : isP p = true) (hok : RowsOk p n rows) (h : findPivot rows piv.length c = some k) :
    RowsOk p n (elimStep p (rows, piv, d) c).1 ∧ (elimStep p (rows, piv, d) c).1.length = rows.length ∧ (elimStep p (rows, piv, d) c).2.1 = piv ++ [(c : Int)] ∧
    (elimStep p (rows, piv, d) c).2.2 = (if k = 0 then d else -d % p) * cell rows (piv.length + k) c % p ∧
    Stepped n rows.length c piv.length (piv.length + k) (phi p (pinv p (cell rows (piv.length + k) c))) (fm p rows) (fm p (elimStep p (rows, piv, d) c).1) := by
  obtain ⟨hlt, hne⟩ := findPivot_some h
  have hp2 := isP_ge hp
  unfold elimStep
  dsimp only
  rw [h]
  dsimp only
  generalize ht : piv.length = top at *
  generalize hrows : (if k = 0 then rows else swapRows rows top (top + k)) = R at *
  have hlen : R.length = rows.length := by
    rw [← hrows]; split
    · rfl
    · exact swapRows_length _ _ _
  have hokR : RowsOk p n R := by
    rw [← hrows]; split
    · exact hok
    · exact hok.swap (by omega) hlt
  have hget : ∀ i, R.getD i [] = if i = top + k then rows.getD top [] else if i = top then rows.getD (top + k) [] else rows.getD i [] := fun i => by
    rw [← hrows]
    by_cases e : k = 0
    · subst e
      rw [if_pos rfl]
      by_cases e2 : i = top
      · subst e2; simp
      · simp [e2]
    · rw [if_neg e]
      exact swapRows_get rows (by omega) hlt i
  have htop : R.getD top [] = rows.getD (top + k) [] := by
    rw [hget]
    by_cases e : k = 0
    · subst e; simp
    · rw [if_neg (by omega), if_pos rfl]
  have hlead : cell R top c = cell rows (top + k) c := by unfold cell; rw [htop]
  rw [hlead]
  generalize hL : cell rows (top + k) c = L at *
  have hLr := hok.cell (p := p) (by omega) (top + k) c
  rw [hL] at hLr
  have hq : RowOk p n ((R.getD top []).map (fun x => pinv p L * x % p)) := scale_ok _ (by omega) (hokR _ (getD_mem (by omega))).1
  generalize hQ : (R.getD top []).map (fun x => pinv p L * x % p) = Q at *
  have hQj : ∀ j, j < n → Q.getD j 0 = pinv p L * (rows.getD (top + k) []).getD j 0 % p := fun j hj => by
    rw [← hQ, htop]
    have hl : j < (rows.getD (top + k) []).length := by rw [(hok _ (getD_mem hlt)).1]; exact hj
    rw [List.getD_eq_getElem?_getD, List.getElem?_map, List.getD_eq_getElem?_getD (l := rows.getD (top + k) []), List.getElem?_eq_getElem hl]
    rfl
  have hok2 : RowsOk p n (R.set top Q) := hokR.set hq top
  have hl2 : (R.set top Q).length = rows.length := by rw [List.length_set, hlen]
  refine ⟨hok2.clear (by omega) hq.1 c top, by rw [clearAll_length, hl2], rfl, rfl, ?_⟩
  refine ⟨by omega, hlt, ?_, fun j hj => ?_, fun i j hi hne' hj => ?_⟩
  · show phi p (cell rows (top + k) c) * phi p (pinv p L) = 1
    rw [hL, ← phi_mul, ← phi_emod, pinv_tells hp (by omega) (by omega), phi_one]
  · show phi p ((clearAll _ c top Q (R.set top Q)).getD top [] |>.getD j 0) = _
    rw [clearAll_get (by omega), if_pos rfl, getD_set _ _ _ _ (by omega), if_pos rfl, hQj j hj, phi_emod, phi_mul]
    rfl
  · show phi p ((clearAll _ c top Q (R.set top Q)).getD i [] |>.getD j 0) = _ + _ * phi p ((clearAll _ c top Q (R.set top Q)).getD top [] |>.getD j 0)
    rw [clearAll_get (by omega), if_neg hne', clearAll_get (by omega), if_pos rfl, getD_set _ _ _ _ (by omega), if_neg hne', getD_set _ _ _ _ (by omega), if_pos rfl]
    rw [clear_phi hq.1 (hokR _ (getD_mem (by omega))).1 hj, hget i]
    unfold fm cell
    split
    · rfl
    · rfl
def pivList (P : Nat → Nat) (r : Nat) : List Int := (List.range r).map (fun i => (P i : Int))
theorem pivList_length (P : Nat → Nat) (r : Nat) : (pivList P r).length = r := by unfold pivList; simp
theorem pivList_snoc (P : Nat → Nat) (r c : Nat) : pivList P r ++ [(c : Int)] = pivList (fun i => if i = r then c else P i) (r + 1) := by
  unfold pivList
  rw [List.range_succ, List.map_append]
  congr 1
  · refine List.map_congr_left (fun i hi => ?_)
    have := List.mem_range.mp hi
    dsimp only
    rw [if_neg (by omega)]
  · simp
theorem elimTo_tells {p : Nat} [NeZero p] {n : Nat} {rows : List (List Int)} (hp : isP p = true) (hok : RowsOk p n rows) (c : Nat) (hc : c ≤ n) :
    ∃ r P, RowsOk p n (elimTo p rows c).1 ∧ (elimTo p rows c).1.length = rows.length ∧ (elimTo p rows c).2.1 = pivList P r ∧ Part n rows.length c (fm p (elimTo p rows c).1) r P ∧
      Same n rows.length rows.length (fm p rows) (fm p (elimTo p rows c).1) ∧ (0 ≤ (elimTo p rows c).2.2 ∧ (elimTo p rows c).2.2 < p) ∧ r ≤ c ∧ (r < c → (elimTo p rows c).2.2 = 0) ∧
      (rows.length = n → ∃ d, Ops n (fm p rows) (fm p (elimTo p rows c).1) d ∧ (r = c → phi p (elimTo p rows c).2.2 = d)) := by
  have hp2 := isP_ge hp
  induction c with
  | zero =>
    refine ⟨0, fun _ => 0, hok, rfl, rfl, Part.start _ _ _ _, Same.refl _ _ _, ⟨by show (0:Int) ≤ 1; omega, by show (1:Int) < p; omega⟩, Nat.le_refl _, fun h => by omega, fun _ => ⟨1, Ops.refl _ _, fun _ => phi_one⟩⟩
  | succ c ih =>
    obtain ⟨r, P, h1, h2, h3, h4, h5, h6, h7, h8, h9⟩ := ih (by omega)
    rw [elimTo_succ]
    generalize hs : elimTo p rows c = s at *
    obtain ⟨R, piv, d⟩ := s
    dsimp only at *
    have hr : piv.length = r := by rw [h3, pivList_length]
    cases hf : findPivot R piv.length c with
    | none =>
      rw [elimStep_none hf]
      refine ⟨r, P, h1, h2, h3, h4.pass (fun i hi1 hi2 => ?_), h5, ⟨Int.le_refl 0, by show (0:Int) < p; omega⟩, by omega, fun _ => rfl, fun hsq => ?_⟩
      · show phi p (cell R i c) = 0
        rw [findPivot_none hf i (by omega) (by omega), phi_zero]
      · obtain ⟨d', hd, _⟩ := h9 hsq
        exact ⟨d', hd, fun h => by omega⟩
    | some k =>
      obtain ⟨g1, g2, g3, g4, g5⟩ := elimStep_some (d := d) hp h1 hf
      rw [hr] at g4 g5
      rw [h2] at g5
      generalize hs' : elimStep p (R, piv, d) c = s' at *
      obtain ⟨R', piv', d'⟩ := s'
      dsimp only at *
      refine ⟨r + 1, fun i => if i = r then c else P i, g1, by omega, by rw [g3, h3, pivList_snoc], h4.step (by omega) g5, h5.trans g5.same, ?_, by omega, fun h => ?_, fun hsq => ?_⟩
      · rw [g4]; exact ⟨Int.emod_nonneg _ (by omega), Int.emod_lt_of_pos _ (by omega)⟩
      · rw [g4, h8 (by omega)]; simp
      · obtain ⟨e, he, hd⟩ := h9 hsq
        rw [hsq] at g5
        refine ⟨_, he.trans g5.ops, fun h => ?_⟩
        rw [g4, phi_emod, phi_mul, ← hd (by omega)]
        show _ = phi p d * (_ * phi p (cell R (r + k) c))
        by_cases ek : k = 0
        · rw [if_pos ek, if_pos (by omega)]; grind
        · rw [if_neg ek, if_neg (by omega), phi_emod, phi_neg]; grind
theorem isP_nat {p : Nat} (hp : isP (p : Int) = true) : 2 ≤ p ∧ p ≤ 251 := by have := isP_ge hp; omega
theorem one_ne {p : Nat} [NeZero p] (hp : isP (p : Int) = true) : (1 : Fin p) ≠ 0 := by
  have h := isP_nat hp
  intro e
  rw [← phi_one, phi_zero_iff (by omega) (by omega)] at e
  omega
section
variable {p : Nat} [NeZero p] {n : Nat} {rows : List (List Int)}
theorem elim_all (hp : isP p = true) (hok : RowsOk p n rows) : ∃ r P, RowsOk p n (elim p n rows).1 ∧ (elim p n rows).1.length = rows.length ∧ (elim p n rows).2.1 = pivList P r ∧ Rref n rows.length (fm p (elim p n rows).1) r P ∧ Same n rows.length rows.length (fm p rows) (fm p (elim p n rows).1) := by
  obtain ⟨r, P, h1, h2, h3, h4, h5, _⟩ := elimTo_tells hp hok n (Nat.le_refl _)
  exact ⟨r, P, h1, h2, h3, h4.rref, h5⟩
theorem pivList_congr {P Q : Nat → Nat} {r : Nat} (h : ∀ i, i < r → P i = Q i) : pivList P r = pivList Q r := by
  unfold pivList
  exact List.map_congr_left (fun i hi => by rw [h i (List.mem_range.mp hi)])
theorem rank_same {rows' : List (List Int)} (hp : isP p = true) (hok : RowsOk p n rows) (hok' : RowsOk p n rows') (h : Same n rows.length rows'.length (fm p rows) (fm p rows')) : (elim p n rows).2.1.length = (elim p n rows').2.1.length := by
  obtain ⟨r, P, h1, h2, h3, h4, h5⟩ := elim_all hp hok
  obtain ⟨s, Q, k1, k2, k3, k4, k5⟩ := elim_all hp hok'
  have e := (h5.symm.trans h).trans k5
  rw [h3, k3, pivList_length, pivList_length]
  exact (Rref.unique (one_ne hp) h4 k4 e.1 e.2).1
theorem fm_append {a b : List (List Int)} (i j : Nat) : fm p (a ++ b) i j = if i < a.length then fm p a i j else fm p b (i - a.length) j := by
  unfold fm cell
  simp only [List.getD_eq_getElem?_getD, List.getElem?_append]
  split <;> rfl
end
theorem rise_id {m : Nat} {f : Nat → Nat} (hinc : ∀ i k, i < k → k < m → f i < f k) (hlt : ∀ i, i < m → f i < m) : ∀ i, i < m → f i = i := by
  have h1 : ∀ d i, i + d < m → f i + d ≤ f (i + d) := by
    intro d
    induction d with
    | zero => intro i _; exact Nat.le_refl _
    | succ d ih =>
      intro i h
      have a := ih i (by omega)
      have b := hinc (i + d) (i + (d + 1)) (by omega) h
      omega
  intro i hi
  have a := h1 (m - 1 - i) i (by omega)
  have e : i + (m - 1 - i) = m - 1 := by omega
  rw [e] at a
  have b := hlt (m - 1) (by omega)
  have c := h1 i 0 (by omega)
  rw [Nat.zero_add] at c
  omega
section
variable {p : Nat} [NeZero p] {n : Nat}
theorem same_pivots {m m' r : Nat} {A B : Nat → Nat → Fin p} {P Q : Nat → Nat} (h10 : (1 : Fin p) ≠ 0) (h : Rref n m A r P) (k : Rref n m' B r Q) (hAB : ∀ i, i < m → Sp n m' B (A i)) : ∀ i, i < r → P i = Q i := by
  have hx := Rref.pivots_sub h10 h k hAB
  obtain ⟨f, hf⟩ : ∃ f : Nat → Nat, ∀ i, i < r → f i < r ∧ Q (f i) = P i := by
    refine ⟨fun i => if hi : i < r then Classical.choose (hx i hi) else 0, fun i hi => ?_⟩
    simp only [dif_pos hi]
    exact Classical.choose_spec (hx i hi)
  have hid := rise_id (m := r) (f := f) (fun i j hij hj => by
    have e1 := (hf i (by omega)).2
    have e2 := (hf j hj).2
    have e3 := h.inc i j hij hj
    rcases Nat.lt_trichotomy (f i) (f j) with hlt | heq | hgt
    · exact hlt
    · rw [heq] at e1; omega
    · have := k.inc (f j) (f i) hgt (hf i (by omega)).1; omega) (fun i hi => (hf i hi).1)
  intro i hi
  have e1 := (hf i hi).2
  rw [hid i hi] at e1
  exact e1.symm
theorem has_iff {rs : List (List Int)} {x : List Int} {P : Nat → Nat} (hp : isP p = true) (hok : RowsOk p n rs) (hx : RowOk p n x) (hR : Rref n rs.length (fm p rs) rs.length P) (hr : (elim p n rs).2.1.length = rs.length) :
    (elim p n (rs ++ [x])).2.1.length = rs.length ↔ ∀ j, j < n → phi p (x.getD j 0) = sm rs.length (fun i => phi p (x.getD (P i) 0) * fm p rs i j) := by
  have hok2 : RowsOk p n (rs ++ [x]) := fun r hr => by
    rcases List.mem_append.mp hr with h | h
    · exact hok r h
    · rw [List.mem_singleton.mp h]; exact hx
  have hlen : (rs ++ [x]).length = rs.length + 1 := by simp
  have ha : ∀ i, i < rs.length → fm p (rs ++ [x]) i = fm p rs i := fun i hi => by funext j; rw [fm_append, if_pos hi]
  have hb : fm p (rs ++ [x]) rs.length = fun j => phi p (x.getD j 0) := by
    funext j
    rw [fm_append, if_neg (Nat.lt_irrefl _), Nat.sub_self]
    rfl
  constructor
  · intro hl
    obtain ⟨r, Q, h1, h2, h3, h4, h5⟩ := elim_all hp hok2
    have er : r = rs.length := by rw [h3, pivList_length] at hl; exact hl
    subst er
    have hA : ∀ i, i < rs.length → Sp n (rs ++ [x]).length (fm p (elim p n (rs ++ [x])).1) (fm p rs i) := fun i hi => by
      have := h5.1 i (by omega)
      rwa [ha i hi] at this
    have hX := h5.1 rs.length (by omega)
    rw [hb] at hX
    have hPQ := same_pivots (one_ne hp) hR h4 hA
    have hAB : ∀ i j, i < rs.length → j < n → fm p rs i j = fm p (elim p n (rs ++ [x])).1 i j := fun i j hi hj => by
      rw [h4.as_sum (hA i hi) j hj, sm_one i hi (fun k hk hne => by rw [← hPQ k hk, hR.col k i hk hi (Ne.symm hne)]; grind), ← hPQ i hi, hR.one i hi]
      grind
    intro j hj
    rw [h4.as_sum hX j hj]
    exact sm_congr (fun i hi => by rw [hPQ i hi, hAB i j hi hj])
  · intro hx2
    have hsame : Same n (rs ++ [x]).length rs.length (fm p (rs ++ [x])) (fm p rs) := by
      refine ⟨fun i hi => ?_, fun i hi => ?_⟩
      · rcases Nat.lt_or_ge i rs.length with h | h
        · rw [ha i h]; exact Sp.row h
        · have e : i = rs.length := by omega
          subst e
          rw [hb]
          exact ⟨fun i => phi p (x.getD (P i) 0), hx2⟩
      · rw [← ha i hi]
        exact Sp.row (by omega)
    rw [rank_same hp hok2 hok hsame, hr]
def restTo (p : Nat) (rs : List (List Int)) (P : Nat → Nat) (x : List Int) : Nat → List Int
  | 0 => x
  | i + 1 => addRow p (restTo p rs P x i) (rs.getD i []) (((p : Int) - x.getD (P i) 0) % p)
theorem rest_ok {rs : List (List Int)} {P : Nat → Nat} {x : List Int} (hp : 0 < p) (hok : RowsOk p n rs) (hx : RowOk p n x) : ∀ i, i ≤ rs.length → RowOk p n (restTo p rs P x i)
  | 0, _ => hx
  | i + 1, hi => by
    have ih := rest_ok hp hok hx (P := P) i (by omega)
    have hlt : i < rs.length := by omega
    have hm : rs.getD i [] ∈ rs := by
      rw [List.getD_eq_getElem?_getD, List.getElem?_eq_getElem hlt]
      exact List.getElem_mem hlt
    exact addRow_ok _ (by omega) ih.1 (hok _ hm).1
theorem rest_phi {rs : List (List Int)} {P : Nat → Nat} {x : List Int} (hp : 0 < p) (hok : RowsOk p n rs) (hx : RowOk p n x) (j : Nat) (hj : j < n) : ∀ i, i ≤ rs.length → phi p ((restTo p rs P x i).getD j 0) = phi p (x.getD j 0) - sm i (fun k => phi p (x.getD (P k) 0) * fm p rs k j)
  | 0, _ => by
    show phi p (x.getD j 0) = phi p (x.getD j 0) - 0
    grind
  | i + 1, hi => by
    have ih := rest_phi hp hok hx (P := P) j hj i (by omega)
    have hr := rest_ok hp hok hx (P := P) i (by omega)
    have hlt : i < rs.length := by omega
    have hm : rs.getD i [] ∈ rs := by
      rw [List.getD_eq_getElem?_getD, List.getElem?_eq_getElem hlt]
      exact List.getElem_mem hlt
    have hl := (hok _ hm).1
    show phi p ((addRow p (restTo p rs P x i) (rs.getD i []) (((p : Int) - x.getD (P i) 0) % p)).getD j 0) = _ - (sm i _ + _)
    rw [addRow_getD (by rw [hr.1]; exact hj) (by rw [hl]; exact hj), phi_emod, phi_add, phi_mul, phi_emod, phi_sub, phi_p, ih]
    show _ = phi p (x.getD j 0) - (sm i (fun k => phi p (x.getD (P k) 0) * fm p rs k j) + phi p (x.getD (P i) 0) * phi p (cell rs i j))
    unfold cell
    grind
theorem rest_zero {rs : List (List Int)} {P : Nat → Nat} {x : List Int} (hp : 0 < p) (hok : RowsOk p n rs) (hx : RowOk p n x) :
    (∀ y, y ∈ restTo p rs P x rs.length → y = 0) ↔ ∀ j, j < n → phi p (x.getD j 0) = sm rs.length (fun i => phi p (x.getD (P i) 0) * fm p rs i j) := by
  have hr := rest_ok hp hok hx (P := P) rs.length (Nat.le_refl _)
  constructor
  · intro h j hj
    have e := rest_phi hp hok hx (P := P) j hj rs.length (Nat.le_refl _)
    have hz : (restTo p rs P x rs.length).getD j 0 = 0 := by
      rw [List.getD_eq_getElem?_getD, List.getElem?_eq_getElem (by rw [hr.1]; exact hj)]
      exact h _ (List.getElem_mem _)
    rw [hz, phi_zero] at e
    grind
  · intro h y hy
    obtain ⟨j, hj, rfl⟩ := List.mem_iff_getElem.mp hy
    have hj2 : j < n := by rw [← hr.1]; exact hj
    have e := rest_phi hp hok hx (P := P) j hj2 rs.length (Nat.le_refl _)
    rw [h j hj2, List.getD_eq_getElem?_getD, List.getElem?_eq_getElem hj] at e
    have hb := hr.2 _ (List.getElem_mem hj)
    refine (phi_zero_iff hb.1 hb.2).mp ?_
    show phi p ((some (restTo p rs P x rs.length)[j]).getD 0) = 0
    rw [e]
    grind
end
end Go.Proofs.Ytmbbjmkcbpefhaa.Lin
end

section
/- Both functions say whether a vector is in a valid space: what is left of it after the rows of the basis is 0 exactly if it doesn't raise the rank. -/
set_option linter.unusedVariables false
set_option linter.unusedSimpArgs false
set_option linter.unusedSectionVars false
namespace Go.Proofs.Ytmbbjmkcbpefhaa.F
open Go.RowKit Go.Proofs.YtmbbjmkcbpefhaaW.PrintWords Go.Proofs.YtmbbjmkcbpefhaaW.PrintLast Go.Proofs.Ytmbbjmkcbpefhaa.Lin
theorem szSpace_tells (p n : Int) {l : List (List Int)} (hl : l.length ≤ maxLen) (hr : ∀ r ∈ l, r.length ≤ maxLen) {a : Int} (h0 : 0 ≤ a) (h1 : a ≤ 1048576) {k : Nat} (hk : 1048577 ≤ k) :
    ∃ z, laws_szSpace.f k p n l a = some z ∧ z ≤ a ∧ (z < 0 ∨ ((l.length : Int) ≤ a ∧ ∀ r ∈ l, (r.length : Int) ≤ a)) := by
  obtain ⟨z, hz, hz1, hz2⟩ := szSS_tells hl hr h0 h1 hk
  unfold laws_szSpace.f
  rw [hz, Option.bind_some]
  by_cases e : z < 0
  · rw [if_pos e]; exact ⟨-1, rfl, by omega, .inl (by omega)⟩
  · rw [if_neg e]; exact ⟨z, rfl, hz1, hz2⟩
def spaceOk (p n : Int) (l : List (List Int)) : Bool := isP p && (decide (0 ≤ n ∧ n ≤ 32) && (l.all (rowVec n p) && decide (basisOf p n.toNat l = l)))
theorem basis_le {p : Int} (hp : isP p = true) {n : Nat} {l : List (List Int)} (hok : RowsOk p n l) : (basisOf p n l).length ≤ n := by
  obtain ⟨t1, t2, t3, t4, _, _⟩ := elimTo_small hp hok n (Nat.le_refl _)
  have e : (elim p n l).2.1.length ≤ n := t3
  unfold basisOf
  rw [List.length_take]; omega
theorem implValidSpace_tells (p n : Int) {l : List (List Int)} (hm : l.length ≤ 1048576) {k : Nat} (hk : 74000000 ≤ k) : impl_ValidSpace.f k p n l = some (spaceOk p n l) := by
  unfold impl_ValidSpace.f spaceOk impl_areSame.f
  rw [ask_prime, prime_tells p (by omega), Option.bind_some, side_tells, Option.bind_some, areV_tells, Option.bind_some]
  by_cases hp : isP p = true
  · rw [if_pos hp, hp, Bool.true_and]
    by_cases hn : 0 ≤ n ∧ n ≤ 32
    · obtain ⟨m, rfl⟩ := Int.eq_ofNat_of_zero_le hn.1
      rw [decide_eq_true hn, if_pos rfl, Bool.true_and, Int.toNat_natCast]
      by_cases hv : l.all (rowVec m p) = true
      · have hok := (rowsOk_all hp).mp hv
        have hb := basis_le hp hok
        have t1 : RowsOk p m (elim p m l).1 := (elimTo_small hp hok m (Nat.le_refl _)).1
        rw [if_pos hv, spaceI_tells hp (by omega) hok hm hk, Option.bind_some, hv, Bool.true_and]
        show Option.bind (Option.bind (slices_EqualFunc_int64_int64_int64_int64.f k (basisOf p m l) l) _) _ = _
        rw [slR_tells (a := basisOf p m l) (by omega) (fun r hr => rows_short t1 (by omega) r (List.mem_of_mem_take hr)) (by omega), Option.bind_some, Option.bind_some]
      · rw [if_neg hv, Bool.eq_false_iff.mpr hv, Bool.false_and]
    · rw [decide_eq_false hn, if_neg (by decide), Bool.false_and]
  · rw [if_neg hp, Bool.eq_false_iff.mpr hp, Bool.false_and]
theorem specOkSpace_tells (p n : Int) {l : List (List Int)} (hm : l.length ≤ 1048576) (hr : ∀ r ∈ l, r.length ≤ 1048576) {k : Nat} (hk : 74000000 ≤ k) : spec_l04Ok.f k p n l = some (spaceOk p n l) := by
  unfold spec_l04Ok.f spaceOk
  rw [prime_tells p (by omega), Option.bind_some, in_tells, Option.bind_some]
  obtain ⟨j, rfl⟩ : ∃ m, k = m + 1 := ⟨k - 1, by omega⟩
  have jt : ∀ a b c, spec_l04Ok.j0 (j + 1) true a b c = some false := fun a b c => by simp only [spec_l04Ok.j0, if_true]
  by_cases hp : isP p = true
  · rw [if_pos hp, hp, Bool.true_and]
    by_cases hn : 0 ≤ n ∧ n ≤ 32
    · obtain ⟨m, rfl⟩ := Int.eq_ofNat_of_zero_le hn.1
      rw [decide_eq_true hn, if_pos rfl, Bool.true_and, Int.toNat_natCast]
      by_cases hl : (l.length : Int) > (m : Int)
      · rw [if_pos hl, jt]
        by_cases hv : l.all (rowVec m p) = true
        · have hb := basis_le hp ((rowsOk_all hp).mp hv)
          rw [hv, Bool.true_and, decide_eq_false (fun e => by rw [e] at hb; omega)]
        · rw [Bool.eq_false_iff.mpr hv, Bool.false_and]
      · rw [if_neg hl, specVecs_tells hp (by omega) hm hr (by omega), Option.bind_some]
        by_cases hv : l.all (rowVec m p) = true
        · have hok := (rowsOk_all hp).mp hv
          have t1 : RowsOk p m (elim p m l).1 := (elimTo_small hp hok m (Nat.le_refl _)).1
          have hb := basis_le hp hok
          rw [hv]
          simp only [spec_l04Ok.j0, Bool.not_true, Bool.true_and]
          rw [if_neg (by decide), basisS_tells hp (by omega) hok (by omega) (by omega), Option.bind_some, saR_tells (a := basisOf p m l) (by omega) (fun r hr => rows_short t1 (by omega) r (List.mem_of_mem_take hr)) (by omega), Option.bind_some]
        · rw [Bool.eq_false_iff.mpr hv, Bool.not_false, jt, Bool.false_and]
    · rw [decide_eq_false hn, if_neg (by decide), Bool.false_and, jt]
  · rw [if_neg hp, Bool.eq_false_iff.mpr hp, Bool.false_and, jt]
theorem own_form {q : Nat} [NeZero q] (hp : isP (q : Int) = true) {n : Nat} {rs : List (List Int)} (hok : RowsOk q n rs) (hb : basisOf q n rs = rs) : (elim q n rs).2.1.length = rs.length ∧ ∃ P, Rref n rs.length (fm q rs) rs.length P := by
  obtain ⟨r, P, h1, h2, h3, h4, _⟩ := elim_all hp hok
  have hr : (elim (q : Int) n rs).2.1.length = r := by rw [h3, pivList_length]
  have hle := h4.le
  have hl := congrArg List.length hb
  unfold basisOf at hl hb
  rw [List.length_take, h2, hr] at hl
  have e : r = rs.length := by omega
  subst e
  rw [hr, List.take_of_length_le (by omega)] at hb
  rw [hb] at h4
  exact ⟨hr, P, h4⟩
theorem places_loop {q : Nat} [NeZero q] (hp : isP (q : Int) = true) {n : Nat} {rs : List (List Int)} (hok : RowsOk q n rs) (hm : rs.length ≤ 1048576) {P : Nat → Nat} (hR : Rref n rs.length (fm q rs) rs.length P) (d : Nat) : ∀ k i, rs.length - i = d → i ≤ rs.length → d < k → impl_placesOf.l0 k (pivList P i) rs rs.length i = some (pivList P rs.length) := by
  induction d with
  | zero =>
    intro k i hd hi hk
    obtain ⟨k, rfl⟩ : ∃ m, k = m + 1 := ⟨k - 1, by omega⟩
    have e : i = rs.length := by omega
    subst e
    simp only [impl_placesOf.l0]
    rw [if_neg (Int.lt_irrefl _)]
  | succ d ih =>
    intro k i hd hi hk
    obtain ⟨k, rfl⟩ : ∃ m, k = m + 1 := ⟨k - 1, by omega⟩
    have hlt : i < rs.length := by omega
    have e2 := ih k (i + 1) (by omega) (by omega) (by omega)
    have hp2 := isP_nat hp
    have hmem : rs.getD i [] ∈ rs := by rw [getD_at hlt]; exact List.getElem_mem hlt
    have hrow := hok _ hmem
    have hPn := hR.lt i hlt
    have hc : ∀ j, 0 ≤ (rs.getD i []).getD j 0 ∧ (rs.getD i []).getD j 0 < (q : Int) := fun j => hok.cell (by omega) i j
    have ex : idxOf notZero (rs.getD i []) = (P i : Int) := by
      refine idxOf_hit (by rw [hrow.1]; exact hPn) ?_ (fun j hj hlt2 => ?_)
      · have h1 := hR.one i hlt
        unfold notZero
        rw [Bool.not_eq_true', decide_eq_false_iff_not]
        intro h0
        rw [← getD_at (d := 0) (by rw [hrow.1]; exact hPn)] at h0
        have h2 : phi q ((rs.getD i []).getD (P i) 0) = 1 := h1
        rw [h0, phi_zero] at h2
        exact one_ne hp h2.symm
      · have h1 : phi q ((rs.getD i []).getD j 0) = 0 := hR.before i j hlt hlt2
        rw [phi_zero_iff (hc j).1 (hc j).2] at h1
        unfold notZero
        rw [← getD_at (d := 0) hj, h1]
        rfl
    have h17 : (pivList P i).length < 17592186044416 := by rw [pivList_length]; omega
    have h1 : (i : Int) < (rs.length : Int) := by omega
    have h0 : (0 : Int) ≤ (i : Int) := by omega
    simp only [impl_placesOf.l0]
    rw [if_pos h1, if_pos h0, if_pos h1]
    show Option.bind (some (idxOf notZero (rd_L1 rs (i : Int)))) _ = _
    rw [Option.bind_some, rdL_nat, ex, if_pos h17, w64_succ hlt (by omega)]
    have e3 : pivList P i ++ [(P i : Int)] = pivList P (i + 1) := by
      rw [pivList_snoc]
      exact pivList_congr (fun j hj => by
        by_cases h : j = i
        · rw [if_pos h, h]
        · rw [if_neg h])
    rw [e3]
    exact e2
theorem coord_loop {q : Nat} [NeZero q] (hp : isP (q : Int) = true) {n : Nat} (hn : n ≤ 32) {rs : List (List Int)} (hok : RowsOk q n rs) (hm : rs.length ≤ 32) {P : Nat → Nat} (hP : ∀ i, i < rs.length → P i < n) {x : List Int} (hx : RowOk q n x) (d : Nat) : ∀ k i (o : List Int), rs.length - i = d → i ≤ rs.length → d + 100 < k → o.length = i →
    ∃ o', impl_coordinates.l0 k x o (restTo q rs P x i) (pivList P rs.length) rs.length i q n rs = some (o', !((restTo q rs P x rs.length).any notNull)) := by
  induction d with
  | zero =>
    intro k i o hd hi hk ho
    obtain ⟨k, rfl⟩ : ∃ m, k = m + 1 := ⟨k - 1, by omega⟩
    have e : i = rs.length := by omega
    subst e
    simp only [impl_coordinates.l0]
    rw [if_neg (Int.lt_irrefl _)]
    exact ⟨o, rfl⟩
  | succ d ih =>
    intro k i o hd hi hk ho
    obtain ⟨k, rfl⟩ : ∃ m, k = m + 1 := ⟨k - 1, by omega⟩
    have hlt : i < rs.length := by omega
    have hp2 := isP_nat hp
    have hPn := hP i hlt
    have hmem : rs.getD i [] ∈ rs := by rw [getD_at hlt]; exact List.getElem_mem hlt
    have hrow := hok _ hmem
    have hrest := rest_ok (P := P) (by omega) hok hx i (by omega)
    have g1 : (i : Int) < (rs.length : Int) := by omega
    have g0 : (0 : Int) ≤ (i : Int) := by omega
    have g2 : (i : Int) < ((pivList P rs.length).length : Int) := by rw [pivList_length]; exact g1
    have erd : rd (pivList P rs.length) (i : Int) = (P i : Int) := by
      rw [rd_nat, getD_at (by rw [pivList_length]; exact hlt)]
      unfold pivList
      rw [List.getElem_map, List.getElem_range]
    have g3 : (0 : Int) ≤ (P i : Int) := by omega
    have g4 : (P i : Int) < (x.length : Int) := by rw [hx.1]; omega
    have g5 : o.length < 17592186044416 := by omega
    have g6 : ¬ (q : Int) = 0 := by omega
    have rc : ∀ {y : List Int}, RowOk (q : Int) n y → ∀ j, 0 ≤ y.getD j 0 ∧ y.getD j 0 < (q : Int) := fun {y} hy j => by
      rw [List.getD_eq_getElem?_getD]
      rcases Nat.lt_or_ge j y.length with h | h
      · rw [List.getElem?_eq_getElem h]; exact hy.2 _ (List.getElem_mem h)
      · rw [List.getElem?_eq_none h]; simp; omega
    have hxc := rc hx
    have hc := hxc (P i)
    have ew : wrap64 ((q : Int) - x.getD (P i) 0) = (q : Int) - x.getD (P i) 0 := w64_idV (by omega) (by omega)
    have et : Int.tmod ((q : Int) - x.getD (P i) 0) q = ((q : Int) - x.getD (P i) 0) % q := Int.tmod_eq_emod_of_nonneg (by omega)
    have m0 := Int.emod_nonneg ((q : Int) - x.getD (P i) 0) g6
    have m1 := Int.emod_lt_of_pos ((q : Int) - x.getD (P i) 0) (show (0 : Int) < q by omega)
    have ea : impl_addTimes.f k (restTo q rs P x i) (rs.getD i []) (((q : Int) - x.getD (P i) 0) % q) q = some (restTo q rs P x (i + 1)) :=
      addV_tells (by omega) (by omega) (by rw [hrest.1, hrow.1]) (by rw [hrest.1]; omega) (rc hrest) (rc hrow) m0 (by omega) (by rw [hrest.1]; omega)
    obtain ⟨o', e2⟩ := ih k (i + 1) (o ++ [x.getD (P i) 0]) (by omega) (by omega) (by omega) (by simp [ho])
    refine ⟨o', ?_⟩
    simp only [impl_coordinates.l0]
    rw [if_pos g1, if_pos g0, if_pos g2, erd, if_pos g3, if_pos g4, if_pos g5, if_pos g1, if_neg g6, rd_nat, rdL_nat, ew, et, ea, Option.bind_some, w64_succ hlt (by omega)]
    exact e2
theorem has_same {p n : Int} {l : List (List Int)} {x : List Int} (hp : isP p = true) (hn : 0 ≤ n ∧ n ≤ 32) (hv : l.all (rowVec n p) = true) (hb : basisOf p n.toNat l = l) (hx : rowVec n p x = true) :
    ∃ b, (∀ k, 74000000 ≤ k → spec_l04Has.f k p n l x = some b) ∧ ∀ k, 74000000 ≤ k → impl_contains.f k p n l x = some b := by
  have hp2 := isP_ge hp
  obtain ⟨q, rfl⟩ := Int.eq_ofNat_of_zero_le (show 0 ≤ p by omega)
  haveI : NeZero q := ⟨by omega⟩
  obtain ⟨m, rfl⟩ := Int.eq_ofNat_of_zero_le hn.1
  rw [Int.toNat_natCast] at hb
  have hok := (rowsOk_all hp).mp hv
  have hxo := (rowVec_ok hp).mp hx
  have hl := basis_le hp hok
  rw [hb] at hl
  obtain ⟨hr, P, hR⟩ := own_form hp hok hb
  have hok2 : RowsOk q m (l ++ [x]) := fun r hr => by
    rcases List.mem_append.mp hr with h | h
    · exact hok r h
    · rw [List.mem_singleton.mp h]; exact hxo
  have hiff := (has_iff hp hok hxo hR hr).trans (rest_zero (by omega) hok hxo).symm
  refine ⟨!((restTo q l P x l.length).any notNull), fun k hk => ?_, fun k hk => ?_⟩
  · have h1 : ([] : List (List Int)).length + l.length < 5864062014805 := by simp; omega
    have h2 : ([] ++ l : List (List Int)).length < 5864062014805 := by simp; omega
    have h3 : (l ++ [x]).length ≤ 64 := by simp; omega
    have hle : (elim (q : Int) m (l ++ [x])).2.1.length ≤ (elim (q : Int) m (l ++ [x])).1.length := by
      obtain ⟨r, Q, k1, k2, k3, k4, _⟩ := elim_all hp hok2
      rw [k3, pivList_length, k2]; exact k4.le
    unfold spec_l04Has.f
    rw [Option.bind_some, if_pos h1, Option.bind_some, if_pos h2, List.nil_append, basisS_tells hp (by omega) hok2 h3 (by omega), Option.bind_some]
    have hbl : (basisOf (q : Int) m (l ++ [x])).length = (elim (q : Int) m (l ++ [x])).2.1.length := by
      unfold basisOf
      rw [List.length_take]; omega
    rw [hbl]
    congr 1
    rw [Bool.eq_iff_iff, beq_iff_eq, Bool.not_eq_true', List.any_eq_false]
    constructor
    · intro e y hy
      have := hiff.mp (by omega) y hy
      subst this
      decide
    · intro h
      have := hiff.mpr (fun y hy => by
        have := h y hy
        unfold notNull at this
        simpa using this)
      omega
  · have e1 : impl_placesOf.f k q m l = some (pivList P l.length) := by
      unfold impl_placesOf.f
      have := places_loop hp hok (by omega) hR l.length k 0 (by omega) (by omega) (by omega)
      exact this
    obtain ⟨o', e2⟩ := coord_loop hp (by omega) hok (by omega) hR.lt hxo l.length k 0 [] (by omega) (by omega) (by omega) rfl
    unfold impl_contains.f impl_coordinates.f
    rw [e1, Option.bind_some, pivList_length]
    have e3 : impl_coordinates.l0 k x [] x (pivList P l.length) l.length 0 q m l = some (o', !((restTo q l P x l.length).any notNull)) := e2
    rw [e3, Option.bind_some]
theorem contains_chain {K : Nat} {p n : Int} {l : List (List Int)} {x : List Int} {b : Bool} (h1 : ¬ (x.length : Int) > 1048576) {z : Int} (e0 : laws_szSpace.f K p n l 1048576 = some z) (hz : ¬ z < 0) (t : laws_toSpace.f K p n l = some (p, n, l)) (c : laws_toInt64S.f K x = some x)
    (e1 : spec_ContainsVector.f K p n l x = some b) (e2 : impl_ContainsVector.f K p n l x = some b) (q : laws_eqSpace.f K p n l p n l = some true) (e : laws_eqInt64S.f K x x = some true) : laws_FnExactContainsVector.f K p n l x = some true := by
  unfold laws_FnExactContainsVector.f
  rw [if_neg h1, e0, Option.bind_some, if_neg hz, t, Option.bind_some]
  dsimp only
  rw [c, Option.bind_some, e1, Option.bind_some, Option.bind_some]
  dsimp only
  rw [Option.bind_some, e2, Option.bind_some, if_neg (by simp), Option.bind_some]
  dsimp only
  rw [q, Option.bind_some, if_pos rfl, Option.bind_some, e, Option.bind_some, if_pos rfl]
theorem FnExactContainsVector_pure : laws_FnExactContainsVector.Pure := by
  intro p n l x _ _ hl hr hxl _ hxw
  obtain ⟨K, hK⟩ : ∃ K : Nat, 74000000 ≤ K := ⟨74000000, Nat.le_refl _⟩
  refine ⟨K, ?_⟩
  by_cases hx : (x.length : Int) > 1048576
  · unfold laws_FnExactContainsVector.f
    rw [if_pos hx]
  obtain ⟨z, hz, hz1, hz2⟩ := szSpace_tells p n hl (fun r h => (hr r h).1) (a := 1048576) (by omega) (by omega) (k := K) (by omega)
  by_cases e : z < 0
  · unfold laws_FnExactContainsVector.f
    rw [if_neg hx, hz, Option.bind_some, if_pos e]
  have b : l.length ≤ 1048576 ∧ ∀ r ∈ l, r.length ≤ 1048576 := (hz2.resolve_left e).imp (by omega) (fun h r hm => by have := h r hm; omega)
  have t : laws_toSpace.f K p n l = some (p, n, l) := by unfold laws_toSpace.f; rw [toSS_tells b.1 b.2 (by omega), Option.bind_some]
  have q : laws_eqSpace.f K p n l p n l = some true := by unfold laws_eqSpace.f; rw [if_pos rfl, if_pos rfl, eqSS_tells b.1 b.2 (by omega), Option.bind_some, decide_eq_true rfl, if_pos rfl]
  have c : laws_toInt64S.f K x = some x := copy_tells (by omega) (by omega)
  have ee : laws_eqInt64S.f K x x = some true := by rw [eq_tells (by omega) (by omega), decide_eq_true rfl]
  have both : ∃ r, spec_ContainsVector.f K p n l x = some r ∧ impl_ContainsVector.f K p n l x = some r := by
    unfold spec_ContainsVector.f impl_ContainsVector.f
    rw [specOkSpace_tells p n b.1 b.2 hK, implValidSpace_tells p n b.1 hK, Option.bind_some, Option.bind_some]
    by_cases hs : spaceOk p n l = true
    · rw [if_pos hs, if_pos hs]
      unfold spaceOk at hs
      rw [Bool.and_eq_true, Bool.and_eq_true, Bool.and_eq_true, decide_eq_true_eq, decide_eq_true_eq] at hs
      obtain ⟨hp, hn, hv, hb⟩ := hs
      rw [specVec_tells hp hn.2 (by omega) (by omega), impl_areVectors.vec, Option.bind_some, Option.bind_some]
      by_cases hxv : rowVec n p x = true
      · rw [if_pos hxv, if_pos hxv]
        obtain ⟨r, g1, g2⟩ := has_same hp hn hv hb hxv
        rw [g1 K hK, g2 K hK, Option.bind_some]
        exact ⟨r, rfl, rfl⟩
      · rw [if_neg hxv, if_neg hxv]
        exact ⟨false, rfl, rfl⟩
    · rw [if_neg hs, if_neg hs]
      exact ⟨false, rfl, rfl⟩
  obtain ⟨r, e1, e2⟩ := both
  exact contains_chain hx hz e t c e1 e2 q ee
end Go.Proofs.Ytmbbjmkcbpefhaa.F
namespace Go.Proofs.Ytmbbjmkcbpefhaa.Pure
theorem FnExactContainsVector : F.laws_FnExactContainsVector.Pure := F.FnExactContainsVector_pure
end Go.Proofs.Ytmbbjmkcbpefhaa.Pure
end
