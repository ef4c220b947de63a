-- Texts of this claim, merged by pack.py (a program of this session's).
import Derived.Test.YtoibkfdmcajieaaQFnExactSpaceOf1
import Derived.Test.YtoibkfdmcajieaaQFnExactSpaceOf2
import Derived.Test.YtoibkfdmcajieaaQFnExactSpaceOf10
import Derived.Test.YtoibkfdmcajieaaQFnExactSpaceOf9
import Derived.KernelRfl
import Derived.Test.YtoibkfdmcajieaaQFnExactSpaceOf3
import Derived.Test.YtoibkfdmcajieaaQFnExactSpaceOf4
import Derived.Test.YtoibkfdmcajieaaQFnExactSpaceOf7
import Derived.Test.YtoibkfdmcajieaaQFnExactSpaceOf8
import Derived.Test.YtoibkfdmcajieaaQFnExactSpaceOf0

section
set_option linter.unusedVariables false
set_option linter.unusedSimpArgs false
set_option linter.unusedSectionVars false
namespace Go.Proofs.Ytoibkfdmcajieaa.F
open Go.RowKit Go.Proofs.YtoibkfdmcajieaaW.PrintWords Go.Proofs.YtoibkfdmcajieaaW.PrintLast Go.Proofs.Ytoibkfdmcajieaa.Lin

theorem spec_elim_loopL {p : Int} (hp : isP p = true) {C : Nat} {rs : List (List Int)} (hm : rs.length ≤ 1048576) (hn : C ≤ 70) (hok : RowsOk p C rs) {ml : List Int} {mp m2 op o1 o2 : Int} (d : Nat) :
    ∀ k c ds, C - c = d → c ≤ C → d * 80000000 + 90000000 < k → 0 ≤ ds → ds < p → ((elimTo p rs c).2.1.length = c → ds = (elimTo p rs c).2.2) →
      ∃ ds', 0 ≤ ds' ∧ ds' < p ∧ ((elim p C rs).2.1.length = C → ds' = (elim p C rs).2.2) ∧
        spec_l03Reduced.l0 k p C (elimTo p rs c).2.1 ds ((elimTo p rs c).2.1.length : Int) c mp rs.length m2 ml op o1 o2 (tab rs.length C (cell (elimTo p rs c).1)) = some (op, o1, o2, tab rs.length C (cell (elim p C rs).1), (elim p C rs).2.1, ds') := by
  have h2 := isP_ge hp
  induction d with
  | zero =>
    intro k c ds hd hc hk d0 d1 hds
    obtain ⟨k, rfl⟩ : ∃ m, k = m + 1 := ⟨k - 1, by omega⟩
    obtain ⟨k, rfl⟩ : ∃ m, k = m + 1 := ⟨k - 1, by omega⟩
    obtain rfl : c = C := by omega
    refine ⟨ds, d0, d1, hds, ?_⟩
    simp only [spec_l03Reduced.l0, spec_l03Reduced.j1]
    rw [if_neg (nlt_nat (Nat.le_refl _)), if_neg (by simp)]
    rfl
  | succ d ih =>
    intro k c ds hd hc hk d0 d1 hds
    obtain ⟨k, rfl⟩ : ∃ m, k = m + 1 := ⟨k - 1, by omega⟩
    obtain ⟨k, rfl⟩ : ∃ m, k = m + 1 := ⟨k - 1, by omega⟩
    have hcn : c < C := by omega
    have hk2 : (d + 1) * 80000000 = d * 80000000 + 80000000 := Nat.succ_mul _ _
    rw [hk2] at hk
    clear hk2
    generalize d * 80000000 = D at hk ih
    obtain ⟨t1, t2, t7, hle, t6, t8⟩ := elimTo_small hp hok c hc
    by_cases hfull : (elimTo p rs c).2.1.length < rs.length
    · have ih2 := fun k' ds' => ih k' (c + 1) ds' (by omega) (by omega)
      rw [elimTo_succ] at ih2
      generalize elimTo p rs c = s at *
      obtain ⟨A, piv, det⟩ := s
      dsimp only at *
      have hf := rangeC h2.1 t1
      simp only [spec_l03Reduced.l0, spec_l03Reduced.j1]
      rw [if_pos (lt_nat hcn), if_pos (by simpa using hfull)]
      obtain ⟨k1, q, a1, a2, a3, a4, a5, a6⟩ := find_loopL (p := p) (R := rs.length) (C := C) (piv := piv) (ml := ml) (det := ds) (mp := mp) (m2 := m2) (op := op) (o1 := o1) (o2 := o2) hm hn (cell A) (row := piv.length) hcn (rs.length - piv.length) k piv.length rfl (by omega) (by omega) (fun i h1 h3 => by omega)
      rw [a6]
      clear a6
      obtain ⟨k1, rfl⟩ : ∃ m, k1 = m + 1 := ⟨k1 - 1, by omega⟩
      simp only [spec_l03Reduced.j3]
      by_cases eq : q = rs.length
      · rw [if_pos (by rw [eq]), w64_succ (n := 70) (by omega) (by omega)]
        rw [elimStep_none (find_none (fun i h1 h3 => a4 i h1 (by omega)))] at ih2
        dsimp only at ih2
        exact ih2 k1 ds (by omega) d0 d1 (fun h => by omega)
      · have hqR : q < rs.length := by omega
        have hne := a5 hqR
        have hfs := find_some a2 (by omega) a4 hne
        have hst : elimStep p (A, piv, det) c = (clearAll p c piv.length (((if q - piv.length = 0 then A else swapRows A piv.length (piv.length + (q - piv.length))).getD piv.length []).map (fun x => pinv p (cell (if q - piv.length = 0 then A else swapRows A piv.length (piv.length + (q - piv.length))) piv.length c) * x % p)) ((if q - piv.length = 0 then A else swapRows A piv.length (piv.length + (q - piv.length))).set piv.length (((if q - piv.length = 0 then A else swapRows A piv.length (piv.length + (q - piv.length))).getD piv.length []).map (fun x => pinv p (cell (if q - piv.length = 0 then A else swapRows A piv.length (piv.length + (q - piv.length))) piv.length c) * x % p))), piv ++ [(c : Int)], (if q - piv.length = 0 then det else -det % p) * cell (if q - piv.length = 0 then A else swapRows A piv.length (piv.length + (q - piv.length))) piv.length c % p) := by
          unfold elimStep; simp only [hfs]
        rw [hst] at ih2
        clear hst
        dsimp only at ih2
        rw [if_neg (ne_nat eq)]
        by_cases e : q = piv.length
        · rw [if_pos (by rw [e])]
          have e0 : q - piv.length = 0 := by omega
          simp only [e0, if_true] at ih2
          obtain ⟨k2, b1, b2⟩ := step5L (p := p) (R := rs.length) (C := C) (piv := piv) (ml := ml) (det := ds) (mp := mp) (m2 := m2) (op := op) (o1 := o1) (o2 := o2) hp hm hn (cell A) hf (row := piv.length) (c := c) hfull hcn (by omega) d0 (by omega) (k := k1) (by omega)
          rw [b2, ← tab_congr (fun i j hi hj => cell_pivot h2.1 t1 (top := piv.length) (c := c) (by omega) hcn (by omega) hj)]
          have := ih2 k2 (ds * cell A piv.length c % p) (by omega) (Int.emod_nonneg _ (by omega)) (Int.emod_lt_of_pos _ (by omega)) (fun h => by
            rw [hds (by simp at h; omega)])
          simpa using this
        · rw [if_neg (ne_nat e)]
          have e0 : ¬ q - piv.length = 0 := by omega
          have e1 : piv.length + (q - piv.length) = q := by omega
          simp only [if_neg e0, e1] at ih2
          have hokW := RowsOk.swap t1 (a := piv.length) (b := q) (by omega) (by omega)
          have hlW := swapRows_length A piv.length q
          have hsw : ∀ i j, sw (cell A) piv.length q i j = cell (swapRows A piv.length q) i j := fun i j => (cell_swap (by omega) (by omega) (by omega) i j).symm
          rw [w64_idV (x := p - ds) (by omega) (by omega)]
          obtain ⟨k3, g1, g2⟩ := swap_loopL (p := p) (R := rs.length) (C := C) (piv := piv) (ml := ml) (det := p - ds) (mp := mp) (m2 := m2) (op := op) (o1 := o1) (o2 := o2) hm hn (cell A) (row := piv.length) (c := c) (q := q) hqR hfull e C k1 0 (by omega) (by omega) (by omega)
          have g0 := tab_congr (r := rs.length) (c := C) (f := fun a b => if b < 0 then sw (cell A) piv.length q a b else cell A a b) (g := cell A) (fun a b ha hb => by rw [if_neg (Nat.not_lt_zero _)])
          rw [g0, tab_congr (g := cell (swapRows A piv.length q)) (fun a b _ _ => hsw a b)] at g2
          have gz : ((0 : Nat) : Int) = 0 := rfl
          rw [gz] at g2
          rw [g2]
          obtain ⟨k2, b1, b2⟩ := step5L (p := p) (R := rs.length) (C := C) (piv := piv) (ml := ml) (det := p - ds) (mp := mp) (m2 := m2) (op := op) (o1 := o1) (o2 := o2) hp hm hn (cell (swapRows A piv.length q)) (rangeC h2.1 hokW) (row := piv.length) (c := c) hfull hcn (by omega) (by omega) (by omega) (k := k3) (by omega)
          rw [b2, ← tab_congr (fun i j hi hj => cell_pivot h2.1 hokW (top := piv.length) (c := c) (by omega) hcn (by omega) hj)]
          have := ih2 k2 ((p - ds) * cell (swapRows A piv.length q) piv.length c % p) (by omega) (Int.emod_nonneg _ (by omega)) (Int.emod_lt_of_pos _ (by omega)) (fun h => by
            rw [hds (by simp at h; omega)]
            rw [Int.mul_emod, ← Int.emod_emod_of_dvd (p - det) (Int.dvd_refl p), show (p - det) % p = -det % p by rw [show p - det = -det + p by omega, Int.add_emod_right], ← Int.mul_emod])
          simpa using this
    · have hA : (elimTo p rs c).1.length = (elimTo p rs c).2.1.length := by omega
      obtain ⟨s1, s2⟩ := elimTo_stop hA (C - c)
      rw [show c + (C - c) = C by omega] at s1 s2
      refine ⟨ds, d0, d1, fun h => ?_, ?_⟩
      · exfalso
        have : (elimTo p rs C).2.1.length = C := h
        rw [s2] at this
        omega
      · simp only [spec_l03Reduced.l0, spec_l03Reduced.j1]
        rw [if_pos (lt_nat hcn), if_neg (by simpa using hfull)]
        unfold elim
        rw [s1, s2]
theorem specElim_tellsL {p : Int} (hp : isP p = true) {R C : Nat} {l : List Int} (hR : R ≤ 1048576) (hC : C ≤ 70) (hl : l.length = R * C) (hv : ∀ j, 0 ≤ l.getD j 0 ∧ l.getD j 0 < p) {k : Nat} (hk : 6000000000 ≤ k) :
    ∃ ds, 0 ≤ ds ∧ ds < p ∧ ((elim p C (rowsM R C l)).2.1.length = C → ds = (elim p C (rowsM R C l)).2.2) ∧
      spec_l03Reduced.f k p R C l = some (p, (R : Int), (C : Int), tab R C (cell (elim p C (rowsM R C l)).1), (elim p C (rowsM R C l)).2.1, ds) := by
  have h2 := isP_ge hp
  have hm : R * C ≤ 1048576 * 70 := Nat.mul_le_mul hR hC
  have hb : (C - 0) * 80000000 ≤ 70 * 80000000 := Nat.mul_le_mul (by omega) (Nat.le_refl _)
  obtain ⟨ds, a1, a2, a3, a4⟩ := spec_elim_loopL (p := p) hp (C := C) (rs := rowsM R C l) (ml := l) (mp := p) (m2 := C) (op := p) (o1 := R) (o2 := C) (by rw [rowsM_length]; exact hR) hC (rowsM_ok hv) (C - 0) k 0 1 rfl (by omega) (by omega) (by omega) (by omega) (fun _ => rfl)
  refine ⟨ds, a1, a2, a3, ?_⟩
  unfold spec_l03Reduced.f spec_l00Own.f
  simp only [Option.bind_some, List.nil_append, List.length_nil]
  rw [if_pos (by omega), Option.bind_some]
  rw [rowsM_length] at a4
  rw [← a4]
  show _ = spec_l03Reduced.l0 k p C [] 1 0 0 p R C l p R C (tab R C (cell (rowsM R C l)))
  rw [rowsM_tab hl]

theorem basisS_tellsL {p : Int} (hp : isP p = true) {n : Nat} (hn : n ≤ 70) {rs : List (List Int)} (hok : RowsOk p n rs) (hm : rs.length ≤ 1048576) {k : Nat} (hk : 6000000000 ≤ k) : spec_l04Basis.f k p n rs = some (basisOf p n rs) := by
  have hp2 := (isP_ge hp).1
  obtain ⟨t1, t2, t3, t4, _, _⟩ := elimTo_small hp hok n (Nat.le_refl _)
  have hl : rs.flatten.length = rs.length * n := by rw [flatten_rows hok, tab_length]
  have hv : ∀ j, 0 ≤ rs.flatten.getD j 0 ∧ rs.flatten.getD j 0 < p := fun j => by
    by_cases hj : j < rs.flatten.length
    · obtain ⟨r, hr, hx⟩ := List.mem_flatten.mp (getD_mem (d := 0) hj)
      exact (hok r hr).2 _ hx
    · rw [List.getD_eq_getElem?_getD, List.getElem?_eq_none (by omega)]; simp; omega
  obtain ⟨ds, _, _, _, h⟩ := specElim_tellsL hp hm hn hl hv (k := k) (by omega)
  rw [rowsM_self hok] at h
  unfold spec_l04Basis.f
  rw [l04Rows_tells hn hok (by omega) (by omega), Option.bind_some]
  show Option.bind (spec_l03Reduced.f k p (rs.length : Int) (n : Int) rs.flatten) _ = _
  rw [h, Option.bind_some]
  have e1 : (elim p n rs).1.length = rs.length := t2
  have e2 : (elim p n rs).2.1.length ≤ rs.length := t4
  have e3 : RowsOk p n (elim p n rs).1 := t1
  have b := basis_loop (p := p) hn (q := p) (Q := (elim p n rs).1) e3 (by omega) (piv := (elim p n rs).2.1) (by omega) (rs.length : Int) (n : Int) (elim p n rs).2.1.length k 0 (by omega) (by omega) (by omega)
  rw [e1] at b
  exact b

/-- All numbers of a list are numbers modulo p. -/
def allIn (l : List Int) (p : Int) : Bool := l.all fun x => decide (0 ≤ x) && decide (x < p)
theorem allIn_iff {l : List Int} {p : Int} : allIn l p = true ↔ ∀ x, x ∈ l → 0 ≤ x ∧ x < p := by unfold allIn; simp
theorem areElements_tells {l : List Int} {p : Int} (hp : isP p = true) : impl_areElements.f l p = some (allIn l p) := by
  have := isP_ge hp
  unfold impl_areElements.f allIn
  rw [w64_id (x := p - 1) (by omega) (by omega)]
  congr 1
  induction l with
  | nil => rfl
  | cons x l ih =>
    simp only [List.any_cons, List.all_cons, Bool.not_or, Bool.not_not]
    rw [ih]
    congr 2
    rw [decide_eq_decide]; omega

theorem allIn_drop {l : List Int} {p : Int} {i : Nat} (h : i < l.length) : allIn (l.drop i) p = (decide (0 ≤ l.getD i 0 ∧ l.getD i 0 ≤ p - 1) && allIn (l.drop (i + 1)) p) := by
  rw [List.drop_eq_getElem_cons h]
  unfold allIn
  simp only [List.all_cons]
  congr 1
  rw [getD_at h, ← Bool.decide_and, decide_eq_decide]; omega
theorem numbers_loop {l : List Int} {p : Int} (hp : 2 ≤ p) (hp' : p ≤ 251) (hl : l.length ≤ 35184372088832) (d : Nat) : ∀ (k i : Nat), l.length - i = d → i ≤ l.length → d < k →
    spec_l02Numbers.l0 k l p i = some (allIn (l.drop i) p && decide (l.length ≤ 64)) := by
  have e0 : wrap64 (p - 1) = p - 1 := w64_id (by omega) (by omega)
  induction d with
  | zero =>
    intro k i hd hi hk
    obtain ⟨k, rfl⟩ : ∃ m, k = m + 1 := ⟨k - 1, by omega⟩
    simp only [spec_l02Numbers.l0]
    rw [if_neg (by omega), List.drop_eq_nil_of_le (by omega)]
    simp only [allIn, List.all_nil, Bool.true_and]
    congr 1; rw [decide_eq_decide]; omega
  | succ d ih =>
    intro k i hd hi hk
    obtain ⟨k, rfl⟩ : ∃ m, k = m + 1 := ⟨k - 1, by omega⟩
    simp only [spec_l02Numbers.l0]
    rw [if_pos (by omega), if_pos (by omega), rd_nat, e0, in_tells, w64_succ (n := l.length) (by omega) hl, ih k (i + 1) (by omega) (by omega) (by omega), allIn_drop (show i < l.length by omega)]
    simp only [Option.bind_some]
    by_cases h : 0 ≤ l.getD i 0 ∧ l.getD i 0 ≤ p - 1
    · rw [decide_eq_true h]; simp
    · rw [decide_eq_false h]; simp
theorem numbers_tells {l : List Int} {p : Int} (hp : 2 ≤ p) (hp' : p ≤ 251) (hl : l.length ≤ 35184372088832) {k : Nat} (hk : l.length < k) : spec_l02Numbers.f k l p = some (decide (l.length ≤ 64) && allIn l p) := by
  unfold spec_l02Numbers.f
  have := numbers_loop hp hp' hl l.length k 0 (by omega) (by omega) hk
  rw [show ((0 : Int)) = ((0 : Nat) : Int) by rfl, this, List.drop_zero, Bool.and_comm]

theorem rowVec_eq {p : Int} (hp : isP p = true) (n : Int) (x : List Int) : rowVec n p x = (decide ((x.length : Int) = n) && allIn x p) := by
  have h := areElements_tells (l := x) hp
  unfold impl_areElements.f at h
  unfold rowVec
  rw [Option.some.inj h]
theorem rowVec_ok {p : Int} (hp : isP p = true) {n : Nat} {x : List Int} : rowVec n p x = true ↔ RowOk p n x := by
  rw [rowVec_eq hp, Bool.and_eq_true, decide_eq_true_eq, allIn_iff]
  unfold RowOk
  exact ⟨fun h => ⟨by omega, h.2⟩, fun h => ⟨by omega, h.2⟩⟩
theorem not_any_not {α : Type} (f : α → Bool) (l : List α) : (!(l.any fun x => !f x)) = l.all f := by
  induction l with
  | nil => rfl
  | cons x l ih => rw [List.any_cons, List.all_cons, ← ih]; cases f x <;> simp
theorem areV_tells (rs : List (List Int)) (n p : Int) : impl_areVectors.f rs n p = some (rs.all (rowVec n p)) := by
  unfold impl_areVectors.f
  rw [not_any_not]
theorem rowsOk_all {p : Int} (hp : isP p = true) {n : Nat} {rs : List (List Int)} : rs.all (rowVec n p) = true ↔ RowsOk p n rs := by
  rw [List.all_eq_true]
  exact ⟨fun h r hr => (rowVec_ok hp).mp (h r hr), fun h r hr => (rowVec_ok hp).mpr (h r hr)⟩
theorem specVec_tells {p : Int} (hp : isP p = true) {n : Int} (hn : n ≤ 32) {x : List Int} (hx : x.length ≤ 1048576) {k : Nat} (hk : 1048577 ≤ k) : spec_l04Vector.f k p n x = some (rowVec n p x) := by
  have h2 := isP_ge hp
  unfold spec_l04Vector.f
  rw [numbers_tells h2.1 h2.2 (by omega) (by omega), Option.bind_some, rowVec_eq hp]
  by_cases e : (x.length : Int) = n
  · have h3 : x.length ≤ 64 := by omega
    rw [decide_eq_true h3, decide_eq_true e, Bool.true_and, e]
    cases allIn x p <;> simp
  · rw [decide_eq_false e, Bool.false_and]
    by_cases e2 : (decide (x.length ≤ 64) && allIn x p) = true
    · rw [if_pos e2]; simp [e]
    · rw [if_neg e2]
theorem specVecs_loop {p : Int} (hp : isP p = true) {n : Int} (hn : n ≤ 32) {rs : List (List Int)} (hm : rs.length ≤ 1048576) (hr : ∀ r ∈ rs, r.length ≤ 1048576) (d : Nat) : ∀ (k i : Nat), rs.length - i = d → i ≤ rs.length → d + 1048577 < k →
    spec_l04Vectors.l0 k p n rs i = some ((rs.drop i).all (rowVec n p)) := by
  induction d with
  | zero =>
    intro k i hd hi hk
    obtain ⟨k, rfl⟩ : ∃ m, k = m + 1 := ⟨k - 1, by omega⟩
    simp only [spec_l04Vectors.l0]
    rw [if_neg (by omega), List.drop_eq_nil_of_le (by omega)]
    rfl
  | succ d ih =>
    intro k i hd hi hk
    obtain ⟨k, rfl⟩ : ∃ m, k = m + 1 := ⟨k - 1, by omega⟩
    have hlt : i < rs.length := by omega
    simp only [spec_l04Vectors.l0]
    rw [if_pos (by omega), if_pos (by omega), rdS_nat, specVec_tells hp hn (hr _ (row_mem hlt)) (by omega), Option.bind_some, w64_succ (n := rs.length) hlt (by omega), ih k (i + 1) (by omega) (by omega) (by omega),
      List.drop_eq_getElem_cons hlt, List.all_cons, getD_at hlt]
    cases rowVec n p rs[i] <;> simp
theorem specVecs_tells {p : Int} (hp : isP p = true) {n : Int} (hn : n ≤ 32) {rs : List (List Int)} (hm : rs.length ≤ 1048576) (hr : ∀ r ∈ rs, r.length ≤ 1048576) {k : Nat} (hk : 2097154 < k) : spec_l04Vectors.f k p n rs = some (rs.all (rowVec n p)) := by
  unfold spec_l04Vectors.f
  exact specVecs_loop hp hn hm hr rs.length k 0 (by omega) (by omega) (by omega)

/-- The marks: m, m + 1, .. -/
def iota (m : Int) (n : Nat) : List Int := (List.range n).map (fun j : Nat => m + (j : Int))
theorem iota_length (m : Int) (n : Nat) : (iota m n).length = n := by unfold iota; simp
theorem iota_getD (m : Int) {n j : Nat} (h : j < n) : (iota m n).getD j 0 = m + j := by unfold iota; simp [List.getD_eq_getElem?_getD, h]
theorem mark_loop {m0 : Int} {n : Nat} (hm : 0 ≤ m0) (hm' : m0 + n ≤ 4611686018427387904) (hn : n ≤ 35184372088832) (d : Nat) : ∀ (k i : Nat) (acc : List Int) (m : Int), n - i = d → i ≤ n → d < k → acc.length = n → m = m0 + i → (∀ j, j < i → acc.getD j 0 = m0 + j) →
    laws_markInt64S.l0 k acc m i = some (m0 + n, iota m0 n) := by
  induction d with
  | zero =>
    intro k i acc m hd hi hk ha he h
    obtain ⟨k, rfl⟩ : ∃ m, k = m + 1 := ⟨k - 1, by omega⟩
    simp only [laws_markInt64S.l0]
    rw [if_neg (by omega)]
    have e1 : m = m0 + n := by omega
    have e2 : acc = iota m0 n := ext_getD (by rw [iota_length, ha]) (fun j hj => by rw [h j (by omega), iota_getD m0 (by omega)])
    rw [e1, e2]
  | succ d ih =>
    intro k i acc m hd hi hk ha he h
    obtain ⟨k, rfl⟩ : ∃ m, k = m + 1 := ⟨k - 1, by omega⟩
    simp only [laws_markInt64S.l0]
    rw [if_pos (by omega), if_pos (by omega), w64_succ (n := n) (by omega) hn, Int.toNat_natCast, w64_idV (x := m + 1) (by omega) (by omega)]
    refine ih k (i + 1) _ (m + 1) (by omega) (by omega) (by omega) (by simp [ha]) (by omega) (fun j hj => ?_)
    rw [getD_set _ _ _ _ (by omega)]
    by_cases e : j = i
    · rw [if_pos e, e]; exact he
    · rw [if_neg e]; exact h j (by omega)
theorem mark_tells {l : List Int} {m : Int} (hm : 0 ≤ m) (hm' : m + l.length ≤ 4611686018427387904) (hl : l.length ≤ 35184372088832) {k : Nat} (hk : l.length < k) : laws_markInt64S.f k l m = some (m + l.length, iota m l.length) := by
  unfold laws_markInt64S.f
  exact mark_loop hm hm' hl l.length k 0 l m (by omega) (by omega) hk rfl (by omega) (fun j hj => by omega)
theorem held_loop {m0 : Int} {n : Nat} (hm : 0 ≤ m0) (hm' : m0 + n ≤ 4611686018427387904) (hn : n ≤ 35184372088832) (d : Nat) : ∀ (k i : Nat) (m : Int), n - i = d → i ≤ n → d < k → m = m0 + i →
    laws_heldInt64S.l0 k (iota m0 n) m i = some (m0 + n) := by
  induction d with
  | zero =>
    intro k i m hd hi hk he
    obtain ⟨k, rfl⟩ : ∃ m, k = m + 1 := ⟨k - 1, by omega⟩
    simp only [laws_heldInt64S.l0, iota_length]
    rw [if_neg (by omega)]
    have e1 : m = m0 + n := by omega
    rw [e1]
  | succ d ih =>
    intro k i m hd hi hk he
    obtain ⟨k, rfl⟩ : ∃ m, k = m + 1 := ⟨k - 1, by omega⟩
    simp only [laws_heldInt64S.l0, iota_length]
    rw [if_pos (by omega), if_pos (by omega), rd_nat, iota_getD m0 (by omega), if_pos he.symm, w64_succ (n := n) (by omega) hn, w64_idV (x := m + 1) (by omega) (by omega)]
    exact ih k (i + 1) (m + 1) (by omega) (by omega) (by omega) (by omega)
theorem held_tells {m : Int} {n : Nat} (hm : 0 ≤ m) (hm' : m + n ≤ 4611686018427387904) (hn : n ≤ 35184372088832) {k : Nat} (hk : n < k) : laws_heldInt64S.f k (iota m n) m = some (m + n) := by
  unfold laws_heldInt64S.f
  exact held_loop hm hm' hn n k 0 m (by omega) (by omega) hk (by omega)

/-- Numbers in rows, one after another. -/
def marksR (m : Int) : List (List Int) → List (List Int)
  | [] => []
  | r :: rs => iota m r.length :: marksR (m + r.length) rs
def totalR : List (List Int) → Nat
  | [] => 0
  | r :: rs => r.length + totalR rs
theorem totalR_le {B : Nat} : ∀ {l : List (List Int)}, (∀ r ∈ l, r.length ≤ B) → totalR l ≤ l.length * B
  | [], _ => by simp [totalR]
  | r :: rs, h => by
    have h1 := totalR_le (l := rs) (fun x hx => h x (List.mem_cons_of_mem _ hx))
    have h2 := h r List.mem_cons_self
    simp only [totalR, List.length_cons, Nat.succ_mul]
    omega
theorem marksR_length (m : Int) (l : List (List Int)) : (marksR m l).length = l.length := by
  induction l generalizing m with
  | nil => rfl
  | cons r rs ih => simp [marksR, ih]
theorem rdR_at (pre : List (List Int)) (r : List Int) (rs : List (List Int)) : rd_L1 (pre ++ r :: rs) (pre.length : Int) = r := by
  rw [rdS_nat, getD_at (by simp)]; simp
theorem setR_at (pre : List (List Int)) (r r' : List Int) (rs : List (List Int)) : (pre ++ r :: rs).set (pre.length : Int).toNat r' = (pre ++ [r']) ++ rs := by
  rw [Int.toNat_natCast]; simp
theorem markR_loop {B : Nat} (hB : B ≤ 35184372088832) (rs : List (List Int)) : ∀ (k : Nat) (pre : List (List Int)) (m : Int), (∀ r ∈ rs, r.length ≤ B) → pre.length + rs.length ≤ 35184372088832 → rs.length + B + 1 < k → 0 ≤ m → m + totalR rs ≤ 4611686018427387904 →
    laws_markInt64SS.l0 k (pre ++ rs) m (pre.length : Int) = some (m + totalR rs, pre ++ marksR m rs) := by
  induction rs with
  | nil =>
    intro k pre m _ _ hk _ _
    obtain ⟨k, rfl⟩ : ∃ m, k = m + 1 := ⟨k - 1, by omega⟩
    simp only [laws_markInt64SS.l0]
    rw [if_neg (by simp)]
    simp [totalR, marksR]
  | cons r rs ih =>
    intro k pre m hr hl hk hm hm'
    obtain ⟨k, rfl⟩ : ∃ m, k = m + 1 := ⟨k - 1, by omega⟩
    have h1 := hr r List.mem_cons_self
    simp only [totalR, List.length_cons] at hm' hl hk
    simp only [laws_markInt64SS.l0]
    rw [if_pos (by simp; omega), if_pos (by omega), rdR_at, mark_tells hm (by omega) (by omega) (by omega), Option.bind_some]
    dsimp only
    rw [setR_at, w64_succ (n := 35184372088832) (by omega) (by omega), show (((pre.length + 1 : Nat)) : Int) = (((pre ++ [iota m r.length]).length : Nat) : Int) by simp]
    have e := ih k (pre ++ [iota m r.length]) (m + r.length) (fun x hx => hr x (List.mem_cons_of_mem _ hx)) (by simp; omega) (by omega) (by omega) (by omega)
    rw [e]
    simp only [totalR, marksR, List.append_assoc, List.singleton_append, Option.some.injEq, Prod.mk.injEq, and_true]
    omega
theorem heldR_loop {B : Nat} (hB : B ≤ 35184372088832) (rs : List (List Int)) : ∀ (k : Nat) (pre : List (List Int)) (m : Int), (∀ r ∈ rs, r.length ≤ B) → pre.length + rs.length ≤ 35184372088832 → rs.length + B + 1 < k → 0 ≤ m → m + totalR rs ≤ 4611686018427387904 →
    laws_heldInt64SS.l0 k (pre ++ marksR m rs) m (pre.length : Int) = some (m + totalR rs) := by
  induction rs with
  | nil =>
    intro k pre m _ _ hk _ _
    obtain ⟨k, rfl⟩ : ∃ m, k = m + 1 := ⟨k - 1, by omega⟩
    simp only [laws_heldInt64SS.l0]
    rw [if_neg (by simp [marksR])]
    simp [totalR]
  | cons r rs ih =>
    intro k pre m hr hl hk hm hm'
    obtain ⟨k, rfl⟩ : ∃ m, k = m + 1 := ⟨k - 1, by omega⟩
    have h1 := hr r List.mem_cons_self
    simp only [totalR, List.length_cons] at hm' hl hk
    show laws_heldInt64SS.l0 (k + 1) (pre ++ iota m r.length :: marksR (m + r.length) rs) m (pre.length : Int) = _
    simp only [laws_heldInt64SS.l0]
    rw [if_pos (show (pre.length : Int) < (((pre ++ iota m r.length :: marksR (m + r.length) rs).length : Nat) : Int) by rw [List.length_append, List.length_cons]; omega), if_pos (by omega), rdR_at, held_tells hm (by omega) (by omega) (by omega), Option.bind_some, if_neg (by omega)]
    rw [w64_succ (n := 35184372088832) (by omega) (by omega), show (((pre.length + 1 : Nat)) : Int) = (((pre ++ [iota m r.length]).length : Nat) : Int) by simp]
    have e := ih k (pre ++ [iota m r.length]) (m + r.length) (fun x hx => hr x (List.mem_cons_of_mem _ hx)) (by simp; omega) (by omega) (by omega) (by omega)
    rw [show pre ++ iota m r.length :: marksR (m + r.length) rs = (pre ++ [iota m r.length]) ++ marksR (m + r.length) rs by simp, e]
    simp only [totalR, Option.some.injEq]
    omega
theorem markR_tells {l : List (List Int)} (hn : l.length ≤ 1048576) (hr : ∀ r ∈ l, r.length ≤ 1048576) {k : Nat} (hk : 2097154 < k) : laws_markInt64SS.f k l 1 = some (1 + (totalR l : Int), marksR 1 l) := by
  have ht := totalR_le hr
  have ht2 : l.length * 1048576 ≤ 1048576 * 1048576 := Nat.mul_le_mul hn (Nat.le_refl _)
  unfold laws_markInt64SS.f
  exact markR_loop (B := 1048576) (by omega) l k [] 1 hr (by simp; omega) (by omega) (by omega) (by omega)
theorem heldR_tells {l : List (List Int)} (hn : l.length ≤ 1048576) (hr : ∀ r ∈ l, r.length ≤ 1048576) {k : Nat} (hk : 2097154 < k) : laws_heldInt64SS.f k (marksR 1 l) 1 = some (1 + (totalR l : Int)) := by
  have ht := totalR_le hr
  have ht2 : l.length * 1048576 ≤ 1048576 * 1048576 := Nat.mul_le_mul hn (Nat.le_refl _)
  unfold laws_heldInt64SS.f
  exact heldR_loop (B := 1048576) (by omega) l k [] 1 hr (by simp; omega) (by omega) (by omega) (by omega)
end Go.Proofs.Ytoibkfdmcajieaa.F
end

section
namespace Go.Proofs.Ytoibkfdmcajieaa.F
open Go.RowKit Go.Proofs.YtoibkfdmcajieaaW.PrintWords Go.Proofs.YtoibkfdmcajieaaW.PrintLast Go.Proofs.YtoibkfdmcajieaaW.PrintMore
attribute [local go_sem] max2_int min2_int max_two min_two max_three min_three max_four min_four   -- for this text's walks alone
set_option linter.unusedVariables false
set_option linter.unusedSimpArgs false

/-! ### spec_l00Same: function 72 -/
def spec_l00Same.l0 : Nat → List Int → List Int → Int → Option (Bool)
  | 0, _, _, _ => none
  | k + 1, x0, x1, x5 => if x5 < (x0.length : Int) then (if 0 ≤ x5 then (if x5 < (x1.length : Int) then (if (rd x0 x5) = (rd x1 x5) then (spec_l00Same.l0 k x0 x1 (wrap64 (x5 + 1))) else (some false)) else (none)) else (none)) else (some true)
def spec_l00Same.f (k : Nat) (l0 : List Int) (l1 : List Int) : Option (Bool) := if (l0.length : Int) = (l1.length : Int) then (spec_l00Same.l0 k l0 l1 0) else (some false)
theorem spec_l00Same.mono_l : ∀ k, (∀ y0 y1 y2, LeO (spec_l00Same.l0 k y0 y1 y2) (spec_l00Same.l0 (k + 1) y0 y1 y2))
  | 0 => fun _ _ _ r h => by simp [spec_l00Same.l0] at h
  | k + 1 => by
    have ih0 := spec_l00Same.mono_l k
    · intro y0 y1 y2
      unfold spec_l00Same.l0
      repeat' first
      | (with_reducible exact ih0 _ _ _)
      | (with_reducible exact LeO.refl _)
      | (with_reducible exact LeO.none _)
      | (with_reducible refine LeO.ite ?_ ?_)
      | (with_reducible refine LeO.bind ?_ (fun _ => ?_))
      | exact ih0 _ _ _
      | exact LeO.none _
      | refine LeO.ite ?_ ?_
      | refine LeO.bind ?_ (fun _ => ?_)
theorem spec_l00Same.mono : ∀ a0 a1 k, LeO (spec_l00Same.f k a0 a1) (spec_l00Same.f (k + 1) a0 a1) := by
  intro a0 a1 k
  have ih0 := spec_l00Same.mono_l k
  unfold spec_l00Same.f
  repeat' first
      | (with_reducible exact ih0 _ _ _)
      | (with_reducible exact LeO.refl _)
      | (with_reducible exact LeO.none _)
      | (with_reducible refine LeO.ite ?_ ?_)
      | (with_reducible refine LeO.bind ?_ (fun _ => ?_))
      | exact ih0 _ _ _
      | exact LeO.none _
      | refine LeO.ite ?_ ?_
      | refine LeO.bind ?_ (fun _ => ?_)
theorem Z72.z2 {P : Prop} (h : P := by first | rfl | (simp; done) | (simp [*]; done)) : P := h
theorem Z72.z1 {P : Prop} (h : P := by repeat (first | exact Drawn0.refl _ | apply Drawn0.step)) : P := h
theorem Z72.z0 {P : Prop} (h : P := by first | (with_reducible assumption) | assumption) : P := h
set_option maxHeartbeats 8000000 in
set_option maxRecDepth 100000 in
theorem spec_l00Same.calls (k : Nat) (A0 : Option Addr) (c0 : Nat) (l0 : List Int) (A1 : Option Addr) (c1 : Nat) (l1 : List Int) (r : Bool) (w : World) (hr0 : Kd.C (Kd.int .i64) w A0 l0.length l0) (hc0 : l0.length ≤ c0) (hr1 : Kd.C (Kd.int .i64) w A1 l1.length l1) (hc1 : l1.length ≤ c1) (h : spec_l00Same.f k l0 l1 = some r) :
  Calls Try.prog 72 #[.slice A0 l0.length c0, .slice A1 l1.length c1] w fun e w' => e = .returned (.bool r) ∧ Drawn0 w w' := by
 have HR0 := Aside0.mk hr0
 have HC0 := Aside0.mk hc0
 clear hr0 hc0
 have HR1 := Aside0.mk hr1
 have HC1 := Aside0.mk hc1
 clear hr1 hc1
 have H : (if (l0.length : Int) = (l1.length : Int) then (spec_l00Same.l0 k l0 l1 0) else (some false)) = some r := h
 clear h
 by_cases c3 : (l0.length : Int) = (l1.length : Int)
 ·rw [if_pos c3] at H
  have c3b0 : ((l0.length : Int) == (l1.length : Int)) = true := beq_iff_eq.mpr c3
  have c3b1 : ((l0.length : Int) != (l1.length : Int)) = false := bne_eq_false_iff_eq.mpr c3
  have c3b2 : (l0.length == l1.length) = true := by first | simpa using c3 | (simp at c3 ⊢; omega)
  clear c3
  have H' := Aside0.mk H
  clear H
  go_enter Try.func72, Try.ntmps72
  go_wp2
  repeat (go_quiet (fail); try go_wp2)
  go_loopg [5] k (fun kq v5 w' => ∃ (x5_1 : Int), v5 = .int .i64 x5_1 ∧ Aside0 (spec_l00Same.l0 kq l0 l1 x5_1 = some r) ∧ Aside0 (kq ≤ k) ∧ Drawn0 w w')
  case atStart => exact ⟨(0), Z72.z2, H', ⟨Nat.le_refl _⟩, Z72.z1⟩
  case round =>
   clear H'
   try clear c1
   try clear p2
   try clear c3
   try clear c3b0
   try clear c3b1
   try clear c3b2
   obtain ⟨x5_1, rfl, HA, HK1, ⟨m1, rfl⟩⟩ := hrel
   cases gk with
   | zero => exact absurd HA.out (by simp [spec_l00Same.l0])
   | succ k1 =>
    have H := HA.out
    clear HA
    simp only [spec_l00Same.l0] at H
    by_cases c4 : x5_1 < (l0.length : Int)
    ·rw [if_pos c4] at H
     have c4b0 : decide (x5_1 < (l0.length : Int)) = true := decide_eq_true c4
     clear c4
     by_cases c5 : 0 ≤ x5_1
     ·rw [if_pos c5] at H
      have c5b0 : decide (0 ≤ x5_1) = true := decide_eq_true c5
      clear c5
      by_cases c6 : x5_1 < (l1.length : Int)
      ·rw [if_pos c6] at H
       have c6b0 : decide (x5_1 < (l1.length : Int)) = true := decide_eq_true c6
       clear c6
       by_cases c7 : (rd l0 x5_1) = (rd l1 x5_1)
       ·rw [if_pos c7] at H
        have c7b0 : ((rd l0 x5_1) == (rd l1 x5_1)) = true := beq_iff_eq.mpr c7
        have c7b1 : ((rd l0 x5_1) != (rd l1 x5_1)) = false := bne_eq_false_iff_eq.mpr c7
        clear c7
        have H' := Aside0.mk H
        clear H
        have p101 : 0 ≤ (x5_1 : Int) := of_decide_eq_true Z72.z0
        have q101 : x5_1 < (l0.length : Int) := of_decide_eq_true Z72.z0
        obtain ⟨ad101, e101, hx101_0⟩ := Kd.at_int HR0.out x5_1 p101 q101
        cases e101
        replace p101 := eq_true p101
        replace q101 := eq_true q101
        have p102 : 0 ≤ (x5_1 : Int) := of_decide_eq_true Z72.z0
        have q102 : x5_1 < (l1.length : Int) := of_decide_eq_true Z72.z0
        obtain ⟨ad102, e102, hx102_0⟩ := Kd.at_int HR1.out x5_1 p102 q102
        cases e102
        replace p102 := eq_true p102
        replace q102 := eq_true q102
        go_wp2
        repeat (go_quiet (fail); try go_wp2)
        go_roundg k1
        case measure => have := HK1.out; omega
        case rel => exact ⟨(wrap64 (x5_1 + 1)), Z72.z2, H', ⟨(by have := HK1.out; omega)⟩, Z72.z1⟩
       rw [if_neg c7] at H
       have c7b0 : ((rd l0 x5_1) == (rd l1 x5_1)) = false := beq_eq_false_iff_ne.mpr c7
       have c7b1 : ((rd l0 x5_1) != (rd l1 x5_1)) = true := bne_iff_ne.mpr c7
       obtain rfl := Option.some.inj H
       have p101 : 0 ≤ (x5_1 : Int) := of_decide_eq_true Z72.z0
       have q101 : x5_1 < (l0.length : Int) := of_decide_eq_true Z72.z0
       obtain ⟨ad101, e101, hx101_0⟩ := Kd.at_int HR0.out x5_1 p101 q101
       cases e101
       replace p101 := eq_true p101
       replace q101 := eq_true q101
       have p102 : 0 ≤ (x5_1 : Int) := of_decide_eq_true Z72.z0
       have q102 : x5_1 < (l1.length : Int) := of_decide_eq_true Z72.z0
       obtain ⟨ad102, e102, hx102_0⟩ := Kd.at_int HR1.out x5_1 p102 q102
       cases e102
       replace p102 := eq_true p102
       replace q102 := eq_true q102
       go_wp2
       repeat (go_quiet (fail); try go_wp2)
       go_ret
       exact ⟨Z72.z2, Z72.z1⟩
      rw [if_neg c6] at H
      exact absurd H (by simp)
     rw [if_neg c5] at H
     exact absurd H (by simp)
    rw [if_neg c4] at H
    have c4b0 : decide (x5_1 < (l0.length : Int)) = false := decide_eq_false c4
    clear c4
    obtain rfl := Option.some.inj H
    go_wp2
    repeat (go_quiet (fail); try go_wp2)
    go_ret
    exact ⟨Z72.z2, Z72.z1⟩
 rw [if_neg c3] at H
 have c3b0 : ((l0.length : Int) == (l1.length : Int)) = false := beq_eq_false_iff_ne.mpr c3
 have c3b1 : ((l0.length : Int) != (l1.length : Int)) = true := bne_iff_ne.mpr c3
 have c3b2 : (l0.length == l1.length) = false := by first | simpa using c3 | (simp at c3 ⊢; omega)
 obtain rfl := Option.some.inj H
 go_enter Try.func72, Try.ntmps72
 go_wp2
 repeat (go_quiet (fail); try go_wp2)
 go_ret
 exact ⟨Z72.z2, Z72.z1⟩


/-! ### spec_l04SameRows: function 50 -/
def spec_l04SameRows.l0 : Nat → List (List Int) → List (List Int) → Int → Option (Bool)
  | 0, _, _, _ => none
  | k + 1, x0, x1, x5 => if x5 < (x0.length : Int) then (if 0 ≤ x5 then (if x5 < (x1.length : Int) then ((spec_l00Same.f k (rd_L1 x0 x5) (rd_L1 x1 x5)).bind fun t103 => (if t103 = true then (spec_l04SameRows.l0 k x0 x1 (wrap64 (x5 + 1))) else (some false))) else (none)) else (none)) else (some true)
def spec_l04SameRows.f (k : Nat) (l0 : List (List Int)) (l1 : List (List Int)) : Option (Bool) := if (l0.length : Int) = (l1.length : Int) then (spec_l04SameRows.l0 k l0 l1 0) else (some false)
theorem spec_l04SameRows.mono_l : ∀ k, (∀ y0 y1 y2, LeO (spec_l04SameRows.l0 k y0 y1 y2) (spec_l04SameRows.l0 (k + 1) y0 y1 y2))
  | 0 => fun _ _ _ r h => by simp [spec_l04SameRows.l0] at h
  | k + 1 => by
    have ih0 := spec_l04SameRows.mono_l k
    · intro y0 y1 y2
      unfold spec_l04SameRows.l0
      repeat' first
      | (with_reducible exact ih0 _ _ _)
      | (with_reducible exact spec_l00Same.mono _ _ _)
      | (with_reducible exact LeO.refl _)
      | (with_reducible exact LeO.none _)
      | (with_reducible refine LeO.ite ?_ ?_)
      | (with_reducible refine LeO.bind ?_ (fun _ => ?_))
      | exact ih0 _ _ _
      | exact spec_l00Same.mono _ _ _
      | exact LeO.none _
      | refine LeO.ite ?_ ?_
      | refine LeO.bind ?_ (fun _ => ?_)
theorem spec_l04SameRows.mono : ∀ a0 a1 k, LeO (spec_l04SameRows.f k a0 a1) (spec_l04SameRows.f (k + 1) a0 a1) := by
  intro a0 a1 k
  have ih0 := spec_l04SameRows.mono_l k
  unfold spec_l04SameRows.f
  repeat' first
      | (with_reducible exact ih0 _ _ _)
      | (with_reducible exact spec_l00Same.mono _ _ _)
      | (with_reducible exact LeO.refl _)
      | (with_reducible exact LeO.none _)
      | (with_reducible refine LeO.ite ?_ ?_)
      | (with_reducible refine LeO.bind ?_ (fun _ => ?_))
      | exact ih0 _ _ _
      | exact spec_l00Same.mono _ _ _
      | exact LeO.none _
      | refine LeO.ite ?_ ?_
      | refine LeO.bind ?_ (fun _ => ?_)
theorem Z50.z4 {P : Prop} (h : P := by first | rfl | (simp; done) | (simp [*]; done)) : P := h
theorem Z50.z3 {P : Prop} (h : P := by repeat (first | exact Drawn0.refl _ | apply Drawn0.step)) : P := h
theorem Z50.z2 {P : Prop} (h : P := by first | (with_reducible assumption) | assumption) : P := h
theorem Z50.z1 {P : Prop} (h : P := by repeat (first | exact HR101_0.out | (with_reducible refine Kd.C_alloc ?_ _) | (with_reducible refine Kd.C_drewN ?_ _) | (with_reducible refine Kd.C_drew ?_))) : P := h
theorem Z50.z0 {P : Prop} (h : P := by repeat (first | exact HR102_0.out | (with_reducible refine Kd.C_alloc ?_ _) | (with_reducible refine Kd.C_drewN ?_ _) | (with_reducible refine Kd.C_drew ?_))) : P := h
set_option maxHeartbeats 8000000 in
set_option maxRecDepth 100000 in
theorem spec_l04SameRows.calls (k : Nat) (A0 : Option Addr) (c0 : Nat) (l0 : List (List Int)) (A1 : Option Addr) (c1 : Nat) (l1 : List (List Int)) (r : Bool) (w : World) (hr0 : Kd.C (Kd.slice 2 (Kd.int .i64)) w A0 l0.length l0) (hc0 : l0.length ≤ c0) (hr1 : Kd.C (Kd.slice 2 (Kd.int .i64)) w A1 l1.length l1) (hc1 : l1.length ≤ c1) (h : spec_l04SameRows.f k l0 l1 = some r) :
  Calls Try.prog 50 #[.slice A0 l0.length c0, .slice A1 l1.length c1] w fun e w' => e = .returned (.bool r) ∧ Drawn0 w w' := by
 have HR0 := Aside0.mk hr0
 have HC0 := Aside0.mk hc0
 clear hr0 hc0
 have HR1 := Aside0.mk hr1
 have HC1 := Aside0.mk hc1
 clear hr1 hc1
 have H : (if (l0.length : Int) = (l1.length : Int) then (spec_l04SameRows.l0 k l0 l1 0) else (some false)) = some r := h
 clear h
 by_cases c3 : (l0.length : Int) = (l1.length : Int)
 ·rw [if_pos c3] at H
  have c3b0 : ((l0.length : Int) == (l1.length : Int)) = true := beq_iff_eq.mpr c3
  have c3b1 : ((l0.length : Int) != (l1.length : Int)) = false := bne_eq_false_iff_eq.mpr c3
  have c3b2 : (l0.length == l1.length) = true := by first | simpa using c3 | (simp at c3 ⊢; omega)
  clear c3
  have H' := Aside0.mk H
  clear H
  go_enter Try.func50, Try.ntmps50
  go_wp2
  repeat (go_quiet (fail); try go_wp2)
  go_loopg [5] k (fun kq v5 w' => ∃ (x5_1 : Int), v5 = .int .i64 x5_1 ∧ Aside0 (spec_l04SameRows.l0 kq l0 l1 x5_1 = some r) ∧ Aside0 (kq ≤ k) ∧ Drawn0 w w')
  case atStart => exact ⟨(0), Z50.z4, H', ⟨Nat.le_refl _⟩, Z50.z3⟩
  case round =>
   clear H'
   try clear c1
   try clear p2
   try clear c3
   try clear c3b0
   try clear c3b1
   try clear c3b2
   obtain ⟨x5_1, rfl, HA, HK1, ⟨m1, rfl⟩⟩ := hrel
   cases gk with
   | zero => exact absurd HA.out (by simp [spec_l04SameRows.l0])
   | succ k1 =>
    have H := HA.out
    clear HA
    simp only [spec_l04SameRows.l0] at H
    by_cases c4 : x5_1 < (l0.length : Int)
    ·rw [if_pos c4] at H
     have c4b0 : decide (x5_1 < (l0.length : Int)) = true := decide_eq_true c4
     clear c4
     by_cases c5 : 0 ≤ x5_1
     ·rw [if_pos c5] at H
      have c5b0 : decide (0 ≤ x5_1) = true := decide_eq_true c5
      clear c5
      by_cases c6 : x5_1 < (l1.length : Int)
      ·rw [if_pos c6] at H
       have c6b0 : decide (x5_1 < (l1.length : Int)) = true := decide_eq_true c6
       clear c6
       replace H := Option.bind_eq_some_iff.mp H
       obtain ⟨t103, A70, H⟩ := H
       replace H : (if t103 = true then (spec_l04SameRows.l0 k1 l0 l1 (wrap64 (x5_1 + 1))) else (some false)) = some r := H
       have A7 := Aside0.mk A70
       clear A70
       by_cases c8 : t103 = true
       ·subst c8
        have H1 : (spec_l04SameRows.l0 k1 l0 l1 (wrap64 (x5_1 + 1))) = some r := by rw [if_pos rfl] at H; exact H
        clear H
        have H := H1
        clear H1
        have H' := Aside0.mk H
        clear H
        have p101 : 0 ≤ (x5_1 : Int) := of_decide_eq_true Z50.z2
        have q101 : x5_1 < (l0.length : Int) := of_decide_eq_true Z50.z2
        obtain ⟨ad101, A101_0, c101_0, e101, hx101_0, hl101_0, hi101_0⟩ := at_L1 HR0.out x5_1 p101 q101
        cases e101
        have HR101_0 := Aside0.mk hi101_0
        have HC101_0 := Aside0.mk hl101_0
        clear hi101_0 hl101_0
        replace p101 := eq_true p101
        replace q101 := eq_true q101
        have p102 : 0 ≤ (x5_1 : Int) := of_decide_eq_true Z50.z2
        have q102 : x5_1 < (l1.length : Int) := of_decide_eq_true Z50.z2
        obtain ⟨ad102, A102_0, c102_0, e102, hx102_0, hl102_0, hi102_0⟩ := at_L1 HR1.out x5_1 p102 q102
        cases e102
        have HR102_0 := Aside0.mk hi102_0
        have HC102_0 := Aside0.mk hl102_0
        clear hi102_0 hl102_0
        replace p102 := eq_true p102
        replace q102 := eq_true q102
        go_wp2_with (first | (go_at_call 72; (with_reducible refine (spec_l00Same.calls k1 _ _ (rd_L1 l0 x5_1) _ _ (rd_L1 l1 x5_1) true _ ?side1 ?side2 ?side3 ?side4 A7.out).mono ?_); (case side1 => exact Z50.z1); (case side2 => exact HC101_0.out); (case side3 => exact Z50.z0); (case side4 => exact HC102_0.out); rintro e w' ⟨rfl, ⟨nd, rfl⟩⟩; (try first | exact ⟨rfl, _, World.drewN_drewN _ _ _⟩ | exact ⟨rfl, _, Eq.trans (World.drewN_drewN _ _ _) (congrArg (World.drewN _) (Nat.add_assoc _ _ _))⟩)))
        repeat (go_quiet (first | (go_at_call 72; (with_reducible refine (spec_l00Same.calls k1 _ _ (rd_L1 l0 x5_1) _ _ (rd_L1 l1 x5_1) true _ ?side1 ?side2 ?side3 ?side4 A7.out).mono ?_); (case side1 => exact Z50.z1); (case side2 => exact HC101_0.out); (case side3 => exact Z50.z0); (case side4 => exact HC102_0.out); rintro e w' ⟨rfl, ⟨nd, rfl⟩⟩; (try first | exact ⟨rfl, _, World.drewN_drewN _ _ _⟩ | exact ⟨rfl, _, Eq.trans (World.drewN_drewN _ _ _) (congrArg (World.drewN _) (Nat.add_assoc _ _ _))⟩))); try go_wp2_with (first | (go_at_call 72; (with_reducible refine (spec_l00Same.calls k1 _ _ (rd_L1 l0 x5_1) _ _ (rd_L1 l1 x5_1) true _ ?side1 ?side2 ?side3 ?side4 A7.out).mono ?_); (case side1 => exact Z50.z1); (case side2 => exact HC101_0.out); (case side3 => exact Z50.z0); (case side4 => exact HC102_0.out); rintro e w' ⟨rfl, ⟨nd, rfl⟩⟩; (try first | exact ⟨rfl, _, World.drewN_drewN _ _ _⟩ | exact ⟨rfl, _, Eq.trans (World.drewN_drewN _ _ _) (congrArg (World.drewN _) (Nat.add_assoc _ _ _))⟩))))
        go_roundg k1
        case measure => have := HK1.out; omega
        case rel => exact ⟨(wrap64 (x5_1 + 1)), Z50.z4, H', ⟨(by have := HK1.out; omega)⟩, Z50.z3⟩
       replace c8 := Bool.eq_false_iff.mpr c8
       subst c8
       have H1 : (some false) = some r := by rw [if_neg (show ¬ (false = true) by decide)] at H; exact H
       clear H
       have H := H1
       clear H1
       obtain rfl := Option.some.inj H
       have p101 : 0 ≤ (x5_1 : Int) := of_decide_eq_true Z50.z2
       have q101 : x5_1 < (l0.length : Int) := of_decide_eq_true Z50.z2
       obtain ⟨ad101, A101_0, c101_0, e101, hx101_0, hl101_0, hi101_0⟩ := at_L1 HR0.out x5_1 p101 q101
       cases e101
       have HR101_0 := Aside0.mk hi101_0
       have HC101_0 := Aside0.mk hl101_0
       clear hi101_0 hl101_0
       replace p101 := eq_true p101
       replace q101 := eq_true q101
       have p102 : 0 ≤ (x5_1 : Int) := of_decide_eq_true Z50.z2
       have q102 : x5_1 < (l1.length : Int) := of_decide_eq_true Z50.z2
       obtain ⟨ad102, A102_0, c102_0, e102, hx102_0, hl102_0, hi102_0⟩ := at_L1 HR1.out x5_1 p102 q102
       cases e102
       have HR102_0 := Aside0.mk hi102_0
       have HC102_0 := Aside0.mk hl102_0
       clear hi102_0 hl102_0
       replace p102 := eq_true p102
       replace q102 := eq_true q102
       go_wp2_with (first | (go_at_call 72; (with_reducible refine (spec_l00Same.calls k1 _ _ (rd_L1 l0 x5_1) _ _ (rd_L1 l1 x5_1) false _ ?side1 ?side2 ?side3 ?side4 A7.out).mono ?_); (case side1 => exact Z50.z1); (case side2 => exact HC101_0.out); (case side3 => exact Z50.z0); (case side4 => exact HC102_0.out); rintro e w' ⟨rfl, ⟨nd, rfl⟩⟩; (try first | exact ⟨rfl, _, World.drewN_drewN _ _ _⟩ | exact ⟨rfl, _, Eq.trans (World.drewN_drewN _ _ _) (congrArg (World.drewN _) (Nat.add_assoc _ _ _))⟩)))
       repeat (go_quiet (first | (go_at_call 72; (with_reducible refine (spec_l00Same.calls k1 _ _ (rd_L1 l0 x5_1) _ _ (rd_L1 l1 x5_1) false _ ?side1 ?side2 ?side3 ?side4 A7.out).mono ?_); (case side1 => exact Z50.z1); (case side2 => exact HC101_0.out); (case side3 => exact Z50.z0); (case side4 => exact HC102_0.out); rintro e w' ⟨rfl, ⟨nd, rfl⟩⟩; (try first | exact ⟨rfl, _, World.drewN_drewN _ _ _⟩ | exact ⟨rfl, _, Eq.trans (World.drewN_drewN _ _ _) (congrArg (World.drewN _) (Nat.add_assoc _ _ _))⟩))); try go_wp2_with (first | (go_at_call 72; (with_reducible refine (spec_l00Same.calls k1 _ _ (rd_L1 l0 x5_1) _ _ (rd_L1 l1 x5_1) false _ ?side1 ?side2 ?side3 ?side4 A7.out).mono ?_); (case side1 => exact Z50.z1); (case side2 => exact HC101_0.out); (case side3 => exact Z50.z0); (case side4 => exact HC102_0.out); rintro e w' ⟨rfl, ⟨nd, rfl⟩⟩; (try first | exact ⟨rfl, _, World.drewN_drewN _ _ _⟩ | exact ⟨rfl, _, Eq.trans (World.drewN_drewN _ _ _) (congrArg (World.drewN _) (Nat.add_assoc _ _ _))⟩))))
       go_ret
       exact ⟨Z50.z4, Z50.z3⟩
      rw [if_neg c6] at H
      exact absurd H (by simp)
     rw [if_neg c5] at H
     exact absurd H (by simp)
    rw [if_neg c4] at H
    have c4b0 : decide (x5_1 < (l0.length : Int)) = false := decide_eq_false c4
    clear c4
    obtain rfl := Option.some.inj H
    go_wp2
    repeat (go_quiet (fail); try go_wp2)
    go_ret
    exact ⟨Z50.z4, Z50.z3⟩
 rw [if_neg c3] at H
 have c3b0 : ((l0.length : Int) == (l1.length : Int)) = false := beq_eq_false_iff_ne.mpr c3
 have c3b1 : ((l0.length : Int) != (l1.length : Int)) = true := bne_iff_ne.mpr c3
 have c3b2 : (l0.length == l1.length) = false := by first | simpa using c3 | (simp at c3 ⊢; omega)
 obtain rfl := Option.some.inj H
 go_enter Try.func50, Try.ntmps50
 go_wp2
 repeat (go_quiet (fail); try go_wp2)
 go_ret
 exact ⟨Z50.z4, Z50.z3⟩


/-! ### slices_Equal_int64_int64: function 57 -/
def slices_Equal_int64_int64.l0 : Nat → List Int → List Int → Int → Int → Option (Bool)
  | 0, _, _, _, _ => none
  | k + 1, x0, x1, x12, x13 => if x13 < x12 then (if 0 ≤ x13 then (if x13 < (x0.length : Int) then (if x13 < (x1.length : Int) then (if (rd x0 x13) = (rd x1 x13) then (slices_Equal_int64_int64.l0 k x0 x1 x12 (wrap64 (x13 + 1))) else (some false)) else (none)) else (none)) else (none)) else (some true)
def slices_Equal_int64_int64.f (k : Nat) (l0 : List Int) (l1 : List Int) : Option (Bool) := if (l0.length : Int) = (l1.length : Int) then (slices_Equal_int64_int64.l0 k l0 l1 (l0.length : Int) 0) else (some false)
theorem slices_Equal_int64_int64.mono_l : ∀ k, (∀ y0 y1 y2 y3, LeO (slices_Equal_int64_int64.l0 k y0 y1 y2 y3) (slices_Equal_int64_int64.l0 (k + 1) y0 y1 y2 y3))
  | 0 => fun _ _ _ _ r h => by simp [slices_Equal_int64_int64.l0] at h
  | k + 1 => by
    have ih0 := slices_Equal_int64_int64.mono_l k
    · intro y0 y1 y2 y3
      unfold slices_Equal_int64_int64.l0
      repeat' first
      | (with_reducible exact ih0 _ _ _ _)
      | (with_reducible exact LeO.refl _)
      | (with_reducible exact LeO.none _)
      | (with_reducible refine LeO.ite ?_ ?_)
      | (with_reducible refine LeO.bind ?_ (fun _ => ?_))
      | exact ih0 _ _ _ _
      | exact LeO.none _
      | refine LeO.ite ?_ ?_
      | refine LeO.bind ?_ (fun _ => ?_)
theorem slices_Equal_int64_int64.mono : ∀ a0 a1 k, LeO (slices_Equal_int64_int64.f k a0 a1) (slices_Equal_int64_int64.f (k + 1) a0 a1) := by
  intro a0 a1 k
  have ih0 := slices_Equal_int64_int64.mono_l k
  unfold slices_Equal_int64_int64.f
  repeat' first
      | (with_reducible exact ih0 _ _ _ _)
      | (with_reducible exact LeO.refl _)
      | (with_reducible exact LeO.none _)
      | (with_reducible refine LeO.ite ?_ ?_)
      | (with_reducible refine LeO.bind ?_ (fun _ => ?_))
      | exact ih0 _ _ _ _
      | exact LeO.none _
      | refine LeO.ite ?_ ?_
      | refine LeO.bind ?_ (fun _ => ?_)
theorem Z57.z1 {P : Prop} (h : P := by repeat (first | exact Drawn0.refl _ | apply Drawn0.step)) : P := h
theorem Z57.z0 {P : Prop} (h : P := by first | (with_reducible assumption) | assumption) : P := h
set_option maxHeartbeats 8000000 in
set_option maxRecDepth 100000 in
theorem slices_Equal_int64_int64.calls (k : Nat) (A0 : Option Addr) (c0 : Nat) (l0 : List Int) (A1 : Option Addr) (c1 : Nat) (l1 : List Int) (r : Bool) (w : World) (hr0 : Kd.C (Kd.int .i64) w A0 l0.length l0) (hc0 : l0.length ≤ c0) (hr1 : Kd.C (Kd.int .i64) w A1 l1.length l1) (hc1 : l1.length ≤ c1) (h : slices_Equal_int64_int64.f k l0 l1 = some r) :
  Calls Try.prog 57 #[.slice A0 l0.length c0, .slice A1 l1.length c1] w fun e w' => e = .returned (.bool r) ∧ Drawn0 w w' := by
 have HR0 := Aside0.mk hr0
 have HC0 := Aside0.mk hc0
 clear hr0 hc0
 have HR1 := Aside0.mk hr1
 have HC1 := Aside0.mk hc1
 clear hr1 hc1
 have H : (if (l0.length : Int) = (l1.length : Int) then (slices_Equal_int64_int64.l0 k l0 l1 (l0.length : Int) 0) else (some false)) = some r := h
 clear h
 by_cases c3 : (l0.length : Int) = (l1.length : Int)
 ·rw [if_pos c3] at H
  have c3b0 : ((l0.length : Int) == (l1.length : Int)) = true := beq_iff_eq.mpr c3
  have c3b1 : ((l0.length : Int) != (l1.length : Int)) = false := bne_eq_false_iff_eq.mpr c3
  have c3b2 : (l0.length == l1.length) = true := by first | simpa using c3 | (simp at c3 ⊢; omega)
  clear c3
  have H' := Aside0.mk H
  clear H
  go_enter Try.func57, Try.ntmps57
  go_wp2
  repeat (go_quiet (fail); try go_wp2)
  go_loopg [13] k (fun kq v13 w' => ∃ (x13_1 : Int), v13 = .int .i64 x13_1 ∧ Aside0 (slices_Equal_int64_int64.l0 kq l0 l1 (l0.length : Int) x13_1 = some r) ∧ Aside0 (kq ≤ k) ∧ Drawn0 w w')
  case atStart => exact ⟨(0), (by first | rfl | (simp; done) | (simp [*]; done)), H', ⟨Nat.le_refl _⟩, Z57.z1⟩
  case round =>
   clear H'
   try clear c1
   try clear p2
   try clear c3
   try clear c3b0
   try clear c3b1
   try clear c3b2
   obtain ⟨x13_1, rfl, HA, HK1, ⟨m1, rfl⟩⟩ := hrel
   cases gk with
   | zero => exact absurd HA.out (by simp [slices_Equal_int64_int64.l0])
   | succ k1 =>
    have H := HA.out
    clear HA
    simp only [slices_Equal_int64_int64.l0] at H
    by_cases c4 : x13_1 < (l0.length : Int)
    ·rw [if_pos c4] at H
     have c4b0 : decide (x13_1 < (l0.length : Int)) = true := decide_eq_true c4
     clear c4
     by_cases c5 : 0 ≤ x13_1
     ·rw [if_pos c5] at H
      have c5b0 : decide (0 ≤ x13_1) = true := decide_eq_true c5
      clear c5
      by_cases c6 : x13_1 < (l0.length : Int)
      ·rw [if_pos c6] at H
       have c6b0 : decide (x13_1 < (l0.length : Int)) = true := decide_eq_true c6
       clear c6
       by_cases c7 : x13_1 < (l1.length : Int)
       ·rw [if_pos c7] at H
        have c7b0 : decide (x13_1 < (l1.length : Int)) = true := decide_eq_true c7
        clear c7
        by_cases c8 : (rd l0 x13_1) = (rd l1 x13_1)
        ·rw [if_pos c8] at H
         have c8b0 : ((rd l0 x13_1) == (rd l1 x13_1)) = true := beq_iff_eq.mpr c8
         have c8b1 : ((rd l0 x13_1) != (rd l1 x13_1)) = false := bne_eq_false_iff_eq.mpr c8
         clear c8
         have H' := Aside0.mk H
         clear H
         have p101 : 0 ≤ (x13_1 : Int) := of_decide_eq_true Z57.z0
         have q101 : x13_1 < (l0.length : Int) := of_decide_eq_true Z57.z0
         obtain ⟨ad101, e101, hx101_0⟩ := Kd.at_int HR0.out x13_1 p101 q101
         cases e101
         replace p101 := eq_true p101
         replace q101 := eq_true q101
         have p102 : 0 ≤ (x13_1 : Int) := of_decide_eq_true Z57.z0
         have q102 : x13_1 < (l1.length : Int) := of_decide_eq_true Z57.z0
         obtain ⟨ad102, e102, hx102_0⟩ := Kd.at_int HR1.out x13_1 p102 q102
         cases e102
         replace p102 := eq_true p102
         replace q102 := eq_true q102
         go_wp2
         repeat (go_quiet (fail); try go_wp2)
         go_roundg k1
         case measure => have := HK1.out; omega
         case rel => exact ⟨(wrap64 (x13_1 + 1)), (by first | rfl | (simp; done) | (simp [*]; done)), H', ⟨(by have := HK1.out; omega)⟩, Z57.z1⟩
        rw [if_neg c8] at H
        have c8b0 : ((rd l0 x13_1) == (rd l1 x13_1)) = false := beq_eq_false_iff_ne.mpr c8
        have c8b1 : ((rd l0 x13_1) != (rd l1 x13_1)) = true := bne_iff_ne.mpr c8
        obtain rfl := Option.some.inj H
        have p101 : 0 ≤ (x13_1 : Int) := of_decide_eq_true Z57.z0
        have q101 : x13_1 < (l0.length : Int) := of_decide_eq_true Z57.z0
        obtain ⟨ad101, e101, hx101_0⟩ := Kd.at_int HR0.out x13_1 p101 q101
        cases e101
        replace p101 := eq_true p101
        replace q101 := eq_true q101
        have p102 : 0 ≤ (x13_1 : Int) := of_decide_eq_true Z57.z0
        have q102 : x13_1 < (l1.length : Int) := of_decide_eq_true Z57.z0
        obtain ⟨ad102, e102, hx102_0⟩ := Kd.at_int HR1.out x13_1 p102 q102
        cases e102
        replace p102 := eq_true p102
        replace q102 := eq_true q102
        go_wp2
        repeat (go_quiet (fail); try go_wp2)
        go_ret
        exact ⟨(by first | rfl | (simp; done) | (simp [*]; done)), Z57.z1⟩
       rw [if_neg c7] at H
       exact absurd H (by simp)
      rw [if_neg c6] at H
      exact absurd H (by simp)
     rw [if_neg c5] at H
     exact absurd H (by simp)
    rw [if_neg c4] at H
    have c4b0 : decide (x13_1 < (l0.length : Int)) = false := decide_eq_false c4
    clear c4
    obtain rfl := Option.some.inj H
    go_wp2
    repeat (go_quiet (fail); try go_wp2)
    go_ret
    exact ⟨(by first | rfl | (simp; done) | (simp [*]; done)), Z57.z1⟩
 rw [if_neg c3] at H
 have c3b0 : ((l0.length : Int) == (l1.length : Int)) = false := beq_eq_false_iff_ne.mpr c3
 have c3b1 : ((l0.length : Int) != (l1.length : Int)) = true := bne_iff_ne.mpr c3
 have c3b2 : (l0.length == l1.length) = false := by first | simpa using c3 | (simp at c3 ⊢; omega)
 obtain rfl := Option.some.inj H
 go_enter Try.func57, Try.ntmps57
 go_wp2
 repeat (go_quiet (fail); try go_wp2)
 go_ret
 exact ⟨(by first | rfl | (simp; done) | (simp [*]; done)), Z57.z1⟩


/-! ### slices_EqualFunc_int64_int64_int64_int64: function 56 -/
def slices_EqualFunc_int64_int64_int64_int64.l0 : Nat → List (List Int) → List (List Int) → Int → Int → Option (Bool)
  | 0, _, _, _, _ => none
  | k + 1, x1, x15, x16, x17 => if x17 < x16 then (if 0 ≤ x17 then (if x17 < (x15.length : Int) then (if x17 < (x1.length : Int) then ((slices_Equal_int64_int64.f k (rd_L1 x15 x17) (rd_L1 x1 x17)).bind fun t103 => (if t103 = true then (slices_EqualFunc_int64_int64_int64_int64.l0 k x1 x15 x16 (wrap64 (x17 + 1))) else (some false))) else (none)) else (none)) else (none)) else (some true)
def slices_EqualFunc_int64_int64_int64_int64.f (k : Nat) (l0 : List (List Int)) (l1 : List (List Int)) : Option (Bool) := if (l0.length : Int) = (l1.length : Int) then (slices_EqualFunc_int64_int64_int64_int64.l0 k l1 l0 (l0.length : Int) 0) else (some false)
theorem slices_EqualFunc_int64_int64_int64_int64.mono_l : ∀ k, (∀ y0 y1 y2 y3, LeO (slices_EqualFunc_int64_int64_int64_int64.l0 k y0 y1 y2 y3) (slices_EqualFunc_int64_int64_int64_int64.l0 (k + 1) y0 y1 y2 y3))
  | 0 => fun _ _ _ _ r h => by simp [slices_EqualFunc_int64_int64_int64_int64.l0] at h
  | k + 1 => by
    have ih0 := slices_EqualFunc_int64_int64_int64_int64.mono_l k
    · intro y0 y1 y2 y3
      unfold slices_EqualFunc_int64_int64_int64_int64.l0
      repeat' first
      | (with_reducible exact ih0 _ _ _ _)
      | (with_reducible exact slices_Equal_int64_int64.mono _ _ _)
      | (with_reducible exact LeO.refl _)
      | (with_reducible exact LeO.none _)
      | (with_reducible refine LeO.ite ?_ ?_)
      | (with_reducible refine LeO.bind ?_ (fun _ => ?_))
      | exact ih0 _ _ _ _
      | exact slices_Equal_int64_int64.mono _ _ _
      | exact LeO.none _
      | refine LeO.ite ?_ ?_
      | refine LeO.bind ?_ (fun _ => ?_)
theorem slices_EqualFunc_int64_int64_int64_int64.mono : ∀ a0 a1 k, LeO (slices_EqualFunc_int64_int64_int64_int64.f k a0 a1) (slices_EqualFunc_int64_int64_int64_int64.f (k + 1) a0 a1) := by
  intro a0 a1 k
  have ih0 := slices_EqualFunc_int64_int64_int64_int64.mono_l k
  unfold slices_EqualFunc_int64_int64_int64_int64.f
  repeat' first
      | (with_reducible exact ih0 _ _ _ _)
      | (with_reducible exact slices_Equal_int64_int64.mono _ _ _)
      | (with_reducible exact LeO.refl _)
      | (with_reducible exact LeO.none _)
      | (with_reducible refine LeO.ite ?_ ?_)
      | (with_reducible refine LeO.bind ?_ (fun _ => ?_))
      | exact ih0 _ _ _ _
      | exact slices_Equal_int64_int64.mono _ _ _
      | exact LeO.none _
      | refine LeO.ite ?_ ?_
      | refine LeO.bind ?_ (fun _ => ?_)
theorem Z56.z1 {P : Prop} (h : P := by repeat (first | exact HR101_0.out | (with_reducible refine Kd.C_alloc ?_ _) | (with_reducible refine Kd.C_drewN ?_ _) | (with_reducible refine Kd.C_drew ?_))) : P := h
theorem Z56.z0 {P : Prop} (h : P := by repeat (first | exact HR102_0.out | (with_reducible refine Kd.C_alloc ?_ _) | (with_reducible refine Kd.C_drewN ?_ _) | (with_reducible refine Kd.C_drew ?_))) : P := h
set_option maxHeartbeats 8000000 in
set_option maxRecDepth 100000 in
theorem slices_EqualFunc_int64_int64_int64_int64.calls (k : Nat) (A0 : Option Addr) (c0 : Nat) (l0 : List (List Int)) (A1 : Option Addr) (c1 : Nat) (l1 : List (List Int)) (r : Bool) (w : World) (hr0 : Kd.C (Kd.slice 2 (Kd.int .i64)) w A0 l0.length l0) (hc0 : l0.length ≤ c0) (hr1 : Kd.C (Kd.slice 2 (Kd.int .i64)) w A1 l1.length l1) (hc1 : l1.length ≤ c1) (h : slices_EqualFunc_int64_int64_int64_int64.f k l0 l1 = some r) :
  Calls Try.prog 56 #[.slice A0 l0.length c0, .slice A1 l1.length c1, .func (.func 57) #[] #[]] w fun e w' => e = .returned (.bool r) ∧ Drawn0 w w' := by
 have HR0 := Aside0.mk hr0
 have HC0 := Aside0.mk hc0
 clear hr0 hc0
 have HR1 := Aside0.mk hr1
 have HC1 := Aside0.mk hc1
 clear hr1 hc1
 have H : (if (l0.length : Int) = (l1.length : Int) then (slices_EqualFunc_int64_int64_int64_int64.l0 k l1 l0 (l0.length : Int) 0) else (some false)) = some r := h
 clear h
 by_cases c3 : (l0.length : Int) = (l1.length : Int)
 ·rw [if_pos c3] at H
  have c3b0 : ((l0.length : Int) == (l1.length : Int)) = true := beq_iff_eq.mpr c3
  have c3b1 : ((l0.length : Int) != (l1.length : Int)) = false := bne_eq_false_iff_eq.mpr c3
  have c3b2 : (l0.length == l1.length) = true := by first | simpa using c3 | (simp at c3 ⊢; omega)
  clear c3
  have H' := Aside0.mk H
  clear H
  go_enter Try.func56, Try.ntmps56
  go_wp2
  go_loopg [17] k (fun kq v17 w' => ∃ (x17_1 : Int), v17 = .int .i64 x17_1 ∧ Aside0 (slices_EqualFunc_int64_int64_int64_int64.l0 kq l1 l0 (l0.length : Int) x17_1 = some r) ∧ Aside0 (kq ≤ k) ∧ Drawn0 w w')
  case atStart => exact ⟨(0), (by first | rfl | (simp; done) | (simp [*]; done)), H', ⟨Nat.le_refl _⟩, (by repeat (first | exact Drawn0.refl _ | apply Drawn0.step))⟩
  case round =>
   clear H'
   try clear c1
   try clear p2
   try clear c3
   try clear c3b0
   try clear c3b1
   try clear c3b2
   obtain ⟨x17_1, rfl, HA, HK1, ⟨m1, rfl⟩⟩ := hrel
   cases gk with
   | zero => exact absurd HA.out (by simp [slices_EqualFunc_int64_int64_int64_int64.l0])
   | succ k1 =>
    have H := HA.out
    clear HA
    simp only [slices_EqualFunc_int64_int64_int64_int64.l0] at H
    by_cases c4 : x17_1 < (l0.length : Int)
    ·rw [if_pos c4] at H
     have c4b0 : decide (x17_1 < (l0.length : Int)) = true := decide_eq_true c4
     clear c4
     by_cases c5 : 0 ≤ x17_1
     ·rw [if_pos c5] at H
      have c5b0 : decide (0 ≤ x17_1) = true := decide_eq_true c5
      clear c5
      by_cases c6 : x17_1 < (l0.length : Int)
      ·rw [if_pos c6] at H
       have c6b0 : decide (x17_1 < (l0.length : Int)) = true := decide_eq_true c6
       clear c6
       by_cases c7 : x17_1 < (l1.length : Int)
       ·rw [if_pos c7] at H
        have c7b0 : decide (x17_1 < (l1.length : Int)) = true := decide_eq_true c7
        clear c7
        replace H := Option.bind_eq_some_iff.mp H
        obtain ⟨t103, A80, H⟩ := H
        replace H : (if t103 = true then (slices_EqualFunc_int64_int64_int64_int64.l0 k1 l1 l0 (l0.length : Int) (wrap64 (x17_1 + 1))) else (some false)) = some r := H
        have A8 := Aside0.mk A80
        clear A80
        by_cases c9 : t103 = true
        ·subst c9
         have H1 : (slices_EqualFunc_int64_int64_int64_int64.l0 k1 l1 l0 (l0.length : Int) (wrap64 (x17_1 + 1))) = some r := by rw [if_pos rfl] at H; exact H
         clear H
         have H := H1
         clear H1
         have H' := Aside0.mk H
         clear H
         have p101 : 0 ≤ (x17_1 : Int) := of_decide_eq_true (by first | (with_reducible assumption) | assumption)
         have q101 : x17_1 < (l0.length : Int) := of_decide_eq_true (by first | (with_reducible assumption) | assumption)
         obtain ⟨ad101, A101_0, c101_0, e101, hx101_0, hl101_0, hi101_0⟩ := at_L1 HR0.out x17_1 p101 q101
         cases e101
         have HR101_0 := Aside0.mk hi101_0
         have HC101_0 := Aside0.mk hl101_0
         clear hi101_0 hl101_0
         replace p101 := eq_true p101
         replace q101 := eq_true q101
         have p102 : 0 ≤ (x17_1 : Int) := of_decide_eq_true (by first | (with_reducible assumption) | assumption)
         have q102 : x17_1 < (l1.length : Int) := of_decide_eq_true (by first | (with_reducible assumption) | assumption)
         obtain ⟨ad102, A102_0, c102_0, e102, hx102_0, hl102_0, hi102_0⟩ := at_L1 HR1.out x17_1 p102 q102
         cases e102
         have HR102_0 := Aside0.mk hi102_0
         have HC102_0 := Aside0.mk hl102_0
         clear hi102_0 hl102_0
         replace p102 := eq_true p102
         replace q102 := eq_true q102
         go_wp2_with (first | (go_at_call 57; (with_reducible refine (slices_Equal_int64_int64.calls k1 _ _ (rd_L1 l0 x17_1) _ _ (rd_L1 l1 x17_1) true _ ?side1 ?side2 ?side3 ?side4 A8.out).mono ?_); (case side1 => exact Z56.z1); (case side2 => exact HC101_0.out); (case side3 => exact Z56.z0); (case side4 => exact HC102_0.out); rintro e w' ⟨rfl, ⟨nd, rfl⟩⟩))
         go_roundg k1
         case measure => have := HK1.out; omega
         case rel => exact ⟨(wrap64 (x17_1 + 1)), (by first | rfl | (simp; done) | (simp [*]; done)), H', ⟨(by have := HK1.out; omega)⟩, (by repeat (first | exact Drawn0.refl _ | apply Drawn0.step))⟩
        replace c9 := Bool.eq_false_iff.mpr c9
        subst c9
        have H1 : (some false) = some r := by rw [if_neg (show ¬ (false = true) by decide)] at H; exact H
        clear H
        have H := H1
        clear H1
        obtain rfl := Option.some.inj H
        have p101 : 0 ≤ (x17_1 : Int) := of_decide_eq_true (by first | (with_reducible assumption) | assumption)
        have q101 : x17_1 < (l0.length : Int) := of_decide_eq_true (by first | (with_reducible assumption) | assumption)
        obtain ⟨ad101, A101_0, c101_0, e101, hx101_0, hl101_0, hi101_0⟩ := at_L1 HR0.out x17_1 p101 q101
        cases e101
        have HR101_0 := Aside0.mk hi101_0
        have HC101_0 := Aside0.mk hl101_0
        clear hi101_0 hl101_0
        replace p101 := eq_true p101
        replace q101 := eq_true q101
        have p102 : 0 ≤ (x17_1 : Int) := of_decide_eq_true (by first | (with_reducible assumption) | assumption)
        have q102 : x17_1 < (l1.length : Int) := of_decide_eq_true (by first | (with_reducible assumption) | assumption)
        obtain ⟨ad102, A102_0, c102_0, e102, hx102_0, hl102_0, hi102_0⟩ := at_L1 HR1.out x17_1 p102 q102
        cases e102
        have HR102_0 := Aside0.mk hi102_0
        have HC102_0 := Aside0.mk hl102_0
        clear hi102_0 hl102_0
        replace p102 := eq_true p102
        replace q102 := eq_true q102
        go_wp2_with (first | (go_at_call 57; (with_reducible refine (slices_Equal_int64_int64.calls k1 _ _ (rd_L1 l0 x17_1) _ _ (rd_L1 l1 x17_1) false _ ?side1 ?side2 ?side3 ?side4 A8.out).mono ?_); (case side1 => exact Z56.z1); (case side2 => exact HC101_0.out); (case side3 => exact Z56.z0); (case side4 => exact HC102_0.out); rintro e w' ⟨rfl, ⟨nd, rfl⟩⟩))
        go_ret
        exact ⟨(by first | rfl | (simp; done) | (simp [*]; done)), (by repeat (first | exact Drawn0.refl _ | apply Drawn0.step))⟩
       rw [if_neg c7] at H
       exact absurd H (by simp)
      rw [if_neg c6] at H
      exact absurd H (by simp)
     rw [if_neg c5] at H
     exact absurd H (by simp)
    rw [if_neg c4] at H
    have c4b0 : decide (x17_1 < (l0.length : Int)) = false := decide_eq_false c4
    clear c4
    obtain rfl := Option.some.inj H
    go_wp2
    go_ret
    exact ⟨(by first | rfl | (simp; done) | (simp [*]; done)), (by repeat (first | exact Drawn0.refl _ | apply Drawn0.step))⟩
 rw [if_neg c3] at H
 have c3b0 : ((l0.length : Int) == (l1.length : Int)) = false := beq_eq_false_iff_ne.mpr c3
 have c3b1 : ((l0.length : Int) != (l1.length : Int)) = true := bne_iff_ne.mpr c3
 have c3b2 : (l0.length == l1.length) = false := by first | simpa using c3 | (simp at c3 ⊢; omega)
 obtain rfl := Option.some.inj H
 go_enter Try.func56, Try.ntmps56
 go_wp2
 go_ret
 exact ⟨(by first | rfl | (simp; done) | (simp [*]; done)), (by repeat (first | exact Drawn0.refl _ | apply Drawn0.step))⟩

end Go.Proofs.Ytoibkfdmcajieaa.F
end
