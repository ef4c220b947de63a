-- Texts of this claim, merged by packw.py (a program of this session's).
import Derived.Test.YtoekjicknclooaaQFnReduced11
import Derived.Test.YtoekjicknclooaaQFnReduced5
import Derived.KernelRfl
import Derived.Test.YtoekjicknclooaaQFnReduced2
import Derived.Test.YtoekjicknclooaaQFnReduced3
import Derived.Test.YtoekjicknclooaaQFnReduced4
import Derived.Test.YtoekjicknclooaaQFnReduced8
import Derived.Test.YtoekjicknclooaaQFnReduced6
import Derived.Test.YtoekjicknclooaaQFnReduced7
import Derived.Test.YtoekjicknclooaaQFnReduced10
import Derived.Test.YtoekjicknclooaaQFnReduced9

section
set_option linter.unusedVariables false
set_option linter.unusedSimpArgs false
set_option linter.unusedSectionVars false
namespace Go.Proofs.Ytoekjicknclooaa.Lin
theorem isP_nat {p : Nat} (hp : isP (p : Int) = true) : 2 ≤ p ∧ p ≤ 251 := by have := isP_ge hp; omega
theorem one_ne {p : Nat} [NeZero p] (hp : isP (p : Int) = true) : (1 : Fin p) ≠ 0 := by
  have h := isP_nat hp
  intro e
  rw [← phi_one, phi_zero_iff (by omega) (by omega)] at e
  omega
theorem fin_phi {p : Nat} [NeZero p] (a : Fin p) : a = phi p (a.val : Int) := fin_ext (by rw [phi_val]; have := a.isLt; rw [Int.emod_eq_of_lt (by omega) (by omega)])
theorem fin_inv {p : Nat} [NeZero p] (hp : isP (p : Int) = true) : ∀ a : Fin p, a ≠ 0 → ∃ b, a * b = 1 := by
  intro a ha
  have h0 : 0 < a.val := by
    rcases Nat.eq_zero_or_pos a.val with h | h
    · exact absurd (fin_ext (by rw [h]; simp)) ha
    · exact h
  refine ⟨phi p (pinv p a.val), ?_⟩
  rw [fin_phi a, ← phi_mul, ← phi_one, phi_eq]
  have e := pinv_tells hp (a := (a.val : Int)) (by omega) (by have := a.isLt; omega)
  have e2 : ((phi p (a.val : Int)).val : Int) = a.val := by rw [← fin_phi a]
  rw [e2, e]
  have := isP_nat hp
  rw [Int.emod_eq_of_lt (by omega) (by omega)]
section
variable {p : Nat} [NeZero p] {n : Nat} {rows : List (List Int)}
theorem elim_all (hp : isP p = true) (hok : RowsOk p n rows) : ∃ r P, RowsOk p n (elim p n rows).1 ∧ (elim p n rows).1.length = rows.length ∧ (elim p n rows).2.1 = pivList P r ∧ Rref n rows.length (fm p (elim p n rows).1) r P ∧ Same n rows.length rows.length (fm p rows) (fm p (elim p n rows).1) := by
  obtain ⟨r, P, h1, h2, h3, h4, h5, _⟩ := elimTo_tells hp hok n (Nat.le_refl _)
  exact ⟨r, P, h1, h2, h3, h4.rref, h5⟩
theorem cell_ext {a b : List (List Int)} (ha : RowsOk p n a) (hb : RowsOk p n b) (hl : a.length = b.length) (h : ∀ i j, i < a.length → j < n → fm p a i j = fm p b i j) (h0 : 0 < p) : a = b := by
  refine List.ext_getElem hl (fun i h1 h2 => ?_)
  have r1 := ha _ (List.getElem_mem h1)
  have r2 := hb _ (List.getElem_mem h2)
  refine List.ext_getElem (r1.1.trans r2.1.symm) (fun j g1 g2 => ?_)
  have e := h i j h1 (by rw [← r1.1]; exact g1)
  unfold fm at e
  have c1 := ha.cell (by omega) i j
  have c2 := hb.cell (by omega) i j
  have := phi_inj c1.1 c1.2 c2.1 c2.2 e
  unfold cell at this
  simpa [List.getD_eq_getElem?_getD, h1, h2, g1, g2] using this
theorem pivList_congr {P Q : Nat → Nat} {r : Nat} (h : ∀ i, i < r → P i = Q i) : pivList P r = pivList Q r := by
  unfold pivList
  exact List.map_congr_left (fun i hi => by rw [h i (List.mem_range.mp hi)])
theorem elim_again (hp : isP p = true) (hok : RowsOk p n rows) : (elim p n (elim p n rows).1).1 = (elim p n rows).1 ∧ (elim p n (elim p n rows).1).2.1 = (elim p n rows).2.1 := by
  obtain ⟨r, P, h1, h2, h3, h4, h5⟩ := elim_all hp hok
  obtain ⟨s, Q, k1, k2, k3, k4, k5⟩ := elim_all hp h1
  rw [h2] at k4 k5
  obtain ⟨e1, e2, e3⟩ := Rref.unique (one_ne hp) h4 k4 k5.1 k5.2
  subst e1
  refine ⟨(cell_ext k1 h1 k2 (fun i j hi hj => ?_) (by have := isP_nat hp; omega)), by rw [k3, h3, pivList_congr e2]⟩
  rw [k2, h2] at hi
  rcases Nat.lt_or_ge i r with hlt | hge
  · exact (e3 i j hlt hj).symm
  · rw [k4.rest i j hge hi hj, h4.rest i j hge hi hj]
theorem rank_same {rows' : List (List Int)} (hp : isP p = true) (hok : RowsOk p n rows) (hok' : RowsOk p n rows') (h : Same n rows.length rows'.length (fm p rows) (fm p rows')) : (elim p n rows).2.1.length = (elim p n rows').2.1.length := by
  obtain ⟨r, P, h1, h2, h3, h4, h5⟩ := elim_all hp hok
  obtain ⟨s, Q, k1, k2, k3, k4, k5⟩ := elim_all hp hok'
  have e := (h5.symm.trans h).trans k5
  rw [h3, k3, pivList_length, pivList_length]
  exact (Rref.unique (one_ne hp) h4 k4 e.1 e.2).1
theorem fm_append {a b : List (List Int)} (i j : Nat) : fm p (a ++ b) i j = if i < a.length then fm p a i j else fm p b (i - a.length) j := by
  unfold fm cell
  simp only [List.getD_eq_getElem?_getD, List.getElem?_append]
  split <;> rfl
theorem rank_twice (hp : isP p = true) (hok : RowsOk p n rows) : (elim p n (rows ++ rows)).2.1.length = (elim p n rows).2.1.length := by
  have hok2 : RowsOk p n (rows ++ rows) := fun r hr => (List.mem_append.mp hr).elim (hok r) (hok r)
  refine rank_same hp hok2 hok ⟨fun i hi => ?_, fun i hi => ?_⟩
  · rcases Nat.lt_or_ge i rows.length with h | h
    · exact (Sp.row h).congr (fun j _ => by rw [fm_append, if_pos h])
    · exact (Sp.row (i := i - rows.length) (by rw [List.length_append] at hi; omega)).congr (fun j _ => by rw [fm_append, if_neg (by omega)])
  · exact (Sp.row (A := fm p (rows ++ rows)) (i := i) (by rw [List.length_append]; omega)).congr (fun j _ => by rw [fm_append, if_pos hi])
theorem rank_le {t : Nat} {G : Nat → Nat → Fin p} (hp : isP p = true) (hok : RowsOk p n rows) (h : ∀ i, i < rows.length → Sp n t G (fm p rows i)) : (elim p n rows).2.1.length ≤ t := by
  obtain ⟨r, P, h1, h2, h3, h4, h5⟩ := elim_all hp hok
  rw [h3, pivList_length]
  exact h4.le_of_span (one_ne hp) (fin_inv hp) (fun i hi => (h5.2 i (by have := h4.le; omega)).trans h)
theorem rank_turn_le {m : Nat} {cols : List (List Int)} (hp : isP p = true) (hok : RowsOk p n rows) (hm : rows.length = m) (hokc : RowsOk p m cols) (hc : cols.length = n) (hT : ∀ i j, i < m → j < n → cell cols j i = cell rows i j) : (elim p m cols).2.1.length ≤ (elim p n rows).2.1.length := by
  obtain ⟨r, P, h1, h2, h3, h4, h5⟩ := elim_all hp hok
  rw [h3, pivList_length]
  refine rank_le (G := fun k i => fm p rows i (P k)) hp hokc (fun j hj => ?_)
  rw [hc] at hj
  refine ⟨fun k => fm p (elim p n rows).1 k j, fun i hi => ?_⟩
  have := h4.as_sum (h5.1 i (by omega)) j hj
  rw [show fm p cols j i = fm p rows i j by unfold fm; rw [hT i j hi hj], this]
  exact sm_congr (fun k _ => by grind)
theorem rank_turn {m : Nat} {cols : List (List Int)} (hp : isP p = true) (hok : RowsOk p n rows) (hm : rows.length = m) (hokc : RowsOk p m cols) (hc : cols.length = n) (hT : ∀ i j, i < m → j < n → cell cols j i = cell rows i j) : (elim p m cols).2.1.length = (elim p n rows).2.1.length :=
  Nat.le_antisymm (rank_turn_le hp hok hm hokc hc hT) (rank_turn_le hp hokc hc hok hm (fun i j hi hj => (hT j i hj hi).symm))
theorem rank_wide {wide : List (List Int)} (hp : isP p = true) (hok : RowsOk p n rows) (hokw : RowsOk p (n + n) wide) (hl : wide.length = rows.length) (hW : ∀ i j, i < rows.length → j < n → cell wide i j = cell rows i j ∧ cell wide i (n + j) = cell rows i j) : (elim p (n + n) wide).2.1.length = (elim p n rows).2.1.length := by
  obtain ⟨r, P, h1, h2, h3, h4, h5⟩ := elim_all hp hok
  obtain ⟨s, Q, k1, k2, k3, k4, k5⟩ := elim_all hp hokw
  refine Nat.le_antisymm ?_ ?_
  · rw [h3, pivList_length]
    refine rank_le (G := fun k j => fm p (elim p n rows).1 k (if j < n then j else j - n)) hp hokw (fun i hi => ⟨fun k => fm p rows i (P k), fun j hj => ?_⟩)
    rw [hl] at hi
    have e := fun j hj => h4.as_sum (h5.1 i hi) j hj
    by_cases hjn : j < n
    · have e1 : fm p wide i j = fm p rows i j := by unfold fm; rw [(hW i j hi hjn).1]
      rw [e1, e j hjn]
      exact sm_congr (fun k _ => by simp only [if_pos hjn])
    · have e1 : fm p wide i j = fm p rows i (j - n) := by unfold fm; rw [← (hW i (j - n) hi (by omega)).2, show n + (j - n) = j by omega]
      rw [e1, e (j - n) (by omega)]
      exact sm_congr (fun k _ => by simp only [if_neg hjn])
  · rw [k3, pivList_length]
    refine rank_le (G := fun k j => fm p (elim p (n + n) wide).1 k j) hp hok (fun i hi => ⟨fun k => fm p wide i (Q k), fun j hj => ?_⟩)
    rw [← k4.as_sum (k5.1 i (by omega)) j (by omega)]
    unfold fm; rw [(hW i j hi hj).1]
theorem elim_form (hp : isP p = true) (hok : RowsOk p n rows) : (elim p n rows).2.1.length ≤ rows.length ∧ (elim p n rows).2.1.length ≤ n ∧ (∀ k, k < (elim p n rows).2.1.length → ∃ c : Nat, (elim p n rows).2.1.getD k 0 = c ∧ c < n ∧ (0 < k → (elim p n rows).2.1.getD (k - 1) 0 < c) ∧ ∀ i, i < rows.length → cell (elim p n rows).1 i c = if i = k then 1 else 0) := by
  obtain ⟨r, P, h1, h2, h3, h4, h5⟩ := elim_all hp hok
  have hpn := isP_nat hp
  have hlt := (elimTo_small hp hok n (Nat.le_refl _)).2.2.1
  refine ⟨by rw [h3, pivList_length]; exact h4.le, hlt, fun k hk => ?_⟩
  rw [h3] at hk ⊢
  rw [pivList_length] at hk
  have e : ∀ i, i < r → (pivList P r).getD i 0 = (P i : Int) := fun i hi => by unfold pivList; simp [List.getD_eq_getElem?_getD, hi]
  refine ⟨P k, e k hk, h4.lt k hk, fun h0 => ?_, fun i hi => ?_⟩
  · rw [e (k - 1) (by omega)]
    have := h4.inc (k - 1) k (by omega) hk
    omega
  · have c1 := h1.cell (by omega) i (P k)
    by_cases eik : i = k
    · rw [if_pos eik]
      subst eik
      exact phi_inj c1.1 c1.2 (by omega) (by omega) ((h4.one i hk).trans phi_one.symm)
    · rw [if_neg eik]
      exact phi_inj c1.1 c1.2 (by omega) (by omega) ((h4.col k i hk hi eik).trans phi_zero.symm)
end
end Go.Proofs.Ytoekjicknclooaa.Lin
end

section
set_option linter.unusedVariables false
set_option linter.unusedSimpArgs false
set_option linter.unusedSectionVars false
namespace Go.Proofs.Ytoekjicknclooaa.F
open Go.RowKit Go.Proofs.YtoekjicknclooaaW.PrintWords Go.Proofs.YtoekjicknclooaaW.PrintLast Go.Proofs.Ytoekjicknclooaa.Lin
theorem rowsM_back {p : Int} {C : Nat} {Q : List (List Int)} (hok : RowsOk p C Q) : rowsM Q.length C (tab Q.length C (cell Q)) = Q := by
  refine List.ext_getElem (by rw [rowsM_length]) (fun i h1 h2 => ?_)
  have r2 := hok _ (List.getElem_mem h2)
  have e : (rowsM Q.length C (tab Q.length C (cell Q)))[i] = (List.range C).map (fun j => (tab Q.length C (cell Q)).getD (i * C + j) 0) := by simp only [rowsM, List.getElem_map, List.getElem_range]
  rw [e]
  refine List.ext_getElem (by simp [r2.1]) (fun j g1 g2 => ?_)
  rw [List.getElem_map, List.getElem_range, tab_at _ h2 (by rw [← r2.1]; exact g2)]
  unfold cell
  simp [List.getD_eq_getElem?_getD, h2, g2]
theorem rowsM_stack {R C : Nat} {l : List Int} (hl : l.length = R * C) : rowsM (R + R) C (l ++ l) = rowsM R C l ++ rowsM R C l := by
  unfold rowsM
  rw [List.range_add, List.map_append, List.map_map]
  congr 1
  · refine List.map_congr_left (fun i hi => List.map_congr_left (fun j hj => ?_))
    have h := at_lt (List.mem_range.mp hi) (List.mem_range.mp hj)
    simp only [List.getD_eq_getElem?_getD]
    rw [List.getElem?_append_left (by omega)]
  · refine List.map_congr_left (fun i hi => List.map_congr_left (fun j hj => ?_))
    have e : (R + i) * C + j = l.length + (i * C + j) := by rw [hl, Nat.add_mul]; omega
    simp only [List.getD_eq_getElem?_getD]
    rw [e, List.getElem?_append_right (by omega), show l.length + (i * C + j) - l.length = i * C + j by omega]
section
variable {q : Nat} [NeZero q] {R C : Nat} {l : List Int}
theorem red_law (hp : isP (q : Int) = true) (hl : l.length = R * C) (hv : ∀ j, 0 ≤ l.getD j 0 ∧ l.getD j 0 < (q : Int)) :
    ((elim q C (rowsM R C (tab R C (cell (elim q C (rowsM R C l)).1)))).1 = (elim q C (rowsM R C l)).1 ∧ (elim q C (rowsM R C (tab R C (cell (elim q C (rowsM R C l)).1)))).2.1 = (elim q C (rowsM R C l)).2.1) ∧
    (elim q R (rowsM C R (turned R C l))).2.1.length = (elim q C (rowsM R C l)).2.1.length ∧
    (elim q C (rowsM (R + R) C (l ++ l))).2.1.length = (elim q C (rowsM R C l)).2.1.length ∧
    (elim q (C + C) (rowsM R (C + C) (tab R (C + C) (fun i j => if j < C then l.getD (i * C + j) 0 else l.getD (i * C + (j - C)) 0)))).2.1.length = (elim q C (rowsM R C l)).2.1.length := by
  have hok := rowsM_ok (R := R) (C := C) hv
  have hrl := rowsM_length R C l
  have h2 := isP_nat hp
  refine ⟨?_, ?_, ?_, ?_⟩
  · obtain ⟨t1, t2, _⟩ := elimTo_small hp hok C (Nat.le_refl _)
    have e := rowsM_back (Q := (elim q C (rowsM R C l)).1) t1
    rw [show (elim q C (rowsM R C l)).1.length = R from t2.trans hrl] at e
    rw [e]
    exact elim_again hp hok
  · have hg : ∀ j, 0 ≤ (turned R C l).getD j 0 ∧ (turned R C l).getD j 0 < (q : Int) := fun j => by
      by_cases hj : j < (turned R C l).length
      · have hm := getD_mem (d := 0) hj
        unfold turned tab at hm
        obtain ⟨x, _, e⟩ := List.mem_map.mp hm
        have e2 : (turned R C l).getD j 0 = l.getD (x % R * C + x / R) 0 := by unfold turned tab; exact e.symm
        rw [e2]; exact hv _
      · rw [List.getD_eq_getElem?_getD, List.getElem?_eq_none (by omega)]; simp; omega
    refine rank_turn hp hok hrl (rowsM_ok hg) (rowsM_length C R _) (fun i j hi hj => ?_)
    rw [rowsM_cell _ hj hi, rowsM_cell _ hi hj]
    exact tab_at _ hj hi
  · rw [rowsM_stack hl]
    exact rank_twice hp hok
  · have hg : ∀ j, 0 ≤ (tab R (C + C) (fun i j => if j < C then l.getD (i * C + j) 0 else l.getD (i * C + (j - C)) 0)).getD j 0 ∧ (tab R (C + C) (fun i j => if j < C then l.getD (i * C + j) 0 else l.getD (i * C + (j - C)) 0)).getD j 0 < (q : Int) := fun j => by
      by_cases hj : j < (tab R (C + C) (fun i j => if j < C then l.getD (i * C + j) 0 else l.getD (i * C + (j - C)) 0)).length
      · rw [tab_length] at hj
        rw [tab_getD _ hj]
        split <;> exact hv _
      · rw [List.getD_eq_getElem?_getD, List.getElem?_eq_none (by omega)]; simp; omega
    refine rank_wide hp hok (rowsM_ok hg) (by rw [rowsM_length, rowsM_length]) (fun i j hi hj => ?_)
    rw [hrl] at hi
    refine ⟨?_, ?_⟩
    · rw [rowsM_cell _ hi (by omega), rowsM_cell _ hi hj, tab_at _ hi (by omega), if_pos hj]
    · rw [rowsM_cell _ hi (by omega), rowsM_cell _ hi hj, tab_at _ hi (by omega), if_neg (by omega), show C + j - C = j by omega]
end
theorem u64_wrap (n : Int) : IntKind.u64.wrap n = n % 18446744073709551616 := by simp [IntKind.wrap, IntKind.bits, IntKind.signed]
theorem and255 {x : Int} (h0 : 0 ≤ x) (h1 : x < 18446744073709551616) : Go.bits .and .u64 x 255 = x % 256 :=
  bits_mask .u64 64 (by decide) (fun n h0 h1 => by rw [u64_wrap]; exact Int.emod_eq_of_lt h0 (by omega)) 8 (by decide) x h0 (by omega)
def Bytes (l : List Int) : Prop := ∀ x, x ∈ l → 0 ≤ x ∧ x ≤ 255
theorem bytes_rd {l : List Int} (h : Bytes l) (i : Int) : 0 ≤ rd l i ∧ rd l i ≤ 255 := by
  unfold rd
  by_cases hj : i.toNat < l.length
  · rw [getD_at hj]; exact h _ (List.getElem_mem hj)
  · rw [List.getD_eq_getElem?_getD, List.getElem?_eq_none (by omega)]; simp
theorem next_tells {l : List Int} (hl : Bytes l) {at_ : Int} (seed : Int) (h0 : 0 ≤ at_) (h1 : at_ ≤ 4611686018427387904) : ∃ v s, spec_l00Src_next.f l at_ seed = some (v, at_ + 1, s) ∧ 0 ≤ v ∧ v ≤ 255 := by
  have e : wrap64 (at_ + 1) = at_ + 1 := w64_id (by omega) (by omega)
  have hr := bytes_rd hl at_
  have er : wrap64 (rd l at_) = rd l at_ := w64_id (by omega) (by omega)
  have key : ∀ y : Int, 0 ≤ wrap64 (Go.bits .and .u64 (IntKind.u64.wrap y / 1099511627776) 255) ∧ wrap64 (Go.bits .and .u64 (IntKind.u64.wrap y / 1099511627776) 255) ≤ 255 := fun y => by
    have hz : 0 ≤ IntKind.u64.wrap y / 1099511627776 ∧ IntKind.u64.wrap y / 1099511627776 < 18446744073709551616 := by rw [u64_wrap]; omega
    rw [and255 hz.1 hz.2, w64_id (x := IntKind.u64.wrap y / 1099511627776 % 256) (by omega) (by omega)]; omega
  unfold spec_l00Src_next.f
  rw [e, er]
  by_cases c1 : at_ < (l.length : Int)
  · rw [if_pos c1, if_pos h0]
    by_cases c2 : at_ + 1 ≤ (l.length : Int)
    · rw [if_pos c2]; exact ⟨_, _, rfl, hr.1, hr.2⟩
    · rw [if_neg c2]; exact ⟨_, _, rfl, key _⟩
  · rw [if_neg c1]
    by_cases c2 : at_ + 1 ≤ (l.length : Int)
    · rw [if_pos c2]; exact ⟨_, _, rfl, by omega, by omega⟩
    · rw [if_neg c2]; exact ⟨_, _, rfl, key _⟩
theorem pick_tells {l : List Int} (hl : Bytes l) {at_ : Int} (seed n : Int) (h0 : 0 ≤ at_) (h1 : at_ ≤ 4611686018427387000) : ∃ v at' s, spec_l00Src_pick.f l at_ seed n = some (v, at', s) ∧ 0 ≤ v ∧ (v < n ∨ v = 0) ∧ at_ ≤ at' ∧ at' ≤ at_ + 2 := by
  unfold spec_l00Src_pick.f
  by_cases c1 : n ≤ 1
  · rw [if_pos c1]; exact ⟨0, at_, seed, rfl, by omega, .inr rfl, by omega, by omega⟩
  · rw [if_neg c1]
    obtain ⟨v, s, e, v0, v1⟩ := next_tells hl seed h0 (by omega)
    rw [e]
    simp only [Option.bind_some]
    have hn : ¬ n = 0 := by omega
    by_cases c2 : n > 200
    · rw [if_pos c2]
      obtain ⟨u, s', e', u0, u1⟩ := next_tells hl s (show 0 ≤ at_ + 1 by omega) (by omega)
      rw [e']
      simp only [Option.bind_some]
      rw [if_neg hn, w64_id (x := v * 256) (by omega) (by omega), w64_id (x := v * 256 + u) (by omega) (by omega), Int.tmod_eq_emod_of_nonneg (by omega)]
      exact ⟨_, _, _, rfl, Int.emod_nonneg _ hn, .inl (Int.emod_lt_of_pos _ (by omega)), by omega, by omega⟩
    · rw [if_neg c2, if_neg hn, Int.tmod_eq_emod_of_nonneg v0]
      exact ⟨_, _, _, rfl, Int.emod_nonneg _ hn, .inl (Int.emod_lt_of_pos _ (by omega)), by omega, by omega⟩
theorem one_tells {l : List Int} (hl : Bytes l) {at_ : Int} (seed n : Int) (h0 : 0 ≤ at_) (h1 : at_ ≤ 4611686018427387000) : ∃ b at' s, spec_l00Src_one.f l at_ seed n = some (b, at', s) ∧ at_ ≤ at' ∧ at' ≤ at_ + 2 := by
  unfold spec_l00Src_one.f
  obtain ⟨v, at', s, e, _, _, h2, h3⟩ := pick_tells hl seed n h0 h1
  rw [e]
  exact ⟨_, _, _, rfl, h2, h3⟩
theorem among_tells {l : List Int} (hl : Bytes l) {at_ : Int} (seed : Int) {xs : List Int} (hx : xs ≠ []) (h0 : 0 ≤ at_) (h1 : at_ ≤ 4611686018427387000) : ∃ v at' s, spec_l00Src_among.f l at_ seed xs = some (v, at', s) ∧ v ∈ xs ∧ at_ ≤ at' ∧ at' ≤ at_ + 2 := by
  unfold spec_l00Src_among.f
  have hpos := List.length_pos_iff.mpr hx
  obtain ⟨v, at', s, e, v0, v1, h2, h3⟩ := pick_tells hl seed (xs.length : Int) h0 h1
  have hlt : v < (xs.length : Int) := by omega
  rw [e]
  simp only [Option.bind_some]
  rw [if_pos v0, if_pos hlt]
  refine ⟨_, _, _, rfl, ?_, h2, h3⟩
  obtain ⟨i, rfl⟩ := Int.eq_ofNat_of_zero_le v0
  rw [rd_nat]
  exact getD_mem (by omega)
theorem bytesR_of {l : List Int} (h : ∀ x ∈ l, (Lit.int .u8 x).wf = true) : Bytes l := fun x hx => by
  have := h x hx
  simp [Lit.wf, IntKind.min, IntKind.max, IntKind.signed, IntKind.bits] at this
  omega
theorem r8prime_tells {l : List Int} (hl : Bytes l) : ∃ p, spec_R8Prime.f l = some p ∧ isP p = true := by
  unfold spec_R8Prime.f spec_l00From.f spec_l03DrawPrime.f
  simp only [Option.bind_some]
  obtain ⟨v, at2, s2, e2, hv, g3, g4⟩ := among_tells hl 0 (xs := [2, 2, 3, 5, 7, 31, 251]) (by simp) (at_ := 0) (by omega) (by omega)
  rw [e2]
  refine ⟨v, rfl, ?_⟩
  simp at hv
  rcases hv with h | h | h | h | h | h <;> subst h <;> decide
def OkL (p : Int) (o : List Int) : Prop := ∀ j, 0 ≤ o.getD j 0 ∧ o.getD j 0 < p
theorem okL_set {p : Int} {o : List Int} (h : OkL p o) {i : Nat} {v : Int} (hi : i < o.length) (h0 : 0 ≤ v) (h1 : v < p) : OkL p (o.set i v) := fun j => by
  rw [getD_set o i v 0 hi]
  split
  · exact ⟨h0, h1⟩
  · exact h j
theorem okL_zeros {p : Int} (hp : 2 ≤ p) (n : Nat) : OkL p (List.replicate n 0) := fun j => by
  have e : (List.replicate n (0 : Int)).getD j 0 = 0 := by
    simp only [List.getD_eq_getElem?_getD, List.getElem?_replicate]
    split <;> rfl
  rw [e]; omega
theorem fillRow_loop {p : Int} (hp : 2 ≤ p) (hp' : p ≤ 251) {R C : Nat} (hR : R ≤ 64) (hC : C ≤ 64) (h2 : 1 < R) (l : List Int) (at_ s q1 q2 q3 : Int) (d : Nat) : ∀ (k i : Nat) (o : List Int), C - i = d → i ≤ C → d < k → o.length = R * C → OkL p o →
    ∃ o', spec_l03Fill.l1 k p R C i l at_ s q1 q2 q3 o = some (q1, q2, q3, o', at_, s) ∧ o'.length = R * C ∧ OkL p o' := by
  induction d with
  | zero =>
    intro k i o hd hi hk ho hok
    obtain ⟨k, rfl⟩ : ∃ m, k = m + 1 := ⟨k - 1, by omega⟩
    simp only [spec_l03Fill.l1]
    rw [if_neg (by omega)]
    exact ⟨o, rfl, ho, hok⟩
  | succ d ih =>
    intro k i o hd hi hk ho hok
    obtain ⟨k, rfl⟩ : ∃ m, k = m + 1 := ⟨k - 1, by omega⟩
    have hm := side_mul (r := R) (c := C) (by omega) (by omega)
    have hlt : i < R * C := by
      have := at_lt (r := R) (c := C) (i := 0) (j := i) (by omega) (by omega)
      omega
    have hlt2 := at_lt (r := R) (c := C) (i := R - 1) (j := i) (by omega) (by omega)
    have hx := hok i
    have g1 : (i : Int) < (C : Int) := by omega
    have g2 : (0 : Int) ≤ (i : Int) := by omega
    have g3 : (i : Int) < (o.length : Int) := by rw [ho]; omega
    have g4 : ¬ p = 0 := by omega
    have g5 : (0 : Int) ≤ (((R - 1) * C + i : Nat) : Int) := by omega
    have g6 : (((R - 1) * C + i : Nat) : Int) < (o.length : Int) := by rw [ho]; omega
    have g7 : (R - 1) * C + i < o.length := by omega
    have g9 : i < C := by omega
    have g10 : C ≤ 35184372088832 := by omega
    have f1 : C - (i + 1) = d := by omega
    have f2 : i + 1 ≤ C := by omega
    have f3 : d < k := by omega
    have m1 : 0 ≤ o.getD i 0 * 2 % p := Int.emod_nonneg _ g4
    have m2 : o.getD i 0 * 2 % p < p := Int.emod_lt_of_pos _ (by omega)
    have e3 : Int.tmod (wrap64 (rd o i * 2)) p = (o.getD i 0 * 2) % p := by
      rw [rd_nat, w64_id (x := o.getD i 0 * 2) (by omega) (by omega), Int.tmod_eq_emod_of_nonneg (by omega)]
    have e1 : wrap64 ((R : Int) - 1) = ((R - 1 : Nat) : Int) := by rw [w64_id (x := (R : Int) - 1) (by omega) (by omega)]; omega
    have e2 := w64_at (r := R) (c := C) (i := R - 1) (j := i) (by omega) (by omega) (by omega) (by omega)
    have hw : wrap64 ((i : Int) + 1) = ((i + 1 : Nat) : Int) := w64_succ (n := C) g9 g10
    simp only [spec_l03Fill.l1]
    rw [if_pos g1, if_pos g2, if_pos g3, if_neg g4, e1, e2, if_pos g5, if_pos g6, hw, e3, Int.toNat_natCast]
    exact ih k (i + 1) _ f1 f2 f3 (by rw [List.length_set]; exact ho) (okL_set hok g7 m1 m2)
theorem fillEnd_tells {p : Int} (hp : 2 ≤ p) (hp' : p ≤ 251) {R C : Nat} (hR : R ≤ 64) (hC : C ≤ 64) (b : Bool) (hb : b = true → 1 < R) (l : List Int) (at_ s q1 q2 q3 : Int) {k : Nat} (hk : C + 1 < k) {o : List Int} (ho : o.length = R * C) (hok : OkL p o) :
    ∃ o', spec_l03Fill.j1 k p R C b l at_ s q1 q2 q3 o = some (q1, q2, q3, o', at_, s) ∧ o'.length = R * C ∧ OkL p o' := by
  obtain ⟨k, rfl⟩ : ∃ m, k = m + 1 := ⟨k - 1, by omega⟩
  simp only [spec_l03Fill.j1]
  cases b with
  | false => exact ⟨o, rfl, ho, hok⟩
  | true =>
    rw [if_pos rfl]
    exact fillRow_loop hp hp' hR hC (hb rfl) l at_ s q1 q2 q3 C k 0 o (by omega) (by omega) (by omega) ho hok
theorem fill_loop {l : List Int} (hl : Bytes l) {p : Int} (hp : 2 ≤ p) (hp' : p ≤ 251) {R C : Nat} (hR : R ≤ 64) (hC : C ≤ 64) (q1 q2 q3 : Int) (d : Nat) : ∀ (k i : Nat) (o : List Int) (at_ seed : Int), R * C - i = d → i ≤ R * C → d + C + 3 < k → o.length = R * C → OkL p o → 0 ≤ at_ → at_ + 4 * (d : Int) ≤ 1000000 →
    ∃ o' at' s', spec_l03Fill.l0 k p R C i l at_ seed q1 q2 q3 o = some (q1, q2, q3, o', at', s') ∧ o'.length = R * C ∧ OkL p o' := by
  induction d with
  | zero =>
    intro k i o at_ seed hd hi hk ho hok h0 h1
    obtain ⟨k, rfl⟩ : ∃ m, k = m + 1 := ⟨k - 1, by omega⟩
    simp only [spec_l03Fill.l0]
    rw [if_neg (by omega)]
    by_cases c : (R : Int) > 1
    · obtain ⟨b, at1, s1, e1, g1, g2⟩ := one_tells hl seed 3 h0 (by omega)
      rw [if_pos c, e1]
      simp only [Option.bind_some]
      obtain ⟨o', e, a1, a2⟩ := fillEnd_tells hp hp' hR hC b (fun _ => by omega) l at1 s1 q1 q2 q3 (k := k) (by omega) ho hok
      exact ⟨o', at1, s1, e, a1, a2⟩
    · rw [if_neg c]
      obtain ⟨o', e, a1, a2⟩ := fillEnd_tells hp hp' hR hC false (fun h => by simp at h) l at_ seed q1 q2 q3 (k := k) (by omega) ho hok
      exact ⟨o', at_, seed, e, a1, a2⟩
  | succ d ih =>
    intro k i o at_ seed hd hi hk ho hok h0 h1
    obtain ⟨k, rfl⟩ : ∃ m, k = m + 1 := ⟨k - 1, by omega⟩
    have hm := side_mul (r := R) (c := C) (by omega) (by omega)
    obtain ⟨v, at1, s1, e1, _, _, g1, g2⟩ := pick_tells hl seed 3 h0 (by omega)
    have b1 : (i : Int) < (o.length : Int) := by omega
    have b2 : i < o.length := by omega
    have b3 : (0 : Int) ≤ (i : Int) := by omega
    have b4 : R * C - (i + 1) = d := by omega
    have b5 : i + 1 ≤ R * C := by omega
    have b6 : d + C + 3 < k := by omega
    have b7 : i < R * C := by omega
    have b8 : R * C ≤ 35184372088832 := by omega
    by_cases c : v > 0
    · obtain ⟨u, at2, s2, e2, u0, u1, g3, g4⟩ := pick_tells hl s1 p (show 0 ≤ at1 by omega) (by omega)
      have u2 : u < p := by omega
      have b9 : 0 ≤ at2 := by omega
      have b10 : at2 + 4 * (d : Int) ≤ 1000000 := by omega
      simp only [spec_l03Fill.l0]
      rw [if_pos b1, e1]
      simp only [Option.bind_some]
      rw [if_pos c, e2]
      simp only [Option.bind_some]
      rw [if_pos b3, w64_succ b7 b8, Int.toNat_natCast]
      exact ih k (i + 1) _ at2 s2 b4 b5 b6 (by rw [List.length_set]; exact ho) (okL_set hok b2 u0 u2) b9 b10
    · have b9 : 0 ≤ at1 := by omega
      have b10 : at1 + 4 * (d : Int) ≤ 1000000 := by omega
      simp only [spec_l03Fill.l0]
      rw [if_pos b1, e1]
      simp only [Option.bind_some]
      rw [if_neg c, w64_succ b7 b8]
      exact ih k (i + 1) o at1 s1 b4 b5 b6 ho hok b9 b10
theorem zeroM_tells (p : Int) {R C : Nat} (hR : R ≤ 64) (hC : C ≤ 64) : spec_l03Zero.f p R C = some (p, (R : Int), (C : Int), List.replicate (R * C) 0) := by
  have hm := side_mul (r := R) (c := C) (by omega) (by omega)
  have g1 : (0 : Int) ≤ ((R * C : Nat) : Int) := by omega
  have g2 : R * C ≤ 35184372088832 := by omega
  unfold spec_l03Zero.f
  rw [w64_mulN (by omega) (by omega), if_pos g1, Int.toNat_natCast, if_pos g2]
theorem fillM_tells {l : List Int} (hl : Bytes l) {p : Int} (hp : 2 ≤ p) (hp' : p ≤ 251) {R C : Nat} (hR : R ≤ 64) (hC : C ≤ 64) {at_ seed : Int} (h0 : 0 ≤ at_) (h1 : at_ ≤ 900000) {k : Nat} (hk : R * C + C + 3 < k) :
    ∃ o at' s', spec_l03Fill.f k l at_ seed p R C = some (p, (R : Int), (C : Int), o, at', s') ∧ o.length = R * C ∧ OkL p o := by
  have hm := side_mul (r := R) (c := C) (by omega) (by omega)
  unfold spec_l03Fill.f
  rw [zeroM_tells p hR hC, Option.bind_some]
  exact fill_loop hl hp hp' hR hC p R C (R * C) k 0 (List.replicate (R * C) 0) at_ seed (by omega) (by omega) (by omega) (by simp) (okL_zeros hp _) h0 (by omega)
theorem r8matrix_tells {l : List Int} (hl : Bytes l) {p : Int} (hp : 2 ≤ p) (hp' : p ≤ 251) {R C : Nat} (hR : R ≤ 64) (hC : C ≤ 64) {k : Nat} (hk : R * C + C + 3 < k) :
    ∃ o, spec_R8Matrix.f k l p R C = some (p, (R : Int), (C : Int), o) ∧ o.length = R * C ∧ OkL p o := by
  obtain ⟨o, at', s', e, a1, a2⟩ := fillM_tells hl hp hp' hR hC (at_ := 0) (seed := 0) (by omega) (by omega) hk
  refine ⟨o, ?_, a1, a2⟩
  unfold spec_R8Matrix.f spec_l00From.f
  rw [Option.bind_some, e, Option.bind_some]
theorem r8At_tells {l : List Int} (hl : Bytes l) {j : Int} (h0 : 0 ≤ j) {n : Int} (hn : 2 ≤ n) : ∃ v : Nat, laws_r8At.f l j n = some (v : Int) ∧ (v : Int) < n := by
  unfold laws_r8At.f
  rw [if_neg (by omega)]
  by_cases c : j ≥ (l.length : Int)
  · rw [if_pos c]; exact ⟨0, rfl, by omega⟩
  · have hr := bytes_rd hl j
    rw [if_neg c, if_pos h0, if_pos (by omega), if_neg (by omega), w64_id (by omega) (by omega), Int.tmod_eq_emod_of_nonneg hr.1]
    have a := Int.emod_nonneg (rd l j) (show n ≠ 0 by omega)
    have b := Int.emod_lt_of_pos (rd l j) (show 0 < n by omega)
    exact ⟨(rd l j % n).toNat, by rw [Int.toNat_of_nonneg a], by rw [Int.toNat_of_nonneg a]; exact b⟩
theorem r8Same_loop {a : List Int} (ha : a.length ≤ 35184372088832) (d : Nat) : ∀ (k i : Nat), a.length - i = d → i ≤ a.length → d < k → laws_r8Same.l0 k a a i = some true := by
  induction d with
  | zero =>
    intro k i hd hi hk
    obtain ⟨k, rfl⟩ : ∃ m, k = m + 1 := ⟨k - 1, by omega⟩
    simp only [laws_r8Same.l0]
    rw [if_neg (by omega)]
  | succ d ih =>
    intro k i hd hi hk
    obtain ⟨k, rfl⟩ : ∃ m, k = m + 1 := ⟨k - 1, by omega⟩
    simp only [laws_r8Same.l0]
    rw [if_pos (by omega), if_pos (by omega), if_pos (by omega), if_pos trivial, w64_succ (n := a.length) (by omega) ha]
    exact ih k (i + 1) (by omega) (by omega) (by omega)
theorem r8Same_tells {a : List Int} (ha : a.length ≤ 35184372088832) {k : Nat} (hk : a.length < k) : laws_r8Same.f k a a = some true := by
  unfold laws_r8Same.f
  rw [if_pos rfl]
  exact r8Same_loop ha a.length k 0 (by omega) (by omega) (by omega)
theorem sameR_loop {a : List Int} (ha : a.length ≤ 35184372088832) (p r c p' r' c' : Int) (d : Nat) : ∀ (k i : Nat), a.length - i = d → i ≤ a.length → d < k → spec_l03Same.l0 k i p r c a p' r' c' a = some true := by
  induction d with
  | zero =>
    intro k i hd hi hk
    obtain ⟨k, rfl⟩ : ∃ m, k = m + 1 := ⟨k - 1, by omega⟩
    simp only [spec_l03Same.l0]
    rw [if_neg (by omega)]
  | succ d ih =>
    intro k i hd hi hk
    obtain ⟨k, rfl⟩ : ∃ m, k = m + 1 := ⟨k - 1, by omega⟩
    simp only [spec_l03Same.l0]
    rw [if_pos (by omega), if_pos (by omega), if_pos (by omega), if_pos trivial, w64_succ (n := a.length) (by omega) ha]
    exact ih k (i + 1) (by omega) (by omega) (by omega)
theorem sameR_tells (p r c : Int) {a : List Int} (ha : a.length ≤ 35184372088832) {k : Nat} (hk : a.length + 1 < k) : spec_SameMatrix.f k p r c a p r c a = some true := by
  unfold spec_SameMatrix.f spec_l03Same.f
  obtain ⟨k, rfl⟩ : ∃ m, k = m + 1 := ⟨k - 1, by omega⟩
  have e := sameR_loop ha p r c p r c a.length k 0 (by omega) (by omega) (by omega)
  have e0 : ((a.length : Int) != (a.length : Int)) = false := by simp
  rw [if_pos rfl, if_pos rfl, if_pos rfl, e0]
  simp only [spec_l03Same.j0]
  have e' : spec_l03Same.l0 k 0 p r c a p r c a = some true := e
  rw [if_neg (by simp), e']
  rfl
theorem concat_size {rs : List (List Int)} (hr : rs.length ≤ 100) (hl : rs.flatten.length ≤ 100000) (d : Nat) : ∀ k i, rs.length - i = d → i ≤ rs.length → d < k →
    ∃ k', k = k' + d + 1 ∧ slices_Concat_int64_int64.l0 k rs ((rs.take i).flatten.length : Int) rs rs.length i = slices_Concat_int64_int64.l1 k' [] rs rs.length 0 := by
  have hle : ∀ i, (rs.take i).flatten.length ≤ rs.flatten.length := fun i => by
    have : rs.flatten = (rs.take i).flatten ++ (rs.drop i).flatten := by rw [← List.flatten_append, List.take_append_drop]
    rw [this, List.length_append]; omega
  induction d with
  | zero =>
    intro k i hd hi hk
    obtain ⟨k, rfl⟩ : ∃ m, k = m + 1 := ⟨k - 1, by omega⟩
    refine ⟨k, by omega, ?_⟩
    have h1 := hle i
    simp only [slices_Concat_int64_int64.l0]
    rw [if_neg (nlt_nat (by omega))]
    have g : slices_Grow_int64_int64.f [] ((rs.take i).flatten.length : Int) = some [] := by
      unfold slices_Grow_int64_int64.f
      rw [if_pos (show ([] : List Int).length = 0 from rfl), if_pos (by omega), if_pos (by omega)]
    rw [g, Option.bind_some]
  | succ d ih =>
    intro k i hd hi hk
    obtain ⟨k, rfl⟩ : ∃ m, k = m + 1 := ⟨k - 1, by omega⟩
    obtain ⟨k', e1, e2⟩ := ih k (i + 1) (by omega) (by omega) (by omega)
    refine ⟨k', by omega, ?_⟩
    have hiR : i < rs.length := by omega
    have h1 := hle (i + 1)
    rw [← e2, take_flatten_succ rs hiR, List.length_append]
    rw [take_flatten_succ rs hiR, List.length_append] at h1
    have e3 : ((rs.take i).flatten.length : Int) + ((rs.getD i []).length : Int) = (((rs.take i).flatten.length + (rs.getD i []).length : Nat) : Int) := by omega
    simp only [slices_Concat_int64_int64.l0]
    rw [if_pos (lt_nat hiR), if_pos (idx0 _), if_pos (lt_nat hiR), rdL_nat, e3, w64_idV (x := (((rs.take i).flatten.length + (rs.getD i []).length : Nat) : Int)) (by omega) (by omega), if_neg (by omega), w64_succ (n := 100) (by omega) (by omega)]
theorem concat_rows {rs : List (List Int)} (hr : rs.length ≤ 100) (hl : rs.flatten.length ≤ 100000) (d : Nat) : ∀ k i, rs.length - i = d → i ≤ rs.length → d < k →
    slices_Concat_int64_int64.l1 k (rs.take i).flatten rs rs.length i = some rs.flatten := by
  have hle : ∀ i, (rs.take i).flatten.length ≤ rs.flatten.length := fun i => by
    have : rs.flatten = (rs.take i).flatten ++ (rs.drop i).flatten := by rw [← List.flatten_append, List.take_append_drop]
    rw [this, List.length_append]; omega
  induction d with
  | zero =>
    intro k i hd hi hk
    obtain ⟨k, rfl⟩ : ∃ m, k = m + 1 := ⟨k - 1, by omega⟩
    simp only [slices_Concat_int64_int64.l1]
    rw [if_neg (nlt_nat (by omega)), List.take_of_length_le (by omega)]
  | succ d ih =>
    intro k i hd hi hk
    obtain ⟨k, rfl⟩ : ∃ m, k = m + 1 := ⟨k - 1, by omega⟩
    have hiR : i < rs.length := by omega
    have h1 := hle (i + 1)
    have e2 := ih k (i + 1) (by omega) (by omega) (by omega)
    rw [take_flatten_succ rs hiR] at h1 e2
    rw [List.length_append] at h1
    simp only [slices_Concat_int64_int64.l1]
    rw [if_pos (lt_nat hiR), if_pos (idx0 _), if_pos (lt_nat hiR), rdL_nat, if_pos (by omega), w64_succ (n := 100) (by omega) (by omega)]
    exact e2
theorem concat_tells {rs : List (List Int)} (hr : rs.length ≤ 100) (hl : rs.flatten.length ≤ 100000) {k : Nat} (hk : 300 ≤ k) : slices_Concat_int64_int64.f k rs = some rs.flatten := by
  unfold slices_Concat_int64_int64.f
  obtain ⟨k', e1, e2⟩ := concat_size hr hl rs.length k 0 (by omega) (by omega) (by omega)
  refine e2.trans ?_
  exact concat_rows hr hl rs.length k' 0 (by omega) (by omega) (by omega)
theorem matrixOf_tells {p q : Int} {C : Nat} (c : Int) {rs : List (List Int)} (hok : RowsOk p C rs) (hr : rs.length ≤ 100) (hC : C ≤ 100) {k : Nat} (hk : 300 ≤ k) : impl_matrixOf.f k q c rs = some (q, (rs.length : Int), c, tab rs.length C (cell rs)) := by
  have hl : rs.flatten.length ≤ 100000 := by
    rw [flatten_rows hok, tab_length]
    have : rs.length * C ≤ 100 * 100 := Nat.mul_le_mul hr hC
    omega
  unfold impl_matrixOf.f
  show Option.bind (some (rs.length : Int)) _ = _
  rw [Option.bind_some, concat_tells hr hl hk, Option.bind_some, flatten_rows hok]
section
variable {p : Int} {R C : Nat} {piv ml : List Int} {det mp m2 op o1 o2 : Int}
def sw (f : Nat → Nat → Int) (x y a b : Nat) : Int := if a = x then f y b else if a = y then f x b else f a b
def cleared (p : Int) (f : Nat → Nat → Int) (row c a b : Nat) : Int := if f a c = 0 then f a b else (f a b - f a c * f row b) % p
def pivoted (p : Int) (f : Nat → Nat → Int) (row c : Nat) : Nat → Nat → Int :=
  fun a b => if a ≠ row then cleared p (fun a b => if a = row then f a b * pinv p (f row c) % p else f a b) row c a b else (if a = row then f a b * pinv p (f row c) % p else f a b)
end
theorem pow_emod (a : Int) (n : Nat) (p : Int) : (a % p) ^ n % p = a ^ n % p := by
  induction n with
  | zero => rw [Int.pow_zero, Int.pow_zero]
  | succ n ih => rw [Int.pow_succ, Int.pow_succ, Int.mul_emod, ih, Int.emod_emod_of_dvd a (Int.dvd_refl p), ← Int.mul_emod]
theorem small_mul {p x y : Int} (hp : 2 ≤ p) (hp' : p ≤ 251) (hx : 0 ≤ x) (hx' : x < p) (hy : 0 ≤ y) (hy' : y < p) : 0 ≤ x * y ∧ x * y ≤ 63001 := by
  have h1 := Int.mul_nonneg hx hy
  have h2 : x * y ≤ 251 * 251 := Int.mul_le_mul (by omega) (by omega) hy (by omega)
  omega
theorem tmod_small {p x y : Int} (hp : 2 ≤ p) (hp' : p ≤ 251) (hx : 0 ≤ x) (hx' : x < p) (hy : 0 ≤ y) (hy' : y < p) : Int.tmod (wrap64 (x * y)) p = x * y % p := by
  have h := small_mul hp hp' hx hx' hy hy'
  rw [w64_id (x := x * y) (by omega) (by omega), Int.tmod_eq_emod_of_nonneg h.1]
theorem half_wrap {n : Nat} (h : n ≤ 9223372036854775807) : Int.tmod (n : Int) 2 = ((n % 2 : Nat) : Int) ∧ wrap64 (Int.tdiv (n : Int) 2) = ((n / 2 : Nat) : Int) := by
  rw [Int.tmod_eq_emod_of_nonneg (Int.natCast_nonneg n), Int.tdiv_eq_ediv_of_nonneg (Int.natCast_nonneg n)]
  refine ⟨by omega, ?_⟩
  rw [w64_id (x := (n : Int) / 2) (by omega) (by omega)]; omega
theorem emod_range {p : Int} (hp : 2 ≤ p) (x : Int) : 0 ≤ x % p ∧ x % p < p := ⟨Int.emod_nonneg _ (by omega), Int.emod_lt_of_pos _ (by omega)⟩
theorem pow_loop {p : Int} (hp : 2 ≤ p) (hp' : p ≤ 251) (j : Nat) : ∀ (k : Nat) (x acc : Int) (n : Nat), j < k → n < 2 ^ j → n ≤ 9223372036854775807 → 0 ≤ x → x < p → 0 ≤ acc → acc < p →
    impl_powerOf.l0 k x n p acc = some (acc * x ^ n % p) := by
  induction j with
  | zero =>
    intro k x acc n hk hn _ _ _ h0 h1
    obtain ⟨k, rfl⟩ : ∃ m, k = m + 1 := ⟨k - 1, by omega⟩
    obtain rfl : n = 0 := by simpa using hn
    simp only [impl_powerOf.l0]
    rw [if_neg (by simp)]
    rw [Int.pow_zero, Int.mul_one, Int.emod_eq_of_lt h0 h1]
  | succ j ih =>
    intro k x acc n hk hn hn2 hx hx' h0 h1
    obtain ⟨k, rfl⟩ : ∃ m, k = m + 1 := ⟨k - 1, by omega⟩
    simp only [impl_powerOf.l0]
    by_cases hz : n = 0
    · subst hz
      rw [if_neg (by simp), Int.pow_zero, Int.mul_one, Int.emod_eq_of_lt h0 h1]
    · have hh : n / 2 < 2 ^ j := Nat.div_lt_of_lt_mul (by rw [Nat.pow_succ, Nat.mul_comm] at hn; exact hn)
      clear hn
      have e0 : (n : Int) > 0 := by omega
      obtain ⟨e1, e2⟩ := half_wrap hn2
      have e3 := tmod_small hp hp' hx hx' hx hx'
      have e4 := tmod_small hp hp' h0 h1 hx hx'
      have ep : ¬ p = 0 := by omega
      simp only [e0, if_true, e1, e2, e3, e4, ep, if_false]
      obtain ⟨m1, m2⟩ := emod_range hp (x * x)
      obtain ⟨m3, m4⟩ := emod_range hp (acc * x)
      have hn3 : n / 2 ≤ 9223372036854775807 := Nat.le_trans (Nat.div_le_self _ _) hn2
      have hk' : j < k := by omega
      have key : (x * x % p) ^ (n / 2) % p = x ^ (2 * (n / 2)) % p := by
        rw [pow_emod, Int.pow_mul, Int.pow_succ, Int.pow_succ, Int.pow_zero, Int.one_mul]
      by_cases ho : n % 2 = 1
      · rw [if_pos (by rw [ho]; rfl), ih k (x * x % p) (acc * x % p) (n / 2) hk' hh hn3 m1 m2 m3 m4]
        congr 1
        rw [Int.mul_emod, key, Int.emod_emod_of_dvd _ (Int.dvd_refl p), ← Int.mul_emod, Int.mul_assoc]
        congr 2
        rw [Int.mul_comm, ← Int.pow_succ]
        congr 1; omega
      · rw [if_neg (fun e => ho (by have := Int.ofNat_inj.mp e; exact this)), ih k (x * x % p) acc (n / 2) hk' hh hn3 m1 m2 h0 h1]
        congr 1
        rw [Int.mul_emod, key, ← Int.mul_emod]
        congr 3; omega
theorem pow_tells {p a : Int} {n : Nat} (hp : 2 ≤ p) (hp' : p ≤ 251) (h0 : 0 ≤ a) (h1 : a < p) (hn : n ≤ 9223372036854775807) {k : Nat} (hk : 64 ≤ k) : impl_powerOf.f k a n p = some (a ^ n % p) := by
  unfold impl_powerOf.f
  rw [pow_loop hp hp' 63 k a 1 n (by omega) (by omega) hn h0 h1 (by omega) (by omega), Int.one_mul]
theorem inverse_tells {p a : Int} (hp : isP p = true) (h0 : 0 ≤ a) (h1 : a < p) {k : Nat} (hk : 64 ≤ k) : impl_inverseOf.f k a p = some (pinv p a) := by
  have h := isP_ge hp
  unfold impl_inverseOf.f
  rw [w64_id (x := p - 2) (by omega) (by omega), show p - 2 = (((p - 2).toNat : Nat) : Int) by omega, pow_tells h.1 h.2 h0 h1 (by omega) hk]
  rfl
theorem mul_smallV {p x y : Int} (hp : 2 ≤ p) (hp' : p ≤ 251) (hx : 0 ≤ x) (hx' : x ≤ 251) (hy : 0 ≤ y) (hy' : y < p) : 0 ≤ x * y ∧ x * y ≤ 63001 := by
  have g1 := Int.mul_nonneg hx hy
  have g2 : x * y ≤ 251 * 251 := Int.mul_le_mul hx' (by omega) hy (by omega)
  omega
theorem take_snocV {l : List Int} {i : Nat} (h : i < l.length) : l.take i ++ [l.getD i 0] = l.take (i + 1) := by
  rw [List.take_succ_eq_append_getElem h, getD_at h]
theorem addV_loop {a b : List Int} {c p : Int} (hp : 2 ≤ p) (hp' : p ≤ 251) (hl : a.length = b.length) (hn : a.length ≤ 17592186044416) (ha : ∀ j, 0 ≤ a.getD j 0 ∧ a.getD j 0 < p) (hb : ∀ j, 0 ≤ b.getD j 0 ∧ b.getD j 0 < p) (hc : 0 ≤ c) (hc' : c ≤ 251) (d : Nat) :
    ∀ (k i : Nat), a.length - i = d → i ≤ a.length → d < k → impl_addTimes.l0 k a b c p ((addRow p a b c).take i) a.length i = some (addRow p a b c) := by
  have hz : (addRow p a b c).length = a.length := by unfold addRow; simp [hl]
  induction d with
  | zero =>
    intro k i hd hi hk
    obtain ⟨k, rfl⟩ : ∃ m, k = m + 1 := ⟨k - 1, by omega⟩
    simp only [impl_addTimes.l0]
    have hf : ¬ (i : Int) < (a.length : Int) := by omega
    simp only [hf, if_false]
    rw [List.take_of_length_le (by omega)]
  | succ d ih =>
    intro k i hd hi hk
    obtain ⟨k, rfl⟩ : ∃ m, k = m + 1 := ⟨k - 1, by omega⟩
    simp only [impl_addTimes.l0]
    have h1 : (i : Int) < (a.length : Int) := by omega
    have h2 : (i : Int) < (b.length : Int) := by omega
    have h0 : (0 : Int) ≤ (i : Int) := by omega
    have hp0 : ¬ p = 0 := by omega
    have hlt : ((addRow p a b c).take i).length < 17592186044416 := by rw [List.length_take]; omega
    have hm := mul_smallV hp hp' hc hc' (hb i).1 (hb i).2
    have e : Int.tmod (wrap64 (rd a i + wrap64 (c * rd b i))) p = (addRow p a b c).getD i 0 := by
      have := ha i
      rw [rd_nat, rd_nat, w64_idV (x := c * b.getD i 0) (by omega) (by omega), w64_idV (x := a.getD i 0 + c * b.getD i 0) (by omega) (by omega), Int.tmod_eq_emod_of_nonneg (by omega), addRow_getD (by omega) (by omega)]
    simp only [h0, h1, h2, hp0, if_true, if_false, hlt]
    rw [e, w64_succ (n := a.length) (by omega) (by omega), take_snocV (by omega)]
    exact ih k (i + 1) (by omega) (by omega) (by omega)
theorem addV_tells {a b : List Int} {c p : Int} (hp : 2 ≤ p) (hp' : p ≤ 251) (hl : a.length = b.length) (hn : a.length ≤ 17592186044416) (ha : ∀ j, 0 ≤ a.getD j 0 ∧ a.getD j 0 < p) (hb : ∀ j, 0 ≤ b.getD j 0 ∧ b.getD j 0 < p) (hc : 0 ≤ c) (hc' : c ≤ 251) {k : Nat} (hk : a.length < k) :
    impl_addTimes.f k a b c p = some (addRow p a b c) := by
  unfold impl_addTimes.f
  exact addV_loop hp hp' hl hn ha hb hc hc' a.length k 0 (by omega) (by omega) hk
def firstRow (rs : List (List Int)) (t c : Int) : Option Int :=
  if 0 ≤ t then (if t ≤ (rs.length : Int) then (if 0 ≤ c then (if ((rs.drop t.toNat).all fun l => decide (c < (l.length : Int))) = true then some (idxOf (cellAt c) (rs.drop t.toNat)) else none) else none) else none) else none
theorem cellAt_nat (c : Nat) : cellAt (c : Int) = fun r => decide (r.getD c 0 ≠ 0) := by
  funext r; unfold cellAt; rw [rd_nat]
theorem firstRow_tells {n : Nat} {rs : List (List Int)} (h : ∀ r, r ∈ rs → r.length = n) {t c : Nat} (ht : t ≤ rs.length) (hc : c < n) :
    firstRow rs t c = some (match findPivot rs t c with | some k => (k : Int) | none => -1) := by
  unfold firstRow
  rw [if_pos (by omega), if_pos (by omega), if_pos (by omega), if_pos, Int.toNat_natCast]
  · unfold idxOf findPivot; rw [cellAt_nat]; rfl
  · rw [Int.toNat_natCast]
    exact List.all_eq_true.mpr (fun r hr => decide_eq_true (by rw [h r (List.mem_of_mem_drop hr)]; omega))
def clr (p : Int) (c top : Nat) (q : List Int) (i : Nat) (R : List (List Int)) : List (List Int) := R.mapIdx (fun j r => if j < i ∧ j ≠ top then clearRow p c q r else r)
theorem clr_length (p : Int) (c top : Nat) (q : List Int) (i : Nat) (R : List (List Int)) : (clr p c top q i R).length = R.length := by unfold clr; simp
theorem clr_zero (p : Int) (c top : Nat) (q : List Int) (R : List (List Int)) : clr p c top q 0 R = R := by
  apply List.ext_getElem? ; intro j
  unfold clr
  rw [List.getElem?_mapIdx]
  cases R[j]? <;> simp
theorem clr_all (p : Int) (c top : Nat) (q : List Int) (R : List (List Int)) : clr p c top q R.length R = clearAll p c top q R := by
  apply List.ext_getElem? ; intro j
  unfold clr clearAll
  rw [List.getElem?_mapIdx, List.getElem?_mapIdx]
  by_cases hj : j < R.length
  · by_cases e : j = top
    · simp [e]
    · simp [e, hj]
  · rw [List.getElem?_eq_none (by omega)]; rfl
theorem clr_get (p : Int) (c top : Nat) (q : List Int) (i : Nat) (R : List (List Int)) {j : Nat} (hj : j < R.length) :
    (clr p c top q i R).getD j [] = if j < i ∧ j ≠ top then clearRow p c q (R.getD j []) else R.getD j [] := by
  unfold clr
  rw [List.getD_eq_getElem?_getD, List.getElem?_mapIdx, List.getD_eq_getElem?_getD, List.getElem?_eq_getElem hj]
  rfl
theorem clr_step (p : Int) (c top : Nat) (q : List Int) (i : Nat) (R : List (List Int)) (hi : i < R.length) :
    clr p c top q (i + 1) R = if i = top then clr p c top q i R else (clr p c top q i R).set i (clearRow p c q (R.getD i [])) := by
  by_cases e : i = top
  · rw [if_pos e]
    apply List.ext_getElem? ; intro j
    unfold clr
    rw [List.getElem?_mapIdx, List.getElem?_mapIdx]
    by_cases e2 : j = top
    · simp [e2]
    · have : (j < i + 1) = (j < i) := by apply propext; omega
      simp [e2, this]
  · rw [if_neg e]
    apply List.ext_getElem? ; intro j
    rw [List.getElem?_set]
    unfold clr
    rw [List.getElem?_mapIdx, List.getElem?_mapIdx]
    by_cases e2 : i = j
    · subst e2
      rw [if_pos rfl, if_pos (by rw [List.length_mapIdx]; exact hi), List.getElem?_eq_getElem hi, List.getD_eq_getElem?_getD, List.getElem?_eq_getElem hi]
      simp [e]
    · have : (j < i + 1) = (j < i) := by apply propext; omega
      rw [if_neg e2]
      simp only [this]
theorem range_of {p : Int} {r : List Int} {n : Nat} (hp : 2 ≤ p) (h : RowOk p n r) (j : Nat) : 0 ≤ r.getD j 0 ∧ r.getD j 0 < p := by
  by_cases hj : j < r.length
  · rw [List.getD_eq_getElem?_getD, List.getElem?_eq_getElem hj]; exact h.2 _ (List.getElem_mem hj)
  · rw [List.getD_eq_getElem?_getD, List.getElem?_eq_none (by omega)]; simp; omega
theorem rowOk_at {p : Int} {R : List (List Int)} {n i : Nat} (h : RowsOk p n R) (hi : i < R.length) : RowOk p n (R.getD i []) := h _ (getD_mem hi)
theorem elim_inner {p : Int} (hp : isP p = true) {n : Nat} {R : List (List Int)} (hok : RowsOk p n R) {top c : Nat} (ht : top < R.length) (hc : c < n) (hm : R.length ≤ 1048576) (hn : n ≤ 70) (piv : List Int) (hpv : piv.length ≤ 100) (det : Int) (d : Nat) :
    ∀ k i, R.length - i = d → i ≤ R.length → d + 100 < k → ∃ k', k = k' + d + 1 ∧
      impl_eliminate.l1 k n p piv det top n c R.length i (clr p c top (R.getD top []) i R) c = impl_eliminate.l0 k' n p (piv ++ [(c : Int)]) det n ((c + 1 : Nat) : Int) (clearAll p c top (R.getD top []) R) := by
  have h2 := isP_ge hp
  induction d with
  | zero =>
    intro k i hd hi hk
    obtain ⟨k, rfl⟩ : ∃ m, k = m + 1 := ⟨k - 1, by omega⟩
    obtain rfl : i = R.length := by omega
    refine ⟨k, by omega, ?_⟩
    simp only [impl_eliminate.l1]
    rw [if_neg (by omega), if_pos (by omega), clr_all, w64_succ (n := 70) (by omega) (by omega)]
  | succ d ih =>
    intro k i hd hi hk
    obtain ⟨k, rfl⟩ : ∃ m, k = m + 1 := ⟨k - 1, by omega⟩
    obtain ⟨k', e', ih⟩ := ih k (i + 1) (by omega) (by omega) (by omega)
    refine ⟨k', by omega, ?_⟩
    have hiR : i < R.length := by omega
    rw [← ih]
    have hs := clr_step p c top (R.getD top []) i R hiR
    have gi : (clr p c top (R.getD top []) i R).getD i [] = R.getD i [] := by rw [clr_get _ _ _ _ _ _ hiR, if_neg (by omega)]
    have gt : (clr p c top (R.getD top []) i R).getD top [] = R.getD top [] := by rw [clr_get _ _ _ _ _ _ ht, if_neg (by omega)]
    have okI := rowOk_at hok hiR
    have okT := rowOk_at hok ht
    have hl := clr_length p c top (R.getD top []) i R
    generalize clr p c top (R.getD top []) i R = C at hs gi gt hl ⊢
    simp only [impl_eliminate.l1]
    rw [if_pos (by omega), if_pos (by omega), if_pos (by omega), w64_succ (n := 1048576) (i := i) (by omega) (by omega)]
    by_cases e : i = top
    · rw [if_pos (by omega), hs, if_pos e]
    · rw [if_neg (by omega), if_pos (by omega), rdL_nat, gi, if_pos (by rw [okI.1]; omega), rd_nat]
      by_cases ez : (R.getD i []).getD c 0 = 0
      · rw [if_pos ez, hs, if_neg e]
        have : C.set i (clearRow p c (R.getD top []) (R.getD i [])) = C := by
          unfold clearRow
          rw [if_pos ez]
          apply List.ext_getElem? ; intro j
          rw [List.getElem?_set]
          by_cases ej : i = j
          · subst ej
            rw [if_pos rfl, if_pos (by omega), ← gi, List.getD_eq_getElem?_getD, List.getElem?_eq_getElem (show i < C.length by omega)]; rfl
          · rw [if_neg ej]
        rw [this]
      · have rI := range_of h2.1 okI
        have rT := range_of h2.1 okT
        have rc := rI c
        rw [if_neg ez, if_pos (by omega), if_pos (by omega), rdL_nat, gt, w64_idV (x := p - (R.getD i []).getD c 0) (by omega) (by omega),
          addV_tells h2.1 h2.2 (by rw [okI.1, okT.1]) (by rw [okI.1]; omega) rI rT (by omega) (by omega) (by rw [okI.1]; omega), Option.bind_some, Int.toNat_natCast, hs, if_neg e]
        unfold clearRow
        rw [if_neg ez]
theorem reduce_small {p x : Int} (hp : 2 ≤ p) (hp' : p ≤ 251) (hx : -1000000 ≤ x) (hx' : x ≤ 1000000) : impl_reduce.f x p = some (x % p) := by
  unfold impl_reduce.f
  rw [if_neg (by omega)]
  have h1 : -p < Int.tmod x p := Int.lt_tmod_of_pos _ (by omega)
  have h2 : Int.tmod x p < p := Int.tmod_lt_of_pos _ (by omega)
  rw [w64_idV (x := Int.tmod x p + p) (by omega) (by omega), Int.tmod_eq_emod_of_nonneg (by omega), Int.add_emod_right]
  congr 1
  have h := Int.mul_tdiv_add_tmod x p
  have : x = Int.tmod x p + p * (Int.tdiv x p) := by omega
  conv => rhs; rw [this]
  rw [Int.add_mul_emod_self_left]
theorem addRow_zeros {p : Int} (n : Nat) (r : List Int) (hr : r.length = n) (c : Int) : addRow p (List.replicate n 0) r c = r.map (fun x => c * x % p) := by
  refine ext_getD (by unfold addRow; simp [hr]) (fun j hj => ?_)
  have hj' : j < n := by unfold addRow at hj; simp [hr] at hj; omega
  rw [addRow_getD (by simp; omega) (by omega)]
  have e0 : (List.replicate n (0 : Int)).getD j 0 = 0 := by simp [List.getD_eq_getElem?_getD, List.getElem?_replicate, hj']
  rw [e0, Int.zero_add]
  simp [List.getD_eq_getElem?_getD, List.getElem?_map, List.getElem?_eq_getElem (show j < r.length by omega)]
theorem elim_j1 {p : Int} (hp : isP p = true) {n : Nat} {R : List (List Int)} (hok : RowsOk p n R) {top c : Nat} (ht : top < R.length) (hc : c < n) (hm : R.length ≤ 1048576) (hn : n ≤ 70) (piv : List Int) (hpv : piv.length ≤ 100) {det : Int} (hd : 0 ≤ det) (hd' : det < p) {k : Nat} (hk : R.length + 200 < k) :
    ∃ k', k = k' + R.length + 2 ∧ impl_eliminate.j1 k n p piv det top n c R c =
      impl_eliminate.l0 k' n p (piv ++ [(c : Int)]) (det * cell R top c % p) n ((c + 1 : Nat) : Int) (clearAll p c top ((R.getD top []).map (fun x => pinv p (cell R top c) * x % p)) (R.set top ((R.getD top []).map (fun x => pinv p (cell R top c) * x % p)))) := by
  have h2 := isP_ge hp
  have okT := rowOk_at hok ht
  have rT := range_of h2.1 okT
  have rc := rT c
  obtain ⟨k, rfl⟩ : ∃ m, k = m + 1 := ⟨k - 1, by omega⟩
  have hcell : cell R top c = (R.getD top []).getD c 0 := rfl
  have hq : RowOk p n ((R.getD top []).map (fun x => pinv p (cell R top c) * x % p)) := scale_ok _ (by omega) okT.1
  have hokS := RowsOk.set hok hq top
  obtain ⟨k', e', hin⟩ := elim_inner hp hokS (top := top) (c := c) (by simp; omega) hc (by simp; omega) hn piv hpv (det * cell R top c % p) (R.set top ((R.getD top []).map (fun x => pinv p (cell R top c) * x % p))).length k 0 (by omega) (by omega) (by simp; omega)
  rw [clr_zero, getD_set _ _ _ _ ht, if_pos rfl] at hin
  simp only [List.length_set] at e' hin
  refine ⟨k', by omega, ?_⟩
  rw [← hin]
  have hpi := pinv_range (p := p) (a := cell R top c) hp
  simp only [impl_eliminate.j1]
  rw [if_pos (by omega), if_pos (by omega), if_pos (by omega), rdL_nat, if_pos (by rw [okT.1]; omega), if_neg (by omega), if_pos (by omega), if_pos (by rw [Int.toNat_natCast]; omega), rd_nat,
    inverse_tells hp rc.1 rc.2 (by omega), Option.bind_some, Int.toNat_natCast]
  rw [addV_tells h2.1 h2.2 (by rw [okT.1]; simp) (by simp; omega) (fun j => by
      have : (List.replicate n (0 : Int)).getD j 0 = 0 := by
        rw [List.getD_eq_getElem?_getD, List.getElem?_replicate]; split <;> rfl
      rw [this]; omega) rT (by rw [← hcell]; omega) (by rw [← hcell]; omega) (by simp; omega), Option.bind_some, addRow_zeros n _ okT.1, Int.toNat_natCast]
  have hsm := mul_smallV h2.1 h2.2 hd (by omega) rc.1 rc.2
  rw [w64_idV (x := det * (R.getD top []).getD c 0) (by omega) (by omega), Int.tmod_eq_emod_of_nonneg hsm.1, ← hcell]
  rfl
theorem elim_loop {p : Int} (hp : isP p = true) {n : Nat} {rs : List (List Int)} (hm : rs.length ≤ 1048576) (hn : n ≤ 70) (hok : RowsOk p n rs) (d : Nat) :
    ∀ k c, n - c = d → c ≤ n → d * (rs.length + 4) + 300 < k →
      impl_eliminate.l0 k n p (elimTo p rs c).2.1 (elimTo p rs c).2.2 n c (elimTo p rs c).1 = some ((elim p n rs).2.1, (elim p n rs).2.2, (elim p n rs).1) := by
  have h2 := isP_ge hp
  induction d with
  | zero =>
    intro k c hd hc hk
    obtain ⟨k, rfl⟩ : ∃ m, k = m + 1 := ⟨k - 1, by omega⟩
    obtain rfl : c = n := by omega
    simp only [impl_eliminate.l0]
    rw [if_neg (by omega)]
    rfl
  | succ d ih =>
    intro k c hd hc hk
    obtain ⟨k, rfl⟩ : ∃ m, k = m + 1 := ⟨k - 1, by omega⟩
    have hcn : c < n := by omega
    have hmul : (d + 1) * (rs.length + 4) = d * (rs.length + 4) + (rs.length + 4) := by rw [Nat.add_mul, Nat.one_mul]
    have ih2 : ∀ k', d * (rs.length + 4) + 300 < k' → impl_eliminate.l0 k' n p (elimTo p rs (c + 1)).2.1 (elimTo p rs (c + 1)).2.2 n ((c + 1 : Nat) : Int) (elimTo p rs (c + 1)).1 = _ := fun k' hk' => ih k' (c + 1) (by omega) (by omega) hk'
    obtain ⟨t1, t2, t7, hle, t6, t8⟩ := elimTo_small hp hok c hc
    rw [elimTo_succ] at ih2
    generalize elimTo p rs c = s at *
    obtain ⟨R, piv, det⟩ := s
    dsimp only at *
    have hf := firstRow_tells (fun x hx => (t1 x hx).1) (t := piv.length) (c := c) (rs := R) (by omega) hcn
    simp only [impl_eliminate.l0]
    rw [if_pos (by omega)]
    show Option.bind (firstRow R (piv.length : Int) (c : Int)) _ = _
    rw [hf, Option.bind_some]
    cases hp1 : findPivot R piv.length c with
    | none =>
      rw [elimStep_none hp1] at ih2
      dsimp only at ih2 ⊢
      rw [if_pos (by omega), w64_succ (n := 70) (by omega) (by omega)]
      exact ih2 k (by omega)
    | some q =>
      obtain ⟨b1, b2⟩ := findPivot_some hp1
      have hst : elimStep p (R, piv, det) c = (clearAll p c piv.length (((if q = 0 then R else swapRows R piv.length (piv.length + q)).getD piv.length []).map (fun x => pinv p (cell (if q = 0 then R else swapRows R piv.length (piv.length + q)) piv.length c) * x % p)) ((if q = 0 then R else swapRows R piv.length (piv.length + q)).set piv.length (((if q = 0 then R else swapRows R piv.length (piv.length + q)).getD piv.length []).map (fun x => pinv p (cell (if q = 0 then R else swapRows R piv.length (piv.length + q)) piv.length c) * x % p))), piv ++ [(c : Int)], (if q = 0 then det else -det % p) * cell (if q = 0 then R else swapRows R piv.length (piv.length + q)) piv.length c % p) := by
        unfold elimStep; simp only [hp1]
      rw [hst] at ih2
      clear hst
      dsimp only at ih2 ⊢
      rw [if_neg (by omega)]
      by_cases e : q = 0
      · subst e
        simp only [if_true] at ih2
        rw [if_neg (show ¬ (((0 : Nat) : Int) > 0) by decide)]
        obtain ⟨k', ek, hj⟩ := elim_j1 hp t1 (top := piv.length) (c := c) (by omega) hcn (by omega) hn piv (by omega) t6.1 t6.2 (k := k) (by omega)
        rw [hj]
        exact ih2 k' (by omega)
      · simp only [if_neg e] at ih2
        have z1 : ((q : Nat) : Int) > 0 := by omega
        have z2 : (0 : Int) ≤ ((piv.length + q : Nat) : Int) := by omega
        have z3 : ((piv.length + q : Nat) : Int) < (R.length : Int) := by omega
        have z4 : (0 : Int) ≤ (piv.length : Int) := by omega
        have z5 : (piv.length : Int) < (R.length : Int) := by omega
        have z6 : -9223372036854775808 ≤ (piv.length : Int) + (q : Int) := by omega
        have z7 : (piv.length : Int) + (q : Int) ≤ 9223372036854775807 := by omega
        have z8 : (piv.length : Int) + (q : Int) = ((piv.length + q : Nat) : Int) := by omega
        have z9 : -9223372036854775808 ≤ -det := by omega
        have z10 : -det ≤ 9223372036854775807 := by omega
        have z11 : impl_reduce.f (-det) p = some (-det % p) := reduce_small h2.1 h2.2 (by omega) (by omega)
        rw [if_pos z1, w64_idV z6 z7, z8, if_pos z2, if_pos z3, if_pos z4, if_pos z5, w64_idV z9 z10, z11, Option.bind_some, rdL_nat, rdL_nat, Int.toNat_natCast, Int.toNat_natCast]
        have hsw : (R.set piv.length (R.getD (piv.length + q) [])).set (piv.length + q) (R.getD piv.length []) = swapRows R piv.length (piv.length + q) := rfl
        rw [hsw]
        have hl := swapRows_length R piv.length (piv.length + q)
        have hokW := RowsOk.swap t1 (a := piv.length) (b := piv.length + q) (by omega) b1
        obtain ⟨k', ek, hj⟩ := elim_j1 hp hokW (top := piv.length) (c := c) (by omega) hcn (by omega) hn piv (by omega) (det := -det % p) (Int.emod_nonneg _ (by omega)) (Int.emod_lt_of_pos _ (by omega)) (k := k) (by omega)
        rw [hj]
        exact ih2 k' (by omega)
theorem elim_tells {p : Int} (hp : isP p = true) {n : Nat} {rs : List (List Int)} (hm : rs.length ≤ 64) (hn : n ≤ 70) (hok : RowsOk p n rs) {k : Nat} (hk : 6000 ≤ k) :
    impl_eliminate.l0 k n p [] 1 n 0 rs = some ((elim p n rs).2.1, (elim p n rs).2.2, (elim p n rs).1) := by
  have h : n * (rs.length + 4) ≤ 70 * 68 := Nat.mul_le_mul hn (by omega)
  exact elim_loop hp (by omega) hn hok n k 0 (by omega) (by omega) (by omega)
theorem implElim_tells {p : Int} (hp : isP p = true) {R C : Nat} {l : List Int} (hR : R ≤ 64) (hC : C ≤ 70) (hl : l.length = R * C) (hv : ∀ j, 0 ≤ l.getD j 0 ∧ l.getD j 0 < p) {k : Nat} (hk : 6000 ≤ k) :
    impl_eliminate.f k p R C l C p = some ((elim p C (rowsM R C l)).2.1, (elim p C (rowsM R C l)).2.2, (elim p C (rowsM R C l)).1) := by
  unfold impl_eliminate.f
  rw [rowsOf_tells hR hC hl (by omega), Option.bind_some]
  exact elim_tells hp (by rw [rowsM_length]; exact hR) hC (rowsM_ok hv) hk
theorem elim_ok {p : Int} (hp : isP p = true) {n : Nat} {rs : List (List Int)} (hok : RowsOk p n rs) : RowsOk p n (elim p n rs).1 ∧ (elim p n rs).1.length = rs.length ∧ (elim p n rs).2.1.length ≤ n := by
  obtain ⟨t1, t2, t3, _, _, _⟩ := elimTo_small hp hok n (Nat.le_refl _)
  exact ⟨t1, t2, t3⟩
def redOut (p r c : Int) (l : List Int) : Int × Int × Int × List Int × List Int × Int := if matOk p r c l = true then (p, r, c, tab r.toNat c.toNat (cell (elim p c.toNat (rowsM r.toNat c.toNat l)).1), (elim p c.toNat (rowsM r.toNat c.toNat l)).2.1, 0) else (0, 0, 0, [], [], 1)
theorem impl_redM (p r c : Int) {l : List Int} {k : Nat} (hk : 17000 ≤ k) : impl_ReducedForm.f k p r c l = some (redOut p r c l) := by
  unfold impl_ReducedForm.f redOut
  rw [implOk_tells p r c (by omega)]
  cases h : matOk p r c l with
  | false => simp
  | true =>
    obtain ⟨R, C, rfl, rfl, h1, h2, h3, h4, h5⟩ := dimsM h
    have hp := (matOk_iff.mp h).1
    have e := implElim_tells hp (show R ≤ 64 by omega) (show C ≤ 70 by omega) h3 h5 (k := k) (by omega)
    obtain ⟨o1, o2, o3⟩ := elim_ok hp (rowsM_ok (R := R) (C := C) h5)
    have e2 := matrixOf_tells (q := p) (C : Int) o1 (by rw [o2, rowsM_length]; omega) (by omega) (k := k) (by omega)
    rw [o2, rowsM_length] at e2
    simp only [Option.bind_some, if_true, Int.toNat_natCast, e, e2]
def rankOut (p r c : Int) (l : List Int) : Int × Int := if matOk p r c l = true then (((elim p c.toNat (rowsM r.toNat c.toNat l)).2.1.length : Int), 0) else (0, 1)
theorem impl_rankM (p r c : Int) {l : List Int} {k : Nat} (hk : 17000 ≤ k) : impl_RankOf.f k p r c l = some (rankOut p r c l) := by
  unfold impl_RankOf.f rankOut
  rw [implOk_tells p r c (by omega)]
  cases h : matOk p r c l with
  | false => simp
  | true =>
    obtain ⟨R, C, rfl, rfl, h1, h2, h3, h4, h5⟩ := dimsM h
    have e := implElim_tells (matOk_iff.mp h).1 (show R ≤ 64 by omega) (show C ≤ 70 by omega) h3 h5 (k := k) (by omega)
    simp only [Option.bind_some, if_true, Int.toNat_natCast]
    unfold impl_rank.f
    rw [e]
    rfl
def turnOut (p r c : Int) (l : List Int) : Int × Int × Int × List Int × Int := if matOk p r c l = true then (p, c, r, turned r.toNat c.toNat l, 0) else (0, 0, 0, [], 1)
theorem dims {p r c : Int} {l : List Int} (h : matOk p r c l = true) : ∃ R C : Nat, r = R ∧ c = C ∧ R ≤ 32 ∧ C ≤ 32 ∧ l.length = R * C := by
  obtain ⟨_, hr, hc, hl, _⟩ := matOk_iff.mp h
  obtain ⟨R, rfl⟩ := Int.eq_ofNat_of_zero_le hr.1
  obtain ⟨C, rfl⟩ := Int.eq_ofNat_of_zero_le hc.1
  exact ⟨R, C, rfl, rfl, by omega, by omega, by exact_mod_cast hl⟩
theorem impl_turnM (p r c : Int) {l : List Int} {k : Nat} (hk : 17000 ≤ k) : impl_Transpose.f k p r c l = some (turnOut p r c l) := by
  unfold impl_Transpose.f turnOut
  rw [implOk_tells p r c (by omega)]
  cases h : matOk p r c l with
  | false => simp
  | true =>
    obtain ⟨R, C, rfl, rfl, h1, h2, h3⟩ := dims h
    have e := implTransposed_tells p (show R ≤ 128 by omega) (show C ≤ 128 by omega) h3 hk
    simp only [Option.bind_some, if_true, e, Int.toNat_natCast]
def stackOut (p r c : Int) (a : List Int) (p' r' c' : Int) (b : List Int) : Int × Int × Int × List Int × Int := if (matOk p r c a && matOk p' r' c' b) = true then if p = p' ∧ c = c' then if r + r' ≤ 32 then (p, r + r', c, a ++ b, 0) else (0, 0, 0, [], 5) else (0, 0, 0, [], 6) else (0, 0, 0, [], 1)
theorem impl_stackM (p r c p' r' c' : Int) {a b : List Int} {k : Nat} (hk : 18000 ≤ k) : impl_StackRows.f k p r c a p' r' c' b = some (stackOut p r c a p' r' c' b) := by
  unfold impl_StackRows.f stackOut
  obtain ⟨k, rfl⟩ : ∃ m, k = m + 1 + 1 := ⟨k - 2, by omega⟩
  rw [implOk_tells p r c (by omega), implOk_tells p' r' c' (by omega)]
  cases h : matOk p r c a with
  | false => simp [impl_StackRows.j0]
  | true =>
    cases h' : matOk p' r' c' b with
    | false => simp [impl_StackRows.j0]
    | true =>
      obtain ⟨R, C, rfl, rfl, h1, h2, h3, hp, hx⟩ := dimsM h
      obtain ⟨R', C', rfl, rfl, h1', h2', h3', hp', hx'⟩ := dimsM h'
      simp only [Option.bind_some, if_true, impl_StackRows.j0, Bool.not_true, Bool.false_eq_true, if_false, Bool.and_self]
      have b1 : -9223372036854775808 ≤ (R : Int) + (R' : Int) := by omega
      have b2 : (R : Int) + (R' : Int) ≤ 9223372036854775807 := by omega
      have m1 := side_mul (r := R) (c := C) (by omega) (by omega)
      have m2 := side_mul (r := R') (c := C') (by omega) (by omega)
      have cc : slices_Concat_int64_int64.f k [a, b] = some (a ++ b) := by
        have hf : ([a, b] : List (List Int)).flatten = a ++ b := by simp
        have := concat_tells (rs := [a, b]) (by simp) (by rw [hf, List.length_append]; omega) (k := k) (by omega)
        rwa [hf] at this
      by_cases e1 : p = p'
      · subst e1
        by_cases e2 : (C : Int) = (C' : Int)
        · rw [e2]
          simp only [bne_self_eq_false, impl_StackRows.j1, Bool.false_eq_true, if_false, if_true, and_self, w64_id b1 b2, side_tells, Option.bind_some]
          by_cases e3 : (R : Int) + (R' : Int) ≤ 32
          · have g : 0 ≤ (R : Int) + (R' : Int) ∧ (R : Int) + (R' : Int) ≤ 32 := by omega
            simp only [g, and_self, decide_true, if_true, cc, Option.bind_some]
          · have g : ¬ (0 ≤ (R : Int) + (R' : Int) ∧ (R : Int) + (R' : Int) ≤ 32) := by omega
            simp only [decide_eq_false g, Bool.false_eq_true, if_false, if_neg e3]
        · simp [e2, impl_StackRows.j1]
      · simp [e1, impl_StackRows.j1]
def joined (r c c' : Nat) (l l' : List Int) : List Int := tab r (c + c') (fun i j => if j < c then l.getD (i * c + j) 0 else l'.getD (i * c' + (j - c)) 0)
theorem implJoin_tells {p p' r' a3 : Int} {r c c' : Nat} (hr : r ≤ 64) (hc : c ≤ 64) (hc' : c' ≤ 64) {l l' : List Int} (hl : l.length = r * c) (hl' : l'.length = r * c') (hr' : r' = r) {k : Nat} (hk : 17000 ≤ k) :
    impl_filled.f (impl_JoinColumns_1.cell p r c l p' r' c' l') k p r ((c + c' : Nat) : Int) a3 = some (p, (r : Int), ((c + c' : Nat) : Int), joined r c c' l l') := by
  refine filled_tells (f := fun i j => if j < c then l.getD (i * c + j) 0 else l'.getD (i * c' + (j - c)) 0) (by omega) (by omega) (fun i j hi hj => ?_) p a3 hk
  show (if (j : Int) < (c : Int) then impl_Matrix_at.f p r c l i j else impl_Matrix_at.f p' r' c' l' i (wrap64 ((j : Int) - (c : Int)))) = _
  by_cases h : j < c
  · rw [if_pos (by omega), at_tells (R := r) (C := c) (by omega) (by omega) rfl hl hi h, if_pos h]
  · rw [if_neg (by omega), w64_id (by omega) (by omega), show (j : Int) - (c : Int) = ((j - c : Nat) : Int) by omega, at_tells (R := r) (C := c') (by omega) (by omega) rfl hl' hi (by omega), if_neg h]
def joinOut (p r c : Int) (a : List Int) (p' r' c' : Int) (b : List Int) : Int × Int × Int × List Int × Int := if (matOk p r c a && matOk p' r' c' b) = true then if p = p' ∧ r = r' then if c + c' ≤ 32 then (p, r, ((c.toNat + c'.toNat : Nat) : Int), joined r.toNat c.toNat c'.toNat a b, 0) else (0, 0, 0, [], 5) else (0, 0, 0, [], 6) else (0, 0, 0, [], 1)
theorem impl_joinM (p r c p' r' c' : Int) {a b : List Int} {k : Nat} (hk : 18000 ≤ k) : impl_JoinColumns.f k p r c a p' r' c' b = some (joinOut p r c a p' r' c' b) := by
  unfold impl_JoinColumns.f joinOut
  obtain ⟨k, rfl⟩ : ∃ m, k = m + 1 + 1 := ⟨k - 2, by omega⟩
  rw [implOk_tells p r c (by omega), implOk_tells p' r' c' (by omega)]
  cases h : matOk p r c a with
  | false => simp [impl_JoinColumns.j0]
  | true =>
    cases h' : matOk p' r' c' b with
    | false => simp [impl_JoinColumns.j0]
    | true =>
      obtain ⟨R, C, rfl, rfl, h1, h2, h3, hp, hx⟩ := dimsM h
      obtain ⟨R', C', rfl, rfl, h1', h2', h3', hp', hx'⟩ := dimsM h'
      simp only [Option.bind_some, if_true, impl_JoinColumns.j0, Bool.not_true, Bool.false_eq_true, if_false, Bool.and_self]
      by_cases e1 : p = p'
      · subst e1
        by_cases e2 : (R : Int) = (R' : Int)
        · have : R = R' := by omega
          subst this
          have w : wrap64 ((C : Int) + (C' : Int)) = ((C + C' : Nat) : Int) := by rw [w64_id (by omega) (by omega)]; push_cast; rfl
          simp only [bne_self_eq_false, impl_JoinColumns.j1, Bool.false_eq_true, if_false, if_true, and_self, w, side_tells, Option.bind_some]
          by_cases e3 : (C : Int) + (C' : Int) ≤ 32
          · have g : 0 ≤ ((C + C' : Nat) : Int) ∧ ((C + C' : Nat) : Int) ≤ 32 := by omega
            have e := implJoin_tells (p := p) (p' := p) (r' := (R : Int)) (a3 := 0) (show R ≤ 64 by omega) (show C ≤ 64 by omega) (show C' ≤ 64 by omega) h3 h3' rfl (k := k) (by omega)
            simp only [g, and_self, decide_true, if_true, e, e3, Option.bind_some, Int.toNat_natCast]
          · have g : ¬ (0 ≤ ((C + C' : Nat) : Int) ∧ ((C + C' : Nat) : Int) ≤ 32) := by omega
            simp only [g, decide_false, Bool.false_eq_true, if_false, e3]
        · simp [e2, impl_JoinColumns.j1]
      · simp [e1, impl_JoinColumns.j1]
end Go.Proofs.Ytoekjicknclooaa.F
end

section
/- The reduced form of a drawn matrix is its own reduced form, ranks do not depend on transposing, stacking or joining, and the form has ones at its pivots and zeros beside them. -/
set_option linter.unusedVariables false
set_option linter.unusedSimpArgs false
set_option linter.unusedSectionVars false
namespace Go.Proofs.Ytoekjicknclooaa.F
open Go.RowKit Go.Proofs.YtoekjicknclooaaW.PrintWords Go.Proofs.YtoekjicknclooaaW.PrintLast Go.Proofs.Ytoekjicknclooaa.Lin
theorem matOk_of {p : Int} (hp : isP p = true) {R C : Nat} (hR : R ≤ 32) (hC : C ≤ 32) {l : List Int} (hl : l.length = R * C) (hv : ∀ j, 0 ≤ l.getD j 0 ∧ l.getD j 0 < p) : matOk p R C l = true := by
  refine matOk_iff.mpr ⟨hp, ⟨by omega, by omega⟩, ⟨by omega, by omega⟩, by rw [hl]; push_cast; rfl, fun x hx => ?_⟩
  obtain ⟨i, hi, rfl⟩ := List.mem_iff_getElem.mp hx
  have := hv i
  rwa [getD_at hi] at this
theorem okTab {p : Int} (hp : 2 ≤ p) {r c : Nat} {f : Nat → Nat → Int} (hf : ∀ i j, i < r → j < c → 0 ≤ f i j ∧ f i j < p) (j : Nat) : 0 ≤ (tab r c f).getD j 0 ∧ (tab r c f).getD j 0 < p := by
  by_cases hj : j < r * c
  · obtain ⟨a, b, _⟩ := split_at hj
    rw [tab_getD _ hj]; exact hf _ _ a b
  · rw [List.getD_eq_getElem?_getD, List.getElem?_eq_none (by rw [tab_length]; omega)]
    simp; omega
theorem okCell {p : Int} (hp : 2 ≤ p) {n : Nat} {Q : List (List Int)} (h : RowsOk p n Q) (i j : Nat) : 0 ≤ cell Q i j ∧ cell Q i j < p := by
  unfold cell
  by_cases hi : i < Q.length
  · have h2 := h _ (List.getElem_mem hi)
    rw [show Q.getD i [] = Q[i] from by simp [List.getD_eq_getElem?_getD, hi]]
    by_cases hj : j < Q[i].length
    · rw [getD_at hj]; exact h2.2 _ (List.getElem_mem hj)
    · rw [List.getD_eq_getElem?_getD, List.getElem?_eq_none (by omega)]; simp; omega
  · rw [show Q.getD i [] = [] from by simp [List.getD_eq_getElem?_getD, List.getElem?_eq_none (show Q.length ≤ i by omega)]]
    simp; omega
theorem col_loop {R C : Nat} (hR : R ≤ 64) (hC : C ≤ 64) {Q : List (List Int)} (P : List Int) (x p q1 q2 q3 : Int) (l : List Int) {i c : Nat} (hi : i < P.length) (hP : P.length ≤ 64) (hc : P.getD i 0 = (c : Int)) (hcC : c < C) (hcell : ∀ n, n < R → cell Q n c = if n = i then 1 else 0) (m : Nat) (d : Nat) : ∀ n : Nat, R - n = d → n ≤ R →
    laws_FnReduced.l1 (d + 1 + m) P x i n p R C l q1 q2 q3 (tab R C (cell Q)) = laws_FnReduced.l0 m P x ((i + 1 : Nat) : Int) p R C l q1 q2 q3 (tab R C (cell Q)) := by
  induction d with
  | zero =>
    intro n hd hn
    rw [show 0 + 1 + m = m + 1 by omega]
    simp only [laws_FnReduced.l1]
    rw [if_neg (by omega), w64_succ (n := P.length) hi (by omega)]
  | succ d ih =>
    intro n hd hn
    rw [show d + 1 + 1 + m = (d + 1 + m) + 1 by omega]
    have g1 : (n : Int) < (R : Int) := by omega
    have g2 : (0 : Int) ≤ (i : Int) := by omega
    have g3 : (i : Int) < (P.length : Int) := by omega
    have g4 := at_lt (r := R) (c := C) (i := n) (j := c) (by omega) hcC
    have g5 : (0 : Int) ≤ ((n * C + c : Nat) : Int) := by omega
    have g6 : ((n * C + c : Nat) : Int) < ((tab R C (cell Q)).length : Int) := by rw [tab_length]; omega
    have g7 : n < R := by omega
    have g8 : R ≤ 35184372088832 := by omega
    have e := ih (n + 1) (by omega) (by omega)
    have h1 := hcell n g7
    simp only [laws_FnReduced.l1]
    rw [rd_nat P i, hc, w64_at (r := R) (c := C) (i := n) (j := c) (by omega) (by omega) (by omega) (by omega), if_pos g1, if_pos g2, if_pos g3, if_pos g5, if_pos g6, rd_nat, tab_at _ g7 hcC, h1, w64_succ g7 g8, e]
    by_cases q : n = i
    · rw [if_pos (by omega), if_pos q, if_pos rfl]
    · rw [if_neg (by omega), if_neg q, if_pos rfl]
theorem piv_loop {R C : Nat} (hR : R ≤ 64) (hC : C ≤ 64) {Q : List (List Int)} (P : List Int) (p q1 q2 q3 : Int) (l : List Int) (hP : P.length ≤ R) (hPC : P.length ≤ C) (hform : ∀ k, k < P.length → ∃ c : Nat, P.getD k 0 = c ∧ c < C ∧ (0 < k → P.getD (k - 1) 0 < c) ∧ ∀ i, i < R → cell Q i c = if i = k then 1 else 0) (d : Nat) : ∀ (k i : Nat), P.length - i = d → i ≤ P.length → d * (R + 3) < k →
    laws_FnReduced.l0 k P (P.length : Int) i p R C l q1 q2 q3 (tab R C (cell Q)) = some true := by
  induction d with
  | zero =>
    intro k i hd hi hk
    obtain ⟨k, rfl⟩ : ∃ m, k = m + 1 := ⟨k - 1, by omega⟩
    simp only [laws_FnReduced.l0]
    rw [if_neg (by omega), if_pos (by omega), decide_eq_true (by omega)]
  | succ d ih =>
    intro k i hd hi hk
    have hdr : (d + 1) * (R + 3) = d * (R + 3) + (R + 3) := Nat.succ_mul _ _
    obtain ⟨k, rfl⟩ : ∃ m, k = R + 1 + m + 1 + 1 := ⟨k - (R + 3), by omega⟩
    obtain ⟨c, h1, h2, h3, h4⟩ := hform i (by omega)
    have g1 : (i : Int) < (P.length : Int) := by omega
    have g2 : (0 : Int) ≤ (i : Int) := by omega
    have g3 : ¬ (c : Int) < 0 := by omega
    have g4 : ¬ (c : Int) ≥ (C : Int) := by omega
    have g5 : i < P.length := by omega
    have e : laws_FnReduced.j2 (R + 1 + k + 1) P (P.length : Int) i false p R C l q1 q2 q3 (tab R C (cell Q)) = some true := by
      simp only [laws_FnReduced.j2]
      rw [if_neg (by simp)]
      have e1 := col_loop (Q := Q) hR hC P (P.length : Int) p q1 q2 q3 l g5 (by omega) h1 h2 h4 k R 0 (by omega) (by omega)
      rw [show ((0 : Nat) : Int) = 0 from rfl] at e1
      rw [e1]
      exact ih k (i + 1) (by omega) (by omega) (by omega)
    have g6 : i - 1 < P.length := by omega
    simp only [laws_FnReduced.l0]
    rw [if_pos g1, if_pos g2, rd_nat P i, h1, if_neg g3, if_neg g4]
    by_cases h0 : (i : Int) > 0
    · have g7 : 0 < i := by omega
      have g8 := h3 g7
      have g9 : (0 : Int) ≤ ((i - 1 : Nat) : Int) := by omega
      have g10 : ((i - 1 : Nat) : Int) < (P.length : Int) := by omega
      have g11 : ¬ (c : Int) ≤ P.getD (i - 1) 0 := by omega
      have e2 : wrap64 ((i : Int) - 1) = ((i - 1 : Nat) : Int) := by rw [w64_id (x := (i : Int) - 1) (by omega) (by omega)]; omega
      rw [if_pos h0, e2, if_pos g9, if_pos g10, rd_nat, decide_eq_false g11, e]
    · rw [if_neg h0, e]
theorem red_chain {k : Nat} {l m o F P T S J : List Int} {p r c r2 c2 x : Int} (e0 : laws_r8Long.f l m = some false) (e1 : spec_R8Prime.f l = some p) (e2 : laws_r8At.f m 0 6 = some r) (e3 : laws_r8At.f m 1 6 = some c) (e4 : spec_R8Matrix.f (k + 1) l p r c = some (p, r, c, o))
    (e5 : impl_ReducedForm.f (k + 1) p r c o = some (p, r, c, F, P, 0)) (e6 : impl_ReducedForm.f (k + 1) p r c F = some (p, r, c, F, P, 0)) (e7 : impl_Transpose.f (k + 1) p r c o = some (p, c, r, T, 0)) (e8 : impl_RankOf.f (k + 1) p r c o = some (x, 0)) (e9 : impl_RankOf.f (k + 1) p c r T = some (x, 0))
    (e10 : impl_StackRows.f (k + 1) p r c o p r c o = some (p, r2, c, S, 0)) (e11 : impl_RankOf.f (k + 1) p r2 c S = some (x, 0)) (e12 : impl_JoinColumns.f (k + 1) p r c o p r c o = some (p, r, c2, J, 0)) (e13 : impl_RankOf.f (k + 1) p r c2 J = some (x, 0))
    (e14 : spec_SameMatrix.f (k + 1) p r c F p r c F = some true) (e15 : laws_r8Same.f (k + 1) P P = some true) (e16 : x = (P.length : Int)) (e17 : ((F.length : Int) != wrap64 (r * c)) = false) (e18 : laws_FnReduced.l0 k P x 0 p r c o p r c F = some true) : laws_FnReduced.f (k + 1) l m = some true := by
  unfold laws_FnReduced.f
  rw [e0, Option.bind_some, if_neg (by simp), e1, Option.bind_some, e2, Option.bind_some, e3, Option.bind_some, e4, Option.bind_some]
  dsimp only
  rw [e5, Option.bind_some]
  dsimp only
  rw [e6, Option.bind_some]
  dsimp only
  rw [e7, Option.bind_some, e8, Option.bind_some]
  dsimp only
  rw [e9, Option.bind_some]
  dsimp only
  rw [e10, Option.bind_some]
  dsimp only
  rw [e11, Option.bind_some]
  dsimp only
  rw [e12, Option.bind_some]
  dsimp only
  rw [e13, Option.bind_some]
  dsimp only
  rw [e14, Option.bind_some, e15, Option.bind_some, e17]
  simp only [laws_FnReduced.j0]
  simp only [if_true]
  rw [if_pos e16, if_neg (by simp)]
  exact e18
theorem FnReduced_pure : laws_FnReduced.Pure := by
  intro l m _ _ hl _ _ hm
  have hl := bytesR_of hl
  have hm := bytesR_of hm
  obtain ⟨K, hK⟩ : ∃ K : Nat, 20000 ≤ K := ⟨20000, Nat.le_refl _⟩
  refine ⟨K + 1, ?_⟩
  by_cases c1 : (l.length : Int) > 1048576
  · unfold laws_FnReduced.f laws_r8Long.f
    rw [if_pos c1, Option.bind_some, if_pos rfl]
  · by_cases c2 : (m.length : Int) > 1048576
    · unfold laws_FnReduced.f laws_r8Long.f
      rw [if_neg c1, decide_eq_true c2, Option.bind_some, if_pos rfl]
    · obtain ⟨p, ep, hp⟩ := r8prime_tells hl
      obtain ⟨R, eR, hR⟩ := r8At_tells hm (j := 0) (by omega) (n := 6) (by omega)
      obtain ⟨C, eC, hC⟩ := r8At_tells hm (j := 1) (by omega) (n := 6) (by omega)
      have hp2 := isP_ge hp
      obtain ⟨o, eo, ho, hok⟩ := r8matrix_tells hl hp2.1 hp2.2 (R := R) (C := C) (by omega) (by omega) (k := K + 1) (by have := side_mul (r := R) (c := C) (by omega) (by omega); omega)
      obtain ⟨q, rfl⟩ := Int.eq_ofNat_of_zero_le (show 0 ≤ p by omega)
      haveI : NeZero q := ⟨by omega⟩
      have hRC := side_mul (r := R) (c := C) (by omega) (by omega)
      have hRn : R ≤ 5 := by omega
      have hCn : C ≤ 5 := by omega
      clear hR hC
      have hrows := rowsM_ok (R := R) (C := C) (l := o) (p := q) hok
      obtain ⟨⟨r1, r2⟩, r3, r4, r5⟩ := red_law hp ho hok
      obtain ⟨f1, f2, f3⟩ := elim_form hp hrows
      obtain ⟨o1, o2, _⟩ := elim_ok hp hrows
      rw [rowsM_length] at f1 f3
      have mA : matOk q R C o = true := matOk_of hp (by omega) (by omega) ho hok
      have mF : matOk q R C (tab R C (cell (elim q C (rowsM R C o)).1)) = true := matOk_of hp (by omega) (by omega) (tab_length _ _ _) (okTab hp2.1 (fun i j _ _ => okCell hp2.1 o1 i j))
      have mT : matOk q C R (turned R C o) = true := matOk_of hp (by omega) (by omega) (by unfold turned; rw [tab_length]) (by unfold turned; exact okTab hp2.1 (fun i j _ _ => hok _))
      have mS : matOk q ((R : Int) + R) C (o ++ o) = true := by
        have := matOk_of hp (R := R + R) (C := C) (l := o ++ o) (by omega) (by omega) (by rw [List.length_append, ho, Nat.add_mul]) (fun j => by
          by_cases hj : j < o.length
          · rw [List.getD_eq_getElem?_getD, List.getElem?_append_left hj, ← List.getD_eq_getElem?_getD]; exact hok j
          · rw [List.getD_eq_getElem?_getD, List.getElem?_append_right (by omega), ← List.getD_eq_getElem?_getD]; exact hok _)
        rw [show ((R + R : Nat) : Int) = (R : Int) + R from by push_cast; rfl] at this
        exact this
      have mJ : matOk q R ((C + C : Nat) : Int) (joined R C C o o) = true := matOk_of hp (by omega) (by omega) (by unfold joined; rw [tab_length]) (by unfold joined; exact okTab hp2.1 (fun i j _ _ => by split <;> exact hok _))
      have eA : redOut q R C o = ((q : Int), (R : Int), (C : Int), tab R C (cell (elim q C (rowsM R C o)).1), (elim q C (rowsM R C o)).2.1, 0) := by
        unfold redOut; rw [if_pos mA]; simp only [Int.toNat_natCast]
      have eF : redOut q R C (tab R C (cell (elim q C (rowsM R C o)).1)) = ((q : Int), (R : Int), (C : Int), tab R C (cell (elim q C (rowsM R C o)).1), (elim q C (rowsM R C o)).2.1, 0) := by
        unfold redOut; rw [if_pos mF]; simp only [Int.toNat_natCast]; rw [r1, r2]
      have eT : turnOut q R C o = ((q : Int), (C : Int), (R : Int), turned R C o, 0) := by
        unfold turnOut; rw [if_pos mA]; simp only [Int.toNat_natCast]
      have kA : rankOut q R C o = (((elim q C (rowsM R C o)).2.1.length : Int), 0) := by
        unfold rankOut; rw [if_pos mA]; simp only [Int.toNat_natCast]
      have kT : rankOut q C R (turned R C o) = (((elim q C (rowsM R C o)).2.1.length : Int), 0) := by
        unfold rankOut; rw [if_pos mT]; simp only [Int.toNat_natCast]; rw [r3]
      have eS : stackOut q R C o q R C o = ((q : Int), (R : Int) + R, (C : Int), o ++ o, 0) := by
        unfold stackOut; rw [mA, if_pos (show (true && true) = true from rfl), if_pos ⟨rfl, rfl⟩, if_pos (by omega)]
      have kS : rankOut q ((R : Int) + R) C (o ++ o) = (((elim q C (rowsM R C o)).2.1.length : Int), 0) := by
        unfold rankOut; rw [if_pos mS]; simp only [Int.toNat_natCast]; rw [show ((R : Int) + R).toNat = R + R by omega, r4]
      have eJ : joinOut q R C o q R C o = ((q : Int), (R : Int), ((C + C : Nat) : Int), joined R C C o o, 0) := by
        unfold joinOut; rw [mA, if_pos (show (true && true) = true from rfl), if_pos ⟨rfl, rfl⟩, if_pos (by omega)]; simp only [Int.toNat_natCast]
      have kJ : rankOut q R ((C + C : Nat) : Int) (joined R C C o o) = (((elim q C (rowsM R C o)).2.1.length : Int), 0) := by
        unfold rankOut; rw [if_pos mJ]; simp only [Int.toNat_natCast]; rw [show joined R C C o o = tab R (C + C) (fun i j => if j < C then o.getD (i * C + j) 0 else o.getD (i * C + (j - C)) 0) from rfl, r5]
      have tl : (tab R C (cell (elim q C (rowsM R C o)).1)).length = R * C := tab_length _ _ _
      have s1 := sameR_tells q R C (a := tab R C (cell (elim q C (rowsM R C o)).1)) (k := K + 1) (by omega) (by omega)
      have s2 := r8Same_tells (a := (elim q C (rowsM R C o)).2.1) (k := K + 1) (by omega) (by omega)
      have hw : wrap64 ((R : Int) * (C : Int)) = ((R * C : Nat) : Int) := w64_mulN (by omega) (by omega)
      have hne : (((tab R C (cell (elim q C (rowsM R C o)).1)).length : Int) != ((R * C : Nat) : Int)) = false := by rw [tl]; simp
      have fin := piv_loop (Q := (elim q C (rowsM R C o)).1) (show R ≤ 64 by omega) (show C ≤ 64 by omega) (elim q C (rowsM R C o)).2.1 q q R C o f1 f2 f3 (elim q C (rowsM R C o)).2.1.length K 0 (by omega) (by omega) (by
        have : (elim q C (rowsM R C o)).2.1.length * (R + 3) ≤ 5 * 8 := Nat.mul_le_mul (by omega) (by omega)
        omega)
      refine red_chain (T := turned R C o) (S := o ++ o) (J := joined R C C o o) (r2 := (R : Int) + R) (c2 := ((C + C : Nat) : Int)) ?_ ep eR eC eo ?_ ?_ ?_ ?_ ?_ ?_ ?_ ?_ ?_ s1 s2 rfl ?_ fin
      · unfold laws_r8Long.f; rw [if_neg c1, decide_eq_false c2]
      · rw [impl_redM q R C (by omega), eA]
      · rw [impl_redM q R C (by omega), eF]
      · rw [impl_turnM q R C (by omega), eT]
      · rw [impl_rankM q R C (by omega), kA]
      · rw [impl_rankM q C R (by omega), kT]
      · rw [impl_stackM q R C q R C (by omega), eS]
      · rw [impl_rankM q _ C (by omega), kS]
      · rw [impl_joinM q R C q R C (by omega), eJ]
      · rw [impl_rankM q R _ (by omega), kJ]
      · rw [hw]; exact hne
end Go.Proofs.Ytoekjicknclooaa.F
namespace Go.Proofs.Ytoekjicknclooaa.Pure
theorem FnReduced : F.laws_FnReduced.Pure := F.FnReduced_pure
end Go.Proofs.Ytoekjicknclooaa.Pure
end
