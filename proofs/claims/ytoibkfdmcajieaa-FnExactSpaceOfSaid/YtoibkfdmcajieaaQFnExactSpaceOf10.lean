-- Texts of this claim, merged by pack.py (a program of this session's).
import Derived.Test.YtoibkfdmcajieaaQFnExactSpaceOf5
import Derived.Test.YtoibkfdmcajieaaQFnExactSpaceOf6
import Derived.Test.YtoibkfdmcajieaaQFnExactSpaceOf7
import Derived.Test.YtoibkfdmcajieaaQFnExactSpaceOf9
import Derived.KernelRfl
import Derived.Test.YtoibkfdmcajieaaQFnExactSpaceOf1
import Derived.Test.YtoibkfdmcajieaaQFnExactSpaceOf2
import Derived.Test.YtoibkfdmcajieaaQFnExactSpaceOf3

section
set_option linter.unusedVariables false
set_option linter.unusedSimpArgs false
set_option linter.unusedSectionVars false
namespace Go.Proofs.Ytoibkfdmcajieaa.F
open Go.RowKit Go.Proofs.YtoibkfdmcajieaaW.PrintWords Go.Proofs.YtoibkfdmcajieaaW.PrintLast Go.Proofs.Ytoibkfdmcajieaa.Lin

theorem copyL_loop {l : List (List Int)} (hm : l.length ≤ 1048576) (hr : ∀ r ∈ l, r.length ≤ 1048576) (d : Nat) : ∀ (k i : Nat), l.length - i = d → i ≤ l.length → d < k → impl_copyLists.l0 k (l.take i) l l.length i = some l := by
  induction d with
  | zero =>
    intro k i hd hi hk
    obtain ⟨k, rfl⟩ : ∃ m, k = m + 1 := ⟨k - 1, by omega⟩
    simp only [impl_copyLists.l0]
    rw [if_neg (by omega), List.take_of_length_le (by omega)]
  | succ d ih =>
    intro k i hd hi hk
    obtain ⟨k, rfl⟩ : ∃ m, k = m + 1 := ⟨k - 1, by omega⟩
    have hlt : i < l.length := by omega
    have hw := hr _ (row_mem hlt)
    simp only [impl_copyLists.l0]
    unfold slices_Clone_int64_int64.o.f
    rw [if_pos (by omega), if_pos (by omega), if_pos (by omega), rdS_nat, if_pos (by omega), Option.bind_some, if_pos (by rw [List.length_take]; omega), w64_succ (n := l.length) hlt (by omega)]
    have e : l.take i ++ [l.getD i []] = l.take (i + 1) := by rw [List.take_add_one, List.getElem?_eq_getElem hlt, getD_at hlt]; rfl
    rw [e]
    exact ih k (i + 1) (by omega) (by omega) (by omega)
theorem copyL_tells {l : List (List Int)} (hm : l.length ≤ 1048576) (hr : ∀ r ∈ l, r.length ≤ 1048576) {k : Nat} (hk : 1048577 ≤ k) : impl_copyLists.f k l = some l := by
  unfold impl_copyLists.f
  exact copyL_loop hm hr l.length k 0 (by omega) (by omega) (by omega)
theorem rows_short {p : Int} {n : Nat} {rs : List (List Int)} (hok : RowsOk p n rs) (hn : n ≤ 70) : ∀ r ∈ rs, r.length ≤ 1048576 := fun r hr => by have := (hok r hr).1; omega
/-- The basis: the rows that the elimination has found pivots for. -/
def basisOf (p : Int) (n : Nat) (rs : List (List Int)) : List (List Int) := (elim p n rs).1.take (elim p n rs).2.1.length
theorem spaceI_tells {p : Int} (hp : isP p = true) {n : Nat} (hn : n ≤ 32) {rs : List (List Int)} (hok : RowsOk p n rs) (hm : rs.length ≤ 1048576) {k : Nat} (hk : 74000000 ≤ k) : impl_spaceOf.f k p n rs = some (p, (n : Int), basisOf p n rs) := by
  obtain ⟨t1, t2, t3, t4, _, _⟩ := elimTo_small hp hok n (Nat.le_refl _)
  unfold impl_spaceOf.f impl_spaceOf.elimR.f basisOf
  rw [copyL_tells hm (rows_short hok (by omega)) (by omega), Option.bind_some, elim_tellsL hp hm (by omega) hok hk, Option.bind_some]
  show (if 0 ≤ ((elim p n rs).2.1.length : Int) then (if ((elim p n rs).2.1.length : Int) ≤ ((elim p n rs).1.length : Int) then _ else none) else none) = _
  have e1 : (elim p n rs).1.length = rs.length := t2
  have e2 : (elim p n rs).2.1.length ≤ rs.length := t4
  have e3 : RowsOk p n (elim p n rs).1 := t1
  rw [if_pos (by omega), if_pos (by omega), Int.toNat_natCast]
  show Option.bind (impl_copyLists.f k ((elim p n rs).1.take (elim p n rs).2.1.length)) _ = _
  rw [copyL_tells (by rw [List.length_take]; omega) (fun r hr => rows_short e3 (by omega) r (List.mem_of_mem_take hr)) (by omega), Option.bind_some]

theorem rdt {r c i j : Nat} (f : Nat → Nat → Int) (hi : i < r) (hj : j < c) : rd (tab r c f) ((i * c + j : Nat) : Int) = f i j := by rw [rd_nat, tab_at f hi hj]
theorem ne_nat {i n : Nat} (h : i ≠ n) : ¬ (i : Int) = (n : Int) := by omega
theorem modS {p x : Int} (hp : 2 ≤ p) (hp' : p ≤ 251) (hx : -1000000 ≤ x) (hx' : x ≤ 1000000) : spec_l03Mod.f x p = some (x % p) := by
  unfold spec_l03Mod.f
  rw [if_neg (by omega)]
  have h1 : -p < Int.tmod x p := Int.lt_tmod_of_pos _ (by omega)
  have h2 : Int.tmod x p < p := Int.tmod_lt_of_pos _ (by omega)
  rw [w64_idV (x := Int.tmod x p + p) (by omega) (by omega), Int.tmod_eq_emod_of_nonneg (by omega), Int.add_emod_right]
  congr 1
  have h := Int.mul_tdiv_add_tmod x p
  have : x = Int.tmod x p + p * (Int.tdiv x p) := by omega
  conv => rhs; rw [this]
  rw [Int.add_mul_emod_self_left]
section
variable {p : Int} {R C : Nat} {piv ml : List Int} {det mp m2 op o1 o2 : Int}
def sw (f : Nat → Nat → Int) (x y a b : Nat) : Int := if a = x then f y b else if a = y then f x b else f a b
theorem find_loop (hR : R ≤ 64) (hC : C ≤ 70) (f : Nat → Nat → Int) {row c : Nat} (hc : c < C) (d : Nat) : ∀ k q, R - q = d → q ≤ R → d < k → (∀ i, row ≤ i → i < q → f i c = 0) →
    ∃ k' q', k ≤ k' + d + 1 ∧ q ≤ q' ∧ q' ≤ R ∧ (∀ i, row ≤ i → i < q' → f i c = 0) ∧ (q' < R → f q' c ≠ 0) ∧
      spec_l03Reduced.l1 k p C piv det row c q mp R m2 ml op o1 o2 (tab R C f) = spec_l03Reduced.j3 k' p C piv det row c q' mp R m2 ml op o1 o2 (tab R C f) := by
  induction d with
  | zero =>
    intro k q hd hq hk h
    obtain ⟨k, rfl⟩ : ∃ m, k = m + 1 := ⟨k - 1, by omega⟩
    refine ⟨k, q, by omega, Nat.le_refl _, hq, h, fun e => by omega, ?_⟩
    simp only [spec_l03Reduced.l1]
    rw [if_neg (nlt_nat (by omega))]
  | succ d ih =>
    intro k q hd hq hk h
    obtain ⟨k, rfl⟩ : ∃ m, k = m + 1 := ⟨k - 1, by omega⟩
    have hqR : q < R := by omega
    by_cases e : f q c = 0
    · obtain ⟨k', q', e1, e2, e3, e4, e5, e6⟩ := ih k (q + 1) (by omega) (by omega) (by omega) (fun i h1 h2 => by
        by_cases h3 : i = q
        · rw [h3]; exact e
        · exact h i h1 (by omega))
      refine ⟨k', q', by omega, by omega, e3, e4, e5, ?_⟩
      rw [← e6]
      simp only [spec_l03Reduced.l1]
      rw [if_pos (lt_nat hqR), w64_at (r := R) (by omega) (by omega) (by omega) (by omega), if_pos (idx0 _), if_pos (idx1 f hqR hc), rdt f hqR hc, if_pos e, w64_succ (n := 64) (by omega) (by omega)]
    · refine ⟨k, q, by omega, Nat.le_refl _, hq, h, fun _ => e, ?_⟩
      simp only [spec_l03Reduced.l1]
      rw [if_pos (lt_nat hqR), w64_at (r := R) (by omega) (by omega) (by omega) (by omega), if_pos (idx0 _), if_pos (idx1 f hqR hc), rdt f hqR hc, if_neg e]
theorem swap_loop (hR : R ≤ 64) (hC : C ≤ 70) (f : Nat → Nat → Int) {row c q : Nat} (hq : q < R) (hr : row < R) (hne : q ≠ row) (d : Nat) : ∀ k j, C - j = d → j ≤ C → d < k →
    ∃ k', k ≤ k' + d + 1 ∧ spec_l03Reduced.l2 k p C piv det row c q j mp R m2 ml op o1 o2 (tab R C (fun a b => if b < j then sw f row q a b else f a b)) = spec_l03Reduced.j5 k' p C piv det row c mp R m2 ml op o1 o2 (tab R C (sw f row q)) := by
  induction d with
  | zero =>
    intro k j hd hj hk
    obtain ⟨k, rfl⟩ : ∃ m, k = m + 1 := ⟨k - 1, by omega⟩
    refine ⟨k, by omega, ?_⟩
    simp only [spec_l03Reduced.l2]
    rw [if_neg (nlt_nat (by omega)), tab_congr (g := sw f row q) (fun a b ha hb => by rw [if_pos (by omega)])]
  | succ d ih =>
    intro k j hd hj hk
    obtain ⟨k, rfl⟩ : ∃ m, k = m + 1 := ⟨k - 1, by omega⟩
    have hjC : j < C := by omega
    obtain ⟨k', e1, e2⟩ := ih k (j + 1) (by omega) (by omega) (by omega)
    refine ⟨k', by omega, ?_⟩
    rw [← e2]
    simp only [spec_l03Reduced.l2]
    rw [if_pos (lt_nat hjC), w64_at (r := R) (i := q) (by omega) (by omega) (by omega) (by omega), w64_at (r := R) (i := row) (by omega) (by omega) (by omega) (by omega), if_pos (idx0 _), if_pos (idx1 _ hq hjC), if_pos (idx0 _), if_pos (idx1 _ hr hjC),
      rdt _ hq hjC, rdt _ hr hjC, Int.toNat_natCast, Int.toNat_natCast, tab_set _ hq hjC, tab_set _ hr hjC, w64_succ (n := 70) (by omega) (by omega)]
    congr 1
    refine tab_congr (fun a b ha hb => ?_)
    unfold sw
    by_cases e1 : a = row
    · subst e1
      by_cases e2 : b = j
      · subst e2; simp [Nat.lt_irrefl]
      · have : (b < j + 1) = (b < j) := by apply propext; omega
        simp [e2, this]
    · by_cases e3 : a = q
      · subst e3
        by_cases e2 : b = j
        · subst e2; simp [e1, Nat.lt_irrefl]
        · have : (b < j + 1) = (b < j) := by apply propext; omega
          simp [e2, this, e1]
      · simp [e1, e3]
theorem scale_loop (hp : 2 ≤ p) (hp' : p ≤ 251) (hR : R ≤ 64) (hC : C ≤ 70) (f : Nat → Nat → Int) (hf : ∀ i j, 0 ≤ f i j ∧ f i j < p) {row c : Nat} (hr : row < R) {inv : Int} (hi : 0 ≤ inv ∧ inv < p) (d : Nat) : ∀ k j, C - j = d → j ≤ C → d < k →
    ∃ k', k ≤ k' + d + 1 ∧ spec_l03Reduced.l3 k p C piv det row c inv j mp R m2 ml op o1 o2 (tab R C (fun a b => if a = row ∧ b < j then f a b * inv % p else f a b)) = spec_l03Reduced.l4 k' p C piv det row c 0 mp R m2 ml op o1 o2 (tab R C (fun a b => if a = row then f a b * inv % p else f a b)) := by
  induction d with
  | zero =>
    intro k j hd hj hk
    obtain ⟨k, rfl⟩ : ∃ m, k = m + 1 := ⟨k - 1, by omega⟩
    refine ⟨k, by omega, ?_⟩
    simp only [spec_l03Reduced.l3]
    rw [if_neg (nlt_nat (by omega)), tab_congr (g := fun a b => if a = row then f a b * inv % p else f a b) (fun a b ha hb => by
      by_cases e : a = row
      · rw [if_pos ⟨e, by omega⟩, if_pos e]
      · rw [if_neg (fun h => e h.1), if_neg e])]
  | succ d ih =>
    intro k j hd hj hk
    obtain ⟨k, rfl⟩ : ∃ m, k = m + 1 := ⟨k - 1, by omega⟩
    have hjC : j < C := by omega
    obtain ⟨k', e1, e2⟩ := ih k (j + 1) (by omega) (by omega) (by omega)
    refine ⟨k', by omega, ?_⟩
    rw [← e2]
    simp only [spec_l03Reduced.l3]
    have hs := smallS hp hp' (hf row j).1 (by have := (hf row j).2; omega) hi.1 hi.2
    rw [if_pos (lt_nat hjC), w64_at (r := R) (i := row) (by omega) (by omega) (by omega) (by omega), if_pos (idx0 _), if_pos (idx1 _ hr hjC), if_neg (by omega),
      rdt _ hr hjC, Int.toNat_natCast, w64_succ (n := 70) (by omega) (by omega), if_neg (by omega), w64_idV (x := f row j * inv) (by omega) (by omega), Int.tmod_eq_emod_of_nonneg hs.1, tab_set _ hr hjC]
    congr 1
    refine tab_congr (fun a b ha hb => ?_)
    by_cases e1 : a = row
    · subst e1
      by_cases e2 : b = j
      · subst e2; simp
      · have : (b < j + 1) = (b < j) := by apply propext; omega
        simp [e2, this]
    · simp [e1]
theorem clear_loop (hp : 2 ≤ p) (hp' : p ≤ 251) (hR : R ≤ 64) (hC : C ≤ 70) (f : Nat → Nat → Int) (hf : ∀ i j, 0 ≤ f i j ∧ f i j < p) {row c i : Nat} (hr : row < R) (hi : i < R) (hne : i ≠ row) {v : Int} (hv : 0 ≤ v ∧ v < p) (d : Nat) : ∀ k j, C - j = d → j ≤ C → d < k →
    ∃ k', k ≤ k' + d + 1 ∧ spec_l03Reduced.l5 k p C piv det row c i v j mp R m2 ml op o1 o2 (tab R C (fun a b => if a = i ∧ b < j then (f a b - v * f row b) % p else f a b)) = spec_l03Reduced.l4 k' p C piv det row c ((i + 1 : Nat) : Int) mp R m2 ml op o1 o2 (tab R C (fun a b => if a = i then (f a b - v * f row b) % p else f a b)) := by
  induction d with
  | zero =>
    intro k j hd hj hk
    obtain ⟨k, rfl⟩ : ∃ m, k = m + 1 := ⟨k - 1, by omega⟩
    refine ⟨k, by omega, ?_⟩
    simp only [spec_l03Reduced.l5]
    rw [if_neg (nlt_nat (by omega)), w64_succ (n := 64) (by omega) (by omega), tab_congr (g := fun a b => if a = i then (f a b - v * f row b) % p else f a b) (fun a b ha hb => by
      by_cases e : a = i
      · rw [if_pos ⟨e, by omega⟩, if_pos e]
      · rw [if_neg (fun h => e h.1), if_neg e])]
  | succ d ih =>
    intro k j hd hj hk
    obtain ⟨k, rfl⟩ : ∃ m, k = m + 1 := ⟨k - 1, by omega⟩
    have hjC : j < C := by omega
    obtain ⟨k', e1, e2⟩ := ih k (j + 1) (by omega) (by omega) (by omega)
    refine ⟨k', by omega, ?_⟩
    rw [← e2]
    simp only [spec_l03Reduced.l5]
    have hs := smallS hp hp' hv.1 (by omega) (hf row j).1 (hf row j).2
    have hx := hf i j
    rw [if_pos (lt_nat hjC), w64_at (r := R) (i := i) (by omega) (by omega) (by omega) (by omega), w64_at (r := R) (i := row) (by omega) (by omega) (by omega) (by omega), if_pos (idx0 _), if_pos (idx1 _ hi hjC), if_pos (idx0 _), if_pos (idx1 _ hr hjC),
      rdt _ hi hjC, rdt _ hr hjC, Int.toNat_natCast, w64_succ (n := 70) (by omega) (by omega), if_neg (by omega), if_neg (by omega), w64_idV (x := v * f row j) (by omega) (by omega), w64_idV (x := f i j - v * f row j) (by omega) (by omega),
      modS hp hp' (by omega) (by omega), Option.bind_some, tab_set _ hi hjC]
    congr 1
    refine tab_congr (fun a b ha hb => ?_)
    by_cases e1 : a = i
    · subst e1
      by_cases e2 : b = j
      · subst e2; simp
      · have : (b < j + 1) = (b < j) := by apply propext; omega
        simp [e2, this]
    · simp [e1]
/-- A row of the matrix less its multiple of the pivot's row. -/
def cleared (p : Int) (f : Nat → Nat → Int) (row c a b : Nat) : Int := if f a c = 0 then f a b else (f a b - f a c * f row b) % p
theorem rows_loop (hp : 2 ≤ p) (hp' : p ≤ 251) (hR : R ≤ 64) (hC : C ≤ 70) (f : Nat → Nat → Int) (hf : ∀ i j, 0 ≤ f i j ∧ f i j < p) {row c : Nat} (hr : row < R) (hc : c < C) (hpv : piv.length ≤ 100) (d : Nat) : ∀ k i, R - i = d → i ≤ R → d * (C + 3) + 1 < k →
    ∃ k', k ≤ k' + d * (C + 3) + 1 ∧ spec_l03Reduced.l4 k p C piv det row c i mp R m2 ml op o1 o2 (tab R C (fun a b => if a < i ∧ a ≠ row then cleared p f row c a b else f a b)) =
      spec_l03Reduced.l0 k' p C (piv ++ [(c : Int)]) det ((row + 1 : Nat) : Int) ((c + 1 : Nat) : Int) mp R m2 ml op o1 o2 (tab R C (fun a b => if a ≠ row then cleared p f row c a b else f a b)) := by
  induction d with
  | zero =>
    intro k i hd hi hk
    obtain ⟨k, rfl⟩ : ∃ m, k = m + 1 := ⟨k - 1, by omega⟩
    refine ⟨k, by omega, ?_⟩
    simp only [spec_l03Reduced.l4]
    rw [if_neg (nlt_nat (by omega)), if_pos (by omega), w64_succ (n := 64) (i := row) (by omega) (by omega), w64_succ (n := 70) (i := c) (by omega) (by omega), tab_congr (g := fun a b => if a ≠ row then cleared p f row c a b else f a b) (fun a b ha hb => by
      by_cases e : a ≠ row
      · rw [if_pos ⟨by omega, e⟩, if_pos e]
      · rw [if_neg (fun h => e h.2), if_neg e])]
  | succ d ih =>
    intro k i hd hi hk
    obtain ⟨k, rfl⟩ : ∃ m, k = m + 1 := ⟨k - 1, by omega⟩
    obtain ⟨k, rfl⟩ : ∃ m, k = m + 1 := ⟨k - 1, by omega⟩
    have hiR : i < R := by omega
    have hm : (d + 1) * (C + 3) = d * (C + 3) + (C + 3) := by rw [Nat.add_mul, Nat.one_mul]
    simp only [spec_l03Reduced.l4]
    rw [if_pos (lt_nat hiR), w64_at (r := R) (by omega) (by omega) (by omega) (by omega), if_pos (idx0 _), if_pos (idx1 _ hiR hc), rdt _ hiR hc, if_neg (show ¬ (i < i ∧ i ≠ row) from fun h => Nat.lt_irrefl _ h.1)]
    by_cases e : i = row
    · obtain ⟨k', e1, e2⟩ := ih (k + 0) (i + 1) (by omega) (by omega) (by omega)
      refine ⟨k', by omega, ?_⟩
      rw [← e2, if_pos (by rw [e])]
      simp only [spec_l03Reduced.j8]
      rw [if_pos trivial, w64_succ (n := 64) (by omega) (by omega)]
      congr 1
      refine tab_congr (fun a b ha hb => ?_)
      by_cases e3 : a = row
      · simp [e3]
      · have : (a < i + 1) = (a < i) := by apply propext; omega
        simp [e3, this]
    · rw [if_neg (ne_nat e)]
      by_cases ez : f i c = 0
      · obtain ⟨k', e1, e2⟩ := ih k (i + 1) (by omega) (by omega) (by omega)
        refine ⟨k', by omega, ?_⟩
        rw [← e2]
        simp only [spec_l03Reduced.j8]
        rw [if_pos (by rw [ez]; rfl), w64_succ (n := 64) (by omega) (by omega)]
        congr 1
        refine tab_congr (fun a b ha hb => ?_)
        by_cases e3 : a = i
        · subst e3; simp [e, cleared, ez]
        · have : (a < i + 1) = (a < i) := by apply propext; omega
          simp [this]
      · have hg : ∀ a b, 0 ≤ (if a < i ∧ a ≠ row then cleared p f row c a b else f a b) ∧ (if a < i ∧ a ≠ row then cleared p f row c a b else f a b) < p := fun a b => by
          by_cases h : a < i ∧ a ≠ row
          · rw [if_pos h]; unfold cleared
            by_cases h2 : f a c = 0
            · rw [if_pos h2]; exact hf a b
            · rw [if_neg h2]; exact ⟨Int.emod_nonneg _ (by omega), Int.emod_lt_of_pos _ (by omega)⟩
          · rw [if_neg h]; exact hf a b
        obtain ⟨k1, c1, c2⟩ := clear_loop (p := p) (R := R) (C := C) (piv := piv) (ml := ml) (det := det) (mp := mp) (m2 := m2) (op := op) (o1 := o1) (o2 := o2) hp hp' hR hC _ hg hr hiR e (c := c) (v := f i c) (hf i c) C k 0 (by omega) (by omega) (by omega)
        obtain ⟨k', e1, e2⟩ := ih k1 (i + 1) (by omega) (by omega) (by omega)
        refine ⟨k', by omega, ?_⟩
        rw [← e2]
        simp only [spec_l03Reduced.j8]
        rw [if_neg (by simp [ez])]
        have c0 := tab_congr (r := R) (c := C) (f := fun a b => if a = i ∧ b < 0 then ((if a < i ∧ a ≠ row then cleared p f row c a b else f a b) - f i c * (if row < i ∧ row ≠ row then cleared p f row c row b else f row b)) % p else (if a < i ∧ a ≠ row then cleared p f row c a b else f a b)) (g := fun a b => if a < i ∧ a ≠ row then cleared p f row c a b else f a b) (fun a b ha hb => by rw [if_neg (fun h => Nat.not_lt_zero _ h.2)])
        rw [c0] at c2
        refine c2.trans ?_
        congr 1
        refine tab_congr (fun a b ha hb => ?_)
        by_cases e3 : a = i
        · subst e3; simp [e, cleared, ez, Nat.lt_irrefl]
        · have : (a < i + 1) = (a < i) := by apply propext; omega
          simp [e3, this]
theorem inv_loop (hp : 2 ≤ p) (hp' : p ≤ 251) {a : Int} (h0 : 0 ≤ a) (h1 : a < p) (n : Nat) : ∀ (k : Nat) (acc : Int), n < k → n ≤ 300 → 0 ≤ acc → acc < p → spec_l03Inverse.l0 k a p acc n = some (acc * a ^ n % p) := by
  induction n with
  | zero =>
    intro k acc hk _ g0 g1
    obtain ⟨k, rfl⟩ : ∃ m, k = m + 1 := ⟨k - 1, by omega⟩
    simp only [spec_l03Inverse.l0]
    rw [if_neg (by simp), Int.pow_zero, Int.mul_one, Int.emod_eq_of_lt g0 g1]
  | succ n ih =>
    intro k acc hk hn g0 g1
    obtain ⟨k, rfl⟩ : ∃ m, k = m + 1 := ⟨k - 1, by omega⟩
    have hs := smallS hp hp' g0 (by omega) h0 h1
    simp only [spec_l03Inverse.l0]
    have e1 : ((n + 1 : Nat) : Int) - 1 = (n : Int) := by omega
    rw [if_pos (by omega), if_neg (by omega), w64_idV (x := acc * a) (by omega) (by omega), Int.tmod_eq_emod_of_nonneg hs.1, e1, w64_idV (x := (n : Int)) (by omega) (by omega),
      ih k _ (by omega) (by omega) (Int.emod_nonneg _ (by omega)) (Int.emod_lt_of_pos _ (by omega)), Int.mul_emod, Int.emod_emod_of_dvd _ (Int.dvd_refl p), ← Int.mul_emod, Int.mul_assoc]
    congr 3
    rw [Int.pow_succ, Int.mul_comm]
theorem invS {a : Int} (hp : isP p = true) (h0 : 0 ≤ a) (h1 : a < p) {k : Nat} (hk : 300 ≤ k) : spec_l03Inverse.f k a p = some (pinv p a) := by
  have h := isP_ge hp
  unfold spec_l03Inverse.f
  rw [w64_idV (x := p - 2) (by omega) (by omega), show p - 2 = (((p - 2).toNat : Nat) : Int) by omega, inv_loop h.1 h.2 h0 h1 _ k 1 (by omega) (by omega) (by omega) (by omega), Int.one_mul]
  rfl
/-- What a pivot makes of the matrix. -/
def pivoted (p : Int) (f : Nat → Nat → Int) (row c : Nat) : Nat → Nat → Int :=
  fun a b => if a ≠ row then cleared p (fun a b => if a = row then f a b * pinv p (f row c) % p else f a b) row c a b else (if a = row then f a b * pinv p (f row c) % p else f a b)
theorem step5 (hp : isP p = true) (hR : R ≤ 64) (hC : C ≤ 70) (f : Nat → Nat → Int) (hf : ∀ i j, 0 ≤ f i j ∧ f i j < p) {row c : Nat} (hr : row < R) (hc : c < C) (hpv : piv.length ≤ 100) (hd : 0 ≤ det) (hd' : det ≤ 251) {k : Nat} (hk : 6000 ≤ k) :
    ∃ k', k ≤ k' + 5000 ∧ spec_l03Reduced.j5 k p C piv det row c mp R m2 ml op o1 o2 (tab R C f) =
      spec_l03Reduced.l0 k' p C (piv ++ [(c : Int)]) (det * f row c % p) ((row + 1 : Nat) : Int) ((c + 1 : Nat) : Int) mp R m2 ml op o1 o2 (tab R C (pivoted p f row c)) := by
  have h2 := isP_ge hp
  obtain ⟨k, rfl⟩ : ∃ m, k = m + 1 := ⟨k - 1, by omega⟩
  have hi := pinv_range (p := p) (a := f row c) hp
  have hs := smallS h2.1 h2.2 hd hd' (hf row c).1 (hf row c).2
  have hmul : R * (C + 3) ≤ 64 * 73 := Nat.mul_le_mul hR (by omega)
  obtain ⟨k1, c1, c2⟩ := scale_loop (p := p) (R := R) (C := C) (piv := piv) (ml := ml) (det := det * f row c % p) (mp := mp) (m2 := m2) (op := op) (o1 := o1) (o2 := o2) h2.1 h2.2 hR hC f hf hr (c := c) (inv := pinv p (f row c)) hi C k 0 (by omega) (by omega) (by omega)
  have hg : ∀ a b, 0 ≤ (if a = row then f a b * pinv p (f row c) % p else f a b) ∧ (if a = row then f a b * pinv p (f row c) % p else f a b) < p := fun a b => by
    by_cases h : a = row
    · rw [if_pos h]; exact ⟨Int.emod_nonneg _ (by omega), Int.emod_lt_of_pos _ (by omega)⟩
    · rw [if_neg h]; exact hf a b
  obtain ⟨k2, d1, d2⟩ := rows_loop (p := p) (R := R) (C := C) (piv := piv) (ml := ml) (det := det * f row c % p) (mp := mp) (m2 := m2) (op := op) (o1 := o1) (o2 := o2) h2.1 h2.2 hR hC _ hg hr hc hpv R k1 0 (by omega) (by omega) (by omega)
  refine ⟨k2, by omega, ?_⟩
  unfold pivoted
  rw [← d2]
  have d0 := tab_congr (r := R) (c := C) (f := fun a b => if a < 0 ∧ a ≠ row then cleared p (fun a b => if a = row then f a b * pinv p (f row c) % p else f a b) row c a b else (if a = row then f a b * pinv p (f row c) % p else f a b)) (g := fun a b => if a = row then f a b * pinv p (f row c) % p else f a b) (fun a b ha hb => by rw [if_neg (fun h => Nat.not_lt_zero _ h.1)])
  rw [d0]
  refine Eq.trans ?_ c2
  have c0 := tab_congr (r := R) (c := C) (f := fun a b => if a = row ∧ b < 0 then f a b * pinv p (f row c) % p else f a b) (g := f) (fun a b ha hb => by rw [if_neg (fun h => Nat.not_lt_zero _ h.2)])
  rw [c0]
  simp only [spec_l03Reduced.j5]
  rw [w64_at (r := R) (by omega) (by omega) (by omega) (by omega), if_pos (idx0 _), if_pos (idx1 _ hr hc), if_neg (by omega), rdt _ hr hc, invS hp (hf row c).1 (hf row c).2 (by omega), Option.bind_some, w64_idV (x := det * f row c) (by omega) (by omega), Int.tmod_eq_emod_of_nonneg hs.1]
  rfl
end

theorem rangeC {p : Int} {n : Nat} {rows : List (List Int)} (hp : 2 ≤ p) (h : RowsOk p n rows) (i j : Nat) : 0 ≤ cell rows i j ∧ cell rows i j < p := RowsOk.cell h (by omega) i j
theorem find_none {rows : List (List Int)} {top c : Nat} (h : ∀ i, top ≤ i → i < rows.length → cell rows i c = 0) : findPivot rows top c = none := by
  unfold findPivot
  rw [List.findIdx?_eq_none_iff]
  intro r hr
  obtain ⟨j, hj, rfl⟩ := List.mem_iff_getElem.mp hr
  rw [List.length_drop] at hj
  have := h (top + j) (by omega) (by omega)
  unfold cell at this
  rw [getD_at (l := rows) (i := top + j) (d := []) (by omega)] at this
  rw [List.getElem_drop]
  simpa using this
theorem find_some {rows : List (List Int)} {top c q : Nat} (h1 : top ≤ q) (h2 : q < rows.length) (h : ∀ i, top ≤ i → i < q → cell rows i c = 0) (hq : cell rows q c ≠ 0) : findPivot rows top c = some (q - top) := by
  unfold findPivot
  rw [List.findIdx?_eq_some_iff_getElem]
  refine ⟨by rw [List.length_drop]; omega, ?_, fun j hj => ?_⟩
  · rw [List.getElem_drop]
    unfold cell at hq
    rw [getD_at (l := rows) (i := q) (d := []) h2] at hq
    have e : top + (q - top) = q := by omega
    simp only [e]
    simpa using hq
  · have := h (top + j) (by omega) (by omega)
    unfold cell at this
    rw [getD_at (l := rows) (i := top + j) (d := []) (by omega)] at this
    rw [List.getElem_drop]
    simpa using this
theorem cell_swap {rows : List (List Int)} {a b : Nat} (ha : a < rows.length) (hb : b < rows.length) (hab : b ≠ a) (i j : Nat) : cell (swapRows rows a b) i j = sw (cell rows) a b i j := by
  unfold cell sw
  rw [swapRows_get rows ha hb]
  by_cases e : i = b
  · subst e; rw [if_pos rfl, if_neg hab, if_pos rfl]
  · rw [if_neg e]
    by_cases e2 : i = a
    · rw [if_pos e2, if_pos e2]
    · rw [if_neg e2, if_neg e2, if_neg e]
theorem cell_pivot {p : Int} {n : Nat} {rows : List (List Int)} (hp : 2 ≤ p) (hok : RowsOk p n rows) {top c : Nat} (ht : top < rows.length) (hc : c < n) {i j : Nat} (hi : i < rows.length) (hj : j < n) :
    cell (clearAll p c top ((rows.getD top []).map (fun x => pinv p (cell rows top c) * x % p)) (rows.set top ((rows.getD top []).map (fun x => pinv p (cell rows top c) * x % p)))) i j = pivoted p (cell rows) top c i j := by
  have okT : RowOk p n (rows.getD top []) := hok _ (getD_mem ht)
  have okI : RowOk p n (rows.getD i []) := hok _ (getD_mem hi)
  have hq : ∀ j, j < n → ((rows.getD top []).map (fun x => pinv p (cell rows top c) * x % p)).getD j 0 = cell rows top j * pinv p (cell rows top c) % p := fun j hj => by
    have hj' : j < (rows.getD top []).length := by rw [okT.1]; exact hj
    rw [Int.mul_comm (cell rows top j)]
    show _ = pinv p (cell rows top c) * (rows.getD top []).getD j 0 % p
    rw [List.getD_eq_getElem?_getD, List.getElem?_map, List.getElem?_eq_getElem hj', getD_at hj']
    rfl
  have hql : ((rows.getD top []).map (fun x => pinv p (cell rows top c) * x % p)).length = n := by rw [List.length_map, okT.1]
  generalize (rows.getD top []).map (fun x => pinv p (cell rows top c) * x % p) = q at hq hql ⊢
  unfold cell pivoted
  rw [clearAll_get (by rw [List.length_set]; exact hi), getD_set _ _ _ _ ht]
  by_cases e : i = top
  · subst e
    rw [if_pos rfl, if_pos rfl, if_neg (by simp), if_pos rfl]
    exact hq j hj
  · rw [if_neg e, if_neg e, if_pos e]
    unfold clearRow cleared
    simp only [if_neg e, if_true]
    by_cases ez : (rows.getD i []).getD c 0 = 0
    · rw [if_pos ez, if_pos (by exact ez)]
    · rw [if_neg ez, if_neg (by exact ez), addRow_getD (by rw [okI.1]; exact hj) (by rw [hql]; exact hj), hq j hj]
      show _ = ((rows.getD i []).getD j 0 - (rows.getD i []).getD c 0 * (cell rows top j * pinv p (cell rows top c) % p)) % p
      generalize (rows.getD i []).getD c 0 = y
      generalize (rows.getD i []).getD j 0 = x
      generalize cell rows top j * pinv p (cell rows top c) % p = z
      have : x + (p - y) * z = x - y * z + p * z := by rw [Int.sub_mul]; omega
      rw [this, Int.add_mul_emod_self_left]
theorem elimTo_stop {p : Int} {rs : List (List Int)} {c : Nat} (h : (elimTo p rs c).1.length = (elimTo p rs c).2.1.length) (d : Nat) :
    (elimTo p rs (c + d)).1 = (elimTo p rs c).1 ∧ (elimTo p rs (c + d)).2.1 = (elimTo p rs c).2.1 := by
  induction d with
  | zero => exact ⟨rfl, rfl⟩
  | succ d ih =>
    rw [← Nat.add_assoc, elimTo_succ]
    generalize elimTo p rs (c + d) = s at ih ⊢
    obtain ⟨R, piv, det⟩ := s
    dsimp only at ih
    rw [elimStep_none (find_none (fun i h1 h2 => by rw [ih.1] at h2; rw [ih.2] at h1; omega))]
    exact ih
theorem spec_elim_loop {p : Int} (hp : isP p = true) {C : Nat} {rs : List (List Int)} (hm : rs.length ≤ 64) (hn : C ≤ 70) (hok : RowsOk p C rs) {ml : List Int} {mp m2 op o1 o2 : Int} (d : Nat) :
    ∀ k c ds, C - c = d → c ≤ C → d * 5200 + 6500 < k → 0 ≤ ds → ds < p → ((elimTo p rs c).2.1.length = c → ds = (elimTo p rs c).2.2) →
      ∃ ds', 0 ≤ ds' ∧ ds' < p ∧ ((elim p C rs).2.1.length = C → ds' = (elim p C rs).2.2) ∧
        spec_l03Reduced.l0 k p C (elimTo p rs c).2.1 ds ((elimTo p rs c).2.1.length : Int) c mp rs.length m2 ml op o1 o2 (tab rs.length C (cell (elimTo p rs c).1)) = some (op, o1, o2, tab rs.length C (cell (elim p C rs).1), (elim p C rs).2.1, ds') := by
  have h2 := isP_ge hp
  induction d with
  | zero =>
    intro k c ds hd hc hk d0 d1 hds
    obtain ⟨k, rfl⟩ : ∃ m, k = m + 1 := ⟨k - 1, by omega⟩
    obtain ⟨k, rfl⟩ : ∃ m, k = m + 1 := ⟨k - 1, by omega⟩
    obtain rfl : c = C := by omega
    refine ⟨ds, d0, d1, hds, ?_⟩
    simp only [spec_l03Reduced.l0, spec_l03Reduced.j1]
    rw [if_neg (nlt_nat (Nat.le_refl _)), if_neg (by simp)]
    rfl
  | succ d ih =>
    intro k c ds hd hc hk d0 d1 hds
    obtain ⟨k, rfl⟩ : ∃ m, k = m + 1 := ⟨k - 1, by omega⟩
    obtain ⟨k, rfl⟩ : ∃ m, k = m + 1 := ⟨k - 1, by omega⟩
    have hcn : c < C := by omega
    have hk2 : (d + 1) * 5200 = d * 5200 + 5200 := Nat.succ_mul _ _
    rw [hk2] at hk
    clear hk2
    generalize d * 5200 = D at hk ih
    obtain ⟨t1, t2, t7, hle, t6, t8⟩ := elimTo_small hp hok c hc
    by_cases hfull : (elimTo p rs c).2.1.length < rs.length
    · have ih2 := fun k' ds' => ih k' (c + 1) ds' (by omega) (by omega)
      rw [elimTo_succ] at ih2
      generalize elimTo p rs c = s at *
      obtain ⟨A, piv, det⟩ := s
      dsimp only at *
      have hf := rangeC h2.1 t1
      simp only [spec_l03Reduced.l0, spec_l03Reduced.j1]
      rw [if_pos (lt_nat hcn), if_pos (by simpa using hfull)]
      obtain ⟨k1, q, a1, a2, a3, a4, a5, a6⟩ := find_loop (p := p) (R := rs.length) (C := C) (piv := piv) (ml := ml) (det := ds) (mp := mp) (m2 := m2) (op := op) (o1 := o1) (o2 := o2) hm hn (cell A) (row := piv.length) hcn (rs.length - piv.length) k piv.length rfl (by omega) (by omega) (fun i h1 h3 => by omega)
      rw [a6]
      clear a6
      obtain ⟨k1, rfl⟩ : ∃ m, k1 = m + 1 := ⟨k1 - 1, by omega⟩
      simp only [spec_l03Reduced.j3]
      by_cases eq : q = rs.length
      · rw [if_pos (by rw [eq]), w64_succ (n := 70) (by omega) (by omega)]
        rw [elimStep_none (find_none (fun i h1 h3 => a4 i h1 (by omega)))] at ih2
        dsimp only at ih2
        exact ih2 k1 ds (by omega) d0 d1 (fun h => by omega)
      · have hqR : q < rs.length := by omega
        have hne := a5 hqR
        have hfs := find_some a2 (by omega) a4 hne
        have hst : elimStep p (A, piv, det) c = (clearAll p c piv.length (((if q - piv.length = 0 then A else swapRows A piv.length (piv.length + (q - piv.length))).getD piv.length []).map (fun x => pinv p (cell (if q - piv.length = 0 then A else swapRows A piv.length (piv.length + (q - piv.length))) piv.length c) * x % p)) ((if q - piv.length = 0 then A else swapRows A piv.length (piv.length + (q - piv.length))).set piv.length (((if q - piv.length = 0 then A else swapRows A piv.length (piv.length + (q - piv.length))).getD piv.length []).map (fun x => pinv p (cell (if q - piv.length = 0 then A else swapRows A piv.length (piv.length + (q - piv.length))) piv.length c) * x % p))), piv ++ [(c : Int)], (if q - piv.length = 0 then det else -det % p) * cell (if q - piv.length = 0 then A else swapRows A piv.length (piv.length + (q - piv.length))) piv.length c % p) := by
          unfold elimStep; simp only [hfs]
        rw [hst] at ih2
        clear hst
        dsimp only at ih2
        rw [if_neg (ne_nat eq)]
        by_cases e : q = piv.length
        · rw [if_pos (by rw [e])]
          have e0 : q - piv.length = 0 := by omega
          simp only [e0, if_true] at ih2
          obtain ⟨k2, b1, b2⟩ := step5 (p := p) (R := rs.length) (C := C) (piv := piv) (ml := ml) (det := ds) (mp := mp) (m2 := m2) (op := op) (o1 := o1) (o2 := o2) hp hm hn (cell A) hf (row := piv.length) (c := c) hfull hcn (by omega) d0 (by omega) (k := k1) (by omega)
          rw [b2, ← tab_congr (fun i j hi hj => cell_pivot h2.1 t1 (top := piv.length) (c := c) (by omega) hcn (by omega) hj)]
          have := ih2 k2 (ds * cell A piv.length c % p) (by omega) (Int.emod_nonneg _ (by omega)) (Int.emod_lt_of_pos _ (by omega)) (fun h => by
            rw [hds (by simp at h; omega)])
          simpa using this
        · rw [if_neg (ne_nat e)]
          have e0 : ¬ q - piv.length = 0 := by omega
          have e1 : piv.length + (q - piv.length) = q := by omega
          simp only [if_neg e0, e1] at ih2
          have hokW := RowsOk.swap t1 (a := piv.length) (b := q) (by omega) (by omega)
          have hlW := swapRows_length A piv.length q
          have hsw : ∀ i j, sw (cell A) piv.length q i j = cell (swapRows A piv.length q) i j := fun i j => (cell_swap (by omega) (by omega) (by omega) i j).symm
          rw [w64_idV (x := p - ds) (by omega) (by omega)]
          obtain ⟨k3, g1, g2⟩ := swap_loop (p := p) (R := rs.length) (C := C) (piv := piv) (ml := ml) (det := p - ds) (mp := mp) (m2 := m2) (op := op) (o1 := o1) (o2 := o2) hm hn (cell A) (row := piv.length) (c := c) (q := q) hqR hfull e C k1 0 (by omega) (by omega) (by omega)
          have g0 := tab_congr (r := rs.length) (c := C) (f := fun a b => if b < 0 then sw (cell A) piv.length q a b else cell A a b) (g := cell A) (fun a b ha hb => by rw [if_neg (Nat.not_lt_zero _)])
          rw [g0, tab_congr (g := cell (swapRows A piv.length q)) (fun a b _ _ => hsw a b)] at g2
          have gz : ((0 : Nat) : Int) = 0 := rfl
          rw [gz] at g2
          rw [g2]
          obtain ⟨k2, b1, b2⟩ := step5 (p := p) (R := rs.length) (C := C) (piv := piv) (ml := ml) (det := p - ds) (mp := mp) (m2 := m2) (op := op) (o1 := o1) (o2 := o2) hp hm hn (cell (swapRows A piv.length q)) (rangeC h2.1 hokW) (row := piv.length) (c := c) hfull hcn (by omega) (by omega) (by omega) (k := k3) (by omega)
          rw [b2, ← tab_congr (fun i j hi hj => cell_pivot h2.1 hokW (top := piv.length) (c := c) (by omega) hcn (by omega) hj)]
          have := ih2 k2 ((p - ds) * cell (swapRows A piv.length q) piv.length c % p) (by omega) (Int.emod_nonneg _ (by omega)) (Int.emod_lt_of_pos _ (by omega)) (fun h => by
            rw [hds (by simp at h; omega)]
            rw [Int.mul_emod, ← Int.emod_emod_of_dvd (p - det) (Int.dvd_refl p), show (p - det) % p = -det % p by rw [show p - det = -det + p by omega, Int.add_emod_right], ← Int.mul_emod])
          simpa using this
    · have hA : (elimTo p rs c).1.length = (elimTo p rs c).2.1.length := by omega
      obtain ⟨s1, s2⟩ := elimTo_stop hA (C - c)
      rw [show c + (C - c) = C by omega] at s1 s2
      refine ⟨ds, d0, d1, fun h => ?_, ?_⟩
      · exfalso
        have : (elimTo p rs C).2.1.length = C := h
        rw [s2] at this
        omega
      · simp only [spec_l03Reduced.l0, spec_l03Reduced.j1]
        rw [if_pos (lt_nat hcn), if_neg (by simpa using hfull)]
        unfold elim
        rw [s1, s2]

theorem implElim_tells {p : Int} (hp : isP p = true) {R C : Nat} {l : List Int} (hR : R ≤ 64) (hC : C ≤ 70) (hl : l.length = R * C) (hv : ∀ j, 0 ≤ l.getD j 0 ∧ l.getD j 0 < p) {k : Nat} (hk : 6000 ≤ k) :
    impl_eliminate.f k p R C l C p = some ((elim p C (rowsM R C l)).2.1, (elim p C (rowsM R C l)).2.2, (elim p C (rowsM R C l)).1) := by
  unfold impl_eliminate.f
  rw [rowsOf_tells hR hC hl (by omega), Option.bind_some]
  exact elim_tells hp (by rw [rowsM_length]; exact hR) hC (rowsM_ok hv) hk
theorem specElim_tells {p : Int} (hp : isP p = true) {R C : Nat} {l : List Int} (hR : R ≤ 64) (hC : C ≤ 70) (hl : l.length = R * C) (hv : ∀ j, 0 ≤ l.getD j 0 ∧ l.getD j 0 < p) {k : Nat} (hk : 400000 ≤ k) :
    ∃ ds, 0 ≤ ds ∧ ds < p ∧ ((elim p C (rowsM R C l)).2.1.length = C → ds = (elim p C (rowsM R C l)).2.2) ∧
      spec_l03Reduced.f k p R C l = some (p, (R : Int), (C : Int), tab R C (cell (elim p C (rowsM R C l)).1), (elim p C (rowsM R C l)).2.1, ds) := by
  have h2 := isP_ge hp
  have hm : R * C ≤ 64 * 70 := Nat.mul_le_mul hR hC
  have hb : (C - 0) * 5200 ≤ 70 * 5200 := Nat.mul_le_mul (by omega) (Nat.le_refl _)
  obtain ⟨ds, a1, a2, a3, a4⟩ := spec_elim_loop (p := p) hp (C := C) (rs := rowsM R C l) (ml := l) (mp := p) (m2 := C) (op := p) (o1 := R) (o2 := C) (by rw [rowsM_length]; exact hR) hC (rowsM_ok hv) (C - 0) k 0 1 rfl (by omega) (by omega) (by omega) (by omega) (fun _ => rfl)
  refine ⟨ds, a1, a2, a3, ?_⟩
  unfold spec_l03Reduced.f spec_l00Own.f
  simp only [Option.bind_some, List.nil_append, List.length_nil]
  rw [if_pos (by omega), Option.bind_some]
  rw [rowsM_length] at a4
  rw [← a4]
  show _ = spec_l03Reduced.l0 k p C [] 1 0 0 p R C l p R C (tab R C (cell (rowsM R C l)))
  rw [rowsM_tab hl]

theorem l04Rows_loop {p q : Int} {n : Nat} (hn : n ≤ 70) {rs : List (List Int)} (hok : RowsOk q n rs) (hm : rs.length ≤ 1048576) (R : Int) (d : Nat) : ∀ (k i : Nat), rs.length - i = d → i ≤ rs.length → d < k →
    spec_l04Rows.l0 k rs i p R n (rs.take i).flatten = some (p, R, (n : Int), rs.flatten) := by
  induction d with
  | zero =>
    intro k i hd hi hk
    obtain ⟨k, rfl⟩ : ∃ m, k = m + 1 := ⟨k - 1, by omega⟩
    simp only [spec_l04Rows.l0]
    rw [if_neg (by omega), List.take_of_length_le (by omega)]
  | succ d ih =>
    intro k i hd hi hk
    obtain ⟨k, rfl⟩ : ∃ m, k = m + 1 := ⟨k - 1, by omega⟩
    have hlt : i < rs.length := by omega
    have hw := (hok _ (row_mem hlt)).1
    have hl : (rs.take i).flatten.length ≤ 1048576 * 70 := by
      rw [flatten_tab hok i hi, tab_length]; exact Nat.mul_le_mul (by omega) hn
    simp only [spec_l04Rows.l0]
    rw [if_pos (by omega), if_pos (by omega), rdS_nat, if_pos (by omega), w64_succ (n := rs.length) hlt (by omega), ← take_flatten_succ rs hlt]
    exact ih k (i + 1) (by omega) (by omega) (by omega)
theorem l04Rows_tells {p q : Int} {n : Nat} (hn : n ≤ 70) {rs : List (List Int)} (hok : RowsOk q n rs) (hm : rs.length ≤ 1048576) {k : Nat} (hk : 1048577 ≤ k) : spec_l04Rows.f k p n rs = some (p, (rs.length : Int), (n : Int), rs.flatten) := by
  unfold spec_l04Rows.f
  exact l04Rows_loop hn hok hm _ rs.length k 0 (by omega) (by omega) (by omega)
theorem rowsM_self {p : Int} {C : Nat} {rs : List (List Int)} (hok : RowsOk p C rs) : rowsM rs.length C rs.flatten = rs := by
  rw [flatten_rows hok]
  refine ext_rows (by rw [rowsM_length]) (fun j hj => ?_)
  rw [rowsM_length] at hj
  have h := row_of_tab hok hj
  rw [slice_row (tab_length _ _ _) hj] at h
  rw [← h]
  generalize tab rs.length C (cell rs) = l
  unfold rowsM
  simp [List.getD_eq_getElem?_getD, hj]
theorem basis_loop {p q : Int} {n : Nat} (hn : n ≤ 70) {Q : List (List Int)} (hok : RowsOk q n Q) (hm : Q.length ≤ 1048576) {piv : List Int} (hpv : piv.length ≤ Q.length) (R C : Int) (d : Nat) : ∀ (k i : Nat), piv.length - i = d → i ≤ piv.length → d < k →
    spec_l04Basis.l0 k n piv (Q.take i) i p R C (tab Q.length n (cell Q)) = some (Q.take piv.length) := by
  induction d with
  | zero =>
    intro k i hd hi hk
    obtain ⟨k, rfl⟩ : ∃ m, k = m + 1 := ⟨k - 1, by omega⟩
    obtain rfl : i = piv.length := by omega
    simp only [spec_l04Basis.l0]
    rw [if_neg (by omega)]
  | succ d ih =>
    intro k i hd hi hk
    obtain ⟨k, rfl⟩ : ∃ m, k = m + 1 := ⟨k - 1, by omega⟩
    have hlt : i < Q.length := by omega
    have m1 : i * n ≤ 1048576 * 70 := Nat.mul_le_mul (by omega) hn
    have m2 : (i + 1) * n ≤ 1048576 * 70 := Nat.mul_le_mul (by omega) hn
    have m3 : (i + 1) * n ≤ Q.length * n := Nat.mul_le_mul_right _ hlt
    have m4 : i * n ≤ (i + 1) * n := Nat.mul_le_mul_right _ (by omega)
    have hw := (hok _ (row_mem hlt)).1
    have q0 : (i : Int) < (piv.length : Int) := by omega
    have q1 : (0 : Int) ≤ ((i * n : Nat) : Int) := Int.natCast_nonneg _
    have q2 : ((i * n : Nat) : Int) ≤ (((i + 1) * n : Nat) : Int) := Int.ofNat_le.mpr m4
    have q3 : (((i + 1) * n : Nat) : Int) ≤ ((tab Q.length n (cell Q)).length : Int) := by rw [tab_length]; exact Int.ofNat_le.mpr m3
    have q4 : 0 + (Q.getD i []).length < 17592186044416 := by omega
    have q5 : (Q.take i).length < 5864062014805 := by rw [List.length_take]; omega
    have b1 : -9223372036854775808 ≤ ((i * n : Nat) : Int) ∧ ((i * n : Nat) : Int) ≤ 9223372036854775807 := by omega
    have b2 : -9223372036854775808 ≤ (((i + 1) * n : Nat) : Int) ∧ (((i + 1) * n : Nat) : Int) ≤ 9223372036854775807 := by omega
    have ih2 := ih k (i + 1) (by omega) (by omega) (by omega)
    have es := w64_succ (n := piv.length) (i := i) (by omega) (by omega)
    have e1 : wrap64 ((i : Int) * (n : Int)) = ((i * n : Nat) : Int) := by rw [← Int.natCast_mul]; exact w64_idV b1.1 b1.2
    have e2 : wrap64 (((i + 1 : Nat) : Int) * (n : Int)) = (((i + 1) * n : Nat) : Int) := by rw [← Int.natCast_mul]; exact w64_idV b2.1 b2.2
    simp only [spec_l04Basis.l0]
    unfold spec_l00Own.f
    rw [if_pos q0, es, e1, e2, if_pos q1, if_pos q2, if_pos q3, Int.toNat_natCast, Int.toNat_natCast, row_of_tab hok hlt]
    simp only [Option.bind_some, List.nil_append, List.length_nil]
    rw [if_pos q4, Option.bind_some, if_pos q5]
    have e : Q.take i ++ [Q.getD i []] = Q.take (i + 1) := by rw [List.take_add_one, List.getElem?_eq_getElem hlt, getD_at hlt]; rfl
    rw [e]
    exact ih2
theorem basisS_tells {p : Int} (hp : isP p = true) {n : Nat} (hn : n ≤ 70) {rs : List (List Int)} (hok : RowsOk p n rs) (hm : rs.length ≤ 64) {k : Nat} (hk : 1048577 ≤ k) : spec_l04Basis.f k p n rs = some (basisOf p n rs) := by
  have hp2 := (isP_ge hp).1
  obtain ⟨t1, t2, t3, t4, _, _⟩ := elimTo_small hp hok n (Nat.le_refl _)
  have hl : rs.flatten.length = rs.length * n := by rw [flatten_rows hok, tab_length]
  have hv : ∀ j, 0 ≤ rs.flatten.getD j 0 ∧ rs.flatten.getD j 0 < p := fun j => by
    by_cases hj : j < rs.flatten.length
    · obtain ⟨r, hr, hx⟩ := List.mem_flatten.mp (getD_mem (d := 0) hj)
      exact (hok r hr).2 _ hx
    · rw [List.getD_eq_getElem?_getD, List.getElem?_eq_none (by omega)]; simp; omega
  obtain ⟨ds, _, _, _, h⟩ := specElim_tells hp hm hn hl hv (k := k) (by omega)
  rw [rowsM_self hok] at h
  unfold spec_l04Basis.f
  rw [l04Rows_tells hn hok (by omega) hk, Option.bind_some]
  show Option.bind (spec_l03Reduced.f k p (rs.length : Int) (n : Int) rs.flatten) _ = _
  rw [h, Option.bind_some]
  have e1 : (elim p n rs).1.length = rs.length := t2
  have e2 : (elim p n rs).2.1.length ≤ rs.length := t4
  have e3 : RowsOk p n (elim p n rs).1 := t1
  have b := basis_loop (p := p) hn (q := p) (Q := (elim p n rs).1) e3 (by omega) (piv := (elim p n rs).2.1) (by omega) (rs.length : Int) (n : Int) (elim p n rs).2.1.length k 0 (by omega) (by omega) (by omega)
  rw [e1] at b
  exact b

theorem w64_atL {r c i j : Nat} (hr : r ≤ 1048576) (hc : c ≤ 128) (hi : i ≤ r) (hj : j ≤ c) : wrap64 (wrap64 ((i : Int) * (c : Int)) + (j : Int)) = ((i * c + j : Nat) : Int) := by
  have h1 : i * c ≤ 1048576 * 128 := Nat.mul_le_mul (by omega) hc
  rw [← Int.natCast_mul, w64_idV (x := ((i * c : Nat) : Int)) (by omega) (by omega), w64_idV (by omega) (by omega)]; omega
section
variable {p : Int} {R C : Nat} {piv ml : List Int} {det mp m2 op o1 o2 : Int}
theorem find_loopL (hR : R ≤ 1048576) (hC : C ≤ 70) (f : Nat → Nat → Int) {row c : Nat} (hc : c < C) (d : Nat) : ∀ k q, R - q = d → q ≤ R → d < k → (∀ i, row ≤ i → i < q → f i c = 0) →
    ∃ k' q', k ≤ k' + d + 1 ∧ q ≤ q' ∧ q' ≤ R ∧ (∀ i, row ≤ i → i < q' → f i c = 0) ∧ (q' < R → f q' c ≠ 0) ∧
      spec_l03Reduced.l1 k p C piv det row c q mp R m2 ml op o1 o2 (tab R C f) = spec_l03Reduced.j3 k' p C piv det row c q' mp R m2 ml op o1 o2 (tab R C f) := by
  induction d with
  | zero =>
    intro k q hd hq hk h
    obtain ⟨k, rfl⟩ : ∃ m, k = m + 1 := ⟨k - 1, by omega⟩
    refine ⟨k, q, by omega, Nat.le_refl _, hq, h, fun e => by omega, ?_⟩
    simp only [spec_l03Reduced.l1]
    rw [if_neg (nlt_nat (by omega))]
  | succ d ih =>
    intro k q hd hq hk h
    obtain ⟨k, rfl⟩ : ∃ m, k = m + 1 := ⟨k - 1, by omega⟩
    have hqR : q < R := by omega
    by_cases e : f q c = 0
    · obtain ⟨k', q', e1, e2, e3, e4, e5, e6⟩ := ih k (q + 1) (by omega) (by omega) (by omega) (fun i h1 h2 => by
        by_cases h3 : i = q
        · rw [h3]; exact e
        · exact h i h1 (by omega))
      refine ⟨k', q', by omega, by omega, e3, e4, e5, ?_⟩
      rw [← e6]
      simp only [spec_l03Reduced.l1]
      rw [if_pos (lt_nat hqR), w64_atL (r := R) (by omega) (by omega) (by omega) (by omega), if_pos (idx0 _), if_pos (idx1 f hqR hc), rdt f hqR hc, if_pos e, w64_succ (n := 1048576) (by omega) (by omega)]
    · refine ⟨k, q, by omega, Nat.le_refl _, hq, h, fun _ => e, ?_⟩
      simp only [spec_l03Reduced.l1]
      rw [if_pos (lt_nat hqR), w64_atL (r := R) (by omega) (by omega) (by omega) (by omega), if_pos (idx0 _), if_pos (idx1 f hqR hc), rdt f hqR hc, if_neg e]
theorem swap_loopL (hR : R ≤ 1048576) (hC : C ≤ 70) (f : Nat → Nat → Int) {row c q : Nat} (hq : q < R) (hr : row < R) (hne : q ≠ row) (d : Nat) : ∀ k j, C - j = d → j ≤ C → d < k →
    ∃ k', k ≤ k' + d + 1 ∧ spec_l03Reduced.l2 k p C piv det row c q j mp R m2 ml op o1 o2 (tab R C (fun a b => if b < j then sw f row q a b else f a b)) = spec_l03Reduced.j5 k' p C piv det row c mp R m2 ml op o1 o2 (tab R C (sw f row q)) := by
  induction d with
  | zero =>
    intro k j hd hj hk
    obtain ⟨k, rfl⟩ : ∃ m, k = m + 1 := ⟨k - 1, by omega⟩
    refine ⟨k, by omega, ?_⟩
    simp only [spec_l03Reduced.l2]
    rw [if_neg (nlt_nat (by omega)), tab_congr (g := sw f row q) (fun a b ha hb => by rw [if_pos (by omega)])]
  | succ d ih =>
    intro k j hd hj hk
    obtain ⟨k, rfl⟩ : ∃ m, k = m + 1 := ⟨k - 1, by omega⟩
    have hjC : j < C := by omega
    obtain ⟨k', e1, e2⟩ := ih k (j + 1) (by omega) (by omega) (by omega)
    refine ⟨k', by omega, ?_⟩
    rw [← e2]
    simp only [spec_l03Reduced.l2]
    rw [if_pos (lt_nat hjC), w64_atL (r := R) (i := q) (by omega) (by omega) (by omega) (by omega), w64_atL (r := R) (i := row) (by omega) (by omega) (by omega) (by omega), if_pos (idx0 _), if_pos (idx1 _ hq hjC), if_pos (idx0 _), if_pos (idx1 _ hr hjC),
      rdt _ hq hjC, rdt _ hr hjC, Int.toNat_natCast, Int.toNat_natCast, tab_set _ hq hjC, tab_set _ hr hjC, w64_succ (n := 70) (by omega) (by omega)]
    congr 1
    refine tab_congr (fun a b ha hb => ?_)
    unfold sw
    by_cases e1 : a = row
    · subst e1
      by_cases e2 : b = j
      · subst e2; simp [Nat.lt_irrefl]
      · have : (b < j + 1) = (b < j) := by apply propext; omega
        simp [e2, this]
    · by_cases e3 : a = q
      · subst e3
        by_cases e2 : b = j
        · subst e2; simp [e1, Nat.lt_irrefl]
        · have : (b < j + 1) = (b < j) := by apply propext; omega
          simp [e2, this, e1]
      · simp [e1, e3]
theorem scale_loopL (hp : 2 ≤ p) (hp' : p ≤ 251) (hR : R ≤ 1048576) (hC : C ≤ 70) (f : Nat → Nat → Int) (hf : ∀ i j, 0 ≤ f i j ∧ f i j < p) {row c : Nat} (hr : row < R) {inv : Int} (hi : 0 ≤ inv ∧ inv < p) (d : Nat) : ∀ k j, C - j = d → j ≤ C → d < k →
    ∃ k', k ≤ k' + d + 1 ∧ spec_l03Reduced.l3 k p C piv det row c inv j mp R m2 ml op o1 o2 (tab R C (fun a b => if a = row ∧ b < j then f a b * inv % p else f a b)) = spec_l03Reduced.l4 k' p C piv det row c 0 mp R m2 ml op o1 o2 (tab R C (fun a b => if a = row then f a b * inv % p else f a b)) := by
  induction d with
  | zero =>
    intro k j hd hj hk
    obtain ⟨k, rfl⟩ : ∃ m, k = m + 1 := ⟨k - 1, by omega⟩
    refine ⟨k, by omega, ?_⟩
    simp only [spec_l03Reduced.l3]
    rw [if_neg (nlt_nat (by omega)), tab_congr (g := fun a b => if a = row then f a b * inv % p else f a b) (fun a b ha hb => by
      by_cases e : a = row
      · rw [if_pos ⟨e, by omega⟩, if_pos e]
      · rw [if_neg (fun h => e h.1), if_neg e])]
  | succ d ih =>
    intro k j hd hj hk
    obtain ⟨k, rfl⟩ : ∃ m, k = m + 1 := ⟨k - 1, by omega⟩
    have hjC : j < C := by omega
    obtain ⟨k', e1, e2⟩ := ih k (j + 1) (by omega) (by omega) (by omega)
    refine ⟨k', by omega, ?_⟩
    rw [← e2]
    simp only [spec_l03Reduced.l3]
    have hs := smallS hp hp' (hf row j).1 (by have := (hf row j).2; omega) hi.1 hi.2
    rw [if_pos (lt_nat hjC), w64_atL (r := R) (i := row) (by omega) (by omega) (by omega) (by omega), if_pos (idx0 _), if_pos (idx1 _ hr hjC), if_neg (by omega),
      rdt _ hr hjC, Int.toNat_natCast, w64_succ (n := 70) (by omega) (by omega), if_neg (by omega), w64_idV (x := f row j * inv) (by omega) (by omega), Int.tmod_eq_emod_of_nonneg hs.1, tab_set _ hr hjC]
    congr 1
    refine tab_congr (fun a b ha hb => ?_)
    by_cases e1 : a = row
    · subst e1
      by_cases e2 : b = j
      · subst e2; simp
      · have : (b < j + 1) = (b < j) := by apply propext; omega
        simp [e2, this]
    · simp [e1]
theorem clear_loopL (hp : 2 ≤ p) (hp' : p ≤ 251) (hR : R ≤ 1048576) (hC : C ≤ 70) (f : Nat → Nat → Int) (hf : ∀ i j, 0 ≤ f i j ∧ f i j < p) {row c i : Nat} (hr : row < R) (hi : i < R) (hne : i ≠ row) {v : Int} (hv : 0 ≤ v ∧ v < p) (d : Nat) : ∀ k j, C - j = d → j ≤ C → d < k →
    ∃ k', k ≤ k' + d + 1 ∧ spec_l03Reduced.l5 k p C piv det row c i v j mp R m2 ml op o1 o2 (tab R C (fun a b => if a = i ∧ b < j then (f a b - v * f row b) % p else f a b)) = spec_l03Reduced.l4 k' p C piv det row c ((i + 1 : Nat) : Int) mp R m2 ml op o1 o2 (tab R C (fun a b => if a = i then (f a b - v * f row b) % p else f a b)) := by
  induction d with
  | zero =>
    intro k j hd hj hk
    obtain ⟨k, rfl⟩ : ∃ m, k = m + 1 := ⟨k - 1, by omega⟩
    refine ⟨k, by omega, ?_⟩
    simp only [spec_l03Reduced.l5]
    rw [if_neg (nlt_nat (by omega)), w64_succ (n := 1048576) (by omega) (by omega), tab_congr (g := fun a b => if a = i then (f a b - v * f row b) % p else f a b) (fun a b ha hb => by
      by_cases e : a = i
      · rw [if_pos ⟨e, by omega⟩, if_pos e]
      · rw [if_neg (fun h => e h.1), if_neg e])]
  | succ d ih =>
    intro k j hd hj hk
    obtain ⟨k, rfl⟩ : ∃ m, k = m + 1 := ⟨k - 1, by omega⟩
    have hjC : j < C := by omega
    obtain ⟨k', e1, e2⟩ := ih k (j + 1) (by omega) (by omega) (by omega)
    refine ⟨k', by omega, ?_⟩
    rw [← e2]
    simp only [spec_l03Reduced.l5]
    have hs := smallS hp hp' hv.1 (by omega) (hf row j).1 (hf row j).2
    have hx := hf i j
    rw [if_pos (lt_nat hjC), w64_atL (r := R) (i := i) (by omega) (by omega) (by omega) (by omega), w64_atL (r := R) (i := row) (by omega) (by omega) (by omega) (by omega), if_pos (idx0 _), if_pos (idx1 _ hi hjC), if_pos (idx0 _), if_pos (idx1 _ hr hjC),
      rdt _ hi hjC, rdt _ hr hjC, Int.toNat_natCast, w64_succ (n := 70) (by omega) (by omega), if_neg (by omega), if_neg (by omega), w64_idV (x := v * f row j) (by omega) (by omega), w64_idV (x := f i j - v * f row j) (by omega) (by omega),
      modS hp hp' (by omega) (by omega), Option.bind_some, tab_set _ hi hjC]
    congr 1
    refine tab_congr (fun a b ha hb => ?_)
    by_cases e1 : a = i
    · subst e1
      by_cases e2 : b = j
      · subst e2; simp
      · have : (b < j + 1) = (b < j) := by apply propext; omega
        simp [e2, this]
    · simp [e1]
theorem rows_loopL (hp : 2 ≤ p) (hp' : p ≤ 251) (hR : R ≤ 1048576) (hC : C ≤ 70) (f : Nat → Nat → Int) (hf : ∀ i j, 0 ≤ f i j ∧ f i j < p) {row c : Nat} (hr : row < R) (hc : c < C) (hpv : piv.length ≤ 100) (d : Nat) : ∀ k i, R - i = d → i ≤ R → d * (C + 3) + 1 < k →
    ∃ k', k ≤ k' + d * (C + 3) + 1 ∧ spec_l03Reduced.l4 k p C piv det row c i mp R m2 ml op o1 o2 (tab R C (fun a b => if a < i ∧ a ≠ row then cleared p f row c a b else f a b)) =
      spec_l03Reduced.l0 k' p C (piv ++ [(c : Int)]) det ((row + 1 : Nat) : Int) ((c + 1 : Nat) : Int) mp R m2 ml op o1 o2 (tab R C (fun a b => if a ≠ row then cleared p f row c a b else f a b)) := by
  induction d with
  | zero =>
    intro k i hd hi hk
    obtain ⟨k, rfl⟩ : ∃ m, k = m + 1 := ⟨k - 1, by omega⟩
    refine ⟨k, by omega, ?_⟩
    simp only [spec_l03Reduced.l4]
    rw [if_neg (nlt_nat (by omega)), if_pos (by omega), w64_succ (n := 1048576) (i := row) (by omega) (by omega), w64_succ (n := 70) (i := c) (by omega) (by omega), tab_congr (g := fun a b => if a ≠ row then cleared p f row c a b else f a b) (fun a b ha hb => by
      by_cases e : a ≠ row
      · rw [if_pos ⟨by omega, e⟩, if_pos e]
      · rw [if_neg (fun h => e h.2), if_neg e])]
  | succ d ih =>
    intro k i hd hi hk
    obtain ⟨k, rfl⟩ : ∃ m, k = m + 1 := ⟨k - 1, by omega⟩
    obtain ⟨k, rfl⟩ : ∃ m, k = m + 1 := ⟨k - 1, by omega⟩
    have hiR : i < R := by omega
    have hm : (d + 1) * (C + 3) = d * (C + 3) + (C + 3) := by rw [Nat.add_mul, Nat.one_mul]
    simp only [spec_l03Reduced.l4]
    rw [if_pos (lt_nat hiR), w64_atL (r := R) (by omega) (by omega) (by omega) (by omega), if_pos (idx0 _), if_pos (idx1 _ hiR hc), rdt _ hiR hc, if_neg (show ¬ (i < i ∧ i ≠ row) from fun h => Nat.lt_irrefl _ h.1)]
    by_cases e : i = row
    · obtain ⟨k', e1, e2⟩ := ih (k + 0) (i + 1) (by omega) (by omega) (by omega)
      refine ⟨k', by omega, ?_⟩
      rw [← e2, if_pos (by rw [e])]
      simp only [spec_l03Reduced.j8]
      rw [if_pos trivial, w64_succ (n := 1048576) (by omega) (by omega)]
      congr 1
      refine tab_congr (fun a b ha hb => ?_)
      by_cases e3 : a = row
      · simp [e3]
      · have : (a < i + 1) = (a < i) := by apply propext; omega
        simp [e3, this]
    · rw [if_neg (ne_nat e)]
      by_cases ez : f i c = 0
      · obtain ⟨k', e1, e2⟩ := ih k (i + 1) (by omega) (by omega) (by omega)
        refine ⟨k', by omega, ?_⟩
        rw [← e2]
        simp only [spec_l03Reduced.j8]
        rw [if_pos (by rw [ez]; rfl), w64_succ (n := 1048576) (by omega) (by omega)]
        congr 1
        refine tab_congr (fun a b ha hb => ?_)
        by_cases e3 : a = i
        · subst e3; simp [e, cleared, ez]
        · have : (a < i + 1) = (a < i) := by apply propext; omega
          simp [this]
      · have hg : ∀ a b, 0 ≤ (if a < i ∧ a ≠ row then cleared p f row c a b else f a b) ∧ (if a < i ∧ a ≠ row then cleared p f row c a b else f a b) < p := fun a b => by
          by_cases h : a < i ∧ a ≠ row
          · rw [if_pos h]; unfold cleared
            by_cases h2 : f a c = 0
            · rw [if_pos h2]; exact hf a b
            · rw [if_neg h2]; exact ⟨Int.emod_nonneg _ (by omega), Int.emod_lt_of_pos _ (by omega)⟩
          · rw [if_neg h]; exact hf a b
        obtain ⟨k1, c1, c2⟩ := clear_loopL (p := p) (R := R) (C := C) (piv := piv) (ml := ml) (det := det) (mp := mp) (m2 := m2) (op := op) (o1 := o1) (o2 := o2) hp hp' hR hC _ hg hr hiR e (c := c) (v := f i c) (hf i c) C k 0 (by omega) (by omega) (by omega)
        obtain ⟨k', e1, e2⟩ := ih k1 (i + 1) (by omega) (by omega) (by omega)
        refine ⟨k', by omega, ?_⟩
        rw [← e2]
        simp only [spec_l03Reduced.j8]
        rw [if_neg (by simp [ez])]
        have c0 := tab_congr (r := R) (c := C) (f := fun a b => if a = i ∧ b < 0 then ((if a < i ∧ a ≠ row then cleared p f row c a b else f a b) - f i c * (if row < i ∧ row ≠ row then cleared p f row c row b else f row b)) % p else (if a < i ∧ a ≠ row then cleared p f row c a b else f a b)) (g := fun a b => if a < i ∧ a ≠ row then cleared p f row c a b else f a b) (fun a b ha hb => by rw [if_neg (fun h => Nat.not_lt_zero _ h.2)])
        rw [c0] at c2
        refine c2.trans ?_
        congr 1
        refine tab_congr (fun a b ha hb => ?_)
        by_cases e3 : a = i
        · subst e3; simp [e, cleared, ez, Nat.lt_irrefl]
        · have : (a < i + 1) = (a < i) := by apply propext; omega
          simp [e3, this]
theorem step5L (hp : isP p = true) (hR : R ≤ 1048576) (hC : C ≤ 70) (f : Nat → Nat → Int) (hf : ∀ i j, 0 ≤ f i j ∧ f i j < p) {row c : Nat} (hr : row < R) (hc : c < C) (hpv : piv.length ≤ 100) (hd : 0 ≤ det) (hd' : det ≤ 251) {k : Nat} (hk : 79000000 ≤ k) :
    ∃ k', k ≤ k' + 78000000 ∧ spec_l03Reduced.j5 k p C piv det row c mp R m2 ml op o1 o2 (tab R C f) =
      spec_l03Reduced.l0 k' p C (piv ++ [(c : Int)]) (det * f row c % p) ((row + 1 : Nat) : Int) ((c + 1 : Nat) : Int) mp R m2 ml op o1 o2 (tab R C (pivoted p f row c)) := by
  have h2 := isP_ge hp
  obtain ⟨k, rfl⟩ : ∃ m, k = m + 1 := ⟨k - 1, by omega⟩
  have hi := pinv_range (p := p) (a := f row c) hp
  have hs := smallS h2.1 h2.2 hd hd' (hf row c).1 (hf row c).2
  have hmul : R * (C + 3) ≤ 1048576 * 73 := Nat.mul_le_mul hR (by omega)
  obtain ⟨k1, c1, c2⟩ := scale_loopL (p := p) (R := R) (C := C) (piv := piv) (ml := ml) (det := det * f row c % p) (mp := mp) (m2 := m2) (op := op) (o1 := o1) (o2 := o2) h2.1 h2.2 hR hC f hf hr (c := c) (inv := pinv p (f row c)) hi C k 0 (by omega) (by omega) (by omega)
  have hg : ∀ a b, 0 ≤ (if a = row then f a b * pinv p (f row c) % p else f a b) ∧ (if a = row then f a b * pinv p (f row c) % p else f a b) < p := fun a b => by
    by_cases h : a = row
    · rw [if_pos h]; exact ⟨Int.emod_nonneg _ (by omega), Int.emod_lt_of_pos _ (by omega)⟩
    · rw [if_neg h]; exact hf a b
  obtain ⟨k2, d1, d2⟩ := rows_loopL (p := p) (R := R) (C := C) (piv := piv) (ml := ml) (det := det * f row c % p) (mp := mp) (m2 := m2) (op := op) (o1 := o1) (o2 := o2) h2.1 h2.2 hR hC _ hg hr hc hpv R k1 0 (by omega) (by omega) (by omega)
  refine ⟨k2, by omega, ?_⟩
  unfold pivoted
  rw [← d2]
  have d0 := tab_congr (r := R) (c := C) (f := fun a b => if a < 0 ∧ a ≠ row then cleared p (fun a b => if a = row then f a b * pinv p (f row c) % p else f a b) row c a b else (if a = row then f a b * pinv p (f row c) % p else f a b)) (g := fun a b => if a = row then f a b * pinv p (f row c) % p else f a b) (fun a b ha hb => by rw [if_neg (fun h => Nat.not_lt_zero _ h.1)])
  rw [d0]
  refine Eq.trans ?_ c2
  have c0 := tab_congr (r := R) (c := C) (f := fun a b => if a = row ∧ b < 0 then f a b * pinv p (f row c) % p else f a b) (g := f) (fun a b ha hb => by rw [if_neg (fun h => Nat.not_lt_zero _ h.2)])
  rw [c0]
  simp only [spec_l03Reduced.j5]
  rw [w64_atL (r := R) (by omega) (by omega) (by omega) (by omega), if_pos (idx0 _), if_pos (idx1 _ hr hc), if_neg (by omega), rdt _ hr hc, invS hp (hf row c).1 (hf row c).2 (by omega), Option.bind_some, w64_idV (x := det * f row c) (by omega) (by omega), Int.tmod_eq_emod_of_nonneg hs.1]
  rfl
end
end Go.Proofs.Ytoibkfdmcajieaa.F
end
