-- Texts of this claim, merged by packw.py (a program of this session's).
import Derived.Test.YtoekjicknclooaaQFnInverse5
import Derived.Test.YtoekjicknclooaaQFnInverse10
import Derived.KernelRfl
import Derived.Test.YtoekjicknclooaaQFnInverse6
import Derived.Test.YtoekjicknclooaaQFnInverse7
import Derived.Test.YtoekjicknclooaaQFnInverse8

section
set_option linter.unusedVariables false
set_option linter.unusedSimpArgs false
set_option linter.unusedSectionVars false
namespace Go.Proofs.Ytoekjicknclooaa.F
open Go.RowKit Go.Proofs.YtoekjicknclooaaW.PrintWords Go.Proofs.YtoekjicknclooaaW.PrintLast Go.Proofs.Ytoekjicknclooaa.Lin
theorem implElim_tells {p : Int} (hp : isP p = true) {R C : Nat} {l : List Int} (hR : R ≤ 64) (hC : C ≤ 70) (hl : l.length = R * C) (hv : ∀ j, 0 ≤ l.getD j 0 ∧ l.getD j 0 < p) {k : Nat} (hk : 6000 ≤ k) :
    impl_eliminate.f k p R C l C p = some ((elim p C (rowsM R C l)).2.1, (elim p C (rowsM R C l)).2.2, (elim p C (rowsM R C l)).1) := by
  unfold impl_eliminate.f
  rw [rowsOf_tells hR hC hl (by omega), Option.bind_some]
  exact elim_tells hp (by rw [rowsM_length]; exact hR) hC (rowsM_ok hv) hk
theorem concat_size {rs : List (List Int)} (hr : rs.length ≤ 100) (hl : rs.flatten.length ≤ 100000) (d : Nat) : ∀ k i, rs.length - i = d → i ≤ rs.length → d < k →
    ∃ k', k = k' + d + 1 ∧ slices_Concat_int64_int64.l0 k rs ((rs.take i).flatten.length : Int) rs rs.length i = slices_Concat_int64_int64.l1 k' [] rs rs.length 0 := by
  have hle : ∀ i, (rs.take i).flatten.length ≤ rs.flatten.length := fun i => by
    have : rs.flatten = (rs.take i).flatten ++ (rs.drop i).flatten := by rw [← List.flatten_append, List.take_append_drop]
    rw [this, List.length_append]; omega
  induction d with
  | zero =>
    intro k i hd hi hk
    obtain ⟨k, rfl⟩ : ∃ m, k = m + 1 := ⟨k - 1, by omega⟩
    refine ⟨k, by omega, ?_⟩
    have h1 := hle i
    simp only [slices_Concat_int64_int64.l0]
    rw [if_neg (nlt_nat (by omega))]
    have g : slices_Grow_int64_int64.f [] ((rs.take i).flatten.length : Int) = some [] := by
      unfold slices_Grow_int64_int64.f
      rw [if_pos (show ([] : List Int).length = 0 from rfl), if_pos (by omega), if_pos (by omega)]
    rw [g, Option.bind_some]
  | succ d ih =>
    intro k i hd hi hk
    obtain ⟨k, rfl⟩ : ∃ m, k = m + 1 := ⟨k - 1, by omega⟩
    obtain ⟨k', e1, e2⟩ := ih k (i + 1) (by omega) (by omega) (by omega)
    refine ⟨k', by omega, ?_⟩
    have hiR : i < rs.length := by omega
    have h1 := hle (i + 1)
    rw [← e2, take_flatten_succ rs hiR, List.length_append]
    rw [take_flatten_succ rs hiR, List.length_append] at h1
    have e3 : ((rs.take i).flatten.length : Int) + ((rs.getD i []).length : Int) = (((rs.take i).flatten.length + (rs.getD i []).length : Nat) : Int) := by omega
    simp only [slices_Concat_int64_int64.l0]
    rw [if_pos (lt_nat hiR), if_pos (idx0 _), if_pos (lt_nat hiR), rdL_nat, e3, w64_idV (x := (((rs.take i).flatten.length + (rs.getD i []).length : Nat) : Int)) (by omega) (by omega), if_neg (by omega), w64_succ (n := 100) (by omega) (by omega)]
theorem concat_rows {rs : List (List Int)} (hr : rs.length ≤ 100) (hl : rs.flatten.length ≤ 100000) (d : Nat) : ∀ k i, rs.length - i = d → i ≤ rs.length → d < k →
    slices_Concat_int64_int64.l1 k (rs.take i).flatten rs rs.length i = some rs.flatten := by
  have hle : ∀ i, (rs.take i).flatten.length ≤ rs.flatten.length := fun i => by
    have : rs.flatten = (rs.take i).flatten ++ (rs.drop i).flatten := by rw [← List.flatten_append, List.take_append_drop]
    rw [this, List.length_append]; omega
  induction d with
  | zero =>
    intro k i hd hi hk
    obtain ⟨k, rfl⟩ : ∃ m, k = m + 1 := ⟨k - 1, by omega⟩
    simp only [slices_Concat_int64_int64.l1]
    rw [if_neg (nlt_nat (by omega)), List.take_of_length_le (by omega)]
  | succ d ih =>
    intro k i hd hi hk
    obtain ⟨k, rfl⟩ : ∃ m, k = m + 1 := ⟨k - 1, by omega⟩
    have hiR : i < rs.length := by omega
    have h1 := hle (i + 1)
    have e2 := ih k (i + 1) (by omega) (by omega) (by omega)
    rw [take_flatten_succ rs hiR] at h1 e2
    rw [List.length_append] at h1
    simp only [slices_Concat_int64_int64.l1]
    rw [if_pos (lt_nat hiR), if_pos (idx0 _), if_pos (lt_nat hiR), rdL_nat, if_pos (by omega), w64_succ (n := 100) (by omega) (by omega)]
    exact e2
theorem concat_tells {rs : List (List Int)} (hr : rs.length ≤ 100) (hl : rs.flatten.length ≤ 100000) {k : Nat} (hk : 300 ≤ k) : slices_Concat_int64_int64.f k rs = some rs.flatten := by
  unfold slices_Concat_int64_int64.f
  obtain ⟨k', e1, e2⟩ := concat_size hr hl rs.length k 0 (by omega) (by omega) (by omega)
  refine e2.trans ?_
  exact concat_rows hr hl rs.length k' 0 (by omega) (by omega) (by omega)
theorem matrixOf_tells {p q : Int} {C : Nat} (c : Int) {rs : List (List Int)} (hok : RowsOk p C rs) (hr : rs.length ≤ 100) (hC : C ≤ 100) {k : Nat} (hk : 300 ≤ k) : impl_matrixOf.f k q c rs = some (q, (rs.length : Int), c, tab rs.length C (cell rs)) := by
  have hl : rs.flatten.length ≤ 100000 := by
    rw [flatten_rows hok, tab_length]
    have : rs.length * C ≤ 100 * 100 := Nat.mul_le_mul hr hC
    omega
  unfold impl_matrixOf.f
  show Option.bind (some (rs.length : Int)) _ = _
  rw [Option.bind_some, concat_tells hr hl hk, Option.bind_some, flatten_rows hok]
theorem elim_ok {p : Int} (hp : isP p = true) {n : Nat} {rs : List (List Int)} (hok : RowsOk p n rs) : RowsOk p n (elim p n rs).1 ∧ (elim p n rs).1.length = rs.length ∧ (elim p n rs).2.1.length ≤ n := by
  obtain ⟨t1, t2, t3, _, _, _⟩ := elimTo_small hp hok n (Nat.le_refl _)
  exact ⟨t1, t2, t3⟩
end Go.Proofs.Ytoekjicknclooaa.F
end

section
set_option linter.unusedVariables false
set_option linter.unusedSimpArgs false
set_option linter.unusedSectionVars false
namespace Go.Proofs.Ytoekjicknclooaa.Lin
def sm {p : Nat} [NeZero p] (n : Nat) (f : Nat → Fin p) : Fin p := match n with | 0 => 0 | n+1 => sm n f + f n
section
variable {p : Nat} [NeZero p]
theorem sm_congr {n : Nat} {f g : Nat → Fin p} (h : ∀ i, i < n → f i = g i) : sm n f = sm n g := by
  induction n with
  | zero => rfl
  | succ n ih =>
    simp only [sm]
    rw [ih (fun i hi => h i (by omega)), h n (by omega)]
theorem sm_zero {n : Nat} {f : Nat → Fin p} (h : ∀ i, i < n → f i = 0) : sm n f = 0 := by
  induction n with
  | zero => rfl
  | succ n ih =>
    simp only [sm]
    rw [ih (fun i hi => h i (by omega)), h n (by omega)]
    grind
theorem sm_add (n : Nat) (f g : Nat → Fin p) : sm n (fun i => f i + g i) = sm n f + sm n g := by
  induction n with
  | zero => simp [sm]
  | succ n ih => simp only [sm, ih]; grind
theorem sm_mul (n : Nat) (f : Nat → Fin p) (c : Fin p) : sm n (fun i => c * f i) = c * sm n f := by
  induction n with
  | zero => simp only [sm]; grind
  | succ n ih => simp only [sm, ih]; grind
theorem sm_mul_r (n : Nat) (f : Nat → Fin p) (c : Fin p) : sm n (fun i => f i * c) = sm n f * c := by
  induction n with
  | zero => simp only [sm]; grind
  | succ n ih => simp only [sm, ih]; grind
theorem sm_comm (n m : Nat) (f : Nat → Nat → Fin p) : sm n (fun i => sm m (fun j => f i j)) = sm m (fun j => sm n (fun i => f i j)) := by
  induction n with
  | zero => simp only [sm]; exact (sm_zero (fun _ _ => rfl)).symm
  | succ n ih => simp only [sm, ih]; rw [← sm_add]
theorem sm_one {n : Nat} {f : Nat → Fin p} (k : Nat) (hk : k < n) (h : ∀ i, i < n → i ≠ k → f i = 0) : sm n f = f k := by
  induction n with
  | zero => omega
  | succ n ih =>
    simp only [sm]
    by_cases e : k = n
    · subst e
      rw [sm_zero (fun i hi => h i (by omega) (by omega))]; grind
    · rw [ih (by omega) (fun i hi hne => h i (by omega) hne), h n (by omega) (by omega)]; grind
theorem sm_cut {n r : Nat} {f : Nat → Fin p} (hr : r ≤ n) (h : ∀ i, r ≤ i → i < n → f i = 0) : sm n f = sm r f := by
  induction n with
  | zero => obtain rfl : r = 0 := by omega
            rfl
  | succ n ih =>
    by_cases e : r = n + 1
    · rw [e]
    · simp only [sm]
      rw [ih (by omega) (fun i h1 h2 => h i h1 (by omega)), h n (by omega) (by omega)]; grind
def skip (k i : Nat) : Nat := if i < k then i else i + 1
theorem sm_skip {n : Nat} {f : Nat → Fin p} (k : Nat) (hk : k < n + 1) : sm (n + 1) f = f k + sm n (fun i => f (skip k i)) := by
  induction n with
  | zero => obtain rfl : k = 0 := by omega
            simp only [sm]; grind
  | succ n ih =>
    by_cases e : k = n + 1
    · subst e
      have h : sm (n + 1) (fun i => f (skip (n + 1) i)) = sm (n + 1) f := sm_congr (fun i hi => by unfold skip; rw [if_pos hi])
      rw [h]
      show sm (n + 1) f + f (n + 1) = _
      grind
    · have h1 : sm (n + 1 + 1) f = sm (n + 1) f + f (n + 1) := rfl
      have h2 : sm (n + 1) (fun i => f (skip k i)) = sm n (fun i => f (skip k i)) + f (skip k n) := rfl
      rw [h1, h2, ih (by omega)]
      have h3 : skip k n = n + 1 := by unfold skip; rw [if_neg (by omega)]
      rw [h3]; grind
/-! ### Spans -/
def Sp (n m : Nat) (A : Nat → Nat → Fin p) (v : Nat → Fin p) : Prop := ∃ c : Nat → Fin p, ∀ j, j < n → v j = sm m (fun i => c i * A i j)
theorem Sp.row {n m : Nat} {A : Nat → Nat → Fin p} {i : Nat} (hi : i < m) : Sp n m A (A i) :=
  ⟨fun k => if k = i then 1 else 0, fun j _ => by
    rw [sm_one i hi (fun k _ hk => by dsimp only; rw [if_neg hk]; grind)]; dsimp only; rw [if_pos rfl]; grind⟩
theorem Sp.trans {n m m' : Nat} {A B : Nat → Nat → Fin p} {v : Nat → Fin p} (h : Sp n m A v) (hB : ∀ i, i < m → Sp n m' B (A i)) : Sp n m' B v := by
  obtain ⟨c, hc⟩ := h
  have : ∀ i, ∃ d : Nat → Fin p, i < m → ∀ j, j < n → A i j = sm m' (fun k => d k * B k j) := fun i => by
    by_cases hi : i < m
    · obtain ⟨d, hd⟩ := hB i hi
      exact ⟨d, fun _ => hd⟩
    · exact ⟨fun _ => 0, fun h => absurd h hi⟩
  obtain ⟨d, hd⟩ := Classical.axiomOfChoice this
  refine ⟨fun k => sm m (fun i => c i * d i k), fun j hj => ?_⟩
  rw [hc j hj]
  have e1 : sm m (fun i => c i * A i j) = sm m (fun i => sm m' (fun k => c i * (d i k * B k j))) := sm_congr (fun i hi => by rw [hd i hi j hj, sm_mul])
  rw [e1, sm_comm]
  exact sm_congr (fun k _ => by rw [← sm_mul_r]; exact sm_congr (fun i _ => by grind))
theorem Sp.congr {n m : Nat} {A : Nat → Nat → Fin p} {v u : Nat → Fin p} (h : Sp n m A v) (e : ∀ j, j < n → u j = v j) : Sp n m A u := by
  obtain ⟨c, hc⟩ := h
  exact ⟨c, fun j hj => by rw [e j hj]; exact hc j hj⟩
theorem Sp.zero {n m : Nat} {A : Nat → Nat → Fin p} {v : Nat → Fin p} (h : ∀ j, j < n → v j = 0) : Sp n m A v :=
  ⟨fun _ => 0, fun j hj => by rw [h j hj, sm_zero (fun i _ => by grind)]⟩
theorem Sp.add {n m : Nat} {A : Nat → Nat → Fin p} {v u : Nat → Fin p} (h : Sp n m A v) (k : Sp n m A u) : Sp n m A (fun j => v j + u j) := by
  obtain ⟨c, hc⟩ := h
  obtain ⟨d, hd⟩ := k
  refine ⟨fun i => c i + d i, fun j hj => ?_⟩
  show v j + u j = _
  rw [hc j hj, hd j hj, ← sm_add]
  exact sm_congr (fun i _ => by grind)
theorem Sp.mul {n m : Nat} {A : Nat → Nat → Fin p} {v : Nat → Fin p} (a : Fin p) (h : Sp n m A v) : Sp n m A (fun j => a * v j) := by
  obtain ⟨c, hc⟩ := h
  refine ⟨fun i => a * c i, fun j hj => ?_⟩
  show a * v j = _
  rw [hc j hj, ← sm_mul]
  exact sm_congr (fun i _ => by grind)
/-! ### Reduced forms -/
structure Rref (n m : Nat) (A : Nat → Nat → Fin p) (r : Nat) (P : Nat → Nat) : Prop where
  le : r ≤ m
  lt : ∀ i, i < r → P i < n
  inc : ∀ i k, i < k → k < r → P i < P k
  one : ∀ i, i < r → A i (P i) = 1
  col : ∀ i k, i < r → k < m → k ≠ i → A k (P i) = 0
  before : ∀ i j, i < r → j < P i → A i j = 0
  rest : ∀ i j, r ≤ i → i < m → j < n → A i j = 0
theorem Rref.coeff {n m r : Nat} {A : Nat → Nat → Fin p} {P : Nat → Nat} (h : Rref n m A r P) {v c : Nat → Fin p} (hc : ∀ j, j < n → v j = sm m (fun i => c i * A i j)) {i : Nat} (hi : i < r) : v (P i) = c i := by
  rw [hc _ (h.lt i hi), sm_one i (by have := h.le; omega) (fun k hk hne => by rw [h.col i k hi hk hne]; grind), h.one i hi]; grind
theorem Rref.as_sum {n m r : Nat} {A : Nat → Nat → Fin p} {P : Nat → Nat} (h : Rref n m A r P) {v : Nat → Fin p} (hv : Sp n m A v) (j : Nat) (hj : j < n) : v j = sm r (fun i => v (P i) * A i j) := by
  obtain ⟨c, hc⟩ := hv
  rw [hc j hj, sm_cut h.le (fun i h1 h2 => by rw [h.rest i j h1 h2 hj]; grind)]
  exact sm_congr (fun i hi => by rw [h.coeff hc hi])
theorem Rref.lead {n m r : Nat} {A : Nat → Nat → Fin p} {P : Nat → Nat} (h : Rref n m A r P) {v : Nat → Fin p} (hv : Sp n m A v) {k : Nat} (hk : k < n) (h0 : ∀ j, j < k → v j = 0) (h1 : v k ≠ 0) : ∃ i, i < r ∧ P i = k := by
  by_cases hx : ∃ i, i < r ∧ P i = k
  · exact hx
  · exfalso
    apply h1
    rw [h.as_sum hv k hk]
    refine sm_zero (fun i hi => ?_)
    rcases Nat.lt_trichotomy (P i) k with hlt | heq | hgt
    · rw [h0 _ hlt]; grind
    · exact absurd ⟨i, hi, heq⟩ hx
    · rw [h.before i k hi hgt]; grind
theorem Rref.begins {n m r : Nat} {A : Nat → Nat → Fin p} {P : Nat → Nat} (h : Rref n m A r P) (h10 : (1 : Fin p) ≠ 0) (i : Nat) (hi : i < r) : A i (P i) ≠ 0 := by rw [h.one i hi]; exact h10
/-! ### More unknowns than equations -/
theorem nonzero_solution (h10 : (1 : Fin p) ≠ 0) (hinv : ∀ a : Fin p, a ≠ 0 → ∃ b, a * b = 1) (t : Nat) : ∀ (r : Nat) (D : Nat → Nat → Fin p), t < r → ∃ y : Nat → Fin p, (∃ i, i < r ∧ y i ≠ 0) ∧ ∀ k, k < t → sm r (fun i => y i * D i k) = 0 := by
  induction t with
  | zero => exact fun r D h => ⟨fun _ => 1, ⟨0, h, h10⟩, fun k hk => by omega⟩
  | succ t ih =>
    intro r D hr
    by_cases hz : ∀ i, i < r → D i t = 0
    · obtain ⟨y, hy, hs⟩ := ih r D (by omega)
      refine ⟨y, hy, fun k hk => ?_⟩
      by_cases e : k = t
      · subst e
        exact sm_zero (fun i hi => by rw [hz i hi]; grind)
      · exact hs k (by omega)
    · have : ∃ i0, i0 < r ∧ D i0 t ≠ 0 := by
        apply Classical.byContradiction
        intro h
        exact hz (fun i hi => Classical.byContradiction fun hne => h ⟨i, hi, hne⟩)
      obtain ⟨i0, hi0, hne⟩ := this
      obtain ⟨b, hb⟩ := hinv _ hne
      obtain ⟨r, rfl⟩ : ∃ q, r = q + 1 := ⟨r - 1, by omega⟩
      obtain ⟨y, ⟨i1, hi1, hy⟩, hs⟩ := ih r (fun i k => D (skip i0 i) k - D (skip i0 i) t * b * D i0 k) (by omega)
      let un : Nat → Nat := fun i => if i < i0 then i else i - 1
      have un_skip : ∀ i, un (skip i0 i) = i := fun i => by
        show (if skip i0 i < i0 then skip i0 i else skip i0 i - 1) = i
        unfold skip
        by_cases h : i < i0
        · rw [if_pos h, if_pos h]
        · rw [if_neg h, if_neg (by omega)]; omega
      have skip_ne : ∀ i, skip i0 i ≠ i0 := fun i => by unfold skip; split <;> omega
      let S := sm r (fun i => y i * (D (skip i0 i) t * b))
      refine ⟨fun i => if i = i0 then -S else y (un i), ⟨skip i0 i1, by unfold skip; split <;> omega, ?_⟩, fun k hk => ?_⟩
      · show (if skip i0 i1 = i0 then -S else y (un (skip i0 i1))) ≠ 0
        rw [if_neg (skip_ne i1), un_skip]; exact hy
      · rw [sm_skip i0 hi0]; dsimp only; rw [if_pos rfl]
        have e1 : sm r (fun i => (if skip i0 i = i0 then -S else y (un (skip i0 i))) * D (skip i0 i) k) = sm r (fun i => y i * D (skip i0 i) k) := sm_congr (fun i _ => by rw [if_neg (skip_ne i), un_skip])
        rw [e1]
        by_cases e : k = t
        · subst e
          have e2 : sm r (fun i => y i * D (skip i0 i) k) = S * D i0 k := by
            show _ = sm r _ * D i0 k
            rw [← sm_mul_r]
            exact sm_congr (fun i _ => by
              have : y i * (D (skip i0 i) k * b) * D i0 k = y i * D (skip i0 i) k * (D i0 k * b) := by grind
              rw [this, hb]; grind)
          rw [e2]; grind
        · have h3 := hs k (by omega)
          have e2 : sm r (fun i => y i * (D (skip i0 i) k - D (skip i0 i) t * b * D i0 k)) = sm r (fun i => y i * D (skip i0 i) k) + -(S * D i0 k) := by
            have : -(S * D i0 k) = sm r (fun i => (-(D i0 k)) * (y i * (D (skip i0 i) t * b))) := by
              rw [sm_mul]; show _ = -(D i0 k) * S; grind
            rw [this, ← sm_add]
            exact sm_congr (fun i _ => by grind)
          rw [e2] at h3
          grind
theorem Rref.le_of_span {n m r t : Nat} {A G : Nat → Nat → Fin p} {P : Nat → Nat} (h10 : (1 : Fin p) ≠ 0) (hinv : ∀ a : Fin p, a ≠ 0 → ∃ b, a * b = 1) (h : Rref n m A r P) (hG : ∀ i, i < r → Sp n t G (A i)) : r ≤ t := by
  rcases Nat.lt_or_ge t r with hlt | hge
  · exfalso
    have : ∀ i, ∃ d : Nat → Fin p, i < r → ∀ j, j < n → A i j = sm t (fun k => d k * G k j) := fun i => by
      by_cases hi : i < r
      · obtain ⟨d, hd⟩ := hG i hi
        exact ⟨d, fun _ => hd⟩
      · exact ⟨fun _ => 0, fun h => absurd h hi⟩
    obtain ⟨D, hD⟩ := Classical.axiomOfChoice this
    obtain ⟨y, ⟨i, hi, hy⟩, hs⟩ := nonzero_solution h10 hinv t r D hlt
    apply hy
    have hz : ∀ j, j < n → (0 : Fin p) = sm m (fun k => (if k < r then y k else 0) * A k j) := fun j hj => by
      rw [sm_cut h.le (fun k h1 h2 => by rw [if_neg (by omega)]; grind)]
      have e1 : sm r (fun k => (if k < r then y k else 0) * A k j) = sm r (fun k => sm t (fun q => y k * (D k q * G q j))) := sm_congr (fun k hk => by rw [if_pos hk, hD k hk j hj, sm_mul])
      rw [e1, sm_comm]
      refine (sm_zero (fun q hq => ?_)).symm
      have e2 : sm r (fun k => y k * (D k q * G q j)) = sm r (fun k => y k * D k q) * G q j := by rw [← sm_mul_r]; exact sm_congr (fun k _ => by grind)
      rw [e2, hs q hq]; grind
    have := h.coeff (v := fun _ => 0) hz hi
    rw [if_pos hi] at this
    exact this.symm
  · exact hge
end
section
variable {p : Nat} [NeZero p]
theorem skip_ne' (k i : Nat) : skip k i ≠ k := by unfold skip; split <;> omega
theorem sm_two {n : Nat} {f : Nat → Fin p} (a b : Nat) (ha : a < n) (hb : b < n) (hab : a ≠ b) (h : ∀ i, i < n → i ≠ a → i ≠ b → f i = 0) : sm n f = f a + f b := by
  obtain ⟨n, rfl⟩ : ∃ q, n = q + 1 := ⟨n - 1, by omega⟩
  rw [sm_skip a ha]
  congr 1
  have hb' : ∃ b', b' < n ∧ skip a b' = b := by
    rcases Nat.lt_or_ge b a with h | h
    · exact ⟨b, by omega, by unfold skip; rw [if_pos h]⟩
    · exact ⟨b - 1, by omega, by unfold skip; rw [if_neg (by omega)]; omega⟩
  obtain ⟨b', hb1, hb2⟩ := hb'
  rw [sm_one b' hb1 (fun i hi hne => h _ (by unfold skip; split <;> omega) (skip_ne' a i) (by
    intro e
    apply hne
    unfold skip at e hb2
    split at e <;> split at hb2 <;> omega)), hb2]
def sgn (i : Nat) : Fin p := if i % 2 = 0 then 1 else -1
theorem sgn_succ (i : Nat) : (sgn (i + 1) : Fin p) = - sgn i := by
  unfold sgn
  by_cases h : i % 2 = 0
  · rw [if_pos h, if_neg (by omega)]
  · rw [if_neg h, if_pos (by omega)]; grind
def det : Nat → (Nat → Nat → Fin p) → Fin p
  | 0, _ => 1
  | n + 1, M => sm (n + 1) (fun i => sgn i * M i 0 * det n (fun a b => M (skip i a) (b + 1)))
theorem det_congr {n : Nat} : ∀ {M N : Nat → Nat → Fin p}, (∀ i j, i < n → j < n → M i j = N i j) → det n M = det n N := by
  induction n with
  | zero => intro M N _; rfl
  | succ n ih =>
    intro M N h
    simp only [det]
    refine sm_congr (fun i hi => ?_)
    rw [h i 0 hi (by omega), ih (fun a b ha hb => h _ _ (by unfold skip; split <;> omega) (by omega))]
theorem det_linear {n : Nat} : ∀ {L M N : Nat → Nat → Fin p} (k : Nat) (x y : Fin p), k < n → (∀ i j, i ≠ k → L i j = M i j) → (∀ i j, i ≠ k → L i j = N i j) → (∀ j, L k j = x * M k j + y * N k j) → det n L = x * det n M + y * det n N := by
  induction n with
  | zero => intro L M N k x y hk; omega
  | succ n ih =>
    intro L M N k x y hk hM hN hL
    simp only [det]
    rw [← sm_mul, ← sm_mul, ← sm_add]
    refine sm_congr (fun i hi => ?_)
    by_cases e : i = k
    · subst e
      have e1 : det n (fun a b => L (skip i a) (b + 1)) = det n (fun a b => M (skip i a) (b + 1)) := det_congr (fun a b _ _ => hM _ _ (skip_ne' i a))
      have e2 : det n (fun a b => N (skip i a) (b + 1)) = det n (fun a b => M (skip i a) (b + 1)) := det_congr (fun a b _ _ => by rw [← hN _ _ (skip_ne' i a), hM _ _ (skip_ne' i a)])
      rw [e1, e2, hL]; grind
    · have hk' : ∃ k', k' < n ∧ skip i k' = k := by
        rcases Nat.lt_or_ge k i with h | h
        · exact ⟨k, by omega, by unfold skip; rw [if_pos h]⟩
        · exact ⟨k - 1, by omega, by unfold skip; rw [if_neg (by omega)]; omega⟩
      obtain ⟨k', h1, h2⟩ := hk'
      have hne : ∀ a, a ≠ k' → skip i a ≠ k := fun a ha e => by
        apply ha
        unfold skip at e h2
        split at e <;> split at h2 <;> omega
      rw [ih (L := fun a b => L (skip i a) (b + 1)) (M := fun a b => M (skip i a) (b + 1)) (N := fun a b => N (skip i a) (b + 1)) k' x y h1 (fun a b ha => hM _ _ (hne a ha)) (fun a b ha => hN _ _ (hne a ha)) (fun b => by rw [h2]; exact hL _)]
      rw [hM i 0 e, ← hN i 0 e, hM i 0 e]; grind
theorem det_adjacent {n : Nat} : ∀ {M : Nat → Nat → Fin p} (k : Nat), k + 1 < n → (∀ j, M k j = M (k + 1) j) → det n M = 0 := by
  induction n with
  | zero => intro M k hk; omega
  | succ n ih =>
    intro M k hk h
    simp only [det]
    rw [sm_two k (k + 1) (by omega) hk (by omega) (fun i hi h1 h2 => ?_)]
    · have e1 : det n (fun a b => M (skip (k + 1) a) (b + 1)) = det n (fun a b => M (skip k a) (b + 1)) := det_congr (fun a b _ _ => by
        unfold skip
        rcases Nat.lt_trichotomy a k with hlt | heq | hgt
        · rw [if_pos (by omega), if_pos hlt]
        · subst heq
          rw [if_pos (by omega), if_neg (by omega)]; exact h _
        · rw [if_neg (by omega), if_neg (by omega)])
      rw [e1, sgn_succ, ← h 0]; grind
    · rcases Nat.lt_or_ge i k with hlt | hge
      · rw [ih (M := fun a b => M (skip i a) (b + 1)) (k - 1) (by omega) (fun j => by
          unfold skip
          rw [if_neg (by omega), if_neg (by omega), show k - 1 + 1 = k by omega]; exact h _)]; grind
      · rw [ih (M := fun a b => M (skip i a) (b + 1)) k (by omega) (fun j => by
          unfold skip
          rw [if_pos (by omega), if_pos (by omega)]; exact h _)]; grind
def setRow (M : Nat → Nat → Fin p) (k : Nat) (v : Nat → Fin p) : Nat → Nat → Fin p := fun i j => if i = k then v j else M i j
omit [NeZero p] in
theorem setRow_at (M : Nat → Nat → Fin p) (k : Nat) (v : Nat → Fin p) (j : Nat) : setRow M k v k j = v j := by unfold setRow; rw [if_pos rfl]
omit [NeZero p] in
theorem setRow_ne (M : Nat → Nat → Fin p) {k i : Nat} (v : Nat → Fin p) (j : Nat) (h : i ≠ k) : setRow M k v i j = M i j := by unfold setRow; rw [if_neg h]
def swapRow (M : Nat → Nat → Fin p) (a b : Nat) : Nat → Nat → Fin p := fun i j => if i = a then M b j else if i = b then M a j else M i j
theorem det_swap_of {n : Nat} {a b : Nat} (ha : a < n) (hb : b < n) (hab : a ≠ b) (H : ∀ M : Nat → Nat → Fin p, (∀ j, M a j = M b j) → det n M = 0) (M : Nat → Nat → Fin p) : det n (swapRow M a b) = - det n M := by
  let u := M a
  let v := M b
  let X : (Nat → Fin p) → (Nat → Fin p) → Nat → Nat → Fin p := fun s t => setRow (setRow M a s) b t
  have hXa : ∀ s t j, X s t a j = s j := fun s t j => by show setRow _ _ _ _ _ = _; rw [setRow_ne _ _ _ hab, setRow_at]
  have hXb : ∀ s t j, X s t b j = t j := fun s t j => setRow_at _ _ _ _
  have hXo : ∀ s t i j, i ≠ a → i ≠ b → X s t i j = M i j := fun s t i j h1 h2 => by show setRow _ _ _ _ _ = _; rw [setRow_ne _ _ _ h2, setRow_ne _ _ _ h1]
  have z : ∀ s, det n (X s s) = 0 := fun s => H _ (fun j => by rw [hXa, hXb])
  have l1 : ∀ s s' t, det n (X (fun j => s j + s' j) t) = det n (X s t) + det n (X s' t) := fun s s' t => by
    rw [det_linear (L := X (fun j => s j + s' j) t) (M := X s t) (N := X s' t) a 1 1 ha ?_ ?_ ?_]
    · grind
    · intro i j hi
      by_cases e : i = b
      · subst e; rw [hXb, hXb]
      · rw [hXo _ _ _ _ hi e, hXo _ _ _ _ hi e]
    · intro i j hi
      by_cases e : i = b
      · subst e; rw [hXb, hXb]
      · rw [hXo _ _ _ _ hi e, hXo _ _ _ _ hi e]
    · intro j; rw [hXa, hXa, hXa]; grind
  have l2 : ∀ s t t', det n (X s (fun j => t j + t' j)) = det n (X s t) + det n (X s t') := fun s t t' => by
    rw [det_linear (L := X s (fun j => t j + t' j)) (M := X s t) (N := X s t') b 1 1 hb ?_ ?_ ?_]
    · grind
    · intro i j hi
      by_cases e : i = a
      · subst e; rw [hXa, hXa]
      · rw [hXo _ _ _ _ e hi, hXo _ _ _ _ e hi]
    · intro i j hi
      by_cases e : i = a
      · subst e; rw [hXa, hXa]
      · rw [hXo _ _ _ _ e hi, hXo _ _ _ _ e hi]
    · intro j; rw [hXb, hXb, hXb]; grind
  have h0 := z (fun j => u j + v j)
  rw [l1, l2, l2, z, z] at h0
  have e1 : det n (X u v) = det n M := det_congr (fun i j _ _ => by
    by_cases e : i = a
    · subst e; rw [hXa]
    · by_cases e2 : i = b
      · subst e2; rw [hXb]
      · rw [hXo _ _ _ _ e e2])
  have e2 : det n (X v u) = det n (swapRow M a b) := det_congr (fun i j _ _ => by
    unfold swapRow
    by_cases e : i = a
    · subst e; rw [hXa, if_pos rfl]
    · by_cases e2 : i = b
      · subst e2; rw [hXb, if_neg e, if_pos rfl]
      · rw [hXo _ _ _ _ e e2, if_neg e, if_neg e2])
  rw [e1, e2] at h0
  grind
theorem det_equal_rows {n : Nat} (d : Nat) : ∀ {M : Nat → Nat → Fin p} (a : Nat), a + d + 1 < n → (∀ j, M a j = M (a + d + 1) j) → det n M = 0 := by
  induction d with
  | zero => exact fun a h e => det_adjacent a h e
  | succ d ih =>
    intro M a h e
    have h1 := det_swap_of (a := a + d + 1) (b := a + d + 2) (n := n) (by omega) (by omega) (by omega) (fun N hN => det_adjacent (a + d + 1) (by omega) hN) M
    have h2 : det n (swapRow M (a + d + 1) (a + d + 2)) = 0 := ih a (by omega) (fun j => by
      unfold swapRow
      rw [if_neg (by omega), if_neg (by omega), if_pos rfl]; exact e j)
    rw [h2] at h1
    grind
theorem det_equal {n : Nat} {M : Nat → Nat → Fin p} {a b : Nat} (ha : a < n) (hb : b < n) (hab : a ≠ b) (h : ∀ j, M a j = M b j) : det n M = 0 := by
  rcases Nat.lt_or_gt_of_ne hab with hlt | hgt
  · exact det_equal_rows (b - a - 1) a (by omega) (fun j => by rw [show a + (b - a - 1) + 1 = b by omega]; exact h j)
  · exact det_equal_rows (a - b - 1) b (by omega) (fun j => by rw [show b + (a - b - 1) + 1 = a by omega]; exact (h j).symm)
theorem det_swap {n : Nat} {a b : Nat} (ha : a < n) (hb : b < n) (hab : a ≠ b) (M : Nat → Nat → Fin p) : det n (swapRow M a b) = - det n M := det_swap_of ha hb hab (fun _ h => det_equal ha hb hab h) M
theorem det_scale {n : Nat} {k : Nat} (hk : k < n) (x : Fin p) (M : Nat → Nat → Fin p) : det n (setRow M k (fun j => x * M k j)) = x * det n M := by
  rw [det_linear (M := M) (N := M) k x 0 hk (fun i j h => setRow_ne _ _ _ h) (fun i j h => setRow_ne _ _ _ h) (fun j => by rw [setRow_at]; grind)]; grind
theorem det_add {n : Nat} {k t : Nat} (hk : k < n) (ht : t < n) (hkt : k ≠ t) (x : Fin p) (M : Nat → Nat → Fin p) : det n (setRow M k (fun j => M k j + x * M t j)) = det n M := by
  rw [det_linear (M := M) (N := setRow M k (M t)) k 1 x hk (fun i j h => setRow_ne _ _ _ h) (fun i j h => by rw [setRow_ne _ _ _ h, setRow_ne _ _ _ h]) (fun j => by rw [setRow_at, setRow_at]; grind),
    det_equal (M := setRow M k (M t)) hk ht hkt (fun j => by rw [setRow_at, setRow_ne _ _ _ (Ne.symm hkt)])]; grind
theorem det_zero_row {n : Nat} {k : Nat} (hk : k < n) (M : Nat → Nat → Fin p) (h : ∀ j, j < n → M k j = 0) : det n M = 0 := by
  have e : det n M = det n (setRow M k (fun j => 0 * M k j)) := det_congr (fun i j _ hj => by
    unfold setRow
    split
    · rename_i e; subst e; rw [h j hj]; grind
    · rfl)
  rw [e, det_scale hk]; grind
def idM : Nat → Nat → Fin p := fun i j => if i = j then 1 else 0
theorem det_id (n : Nat) : det n (idM : Nat → Nat → Fin p) = 1 := by
  induction n with
  | zero => rfl
  | succ n ih =>
    simp only [det]
    rw [sm_one 0 (by omega) (fun i _ hi => by unfold idM; rw [if_neg hi]; grind)]
    have : det n (fun a b => (idM (skip 0 a) (b + 1) : Fin p)) = det n idM := det_congr (fun a b _ _ => by unfold idM skip; simp)
    rw [this, ih]
    unfold idM sgn
    simp only [Nat.zero_mod, if_true]
    grind
/-! ### Products -/
def mulM (n : Nat) (A N : Nat → Nat → Fin p) : Nat → Nat → Fin p := fun i j => sm n (fun k => A i k * N k j)
theorem mulM_id_right {n : Nat} (A : Nat → Nat → Fin p) {i j : Nat} (hj : j < n) : mulM n A idM i j = A i j := by
  unfold mulM
  rw [sm_one j hj (fun k _ hk => by unfold idM; rw [if_neg hk]; grind)]
  unfold idM; rw [if_pos rfl]; grind
theorem mulM_id_left {n : Nat} (N : Nat → Nat → Fin p) {i j : Nat} (hi : i < n) : mulM n idM N i j = N i j := by
  unfold mulM
  rw [sm_one i hi (fun k _ hk => by unfold idM; rw [if_neg (Ne.symm hk)]; grind)]
  unfold idM; rw [if_pos rfl]; grind
def Ops (n : Nat) (A B : Nat → Nat → Fin p) (d : Fin p) : Prop := ∀ N, det n (mulM n A N) = d * det n (mulM n B N)
theorem Ops.refl (n : Nat) (A : Nat → Nat → Fin p) : Ops n A A 1 := fun N => by grind
theorem Ops.trans {n : Nat} {A B C : Nat → Nat → Fin p} {d e : Fin p} (h : Ops n A B d) (k : Ops n B C e) : Ops n A C (d * e) := fun N => by rw [h N, k N]; grind
theorem Ops.congr {n : Nat} {A B C : Nat → Nat → Fin p} {d : Fin p} (h : Ops n A B d) (e : ∀ i j, i < n → j < n → C i j = B i j) : Ops n A C d := fun N => by
  rw [h N]
  congr 1
  exact det_congr (fun i j hi _ => sm_congr (fun k hk => by rw [e i k hi hk]))
theorem Ops.swap {n : Nat} {a b : Nat} (ha : a < n) (hb : b < n) (hab : a ≠ b) (A : Nat → Nat → Fin p) : Ops n A (swapRow A a b) (-1) := fun N => by
  have e : det n (mulM n (swapRow A a b) N) = det n (swapRow (mulM n A N) a b) := det_congr (fun i j _ _ => by
    unfold mulM swapRow
    split
    · rfl
    · split
      · rfl
      · rfl)
  rw [e, det_swap ha hb hab]; grind
theorem mulM_setRow (n : Nat) (A N : Nat → Nat → Fin p) (k : Nat) (v : Nat → Fin p) (i j : Nat) : mulM n (setRow A k v) N i j = setRow (mulM n A N) k (fun j => sm n (fun q => v q * N q j)) i j := by
  by_cases e : i = k
  · subst e
    rw [setRow_at]
    exact sm_congr (fun q _ => by rw [setRow_at])
  · rw [setRow_ne _ _ _ e]
    exact sm_congr (fun q _ => by rw [setRow_ne _ _ _ e])
theorem Ops.scale {n : Nat} {k : Nat} (hk : k < n) (x y : Fin p) (hxy : x * y = 1) (A : Nat → Nat → Fin p) : Ops n A (setRow A k (fun j => y * A k j)) x := fun N => by
  have e : det n (mulM n (setRow A k (fun j => y * A k j)) N) = det n (setRow (mulM n A N) k (fun j => y * mulM n A N k j)) := det_congr (fun i j _ _ => by
    rw [mulM_setRow]
    have : (fun j => sm n (fun q => y * A k q * N q j)) = (fun j => y * mulM n A N k j) := funext fun j => by
      unfold mulM
      rw [← sm_mul]
      exact sm_congr (fun q _ => by grind)
    rw [this])
  rw [e, det_scale hk]
  have : x * (y * det n (mulM n A N)) = (x * y) * det n (mulM n A N) := by grind
  rw [this, hxy]; grind
theorem Ops.add {n : Nat} {k t : Nat} (hk : k < n) (ht : t < n) (hkt : k ≠ t) (x : Fin p) (A : Nat → Nat → Fin p) : Ops n A (setRow A k (fun j => A k j + x * A t j)) 1 := fun N => by
  have e : det n (mulM n (setRow A k (fun j => A k j + x * A t j)) N) = det n (setRow (mulM n A N) k (fun j => mulM n A N k j + x * mulM n A N t j)) := det_congr (fun i j _ _ => by
    rw [mulM_setRow]
    have : (fun j => sm n (fun q => (A k q + x * A t q) * N q j)) = (fun j => mulM n A N k j + x * mulM n A N t j) := funext fun j => by
      unfold mulM
      rw [← sm_mul, ← sm_add]
      exact sm_congr (fun q _ => by grind)
    rw [this])
  rw [e, det_add hk ht hkt]; grind
theorem Ops.det {n : Nat} {A B : Nat → Nat → Fin p} {d : Fin p} (h : Ops n A B d) : det n A = d * det n B := by
  have h1 := h idM
  rwa [det_congr (N := A) (fun i j _ hj => mulM_id_right A hj), det_congr (N := B) (fun i j _ hj => mulM_id_right B hj)] at h1
theorem det_mul_of {n : Nat} {A B : Nat → Nat → Fin p} {d : Fin p} (h : Ops n A B d) (hB : (∀ i j, i < n → j < n → B i j = idM i j) ∨ ∃ k, k < n ∧ ∀ j, j < n → B k j = 0) (N : Nat → Nat → Fin p) : Lin.det n (mulM n A N) = Lin.det n A * Lin.det n N := by
  rw [h N, h.det]
  rcases hB with hB | ⟨k, hk, hB⟩
  · have e1 : Lin.det n (mulM n B N) = Lin.det n N := det_congr (fun i j hi _ => by
      rw [← mulM_id_left N hi]
      exact sm_congr (fun q hq => by rw [hB i q hi hq]))
    have e2 : Lin.det n B = 1 := by rw [← det_id n]; exact det_congr hB
    rw [e1, e2]; grind
  · rw [det_zero_row hk (mulM n B N) (fun j _ => sm_zero (fun q hq => by rw [hB q hq]; grind)), det_zero_row hk B hB]; grind
end
section
variable {p : Nat} [NeZero p]
/-! ### A step of the elimination -/
structure Part (n m c : Nat) (A : Nat → Nat → Fin p) (r : Nat) (P : Nat → Nat) : Prop where
  le : r ≤ m
  lt : ∀ i, i < r → P i < c
  inc : ∀ i k, i < k → k < r → P i < P k
  one : ∀ i, i < r → A i (P i) = 1
  col : ∀ i k, i < r → k < m → k ≠ i → A k (P i) = 0
  before : ∀ i j, i < r → j < P i → A i j = 0
  rest : ∀ i j, r ≤ i → i < m → j < c → A i j = 0
theorem Part.start (n m : Nat) (A : Nat → Nat → Fin p) (P : Nat → Nat) : Part n m 0 A 0 P :=
  ⟨Nat.zero_le _, fun i h => by omega, fun i k _ h => by omega, fun i h => by omega, fun i k h => by omega, fun i j h => by omega, fun i j _ _ h => by omega⟩
theorem Part.rref {n m r : Nat} {A : Nat → Nat → Fin p} {P : Nat → Nat} (h : Part n m n A r P) : Rref n m A r P := ⟨h.le, h.lt, h.inc, h.one, h.col, h.before, h.rest⟩
theorem Part.pass {n m c r : Nat} {A : Nat → Nat → Fin p} {P : Nat → Nat} (h : Part n m c A r P) (hz : ∀ i, r ≤ i → i < m → A i c = 0) : Part n m (c + 1) A r P :=
  ⟨h.le, fun i hi => by have := h.lt i hi; omega, h.inc, h.one, h.col, h.before, fun i j h1 h2 h3 => by
    by_cases e : j = c
    · subst e; exact hz i h1 h2
    · exact h.rest i j h1 h2 (by omega)⟩
structure Stepped (n m c r q : Nat) (u : Fin p) (A B : Nat → Nat → Fin p) : Prop where
  hr : r ≤ q
  hq : q < m
  hu : A q c * u = 1
  at_ : ∀ j, j < n → B r j = u * A q j
  other : ∀ i j, i < m → i ≠ r → j < n → B i j = (if i = q then A r j else A i j) + -(if i = q then A r c else A i c) * B r j
theorem Part.step {n m c r q : Nat} {u : Fin p} {A B : Nat → Nat → Fin p} {P : Nat → Nat} (h : Part n m c A r P) (hc : c < n) (s : Stepped n m c r q u A B) :
    Part n m (c + 1) B (r + 1) (fun i => if i = r then c else P i) := by
  have hrq := s.hr
  have hqm := s.hq
  have hBr : ∀ j, j < c → B r j = 0 := fun j hj => by rw [s.at_ j (by omega), h.rest q j s.hr s.hq hj]; grind
  have hBrc : B r c = 1 := by rw [s.at_ c hc, ← s.hu]; grind
  have hlow : ∀ i j, i < m → i ≠ r → j < c → B i j = if i = q then A r j else A i j := fun i j hi hne hj => by
    rw [s.other i j hi hne (by omega), hBr j hj]; grind
  refine ⟨by have := h.le; omega, fun i hi => ?_, fun i k h1 h2 => ?_, fun i hi => ?_, fun i k hi hk hne => ?_, fun i j hi hj => ?_, fun i j h1 h2 h3 => ?_⟩
  · split
    · omega
    · have := h.lt i (by omega); omega
  · rw [if_neg (show ¬ i = r by omega)]
    split
    · exact h.lt i (by omega)
    · exact h.inc i k h1 (by omega)
  · by_cases e : i = r
    · subst e; rw [if_pos rfl]; exact hBrc
    · rw [if_neg e, hlow i _ (by omega) e (h.lt i (by omega)), if_neg (by omega)]
      exact h.one i (by omega)
  · by_cases e : i = r
    · subst e
      rw [if_pos rfl, s.other k c hk hne hc, hBrc]; grind
    · rw [if_neg e]
      have hlt := h.lt i (by omega)
      by_cases e2 : k = r
      · subst e2; exact hBr _ hlt
      · rw [hlow k _ hk e2 hlt]
        split
        · exact h.col i r (by omega) (by omega) (by omega)
        · exact h.col i k (by omega) hk hne
  · by_cases e : i = r
    · subst e
      rw [if_pos rfl] at hj
      exact hBr j hj
    · rw [if_neg e] at hj
      have hlt := h.lt i (by omega)
      rw [hlow i j (by omega) e (by omega), if_neg (by omega)]
      exact h.before i j (by omega) hj
  · by_cases e : j = c
    · subst e
      rw [s.other i j h2 (by omega) hc, hBrc]; grind
    · rw [hlow i j h2 (by omega) (by omega)]
      split
      · exact h.rest r j (Nat.le_refl _) (by omega) (by omega)
      · exact h.rest i j (by omega) h2 (by omega)
theorem Stepped.span {n m c r q : Nat} {u : Fin p} {A B : Nat → Nat → Fin p} (s : Stepped n m c r q u A B) : (∀ i, i < m → Sp n m A (B i)) ∧ ∀ i, i < m → Sp n m B (A i) := by
  have hr := s.hr
  have hq := s.hq
  have spr : Sp n m A (B r) := ((Sp.row (A := A) hq).mul u).congr (fun j hj => s.at_ j hj)
  have f : ∀ i, i < m → Sp n m A (B i) := fun i hi => by
    by_cases e : i = r
    · subst e; exact spr
    · have h1 : Sp n m A (A (if i = q then r else i)) := Sp.row (by split <;> omega)
      refine (h1.add (spr.mul (-(if i = q then A r c else A i c)))).congr (fun j hj => ?_)
      rw [s.other i j hi e hj]
      split <;> rfl
  refine ⟨f, fun i hi => ?_⟩
  have hBr : Sp n m B (B r) := Sp.row (by omega)
  have hAq : Sp n m B (A q) := (hBr.mul (A q c)).congr (fun j hj => by
    rw [s.at_ j hj]
    have h1 := s.hu
    have : A q c * (u * A q j) = (A q c * u) * A q j := by grind
    rw [this, h1]; grind)
  by_cases e : i = q
  · subst e; exact hAq
  · by_cases e2 : i = r
    · subst e2
      have h1 : Sp n m B (B q) := Sp.row hq
      refine (h1.add (hBr.mul (A i c))).congr (fun j hj => ?_)
      rw [s.other q j hq (by omega) hj, if_pos rfl, if_pos rfl]; grind
    · have h1 : Sp n m B (B i) := Sp.row hi
      refine (h1.add (hBr.mul (A i c))).congr (fun j hj => ?_)
      rw [s.other i j hi e2 hj, if_neg e, if_neg e]; grind
theorem Ops.add_all {n t : Nat} (ht : t < n) (x : Nat → Fin p) (A : Nat → Nat → Fin p) (k : Nat) : k ≤ n → Ops n A (fun i j => if i < k ∧ i ≠ t then A i j + x i * A t j else A i j) 1 := by
  induction k with
  | zero => exact fun _ => (Ops.refl n A).congr (fun i j _ _ => by rw [if_neg (by omega)])
  | succ k ih =>
    intro hk
    by_cases e : k = t
    · refine (ih (by omega)).congr (fun i j _ _ => ?_)
      by_cases h1 : i < k ∧ i ≠ t
      · rw [if_pos h1, if_pos (by omega)]
      · rw [if_neg h1, if_neg (by omega)]
    · have h1 := Ops.add (n := n) (k := k) (t := t) (by omega) ht e (x k) (fun i j => if i < k ∧ i ≠ t then A i j + x i * A t j else A i j)
      have h2 := (ih (by omega)).trans h1
      have e1 : (1 : Fin p) * 1 = 1 := by grind
      rw [e1] at h2
      refine h2.congr (fun i j _ _ => ?_)
      unfold setRow
      dsimp only
      by_cases ei : i = k
      · subst ei
        rw [if_pos rfl, if_neg (show ¬ (i < i ∧ i ≠ t) by omega), if_neg (show ¬ (t < i ∧ t ≠ t) by omega), if_pos (by omega)]
      · rw [if_neg ei]
        by_cases h3 : i < k ∧ i ≠ t
        · rw [if_pos h3, if_pos (by omega)]
        · rw [if_neg h3, if_neg (by omega)]
theorem Stepped.ops {n c r q : Nat} {u : Fin p} {A B : Nat → Nat → Fin p} (s : Stepped n n c r q u A B) : Ops n A B ((if q = r then 1 else -1) * A q c) := by
  have hr := s.hr
  have hq := s.hq
  have h1 : Ops n A (swapRow A r q) (if q = r then 1 else -1) := by
    by_cases e : q = r
    · rw [if_pos e]
      refine (Ops.refl n A).congr (fun i j _ _ => ?_)
      unfold swapRow
      subst e
      split
      · rename_i e2; subst e2; rfl
      · rfl
    · rw [if_neg e]
      exact Ops.swap (by omega) hq (by omega) A
  have h2 := Ops.scale (n := n) (k := r) (by omega) (A q c) u s.hu (swapRow A r q)
  have h3 := Ops.add_all (n := n) (t := r) (by omega) (fun i => -(if i = q then A r c else A i c)) (setRow (swapRow A r q) r (fun j => u * swapRow A r q r j)) n (Nat.le_refl _)
  have h4 := (h1.trans h2).trans h3
  have e1 : (if q = r then 1 else -1) * A q c * 1 = (if q = r then 1 else -1) * A q c := by grind
  rw [e1] at h4
  have hrow : ∀ j, setRow (swapRow A r q) r (fun j => u * swapRow A r q r j) r j = u * A q j := fun j => by
    rw [setRow_at]; unfold swapRow; rw [if_pos rfl]
  refine h4.congr (fun i j hi hj => ?_)
  by_cases e : i = r
  · subst e
    rw [if_neg (by omega), hrow, s.at_ j hj]
  · rw [if_pos ⟨hi, e⟩, hrow, setRow_ne _ _ _ e, s.other i j hi e hj, s.at_ j hj]
    unfold swapRow
    rw [if_neg e]
/-! ### What follows of a reduced form -/
def Same (n m m' : Nat) (A B : Nat → Nat → Fin p) : Prop := (∀ i, i < m → Sp n m' B (A i)) ∧ ∀ i, i < m' → Sp n m A (B i)
theorem Same.refl (n m : Nat) (A : Nat → Nat → Fin p) : Same n m m A A := ⟨fun _ h => Sp.row h, fun _ h => Sp.row h⟩
theorem Same.symm {n m m' : Nat} {A B : Nat → Nat → Fin p} (h : Same n m m' A B) : Same n m' m B A := ⟨h.2, h.1⟩
theorem Same.trans {n m m' m'' : Nat} {A B C : Nat → Nat → Fin p} (h : Same n m m' A B) (k : Same n m' m'' B C) : Same n m m'' A C :=
  ⟨fun i hi => (h.1 i hi).trans k.1, fun i hi => (k.2 i hi).trans h.2⟩
theorem Stepped.same {n m c r q : Nat} {u : Fin p} {A B : Nat → Nat → Fin p} (s : Stepped n m c r q u A B) : Same n m m A B := ⟨s.span.2, s.span.1⟩
theorem Rref.full {n : Nat} {A : Nat → Nat → Fin p} {P : Nat → Nat} (h : Rref n n A n P) : (∀ i, i < n → P i = i) ∧ ∀ i j, i < n → j < n → A i j = idM i j := by
  have ge : ∀ i, i < n → i ≤ P i := fun i => by
    induction i with
    | zero => exact fun _ => Nat.zero_le _
    | succ i ih =>
      intro hi
      have h1 := ih (by omega)
      have h2 := h.inc i (i + 1) (by omega) hi
      omega
  have le : ∀ d i, i < n → n - 1 - i = d → P i ≤ i := fun d => by
    induction d with
    | zero => exact fun i hi e => by have := h.lt i hi; omega
    | succ d ih =>
      intro i hi e
      have h1 := ih (i + 1) (by omega) (by omega)
      have h2 := h.inc i (i + 1) (by omega) (by omega)
      omega
  have hP : ∀ i, i < n → P i = i := fun i hi => Nat.le_antisymm (le _ i hi rfl) (ge i hi)
  refine ⟨hP, fun i j hi hj => ?_⟩
  unfold idM
  by_cases e : i = j
  · subst e
    have := h.one i hi
    rw [hP i hi] at this
    rw [if_pos rfl]; exact this
  · have := h.col j i hj hi e
    rw [hP j hj] at this
    rw [if_neg e]; exact this
theorem Rref.unit_or_zero {n r : Nat} {A : Nat → Nat → Fin p} {P : Nat → Nat} (h : Rref n n A r P) : (r = n ∧ ∀ i j, i < n → j < n → A i j = idM i j) ∨ (r < n ∧ ∃ k, k < n ∧ ∀ j, j < n → A k j = 0) := by
  rcases Nat.eq_or_lt_of_le h.le with e | e
  · subst e; exact .inl ⟨rfl, h.full.2⟩
  · exact .inr ⟨e, r, e, fun j hj => h.rest r j (Nat.le_refl _) e hj⟩
end
/-! ### Numbers and numbers modulo p -/
def phi (p : Nat) [NeZero p] (x : Int) : Fin p := ⟨(x % p).toNat, by have := NeZero.ne p; have := Int.emod_lt_of_pos x (show (0:Int) < p by omega); have := Int.emod_nonneg x (show (p:Int) ≠ 0 by omega); omega⟩
theorem fin_ext {p : Nat} {a b : Fin p} (h : (a.val : Int) = b.val) : a = b := Fin.ext (by omega)
section
variable {p : Nat} [NeZero p]
theorem phi_val (x : Int) : ((phi p x).val : Int) = x % p := by
  have := NeZero.ne p; have := Int.emod_nonneg x (show (p:Int) ≠ 0 by omega); simp [phi]; omega
theorem phi_emod (x : Int) : phi p (x % p) = phi p x := fin_ext (by rw [phi_val, phi_val, Int.emod_emod_of_dvd _ (Int.dvd_refl _)])
theorem phi_add (x y : Int) : phi p (x + y) = phi p x + phi p y :=
  fin_ext (by rw [Fin.val_add, phi_val, Int.natCast_emod, Int.natCast_add, phi_val, phi_val, ← Int.add_emod])
theorem phi_mul (x y : Int) : phi p (x * y) = phi p x * phi p y :=
  fin_ext (by rw [Fin.val_mul, phi_val, Int.natCast_emod, Int.natCast_mul, phi_val, phi_val, ← Int.mul_emod])
theorem phi_zero : phi p 0 = 0 := fin_ext (by rw [phi_val]; simp)
theorem phi_one : phi p 1 = 1 := fin_ext (by rw [phi_val]; show (1 : Int) % p = ((1 % p : Nat) : Int); simp)
theorem phi_neg (x : Int) : phi p (-x) = -(phi p x) := by
  have h : phi p (x + -x) = phi p x + phi p (-x) := phi_add x (-x)
  rw [Int.add_right_neg, phi_zero] at h
  grind
theorem phi_sub (x y : Int) : phi p (x - y) = phi p x - phi p y := by
  rw [Int.sub_eq_add_neg, phi_add, phi_neg]; grind
theorem phi_p : phi p (p : Int) = 0 := fin_ext (by rw [phi_val]; simp)
theorem phi_eq {x y : Int} : phi p x = phi p y ↔ x % p = y % p := by
  constructor
  · intro h; rw [← phi_val, ← phi_val, h]
  · intro h; rw [← phi_emod x, h, phi_emod]
theorem phi_inj {x y : Int} (hx : 0 ≤ x) (hx' : x < p) (hy : 0 ≤ y) (hy' : y < p) (h : phi p x = phi p y) : x = y := by
  have := phi_eq.mp h
  rwa [Int.emod_eq_of_lt hx hx', Int.emod_eq_of_lt hy hy'] at this
theorem phi_zero_iff {x : Int} (hx : 0 ≤ x) (hx' : x < p) : phi p x = 0 ↔ x = 0 := by
  constructor
  · intro h
    exact phi_inj hx hx' (Int.le_refl 0) (by have := NeZero.ne p; omega) (by rw [h, phi_zero])
  · intro h; rw [h, phi_zero]
end
theorem inv_table : ∀ p, p ∈ primes251 → ∀ a, a < p → 0 < a → (a * (a ^ (p - 2) % p)) % p = 1 := by decide +kernel
theorem pinv_tells {p a : Int} (hp : isP p = true) (h0 : 0 < a) (h1 : a < p) : (a * pinv p a) % p = 1 := by
  have hp2 := isP_ge hp
  obtain ⟨q, rfl⟩ := Int.eq_ofNat_of_zero_le (show 0 ≤ p by omega)
  obtain ⟨b, rfl⟩ := Int.eq_ofNat_of_zero_le (show 0 ≤ a by omega)
  have hm : q ∈ primes251 := by unfold isP at hp; simp at hp; exact hp.2
  have h := inv_table q hm b (by omega) (by omega)
  have e : ((q : Int) - 2).toNat = q - 2 := by omega
  unfold pinv
  rw [e]
  have h2 : (((b * (b ^ (q - 2) % q)) % q : Nat) : Int) = ((1 : Nat) : Int) := by rw [h]
  simp only [Int.natCast_emod, Int.natCast_mul, Int.natCast_pow] at h2
  exact h2
def fm (p : Nat) [NeZero p] (rows : List (List Int)) : Nat → Nat → Fin p := fun i j => phi p (cell rows i j)
theorem clear_phi {p : Nat} [NeZero p] {n c : Nat} {q r : List Int} (hq : q.length = n) (hr : r.length = n) {j : Nat} (hj : j < n) : phi p ((clearRow p c q r).getD j 0) = phi p (r.getD j 0) + -(phi p (r.getD c 0)) * phi p (q.getD j 0) := by
  unfold clearRow
  split
  · rename_i h; rw [h, phi_zero]; grind
  · rw [addRow_getD (by omega) (by omega), phi_emod, phi_add, phi_mul, phi_sub, phi_p]; grind
theorem elimStep_some {p : Nat} [NeZero p] {n c k : Nat} {rows : List (List Int)} {piv : List Int} {d : Int} (hp : isP p = true) (hok : RowsOk p n rows) (h : findPivot rows piv.length c = some k) :
    RowsOk p n (elimStep p (rows, piv, d) c).1 ∧ (elimStep p (rows, piv, d) c).1.length = rows.length ∧ (elimStep p (rows, piv, d) c).2.1 = piv ++ [(c : Int)] ∧
    (elimStep p (rows, piv, d) c).2.2 = (if k = 0 then d else -d % p) * cell rows (piv.length + k) c % p ∧
    Stepped n rows.length c piv.length (piv.length + k) (phi p (pinv p (cell rows (piv.length + k) c))) (fm p rows) (fm p (elimStep p (rows, piv, d) c).1) := by
  obtain ⟨hlt, hne⟩ := findPivot_some h
  have hp2 := isP_ge hp
  unfold elimStep
  dsimp only
  rw [h]
  dsimp only
  generalize ht : piv.length = top at *
  generalize hrows : (if k = 0 then rows else swapRows rows top (top + k)) = R at *
  have hlen : R.length = rows.length := by
    rw [← hrows]; split
    · rfl
    · exact swapRows_length _ _ _
  have hokR : RowsOk p n R := by
    rw [← hrows]; split
    · exact hok
    · exact hok.swap (by omega) hlt
  have hget : ∀ i, R.getD i [] = if i = top + k then rows.getD top [] else if i = top then rows.getD (top + k) [] else rows.getD i [] := fun i => by
    rw [← hrows]
    by_cases e : k = 0
    · subst e
      rw [if_pos rfl]
      by_cases e2 : i = top
      · subst e2; simp
      · simp [e2]
    · rw [if_neg e]
      exact swapRows_get rows (by omega) hlt i
  have htop : R.getD top [] = rows.getD (top + k) [] := by
    rw [hget]
    by_cases e : k = 0
    · subst e; simp
    · rw [if_neg (by omega), if_pos rfl]
  have hlead : cell R top c = cell rows (top + k) c := by unfold cell; rw [htop]
  rw [hlead]
  generalize hL : cell rows (top + k) c = L at *
  have hLr := hok.cell (p := p) (by omega) (top + k) c
  rw [hL] at hLr
  have hq : RowOk p n ((R.getD top []).map (fun x => pinv p L * x % p)) := scale_ok _ (by omega) (hokR _ (getD_mem (by omega))).1
  generalize hQ : (R.getD top []).map (fun x => pinv p L * x % p) = Q at *
  have hQj : ∀ j, j < n → Q.getD j 0 = pinv p L * (rows.getD (top + k) []).getD j 0 % p := fun j hj => by
    rw [← hQ, htop]
    have hl : j < (rows.getD (top + k) []).length := by rw [(hok _ (getD_mem hlt)).1]; exact hj
    rw [List.getD_eq_getElem?_getD, List.getElem?_map, List.getD_eq_getElem?_getD (l := rows.getD (top + k) []), List.getElem?_eq_getElem hl]
    rfl
  have hok2 : RowsOk p n (R.set top Q) := hokR.set hq top
  have hl2 : (R.set top Q).length = rows.length := by rw [List.length_set, hlen]
  refine ⟨hok2.clear (by omega) hq.1 c top, by rw [clearAll_length, hl2], rfl, rfl, ?_⟩
  refine ⟨by omega, hlt, ?_, fun j hj => ?_, fun i j hi hne' hj => ?_⟩
  · show phi p (cell rows (top + k) c) * phi p (pinv p L) = 1
    rw [hL, ← phi_mul, ← phi_emod, pinv_tells hp (by omega) (by omega), phi_one]
  · show phi p ((clearAll _ c top Q (R.set top Q)).getD top [] |>.getD j 0) = _
    rw [clearAll_get (by omega), if_pos rfl, getD_set _ _ _ _ (by omega), if_pos rfl, hQj j hj, phi_emod, phi_mul]
    rfl
  · show phi p ((clearAll _ c top Q (R.set top Q)).getD i [] |>.getD j 0) = _ + _ * phi p ((clearAll _ c top Q (R.set top Q)).getD top [] |>.getD j 0)
    rw [clearAll_get (by omega), if_neg hne', clearAll_get (by omega), if_pos rfl, getD_set _ _ _ _ (by omega), if_neg hne', getD_set _ _ _ _ (by omega), if_pos rfl]
    rw [clear_phi hq.1 (hokR _ (getD_mem (by omega))).1 hj, hget i]
    unfold fm cell
    split
    · rfl
    · rfl
def pivList (P : Nat → Nat) (r : Nat) : List Int := (List.range r).map (fun i => (P i : Int))
theorem pivList_length (P : Nat → Nat) (r : Nat) : (pivList P r).length = r := by unfold pivList; simp
theorem pivList_snoc (P : Nat → Nat) (r c : Nat) : pivList P r ++ [(c : Int)] = pivList (fun i => if i = r then c else P i) (r + 1) := by
  unfold pivList
  rw [List.range_succ, List.map_append]
  congr 1
  · refine List.map_congr_left (fun i hi => ?_)
    have := List.mem_range.mp hi
    dsimp only
    rw [if_neg (by omega)]
  · simp
theorem elimTo_tells {p : Nat} [NeZero p] {n : Nat} {rows : List (List Int)} (hp : isP p = true) (hok : RowsOk p n rows) (c : Nat) (hc : c ≤ n) :
    ∃ r P, RowsOk p n (elimTo p rows c).1 ∧ (elimTo p rows c).1.length = rows.length ∧ (elimTo p rows c).2.1 = pivList P r ∧ Part n rows.length c (fm p (elimTo p rows c).1) r P ∧
      Same n rows.length rows.length (fm p rows) (fm p (elimTo p rows c).1) ∧ (0 ≤ (elimTo p rows c).2.2 ∧ (elimTo p rows c).2.2 < p) ∧ r ≤ c ∧ (r < c → (elimTo p rows c).2.2 = 0) ∧
      (rows.length = n → ∃ d, Ops n (fm p rows) (fm p (elimTo p rows c).1) d ∧ (r = c → phi p (elimTo p rows c).2.2 = d)) := by
  have hp2 := isP_ge hp
  induction c with
  | zero =>
    refine ⟨0, fun _ => 0, hok, rfl, rfl, Part.start _ _ _ _, Same.refl _ _ _, ⟨by show (0:Int) ≤ 1; omega, by show (1:Int) < p; omega⟩, Nat.le_refl _, fun h => by omega, fun _ => ⟨1, Ops.refl _ _, fun _ => phi_one⟩⟩
  | succ c ih =>
    obtain ⟨r, P, h1, h2, h3, h4, h5, h6, h7, h8, h9⟩ := ih (by omega)
    rw [elimTo_succ]
    generalize hs : elimTo p rows c = s at *
    obtain ⟨R, piv, d⟩ := s
    dsimp only at *
    have hr : piv.length = r := by rw [h3, pivList_length]
    cases hf : findPivot R piv.length c with
    | none =>
      rw [elimStep_none hf]
      refine ⟨r, P, h1, h2, h3, h4.pass (fun i hi1 hi2 => ?_), h5, ⟨Int.le_refl 0, by show (0:Int) < p; omega⟩, by omega, fun _ => rfl, fun hsq => ?_⟩
      · show phi p (cell R i c) = 0
        rw [findPivot_none hf i (by omega) (by omega), phi_zero]
      · obtain ⟨d', hd, _⟩ := h9 hsq
        exact ⟨d', hd, fun h => by omega⟩
    | some k =>
      obtain ⟨g1, g2, g3, g4, g5⟩ := elimStep_some (d := d) hp h1 hf
      rw [hr] at g4 g5
      rw [h2] at g5
      generalize hs' : elimStep p (R, piv, d) c = s' at *
      obtain ⟨R', piv', d'⟩ := s'
      dsimp only at *
      refine ⟨r + 1, fun i => if i = r then c else P i, g1, by omega, by rw [g3, h3, pivList_snoc], h4.step (by omega) g5, h5.trans g5.same, ?_, by omega, fun h => ?_, fun hsq => ?_⟩
      · rw [g4]; exact ⟨Int.emod_nonneg _ (by omega), Int.emod_lt_of_pos _ (by omega)⟩
      · rw [g4, h8 (by omega)]; simp
      · obtain ⟨e, he, hd⟩ := h9 hsq
        rw [hsq] at g5
        refine ⟨_, he.trans g5.ops, fun h => ?_⟩
        rw [g4, phi_emod, phi_mul, ← hd (by omega)]
        show _ = phi p d * (_ * phi p (cell R (r + k) c))
        by_cases ek : k = 0
        · rw [if_pos ek, if_pos (by omega)]; grind
        · rw [if_neg ek, if_neg (by omega), phi_emod, phi_neg]; grind
theorem isP_nat {p : Nat} (hp : isP (p : Int) = true) : 2 ≤ p ∧ p ≤ 251 := by have := isP_ge hp; omega
theorem one_ne {p : Nat} [NeZero p] (hp : isP (p : Int) = true) : (1 : Fin p) ≠ 0 := by
  have h := isP_nat hp
  intro e
  rw [← phi_one, phi_zero_iff (by omega) (by omega)] at e
  omega
theorem fin_phi {p : Nat} [NeZero p] (a : Fin p) : a = phi p (a.val : Int) := fin_ext (by rw [phi_val]; have := a.isLt; rw [Int.emod_eq_of_lt (by omega) (by omega)])
theorem fin_inv {p : Nat} [NeZero p] (hp : isP (p : Int) = true) : ∀ a : Fin p, a ≠ 0 → ∃ b, a * b = 1 := by
  intro a ha
  have h0 : 0 < a.val := by
    rcases Nat.eq_zero_or_pos a.val with h | h
    · exact absurd (fin_ext (by rw [h]; simp)) ha
    · exact h
  refine ⟨phi p (pinv p a.val), ?_⟩
  rw [fin_phi a, ← phi_mul, ← phi_one, phi_eq]
  have e := pinv_tells hp (a := (a.val : Int)) (by omega) (by have := a.isLt; omega)
  have e2 : ((phi p (a.val : Int)).val : Int) = a.val := by rw [← fin_phi a]
  rw [e2, e]
  have := isP_nat hp
  rw [Int.emod_eq_of_lt (by omega) (by omega)]
section
variable {p : Nat} [NeZero p] {n : Nat} {rows : List (List Int)}
theorem elim_all (hp : isP p = true) (hok : RowsOk p n rows) : ∃ r P, RowsOk p n (elim p n rows).1 ∧ (elim p n rows).1.length = rows.length ∧ (elim p n rows).2.1 = pivList P r ∧ Rref n rows.length (fm p (elim p n rows).1) r P ∧ Same n rows.length rows.length (fm p rows) (fm p (elim p n rows).1) := by
  obtain ⟨r, P, h1, h2, h3, h4, h5, _⟩ := elimTo_tells hp hok n (Nat.le_refl _)
  exact ⟨r, P, h1, h2, h3, h4.rref, h5⟩
end
section
variable {p : Nat} [NeZero p] {n : Nat} {rows wide : List (List Int)}
theorem rising {n : Nat} {P : Nat → Nat} (hlt : ∀ i, i < n → P i < n) (hinc : ∀ i k, i < k → k < n → P i < P k) : ∀ i, i < n → P i = i := by
  have ge : ∀ i, i < n → i ≤ P i := by
    intro i
    induction i with
    | zero => intro _; omega
    | succ i ih => intro h; have h1 := ih (by omega); have h2 := hinc i (i + 1) (by omega) h; omega
  have le : ∀ d i, n - i = d → i < n → P i ≤ i := by
    intro d
    induction d with
    | zero => intro i h1 h2; omega
    | succ d ih =>
      intro i h1 h2
      by_cases e : i + 1 < n
      · have h3 := ih (i + 1) (by omega) e; have h4 := hinc i (i + 1) (by omega) e; omega
      · have h3 := hlt i h2; omega
  intro i hi
  have := ge i hi; have := le (n - i) i rfl hi
  omega
theorem inv_full (hp : isP p = true) (hok : RowsOk p n rows) (hl : rows.length = n) (hokw : RowsOk p (n + n) wide) (hlw : wide.length = n) (hW : ∀ i j, i < n → j < n → cell wide i j = cell rows i j ∧ cell wide i (n + j) = if i = j then 1 else 0) (hr : (elim p n rows).2.1.length = n) :
    (∀ i j, i < n → j < n → cell (elim p (n + n) wide).1 i j = if i = j then 1 else 0) ∧ (∀ i j, i < n → j < n → sm n (fun k => fm p (elim p (n + n) wide).1 i (n + k) * fm p rows k j) = idM i j) ∧ ∀ i j, i < n → j < n → sm n (fun k => fm p rows i k * fm p (elim p (n + n) wide).1 k (n + j)) = idM i j := by
  have hpn := isP_nat hp
  obtain ⟨r, P, h1, h2, h3, h4, h5⟩ := elim_all hp hok
  obtain ⟨s, Q, k1, k2, k3, k4, k5⟩ := elim_all hp hokw
  rw [h3, pivList_length] at hr
  subst hr
  rw [hl] at h4 h5
  rw [hlw] at k4 k5
  have hfull := h4.full
  have wl : ∀ i j, i < r → j < r → fm p wide i j = fm p rows i j := fun i j hi hj => by unfold fm; rw [(hW i j hi hj).1]
  have wr : ∀ i j, i < r → j < r → fm p wide i (r + j) = idM i j := fun i j hi hj => by
    unfold fm idM; rw [(hW i j hi hj).2]
    by_cases e : i = j
    · rw [if_pos e, if_pos e, phi_one]
    · rw [if_neg e, if_neg e, phi_zero]
  have hQ : ∀ i, i < r → ∃ q, q < s ∧ Q q = i := fun i hi => by
    obtain ⟨c, hc⟩ := h5.2 i hi
    refine k4.lead (v := fun j => sm r (fun k => c k * fm p wide k j)) (Sp.trans (A := fm p wide) ⟨c, fun j _ => rfl⟩ k5.1) (k := i) (by omega) (fun j hj => ?_) ?_
    · show sm r (fun k => c k * fm p wide k j) = 0
      rw [sm_congr (fun k hk => by rw [wl k j hk (by omega)]), ← hc j (by omega), (hfull.2 i j hi (by omega))]
      unfold idM; rw [if_neg (by omega)]
    · show sm r (fun k => c k * fm p wide k i) ≠ 0
      rw [sm_congr (fun k hk => by rw [wl k i hk hi]), ← hc i hi, (hfull.2 i i hi hi)]
      unfold idM; rw [if_pos rfl]; exact one_ne hp
  have hge : ∀ q, q < s → q ≤ Q q := by
    intro q
    induction q with
    | zero => intro _; omega
    | succ q ih => intro h; have h1 := ih (by omega); have h2 := k4.inc q (q + 1) (by omega) h; omega
  have hQi : ∀ d i, i ≤ d → i < r → i < s ∧ Q i = i := by
    intro d
    induction d with
    | zero =>
      intro i hi hr
      obtain ⟨q, hq, e⟩ := hQ i hr
      have := hge q hq
      obtain rfl : q = i := by omega
      exact ⟨hq, e⟩
    | succ d ih =>
      intro i hi hr
      obtain ⟨q, hq, e⟩ := hQ i hr
      have := hge q hq
      rcases Nat.lt_or_ge q i with hlt | hge2
      · have := (ih q (by omega) (by omega)).2; omega
      · obtain rfl : q = i := by omega
        exact ⟨hq, e⟩
  have hf : ∀ i j, i < r → j < r → fm p (elim p (r + r) wide).1 i j = idM i j := fun i j hi hj => by
    have hj2 := hQi j j (Nat.le_refl _) hj
    unfold idM
    by_cases e : i = j
    · rw [if_pos e]; subst e
      have := k4.one i hj2.1
      rw [hj2.2] at this; exact this
    · rw [if_neg e]
      have := k4.col j i hj2.1 hi e
      rw [hj2.2] at this; exact this
  refine ⟨fun i j hi hj => ?_, fun i j hi hj => ?_, fun i j hi hj => ?_⟩
  · have c1 := k1.cell (by omega) i j
    have e := hf i j hi hj
    unfold idM at e
    by_cases eij : i = j
    · rw [if_pos eij] at e ⊢
      exact phi_inj c1.1 c1.2 (by omega) (by omega) (e.trans phi_one.symm)
    · rw [if_neg eij] at e ⊢
      exact phi_inj c1.1 c1.2 (by omega) (by omega) (e.trans phi_zero.symm)
  · obtain ⟨c, hc⟩ := k5.2 i hi
    have ec : ∀ k, k < r → fm p (elim p (r + r) wide).1 i (r + k) = c k := fun k hk => by
      rw [hc (r + k) (by omega), sm_one k hk (fun q hq hne => by rw [wr q k hq hk]; unfold idM; rw [if_neg hne]; grind), wr k k hk hk]
      unfold idM; rw [if_pos rfl]; grind
    rw [sm_congr (fun k hk => by rw [ec k hk, ← wl k j hk hj]), ← hc j (by omega)]
    exact hf i j hi hj
  · obtain ⟨d, hd⟩ := k5.1 i hi
    have ed : ∀ k, k < r → fm p rows i k = d k := fun k hk => by
      rw [← wl i k hi hk, hd k (by omega), sm_one k hk (fun q hq hne => by rw [hf q k hq hk]; unfold idM; rw [if_neg hne]; grind), hf k k hk hk]
      unfold idM; rw [if_pos rfl]; grind
    rw [sm_congr (fun k hk => by rw [ed k hk]), ← hd (r + j) (by omega)]
    exact wr i j hi hj
theorem inv_diag (hp : isP p = true) (hok : RowsOk p n rows) (hl : rows.length = n) (hokw : RowsOk p (n + n) wide) (hlw : wide.length = n) (hW : ∀ i j, i < n → j < n → cell wide i j = cell rows i j ∧ cell wide i (n + j) = if i = j then 1 else 0) (hd : ∀ i, i < n → cell (elim p (n + n) wide).1 i i = 1) : (elim p n rows).2.1.length = n := by
  have hpn := isP_nat hp
  obtain ⟨r, P, h1, h2, h3, h4, h5⟩ := elim_all hp hok
  obtain ⟨s, Q, k1, k2, k3, k4, k5⟩ := elim_all hp hokw
  rw [h3, pivList_length]
  rw [hl] at h4 h5
  rw [hlw] at k4 k5
  have hd2 : ∀ i, i < n → fm p (elim p (n + n) wide).1 i i = 1 := fun i hi => by unfold fm; rw [hd i hi, phi_one]
  have hs : s = n := by
    rcases Nat.lt_or_ge s n with h | h
    · have := k4.rest s s (Nat.le_refl _) h (by omega)
      rw [hd2 s h] at this
      exact absurd this (one_ne hp)
    · have := k4.le; omega
  subst hs
  have hQ : ∀ i, i < s → Q i = i := by
    refine rising (fun i hi => ?_) k4.inc
    rcases Nat.lt_or_ge i (Q i) with h | h
    · have := k4.before i i hi h
      rw [hd2 i hi] at this
      exact absurd this (one_ne hp)
    · omega
  have hf : ∀ i j, i < s → j < s → fm p (elim p (s + s) wide).1 i j = idM i j := fun i j hi hj => by
    unfold idM
    by_cases e : i = j
    · rw [if_pos e, e]; exact hd2 j hj
    · rw [if_neg e]
      have := k4.col j i hj hi e
      rw [hQ j hj] at this; exact this
  have wl : ∀ i j, i < s → j < s → fm p wide i j = fm p rows i j := fun i j hi hj => by unfold fm; rw [(hW i j hi hj).1]
  have hI : Rref s s (idM : Nat → Nat → Fin p) s (fun i => i) := by
    refine ⟨Nat.le_refl _, fun i hi => hi, fun i k hik _ => hik, fun i _ => by unfold idM; rw [if_pos rfl], fun i k _ _ hne => by unfold idM; rw [if_neg hne], fun i j _ hj => by unfold idM; rw [if_neg (by omega)], fun i j h1 h2 _ => by omega⟩
  have hle : s ≤ r := hI.le_of_span (one_ne hp) (fin_inv hp) (G := fm p (elim p s rows).1) (fun i hi => by
    obtain ⟨c, hc⟩ := k5.2 i hi
    have hsp : Sp s s (fm p rows) (idM i) := ⟨c, fun j hj => by rw [← hf i j hi hj, hc j (by omega)]; exact sm_congr (fun k hk => by rw [wl k j hk hj])⟩
    have := hsp.trans h5.1
    refine ⟨fun k => idM i (P k), fun j hj => h4.as_sum this j hj⟩)
  have := h4.le
  omega
end
end Go.Proofs.Ytoekjicknclooaa.Lin
end

section
set_option linter.unusedVariables false
set_option linter.unusedSimpArgs false
set_option linter.unusedSectionVars false
namespace Go.Proofs.Ytoekjicknclooaa.F
open Go.RowKit Go.Proofs.YtoekjicknclooaaW.PrintWords Go.Proofs.YtoekjicknclooaaW.PrintLast Go.Proofs.Ytoekjicknclooaa.Lin
def wideL (n : Nat) (l : List Int) : List Int := joined n n n l (tab n n unitAt)
def wideQ (p : Int) (n : Nat) (l : List Int) : List (List Int) := (elim p (n + n) (rowsM n (n + n) (wideL n l))).1
theorem wideL_length (n : Nat) (l : List Int) : (wideL n l).length = n * (n + n) := by unfold wideL joined; rw [tab_length]
theorem unit_range {p : Int} (hp : 2 ≤ p) (n j : Nat) : 0 ≤ (tab n n unitAt).getD j 0 ∧ (tab n n unitAt).getD j 0 < p :=
  okTab hp (fun a b _ _ => by unfold unitAt; split <;> omega) j
theorem wideL_ok {p : Int} (hp : 2 ≤ p) {n : Nat} {l : List Int} (hv : ∀ j, 0 ≤ l.getD j 0 ∧ l.getD j 0 < p) (j : Nat) : 0 ≤ (wideL n l).getD j 0 ∧ (wideL n l).getD j 0 < p := by
  unfold wideL joined
  refine okTab hp (fun a b _ _ => ?_) j
  split
  · exact hv _
  · exact unit_range hp _ _
theorem wide_cells {n : Nat} {l : List Int} {i j : Nat} (hi : i < n) (hj : j < n) : cell (rowsM n (n + n) (wideL n l)) i j = cell (rowsM n n l) i j ∧ cell (rowsM n (n + n) (wideL n l)) i (n + j) = if i = j then 1 else 0 := by
  have h1 : j < n + n := by omega
  have h2 : n + j < n + n := by omega
  refine ⟨?_, ?_⟩
  · rw [rowsM_cell _ hi h1, rowsM_cell _ hi hj]
    unfold wideL joined
    rw [tab_at _ hi h1, if_pos hj]
  · rw [rowsM_cell _ hi h2]
    unfold wideL joined
    rw [tab_at _ hi h2, if_neg (by omega), show n + j - n = j by omega, tab_at _ hi hj]
    rfl
theorem implWide_tells {p a3 : Int} {n : Nat} (hn : n ≤ 32) {l : List Int} (hl : l.length = n * n) {k : Nat} (hk : 17000 ≤ k) :
    impl_filled.f (impl_inverse_1.cell n p n n l) k p n ((n + n : Nat) : Int) a3 = some (p, (n : Int), ((n + n : Nat) : Int), wideL n l) := by
  refine filled_tells (f := fun i j => if j < n then l.getD (i * n + j) 0 else (tab n n unitAt).getD (i * n + (j - n)) 0) (by omega) (by omega) (fun i j hi hj => ?_) p a3 hk
  show (if (j : Int) < (n : Int) then impl_Matrix_at.f p n n l i j else (impl_unit.f 20000 p n).bind fun u => impl_Matrix_at.f u.1 u.2.1 u.2.2.1 u.2.2.2 i (wrap64 ((j : Int) - (n : Int)))) = _
  by_cases h : j < n
  · rw [if_pos (by omega), at_tells (R := n) (C := n) (by omega) (by omega) rfl hl hi h, if_pos h]
  · have e := implUnit_tells (n := n) (by omega) p (k := 20000) (by omega)
    rw [if_neg (by omega), e, Option.bind_some, w64_id (by omega) (by omega), show (j : Int) - (n : Int) = ((j - n : Nat) : Int) by omega, at_tells (R := n) (C := n) (by omega) (by omega) rfl (tab_length _ _ _) hi (by omega), if_neg h]
def cutTo (n i : Nat) (Q : List (List Int)) : List (List Int) := Q.mapIdx (fun j r => if j < i then r.drop n else r)
theorem cutTo_length (n i : Nat) (Q : List (List Int)) : (cutTo n i Q).length = Q.length := by unfold cutTo; simp
theorem cutTo_get {n i : Nat} {Q : List (List Int)} {j : Nat} (hj : j < Q.length) : (cutTo n i Q)[j]'(by rw [cutTo_length]; exact hj) = if j < i then Q[j].drop n else Q[j] := by unfold cutTo; simp
theorem cutTo_zero (n : Nat) (Q : List (List Int)) : cutTo n 0 Q = Q := by
  refine List.ext_getElem (cutTo_length _ _ _) (fun j h1 h2 => ?_)
  rw [cutTo_get h2, if_neg (by omega)]
theorem cutTo_at {n i : Nat} {Q : List (List Int)} (hi : i < Q.length) : (cutTo n i Q).getD i [] = Q.getD i [] := by
  have h1 : i < (cutTo n i Q).length := by rw [cutTo_length]; exact hi
  rw [getD_at h1, getD_at hi, cutTo_get hi, if_neg (by omega)]
theorem cutTo_step {n i : Nat} {Q : List (List Int)} (hi : i < Q.length) : (cutTo n i Q).set i ((Q.getD i []).drop n) = cutTo n (i + 1) Q := by
  refine List.ext_getElem (by rw [List.length_set, cutTo_length, cutTo_length]) (fun j h1 h2 => ?_)
  have hj : j < Q.length := by rw [cutTo_length] at h2; exact h2
  rw [cutTo_get hj, List.getElem_set]
  by_cases e : i = j
  · subst e
    rw [if_pos rfl, if_pos (by omega), getD_at hi]
  · rw [if_neg e, cutTo_get hj]
    by_cases h : j < i
    · rw [if_pos h, if_pos (by omega)]
    · rw [if_neg h, if_neg (by omega)]
theorem cutTo_ok {p : Int} {n : Nat} {Q : List (List Int)} (hok : RowsOk p (n + n) Q) : RowsOk p n (cutTo n Q.length Q) := fun r hr => by
  obtain ⟨j, hj, rfl⟩ := List.mem_iff_getElem.mp hr
  have hj' : j < Q.length := by rw [cutTo_length] at hj; exact hj
  rw [cutTo_get hj', if_pos hj']
  have h := hok _ (List.getElem_mem hj')
  exact ⟨by rw [List.length_drop, h.1]; omega, fun x hx => h.2 x (List.mem_of_mem_drop hx)⟩
theorem cutTo_cell {n : Nat} {Q : List (List Int)} {a b : Nat} (ha : a < Q.length) : cell (cutTo n Q.length Q) a b = cell Q a (n + b) := by
  have h1 : a < (cutTo n Q.length Q).length := by rw [cutTo_length]; exact ha
  unfold cell
  rw [getD_at h1, getD_at ha, cutTo_get ha, if_pos ha]
  simp [List.getD_eq_getElem?_getD]
theorem cutR_tells {l : List Int} {n : Nat} (h : n ≤ l.length) : impl_inverse.cutR l n = some (l.drop n) := by
  unfold impl_inverse.cutR
  rw [if_pos (by omega), if_pos (by omega), Int.toNat_natCast]
theorem invers_good {p : Int} (q1 q2 : Int) (l : List Int) {n : Nat} (hn : n ≤ 32) {Q : List (List Int)} (hQ : Q.length = n) (hok : RowsOk p (n + n) Q) (hd : ∀ j, j < n → cell Q j j = 1) (d : Nat) : ∀ (k i : Nat), n - i = d → i ≤ n → d + 1000 ≤ k →
    impl_inverse.l0 k (cutTo n i Q) n i p q1 q2 l n = some (p, (n : Int), (n : Int), tab n n (fun a b => cell Q a (n + b)), true) := by
  induction d with
  | zero =>
    intro k i hi1 hi hk
    obtain ⟨k, rfl⟩ : ∃ m, k = m + 1 := ⟨k - 1, by omega⟩
    obtain rfl : i = n := by omega
    have h1 : (cutTo i i Q).length = i := by rw [cutTo_length]; exact hQ
    have e := matrixOf_tells (q := p) (i : Int) (cutTo_ok hok) (by rw [cutTo_length]; omega) (by omega) (k := k) (by omega)
    rw [hQ] at e
    rw [h1] at e
    simp only [impl_inverse.l0]
    rw [if_neg (by omega), e, Option.bind_some]
    have e2 : tab i i (cell (cutTo i i Q)) = tab i i (fun a b => cell Q a (i + b)) := by
      refine tab_ext (tab_length _ _ _) (fun a b ha hb => ?_)
      rw [tab_at _ ha hb]
      have := cutTo_cell (n := i) (Q := Q) (a := a) (b := b) (by omega)
      rw [hQ] at this
      exact this
    rw [e2]
  | succ d ih =>
    intro k i hi1 hi hk
    obtain ⟨k, rfl⟩ : ∃ m, k = m + 1 := ⟨k - 1, by omega⟩
    have g0 : i < n := by omega
    have g1 : (i : Int) < (n : Int) := by omega
    have g2 : (0 : Int) ≤ (i : Int) := by omega
    have g3 : (i : Int) < ((cutTo n i Q).length : Int) := by rw [cutTo_length, hQ]; omega
    have g4 : i < Q.length := by omega
    have hrow : (Q.getD i []).length = n + n := by rw [getD_at g4]; exact (hok _ (List.getElem_mem g4)).1
    have g5 : (i : Int) < (((Q.getD i []).length : Nat) : Int) := by rw [hrow]; omega
    have g6 : n ≤ (Q.getD i []).length := by rw [hrow]; omega
    have g7 : n ≤ 35184372088832 := by omega
    have g8 : (Q.getD i []).getD i 0 = 1 := hd i g0
    have g9 := ih k (i + 1) (by omega) (by omega) (by omega)
    simp only [impl_inverse.l0]
    rw [if_pos g1, if_pos g2, if_pos g3, rdL_nat, cutTo_at g4, if_pos g5, rd_nat, g8, if_pos rfl, cutR_tells g6, Option.bind_some, Int.toNat_natCast, cutTo_step g4, w64_succ g0 g7]
    exact g9
theorem invers_bad {p : Int} (q1 q2 : Int) (l : List Int) {n : Nat} (hn : n ≤ 32) {Q : List (List Int)} (hQ : Q.length = n) (hok : RowsOk p (n + n) Q) {j : Nat} (hj : j < n) (hd : cell Q j j ≠ 1) (d : Nat) : ∀ (k i : Nat), n - i = d → i ≤ j → d + 1000 ≤ k →
    impl_inverse.l0 k (cutTo n i Q) n i p q1 q2 l n = some (0, 0, 0, [], false) := by
  induction d with
  | zero => intro k i hi1 hi hk; omega
  | succ d ih =>
    intro k i hi1 hi hk
    obtain ⟨k, rfl⟩ : ∃ m, k = m + 1 := ⟨k - 1, by omega⟩
    have g0 : i < n := by omega
    have g1 : (i : Int) < (n : Int) := by omega
    have g2 : (0 : Int) ≤ (i : Int) := by omega
    have g3 : (i : Int) < ((cutTo n i Q).length : Int) := by rw [cutTo_length, hQ]; omega
    have g4 : i < Q.length := by omega
    have hrow : (Q.getD i []).length = n + n := by rw [getD_at g4]; exact (hok _ (List.getElem_mem g4)).1
    have g5 : (i : Int) < (((Q.getD i []).length : Nat) : Int) := by rw [hrow]; omega
    have g6 : n ≤ (Q.getD i []).length := by rw [hrow]; omega
    have g7 : n ≤ 35184372088832 := by omega
    by_cases q : (Q.getD i []).getD i 0 = 1
    · have hne : i ≠ j := fun e => hd (by subst e; exact q)
      have g9 := ih k (i + 1) (by omega) (by omega) (by omega)
      simp only [impl_inverse.l0]
      rw [if_pos g1, if_pos g2, if_pos g3, rdL_nat, cutTo_at g4, if_pos g5, rd_nat, if_pos q, cutR_tells g6, Option.bind_some, Int.toNat_natCast, cutTo_step g4, w64_succ g0 g7]
      exact g9
    · simp only [impl_inverse.l0]
      rw [if_pos g1, if_pos g2, if_pos g3, rdL_nat, cutTo_at g4, if_pos g5, rd_nat, if_neg q]
def invOut (p r c : Int) (l : List Int) : Int × Int × Int × List Int × Int := if matOk p r c l = true then (if r = c then (if (elim p r.toNat (rowsM r.toNat r.toNat l)).2.1.length = r.toNat then (p, r, r, tab r.toNat r.toNat (fun a b => cell (wideQ p r.toNat l) a (r.toNat + b)), 0) else (0, 0, 0, [], 3)) else (0, 0, 0, [], 6)) else (0, 0, 0, [], 1)
theorem wideQ_ok {p : Int} (hp : isP p = true) {n : Nat} {l : List Int} (hv : ∀ j, 0 ≤ l.getD j 0 ∧ l.getD j 0 < p) : RowsOk p (n + n) (wideQ p n l) ∧ (wideQ p n l).length = n := by
  have hw := rowsM_ok (R := n) (C := n + n) (wideL_ok (isP_ge hp).1 (n := n) hv)
  obtain ⟨a, b, _⟩ := elim_ok hp hw
  exact ⟨a, by unfold wideQ; rw [b, rowsM_length]⟩
theorem two_n {n : Nat} (hn : n ≤ 32) : wrap64 (2 * (n : Int)) = ((n + n : Nat) : Int) := by rw [w64_id (by omega) (by omega)]; push_cast; omega
theorem implInverse_tells {p : Int} (hp : isP p = true) {n : Nat} (hn : n ≤ 32) {l : List Int} (hl : l.length = n * n) (hv : ∀ j, 0 ≤ l.getD j 0 ∧ l.getD j 0 < p) {k : Nat} (hk : 17000 ≤ k) :
    impl_inverse.f k p n n l = some (if (elim p n (rowsM n n l)).2.1.length = n then (p, (n : Int), (n : Int), tab n n (fun a b => cell (wideQ p n l) a (n + b)), true) else (0, 0, 0, [], false)) := by
  have e1 := implElim_tells hp (R := n) (C := n + n) (by omega) (by omega) (wideL_length n l) (wideL_ok (isP_ge hp).1 hv) (k := k) (by omega)
  obtain ⟨q1, q2⟩ := wideQ_ok hp (n := n) hv
  unfold impl_inverse.f
  rw [two_n hn, implWide_tells hn hl hk, Option.bind_some]
  dsimp only
  rw [e1, Option.bind_some]
  dsimp only
  show impl_inverse.l0 k (wideQ p n l) ((wideQ p n l).length : Int) 0 p n n l n = _
  rw [q2]
  have hok := rowsM_ok (R := n) (C := n) hv
  have hokw := rowsM_ok (R := n) (C := n + n) (wideL_ok (isP_ge hp).1 (n := n) hv)
  obtain ⟨q, rfl⟩ := Int.eq_ofNat_of_zero_le (show 0 ≤ p by have := isP_ge hp; omega)
  haveI : NeZero q := ⟨by have := isP_ge hp; omega⟩
  by_cases hr : (elim q n (rowsM n n l)).2.1.length = n
  · obtain ⟨d1, _, _⟩ := inv_full hp hok (rowsM_length _ _ _) hokw (rowsM_length _ _ _) (fun i j hi hj => wide_cells hi hj) hr
    have g := invers_good (p := (q : Int)) n n l hn q2 q1 (fun j hj => by have := d1 j j hj hj; rw [if_pos rfl] at this; exact this) n k 0 (by omega) (by omega) (by omega)
    rw [cutTo_zero] at g
    rw [if_pos hr]
    exact g
  · have hx : ∃ j, j < n ∧ cell (wideQ q n l) j j ≠ 1 := Classical.byContradiction fun hno => hr (inv_diag hp hok (rowsM_length _ _ _) hokw (rowsM_length _ _ _) (fun i j hi hj => wide_cells hi hj) (fun i hi => Classical.byContradiction fun hne => hno ⟨i, hi, hne⟩))
    obtain ⟨j, hj, hne⟩ := hx
    have g := invers_bad (p := (q : Int)) n n l hn q2 q1 hj hne n k 0 (by omega) (by omega) (by omega)
    rw [cutTo_zero] at g
    rw [if_neg hr]
    exact g
theorem impl_invM (p r c : Int) {l : List Int} {k : Nat} (hk : 17000 ≤ k) : impl_InverseMatrix.f k p r c l = some (invOut p r c l) := by
  unfold impl_InverseMatrix.f invOut
  rw [implOk_tells p r c (by omega)]
  cases h : matOk p r c l with
  | false => simp
  | true =>
    obtain ⟨R, C, rfl, rfl, h1, h2, h3, h4, h5⟩ := dimsM h
    simp only [Option.bind_some, if_true, Int.toNat_natCast]
    by_cases hs : (R : Int) = (C : Int)
    · obtain rfl : R = C := by omega
      rw [if_pos rfl, if_pos rfl, implInverse_tells (matOk_iff.mp h).1 h1 h3 h5 hk, Option.bind_some]
      by_cases hr : (elim p R (rowsM R R l)).2.1.length = R
      · rw [if_pos hr, if_pos hr]; rfl
      · rw [if_neg hr, if_neg hr]; rfl
    · rw [if_neg hs, if_neg hs]
end Go.Proofs.Ytoekjicknclooaa.F
end
