import Derived.Test.YtioooobmfcmefaaFx2
import Derived.Test.YtioooobmfcmefaaFx4
import Derived.Test.YtioooobmfcmefaaFx6
import Derived.Test.YtioooobmfcmefaaFx11
import Derived.Test.YtioooobmfcmefaaFx14
import Derived.Test.YtioooobmfcmefaaFx21
import Derived.Test.YtioooobmfcmefaaFx55
import Derived.Test.YtioooobmfcmefaaVec
import Derived.KernelRfl
set_option linter.unusedVariables false
set_option linter.unusedSimpArgs false
set_option linter.unusedSectionVars false
namespace Go.Proofs.Ytioooobmfcmefaa.F
open Go.RowKit Go.Proofs.YtioooobmfcmefaaW.PrintWords Go.Proofs.YtioooobmfcmefaaW.PrintLast Go.Proofs.Ytioooobmfcmefaa.Lin

/-- A matrix as the list of its numbers. -/
def tab (r c : Nat) (f : Nat → Nat → Int) : List Int := (List.range (r * c)).map fun x => f (x / c) (x % c)
theorem tab_length (r c : Nat) (f) : (tab r c f).length = r * c := by unfold tab; simp
theorem at_div {c i j : Nat} (h : j < c) : (i * c + j) / c = i ∧ (i * c + j) % c = j := by
  rw [Nat.mul_comm]
  exact ⟨by rw [Nat.mul_add_div (by omega), Nat.div_eq_of_lt h]; omega, by rw [Nat.mul_add_mod, Nat.mod_eq_of_lt h]⟩
theorem at_lt {r c i j : Nat} (hi : i < r) (hj : j < c) : i * c + j < r * c := by
  have : (i + 1) * c ≤ r * c := Nat.mul_le_mul_right _ hi
  rw [Nat.succ_mul] at this
  omega
theorem tab_getD {r c : Nat} (f) {x : Nat} (h : x < r * c) : (tab r c f).getD x 0 = f (x / c) (x % c) := by
  unfold tab; simp [List.getD_eq_getElem?_getD, h]
theorem tab_at {r c i j : Nat} (f) (hi : i < r) (hj : j < c) : (tab r c f).getD (i * c + j) 0 = f i j := by
  rw [tab_getD f (at_lt hi hj), (at_div hj).1, (at_div hj).2]
theorem split_at {r c x : Nat} (h : x < r * c) : x / c < r ∧ x % c < c ∧ x / c * c + x % c = x := by
  have hc : 0 < c := by rcases Nat.eq_zero_or_pos c with e | e; · subst e; simp at h
                        · exact e
  exact ⟨Nat.div_lt_of_lt_mul (by rw [Nat.mul_comm]; exact h), Nat.mod_lt _ hc, Nat.div_add_mod' x c⟩
theorem tab_ext {r c : Nat} {f} {l : List Int} (hl : l.length = r * c) (h : ∀ i j, i < r → j < c → l.getD (i * c + j) 0 = f i j) : l = tab r c f := by
  refine ext_getD (by rw [hl, tab_length]) (fun x hx => ?_)
  rw [hl] at hx
  obtain ⟨h1, h2, h3⟩ := split_at hx
  have := h _ _ h1 h2
  rw [h3] at this
  rw [this, tab_getD f hx]
theorem tab_congr {r c : Nat} {f g : Nat → Nat → Int} (h : ∀ i j, i < r → j < c → f i j = g i j) : tab r c f = tab r c g :=
  tab_ext (tab_length r c f) (fun i j hi hj => by rw [tab_at f hi hj, h i j hi hj])
theorem tab_self {r c : Nat} {l : List Int} (hl : l.length = r * c) : tab r c (fun i j => l.getD (i * c + j) 0) = l :=
  (tab_ext hl (fun _ _ _ _ => rfl)).symm
theorem side_mul {r c : Nat} (hr : r ≤ 128) (hc : c ≤ 128) : r * c ≤ 16384 := Nat.mul_le_mul hr hc
theorem w64_at {r c i j : Nat} (hr : r ≤ 128) (hc : c ≤ 128) (hi : i ≤ r) (hj : j ≤ c) : wrap64 (wrap64 ((i : Int) * (c : Int)) + (j : Int)) = ((i * c + j : Nat) : Int) := by
  have h := side_mul (Nat.le_trans hi hr) hc
  have e : (i : Int) * (c : Int) = ((i * c : Nat) : Int) := by push_cast; rfl
  rw [e, w64_id (x := ((i * c : Nat) : Int)) (by omega) (by omega), w64_id (x := ((i * c : Nat) : Int) + (j : Int)) (by omega) (by omega)]
  push_cast; rfl
theorem w64_mulN {r c : Nat} (hr : r ≤ 128) (hc : c ≤ 128) : wrap64 ((r : Int) * (c : Int)) = ((r * c : Nat) : Int) := by
  have h := side_mul hr hc
  have e : (r : Int) * (c : Int) = ((r * c : Nat) : Int) := by push_cast; rfl
  rw [e, w64_id (x := ((r * c : Nat) : Int)) (by omega) (by omega)]
theorem range_map_snoc (g : Nat → Int) (n : Nat) : (List.range n).map g ++ [g n] = (List.range (n + 1)).map g := by rw [List.range_succ]; simp
theorem filled_row {cf : Cell2} {f : Nat → Nat → Int} {r c : Nat} (hr : r ≤ 128) (hc : c ≤ 128) {i : Nat} (hi : i < r) (h : ∀ j, j < c → cf.f i j = some (f i j)) (p : Int) (d : Nat) : ∀ (k j : Nat), c - j = d → j ≤ c →
    impl_filled.l1 cf (k + d + 1) c i r i c j p r c ((List.range (i * c + j)).map fun x => f (x / c) (x % c)) =
    impl_filled.l0 cf k c r ((i + 1 : Nat) : Int) p r c ((List.range ((i + 1) * c)).map fun x => f (x / c) (x % c)) := by
  induction d with
  | zero =>
    intro k j hd hj
    obtain rfl : j = c := by omega
    rw [show k + 0 + 1 = k + 1 by omega]
    simp only [impl_filled.l1]
    rw [if_neg (by omega), w64_succ (n := r) hi (by omega), Nat.succ_mul]
  | succ d ih =>
    intro k j hd hj
    have hj' : j < c := by omega
    have hlt := at_lt hi hj'
    have hm := side_mul hr hc
    rw [show k + (d + 1) + 1 = (k + d + 1) + 1 by omega]
    simp only [impl_filled.l1]
    rw [if_pos (by omega), h j hj']
    simp only [Option.bind_some, List.length_map, List.length_range]
    rw [if_pos (by omega), w64_succ (n := c) hj' (by omega)]
    have e : f i j = (fun x => f (x / c) (x % c)) (i * c + j) := by simp only [(at_div hj').1, (at_div hj').2]
    rw [e, range_map_snoc]
    exact ih k (j + 1) (by omega) (by omega)
theorem filled_loop {cf : Cell2} {f : Nat → Nat → Int} {r c : Nat} (hr : r ≤ 128) (hc : c ≤ 128) (h : ∀ i j, i < r → j < c → cf.f i j = some (f i j)) (p : Int) (d : Nat) : ∀ (k i : Nat), r - i = d → i ≤ r → d * (c + 2) < k →
    impl_filled.l0 cf k c r i p r c ((List.range (i * c)).map fun x => f (x / c) (x % c)) = some (p, (r : Int), (c : Int), tab r c f) := by
  induction d with
  | zero =>
    intro k i hd hi hk
    obtain ⟨k, rfl⟩ : ∃ m, k = m + 1 := ⟨k - 1, by omega⟩
    obtain rfl : i = r := by omega
    simp only [impl_filled.l0]
    rw [if_neg (by omega)]
    rfl
  | succ d ih =>
    intro k i hd hi hk
    rw [Nat.succ_mul] at hk
    obtain ⟨k, rfl⟩ : ∃ m, k = m + c + 1 + 1 := ⟨k - c - 1 - 1, by omega⟩
    simp only [impl_filled.l0]
    rw [if_pos (by omega)]
    have := filled_row hr hc (show i < r by omega) (fun j hj => h i j (by omega) hj) p c k 0 (by omega) (by omega)
    rw [show i * c + 0 = i * c from rfl] at this
    rw [show (0 : Int) = ((0 : Nat) : Int) from rfl, this]
    exact ih k (i + 1) (by omega) (by omega) (by omega)
/-- 'filled' tells the matrix whose numbers its function tells. -/
theorem filled_tells {cf : Cell2} {f : Nat → Nat → Int} {r c : Nat} (hr : r ≤ 128) (hc : c ≤ 128) (h : ∀ i j, i < r → j < c → cf.f i j = some (f i j)) (p a3 : Int) {k : Nat} (hk : 17000 ≤ k) :
    impl_filled.f cf k p r c a3 = some (p, (r : Int), (c : Int), tab r c f) := by
  have h2 : r * (c + 2) ≤ 128 * 130 := Nat.mul_le_mul hr (by omega)
  have := filled_loop hr hc h p r k 0 (by omega) (by omega) (by omega)
  unfold impl_filled.f
  rw [show ([] : List Int) = (List.range (0 * c)).map fun x => f (x / c) (x % c) by simp]
  exact this
/-- The spec's matrix of zeros. -/
theorem zero_tells {r c : Nat} (hr : r ≤ 128) (hc : c ≤ 128) (p : Int) : spec_l03Zero.f p r c = some (p, (r : Int), (c : Int), tab r c (fun _ _ => 0)) := by
  unfold spec_l03Zero.f
  have h := side_mul hr hc
  rw [w64_mulN hr hc, if_pos (by omega), if_pos (by omega), Int.toNat_natCast]
  congr 4
  refine tab_ext (by simp) (fun i j hi hj => ?_)
  simp [List.getD_eq_getElem?_getD, at_lt hi hj]
theorem side_tells (n : Int) : impl_isSide.f n = some (decide (0 ≤ n ∧ n ≤ 32)) := by
  unfold impl_isSide.f
  rw [same_in, in_tells]; rfl
theorem specPrime_tells (p : Int) {k : Nat} (hk : 20 ≤ k) : spec_ValidPrime.f k p = some (isP p) := by
  unfold spec_ValidPrime.f
  rw [prime_tells p hk]; rfl
/-- A matrix in memory: what is compared, marked and held. -/
theorem eqMatrix_tells {p r c : Int} {l : List Int} (hl : l.length ≤ 35184372088832) {k : Nat} (hk : l.length < k) : laws_eqMatrix.f k p r c l p r c l = some true := by
  unfold laws_eqMatrix.f
  rw [eq_tells hl hk]
  simp
theorem markMatrix_tells {p r c : Int} {l : List Int} (hl : l.length ≤ 35184372088832) {k : Nat} (hk : l.length < k) : laws_markMatrix.f k p r c l 1 = some (1 + (l.length : Int), iota 1 l.length) := by
  unfold laws_markMatrix.f
  rw [mark_tells (by omega) (by omega) hl hk]; rfl
theorem heldMatrix_tells {p r c : Int} {n : Nat} (hl : n ≤ 35184372088832) {k : Nat} (hk : n < k) : laws_heldMatrix.f k p r c (iota 1 n) 1 = some (1 + (n : Int)) := by
  unfold laws_heldMatrix.f
  rw [held_tells (by omega) (by omega) hl hk]
  simp only [Option.bind_some]
  rw [if_neg (by omega)]
end Go.Proofs.Ytioooobmfcmefaa.F
