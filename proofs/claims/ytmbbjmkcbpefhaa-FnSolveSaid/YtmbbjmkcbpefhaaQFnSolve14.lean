-- Texts of this claim, merged by packw.py (a program of this session's).
import Derived.Test.YtmbbjmkcbpefhaaQFnSolve11
import Derived.Test.YtmbbjmkcbpefhaaQFnSolve13
import Derived.KernelRfl
import Derived.Test.YtmbbjmkcbpefhaaQFnSolve2
import Derived.Test.YtmbbjmkcbpefhaaQFnSolve12
import Derived.Test.YtmbbjmkcbpefhaaQFnSolve10
import Derived.Test.YtmbbjmkcbpefhaaQFnSolve5
import Derived.Test.YtmbbjmkcbpefhaaQFnSolve3
import Derived.Test.YtmbbjmkcbpefhaaQFnSolve4
import Derived.SizedLaws
import Derived.ChangeSlices
import Derived.Test.YtmbbjmkcbpefhaaRows
import Derived.WalkKit
import Derived.ProofKit
import Derived.OpenShut
import Derived.ShutString
import Derived.ChangeOld
import Derived.Below

section
set_option linter.unusedVariables false
set_option linter.unusedSimpArgs false
set_option linter.unusedSectionVars false
namespace Go.Proofs.Ytmbbjmkcbpefhaa.F
open Go.RowKit Go.Proofs.YtmbbjmkcbpefhaaW.PrintWords Go.Proofs.YtmbbjmkcbpefhaaW.PrintLast Go.Proofs.Ytmbbjmkcbpefhaa.Lin
def turnOut (p r c : Int) (l : List Int) : Int × Int × Int × List Int × Int := if matOk p r c l = true then (p, c, r, turned r.toNat c.toNat l, 0) else (0, 0, 0, [], 1)
theorem dims {p r c : Int} {l : List Int} (h : matOk p r c l = true) : ∃ R C : Nat, r = R ∧ c = C ∧ R ≤ 32 ∧ C ≤ 32 ∧ l.length = R * C := by
  obtain ⟨_, hr, hc, hl, _⟩ := matOk_iff.mp h
  obtain ⟨R, rfl⟩ := Int.eq_ofNat_of_zero_le hr.1
  obtain ⟨C, rfl⟩ := Int.eq_ofNat_of_zero_le hc.1
  exact ⟨R, C, rfl, rfl, by omega, by omega, by exact_mod_cast hl⟩
theorem spec_turnM (p r c : Int) {l : List Int} (hl : l.length ≤ 1048576) {k : Nat} (hk : l.length + 17000 ≤ k) : spec_Transpose.f k p r c l = some (turnOut p r c l) := by
  unfold spec_Transpose.f turnOut
  rw [specOk_tells p r c (by omega) (by omega)]
  cases h : matOk p r c l with
  | false => simp
  | true =>
    obtain ⟨R, C, rfl, rfl, h1, h2, h3⟩ := dims h
    have e := specTurned_tells p (show R ≤ 128 by omega) (show C ≤ 128 by omega) h3 (k := k) (by omega)
    simp only [Option.bind_some, if_true, e, Int.toNat_natCast]
def rowS (c : Nat) (v l : List Int) (i n : Nat) : Int := ((List.range n).map (fun j => l.getD (i * c + j) 0 * v.getD j 0)).sum
theorem rowS_succ (c : Nat) (v l : List Int) (i n : Nat) : rowS c v l i (n + 1) = rowS c v l i n + l.getD (i * c + n) 0 * v.getD n 0 := by
  unfold rowS
  rw [List.range_succ, List.map_append, List.sum_append]
  simp
theorem rowS_range {p : Int} (hp : 2 ≤ p) (hp' : p ≤ 251) {v l : List Int} (hl : ∀ j, 0 ≤ l.getD j 0 ∧ l.getD j 0 < p) (hv : ∀ j, 0 ≤ v.getD j 0 ∧ v.getD j 0 < p) (c i n : Nat) : 0 ≤ rowS c v l i n ∧ rowS c v l i n ≤ n * 63001 := by
  induction n with
  | zero => unfold rowS; simp
  | succ n ih =>
    rw [rowS_succ]
    have := mul_small hp hp' (hl (i * c + n)).1 (by have := (hl (i * c + n)).2; omega) (hv n).1 (hv n).2
    push_cast
    omega
theorem mapD {n j : Nat} (f : Nat → Int) (h : j < n) : ((List.range n).map f).getD j 0 = f j := by simp [List.getD_eq_getElem?_getD, h]
theorem mapD_in {p : Int} (hp : 2 ≤ p) {n : Nat} {f : Nat → Int} (h : ∀ j, 0 ≤ f j ∧ f j < p) (j : Nat) : 0 ≤ ((List.range n).map f).getD j 0 ∧ ((List.range n).map f).getD j 0 < p := by
  by_cases hj : j < n
  · rw [mapD f hj]; exact h j
  · rw [List.getD_eq_getElem?_getD, List.getElem?_eq_none (by simp; omega)]; simp; omega
def applied (p : Int) (r c : Nat) (l v : List Int) : List Int := (List.range r).map (fun i => rowS c v l i c % p)
theorem applied_snoc (p : Int) (r c : Nat) (l v : List Int) : applied p r c l v ++ [rowS c v l r c % p] = applied p (r + 1) c l v := by
  unfold applied; rw [List.range_succ]; simp
theorem applied_length (p : Int) (r c : Nat) (l v : List Int) : (applied p r c l v).length = r := by unfold applied; simp
theorem specApply_row {p : Int} {R c : Nat} {l v o : List Int} (hp : 2 ≤ p) (hp' : p ≤ 251) (hR : R ≤ 64) (hc : c ≤ 64) (hlen : l.length = R * c) (hl : ∀ j, 0 ≤ l.getD j 0 ∧ l.getD j 0 < p) (hv : ∀ j, 0 ≤ v.getD j 0 ∧ v.getD j 0 < p) (hvl : v.length = c) {i : Nat} (hi : i < R) (ho : o.length ≤ 64) (d : Nat) :
    ∀ (k j : Nat), c - j = d → j ≤ c → spec_l03Apply.l1 (k + d + 1) v o i (rowS c v l i j) j p R c l = spec_l03Apply.l0 k v (o ++ [rowS c v l i c % p]) ((i + 1 : Nat) : Int) p R c l := by
  induction d with
  | zero =>
    intro k j hd hj
    obtain rfl : j = c := by omega
    rw [show k + 0 + 1 = k + 1 by omega]
    simp only [spec_l03Apply.l1]
    have := rowS_range hp hp' hl hv j i j
    rw [if_neg (by omega), if_neg (by omega), if_pos (by omega), w64_succ (n := R) hi (by omega), Int.tmod_eq_emod_of_nonneg (by omega)]
  | succ d ih =>
    intro k j hd hj
    have hj' : j < c := by omega
    have h1 := at_lt hi hj'
    have hs := rowS_range hp hp' hl hv c i j
    have hm := mul_small hp hp' (hl (i * c + j)).1 (by have := (hl (i * c + j)).2; omega) (hv j).1 (hv j).2
    have hj64 : (j : Int) * 63001 ≤ 64 * 63001 := Int.mul_le_mul_of_nonneg_right (by omega) (by omega)
    rw [show k + (d + 1) + 1 = (k + d + 1) + 1 by omega]
    simp only [spec_l03Apply.l1]
    rw [if_pos (by omega), w64_at (r := R) (by omega) (by omega) (by omega) (by omega), if_pos (by omega), if_pos (by omega), if_pos (by omega), if_pos (by omega), rd_nat, rd_nat, w64_id (x := l.getD (i * c + j) 0 * v.getD j 0) (by omega) (by omega), w64_id (x := rowS c v l i j + l.getD (i * c + j) 0 * v.getD j 0) (by omega) (by omega), ← rowS_succ, w64_succ (n := c) hj' (by omega)]
    exact ih k (j + 1) (by omega) (by omega)
theorem specApply_loop {p : Int} {R c : Nat} {l v : List Int} (hp : 2 ≤ p) (hp' : p ≤ 251) (hR : R ≤ 64) (hc : c ≤ 64) (hlen : l.length = R * c) (hl : ∀ j, 0 ≤ l.getD j 0 ∧ l.getD j 0 < p) (hv : ∀ j, 0 ≤ v.getD j 0 ∧ v.getD j 0 < p) (hvl : v.length = c) (d : Nat) :
    ∀ (k i : Nat), R - i = d → i ≤ R → d * (c + 2) < k → spec_l03Apply.l0 k v (applied p i c l v) i p R c l = some (applied p R c l v) := by
  induction d with
  | zero =>
    intro k i hd hi hk
    obtain ⟨k, rfl⟩ : ∃ m, k = m + 1 := ⟨k - 1, by omega⟩
    obtain rfl : i = R := by omega
    simp only [spec_l03Apply.l0]
    rw [if_neg (by omega)]
  | succ d ih =>
    intro k i hd hi hk
    rw [Nat.succ_mul] at hk
    obtain ⟨k, rfl⟩ : ∃ m, k = m + c + 1 + 1 := ⟨k - c - 1 - 1, by omega⟩
    simp only [spec_l03Apply.l0]
    rw [if_pos (by omega)]
    have := specApply_row hp hp' hR hc hlen hl hv hvl (show i < R by omega) (o := applied p i c l v) (by rw [applied_length]; omega) c k 0 (by omega) (by omega)
    rw [show rowS c v l i 0 = 0 by unfold rowS; simp] at this
    rw [show (0 : Int) = ((0 : Nat) : Int) from rfl] at this ⊢
    rw [this, applied_snoc]
    exact ih k (i + 1) (by omega) (by omega) (by omega)
theorem specApply_tells {p : Int} {R c : Nat} {l v : List Int} (hp : 2 ≤ p) (hp' : p ≤ 251) (hR : R ≤ 64) (hc : c ≤ 64) (hlen : l.length = R * c) (hl : ∀ j, 0 ≤ l.getD j 0 ∧ l.getD j 0 < p) (hv : ∀ j, 0 ≤ v.getD j 0 ∧ v.getD j 0 < p) (hvl : v.length = c) {k : Nat} (hk : 17000 ≤ k) :
    spec_l03Apply.f k p R c l v = some (applied p R c l v) := by
  have h2 : R * (c + 2) ≤ 64 * 66 := Nat.mul_le_mul hR (by omega)
  unfold spec_l03Apply.f
  exact specApply_loop hp hp' hR hc hlen hl hv hvl R k 0 (by omega) (by omega) (by omega)
def applyOut (p r c : Int) (l v : List Int) : List Int × Int := if (matOk p r c l && (allM v p && decide ((v.length : Int) = c))) = true then (applied p r.toNat c.toNat l v, 0) else ([], 1)
theorem spec_applyM (p r c : Int) {l v : List Int} (hl : l.length ≤ 1048576) (hv : v.length ≤ 1048576) {k : Nat} (hk : l.length + v.length + 17000 ≤ k) : spec_ApplyMatrix.f k p r c l v = some (applyOut p r c l v) := by
  unfold spec_ApplyMatrix.f applyOut
  rw [specOk_tells p r c (by omega) (by omega)]
  cases h : matOk p r c l with
  | false => simp
  | true =>
    obtain ⟨R, C, rfl, rfl, h1, h2, h3, hp, hx⟩ := dimsM h
    rw [column_tells hp.1 hp.2 (by omega) (by omega)]
    cases h' : (allM v p && decide ((v.length : Int) = (C : Int))) with
    | false => simp
    | true =>
      rw [Bool.and_eq_true, decide_eq_true_eq] at h'
      have e := specApply_tells hp.1 hp.2 (show R ≤ 64 by omega) (show C ≤ 64 by omega) h3 hx (fun j => getD_inM hp.1 (allM_iff.mp h'.1) j) (show v.length = C by omega) (k := k) (by omega)
      simp only [Option.bind_some, if_true, e, Bool.and_self, Int.toNat_natCast]
def colM (R C : Nat) (b : List Int) (j : Nat) : List Int := (List.range R).map (fun t => b.getD (t * C + j) 0)
def prodAt (p : Int) (C C' : Nat) (a b : List Int) (i j : Nat) : Int := rowS C (colM C C' b j) a i C % p
section
variable {p p' q1 : Int} {R C C' : Nat} {a b : List Int}
end
def mulOut (p r c : Int) (a : List Int) (p' r' c' : Int) (b : List Int) : Int × Int × Int × List Int × Int := if (matOk p r c a && matOk p' r' c' b) = true then if p = p' ∧ c = r' then (p, r, c', tab r.toNat c'.toNat (prodAt p c.toNat c'.toNat a b), 0) else (0, 0, 0, [], 6) else (0, 0, 0, [], 1)
section
variable {q : Nat} [NeZero q] {R C : Nat} {l : List Int}
end
end Go.Proofs.Ytmbbjmkcbpefhaa.F
end

section
set_option linter.unusedVariables false
set_option linter.unusedSimpArgs false
set_option linter.unusedSectionVars false
namespace Go.Proofs.Ytmbbjmkcbpefhaa.Lin
section
variable {p : Nat} [NeZero p] {n : Nat} {rows : List (List Int)}
end
end Go.Proofs.Ytmbbjmkcbpefhaa.Lin
end

section
set_option linter.unusedVariables false
set_option linter.unusedSimpArgs false
set_option linter.unusedSectionVars false
namespace Go.Proofs.Ytmbbjmkcbpefhaa.F
open Go.RowKit Go.Proofs.YtmbbjmkcbpefhaaW.PrintWords Go.Proofs.YtmbbjmkcbpefhaaW.PrintLast Go.Proofs.Ytmbbjmkcbpefhaa.Lin
section
variable {p : Nat} [NeZero p]
theorem phi_sum (f : Nat → Int) : ∀ n, phi p ((List.range n).map f).sum = sm n (fun j => phi p (f j))
  | 0 => by simp [sm, phi_zero]
  | n + 1 => by
    rw [List.range_succ, List.map_append, List.sum_append]
    simp only [List.map_cons, List.map_nil, List.sum_cons, List.sum_nil, Int.add_zero]
    rw [phi_add, phi_sum f n]; rfl
end
section
variable {p : Nat} [NeZero p]
theorem applied_range (hp : isP (p : Int) = true) (r c : Nat) (l v : List Int) (j : Nat) : 0 ≤ (applied p r c l v).getD j 0 ∧ (applied p r c l v).getD j 0 < p := by
  have := isP_nat hp
  unfold applied
  exact mapD_in (by omega) (fun j => ⟨Int.emod_nonneg _ (by omega), Int.emod_lt_of_pos _ (by omega)⟩) j
theorem phi_applied {r c : Nat} (l v : List Int) {i : Nat} (hi : i < r) : phi p ((applied p r c l v).getD i 0) = sm c (fun t => phi p (l.getD (i * c + t) 0) * phi p (v.getD t 0)) := by
  unfold applied
  rw [mapD _ hi, phi_emod]
  unfold rowS
  rw [phi_sum]
  exact sm_congr (fun t _ => phi_mul _ _)
end
theorem two_tells {a b : List Int} (p : Int) (ha : a.length ≤ 35184372088832) (hb : b.length ≤ 35184372088832) {k : Nat} (hk : 21 + a.length + b.length ≤ k) : spec_l02Two.f k a b p = some (codeTwo a b p) := by
  obtain ⟨k, rfl⟩ : ∃ m, k = m + 1 := ⟨k - 1, by omega⟩
  unfold spec_l02Two.f codeTwo vecOk
  rw [prime_tells p (by omega)]
  by_cases h : isP p = true
  · have hp := isP_ge h
    simp only [h, Option.bind_some, if_true, Bool.true_and]
    rw [numbers_tells hp.1 hp.2 ha (by omega), numbers_tells hp.1 hp.2 hb (by omega)]
    have e : ((a.length : Int) = (b.length : Int)) = (a.length = b.length) := propext (by omega)
    cases h1 : (decide (a.length ≤ 64) && allIn a p) <;> cases h2 : (decide (b.length ≤ 64) && allIn b p) <;> simp only [spec_l02Two.j0, Option.bind_some, if_true, if_false, Bool.not_true, Bool.not_false, Bool.and_true, Bool.and_false, Bool.false_eq_true, reduceCtorEq, e] <;> (try split) <;> rfl
  · simp [h, spec_l02Two.j0]
end Go.Proofs.Ytmbbjmkcbpefhaa.F
end

section
/- A drawn system has either a solution, which the matrix sends to the right side, or a row against it, which the turned matrix sends to 0 and whose product with the right side is 1. -/
set_option linter.unusedVariables false
set_option linter.unusedSimpArgs false
set_option linter.unusedSectionVars false
namespace Go.Proofs.Ytmbbjmkcbpefhaa.F
open Go.RowKit Go.Proofs.YtmbbjmkcbpefhaaW.PrintWords Go.Proofs.YtmbbjmkcbpefhaaW.PrintLast Go.Proofs.Ytmbbjmkcbpefhaa.Lin
theorem nums_loop {a : List Int} (ha : a.length ≤ 1000) (d : Nat) : ∀ k i, a.length - i = d → i ≤ a.length → d < k → laws_b10Nums.l0 k a a i = some true := by
  induction d with
  | zero =>
    intro k i hd hi hk
    obtain ⟨k, rfl⟩ : ∃ m, k = m + 1 := ⟨k - 1, by omega⟩
    rw [laws_b10Nums.l0]
    rw [if_neg (by omega)]
  | succ d ih =>
    intro k i hd hi hk
    obtain ⟨k, rfl⟩ : ∃ m, k = m + 1 := ⟨k - 1, by omega⟩
    rw [laws_b10Nums.l0]
    rw [if_pos (by omega), if_pos (by omega), if_pos (by omega), if_pos rfl, w64_succ (n := a.length) (by omega) (by omega)]
    exact ih k (i + 1) (by omega) (by omega) (by omega)
theorem nums_tells {a : List Int} (ha : a.length ≤ 1000) {k : Nat} (hk : 1001 ≤ k) : laws_b10Nums.f k a a = some true := by
  unfold laws_b10Nums.f
  rw [if_pos rfl]
  exact nums_loop ha a.length k 0 (by omega) (by omega) (by omega)
theorem zero_loop {a : List Int} (ha : a.length ≤ 1000) (h : ∀ j, j < a.length → a.getD j 0 = 0) (d : Nat) : ∀ k i, a.length - i = d → i ≤ a.length → d < k → laws_b10Zero.l0 k a i = some true := by
  induction d with
  | zero =>
    intro k i hd hi hk
    obtain ⟨k, rfl⟩ : ∃ m, k = m + 1 := ⟨k - 1, by omega⟩
    simp only [laws_b10Zero.l0]
    rw [if_neg (by omega)]
  | succ d ih =>
    intro k i hd hi hk
    obtain ⟨k, rfl⟩ : ∃ m, k = m + 1 := ⟨k - 1, by omega⟩
    simp only [laws_b10Zero.l0]
    rw [if_pos (by omega), if_pos (by omega), rd_nat, if_pos (h i (by omega)), w64_succ (n := a.length) (by omega) (by omega)]
    exact ih k (i + 1) (by omega) (by omega) (by omega)
theorem zeroV_tells {a : List Int} (ha : a.length ≤ 1000) (h : ∀ j, j < a.length → a.getD j 0 = 0) {k : Nat} (hk : 1001 ≤ k) : laws_b10Zero.f k a = some true := by
  unfold laws_b10Zero.f
  exact zero_loop ha h a.length k 0 (by omega) (by omega) (by omega)
theorem chain_bad {k : Nat} {l b o : List Int} {p r c e : Int} (e0 : laws_b10Long.f l = some false) (e1 : spec_DrawSolve.f (k + 1) l = some (p, r, c, o, b)) (e2 : impl_Solve.f (k + 1) p r c o b = some ([], e)) (e3 : impl_Certificate.f (k + 1) p r c o b = some ([], e)) (h0 : e ≠ 0) (h3 : e ≠ 3) : laws_FnSolve.f (k + 1) l = some true := by
  unfold laws_FnSolve.f
  rw [e0, Option.bind_some, if_neg (by simp), e1, Option.bind_some]
  dsimp only
  rw [e2, Option.bind_some, e3, Option.bind_some]
  dsimp only
  rw [if_neg h0, show (e != 3) = true from bne_iff_ne.mpr h3]
  rw [laws_FnSolve.j0]
  rw [if_pos rfl, if_pos rfl, if_pos (by simp)]
  rfl
theorem chain_sol {k : Nat} {l b o x : List Int} {p r c : Int} (e0 : laws_b10Long.f l = some false) (e1 : spec_DrawSolve.f (k + 1) l = some (p, r, c, o, b)) (e2 : impl_Solve.f (k + 1) p r c o b = some (x, 0)) (e3 : impl_Certificate.f (k + 1) p r c o b = some ([], 3))
    (e4 : spec_ApplyMatrix.f k p r c o x = some (b, 0)) (e5 : laws_b10Nums.f k b b = some true) : laws_FnSolve.f (k + 1) l = some true := by
  unfold laws_FnSolve.f
  rw [e0, Option.bind_some, if_neg (by simp), e1, Option.bind_some]
  dsimp only
  rw [e2, Option.bind_some, e3, Option.bind_some]
  dsimp only
  rw [if_pos rfl]
  rw [laws_FnSolve.j0]
  rw [if_neg (by simp), if_neg (by decide), if_pos rfl, e4, Option.bind_some]
  dsimp only
  rw [if_pos rfl, if_pos rfl, e5, Option.bind_some]
theorem chain_crt {k : Nat} {l b o y T z : List Int} {p r c p' r' c' : Int} (e0 : laws_b10Long.f l = some false) (e1 : spec_DrawSolve.f (k + 1) l = some (p, r, c, o, b)) (e2 : impl_Solve.f (k + 1) p r c o b = some ([], 3)) (e3 : impl_Certificate.f (k + 1) p r c o b = some (y, 0))
    (e4 : spec_Transpose.f k p r c o = some (p', r', c', T, 0)) (e5 : spec_ApplyMatrix.f k p' r' c' T y = some (z, 0)) (e6 : spec_DotOf.f k y b p = some (1, 0)) (e7 : laws_b10Zero.f k z = some true) : laws_FnSolve.f (k + 1) l = some true := by
  unfold laws_FnSolve.f
  rw [e0, Option.bind_some, if_neg (by simp), e1, Option.bind_some]
  dsimp only
  rw [e2, Option.bind_some, e3, Option.bind_some]
  dsimp only
  rw [if_neg (by decide), show ((3 : Int) != 3) = false from rfl]
  rw [laws_FnSolve.j0]
  rw [if_neg (by simp), if_neg (by decide), if_neg (by decide), e4, Option.bind_some]
  dsimp only
  rw [e5, Option.bind_some, e6, Option.bind_some]
  dsimp only
  rw [if_pos rfl, if_pos rfl, e7, Option.bind_some, if_pos rfl, if_pos rfl]
  rfl
theorem slv_yes {p : Int} {C : Nat} {aug : List (List Int)} (h : solvable p C aug) : slvOf p C aug = (solOf p C aug, true) := by
  unfold slvOf solOf
  rw [if_neg (not_in h)]
theorem slv_no {p : Int} {C : Nat} {aug : List (List Int)} (h : ¬ solvable p C aug) : slvOf p C aug = ([], false) := by
  unfold slvOf
  rw [if_pos (Classical.byContradiction (fun hc => h (fun k hk e => hc (by rw [← e]; exact getD_mem hk))))]
theorem sx_ok {p : Int} (hp : 2 ≤ p) {F : List (List Int)} {m : Nat} (hF : RowsOk p m F) (piv : List Int) (n : Nat) : ∀ i, ∀ y ∈ sx F piv n i, 0 ≤ y ∧ y < p
  | 0 => fun y hy => by
    have := (List.mem_replicate.mp hy).2
    omega
  | i + 1 => fun y hy => by
    rcases List.mem_or_eq_of_mem_set hy with h | h
    · exact sx_ok hp hF piv n i y h
    · rw [h]; exact rangeC hp hF i n
theorem solOf_ok {p : Int} (hp : isP p = true) {C : Nat} {aug : List (List Int)} (hok : RowsOk p (C + 1) aug) : (∀ y ∈ solOf p C aug, 0 ≤ y ∧ y < p) ∧ (solOf p C aug).length = C := by
  obtain ⟨t1, _⟩ := elimTo_small hp hok (C + 1) (Nat.le_refl _)
  exact ⟨sx_ok (isP_ge hp).1 t1 _ _ _, sx_length _ _ _ _⟩
theorem dotS_range {a b : List Int} (h : a.length = b.length) : dotS a b = ((List.range a.length).map (fun i => a.getD i 0 * b.getD i 0)).sum := by
  unfold dotS
  refine congrArg List.sum (List.ext_getElem (by simp [h]) (fun i h1 h2 => ?_))
  have ha : i < a.length := by simp at h2; omega
  simp [List.getD_eq_getElem?_getD, ha, (show i < b.length by omega)]
theorem crt_cell {R C i j : Nat} (l b : List Int) (hj : j < C) (hi : i < R) : cell (crtRows R C l b) j i = l.getD (i * C + j) 0 := by
  unfold cell crtRows
  have h : j < (colsM R C l).length := by unfold colsM; simpa using hj
  have e : (colsM R C l ++ [b]).getD j [] = (colsM R C l).getD j [] := by rw [List.getD_eq_getElem?_getD, List.getD_eq_getElem?_getD, List.getElem?_append_left h]
  rw [e]
  unfold colsM
  simp [List.getD_eq_getElem?_getD, hj, hi]
theorem crt_last {R C : Nat} (l b : List Int) (i : Nat) : cell (crtRows R C l b) C i = b.getD i 0 := by
  unfold cell crtRows
  have h : (colsM R C l).length = C := by unfold colsM; simp
  have e : (colsM R C l ++ [b]).getD C [] = b := by
    rw [List.getD_eq_getElem?_getD, List.getElem?_append_right (by omega), h]
    simp
  rw [e]
theorem goal_lt {C j : Nat} (hj : j < C) : (crtGoal C).getD j 0 = 0 := by
  unfold crtGoal
  rw [List.getD_eq_getElem?_getD, List.getElem?_set, if_neg (by omega)]
  simp [show j < C + 1 by omega]
theorem goal_at (C : Nat) : (crtGoal C).getD C 0 = 1 := by
  unfold crtGoal
  rw [List.getD_eq_getElem?_getD, List.getElem?_set, if_pos rfl, if_pos (by simp)]
  rfl
section
variable {q : Nat} [NeZero q] {R C : Nat} {l b : List Int}
theorem fm_mat {i j : Nat} (hi : i < R) (hj : j < C) : fm q (augM R C l b) i j = phi q (l.getD (i * C + j) 0) := by
  unfold fm; rw [augM_cell l b hi (by omega), if_pos hj]
theorem fm_rhs {i : Nat} (hi : i < R) : fm q (augM R C l b) i C = phi q (b.getD i 0) := by
  unfold fm; rw [augM_cell l b hi (by omega), if_neg (by omega)]
theorem either_of (hp : isP (q : Int) = true) (hv : ∀ j, 0 ≤ l.getD j 0 ∧ l.getD j 0 < q) (hbl : b.length = R) (hb : ∀ j, 0 ≤ b.getD j 0 ∧ b.getD j 0 < q) :
    (solvable q C (augM R C l b) ∧ ¬ solvable q R (crtAug R C l b) ∧ applied q R C l (solOf q C (augM R C l b)) = b) ∨
    (¬ solvable q C (augM R C l b) ∧ solvable q R (crtAug R C l b) ∧ (∀ j, j < C → (applied q C R (turned R C l) (solOf q R (crtAug R C l b))).getD j 0 = 0) ∧ dotS (solOf q R (crtAug R C l b)) b % q = 1) := by
  have h2 := isP_ge hp
  have hok := augM_ok h2.1 (R := R) (C := C) hv hb
  have hok2 : RowsOk q (R + 1) (crtAug R C l b) := augM_ok h2.1 (crtL_ok h2.1 hv hbl hb) (crtGoal_ok h2.1 C)
  have cc : ∀ i j, j < C + 1 → i < R → cell (crtAug R C l b) j i = cell (crtRows R C l b) j i := fun i j hj hi => by
    unfold crtAug; rw [augM_cell _ _ hj (by omega), if_pos hi]; unfold crtL; rw [tab_at _ hj hi]
  have cg : ∀ j, j < C + 1 → cell (crtAug R C l b) j R = (crtGoal C).getD j 0 := fun j hj => by
    unfold crtAug; rw [augM_cell _ _ hj (by omega), if_neg (by omega)]
  have hx := solOf_ok hp hok
  have hy := solOf_ok hp hok2
  have e := either_or (p := q) (n := C) (m := R) hp hok (augM_length R C l b) hok2 (augM_length (C + 1) R _ _)
    (fun i j hi hj => by rw [cc i j (by omega) hi, crt_cell l b hj hi, augM_cell l b hi (by omega), if_pos hj])
    (fun i hi => by rw [cc i C (by omega) hi, crt_last, augM_cell l b hi (by omega), if_neg (by omega)])
    (fun j hj => by rw [cg j (by omega), goal_lt hj]) (by rw [cg C (by omega), goal_at])
  rcases e with ⟨a1, a2, a3⟩ | ⟨a1, a2, a3, a4⟩
  · refine .inl ⟨a1, a2, ext_getD (by rw [applied_length, hbl]) (fun i hi => ?_)⟩
    rw [applied_length] at hi
    have g1 := applied_range hp R C l (solOf q C (augM R C l b)) i
    have g2 := hb i
    refine phi_inj g1.1 g1.2 g2.1 g2.2 ?_
    rw [phi_applied _ _ hi, ← fm_rhs (C := C) (l := l) hi, ← a3 i hi]
    exact sm_congr (fun t ht => by rw [fm_mat hi ht])
  · refine .inr ⟨a1, a2, fun j hj => ?_, ?_⟩
    · have g1 := applied_range hp C R (turned R C l) (solOf q R (crtAug R C l b)) j
      refine (phi_zero_iff g1.1 g1.2).mp ?_
      rw [phi_applied _ _ hj, ← a3 j hj]
      refine sm_congr (fun t ht => ?_)
      rw [fm_mat ht hj]
      unfold turned
      rw [tab_at _ hj ht]
    · have g1 : 0 ≤ dotS (solOf q R (crtAug R C l b)) b % q ∧ dotS (solOf q R (crtAug R C l b)) b % q < q := ⟨Int.emod_nonneg _ (by omega), Int.emod_lt_of_pos _ (by omega)⟩
      refine phi_inj (p := q) g1.1 g1.2 (by omega) (by omega) ?_
      rw [phi_emod, phi_one, ← a4, dotS_range (by rw [hy.2, hbl]), phi_sum, hy.2]
      refine sm_congr (fun t ht => ?_)
      rw [fm_rhs ht, phi_mul]
end
theorem FnSolve_pure : laws_FnSolve.Pure := by
  intro l _ _ hl
  have hl := bytesR_of hl
  obtain ⟨K, hK⟩ : ∃ K : Nat, 20000 ≤ K := ⟨20000, Nat.le_refl _⟩
  refine ⟨K + 1, ?_⟩
  by_cases c1 : (l.length : Int) > 1048576
  · unfold laws_FnSolve.f laws_b10Long.f
    rw [decide_eq_true c1, Option.bind_some, if_pos rfl]
  · have e0 : laws_b10Long.f l = some false := by unfold laws_b10Long.f; rw [decide_eq_false c1]
    obtain ⟨p, r, c, o, b, e1⟩ := drawSolve_tells hl (k := K + 1) (by omega)
    have e2 := implSolveM p r c (l := o) (b := b) (k := K + 1) (by omega)
    have e3 := implCertM p r c (l := o) (b := b) (k := K + 1) (by omega)
    unfold solRes at e2
    unfold crtRes at e3
    by_cases h : askOf p r c o b = 0
    · obtain ⟨h1, h2⟩ := ask_zero h
      have hp := (matOk_iff.mp h1).1
      have hp2 := isP_ge hp
      obtain ⟨R, C, rfl, rfl, hR, hC, hol, hv, hbl, hb⟩ := ask_dims h1 h2
      obtain ⟨q, rfl⟩ := Int.eq_ofNat_of_zero_le (show 0 ≤ p by omega)
      haveI : NeZero q := ⟨by omega⟩
      rw [if_pos h, Int.toNat_natCast, Int.toNat_natCast] at e2 e3
      have hRC := side_mul (r := R) (c := C) (by omega) (by omega)
      have hsm : R * C ≤ 32 * 32 := Nat.mul_le_mul hR hC
      rcases either_of (C := C) hp hv hbl hb with ⟨a1, a2, a3⟩ | ⟨a1, a2, a3, a4⟩
      · obtain ⟨x1, x2⟩ := solOf_ok hp (augM_ok hp2.1 (R := R) (C := C) hv hb)
        rw [slv_yes a1, if_pos rfl] at e2
        rw [slv_no a2, if_neg (by simp)] at e3
        have e4 := spec_applyM q R C (l := o) (v := solOf q C (augM R C o b)) (by omega) (by omega) (k := K) (by omega)
        unfold applyOut at e4
        rw [if_pos (by rw [h1, allM_iff.mpr x1, decide_eq_true (by omega)]; rfl), Int.toNat_natCast, Int.toNat_natCast, a3] at e4
        exact chain_sol e0 e1 e2 e3 e4 (nums_tells (by omega) (by omega))
      · obtain ⟨y1, y2⟩ := solOf_ok hp (aug := crtAug R C o b) (augM_ok hp2.1 (crtL_ok hp2.1 hv hbl hb) (crtGoal_ok hp2.1 C))
        rw [slv_no a1, if_neg (by simp)] at e2
        rw [slv_yes a2, if_pos rfl] at e3
        have htl : (turned R C o).length = C * R := by unfold turned; rw [tab_length]
        have hCR : C * R ≤ 32 * 32 := Nat.mul_le_mul hC hR
        have mT : matOk q C R (turned R C o) = true := matOk_of hp (by omega) (by omega) htl (by unfold turned; exact okTab hp2.1 (fun i j _ _ => hv _))
        have e4 := spec_turnM q R C (l := o) (by omega) (k := K) (by omega)
        unfold turnOut at e4
        rw [if_pos h1, Int.toNat_natCast, Int.toNat_natCast] at e4
        have e5 := spec_applyM q C R (l := turned R C o) (v := solOf q R (crtAug R C o b)) (by omega) (by omega) (k := K) (by omega)
        unfold applyOut at e5
        rw [if_pos (by rw [mT, allM_iff.mpr y1, decide_eq_true (by omega)]; rfl), Int.toNat_natCast, Int.toNat_natCast] at e5
        have e6 : spec_DotOf.f K (solOf q R (crtAug R C o b)) b q = some (1, 0) := by
          have hz : codeTwo (solOf q R (crtAug R C o b)) b q = 0 := codeTwo_zero.mpr ⟨hp, by omega, y1, (rhsOk_iff.mp h2).2, by omega⟩
          unfold spec_DotOf.f
          rw [two_tells q (by omega) (by omega) (by omega), hz, Option.bind_some, if_pos rfl, dotSpec_tells hp2.1 hp2.2 (by omega) (by omega) (fun j => vec_range hp2.1 y1 j) hb (by omega), Option.bind_some, a4]
        exact chain_crt e0 e1 e2 e3 e4 e5 e6 (zeroV_tells (by rw [applied_length]; omega) (fun j hj => a3 j (by rw [applied_length] at hj; exact hj)) (by omega))
    · rw [if_neg h] at e2 e3
      have h3 : askOf p r c o b ≠ 3 := by
        unfold askOf
        split
        · split <;> omega
        · omega
      exact chain_bad e0 e1 e2 e3 h h3
end Go.Proofs.Ytmbbjmkcbpefhaa.F
namespace Go.Proofs.Ytmbbjmkcbpefhaa.Pure
theorem FnSolve : F.laws_FnSolve.Pure := F.FnSolve_pure
end Go.Proofs.Ytmbbjmkcbpefhaa.Pure
end

section
-- PRINTED BY print.sh 35421559b90ae4d0a3588c463048766b98c2df88dd9212a6774a882060cdf62d: not written by this session
-- PRINTED WORDS (module Derived/Print/Sized.lean): go-gate-2's, for the rows of laws over slices: an AI agent of Go's test side, Tue Nov 17 2026; no person has read it. Lean checks it.
namespace Go.Proofs.YtmbbjmkcbpefhaaW.PrintWords
open Go.ChangeShapes Go.WideShapes
theorem sized_ints {H : Type} {enc : TypeId × Value → H} {P : Program} {W : World} {base : Nat} {spare : Nat → Bool} {held : Bool} {t e : TypeId} {k : IntKind} {a : Option Addr} {len cap : Nat} {d : DataW H} {ps : List MemPlace} {ts : List TypeId} {ds : List (DataW H)} {j : Nat}
    (hsz : (DataW.weightsEach P ts ds).all (· ≤ reachBytes) = true) (ht : ts[j]? = some t) (hd : ds[j]? = some d) (hu : P.underlying t = some (.slice e)) (he : P.underlying e = some (.int k)) (hc : P.cellsOf e = 1) {B : Nat} (hB : P.bytesOf e = B)
    (h : DataW.Trod enc P W base spare held t (.slice a len cap) d ps) : len * B ≤ 140737488351232 := by
  obtain ⟨fuel, hf⟩ := h
  rcases open_ints hu he hc hf with ⟨hcs, _⟩ | ⟨x, l, c, zs, hcs, _, hl, _, hz, hx, _, _⟩
  · simp [Value.cells] at hcs
    obtain ⟨rfl, rfl, rfl⟩ := hcs
    simp
  · simp [Value.cells] at hcs
    obtain ⟨rfl, rfl, rfl⟩ := hcs
    obtain ⟨hx, _⟩ := Prod.mk.inj hx
    subst hx
    have z := sized_slice hsz ht hd hu
    rw [hB] at z
    have hl2 : len ≤ zs.length := by
      rw [hz]
      split
      · exact hl
      · exact Nat.le_refl _
    have h1 : (lits (H := H) k (zs.take len)).length + (lits (H := H) k (zs.drop len)).length = zs.length := by
      simp [lits]
      omega
    rw [h1] at z
    exact Nat.le_trans (Nat.mul_le_mul_right _ hl2) z
end Go.Proofs.YtmbbjmkcbpefhaaW.PrintWords
end

section
namespace Go.Proofs.Ytmbbjmkcbpefhaa.fnSolve
open Go.ChangeShapes Go.WideShapes Go.ChangeAt Go.RowKit
open Go.ChangeMaps (open_string shut_string)
set_option linter.unusedVariables false
theorem own : ownKnob Try.prog.godebug = none := by kernel_rfl
theorem laidOut : laidOutB Try.prog = true := by kernel_rfl
def IsRow (k : IntKind) (w : World) (a : Option Addr) (len cap : Nat) (zs : List Int) : Prop :=
  (a = none ∧ len = 0 ∧ cap = 0 ∧ zs = []) ∨
  ∃ x, a = some x ∧ len ≤ cap ∧ cap ≤ maxLen ∧ zs.length = cap ∧ (∀ i, i < zs.length → w.cell? (x.add i) = some (.int k (zs.getD i 0))) ∧ ∀ n ∈ zs, (Lit.int k n).wf = true
set_option maxRecDepth 100000 in
theorem lifted (os : Os) (started : os.Started) (H : Type) (enc : TypeId × Value → H) :
    ReturnsInHanded {} Try.checked os 6 .any (Rows.fnSolveSpec.pre6 enc Try.prog Try.f6 Rows.fnSolveRow.domain false) (Rows.fnSolveSpec.post enc Try.prog Try.f6 false true false false) := by
  refine returnsInHanded_of_change_sized (C := Try.checked) own started (by kernel_rfl) Try.func6
    (ChangeSpec.witness6 (enc := enc) (C := Try.checked) false ⟨#[], #[.slice none 0 0], []⟩ 8 (by kernel_rfl) (by kernel_rfl) (by kernel_rfl) (by kernel_rfl)) ?_
  intro W base args ds gs before hval0 hW hcnd hsz0 _
  have hsz : (DataW.weightsEach Try.prog (Try.f6.params.toList ++ Rows.fnSolveSpec.plain.varTypes Try.prog) (ds ++ gs)).all (· ≤ reachBytes) = true := hsz0
  have hval : ∀ (j : Nat) t v, Try.f6.params[j]? = some t → args[j]? = some v → Value.okWide Try.prog W .any base t v := hval0
  have hW' := hW
  obtain ⟨p, q, hA0, hV, rfl, hfz, hnd⟩ := hW
  have hA : DataW.TrodAll enc Try.prog W 0 (fun _ => true) true Try.f6.params.toList args.toList ds p := hA0
  rw [Try.params6] at hA hval hsz
  obtain ⟨v0, vs0, d0, ds0, p0, q0, hargs, rfl, rfl, h0, r0⟩ := trodAll_cons hA
  obtain ⟨rfl, rfl, rfl⟩ := trodAll_nil r0
  obtain rfl : args = #[v0] := by cases args; simp_all
  obtain ⟨rfl, rfl⟩ := trodVars_none hV
  obtain ⟨a0, len0, cap0, rfl⟩ := okWide_slice Try.underlying45 (hval 0 45 v0 rfl rfl)
  have k0 := h0
  have lt0 : ∀ x ∈ p0, x.block < W.heap.size := by obtain ⟨m, hm⟩ := k0; exact DataW.trod_lt m _ _ _ hm
  obtain ⟨z0, w0⟩ : ∃ zs, IsRow .u8 W a0 len0 cap0 zs := by
    obtain ⟨fuel, hf⟩ := h0
    rcases open_ints Try.underlying45 Try.underlying5 (by kernel_rfl) hf with ⟨hcs, _⟩ | ⟨x, l, c, zs, hcs, _, hl, hm, hz, _, hcell, hwz⟩
    · simp [Value.cells] at hcs
      obtain ⟨rfl, rfl, rfl⟩ := hcs
      exact ⟨[], .inl ⟨rfl, rfl, rfl, rfl⟩⟩
    · simp [Value.cells] at hcs
      obtain ⟨rfl, rfl, rfl⟩ := hcs
      exact ⟨zs, .inr ⟨_, rfl, hl, hm, by simpa using hz, hcell, hwz⟩⟩
  have y0 : len0 * 1 ≤ 140737488351232 := Go.Proofs.YtmbbjmkcbpefhaaW.PrintWords.sized_ints hsz (j := 0) (t := 45) rfl rfl Try.underlying45 Try.underlying5 (by kernel_rfl) (by kernel_rfl) h0
  clear hA0 hval0 hsz0 hsz
  refine (F.laws_FnSolve.walk Pure.FnSolve a0 len0 cap0 z0 W w0 y0).mono fun e W' ⟨he, bel⟩ => ?_
  subst he
  exact ⟨_, rfl, _, _, _, [], _, [], hW', trodAll_mk1 (shut_bool Try.underlying4 _), (trodAll_cons_mk (Below.trod laidOut (by kernel_rfl) (of_decide_eq_true (by kernel_rfl)) k0 bel lt0) trodAll_mk0), rfl, bel.frame _, fun h => by cases h⟩
theorem over : Rows.fnSolveRow.holds Try.pinned (OpenSpec.ofChange Rows.fnSolveSpec) :=
  OpenClaim.holds_of_wide 6 Try.f6 rfl rfl rfl rfl rfl rfl rfl ⟨rfl, rfl, rfl, rfl, rfl⟩ rfl rfl rfl rfl rfl (by kernel_rfl) Try.func6 (by kernel_rfl)
    (of_decide_eq_true (by kernel_rfl)) (by unfold Func.isWrapper; first | (rw [if_pos (by decide +kernel)]; kernel_rfl) | (rw [if_neg (by decide +kernel)]; exact ⟨rfl, rfl⟩))
    (fun os started H enc _ => lifted os started H enc)
theorem proved : Rows.FnSolveSaid := over
#print axioms proved
end Go.Proofs.Ytmbbjmkcbpefhaa.fnSolve
namespace Go.Proofs.Ytmbbjmkcbpefhaa
theorem fnSolve_holds : Rows.FnSolveSaid := fnSolve.proved
end Go.Proofs.Ytmbbjmkcbpefhaa
end
