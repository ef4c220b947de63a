/- Both functions refuse the same sides and return the same unit matrix, in memory of its own. -/
import Derived.Test.YtioooobmfcmefaaFx90
import Derived.Test.YtioooobmfcmefaaFx93
import Derived.Test.YtioooobmfcmefaaFx94
import Derived.Test.YtioooobmfcmefaaUni
import Derived.Test.YtioooobmfcmefaaMat
import Derived.KernelRfl
set_option linter.unusedVariables false
set_option linter.unusedSimpArgs false
set_option linter.unusedSectionVars false
namespace Go.Proofs.Ytioooobmfcmefaa.F
open Go.RowKit Go.Proofs.YtioooobmfcmefaaW.PrintWords Go.Proofs.YtioooobmfcmefaaW.PrintLast Go.Proofs.Ytioooobmfcmefaa.Lin

def unitOut (p r : Int) : Int × Int × Int × List Int × Int := if isP p = true then (if 0 ≤ r ∧ r ≤ 32 then (p, r, r, tab r.toNat r.toNat unitAt, 0) else (0, 0, 0, [], 2)) else (0, 0, 0, [], 1)
theorem spec_unitM (p r : Int) {k : Nat} (hk : 200 ≤ k) : spec_UnitMatrix.f k p r = some (unitOut p r) := by
  unfold spec_UnitMatrix.f unitOut
  rw [specPrime_tells p (by omega)]
  cases hp : isP p with
  | false => simp
  | true =>
    rw [in_tells]
    by_cases h1 : 0 ≤ r ∧ r ≤ 32
    · have e := specUnit_tells (n := r.toNat) (by omega) p (k := k) (by omega)
      rw [show ((r.toNat : Nat) : Int) = r by omega] at e
      simp [h1, e]
    · simp only [h1, decide_false]; simp
theorem impl_unitM (p r : Int) {k : Nat} (hk : 17000 ≤ k) : impl_UnitMatrix.f k p r = some (unitOut p r) := by
  unfold impl_UnitMatrix.f unitOut
  rw [ask_prime, prime_tells p (by omega)]
  cases hp : isP p with
  | false => simp
  | true =>
    rw [side_tells]
    by_cases h1 : 0 ≤ r ∧ r ≤ 32
    · have e := implUnit_tells (n := r.toNat) (by omega) p hk
      rw [show ((r.toNat : Nat) : Int) = r by omega] at e
      simp [h1, e]
    · simp only [h1, decide_false]; simp
theorem unitOut_length (p r : Int) : (unitOut p r).2.2.2.1.length ≤ 16384 := by
  unfold unitOut
  split
  · split
    · rw [tab_length]; exact side_mul (by omega) (by omega)
    · simp
  · simp
theorem FnExactUnitMatrix_pure : laws_FnExactUnitMatrix.Pure := by
  intro p r _ _
  have ho := unitOut_length p r
  have c2 : ∀ k, 17000 ≤ k → spec_UnitMatrix.f k p r = some (unitOut p r) := fun k hk => spec_unitM p r (by omega)
  have c3 : ∀ k, 17000 ≤ k → impl_UnitMatrix.f k p r = some (unitOut p r) := fun k hk => impl_unitM p r (by omega)
  generalize unitOut p r = o at *
  obtain ⟨o1, o2, o3, o, code⟩ := o
  dsimp only at ho
  have c4 : ∀ k, 17000 ≤ k → laws_eqMatrix.f k o1 o2 o3 o o1 o2 o3 o = some true := fun k hk => eqMatrix_tells (by omega) (by omega)
  have c5 : ∀ k, 17000 ≤ k → laws_markMatrix.f k o1 o2 o3 o 1 = some (1 + (o.length : Int), iota 1 o.length) := fun k hk => markMatrix_tells (by omega) (by omega)
  have c6 : ∀ k, 17000 ≤ k → laws_heldMatrix.f k o1 o2 o3 (iota 1 o.length) 1 = some (1 + (o.length : Int)) := fun k hk => heldMatrix_tells (by omega) (by omega)
  have n2 : ¬ (1 + (o.length : Int) < 0) := by omega
  refine ⟨17000 + 1 + 1 + 1, ?_⟩
  unfold laws_FnExactUnitMatrix.f
  simp (disch := omega) only [Option.bind_some, if_true, if_false, bne_self_eq_false, Bool.false_eq_true, c2, c3, c4, c5, c6, n2]
  simp only [laws_FnExactUnitMatrix.j0]
  simp (disch := omega) only [Option.bind_some, if_true, if_false, bne_self_eq_false, Bool.false_eq_true, c2, c3, c4, c5, c6, n2]
  simp only [laws_FnExactUnitMatrix.j1]
  simp (disch := omega) only [Option.bind_some, if_true, if_false, bne_self_eq_false, Bool.false_eq_true, c2, c3, c4, c5, c6, n2]
end Go.Proofs.Ytioooobmfcmefaa.F
namespace Go.Proofs.Ytioooobmfcmefaa.Pure
theorem FnExactUnitMatrix : F.laws_FnExactUnitMatrix.Pure := F.FnExactUnitMatrix_pure
end Go.Proofs.Ytioooobmfcmefaa.Pure
