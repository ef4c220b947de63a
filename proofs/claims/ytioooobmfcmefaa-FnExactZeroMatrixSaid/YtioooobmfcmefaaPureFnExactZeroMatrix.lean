/- Both functions refuse the same sides and return the same matrix of zeros, in memory of its own. -/
import Derived.Test.YtioooobmfcmefaaFx97
import Derived.Test.YtioooobmfcmefaaFx98
import Derived.Test.YtioooobmfcmefaaFx99
import Derived.Test.YtioooobmfcmefaaMat
import Derived.KernelRfl
set_option linter.unusedVariables false
set_option linter.unusedSimpArgs false
set_option linter.unusedSectionVars false
namespace Go.Proofs.Ytioooobmfcmefaa.F
open Go.RowKit Go.Proofs.YtioooobmfcmefaaW.PrintWords Go.Proofs.YtioooobmfcmefaaW.PrintLast Go.Proofs.Ytioooobmfcmefaa.Lin

def zeroOut (p r c : Int) : Int × Int × Int × List Int × Int := if isP p = true then (if (0 ≤ r ∧ r ≤ 32) ∧ 0 ≤ c ∧ c ≤ 32 then (p, r, c, tab r.toNat c.toNat (fun _ _ => 0), 0) else (0, 0, 0, [], 2)) else (0, 0, 0, [], 1)
theorem spec_zeroM (p r c : Int) {k : Nat} (hk : 20 ≤ k) : spec_ZeroMatrix.f k p r c = some (zeroOut p r c) := by
  unfold spec_ZeroMatrix.f zeroOut
  rw [specPrime_tells p hk]
  cases hp : isP p with
  | false => simp
  | true =>
    rw [in_tells, in_tells]
    by_cases h1 : 0 ≤ r ∧ r ≤ 32
    · by_cases h2 : 0 ≤ c ∧ c ≤ 32
      · have e := zero_tells (r := r.toNat) (c := c.toNat) (by omega) (by omega) p
        rw [show ((r.toNat : Nat) : Int) = r by omega, show ((c.toNat : Nat) : Int) = c by omega] at e
        simp [h1, h2, e]
      · simp only [h1, h2, decide_true, decide_false]; simp
    · simp only [h1, decide_false]; simp
theorem impl_zeroM (p r c : Int) {k : Nat} (hk : 17000 ≤ k) : impl_ZeroMatrix.f k p r c = some (zeroOut p r c) := by
  unfold impl_ZeroMatrix.f zeroOut
  rw [ask_prime, prime_tells p (by omega)]
  cases hp : isP p with
  | false => simp
  | true =>
    rw [side_tells, side_tells]
    by_cases h1 : 0 ≤ r ∧ r ≤ 32
    · by_cases h2 : 0 ≤ c ∧ c ≤ 32
      · have e := filled_tells (cf := impl_zero_1.cell) (f := fun _ _ => 0) (r := r.toNat) (c := c.toNat) (by omega) (by omega) (fun _ _ _ _ => rfl) p 0 hk
        rw [show ((r.toNat : Nat) : Int) = r by omega, show ((c.toNat : Nat) : Int) = c by omega] at e
        unfold impl_zero.f
        simp [h1, h2, e]
      · simp only [h1, h2, decide_true, decide_false]; simp
    · simp only [h1, decide_false]; simp
theorem zeroOut_length (p r c : Int) : (zeroOut p r c).2.2.2.1.length ≤ 16384 := by
  unfold zeroOut
  split
  · split
    · rw [tab_length]; exact side_mul (by omega) (by omega)
    · simp
  · simp
theorem FnExactZeroMatrix_pure : laws_FnExactZeroMatrix.Pure := by
  intro p r c _ _ _
  have ho := zeroOut_length p r c
  have c2 : ∀ k, 17000 ≤ k → spec_ZeroMatrix.f k p r c = some (zeroOut p r c) := fun k hk => spec_zeroM p r c (by omega)
  have c3 : ∀ k, 17000 ≤ k → impl_ZeroMatrix.f k p r c = some (zeroOut p r c) := fun k hk => impl_zeroM p r c (by omega)
  generalize zeroOut p r c = o at *
  obtain ⟨o1, o2, o3, o, code⟩ := o
  dsimp only at ho
  have c4 : ∀ k, 17000 ≤ k → laws_eqMatrix.f k o1 o2 o3 o o1 o2 o3 o = some true := fun k hk => eqMatrix_tells (by omega) (by omega)
  have c5 : ∀ k, 17000 ≤ k → laws_markMatrix.f k o1 o2 o3 o 1 = some (1 + (o.length : Int), iota 1 o.length) := fun k hk => markMatrix_tells (by omega) (by omega)
  have c6 : ∀ k, 17000 ≤ k → laws_heldMatrix.f k o1 o2 o3 (iota 1 o.length) 1 = some (1 + (o.length : Int)) := fun k hk => heldMatrix_tells (by omega) (by omega)
  have n2 : ¬ (1 + (o.length : Int) < 0) := by omega
  refine ⟨17000 + 1 + 1 + 1, ?_⟩
  unfold laws_FnExactZeroMatrix.f
  simp (disch := omega) only [Option.bind_some, if_true, if_false, bne_self_eq_false, Bool.false_eq_true, c2, c3, c4, c5, c6, n2]
  simp only [laws_FnExactZeroMatrix.j0]
  simp (disch := omega) only [Option.bind_some, if_true, if_false, bne_self_eq_false, Bool.false_eq_true, c2, c3, c4, c5, c6, n2]
  simp only [laws_FnExactZeroMatrix.j1]
  simp (disch := omega) only [Option.bind_some, if_true, if_false, bne_self_eq_false, Bool.false_eq_true, c2, c3, c4, c5, c6, n2]
end Go.Proofs.Ytioooobmfcmefaa.F
namespace Go.Proofs.Ytioooobmfcmefaa.Pure
theorem FnExactZeroMatrix : F.laws_FnExactZeroMatrix.Pure := F.FnExactZeroMatrix_pure
end Go.Proofs.Ytioooobmfcmefaa.Pure
