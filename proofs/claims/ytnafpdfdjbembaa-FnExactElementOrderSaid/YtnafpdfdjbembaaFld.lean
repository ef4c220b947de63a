import Derived.Test.YtnafpdfdjbembaaFx4
import Derived.Test.YtnafpdfdjbembaaFx11
import Derived.Test.YtnafpdfdjbembaaFx12
import Derived.Test.YtnafpdfdjbembaaNum
import Derived.KernelRfl
set_option linter.unusedVariables false
set_option linter.unusedSimpArgs false
set_option linter.unusedSectionVars false
namespace Go.Proofs.Ytnafpdfdjbembaa.F
open Go.RowKit Go.Proofs.YtnafpdfdjbembaaW.PrintWords Go.Proofs.YtnafpdfdjbembaaW.PrintLast Go.Proofs.Ytnafpdfdjbembaa.Lin

/-- All numbers of a list are numbers modulo p. -/
def allIn (l : List Int) (p : Int) : Bool := l.all fun x => decide (0 ≤ x) && decide (x < p)
theorem allIn_iff {l : List Int} {p : Int} : allIn l p = true ↔ ∀ x, x ∈ l → 0 ≤ x ∧ x < p := by unfold allIn; simp
/-- The first error of a prime and numbers modulo it. -/
def codeOf (p : Int) (l : List Int) : Int := if isP p = true then (if allIn l p = true then 0 else 2) else 1
theorem areElements_tells {l : List Int} {p : Int} (hp : isP p = true) : impl_areElements.f l p = some (allIn l p) := by
  have := isP_ge hp
  unfold impl_areElements.f allIn
  rw [w64_id (x := p - 1) (by omega) (by omega)]
  congr 1
  induction l with
  | nil => rfl
  | cons x l ih =>
    simp only [List.any_cons, List.all_cons, Bool.not_or, Bool.not_not]
    rw [ih]
    congr 2
    rw [decide_eq_decide]; omega
theorem elements_tells (p : Int) (l : List Int) {k : Nat} (hk : 20 ≤ k) : impl_elements.f k p l = some (codeOf p l) := by
  unfold impl_elements.f codeOf
  rw [ask_prime, prime_tells p hk]
  by_cases h : isP p = true
  · rw [h]
    simp only [Option.bind_some, if_true, areElements_tells h]
    by_cases h2 : allIn l p = true
    · simp [h2]
    · simp [h2]
  · simp [h]
theorem ask_tells (a p : Int) {k : Nat} (hk : 20 ≤ k) : spec_l02Ask.f k a p = some (codeOf p [a]) := by
  unfold spec_l02Ask.f codeOf
  rw [prime_tells p hk]
  by_cases h : isP p = true
  · have := isP_ge h
    rw [h]
    simp only [Option.bind_some, if_true, in_tells]
    rw [w64_id (x := p - 1) (by omega) (by omega)]
    have e : decide (0 ≤ a ∧ a ≤ p - 1) = allIn [a] p := by
      unfold allIn
      simp only [List.all_cons, List.all_nil, Bool.and_true]
      rw [← Bool.decide_and, decide_eq_decide]; omega
    rw [e]
    by_cases h2 : allIn [a] p = true
    · simp [h2]
    · simp [h2]
  · simp [h]
theorem codeOf_zero {p : Int} {l : List Int} : codeOf p l = 0 ↔ isP p = true ∧ ∀ x, x ∈ l → 0 ≤ x ∧ x < p := by
  unfold codeOf
  by_cases h : isP p = true
  · by_cases h2 : allIn l p = true
    · rw [if_pos h, if_pos h2]; exact ⟨fun _ => ⟨h, allIn_iff.mp h2⟩, fun _ => rfl⟩
    · rw [if_pos h, if_neg h2]; exact ⟨fun e => absurd e (by decide), fun e => absurd (allIn_iff.mpr e.2) h2⟩
  · simp [h]
end Go.Proofs.Ytnafpdfdjbembaa.F
