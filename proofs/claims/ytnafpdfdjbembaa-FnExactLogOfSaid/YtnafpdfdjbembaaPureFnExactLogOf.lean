/- Both functions refuse the same numbers, and their loops go the same way, at most p - 1 steps. -/
import Derived.Test.YtnafpdfdjbembaaFx15
import Derived.Test.YtnafpdfdjbembaaFx16
import Derived.Test.YtnafpdfdjbembaaFx17
import Derived.Test.YtnafpdfdjbembaaGen
import Derived.KernelRfl
set_option linter.unusedVariables false
set_option linter.unusedSimpArgs false
set_option linter.unusedSectionVars false
namespace Go.Proofs.Ytnafpdfdjbembaa.F
open Go.RowKit Go.Proofs.YtnafpdfdjbembaaW.PrintWords Go.Proofs.YtnafpdfdjbembaaW.PrintLast Go.Proofs.Ytnafpdfdjbembaa.Lin

theorem same_log_loop (x0 x1 x2 : Int) : ∀ (k : Nat) (x9 x10 : Int), spec_LogOf.l0 k x0 x1 x2 x9 x10 = impl_LogOf.l0 k x0 x1 x2 x9 (wrap64 (x2 - 1)) x10 := by
  intro k
  induction k with
  | zero => intro x9 x10; simp only [spec_LogOf.l0, impl_LogOf.l0]
  | succ k ih => intro x9 x10; simp only [spec_LogOf.l0, impl_LogOf.l0]; rw [ih]
theorem log_ends {a b p : Int} (hp : 2 ≤ p) (hp' : p ≤ 251) (d : Nat) : ∀ (k i : Nat) (x : Int), (p - 1).toNat - i = d → i ≤ (p - 1).toNat → d < k → ∃ r, impl_LogOf.l0 k a b p x (p - 1) i = some r := by
  induction d with
  | zero =>
    intro k i x hd hi hk
    obtain ⟨k, rfl⟩ : ∃ m, k = m + 1 := ⟨k - 1, by omega⟩
    have hf : ¬ (i : Int) < p - 1 := by omega
    simp only [impl_LogOf.l0, hf, if_false]
    exact ⟨_, rfl⟩
  | succ d ih =>
    intro k i x hd hi hk
    obtain ⟨k, rfl⟩ : ∃ m, k = m + 1 := ⟨k - 1, by omega⟩
    have ht : (i : Int) < p - 1 := by omega
    have hp0 : ¬ p = 0 := by omega
    have e2 : wrap64 ((i : Int) + 1) = ((i + 1 : Nat) : Int) := by rw [w64_id (x := (i : Int) + 1) (by omega) (by omega)]; omega
    by_cases hc : x = a
    · simp only [impl_LogOf.l0, ht, hc, if_true]; exact ⟨_, rfl⟩
    · simp only [impl_LogOf.l0, ht, hc, hp0, if_true, if_false]
      rw [e2]
      exact ih k (i + 1) _ (by omega) (by omega) (by omega)
theorem codeOf_two (p a b : Int) : codeOf p [a, b] = if codeOf p [a] = 0 then codeOf p [b] else codeOf p [a] := by
  unfold codeOf allIn
  by_cases hp : isP p = true
  · simp only [hp, if_true, List.all_cons, List.all_nil, Bool.and_true]
    cases h : (decide (0 ≤ a) && decide (a < p)) <;> simp
  · simp [hp]
theorem FnExactLogOf_pure : laws_FnExactLogOf.Pure := by
  intro a b p _ _ _
  refine ⟨301, ?_⟩
  unfold laws_FnExactLogOf.f spec_LogOf.f impl_LogOf.f
  rw [ask_tells a p (by omega), ask_tells b p (by omega), elements_tells p [a, b] (by omega)]
  have e := codeOf_two p a b
  by_cases h : codeOf p [a, b] = 0
  · obtain ⟨hp, hr⟩ := codeOf_zero.mp h
    have hp2 := isP_ge hp
    have ea : codeOf p [a] = 0 := codeOf_zero.mpr ⟨hp, fun x hx => hr x (by simp at hx; simp [hx])⟩
    have eb : codeOf p [b] = 0 := codeOf_zero.mpr ⟨hp, fun x hx => hr x (by simp at hx; simp [hx])⟩
    by_cases ha : a = 0
    · subst ha
      simp [h, ea, eb, spec_LogOf.j0, spec_LogOf.j1, spec_LogOf.j2, impl_LogOf.j0]
    · by_cases hb : b = 0
      · subst hb
        simp [h, ha, ea, eb, spec_LogOf.j0, spec_LogOf.j1, spec_LogOf.j2, impl_LogOf.j0]
      · obtain ⟨r, e1⟩ := log_ends (a := a) (b := b) hp2.1 hp2.2 (p - 1).toNat 298 0 1 (by omega) (by omega) (by omega)
        have e2 := at_rounds (fun k => (impl_LogOf.mono_l k).2 a b p 1 (p - 1) 0) (show 298 ≤ 300 by omega) e1
        have w : wrap64 (p - 1) = p - 1 := w64_id (by omega) (by omega)
        have hbb : (b == 0) = false := by simp [hb]
        simp only [h, ea, eb, ha, hbb, Option.bind_some, if_true, if_false, Bool.false_eq_true, spec_LogOf.j0, spec_LogOf.j1, spec_LogOf.j2, impl_LogOf.j0, same_log_loop, w]
        rw [show (0 : Int) = ((0 : Nat) : Int) from rfl] at *
        rw [e1, e2]
        simp
  · have hc : ¬ codeOf p [a, b] = 0 := h
    rw [e] at h
    by_cases ea : codeOf p [a] = 0
    · rw [if_pos ea] at h e
      simp [e, ea, h, spec_LogOf.j0, spec_LogOf.j1, spec_LogOf.j2]
    · rw [if_neg ea] at e
      simp [e, ea, spec_LogOf.j0, spec_LogOf.j1, spec_LogOf.j2]
end Go.Proofs.Ytnafpdfdjbembaa.F
namespace Go.Proofs.Ytnafpdfdjbembaa.Pure
theorem FnExactLogOf : F.laws_FnExactLogOf.Pure := F.FnExactLogOf_pure
end Go.Proofs.Ytnafpdfdjbembaa.Pure
