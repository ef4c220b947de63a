-- Written by gprint.py, a program of this session's that drives the kit's print, for this claim. Not trusted: checked as any text.
import Derived.Test.YtepdfefgkhodlaaDoorFx0
import Derived.Test.YtepdfefgkhodlaaDoorFx24
import Derived.Test.YtepdfefgkhodlaaDoorFx25
namespace Go.Proofs.YtepdfefgkhodlaaDoor.F
open Go.RowKit Go.Proofs.YtepdfefgkhodlaaDoorW.PrintWords Go.Proofs.YtepdfefgkhodlaaDoorW.PrintLast Go.Proofs.YtepdfefgkhodlaaDoorW.PrintMore
attribute [local go_sem] max2_int min2_int max_two min_two max_three min_three max_four min_four   -- for this text's walks alone
set_option linter.unusedVariables false
set_option linter.unusedSimpArgs false

/-! ### impl_ListText_1: function 36: ours -/
/-- Is a number none of a list with a text? -/
def noValue (x : Int) : Bool := !(decide (-1000000000000 ≤ x) && decide (x ≤ 1000000000000))
set_option maxHeartbeats 4000000 in
set_option maxRecDepth 100000 in
theorem impl_ListText_1.ask (w : World) : AnsI 36 #[] noValue w := fun W x _ => by
  by_cases h1 : -1000000000000 ≤ x
  · have g1 := Aside0.mk h1
    have b1 : decide (-1000000000000 ≤ x) = true := decide_eq_true h1
    clear h1
    by_cases h2 : x ≤ 1000000000000
    · have g2 := Aside0.mk h2
      have b2 : decide (x ≤ 1000000000000) = true := decide_eq_true h2
      clear h2
      go_enter Tryd.func36, Tryd.ntmps36
      go_wp2
      go_ret
      exact ⟨by unfold noValue; first | rfl | (simp [g1.out, g2.out]; done) | (simp [*]; done), 0, rfl⟩
    · have g2 := Aside0.mk h2
      have b2 : decide (x ≤ 1000000000000) = false := decide_eq_false h2
      clear h2
      go_enter Tryd.func36, Tryd.ntmps36
      go_wp2
      go_ret
      exact ⟨by unfold noValue; first | rfl | (simp [g1.out, g2.out]; done) | (simp [*]; done), 0, rfl⟩
  · have g1 := Aside0.mk h1
    have b1 : decide (-1000000000000 ≤ x) = false := decide_eq_false h1
    clear h1
    go_enter Tryd.func36, Tryd.ntmps36
    go_wp2
    go_ret
    exact ⟨by unfold noValue; first | rfl | (simp [g1.out]; done) | (simp [*]; done), 0, rfl⟩
/-- Is one of the numbers none of a list with a text? -/
def impl_ListText_1.any.f (l0 : List Int) : Option Bool := some (l0.any noValue)
theorem impl_ListText_1.any.calls (A0 : Option Addr) (c0 : Nat) (l0 : List Int) (r : Bool) (w : World) (hr0 : Kd.C (Kd.int .i64) w A0 l0.length l0) (hc0 : l0.length ≤ c0) (h : impl_ListText_1.any.f l0 = some r) :
    Calls Tryd.prog 35 #[.slice A0 l0.length c0, .func (.func 36) #[] #[]] w fun e w' => e = .returned (.bool r) ∧ Below w.heap.size w w' := by
  refine (slices_ContainsFunc_int64_int64.tells 36 #[] (enters_of Tryd.func36 (by kernel_rfl) rfl) noValue A0 c0 l0 w (impl_ListText_1.ask w) hr0 hr0.2.1).mono ?_
  rintro e w' ⟨rfl, q, rfl⟩
  have hf := Option.some.inj h
  exact ⟨by rw [← hf], pw_below_drewN (Below.refl _ w) q⟩

end Go.Proofs.YtepdfefgkhodlaaDoor.F
