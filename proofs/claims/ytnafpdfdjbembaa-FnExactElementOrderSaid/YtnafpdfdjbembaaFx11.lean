-- Written by gprint.py, a program of this session's that drives the kit's print, for this claim. Not trusted: checked as any text.
import Derived.Test.YtnafpdfdjbembaaFx0
import Derived.Test.YtnafpdfdjbembaaFx9
import Derived.Test.YtnafpdfdjbembaaFx10
namespace Go.Proofs.Ytnafpdfdjbembaa.F
open Go.RowKit Go.Proofs.YtnafpdfdjbembaaW.PrintWords Go.Proofs.YtnafpdfdjbembaaW.PrintLast Go.Proofs.YtnafpdfdjbembaaW.PrintMore
attribute [local go_sem] max2_int min2_int max_two min_two max_three min_three max_four min_four   -- for this text's walks alone
set_option linter.unusedVariables false
set_option linter.unusedSimpArgs false

/-! ### impl_areElements: function 57: ours -/
/-- Are all numbers of a list from 0 to p - 1? -/
def impl_areElements.f (l0 : List Int) (a1 : Int) : Option Bool := some (!(l0.any fun x => !(decide (0 ≤ x) && decide (x ≤ wrap64 (a1 - 1)))))
set_option maxHeartbeats 4000000 in
set_option maxRecDepth 100000 in
theorem impl_areElements.ask (w : World) (B : Nat) (p : Int) (hB : B < w.heap.size) (hc : w.cell? ⟨B, 0, none⟩ = some (.int .i64 p)) :
    AnsI 59 #[.pointer (some ⟨B, 0, none⟩)] (fun x => !(decide (0 ≤ x) && decide (x ≤ wrap64 (p - 1)))) w := fun W x hb => by
  have hc' : W.cell? ⟨B, 0, none⟩ = some (.int .i64 p) := (hb.cell (p := ⟨B, 0, none⟩) hB).trans hc
  clear hc
  by_cases h1 : 0 ≤ x
  · have g1 := Aside0.mk h1
    have b1 : decide (0 ≤ x) = true := decide_eq_true h1
    clear h1
    by_cases h2 : x ≤ wrap64 (p - 1)
    · have g2 := Aside0.mk h2
      have b2 : decide (x ≤ wrap64 (p - 1)) = true := decide_eq_true h2
      clear h2
      go_enter Try.func59, Try.ntmps59
      go_wp2
      go_ret
      exact ⟨by first | rfl | (simp [g1.out, g2.out]; done) | (simp [*]; done), 0, rfl⟩
    · have g2 := Aside0.mk h2
      have b2 : decide (x ≤ wrap64 (p - 1)) = false := decide_eq_false h2
      clear h2
      go_enter Try.func59, Try.ntmps59
      go_wp2
      go_ret
      exact ⟨by first | rfl | (simp [g1.out, g2.out]; done) | (simp [*]; done), 0, rfl⟩
  · have g1 := Aside0.mk h1
    have g2 : Aside0 True := ⟨trivial⟩
    have b1 : decide (0 ≤ x) = false := decide_eq_false h1
    clear h1
    go_enter Try.func59, Try.ntmps59
    go_wp2
    go_ret
    exact ⟨by first | rfl | (simp [g1.out, g2.out]; done) | (simp [*]; done), 0, rfl⟩
set_option maxHeartbeats 4000000 in
set_option maxRecDepth 100000 in
theorem impl_areElements.calls (A0 : Option Addr) (c0 : Nat) (l0 : List Int) (a1 : Int) (r : Bool) (w : World) (hr0 : Kd.C (Kd.int .i64) w A0 l0.length l0) (hc0 : l0.length ≤ c0) (h : impl_areElements.f l0 a1 = some r) :
    Calls Try.prog 57 #[.slice A0 l0.length c0, .int .i64 a1] w fun e w' => e = .returned (.bool r) ∧ Below w.heap.size w w' := by
  have hn : l0.length ≤ 9223372036854775807 := hr0.2.1
  have hC := fun (W : World) (hbw : Below w.heap.size w W) (hB : w.heap.size < W.heap.size) (hc : W.cell? ⟨w.heap.size, 0, none⟩ = some (.int .i64 a1)) =>
    slices_ContainsFunc_int64_int64.tells 59 #[.pointer (some ⟨w.heap.size, 0, none⟩)] (enters_of Try.func59 (by kernel_rfl) rfl) _ A0 c0 l0 W (impl_areElements.ask W w.heap.size a1 hB hc) (Kd.C_below hr0 hbw) hn
  have hf := Option.some.inj h
  clear h hr0
  generalize (l0.any fun x => !(decide (0 ≤ x) && decide (x ≤ wrap64 (a1 - 1)))) = b at hf hC
  have hmf : ∀ (fn : Fn) (first cap : Array Value) (w : World), (Instr.makeFunc fn first cap).run Try.prog w = .ok (.func fn first cap) w := fun _ _ _ _ => rfl
  go_enter Try.func57, Try.ntmps57
  go_wp2_with (go_at_call 58; refine (hC _ ((Below.refl _ w).alloc (Nat.le_refl _) _) (by simp) (by simp)).mono ?_; rintro e w' ⟨rfl, q, rfl⟩)
  go_ret
  exact ⟨by rw [← hf]; rfl, pw_below_drewN ((Below.refl _ w).alloc (Nat.le_refl _) _) q⟩

end Go.Proofs.Ytnafpdfdjbembaa.F
