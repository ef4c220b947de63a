-- Written by gprint.py, a program of this session's that drives the kit's print, for this claim. Not trusted: checked as any text.
import Derived.Test.YtepdfefgkhodlaaDoorFx0
import Derived.Test.YtepdfefgkhodlaaDoorFx24
namespace Go.Proofs.YtepdfefgkhodlaaDoor.F
open Go.RowKit Go.Proofs.YtepdfefgkhodlaaDoorW.PrintWords Go.Proofs.YtepdfefgkhodlaaDoorW.PrintLast Go.Proofs.YtepdfefgkhodlaaDoorW.PrintMore
attribute [local go_sem] max2_int min2_int max_two min_two max_three min_three max_four min_four   -- for this text's walks alone
set_option linter.unusedVariables false
set_option linter.unusedSimpArgs false

/-! ### slices_ContainsFunc_int64_int64: function 35: ours -/
set_option maxHeartbeats 4000000 in
set_option maxRecDepth 100000 in
theorem slices_ContainsFunc_int64_int64.tells (g : Nat) (lb : Array Value) (eg : ∀ args w, (callFunc g args).run Tryd.prog w = .ok (.enter g args) w) (p : Int → Bool) (A : Option Addr) (c : Nat) (l : List Int) (w : World)
    (hp : AnsI g lb p w) (hr : Kd.C (Kd.int .i64) w A l.length l) (hn : l.length ≤ 9223372036854775807) :
    Calls Tryd.prog 35 #[.slice A l.length c, .func (.func g) #[] lb] w fun e w' => e = .returned (.bool (l.any p)) ∧ ∃ q, w' = w.drewN q := by
  have hany := idxOf_nonneg p l
  have hC := slices_IndexFunc_int64_int64.tells g lb eg p A c l w hp hr hn
  generalize idxOf p l = z at hany hC
  generalize l.any p = b at hany
  clear hp
  go_enter Tryd.func35, Tryd.ntmps35
  go_wp2_with (go_at_call 46; refine hC.mono ?_; rintro e w' ⟨rfl, q, rfl⟩)
  go_ret
  exact ⟨by subst hany; simp, q, rfl⟩

end Go.Proofs.YtepdfefgkhodlaaDoor.F
