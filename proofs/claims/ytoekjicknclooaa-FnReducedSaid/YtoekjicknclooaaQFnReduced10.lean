-- Texts of this claim, merged by packw.py (a program of this session's).
import Derived.Test.YtoekjicknclooaaQFnReduced2
import Derived.Test.YtoekjicknclooaaQFnReduced3
import Derived.Test.YtoekjicknclooaaQFnReduced4
import Derived.Test.YtoekjicknclooaaQFnReduced6
import Derived.Test.YtoekjicknclooaaQFnReduced7
import Derived.Test.YtoekjicknclooaaQFnReduced8
import Derived.Test.YtoekjicknclooaaQFnReduced9

section
namespace Go.Proofs.Ytoekjicknclooaa.F
open Go.RowKit Go.Proofs.YtoekjicknclooaaW.PrintWords Go.Proofs.YtoekjicknclooaaW.PrintLast Go.Proofs.YtoekjicknclooaaW.PrintMore
attribute [local go_sem] max2_int min2_int max_two min_two max_three min_three max_four min_four   -- for this text's walks alone
set_option linter.unusedVariables false
set_option linter.unusedSimpArgs false
set_option maxHeartbeats 8000000 in
set_option maxRecDepth 100000 in
theorem laws_FnReduced.calls (k : Nat) (A0 : Option Addr) (c0 : Nat) (l0 : List Int) (A1 : Option Addr) (c1 : Nat) (l1 : List Int) (_r : Bool) (w : World) (hr0 : Kd.C (Kd.int .u8) w A0 l0.length l0) (hc0 : l0.length ≤ c0) (hr1 : Kd.C (Kd.int .u8) w A1 l1.length l1) (hc1 : l1.length ≤ c1) (h : laws_FnReduced.f k l0 l1 = some true) :
  Calls Try.prog 3 #[.slice A0 l0.length c0, .slice A1 l1.length c1] w fun e w' => e = .returned (.bool true) ∧ Below w.heap.size w w' := by
 have hu27 := Try.underlying27
 have HR0 := Z3.k hr0
 have HC0 := Z3.k hc0
 clear hr0 hc0
 have HR1 := Z3.k hr1
 have HC1 := Z3.k hc1
 clear hr1 hc1
 have HB := Z3.k (Below.refl w.heap.size w)
 have H : ((laws_r8Long.f l0 l1).bind fun t101 => (if t101 = true then (some true) else ((spec_R8Prime.f l0).bind fun t102 => ((laws_r8At.f l1 0 6).bind fun t103 => ((laws_r8At.f l1 1 6).bind fun t104 => ((spec_R8Matrix.f k l0 t102 t103 t104).bind fun bt105 => ((impl_ReducedForm.f k bt105.1 bt105.2.1 bt105.2.2.1 bt105.2.2.2).bind fun bt112 => ((impl_ReducedForm.f k bt112.1 bt112.2.1 bt112.2.2.1 bt112.2.2.2.1).bind fun bt123 => ((impl_Transpose.f k bt105.1 bt105.2.1 bt105.2.2.1 bt105.2.2.2).bind fun bt134 => ((impl_RankOf.f k bt105.1 bt105.2.1 bt105.2.2.1 bt105.2.2.2).bind fun bt142 => ((impl_RankOf.f k bt134.1 bt134.2.1 bt134.2.2.1 bt134.2.2.2.1).bind fun bt144 => ((impl_StackRows.f k bt105.1 bt105.2.1 bt105.2.2.1 bt105.2.2.2 bt105.1 bt105.2.1 bt105.2.2.1 bt105.2.2.2).bind fun bt146 => ((impl_RankOf.f k bt146.1 bt146.2.1 bt146.2.2.1 bt146.2.2.2.1).bind fun bt154 => ((impl_JoinColumns.f k bt105.1 bt105.2.1 bt105.2.2.1 bt105.2.2.2 bt105.1 bt105.2.1 bt105.2.2.1 bt105.2.2.2).bind fun bt156 => ((impl_RankOf.f k bt156.1 bt156.2.1 bt156.2.2.1 bt156.2.2.2.1).bind fun bt164 => (if bt112.2.2.2.2.2 = 0 then (if bt123.2.2.2.2.2 = 0 then ((spec_SameMatrix.f k bt123.1 bt123.2.1 bt123.2.2.1 bt123.2.2.2.1 bt112.1 bt112.2.1 bt112.2.2.1 bt112.2.2.2.1).bind fun t166 => (if t166 = true then ((laws_r8Same.f k bt123.2.2.2.2.1 bt112.2.2.2.2.1).bind fun t167 => (if t167 = true then (if bt134.2.2.2.2 = 0 then (if bt142.2 = 0 then (if bt144.2 = 0 then (if bt142.1 = bt144.1 then (if bt142.1 = (bt112.2.2.2.2.1.length : Int) then (if bt146.2.2.2.2 = 0 then (if bt154.2 = 0 then (if bt154.1 = bt142.1 then (if bt156.2.2.2.2 = 0 then (if bt164.2 = 0 then (if bt164.1 = bt142.1 then (if bt112.2.1 = bt105.2.1 then (if bt112.2.2.1 = bt105.2.2.1 then (laws_FnReduced.j0 k bt112.2.2.2.2.1 bt142.1 ((bt112.2.2.2.1.length : Int) != (wrap64 (bt105.2.1 * bt105.2.2.1))) bt105.1 bt105.2.1 bt105.2.2.1 bt105.2.2.2 bt112.1 bt112.2.1 bt112.2.2.1 bt112.2.2.2.1) else (laws_FnReduced.j0 k bt112.2.2.2.2.1 bt142.1 true bt105.1 bt105.2.1 bt105.2.2.1 bt105.2.2.2 bt112.1 bt112.2.1 bt112.2.2.1 bt112.2.2.2.1)) else (laws_FnReduced.j0 k bt112.2.2.2.2.1 bt142.1 true bt105.1 bt105.2.1 bt105.2.2.1 bt105.2.2.2 bt112.1 bt112.2.1 bt112.2.2.1 bt112.2.2.2.1)) else (laws_FnReduced.j0 k bt112.2.2.2.2.1 bt142.1 true bt105.1 bt105.2.1 bt105.2.2.1 bt105.2.2.2 bt112.1 bt112.2.1 bt112.2.2.1 bt112.2.2.2.1)) else (laws_FnReduced.j0 k bt112.2.2.2.2.1 bt142.1 true bt105.1 bt105.2.1 bt105.2.2.1 bt105.2.2.2 bt112.1 bt112.2.1 bt112.2.2.1 bt112.2.2.2.1)) else (laws_FnReduced.j0 k bt112.2.2.2.2.1 bt142.1 true bt105.1 bt105.2.1 bt105.2.2.1 bt105.2.2.2 bt112.1 bt112.2.1 bt112.2.2.1 bt112.2.2.2.1)) else (laws_FnReduced.j0 k bt112.2.2.2.2.1 bt142.1 true bt105.1 bt105.2.1 bt105.2.2.1 bt105.2.2.2 bt112.1 bt112.2.1 bt112.2.2.1 bt112.2.2.2.1)) else (laws_FnReduced.j0 k bt112.2.2.2.2.1 bt142.1 true bt105.1 bt105.2.1 bt105.2.2.1 bt105.2.2.2 bt112.1 bt112.2.1 bt112.2.2.1 bt112.2.2.2.1)) else (laws_FnReduced.j0 k bt112.2.2.2.2.1 bt142.1 true bt105.1 bt105.2.1 bt105.2.2.1 bt105.2.2.2 bt112.1 bt112.2.1 bt112.2.2.1 bt112.2.2.2.1)) else (laws_FnReduced.j0 k bt112.2.2.2.2.1 bt142.1 true bt105.1 bt105.2.1 bt105.2.2.1 bt105.2.2.2 bt112.1 bt112.2.1 bt112.2.2.1 bt112.2.2.2.1)) else (laws_FnReduced.j0 k bt112.2.2.2.2.1 bt142.1 true bt105.1 bt105.2.1 bt105.2.2.1 bt105.2.2.2 bt112.1 bt112.2.1 bt112.2.2.1 bt112.2.2.2.1)) else (laws_FnReduced.j0 k bt112.2.2.2.2.1 bt142.1 true bt105.1 bt105.2.1 bt105.2.2.1 bt105.2.2.2 bt112.1 bt112.2.1 bt112.2.2.1 bt112.2.2.2.1)) else (laws_FnReduced.j0 k bt112.2.2.2.2.1 bt142.1 true bt105.1 bt105.2.1 bt105.2.2.1 bt105.2.2.2 bt112.1 bt112.2.1 bt112.2.2.1 bt112.2.2.2.1)) else (laws_FnReduced.j0 k bt112.2.2.2.2.1 bt142.1 true bt105.1 bt105.2.1 bt105.2.2.1 bt105.2.2.2 bt112.1 bt112.2.1 bt112.2.2.1 bt112.2.2.2.1)) else (laws_FnReduced.j0 k bt112.2.2.2.2.1 bt142.1 true bt105.1 bt105.2.1 bt105.2.2.1 bt105.2.2.2 bt112.1 bt112.2.1 bt112.2.2.1 bt112.2.2.2.1))) else (laws_FnReduced.j0 k bt112.2.2.2.2.1 bt142.1 true bt105.1 bt105.2.1 bt105.2.2.1 bt105.2.2.2 bt112.1 bt112.2.1 bt112.2.2.1 bt112.2.2.2.1))) else (laws_FnReduced.j0 k bt112.2.2.2.2.1 bt142.1 true bt105.1 bt105.2.1 bt105.2.2.1 bt105.2.2.2 bt112.1 bt112.2.1 bt112.2.2.1 bt112.2.2.2.1)) else (laws_FnReduced.j0 k bt112.2.2.2.2.1 bt142.1 true bt105.1 bt105.2.1 bt105.2.2.1 bt105.2.2.2 bt112.1 bt112.2.1 bt112.2.2.1 bt112.2.2.2.1))))))))))))))))) = some true := h
 clear h
 replace H := Option.bind_eq_some_iff.mp H
 obtain ⟨t101, A30, H⟩ := H
 replace H : (if t101 = true then (some true) else ((spec_R8Prime.f l0).bind fun t102 => ((laws_r8At.f l1 0 6).bind fun t103 => ((laws_r8At.f l1 1 6).bind fun t104 => ((spec_R8Matrix.f k l0 t102 t103 t104).bind fun bt105 => ((impl_ReducedForm.f k bt105.1 bt105.2.1 bt105.2.2.1 bt105.2.2.2).bind fun bt112 => ((impl_ReducedForm.f k bt112.1 bt112.2.1 bt112.2.2.1 bt112.2.2.2.1).bind fun bt123 => ((impl_Transpose.f k bt105.1 bt105.2.1 bt105.2.2.1 bt105.2.2.2).bind fun bt134 => ((impl_RankOf.f k bt105.1 bt105.2.1 bt105.2.2.1 bt105.2.2.2).bind fun bt142 => ((impl_RankOf.f k bt134.1 bt134.2.1 bt134.2.2.1 bt134.2.2.2.1).bind fun bt144 => ((impl_StackRows.f k bt105.1 bt105.2.1 bt105.2.2.1 bt105.2.2.2 bt105.1 bt105.2.1 bt105.2.2.1 bt105.2.2.2).bind fun bt146 => ((impl_RankOf.f k bt146.1 bt146.2.1 bt146.2.2.1 bt146.2.2.2.1).bind fun bt154 => ((impl_JoinColumns.f k bt105.1 bt105.2.1 bt105.2.2.1 bt105.2.2.2 bt105.1 bt105.2.1 bt105.2.2.1 bt105.2.2.2).bind fun bt156 => ((impl_RankOf.f k bt156.1 bt156.2.1 bt156.2.2.1 bt156.2.2.2.1).bind fun bt164 => (if bt112.2.2.2.2.2 = 0 then (if bt123.2.2.2.2.2 = 0 then ((spec_SameMatrix.f k bt123.1 bt123.2.1 bt123.2.2.1 bt123.2.2.2.1 bt112.1 bt112.2.1 bt112.2.2.1 bt112.2.2.2.1).bind fun t166 => (if t166 = true then ((laws_r8Same.f k bt123.2.2.2.2.1 bt112.2.2.2.2.1).bind fun t167 => (if t167 = true then (if bt134.2.2.2.2 = 0 then (if bt142.2 = 0 then (if bt144.2 = 0 then (if bt142.1 = bt144.1 then (if bt142.1 = (bt112.2.2.2.2.1.length : Int) then (if bt146.2.2.2.2 = 0 then (if bt154.2 = 0 then (if bt154.1 = bt142.1 then (if bt156.2.2.2.2 = 0 then (if bt164.2 = 0 then (if bt164.1 = bt142.1 then (if bt112.2.1 = bt105.2.1 then (if bt112.2.2.1 = bt105.2.2.1 then (laws_FnReduced.j0 k bt112.2.2.2.2.1 bt142.1 ((bt112.2.2.2.1.length : Int) != (wrap64 (bt105.2.1 * bt105.2.2.1))) bt105.1 bt105.2.1 bt105.2.2.1 bt105.2.2.2 bt112.1 bt112.2.1 bt112.2.2.1 bt112.2.2.2.1) else (laws_FnReduced.j0 k bt112.2.2.2.2.1 bt142.1 true bt105.1 bt105.2.1 bt105.2.2.1 bt105.2.2.2 bt112.1 bt112.2.1 bt112.2.2.1 bt112.2.2.2.1)) else (laws_FnReduced.j0 k bt112.2.2.2.2.1 bt142.1 true bt105.1 bt105.2.1 bt105.2.2.1 bt105.2.2.2 bt112.1 bt112.2.1 bt112.2.2.1 bt112.2.2.2.1)) else (laws_FnReduced.j0 k bt112.2.2.2.2.1 bt142.1 true bt105.1 bt105.2.1 bt105.2.2.1 bt105.2.2.2 bt112.1 bt112.2.1 bt112.2.2.1 bt112.2.2.2.1)) else (laws_FnReduced.j0 k bt112.2.2.2.2.1 bt142.1 true bt105.1 bt105.2.1 bt105.2.2.1 bt105.2.2.2 bt112.1 bt112.2.1 bt112.2.2.1 bt112.2.2.2.1)) else (laws_FnReduced.j0 k bt112.2.2.2.2.1 bt142.1 true bt105.1 bt105.2.1 bt105.2.2.1 bt105.2.2.2 bt112.1 bt112.2.1 bt112.2.2.1 bt112.2.2.2.1)) else (laws_FnReduced.j0 k bt112.2.2.2.2.1 bt142.1 true bt105.1 bt105.2.1 bt105.2.2.1 bt105.2.2.2 bt112.1 bt112.2.1 bt112.2.2.1 bt112.2.2.2.1)) else (laws_FnReduced.j0 k bt112.2.2.2.2.1 bt142.1 true bt105.1 bt105.2.1 bt105.2.2.1 bt105.2.2.2 bt112.1 bt112.2.1 bt112.2.2.1 bt112.2.2.2.1)) else (laws_FnReduced.j0 k bt112.2.2.2.2.1 bt142.1 true bt105.1 bt105.2.1 bt105.2.2.1 bt105.2.2.2 bt112.1 bt112.2.1 bt112.2.2.1 bt112.2.2.2.1)) else (laws_FnReduced.j0 k bt112.2.2.2.2.1 bt142.1 true bt105.1 bt105.2.1 bt105.2.2.1 bt105.2.2.2 bt112.1 bt112.2.1 bt112.2.2.1 bt112.2.2.2.1)) else (laws_FnReduced.j0 k bt112.2.2.2.2.1 bt142.1 true bt105.1 bt105.2.1 bt105.2.2.1 bt105.2.2.2 bt112.1 bt112.2.1 bt112.2.2.1 bt112.2.2.2.1)) else (laws_FnReduced.j0 k bt112.2.2.2.2.1 bt142.1 true bt105.1 bt105.2.1 bt105.2.2.1 bt105.2.2.2 bt112.1 bt112.2.1 bt112.2.2.1 bt112.2.2.2.1)) else (laws_FnReduced.j0 k bt112.2.2.2.2.1 bt142.1 true bt105.1 bt105.2.1 bt105.2.2.1 bt105.2.2.2 bt112.1 bt112.2.1 bt112.2.2.1 bt112.2.2.2.1)) else (laws_FnReduced.j0 k bt112.2.2.2.2.1 bt142.1 true bt105.1 bt105.2.1 bt105.2.2.1 bt105.2.2.2 bt112.1 bt112.2.1 bt112.2.2.1 bt112.2.2.2.1)) else (laws_FnReduced.j0 k bt112.2.2.2.2.1 bt142.1 true bt105.1 bt105.2.1 bt105.2.2.1 bt105.2.2.2 bt112.1 bt112.2.1 bt112.2.2.1 bt112.2.2.2.1))) else (laws_FnReduced.j0 k bt112.2.2.2.2.1 bt142.1 true bt105.1 bt105.2.1 bt105.2.2.1 bt105.2.2.2 bt112.1 bt112.2.1 bt112.2.2.1 bt112.2.2.2.1))) else (laws_FnReduced.j0 k bt112.2.2.2.2.1 bt142.1 true bt105.1 bt105.2.1 bt105.2.2.1 bt105.2.2.2 bt112.1 bt112.2.1 bt112.2.2.1 bt112.2.2.2.1)) else (laws_FnReduced.j0 k bt112.2.2.2.2.1 bt142.1 true bt105.1 bt105.2.1 bt105.2.2.1 bt105.2.2.2 bt112.1 bt112.2.1 bt112.2.2.1 bt112.2.2.2.1)))))))))))))))) = some true := H
 have A3 := Z3.k A30
 clear A30
 by_cases c4 : t101 = true
 ·subst c4
  have H1 : (some true) = some true := rfl
  clear H
  have H := H1
  clear H1
  first | exact absurd H (by decide) | obtain rfl := Option.some.inj H | have hd_ := Option.some.inj H
  all_goals
   go_enter Try.func3, Try.ntmps3
   go_wp2_with (first | (go_at_call 10; (with_reducible refine (laws_r8Long.calls _ _ l0 _ _ l1 true _ ?side1 ?side2 ?side3 ?side4 A3.out).mono ?_); (case side1 => exact Z3.z37); (case side2 => exact HC0.out); (case side3 => exact Z3.z63); (case side4 => exact HC1.out); rintro e w' ⟨rfl, ⟨nd, rfl⟩⟩; (try first | exact ⟨rfl, _, World.drewN_drewN _ _ _⟩ | exact ⟨rfl, _, Eq.trans (World.drewN_drewN _ _ _) (congrArg (World.drewN _) (Nat.add_assoc _ _ _))⟩)))
   repeat (go_quiet (first | (go_at_call 10; (with_reducible refine (laws_r8Long.calls _ _ l0 _ _ l1 true _ ?side1 ?side2 ?side3 ?side4 A3.out).mono ?_); (case side1 => exact Z3.z37); (case side2 => exact HC0.out); (case side3 => exact Z3.z63); (case side4 => exact HC1.out); rintro e w' ⟨rfl, ⟨nd, rfl⟩⟩; (try first | exact ⟨rfl, _, World.drewN_drewN _ _ _⟩ | exact ⟨rfl, _, Eq.trans (World.drewN_drewN _ _ _) (congrArg (World.drewN _) (Nat.add_assoc _ _ _))⟩))); try go_wp2_with (first | (go_at_call 10; (with_reducible refine (laws_r8Long.calls _ _ l0 _ _ l1 true _ ?side1 ?side2 ?side3 ?side4 A3.out).mono ?_); (case side1 => exact Z3.z37); (case side2 => exact HC0.out); (case side3 => exact Z3.z63); (case side4 => exact HC1.out); rintro e w' ⟨rfl, ⟨nd, rfl⟩⟩; (try first | exact ⟨rfl, _, World.drewN_drewN _ _ _⟩ | exact ⟨rfl, _, Eq.trans (World.drewN_drewN _ _ _) (congrArg (World.drewN _) (Nat.add_assoc _ _ _))⟩))))
   go_ret
   exact ⟨Z3.z108, Z3.z17⟩
 ·as_aux_lemma =>
   replace c4 := Bool.eq_false_iff.mpr c4
   subst c4
   have H1 : ((spec_R8Prime.f l0).bind fun t102 => ((laws_r8At.f l1 0 6).bind fun t103 => ((laws_r8At.f l1 1 6).bind fun t104 => ((spec_R8Matrix.f k l0 t102 t103 t104).bind fun bt105 => ((impl_ReducedForm.f k bt105.1 bt105.2.1 bt105.2.2.1 bt105.2.2.2).bind fun bt112 => ((impl_ReducedForm.f k bt112.1 bt112.2.1 bt112.2.2.1 bt112.2.2.2.1).bind fun bt123 => ((impl_Transpose.f k bt105.1 bt105.2.1 bt105.2.2.1 bt105.2.2.2).bind fun bt134 => ((impl_RankOf.f k bt105.1 bt105.2.1 bt105.2.2.1 bt105.2.2.2).bind fun bt142 => ((impl_RankOf.f k bt134.1 bt134.2.1 bt134.2.2.1 bt134.2.2.2.1).bind fun bt144 => ((impl_StackRows.f k bt105.1 bt105.2.1 bt105.2.2.1 bt105.2.2.2 bt105.1 bt105.2.1 bt105.2.2.1 bt105.2.2.2).bind fun bt146 => ((impl_RankOf.f k bt146.1 bt146.2.1 bt146.2.2.1 bt146.2.2.2.1).bind fun bt154 => ((impl_JoinColumns.f k bt105.1 bt105.2.1 bt105.2.2.1 bt105.2.2.2 bt105.1 bt105.2.1 bt105.2.2.1 bt105.2.2.2).bind fun bt156 => ((impl_RankOf.f k bt156.1 bt156.2.1 bt156.2.2.1 bt156.2.2.2.1).bind fun bt164 => (if bt112.2.2.2.2.2 = 0 then (if bt123.2.2.2.2.2 = 0 then ((spec_SameMatrix.f k bt123.1 bt123.2.1 bt123.2.2.1 bt123.2.2.2.1 bt112.1 bt112.2.1 bt112.2.2.1 bt112.2.2.2.1).bind fun t166 => (if t166 = true then ((laws_r8Same.f k bt123.2.2.2.2.1 bt112.2.2.2.2.1).bind fun t167 => (if t167 = true then (if bt134.2.2.2.2 = 0 then (if bt142.2 = 0 then (if bt144.2 = 0 then (if bt142.1 = bt144.1 then (if bt142.1 = (bt112.2.2.2.2.1.length : Int) then (if bt146.2.2.2.2 = 0 then (if bt154.2 = 0 then (if bt154.1 = bt142.1 then (if bt156.2.2.2.2 = 0 then (if bt164.2 = 0 then (if bt164.1 = bt142.1 then (if bt112.2.1 = bt105.2.1 then (if bt112.2.2.1 = bt105.2.2.1 then (laws_FnReduced.j0 k bt112.2.2.2.2.1 bt142.1 ((bt112.2.2.2.1.length : Int) != (wrap64 (bt105.2.1 * bt105.2.2.1))) bt105.1 bt105.2.1 bt105.2.2.1 bt105.2.2.2 bt112.1 bt112.2.1 bt112.2.2.1 bt112.2.2.2.1) else (laws_FnReduced.j0 k bt112.2.2.2.2.1 bt142.1 true bt105.1 bt105.2.1 bt105.2.2.1 bt105.2.2.2 bt112.1 bt112.2.1 bt112.2.2.1 bt112.2.2.2.1)) else (laws_FnReduced.j0 k bt112.2.2.2.2.1 bt142.1 true bt105.1 bt105.2.1 bt105.2.2.1 bt105.2.2.2 bt112.1 bt112.2.1 bt112.2.2.1 bt112.2.2.2.1)) else (laws_FnReduced.j0 k bt112.2.2.2.2.1 bt142.1 true bt105.1 bt105.2.1 bt105.2.2.1 bt105.2.2.2 bt112.1 bt112.2.1 bt112.2.2.1 bt112.2.2.2.1)) else (laws_FnReduced.j0 k bt112.2.2.2.2.1 bt142.1 true bt105.1 bt105.2.1 bt105.2.2.1 bt105.2.2.2 bt112.1 bt112.2.1 bt112.2.2.1 bt112.2.2.2.1)) else (laws_FnReduced.j0 k bt112.2.2.2.2.1 bt142.1 true bt105.1 bt105.2.1 bt105.2.2.1 bt105.2.2.2 bt112.1 bt112.2.1 bt112.2.2.1 bt112.2.2.2.1)) else (laws_FnReduced.j0 k bt112.2.2.2.2.1 bt142.1 true bt105.1 bt105.2.1 bt105.2.2.1 bt105.2.2.2 bt112.1 bt112.2.1 bt112.2.2.1 bt112.2.2.2.1)) else (laws_FnReduced.j0 k bt112.2.2.2.2.1 bt142.1 true bt105.1 bt105.2.1 bt105.2.2.1 bt105.2.2.2 bt112.1 bt112.2.1 bt112.2.2.1 bt112.2.2.2.1)) else (laws_FnReduced.j0 k bt112.2.2.2.2.1 bt142.1 true bt105.1 bt105.2.1 bt105.2.2.1 bt105.2.2.2 bt112.1 bt112.2.1 bt112.2.2.1 bt112.2.2.2.1)) else (laws_FnReduced.j0 k bt112.2.2.2.2.1 bt142.1 true bt105.1 bt105.2.1 bt105.2.2.1 bt105.2.2.2 bt112.1 bt112.2.1 bt112.2.2.1 bt112.2.2.2.1)) else (laws_FnReduced.j0 k bt112.2.2.2.2.1 bt142.1 true bt105.1 bt105.2.1 bt105.2.2.1 bt105.2.2.2 bt112.1 bt112.2.1 bt112.2.2.1 bt112.2.2.2.1)) else (laws_FnReduced.j0 k bt112.2.2.2.2.1 bt142.1 true bt105.1 bt105.2.1 bt105.2.2.1 bt105.2.2.2 bt112.1 bt112.2.1 bt112.2.2.1 bt112.2.2.2.1)) else (laws_FnReduced.j0 k bt112.2.2.2.2.1 bt142.1 true bt105.1 bt105.2.1 bt105.2.2.1 bt105.2.2.2 bt112.1 bt112.2.1 bt112.2.2.1 bt112.2.2.2.1)) else (laws_FnReduced.j0 k bt112.2.2.2.2.1 bt142.1 true bt105.1 bt105.2.1 bt105.2.2.1 bt105.2.2.2 bt112.1 bt112.2.1 bt112.2.2.1 bt112.2.2.2.1)) else (laws_FnReduced.j0 k bt112.2.2.2.2.1 bt142.1 true bt105.1 bt105.2.1 bt105.2.2.1 bt105.2.2.2 bt112.1 bt112.2.1 bt112.2.2.1 bt112.2.2.2.1))) else (laws_FnReduced.j0 k bt112.2.2.2.2.1 bt142.1 true bt105.1 bt105.2.1 bt105.2.2.1 bt105.2.2.2 bt112.1 bt112.2.1 bt112.2.2.1 bt112.2.2.2.1))) else (laws_FnReduced.j0 k bt112.2.2.2.2.1 bt142.1 true bt105.1 bt105.2.1 bt105.2.2.1 bt105.2.2.2 bt112.1 bt112.2.1 bt112.2.2.1 bt112.2.2.2.1)) else (laws_FnReduced.j0 k bt112.2.2.2.2.1 bt142.1 true bt105.1 bt105.2.1 bt105.2.2.1 bt105.2.2.2 bt112.1 bt112.2.1 bt112.2.2.1 bt112.2.2.2.1))))))))))))))) = some true := by rw [if_neg (show ¬ (false = true) by decide)] at H; exact H
   clear H
   have H := H1
   clear H1
   replace H := Option.bind_eq_some_iff.mp H
   obtain ⟨t102, A50, H⟩ := H
   replace H : ((laws_r8At.f l1 0 6).bind fun t103 => ((laws_r8At.f l1 1 6).bind fun t104 => ((spec_R8Matrix.f k l0 t102 t103 t104).bind fun bt105 => ((impl_ReducedForm.f k bt105.1 bt105.2.1 bt105.2.2.1 bt105.2.2.2).bind fun bt112 => ((impl_ReducedForm.f k bt112.1 bt112.2.1 bt112.2.2.1 bt112.2.2.2.1).bind fun bt123 => ((impl_Transpose.f k bt105.1 bt105.2.1 bt105.2.2.1 bt105.2.2.2).bind fun bt134 => ((impl_RankOf.f k bt105.1 bt105.2.1 bt105.2.2.1 bt105.2.2.2).bind fun bt142 => ((impl_RankOf.f k bt134.1 bt134.2.1 bt134.2.2.1 bt134.2.2.2.1).bind fun bt144 => ((impl_StackRows.f k bt105.1 bt105.2.1 bt105.2.2.1 bt105.2.2.2 bt105.1 bt105.2.1 bt105.2.2.1 bt105.2.2.2).bind fun bt146 => ((impl_RankOf.f k bt146.1 bt146.2.1 bt146.2.2.1 bt146.2.2.2.1).bind fun bt154 => ((impl_JoinColumns.f k bt105.1 bt105.2.1 bt105.2.2.1 bt105.2.2.2 bt105.1 bt105.2.1 bt105.2.2.1 bt105.2.2.2).bind fun bt156 => ((impl_RankOf.f k bt156.1 bt156.2.1 bt156.2.2.1 bt156.2.2.2.1).bind fun bt164 => (if bt112.2.2.2.2.2 = 0 then (if bt123.2.2.2.2.2 = 0 then ((spec_SameMatrix.f k bt123.1 bt123.2.1 bt123.2.2.1 bt123.2.2.2.1 bt112.1 bt112.2.1 bt112.2.2.1 bt112.2.2.2.1).bind fun t166 => (if t166 = true then ((laws_r8Same.f k bt123.2.2.2.2.1 bt112.2.2.2.2.1).bind fun t167 => (if t167 = true then (if bt134.2.2.2.2 = 0 then (if bt142.2 = 0 then (if bt144.2 = 0 then (if bt142.1 = bt144.1 then (if bt142.1 = (bt112.2.2.2.2.1.length : Int) then (if bt146.2.2.2.2 = 0 then (if bt154.2 = 0 then (if bt154.1 = bt142.1 then (if bt156.2.2.2.2 = 0 then (if bt164.2 = 0 then (if bt164.1 = bt142.1 then (if bt112.2.1 = bt105.2.1 then (if bt112.2.2.1 = bt105.2.2.1 then (laws_FnReduced.j0 k bt112.2.2.2.2.1 bt142.1 ((bt112.2.2.2.1.length : Int) != (wrap64 (bt105.2.1 * bt105.2.2.1))) bt105.1 bt105.2.1 bt105.2.2.1 bt105.2.2.2 bt112.1 bt112.2.1 bt112.2.2.1 bt112.2.2.2.1) else (laws_FnReduced.j0 k bt112.2.2.2.2.1 bt142.1 true bt105.1 bt105.2.1 bt105.2.2.1 bt105.2.2.2 bt112.1 bt112.2.1 bt112.2.2.1 bt112.2.2.2.1)) else (laws_FnReduced.j0 k bt112.2.2.2.2.1 bt142.1 true bt105.1 bt105.2.1 bt105.2.2.1 bt105.2.2.2 bt112.1 bt112.2.1 bt112.2.2.1 bt112.2.2.2.1)) else (laws_FnReduced.j0 k bt112.2.2.2.2.1 bt142.1 true bt105.1 bt105.2.1 bt105.2.2.1 bt105.2.2.2 bt112.1 bt112.2.1 bt112.2.2.1 bt112.2.2.2.1)) else (laws_FnReduced.j0 k bt112.2.2.2.2.1 bt142.1 true bt105.1 bt105.2.1 bt105.2.2.1 bt105.2.2.2 bt112.1 bt112.2.1 bt112.2.2.1 bt112.2.2.2.1)) else (laws_FnReduced.j0 k bt112.2.2.2.2.1 bt142.1 true bt105.1 bt105.2.1 bt105.2.2.1 bt105.2.2.2 bt112.1 bt112.2.1 bt112.2.2.1 bt112.2.2.2.1)) else (laws_FnReduced.j0 k bt112.2.2.2.2.1 bt142.1 true bt105.1 bt105.2.1 bt105.2.2.1 bt105.2.2.2 bt112.1 bt112.2.1 bt112.2.2.1 bt112.2.2.2.1)) else (laws_FnReduced.j0 k bt112.2.2.2.2.1 bt142.1 true bt105.1 bt105.2.1 bt105.2.2.1 bt105.2.2.2 bt112.1 bt112.2.1 bt112.2.2.1 bt112.2.2.2.1)) else (laws_FnReduced.j0 k bt112.2.2.2.2.1 bt142.1 true bt105.1 bt105.2.1 bt105.2.2.1 bt105.2.2.2 bt112.1 bt112.2.1 bt112.2.2.1 bt112.2.2.2.1)) else (laws_FnReduced.j0 k bt112.2.2.2.2.1 bt142.1 true bt105.1 bt105.2.1 bt105.2.2.1 bt105.2.2.2 bt112.1 bt112.2.1 bt112.2.2.1 bt112.2.2.2.1)) else (laws_FnReduced.j0 k bt112.2.2.2.2.1 bt142.1 true bt105.1 bt105.2.1 bt105.2.2.1 bt105.2.2.2 bt112.1 bt112.2.1 bt112.2.2.1 bt112.2.2.2.1)) else (laws_FnReduced.j0 k bt112.2.2.2.2.1 bt142.1 true bt105.1 bt105.2.1 bt105.2.2.1 bt105.2.2.2 bt112.1 bt112.2.1 bt112.2.2.1 bt112.2.2.2.1)) else (laws_FnReduced.j0 k bt112.2.2.2.2.1 bt142.1 true bt105.1 bt105.2.1 bt105.2.2.1 bt105.2.2.2 bt112.1 bt112.2.1 bt112.2.2.1 bt112.2.2.2.1)) else (laws_FnReduced.j0 k bt112.2.2.2.2.1 bt142.1 true bt105.1 bt105.2.1 bt105.2.2.1 bt105.2.2.2 bt112.1 bt112.2.1 bt112.2.2.1 bt112.2.2.2.1)) else (laws_FnReduced.j0 k bt112.2.2.2.2.1 bt142.1 true bt105.1 bt105.2.1 bt105.2.2.1 bt105.2.2.2 bt112.1 bt112.2.1 bt112.2.2.1 bt112.2.2.2.1))) else (laws_FnReduced.j0 k bt112.2.2.2.2.1 bt142.1 true bt105.1 bt105.2.1 bt105.2.2.1 bt105.2.2.2 bt112.1 bt112.2.1 bt112.2.2.1 bt112.2.2.2.1))) else (laws_FnReduced.j0 k bt112.2.2.2.2.1 bt142.1 true bt105.1 bt105.2.1 bt105.2.2.1 bt105.2.2.2 bt112.1 bt112.2.1 bt112.2.2.1 bt112.2.2.2.1)) else (laws_FnReduced.j0 k bt112.2.2.2.2.1 bt142.1 true bt105.1 bt105.2.1 bt105.2.2.1 bt105.2.2.2 bt112.1 bt112.2.1 bt112.2.2.1 bt112.2.2.2.1)))))))))))))) = some true := H
   have A5 := Z3.k A50
   clear A50
   replace H := Option.bind_eq_some_iff.mp H
   obtain ⟨t103, A60, H⟩ := H
   replace H : ((laws_r8At.f l1 1 6).bind fun t104 => ((spec_R8Matrix.f k l0 t102 t103 t104).bind fun bt105 => ((impl_ReducedForm.f k bt105.1 bt105.2.1 bt105.2.2.1 bt105.2.2.2).bind fun bt112 => ((impl_ReducedForm.f k bt112.1 bt112.2.1 bt112.2.2.1 bt112.2.2.2.1).bind fun bt123 => ((impl_Transpose.f k bt105.1 bt105.2.1 bt105.2.2.1 bt105.2.2.2).bind fun bt134 => ((impl_RankOf.f k bt105.1 bt105.2.1 bt105.2.2.1 bt105.2.2.2).bind fun bt142 => ((impl_RankOf.f k bt134.1 bt134.2.1 bt134.2.2.1 bt134.2.2.2.1).bind fun bt144 => ((impl_StackRows.f k bt105.1 bt105.2.1 bt105.2.2.1 bt105.2.2.2 bt105.1 bt105.2.1 bt105.2.2.1 bt105.2.2.2).bind fun bt146 => ((impl_RankOf.f k bt146.1 bt146.2.1 bt146.2.2.1 bt146.2.2.2.1).bind fun bt154 => ((impl_JoinColumns.f k bt105.1 bt105.2.1 bt105.2.2.1 bt105.2.2.2 bt105.1 bt105.2.1 bt105.2.2.1 bt105.2.2.2).bind fun bt156 => ((impl_RankOf.f k bt156.1 bt156.2.1 bt156.2.2.1 bt156.2.2.2.1).bind fun bt164 => (if bt112.2.2.2.2.2 = 0 then (if bt123.2.2.2.2.2 = 0 then ((spec_SameMatrix.f k bt123.1 bt123.2.1 bt123.2.2.1 bt123.2.2.2.1 bt112.1 bt112.2.1 bt112.2.2.1 bt112.2.2.2.1).bind fun t166 => (if t166 = true then ((laws_r8Same.f k bt123.2.2.2.2.1 bt112.2.2.2.2.1).bind fun t167 => (if t167 = true then (if bt134.2.2.2.2 = 0 then (if bt142.2 = 0 then (if bt144.2 = 0 then (if bt142.1 = bt144.1 then (if bt142.1 = (bt112.2.2.2.2.1.length : Int) then (if bt146.2.2.2.2 = 0 then (if bt154.2 = 0 then (if bt154.1 = bt142.1 then (if bt156.2.2.2.2 = 0 then (if bt164.2 = 0 then (if bt164.1 = bt142.1 then (if bt112.2.1 = bt105.2.1 then (if bt112.2.2.1 = bt105.2.2.1 then (laws_FnReduced.j0 k bt112.2.2.2.2.1 bt142.1 ((bt112.2.2.2.1.length : Int) != (wrap64 (bt105.2.1 * bt105.2.2.1))) bt105.1 bt105.2.1 bt105.2.2.1 bt105.2.2.2 bt112.1 bt112.2.1 bt112.2.2.1 bt112.2.2.2.1) else (laws_FnReduced.j0 k bt112.2.2.2.2.1 bt142.1 true bt105.1 bt105.2.1 bt105.2.2.1 bt105.2.2.2 bt112.1 bt112.2.1 bt112.2.2.1 bt112.2.2.2.1)) else (laws_FnReduced.j0 k bt112.2.2.2.2.1 bt142.1 true bt105.1 bt105.2.1 bt105.2.2.1 bt105.2.2.2 bt112.1 bt112.2.1 bt112.2.2.1 bt112.2.2.2.1)) else (laws_FnReduced.j0 k bt112.2.2.2.2.1 bt142.1 true bt105.1 bt105.2.1 bt105.2.2.1 bt105.2.2.2 bt112.1 bt112.2.1 bt112.2.2.1 bt112.2.2.2.1)) else (laws_FnReduced.j0 k bt112.2.2.2.2.1 bt142.1 true bt105.1 bt105.2.1 bt105.2.2.1 bt105.2.2.2 bt112.1 bt112.2.1 bt112.2.2.1 bt112.2.2.2.1)) else (laws_FnReduced.j0 k bt112.2.2.2.2.1 bt142.1 true bt105.1 bt105.2.1 bt105.2.2.1 bt105.2.2.2 bt112.1 bt112.2.1 bt112.2.2.1 bt112.2.2.2.1)) else (laws_FnReduced.j0 k bt112.2.2.2.2.1 bt142.1 true bt105.1 bt105.2.1 bt105.2.2.1 bt105.2.2.2 bt112.1 bt112.2.1 bt112.2.2.1 bt112.2.2.2.1)) else (laws_FnReduced.j0 k bt112.2.2.2.2.1 bt142.1 true bt105.1 bt105.2.1 bt105.2.2.1 bt105.2.2.2 bt112.1 bt112.2.1 bt112.2.2.1 bt112.2.2.2.1)) else (laws_FnReduced.j0 k bt112.2.2.2.2.1 bt142.1 true bt105.1 bt105.2.1 bt105.2.2.1 bt105.2.2.2 bt112.1 bt112.2.1 bt112.2.2.1 bt112.2.2.2.1)) else (laws_FnReduced.j0 k bt112.2.2.2.2.1 bt142.1 true bt105.1 bt105.2.1 bt105.2.2.1 bt105.2.2.2 bt112.1 bt112.2.1 bt112.2.2.1 bt112.2.2.2.1)) else (laws_FnReduced.j0 k bt112.2.2.2.2.1 bt142.1 true bt105.1 bt105.2.1 bt105.2.2.1 bt105.2.2.2 bt112.1 bt112.2.1 bt112.2.2.1 bt112.2.2.2.1)) else (laws_FnReduced.j0 k bt112.2.2.2.2.1 bt142.1 true bt105.1 bt105.2.1 bt105.2.2.1 bt105.2.2.2 bt112.1 bt112.2.1 bt112.2.2.1 bt112.2.2.2.1)) else (laws_FnReduced.j0 k bt112.2.2.2.2.1 bt142.1 true bt105.1 bt105.2.1 bt105.2.2.1 bt105.2.2.2 bt112.1 bt112.2.1 bt112.2.2.1 bt112.2.2.2.1)) else (laws_FnReduced.j0 k bt112.2.2.2.2.1 bt142.1 true bt105.1 bt105.2.1 bt105.2.2.1 bt105.2.2.2 bt112.1 bt112.2.1 bt112.2.2.1 bt112.2.2.2.1)) else (laws_FnReduced.j0 k bt112.2.2.2.2.1 bt142.1 true bt105.1 bt105.2.1 bt105.2.2.1 bt105.2.2.2 bt112.1 bt112.2.1 bt112.2.2.1 bt112.2.2.2.1))) else (laws_FnReduced.j0 k bt112.2.2.2.2.1 bt142.1 true bt105.1 bt105.2.1 bt105.2.2.1 bt105.2.2.2 bt112.1 bt112.2.1 bt112.2.2.1 bt112.2.2.2.1))) else (laws_FnReduced.j0 k bt112.2.2.2.2.1 bt142.1 true bt105.1 bt105.2.1 bt105.2.2.1 bt105.2.2.2 bt112.1 bt112.2.1 bt112.2.2.1 bt112.2.2.2.1)) else (laws_FnReduced.j0 k bt112.2.2.2.2.1 bt142.1 true bt105.1 bt105.2.1 bt105.2.2.1 bt105.2.2.2 bt112.1 bt112.2.1 bt112.2.2.1 bt112.2.2.2.1))))))))))))) = some true := H
   have A6 := Z3.k A60
   clear A60
   replace H := Option.bind_eq_some_iff.mp H
   obtain ⟨t104, A70, H⟩ := H
   replace H : ((spec_R8Matrix.f k l0 t102 t103 t104).bind fun bt105 => ((impl_ReducedForm.f k bt105.1 bt105.2.1 bt105.2.2.1 bt105.2.2.2).bind fun bt112 => ((impl_ReducedForm.f k bt112.1 bt112.2.1 bt112.2.2.1 bt112.2.2.2.1).bind fun bt123 => ((impl_Transpose.f k bt105.1 bt105.2.1 bt105.2.2.1 bt105.2.2.2).bind fun bt134 => ((impl_RankOf.f k bt105.1 bt105.2.1 bt105.2.2.1 bt105.2.2.2).bind fun bt142 => ((impl_RankOf.f k bt134.1 bt134.2.1 bt134.2.2.1 bt134.2.2.2.1).bind fun bt144 => ((impl_StackRows.f k bt105.1 bt105.2.1 bt105.2.2.1 bt105.2.2.2 bt105.1 bt105.2.1 bt105.2.2.1 bt105.2.2.2).bind fun bt146 => ((impl_RankOf.f k bt146.1 bt146.2.1 bt146.2.2.1 bt146.2.2.2.1).bind fun bt154 => ((impl_JoinColumns.f k bt105.1 bt105.2.1 bt105.2.2.1 bt105.2.2.2 bt105.1 bt105.2.1 bt105.2.2.1 bt105.2.2.2).bind fun bt156 => ((impl_RankOf.f k bt156.1 bt156.2.1 bt156.2.2.1 bt156.2.2.2.1).bind fun bt164 => (if bt112.2.2.2.2.2 = 0 then (if bt123.2.2.2.2.2 = 0 then ((spec_SameMatrix.f k bt123.1 bt123.2.1 bt123.2.2.1 bt123.2.2.2.1 bt112.1 bt112.2.1 bt112.2.2.1 bt112.2.2.2.1).bind fun t166 => (if t166 = true then ((laws_r8Same.f k bt123.2.2.2.2.1 bt112.2.2.2.2.1).bind fun t167 => (if t167 = true then (if bt134.2.2.2.2 = 0 then (if bt142.2 = 0 then (if bt144.2 = 0 then (if bt142.1 = bt144.1 then (if bt142.1 = (bt112.2.2.2.2.1.length : Int) then (if bt146.2.2.2.2 = 0 then (if bt154.2 = 0 then (if bt154.1 = bt142.1 then (if bt156.2.2.2.2 = 0 then (if bt164.2 = 0 then (if bt164.1 = bt142.1 then (if bt112.2.1 = bt105.2.1 then (if bt112.2.2.1 = bt105.2.2.1 then (laws_FnReduced.j0 k bt112.2.2.2.2.1 bt142.1 ((bt112.2.2.2.1.length : Int) != (wrap64 (bt105.2.1 * bt105.2.2.1))) bt105.1 bt105.2.1 bt105.2.2.1 bt105.2.2.2 bt112.1 bt112.2.1 bt112.2.2.1 bt112.2.2.2.1) else (laws_FnReduced.j0 k bt112.2.2.2.2.1 bt142.1 true bt105.1 bt105.2.1 bt105.2.2.1 bt105.2.2.2 bt112.1 bt112.2.1 bt112.2.2.1 bt112.2.2.2.1)) else (laws_FnReduced.j0 k bt112.2.2.2.2.1 bt142.1 true bt105.1 bt105.2.1 bt105.2.2.1 bt105.2.2.2 bt112.1 bt112.2.1 bt112.2.2.1 bt112.2.2.2.1)) else (laws_FnReduced.j0 k bt112.2.2.2.2.1 bt142.1 true bt105.1 bt105.2.1 bt105.2.2.1 bt105.2.2.2 bt112.1 bt112.2.1 bt112.2.2.1 bt112.2.2.2.1)) else (laws_FnReduced.j0 k bt112.2.2.2.2.1 bt142.1 true bt105.1 bt105.2.1 bt105.2.2.1 bt105.2.2.2 bt112.1 bt112.2.1 bt112.2.2.1 bt112.2.2.2.1)) else (laws_FnReduced.j0 k bt112.2.2.2.2.1 bt142.1 true bt105.1 bt105.2.1 bt105.2.2.1 bt105.2.2.2 bt112.1 bt112.2.1 bt112.2.2.1 bt112.2.2.2.1)) else (laws_FnReduced.j0 k bt112.2.2.2.2.1 bt142.1 true bt105.1 bt105.2.1 bt105.2.2.1 bt105.2.2.2 bt112.1 bt112.2.1 bt112.2.2.1 bt112.2.2.2.1)) else (laws_FnReduced.j0 k bt112.2.2.2.2.1 bt142.1 true bt105.1 bt105.2.1 bt105.2.2.1 bt105.2.2.2 bt112.1 bt112.2.1 bt112.2.2.1 bt112.2.2.2.1)) else (laws_FnReduced.j0 k bt112.2.2.2.2.1 bt142.1 true bt105.1 bt105.2.1 bt105.2.2.1 bt105.2.2.2 bt112.1 bt112.2.1 bt112.2.2.1 bt112.2.2.2.1)) else (laws_FnReduced.j0 k bt112.2.2.2.2.1 bt142.1 true bt105.1 bt105.2.1 bt105.2.2.1 bt105.2.2.2 bt112.1 bt112.2.1 bt112.2.2.1 bt112.2.2.2.1)) else (laws_FnReduced.j0 k bt112.2.2.2.2.1 bt142.1 true bt105.1 bt105.2.1 bt105.2.2.1 bt105.2.2.2 bt112.1 bt112.2.1 bt112.2.2.1 bt112.2.2.2.1)) else (laws_FnReduced.j0 k bt112.2.2.2.2.1 bt142.1 true bt105.1 bt105.2.1 bt105.2.2.1 bt105.2.2.2 bt112.1 bt112.2.1 bt112.2.2.1 bt112.2.2.2.1)) else (laws_FnReduced.j0 k bt112.2.2.2.2.1 bt142.1 true bt105.1 bt105.2.1 bt105.2.2.1 bt105.2.2.2 bt112.1 bt112.2.1 bt112.2.2.1 bt112.2.2.2.1)) else (laws_FnReduced.j0 k bt112.2.2.2.2.1 bt142.1 true bt105.1 bt105.2.1 bt105.2.2.1 bt105.2.2.2 bt112.1 bt112.2.1 bt112.2.2.1 bt112.2.2.2.1)) else (laws_FnReduced.j0 k bt112.2.2.2.2.1 bt142.1 true bt105.1 bt105.2.1 bt105.2.2.1 bt105.2.2.2 bt112.1 bt112.2.1 bt112.2.2.1 bt112.2.2.2.1))) else (laws_FnReduced.j0 k bt112.2.2.2.2.1 bt142.1 true bt105.1 bt105.2.1 bt105.2.2.1 bt105.2.2.2 bt112.1 bt112.2.1 bt112.2.2.1 bt112.2.2.2.1))) else (laws_FnReduced.j0 k bt112.2.2.2.2.1 bt142.1 true bt105.1 bt105.2.1 bt105.2.2.1 bt105.2.2.2 bt112.1 bt112.2.1 bt112.2.2.1 bt112.2.2.2.1)) else (laws_FnReduced.j0 k bt112.2.2.2.2.1 bt142.1 true bt105.1 bt105.2.1 bt105.2.2.1 bt105.2.2.2 bt112.1 bt112.2.1 bt112.2.2.1 bt112.2.2.2.1)))))))))))) = some true := H
   have A7 := Z3.k A70
   clear A70
   replace H := Option.bind_eq_some_iff.mp H
   obtain ⟨⟨t105, t106, t107, t108⟩, A80, H⟩ := H
   replace H : ((impl_ReducedForm.f k t105 t106 t107 t108).bind fun bt112 => ((impl_ReducedForm.f k bt112.1 bt112.2.1 bt112.2.2.1 bt112.2.2.2.1).bind fun bt123 => ((impl_Transpose.f k t105 t106 t107 t108).bind fun bt134 => ((impl_RankOf.f k t105 t106 t107 t108).bind fun bt142 => ((impl_RankOf.f k bt134.1 bt134.2.1 bt134.2.2.1 bt134.2.2.2.1).bind fun bt144 => ((impl_StackRows.f k t105 t106 t107 t108 t105 t106 t107 t108).bind fun bt146 => ((impl_RankOf.f k bt146.1 bt146.2.1 bt146.2.2.1 bt146.2.2.2.1).bind fun bt154 => ((impl_JoinColumns.f k t105 t106 t107 t108 t105 t106 t107 t108).bind fun bt156 => ((impl_RankOf.f k bt156.1 bt156.2.1 bt156.2.2.1 bt156.2.2.2.1).bind fun bt164 => (if bt112.2.2.2.2.2 = 0 then (if bt123.2.2.2.2.2 = 0 then ((spec_SameMatrix.f k bt123.1 bt123.2.1 bt123.2.2.1 bt123.2.2.2.1 bt112.1 bt112.2.1 bt112.2.2.1 bt112.2.2.2.1).bind fun t166 => (if t166 = true then ((laws_r8Same.f k bt123.2.2.2.2.1 bt112.2.2.2.2.1).bind fun t167 => (if t167 = true then (if bt134.2.2.2.2 = 0 then (if bt142.2 = 0 then (if bt144.2 = 0 then (if bt142.1 = bt144.1 then (if bt142.1 = (bt112.2.2.2.2.1.length : Int) then (if bt146.2.2.2.2 = 0 then (if bt154.2 = 0 then (if bt154.1 = bt142.1 then (if bt156.2.2.2.2 = 0 then (if bt164.2 = 0 then (if bt164.1 = bt142.1 then (if bt112.2.1 = t106 then (if bt112.2.2.1 = t107 then (laws_FnReduced.j0 k bt112.2.2.2.2.1 bt142.1 ((bt112.2.2.2.1.length : Int) != (wrap64 (t106 * t107))) t105 t106 t107 t108 bt112.1 bt112.2.1 bt112.2.2.1 bt112.2.2.2.1) else (laws_FnReduced.j0 k bt112.2.2.2.2.1 bt142.1 true t105 t106 t107 t108 bt112.1 bt112.2.1 bt112.2.2.1 bt112.2.2.2.1)) else (laws_FnReduced.j0 k bt112.2.2.2.2.1 bt142.1 true t105 t106 t107 t108 bt112.1 bt112.2.1 bt112.2.2.1 bt112.2.2.2.1)) else (laws_FnReduced.j0 k bt112.2.2.2.2.1 bt142.1 true t105 t106 t107 t108 bt112.1 bt112.2.1 bt112.2.2.1 bt112.2.2.2.1)) else (laws_FnReduced.j0 k bt112.2.2.2.2.1 bt142.1 true t105 t106 t107 t108 bt112.1 bt112.2.1 bt112.2.2.1 bt112.2.2.2.1)) else (laws_FnReduced.j0 k bt112.2.2.2.2.1 bt142.1 true t105 t106 t107 t108 bt112.1 bt112.2.1 bt112.2.2.1 bt112.2.2.2.1)) else (laws_FnReduced.j0 k bt112.2.2.2.2.1 bt142.1 true t105 t106 t107 t108 bt112.1 bt112.2.1 bt112.2.2.1 bt112.2.2.2.1)) else (laws_FnReduced.j0 k bt112.2.2.2.2.1 bt142.1 true t105 t106 t107 t108 bt112.1 bt112.2.1 bt112.2.2.1 bt112.2.2.2.1)) else (laws_FnReduced.j0 k bt112.2.2.2.2.1 bt142.1 true t105 t106 t107 t108 bt112.1 bt112.2.1 bt112.2.2.1 bt112.2.2.2.1)) else (laws_FnReduced.j0 k bt112.2.2.2.2.1 bt142.1 true t105 t106 t107 t108 bt112.1 bt112.2.1 bt112.2.2.1 bt112.2.2.2.1)) else (laws_FnReduced.j0 k bt112.2.2.2.2.1 bt142.1 true t105 t106 t107 t108 bt112.1 bt112.2.1 bt112.2.2.1 bt112.2.2.2.1)) else (laws_FnReduced.j0 k bt112.2.2.2.2.1 bt142.1 true t105 t106 t107 t108 bt112.1 bt112.2.1 bt112.2.2.1 bt112.2.2.2.1)) else (laws_FnReduced.j0 k bt112.2.2.2.2.1 bt142.1 true t105 t106 t107 t108 bt112.1 bt112.2.1 bt112.2.2.1 bt112.2.2.2.1)) else (laws_FnReduced.j0 k bt112.2.2.2.2.1 bt142.1 true t105 t106 t107 t108 bt112.1 bt112.2.1 bt112.2.2.1 bt112.2.2.2.1)) else (laws_FnReduced.j0 k bt112.2.2.2.2.1 bt142.1 true t105 t106 t107 t108 bt112.1 bt112.2.1 bt112.2.2.1 bt112.2.2.2.1))) else (laws_FnReduced.j0 k bt112.2.2.2.2.1 bt142.1 true t105 t106 t107 t108 bt112.1 bt112.2.1 bt112.2.2.1 bt112.2.2.2.1))) else (laws_FnReduced.j0 k bt112.2.2.2.2.1 bt142.1 true t105 t106 t107 t108 bt112.1 bt112.2.1 bt112.2.2.1 bt112.2.2.2.1)) else (laws_FnReduced.j0 k bt112.2.2.2.2.1 bt142.1 true t105 t106 t107 t108 bt112.1 bt112.2.1 bt112.2.2.1 bt112.2.2.2.1))))))))))) = some true := H
   have A8 := Z3.k A80
   clear A80
   replace H := Option.bind_eq_some_iff.mp H
   obtain ⟨⟨t112, t113, t114, t115, t118, t121⟩, A90, H⟩ := H
   replace H : ((impl_ReducedForm.f k t112 t113 t114 t115).bind fun bt123 => ((impl_Transpose.f k t105 t106 t107 t108).bind fun bt134 => ((impl_RankOf.f k t105 t106 t107 t108).bind fun bt142 => ((impl_RankOf.f k bt134.1 bt134.2.1 bt134.2.2.1 bt134.2.2.2.1).bind fun bt144 => ((impl_StackRows.f k t105 t106 t107 t108 t105 t106 t107 t108).bind fun bt146 => ((impl_RankOf.f k bt146.1 bt146.2.1 bt146.2.2.1 bt146.2.2.2.1).bind fun bt154 => ((impl_JoinColumns.f k t105 t106 t107 t108 t105 t106 t107 t108).bind fun bt156 => ((impl_RankOf.f k bt156.1 bt156.2.1 bt156.2.2.1 bt156.2.2.2.1).bind fun bt164 => (if t121 = 0 then (if bt123.2.2.2.2.2 = 0 then ((spec_SameMatrix.f k bt123.1 bt123.2.1 bt123.2.2.1 bt123.2.2.2.1 t112 t113 t114 t115).bind fun t166 => (if t166 = true then ((laws_r8Same.f k bt123.2.2.2.2.1 t118).bind fun t167 => (if t167 = true then (if bt134.2.2.2.2 = 0 then (if bt142.2 = 0 then (if bt144.2 = 0 then (if bt142.1 = bt144.1 then (if bt142.1 = (t118.length : Int) then (if bt146.2.2.2.2 = 0 then (if bt154.2 = 0 then (if bt154.1 = bt142.1 then (if bt156.2.2.2.2 = 0 then (if bt164.2 = 0 then (if bt164.1 = bt142.1 then (if t113 = t106 then (if t114 = t107 then (laws_FnReduced.j0 k t118 bt142.1 ((t115.length : Int) != (wrap64 (t106 * t107))) t105 t106 t107 t108 t112 t113 t114 t115) else (laws_FnReduced.j0 k t118 bt142.1 true t105 t106 t107 t108 t112 t113 t114 t115)) else (laws_FnReduced.j0 k t118 bt142.1 true t105 t106 t107 t108 t112 t113 t114 t115)) else (laws_FnReduced.j0 k t118 bt142.1 true t105 t106 t107 t108 t112 t113 t114 t115)) else (laws_FnReduced.j0 k t118 bt142.1 true t105 t106 t107 t108 t112 t113 t114 t115)) else (laws_FnReduced.j0 k t118 bt142.1 true t105 t106 t107 t108 t112 t113 t114 t115)) else (laws_FnReduced.j0 k t118 bt142.1 true t105 t106 t107 t108 t112 t113 t114 t115)) else (laws_FnReduced.j0 k t118 bt142.1 true t105 t106 t107 t108 t112 t113 t114 t115)) else (laws_FnReduced.j0 k t118 bt142.1 true t105 t106 t107 t108 t112 t113 t114 t115)) else (laws_FnReduced.j0 k t118 bt142.1 true t105 t106 t107 t108 t112 t113 t114 t115)) else (laws_FnReduced.j0 k t118 bt142.1 true t105 t106 t107 t108 t112 t113 t114 t115)) else (laws_FnReduced.j0 k t118 bt142.1 true t105 t106 t107 t108 t112 t113 t114 t115)) else (laws_FnReduced.j0 k t118 bt142.1 true t105 t106 t107 t108 t112 t113 t114 t115)) else (laws_FnReduced.j0 k t118 bt142.1 true t105 t106 t107 t108 t112 t113 t114 t115)) else (laws_FnReduced.j0 k t118 bt142.1 true t105 t106 t107 t108 t112 t113 t114 t115))) else (laws_FnReduced.j0 k t118 bt142.1 true t105 t106 t107 t108 t112 t113 t114 t115))) else (laws_FnReduced.j0 k t118 bt142.1 true t105 t106 t107 t108 t112 t113 t114 t115)) else (laws_FnReduced.j0 k t118 bt142.1 true t105 t106 t107 t108 t112 t113 t114 t115)))))))))) = some true := H
   have A9 := Z3.k A90
   clear A90
   replace H := Option.bind_eq_some_iff.mp H
   obtain ⟨⟨t123, t124, t125, t126, t129, t132⟩, A100, H⟩ := H
   replace H : ((impl_Transpose.f k t105 t106 t107 t108).bind fun bt134 => ((impl_RankOf.f k t105 t106 t107 t108).bind fun bt142 => ((impl_RankOf.f k bt134.1 bt134.2.1 bt134.2.2.1 bt134.2.2.2.1).bind fun bt144 => ((impl_StackRows.f k t105 t106 t107 t108 t105 t106 t107 t108).bind fun bt146 => ((impl_RankOf.f k bt146.1 bt146.2.1 bt146.2.2.1 bt146.2.2.2.1).bind fun bt154 => ((impl_JoinColumns.f k t105 t106 t107 t108 t105 t106 t107 t108).bind fun bt156 => ((impl_RankOf.f k bt156.1 bt156.2.1 bt156.2.2.1 bt156.2.2.2.1).bind fun bt164 => (if t121 = 0 then (if t132 = 0 then ((spec_SameMatrix.f k t123 t124 t125 t126 t112 t113 t114 t115).bind fun t166 => (if t166 = true then ((laws_r8Same.f k t129 t118).bind fun t167 => (if t167 = true then (if bt134.2.2.2.2 = 0 then (if bt142.2 = 0 then (if bt144.2 = 0 then (if bt142.1 = bt144.1 then (if bt142.1 = (t118.length : Int) then (if bt146.2.2.2.2 = 0 then (if bt154.2 = 0 then (if bt154.1 = bt142.1 then (if bt156.2.2.2.2 = 0 then (if bt164.2 = 0 then (if bt164.1 = bt142.1 then (if t113 = t106 then (if t114 = t107 then (laws_FnReduced.j0 k t118 bt142.1 ((t115.length : Int) != (wrap64 (t106 * t107))) t105 t106 t107 t108 t112 t113 t114 t115) else (laws_FnReduced.j0 k t118 bt142.1 true t105 t106 t107 t108 t112 t113 t114 t115)) else (laws_FnReduced.j0 k t118 bt142.1 true t105 t106 t107 t108 t112 t113 t114 t115)) else (laws_FnReduced.j0 k t118 bt142.1 true t105 t106 t107 t108 t112 t113 t114 t115)) else (laws_FnReduced.j0 k t118 bt142.1 true t105 t106 t107 t108 t112 t113 t114 t115)) else (laws_FnReduced.j0 k t118 bt142.1 true t105 t106 t107 t108 t112 t113 t114 t115)) else (laws_FnReduced.j0 k t118 bt142.1 true t105 t106 t107 t108 t112 t113 t114 t115)) else (laws_FnReduced.j0 k t118 bt142.1 true t105 t106 t107 t108 t112 t113 t114 t115)) else (laws_FnReduced.j0 k t118 bt142.1 true t105 t106 t107 t108 t112 t113 t114 t115)) else (laws_FnReduced.j0 k t118 bt142.1 true t105 t106 t107 t108 t112 t113 t114 t115)) else (laws_FnReduced.j0 k t118 bt142.1 true t105 t106 t107 t108 t112 t113 t114 t115)) else (laws_FnReduced.j0 k t118 bt142.1 true t105 t106 t107 t108 t112 t113 t114 t115)) else (laws_FnReduced.j0 k t118 bt142.1 true t105 t106 t107 t108 t112 t113 t114 t115)) else (laws_FnReduced.j0 k t118 bt142.1 true t105 t106 t107 t108 t112 t113 t114 t115)) else (laws_FnReduced.j0 k t118 bt142.1 true t105 t106 t107 t108 t112 t113 t114 t115))) else (laws_FnReduced.j0 k t118 bt142.1 true t105 t106 t107 t108 t112 t113 t114 t115))) else (laws_FnReduced.j0 k t118 bt142.1 true t105 t106 t107 t108 t112 t113 t114 t115)) else (laws_FnReduced.j0 k t118 bt142.1 true t105 t106 t107 t108 t112 t113 t114 t115))))))))) = some true := H
   have A10 := Z3.k A100
   clear A100
   replace H := Option.bind_eq_some_iff.mp H
   obtain ⟨⟨t134, t135, t136, t137, t140⟩, A110, H⟩ := H
   replace H : ((impl_RankOf.f k t105 t106 t107 t108).bind fun bt142 => ((impl_RankOf.f k t134 t135 t136 t137).bind fun bt144 => ((impl_StackRows.f k t105 t106 t107 t108 t105 t106 t107 t108).bind fun bt146 => ((impl_RankOf.f k bt146.1 bt146.2.1 bt146.2.2.1 bt146.2.2.2.1).bind fun bt154 => ((impl_JoinColumns.f k t105 t106 t107 t108 t105 t106 t107 t108).bind fun bt156 => ((impl_RankOf.f k bt156.1 bt156.2.1 bt156.2.2.1 bt156.2.2.2.1).bind fun bt164 => (if t121 = 0 then (if t132 = 0 then ((spec_SameMatrix.f k t123 t124 t125 t126 t112 t113 t114 t115).bind fun t166 => (if t166 = true then ((laws_r8Same.f k t129 t118).bind fun t167 => (if t167 = true then (if t140 = 0 then (if bt142.2 = 0 then (if bt144.2 = 0 then (if bt142.1 = bt144.1 then (if bt142.1 = (t118.length : Int) then (if bt146.2.2.2.2 = 0 then (if bt154.2 = 0 then (if bt154.1 = bt142.1 then (if bt156.2.2.2.2 = 0 then (if bt164.2 = 0 then (if bt164.1 = bt142.1 then (if t113 = t106 then (if t114 = t107 then (laws_FnReduced.j0 k t118 bt142.1 ((t115.length : Int) != (wrap64 (t106 * t107))) t105 t106 t107 t108 t112 t113 t114 t115) else (laws_FnReduced.j0 k t118 bt142.1 true t105 t106 t107 t108 t112 t113 t114 t115)) else (laws_FnReduced.j0 k t118 bt142.1 true t105 t106 t107 t108 t112 t113 t114 t115)) else (laws_FnReduced.j0 k t118 bt142.1 true t105 t106 t107 t108 t112 t113 t114 t115)) else (laws_FnReduced.j0 k t118 bt142.1 true t105 t106 t107 t108 t112 t113 t114 t115)) else (laws_FnReduced.j0 k t118 bt142.1 true t105 t106 t107 t108 t112 t113 t114 t115)) else (laws_FnReduced.j0 k t118 bt142.1 true t105 t106 t107 t108 t112 t113 t114 t115)) else (laws_FnReduced.j0 k t118 bt142.1 true t105 t106 t107 t108 t112 t113 t114 t115)) else (laws_FnReduced.j0 k t118 bt142.1 true t105 t106 t107 t108 t112 t113 t114 t115)) else (laws_FnReduced.j0 k t118 bt142.1 true t105 t106 t107 t108 t112 t113 t114 t115)) else (laws_FnReduced.j0 k t118 bt142.1 true t105 t106 t107 t108 t112 t113 t114 t115)) else (laws_FnReduced.j0 k t118 bt142.1 true t105 t106 t107 t108 t112 t113 t114 t115)) else (laws_FnReduced.j0 k t118 bt142.1 true t105 t106 t107 t108 t112 t113 t114 t115)) else (laws_FnReduced.j0 k t118 bt142.1 true t105 t106 t107 t108 t112 t113 t114 t115)) else (laws_FnReduced.j0 k t118 bt142.1 true t105 t106 t107 t108 t112 t113 t114 t115))) else (laws_FnReduced.j0 k t118 bt142.1 true t105 t106 t107 t108 t112 t113 t114 t115))) else (laws_FnReduced.j0 k t118 bt142.1 true t105 t106 t107 t108 t112 t113 t114 t115)) else (laws_FnReduced.j0 k t118 bt142.1 true t105 t106 t107 t108 t112 t113 t114 t115)))))))) = some true := H
   have A11 := Z3.k A110
   clear A110
   replace H := Option.bind_eq_some_iff.mp H
   obtain ⟨⟨t142, t143⟩, A120, H⟩ := H
   replace H : ((impl_RankOf.f k t134 t135 t136 t137).bind fun bt144 => ((impl_StackRows.f k t105 t106 t107 t108 t105 t106 t107 t108).bind fun bt146 => ((impl_RankOf.f k bt146.1 bt146.2.1 bt146.2.2.1 bt146.2.2.2.1).bind fun bt154 => ((impl_JoinColumns.f k t105 t106 t107 t108 t105 t106 t107 t108).bind fun bt156 => ((impl_RankOf.f k bt156.1 bt156.2.1 bt156.2.2.1 bt156.2.2.2.1).bind fun bt164 => (if t121 = 0 then (if t132 = 0 then ((spec_SameMatrix.f k t123 t124 t125 t126 t112 t113 t114 t115).bind fun t166 => (if t166 = true then ((laws_r8Same.f k t129 t118).bind fun t167 => (if t167 = true then (if t140 = 0 then (if t143 = 0 then (if bt144.2 = 0 then (if t142 = bt144.1 then (if t142 = (t118.length : Int) then (if bt146.2.2.2.2 = 0 then (if bt154.2 = 0 then (if bt154.1 = t142 then (if bt156.2.2.2.2 = 0 then (if bt164.2 = 0 then (if bt164.1 = t142 then (if t113 = t106 then (if t114 = t107 then (laws_FnReduced.j0 k t118 t142 ((t115.length : Int) != (wrap64 (t106 * t107))) t105 t106 t107 t108 t112 t113 t114 t115) else (laws_FnReduced.j0 k t118 t142 true t105 t106 t107 t108 t112 t113 t114 t115)) else (laws_FnReduced.j0 k t118 t142 true t105 t106 t107 t108 t112 t113 t114 t115)) else (laws_FnReduced.j0 k t118 t142 true t105 t106 t107 t108 t112 t113 t114 t115)) else (laws_FnReduced.j0 k t118 t142 true t105 t106 t107 t108 t112 t113 t114 t115)) else (laws_FnReduced.j0 k t118 t142 true t105 t106 t107 t108 t112 t113 t114 t115)) else (laws_FnReduced.j0 k t118 t142 true t105 t106 t107 t108 t112 t113 t114 t115)) else (laws_FnReduced.j0 k t118 t142 true t105 t106 t107 t108 t112 t113 t114 t115)) else (laws_FnReduced.j0 k t118 t142 true t105 t106 t107 t108 t112 t113 t114 t115)) else (laws_FnReduced.j0 k t118 t142 true t105 t106 t107 t108 t112 t113 t114 t115)) else (laws_FnReduced.j0 k t118 t142 true t105 t106 t107 t108 t112 t113 t114 t115)) else (laws_FnReduced.j0 k t118 t142 true t105 t106 t107 t108 t112 t113 t114 t115)) else (laws_FnReduced.j0 k t118 t142 true t105 t106 t107 t108 t112 t113 t114 t115)) else (laws_FnReduced.j0 k t118 t142 true t105 t106 t107 t108 t112 t113 t114 t115)) else (laws_FnReduced.j0 k t118 t142 true t105 t106 t107 t108 t112 t113 t114 t115))) else (laws_FnReduced.j0 k t118 t142 true t105 t106 t107 t108 t112 t113 t114 t115))) else (laws_FnReduced.j0 k t118 t142 true t105 t106 t107 t108 t112 t113 t114 t115)) else (laws_FnReduced.j0 k t118 t142 true t105 t106 t107 t108 t112 t113 t114 t115))))))) = some true := H
   have A12 := Z3.k A120
   clear A120
   replace H := Option.bind_eq_some_iff.mp H
   obtain ⟨⟨t144, t145⟩, A130, H⟩ := H
   replace H : ((impl_StackRows.f k t105 t106 t107 t108 t105 t106 t107 t108).bind fun bt146 => ((impl_RankOf.f k bt146.1 bt146.2.1 bt146.2.2.1 bt146.2.2.2.1).bind fun bt154 => ((impl_JoinColumns.f k t105 t106 t107 t108 t105 t106 t107 t108).bind fun bt156 => ((impl_RankOf.f k bt156.1 bt156.2.1 bt156.2.2.1 bt156.2.2.2.1).bind fun bt164 => (if t121 = 0 then (if t132 = 0 then ((spec_SameMatrix.f k t123 t124 t125 t126 t112 t113 t114 t115).bind fun t166 => (if t166 = true then ((laws_r8Same.f k t129 t118).bind fun t167 => (if t167 = true then (if t140 = 0 then (if t143 = 0 then (if t145 = 0 then (if t142 = t144 then (if t142 = (t118.length : Int) then (if bt146.2.2.2.2 = 0 then (if bt154.2 = 0 then (if bt154.1 = t142 then (if bt156.2.2.2.2 = 0 then (if bt164.2 = 0 then (if bt164.1 = t142 then (if t113 = t106 then (if t114 = t107 then (laws_FnReduced.j0 k t118 t142 ((t115.length : Int) != (wrap64 (t106 * t107))) t105 t106 t107 t108 t112 t113 t114 t115) else (laws_FnReduced.j0 k t118 t142 true t105 t106 t107 t108 t112 t113 t114 t115)) else (laws_FnReduced.j0 k t118 t142 true t105 t106 t107 t108 t112 t113 t114 t115)) else (laws_FnReduced.j0 k t118 t142 true t105 t106 t107 t108 t112 t113 t114 t115)) else (laws_FnReduced.j0 k t118 t142 true t105 t106 t107 t108 t112 t113 t114 t115)) else (laws_FnReduced.j0 k t118 t142 true t105 t106 t107 t108 t112 t113 t114 t115)) else (laws_FnReduced.j0 k t118 t142 true t105 t106 t107 t108 t112 t113 t114 t115)) else (laws_FnReduced.j0 k t118 t142 true t105 t106 t107 t108 t112 t113 t114 t115)) else (laws_FnReduced.j0 k t118 t142 true t105 t106 t107 t108 t112 t113 t114 t115)) else (laws_FnReduced.j0 k t118 t142 true t105 t106 t107 t108 t112 t113 t114 t115)) else (laws_FnReduced.j0 k t118 t142 true t105 t106 t107 t108 t112 t113 t114 t115)) else (laws_FnReduced.j0 k t118 t142 true t105 t106 t107 t108 t112 t113 t114 t115)) else (laws_FnReduced.j0 k t118 t142 true t105 t106 t107 t108 t112 t113 t114 t115)) else (laws_FnReduced.j0 k t118 t142 true t105 t106 t107 t108 t112 t113 t114 t115)) else (laws_FnReduced.j0 k t118 t142 true t105 t106 t107 t108 t112 t113 t114 t115))) else (laws_FnReduced.j0 k t118 t142 true t105 t106 t107 t108 t112 t113 t114 t115))) else (laws_FnReduced.j0 k t118 t142 true t105 t106 t107 t108 t112 t113 t114 t115)) else (laws_FnReduced.j0 k t118 t142 true t105 t106 t107 t108 t112 t113 t114 t115)))))) = some true := H
   have A13 := Z3.k A130
   clear A130
   replace H := Option.bind_eq_some_iff.mp H
   obtain ⟨⟨t146, t147, t148, t149, t152⟩, A140, H⟩ := H
   replace H : ((impl_RankOf.f k t146 t147 t148 t149).bind fun bt154 => ((impl_JoinColumns.f k t105 t106 t107 t108 t105 t106 t107 t108).bind fun bt156 => ((impl_RankOf.f k bt156.1 bt156.2.1 bt156.2.2.1 bt156.2.2.2.1).bind fun bt164 => (if t121 = 0 then (if t132 = 0 then ((spec_SameMatrix.f k t123 t124 t125 t126 t112 t113 t114 t115).bind fun t166 => (if t166 = true then ((laws_r8Same.f k t129 t118).bind fun t167 => (if t167 = true then (if t140 = 0 then (if t143 = 0 then (if t145 = 0 then (if t142 = t144 then (if t142 = (t118.length : Int) then (if t152 = 0 then (if bt154.2 = 0 then (if bt154.1 = t142 then (if bt156.2.2.2.2 = 0 then (if bt164.2 = 0 then (if bt164.1 = t142 then (if t113 = t106 then (if t114 = t107 then (laws_FnReduced.j0 k t118 t142 ((t115.length : Int) != (wrap64 (t106 * t107))) t105 t106 t107 t108 t112 t113 t114 t115) else (laws_FnReduced.j0 k t118 t142 true t105 t106 t107 t108 t112 t113 t114 t115)) else (laws_FnReduced.j0 k t118 t142 true t105 t106 t107 t108 t112 t113 t114 t115)) else (laws_FnReduced.j0 k t118 t142 true t105 t106 t107 t108 t112 t113 t114 t115)) else (laws_FnReduced.j0 k t118 t142 true t105 t106 t107 t108 t112 t113 t114 t115)) else (laws_FnReduced.j0 k t118 t142 true t105 t106 t107 t108 t112 t113 t114 t115)) else (laws_FnReduced.j0 k t118 t142 true t105 t106 t107 t108 t112 t113 t114 t115)) else (laws_FnReduced.j0 k t118 t142 true t105 t106 t107 t108 t112 t113 t114 t115)) else (laws_FnReduced.j0 k t118 t142 true t105 t106 t107 t108 t112 t113 t114 t115)) else (laws_FnReduced.j0 k t118 t142 true t105 t106 t107 t108 t112 t113 t114 t115)) else (laws_FnReduced.j0 k t118 t142 true t105 t106 t107 t108 t112 t113 t114 t115)) else (laws_FnReduced.j0 k t118 t142 true t105 t106 t107 t108 t112 t113 t114 t115)) else (laws_FnReduced.j0 k t118 t142 true t105 t106 t107 t108 t112 t113 t114 t115)) else (laws_FnReduced.j0 k t118 t142 true t105 t106 t107 t108 t112 t113 t114 t115)) else (laws_FnReduced.j0 k t118 t142 true t105 t106 t107 t108 t112 t113 t114 t115))) else (laws_FnReduced.j0 k t118 t142 true t105 t106 t107 t108 t112 t113 t114 t115))) else (laws_FnReduced.j0 k t118 t142 true t105 t106 t107 t108 t112 t113 t114 t115)) else (laws_FnReduced.j0 k t118 t142 true t105 t106 t107 t108 t112 t113 t114 t115))))) = some true := H
   have A14 := Z3.k A140
   clear A140
   replace H := Option.bind_eq_some_iff.mp H
   obtain ⟨⟨t154, t155⟩, A150, H⟩ := H
   replace H : ((impl_JoinColumns.f k t105 t106 t107 t108 t105 t106 t107 t108).bind fun bt156 => ((impl_RankOf.f k bt156.1 bt156.2.1 bt156.2.2.1 bt156.2.2.2.1).bind fun bt164 => (if t121 = 0 then (if t132 = 0 then ((spec_SameMatrix.f k t123 t124 t125 t126 t112 t113 t114 t115).bind fun t166 => (if t166 = true then ((laws_r8Same.f k t129 t118).bind fun t167 => (if t167 = true then (if t140 = 0 then (if t143 = 0 then (if t145 = 0 then (if t142 = t144 then (if t142 = (t118.length : Int) then (if t152 = 0 then (if t155 = 0 then (if t154 = t142 then (if bt156.2.2.2.2 = 0 then (if bt164.2 = 0 then (if bt164.1 = t142 then (if t113 = t106 then (if t114 = t107 then (laws_FnReduced.j0 k t118 t142 ((t115.length : Int) != (wrap64 (t106 * t107))) t105 t106 t107 t108 t112 t113 t114 t115) else (laws_FnReduced.j0 k t118 t142 true t105 t106 t107 t108 t112 t113 t114 t115)) else (laws_FnReduced.j0 k t118 t142 true t105 t106 t107 t108 t112 t113 t114 t115)) else (laws_FnReduced.j0 k t118 t142 true t105 t106 t107 t108 t112 t113 t114 t115)) else (laws_FnReduced.j0 k t118 t142 true t105 t106 t107 t108 t112 t113 t114 t115)) else (laws_FnReduced.j0 k t118 t142 true t105 t106 t107 t108 t112 t113 t114 t115)) else (laws_FnReduced.j0 k t118 t142 true t105 t106 t107 t108 t112 t113 t114 t115)) else (laws_FnReduced.j0 k t118 t142 true t105 t106 t107 t108 t112 t113 t114 t115)) else (laws_FnReduced.j0 k t118 t142 true t105 t106 t107 t108 t112 t113 t114 t115)) else (laws_FnReduced.j0 k t118 t142 true t105 t106 t107 t108 t112 t113 t114 t115)) else (laws_FnReduced.j0 k t118 t142 true t105 t106 t107 t108 t112 t113 t114 t115)) else (laws_FnReduced.j0 k t118 t142 true t105 t106 t107 t108 t112 t113 t114 t115)) else (laws_FnReduced.j0 k t118 t142 true t105 t106 t107 t108 t112 t113 t114 t115)) else (laws_FnReduced.j0 k t118 t142 true t105 t106 t107 t108 t112 t113 t114 t115)) else (laws_FnReduced.j0 k t118 t142 true t105 t106 t107 t108 t112 t113 t114 t115))) else (laws_FnReduced.j0 k t118 t142 true t105 t106 t107 t108 t112 t113 t114 t115))) else (laws_FnReduced.j0 k t118 t142 true t105 t106 t107 t108 t112 t113 t114 t115)) else (laws_FnReduced.j0 k t118 t142 true t105 t106 t107 t108 t112 t113 t114 t115)))) = some true := H
   have A15 := Z3.k A150
   clear A150
   replace H := Option.bind_eq_some_iff.mp H
   obtain ⟨⟨t156, t157, t158, t159, t162⟩, A160, H⟩ := H
   replace H : ((impl_RankOf.f k t156 t157 t158 t159).bind fun bt164 => (if t121 = 0 then (if t132 = 0 then ((spec_SameMatrix.f k t123 t124 t125 t126 t112 t113 t114 t115).bind fun t166 => (if t166 = true then ((laws_r8Same.f k t129 t118).bind fun t167 => (if t167 = true then (if t140 = 0 then (if t143 = 0 then (if t145 = 0 then (if t142 = t144 then (if t142 = (t118.length : Int) then (if t152 = 0 then (if t155 = 0 then (if t154 = t142 then (if t162 = 0 then (if bt164.2 = 0 then (if bt164.1 = t142 then (if t113 = t106 then (if t114 = t107 then (laws_FnReduced.j0 k t118 t142 ((t115.length : Int) != (wrap64 (t106 * t107))) t105 t106 t107 t108 t112 t113 t114 t115) else (laws_FnReduced.j0 k t118 t142 true t105 t106 t107 t108 t112 t113 t114 t115)) else (laws_FnReduced.j0 k t118 t142 true t105 t106 t107 t108 t112 t113 t114 t115)) else (laws_FnReduced.j0 k t118 t142 true t105 t106 t107 t108 t112 t113 t114 t115)) else (laws_FnReduced.j0 k t118 t142 true t105 t106 t107 t108 t112 t113 t114 t115)) else (laws_FnReduced.j0 k t118 t142 true t105 t106 t107 t108 t112 t113 t114 t115)) else (laws_FnReduced.j0 k t118 t142 true t105 t106 t107 t108 t112 t113 t114 t115)) else (laws_FnReduced.j0 k t118 t142 true t105 t106 t107 t108 t112 t113 t114 t115)) else (laws_FnReduced.j0 k t118 t142 true t105 t106 t107 t108 t112 t113 t114 t115)) else (laws_FnReduced.j0 k t118 t142 true t105 t106 t107 t108 t112 t113 t114 t115)) else (laws_FnReduced.j0 k t118 t142 true t105 t106 t107 t108 t112 t113 t114 t115)) else (laws_FnReduced.j0 k t118 t142 true t105 t106 t107 t108 t112 t113 t114 t115)) else (laws_FnReduced.j0 k t118 t142 true t105 t106 t107 t108 t112 t113 t114 t115)) else (laws_FnReduced.j0 k t118 t142 true t105 t106 t107 t108 t112 t113 t114 t115)) else (laws_FnReduced.j0 k t118 t142 true t105 t106 t107 t108 t112 t113 t114 t115))) else (laws_FnReduced.j0 k t118 t142 true t105 t106 t107 t108 t112 t113 t114 t115))) else (laws_FnReduced.j0 k t118 t142 true t105 t106 t107 t108 t112 t113 t114 t115)) else (laws_FnReduced.j0 k t118 t142 true t105 t106 t107 t108 t112 t113 t114 t115))) = some true := H
   have A16 := Z3.k A160
   clear A160
   replace H := Option.bind_eq_some_iff.mp H
   obtain ⟨⟨t164, t165⟩, A170, H⟩ := H
   replace H : (if t121 = 0 then (if t132 = 0 then ((spec_SameMatrix.f k t123 t124 t125 t126 t112 t113 t114 t115).bind fun t166 => (if t166 = true then ((laws_r8Same.f k t129 t118).bind fun t167 => (if t167 = true then (if t140 = 0 then (if t143 = 0 then (if t145 = 0 then (if t142 = t144 then (if t142 = (t118.length : Int) then (if t152 = 0 then (if t155 = 0 then (if t154 = t142 then (if t162 = 0 then (if t165 = 0 then (if t164 = t142 then (if t113 = t106 then (if t114 = t107 then (laws_FnReduced.j0 k t118 t142 ((t115.length : Int) != (wrap64 (t106 * t107))) t105 t106 t107 t108 t112 t113 t114 t115) else (laws_FnReduced.j0 k t118 t142 true t105 t106 t107 t108 t112 t113 t114 t115)) else (laws_FnReduced.j0 k t118 t142 true t105 t106 t107 t108 t112 t113 t114 t115)) else (laws_FnReduced.j0 k t118 t142 true t105 t106 t107 t108 t112 t113 t114 t115)) else (laws_FnReduced.j0 k t118 t142 true t105 t106 t107 t108 t112 t113 t114 t115)) else (laws_FnReduced.j0 k t118 t142 true t105 t106 t107 t108 t112 t113 t114 t115)) else (laws_FnReduced.j0 k t118 t142 true t105 t106 t107 t108 t112 t113 t114 t115)) else (laws_FnReduced.j0 k t118 t142 true t105 t106 t107 t108 t112 t113 t114 t115)) else (laws_FnReduced.j0 k t118 t142 true t105 t106 t107 t108 t112 t113 t114 t115)) else (laws_FnReduced.j0 k t118 t142 true t105 t106 t107 t108 t112 t113 t114 t115)) else (laws_FnReduced.j0 k t118 t142 true t105 t106 t107 t108 t112 t113 t114 t115)) else (laws_FnReduced.j0 k t118 t142 true t105 t106 t107 t108 t112 t113 t114 t115)) else (laws_FnReduced.j0 k t118 t142 true t105 t106 t107 t108 t112 t113 t114 t115)) else (laws_FnReduced.j0 k t118 t142 true t105 t106 t107 t108 t112 t113 t114 t115)) else (laws_FnReduced.j0 k t118 t142 true t105 t106 t107 t108 t112 t113 t114 t115))) else (laws_FnReduced.j0 k t118 t142 true t105 t106 t107 t108 t112 t113 t114 t115))) else (laws_FnReduced.j0 k t118 t142 true t105 t106 t107 t108 t112 t113 t114 t115)) else (laws_FnReduced.j0 k t118 t142 true t105 t106 t107 t108 t112 t113 t114 t115)) = some true := H
   have A17 := Z3.k A170
   clear A170
   have HC18 := Z3.k H
   clear H
   go_enter Try.func3, Try.ntmps3
   go_upto_region 14 with (first | (go_at_call 10; (with_reducible refine (laws_r8Long.calls _ _ l0 _ _ l1 false _ ?side1 ?side2 ?side3 ?side4 A3.out).mono ?_); (case side1 => exact Z3.z37); (case side2 => exact HC0.out); (case side3 => exact Z3.z63); (case side4 => exact HC1.out); rintro e w' ⟨rfl, ⟨nd, rfl⟩⟩; (try first | exact ⟨rfl, _, World.drewN_drewN _ _ _⟩ | exact ⟨rfl, _, Eq.trans (World.drewN_drewN _ _ _) (congrArg (World.drewN _) (Nat.add_assoc _ _ _))⟩)) | (go_at_call 11; (with_reducible refine (spec_R8Prime.calls _ _ l0 t102 _ ?side1 ?side2 A5.out).mono ?_); (case side1 => exact Z3.z37); (case side2 => exact HC0.out); rintro e w19 ⟨rfl, hb⟩; have n0_ := Z3.k (below_step Z3.z17 hb); clear HB; have HB := n0_; clear n0_; (try clear hb); (try clear hb2); (try clear hk); (try clear hi)) | (go_at_call 13; (with_reducible refine (laws_r8At.calls _ _ l1 0 6 t103 _ ?side1 ?side2 A6.out).mono ?_); (case side1 => exact Z3.z86); (case side2 => exact HC1.out); rintro e w' ⟨rfl, ⟨nd, rfl⟩⟩; (try first | exact ⟨rfl, _, World.drewN_drewN _ _ _⟩ | exact ⟨rfl, _, Eq.trans (World.drewN_drewN _ _ _) (congrArg (World.drewN _) (Nat.add_assoc _ _ _))⟩)) | (go_at_call 13; (with_reducible refine (laws_r8At.calls _ _ l1 1 6 t104 _ ?side1 ?side2 A7.out).mono ?_); (case side1 => exact Z3.z79); (case side2 => exact HC1.out); rintro e w' ⟨rfl, ⟨nd, rfl⟩⟩; (try first | exact ⟨rfl, _, World.drewN_drewN _ _ _⟩ | exact ⟨rfl, _, Eq.trans (World.drewN_drewN _ _ _) (congrArg (World.drewN _) (Nat.add_assoc _ _ _))⟩)) | (go_at_call 12; (with_reducible refine (spec_R8Matrix.calls k _ _ l0 t102 t103 t104 t105 t106 t107 t108 _ ?side1 ?side2 A8.out).mono ?_); (case side1 => exact Z3.z80); (case side2 => exact HC0.out); rintro e w20 ⟨v109, rfl, ho0, hb⟩; have n0_ := Z3.k (Kd.R_lower ho0 (below_size Z3.z17)); have n1_ := Z3.k (below_step Z3.z17 hb); clear HB; have HO110 := n0_; have HB := n1_; clear n0_ n1_; (try clear hb); (try clear hb2); (try clear hk); (try clear hi); (try clear ho0)) | ((with_reducible refine gate_dst (N := 6) rfl ?_); (try (refine gate_guard (by rfl) ?_; dsimp only)); refine box_event ?hg (N := 6) ?hd (cs := #[.int .i64 0, .int .i64 0, .int .i64 0, .slice none 0 0]) (t := 27) ?hr ?_; (case hd => rfl); (case hg => rfl); (case hr => first | (go_simp; done) | (go_simp; rfl)); intro gb111 hg w21 hbox hb; have n0_ := Z3.k (Kd.R_below Z3.z12 hb); have n1_ := Z3.k (below_step Z3.z17 hb); have n2_ := Z3.k (hbox); have n3_ := Z3.k (show w.heap.size ≤ gb111 from (by rw [hg]; exact (below_size Z3.z17))); have n4_ := Z3.k (show w.heap.size ≤ gb111 from (by rw [hg]; exact (below_size Z3.z17))); clear HO110 HB; have HO110 := n0_; have HB := n1_; have BK111 := n2_; have GW111 := n3_; have GE111 := n4_; clear n0_ n1_ n2_ n3_ n4_; clear hb hbox hg; have hcz22_0 : w21.cell? ⟨gb111, 0, none⟩ = some (.int .i64 0) := (blk_cell BK111.out 0).trans rfl; have hcz22_1 : w21.cell? ⟨gb111, 1, none⟩ = some (.int .i64 0) := (blk_cell BK111.out 1).trans rfl; have hcz22_2 : w21.cell? ⟨gb111, 2, none⟩ = some (.int .i64 0) := (blk_cell BK111.out 2).trans rfl; have hcz22_3 : w21.cell? ⟨gb111, 3, none⟩ = some (.slice none 0 0) := (blk_cell BK111.out 3).trans rfl; have hfz22_0 := blk_frozen BK111.out 0; have hfz22_1 := blk_frozen BK111.out 1; have hfz22_2 := blk_frozen BK111.out 2; have hfz22_3 := blk_frozen BK111.out 3; obtain ⟨Ao23, co23, eo23⟩ := Kd.R_slice HO110.out; subst eo23) | (go_at_call 14; (with_reducible refine (impl_ReducedForm.calls k t105 t106 t107 _ _ t108 t112 t113 t114 t115 t118 t121 _ ?side1 ?side2 A9.out).mono ?_); (case side1 => exact Z3.z104); (case side2 => exact (Kd.R_reads' HO110.out).2.1); rintro e w24 ⟨v116, v119, rfl, ho0, ho1, hb⟩; have n0_ := Z3.k (Kd.R_mono (Kd.R_told (Kd.R_told (Kd.R_old Z3.z4 hb) (Kd.R_base ho0)) (Kd.R_base ho1)) (fun _ h_ => h_.1)); have n1_ := Z3.k (Kd.R_lower (Kd.R_new' ho0 (Kd.R_lt Z3.z4)) (below_size Z3.z20)); have n2_ := Z3.k (Kd.R_lower (Kd.R_new' ho1 (Kd.R_lt Z3.z4)) (below_size Z3.z20)); have n3_ := Z3.k (blk_below (g := gb111) (o := .cells #[.int .i64 t105, .int .i64 t106, .int .i64 t107, .slice Ao23 t108.length co23] 27 (0, 0)) Z3.z35 hb); have n4_ := Z3.k (below_step Z3.z20 hb); clear HO110 BK111 HB; have HO110 := n0_; have HO117 := n1_; have HO120 := n2_; have BK111 := n3_; have HB := n4_; clear n0_ n1_ n2_ n3_ n4_; (try clear hb); (try clear hb2); (try clear hk); (try clear hi); (try clear ho0); (try clear ho1)) | ((with_reducible refine gate_dst (N := 7) rfl ?_); (try (refine gate_guard (by rfl) ?_; dsimp only)); refine box_event ?hg (N := 7) ?hd (cs := #[.int .i64 0, .int .i64 0, .int .i64 0, .slice none 0 0]) (t := 27) ?hr ?_; (case hd => rfl); (case hg => rfl); (case hr => first | (go_simp; done) | (go_simp; rfl)); intro gb122 hg w25 hbox hb; have n0_ := Z3.k (Kd.R_below Z3.z12 hb); have n1_ := Z3.k (Kd.R_below Z3.z16 hb); have n2_ := Z3.k (Kd.R_below Z3.z15 hb); have n3_ := Z3.k (Z3.bb BK111 Z3.z0 hb); have n4_ := Z3.k (below_step Z3.z20 hb); have n5_ := Z3.k (hbox); have n6_ := Z3.k (show w.heap.size ≤ gb122 from (by rw [hg]; exact (below_size Z3.z20))); have n7_ := Z3.k (show w.heap.size ≤ gb122 from (by rw [hg]; exact (below_size Z3.z20))); have n8_ := Z3.k (show gb111 ≠ gb122 from Z3.z72); have n9_ := Z3.k (show gb122 ≠ gb111 from Z3.z73); clear HO110 HO117 HO120 BK111 HB; have HO110 := n0_; have HO117 := n1_; have HO120 := n2_; have BK111 := n3_; have HB := n4_; have BK122 := n5_; have GW122 := n6_; have GE122 := n7_; have NB111_122 := n8_; have NB122_111 := n9_; clear n0_ n1_ n2_ n3_ n4_ n5_ n6_ n7_ n8_ n9_; clear hb hbox hg; have hnb26 := NB122_111.out; have hnc26 := NB111_122.out; have hcz27_0 : w25.cell? ⟨gb122, 0, none⟩ = some (.int .i64 0) := (blk_cell BK122.out 0).trans rfl; have hcz27_1 : w25.cell? ⟨gb122, 1, none⟩ = some (.int .i64 0) := (blk_cell BK122.out 1).trans rfl; have hcz27_2 : w25.cell? ⟨gb122, 2, none⟩ = some (.int .i64 0) := (blk_cell BK122.out 2).trans rfl; have hcz27_3 : w25.cell? ⟨gb122, 3, none⟩ = some (.slice none 0 0) := (blk_cell BK122.out 3).trans rfl; have hfz27_0 := blk_frozen BK122.out 0; have hfz27_1 := blk_frozen BK122.out 1; have hfz27_2 := blk_frozen BK122.out 2; have hfz27_3 := blk_frozen BK122.out 3; obtain ⟨Ao28, co28, eo28⟩ := Kd.R_slice HO117.out; subst eo28) | (go_at_call 14; (with_reducible refine (impl_ReducedForm.calls k t112 t113 t114 _ _ t115 t123 t124 t125 t126 t129 t132 _ ?side1 ?side2 A10.out).mono ?_); (case side1 => exact Z3.z75); (case side2 => exact (Kd.R_reads' HO117.out).2.1); rintro e w29 ⟨v127, v130, rfl, ho0, ho1, hb⟩; have n0_ := Z3.k (Kd.R_mono (Kd.R_told (Kd.R_told (Kd.R_old Z3.z11 hb) (Kd.R_base ho0)) (Kd.R_base ho1)) (fun _ h_ => h_.1)); have n1_ := Z3.k (Kd.R_mono (Kd.R_told (Kd.R_told (Kd.R_old Z3.z3 hb) (Kd.R_base ho0)) (Kd.R_base ho1)) (fun _ h_ => h_.1)); have n2_ := Z3.k (Kd.R_mono (Kd.R_told (Kd.R_told (Kd.R_old Z3.z10 hb) (Kd.R_base ho0)) (Kd.R_base ho1)) (fun _ h_ => h_.1)); have n3_ := Z3.k (Kd.R_lower (Kd.R_new' (Kd.R_new' (Kd.R_new' ho0 (Kd.R_lt Z3.z11)) (Kd.R_lt Z3.z3)) (Kd.R_lt Z3.z10)) (below_size Z3.z13)); have n4_ := Z3.k (Kd.R_lower (Kd.R_new' (Kd.R_new' (Kd.R_new' ho1 (Kd.R_lt Z3.z11)) (Kd.R_lt Z3.z3)) (Kd.R_lt Z3.z10)) (below_size Z3.z13)); have n5_ := Z3.k (Z3.bb BK111 Z3.z101 hb); have n6_ := Z3.k (blk_below (g := gb122) (o := .cells #[.int .i64 t112, .int .i64 t113, .int .i64 t114, .slice Ao28 t115.length co28] 27 (0, 0)) Z3.z34 hb); have n7_ := Z3.k (below_step Z3.z13 hb); clear HO110 HO117 HO120 BK111 BK122 HB; have HO110 := n0_; have HO117 := n1_; have HO120 := n2_; have HO128 := n3_; have HO131 := n4_; have BK111 := n5_; have BK122 := n6_; have HB := n7_; clear n0_ n1_ n2_ n3_ n4_ n5_ n6_ n7_; (try clear hb); (try clear hb2); (try clear hk); (try clear hi); (try clear ho0); (try clear ho1)) | ((with_reducible refine gate_dst (N := 10) rfl ?_); (try (refine gate_guard (by rfl) ?_; dsimp only)); refine box_event ?hg (N := 10) ?hd (cs := #[.int .i64 0, .int .i64 0, .int .i64 0, .slice none 0 0]) (t := 27) ?hr ?_; (case hd => rfl); (case hg => rfl); (case hr => first | (go_simp; done) | (go_simp; rfl)); intro gb133 hg w30 hbox hb; have n0_ := Z3.k (Kd.R_below Z3.z12 hb); have n1_ := Z3.k (Kd.R_below Z3.z16 hb); have n2_ := Z3.k (Kd.R_below Z3.z15 hb); have n3_ := Z3.k (Kd.R_below Z3.z19 hb); have n4_ := Z3.k (Kd.R_below Z3.z18 hb); have n5_ := Z3.k (Z3.bb BK111 Z3.z0 hb); have n6_ := Z3.k (Z3.bb BK122 Z3.z1 hb); have n7_ := Z3.k (below_step Z3.z13 hb); have n8_ := Z3.k (hbox); have n9_ := Z3.k (show w.heap.size ≤ gb133 from (by rw [hg]; exact (below_size Z3.z13))); have n10_ := Z3.k (show w.heap.size ≤ gb133 from (by rw [hg]; exact (below_size Z3.z13))); have n11_ := Z3.k (show gb111 ≠ gb133 from Z3.z72); have n12_ := Z3.k (show gb133 ≠ gb111 from Z3.z73); have n13_ := Z3.k (show gb122 ≠ gb133 from Z3.z77); have n14_ := Z3.k (show gb133 ≠ gb122 from Z3.z78); clear HO110 HO117 HO120 HO128 HO131 BK111 BK122 HB; have HO110 := n0_; have HO117 := n1_; have HO120 := n2_; have HO128 := n3_; have HO131 := n4_; have BK111 := n5_; have BK122 := n6_; have HB := n7_; have BK133 := n8_; have GW133 := n9_; have GE133 := n10_; have NB111_133 := n11_; have NB133_111 := n12_; have NB122_133 := n13_; have NB133_122 := n14_; clear n0_ n1_ n2_ n3_ n4_ n5_ n6_ n7_ n8_ n9_ n10_ n11_ n12_ n13_ n14_; clear hb hbox hg; have hnb31 := NB133_111.out; have hnc31 := NB111_133.out; have hnb32 := NB133_122.out; have hnc32 := NB122_133.out; have hcz33_0 : w30.cell? ⟨gb133, 0, none⟩ = some (.int .i64 0) := (blk_cell BK133.out 0).trans rfl; have hcz33_1 : w30.cell? ⟨gb133, 1, none⟩ = some (.int .i64 0) := (blk_cell BK133.out 1).trans rfl; have hcz33_2 : w30.cell? ⟨gb133, 2, none⟩ = some (.int .i64 0) := (blk_cell BK133.out 2).trans rfl; have hcz33_3 : w30.cell? ⟨gb133, 3, none⟩ = some (.slice none 0 0) := (blk_cell BK133.out 3).trans rfl; have hfz33_0 := blk_frozen BK133.out 0; have hfz33_1 := blk_frozen BK133.out 1; have hfz33_2 := blk_frozen BK133.out 2; have hfz33_3 := blk_frozen BK133.out 3; obtain ⟨Ao34, co34, eo34⟩ := Kd.R_slice HO128.out; subst eo34; have hcz35_0 : w30.cell? ⟨gb111, 0, none⟩ = some (.int .i64 t105) := (blk_cell BK111.out 0).trans rfl; have hcz35_1 : w30.cell? ⟨gb111, 1, none⟩ = some (.int .i64 t106) := (blk_cell BK111.out 1).trans rfl; have hcz35_2 : w30.cell? ⟨gb111, 2, none⟩ = some (.int .i64 t107) := (blk_cell BK111.out 2).trans rfl; have hcz35_3 : w30.cell? ⟨gb111, 3, none⟩ = some (.slice Ao23 t108.length co23) := (blk_cell BK111.out 3).trans rfl; have hfz35_0 := blk_frozen BK111.out 0; have hfz35_1 := blk_frozen BK111.out 1; have hfz35_2 := blk_frozen BK111.out 2; have hfz35_3 := blk_frozen BK111.out 3) | (go_at_call 15; (with_reducible refine (impl_Transpose.calls k t105 t106 t107 _ _ t108 t134 t135 t136 t137 t140 _ ?side1 ?side2 A11.out).mono ?_); (case side1 => exact Z3.z64); (case side2 => exact (Kd.R_reads' HO110.out).2.1); rintro e w36 ⟨v138, rfl, ho0, hb⟩; have n0_ := Z3.k (Kd.R_elder' Z3.z9 (Kd.R_base ho0) hb); have n1_ := Z3.k (Kd.R_elder' Z3.z28 (Kd.R_base ho0) hb); have n2_ := Z3.k (Kd.R_elder' Z3.z27 (Kd.R_base ho0) hb); have n3_ := Z3.k (Kd.R_elder' Z3.z26 (Kd.R_base ho0) hb); have n4_ := Z3.k (Kd.R_elder' Z3.z25 (Kd.R_base ho0) hb); have n5_ := Z3.k (Kd.R_lower (Kd.R_new' (Kd.R_new' (Kd.R_new' (Kd.R_new' (Kd.R_new' ho0 (Kd.R_lt Z3.z9)) (Kd.R_lt Z3.z28)) (Kd.R_lt Z3.z27)) (Kd.R_lt Z3.z26)) (Kd.R_lt Z3.z25)) (below_size Z3.z14)); have n6_ := Z3.k (Z3.bb BK111 Z3.z100 hb); have n7_ := Z3.k (Z3.bb BK122 Z3.z96 hb); have n8_ := Z3.k (blk_below (g := gb133) (o := .cells #[.int .i64 t123, .int .i64 t124, .int .i64 t125, .slice Ao34 t126.length co34] 27 (0, 0)) Z3.z33 hb); have n9_ := Z3.k (below_step Z3.z14 hb); clear HO110 HO117 HO120 HO128 HO131 BK111 BK122 BK133 HB; have HO110 := n0_; have HO117 := n1_; have HO120 := n2_; have HO128 := n3_; have HO131 := n4_; have HO139 := n5_; have BK111 := n6_; have BK122 := n7_; have BK133 := n8_; have HB := n9_; clear n0_ n1_ n2_ n3_ n4_ n5_ n6_ n7_ n8_ n9_; (try clear hb); (try clear hb2); (try clear hk); (try clear hi); (try clear ho0)) | ((with_reducible refine gate_dst (N := 13) rfl ?_); (try (refine gate_guard (by rfl) ?_; dsimp only)); refine box_event ?hg (N := 13) ?hd (cs := #[.int .i64 0, .int .i64 0, .int .i64 0, .slice none 0 0]) (t := 27) ?hr ?_; (case hd => rfl); (case hg => rfl); (case hr => first | (go_simp; done) | (go_simp; rfl)); intro gb141 hg w37 hbox hb; have n0_ := Z3.k (Kd.R_below Z3.z12 hb); have n1_ := Z3.k (Kd.R_below Z3.z16 hb); have n2_ := Z3.k (Kd.R_below Z3.z15 hb); have n3_ := Z3.k (Kd.R_below Z3.z19 hb); have n4_ := Z3.k (Kd.R_below Z3.z18 hb); have n5_ := Z3.k (Kd.R_below Z3.z21 hb); have n6_ := Z3.k (Z3.bb BK111 Z3.z0 hb); have n7_ := Z3.k (Z3.bb BK122 Z3.z1 hb); have n8_ := Z3.k (Z3.bb BK133 Z3.z7 hb); have n9_ := Z3.k (below_step Z3.z14 hb); have n10_ := Z3.k (hbox); have n11_ := Z3.k (show w.heap.size ≤ gb141 from (by rw [hg]; exact (below_size Z3.z14))); have n12_ := Z3.k (show w.heap.size ≤ gb141 from (by rw [hg]; exact (below_size Z3.z14))); have n13_ := Z3.k (show gb111 ≠ gb141 from Z3.z72); have n14_ := Z3.k (show gb141 ≠ gb111 from Z3.z73); have n15_ := Z3.k (show gb122 ≠ gb141 from Z3.z77); have n16_ := Z3.k (show gb141 ≠ gb122 from Z3.z78); have n17_ := Z3.k (show gb133 ≠ gb141 from Z3.z102); have n18_ := Z3.k (show gb141 ≠ gb133 from Z3.z103); clear HO110 HO117 HO120 HO128 HO131 HO139 BK111 BK122 BK133 HB; have HO110 := n0_; have HO117 := n1_; have HO120 := n2_; have HO128 := n3_; have HO131 := n4_; have HO139 := n5_; have BK111 := n6_; have BK122 := n7_; have BK133 := n8_; have HB := n9_; have BK141 := n10_; have GW141 := n11_; have GE141 := n12_; have NB111_141 := n13_; have NB141_111 := n14_; have NB122_141 := n15_; have NB141_122 := n16_; have NB133_141 := n17_; have NB141_133 := n18_; clear n0_ n1_ n2_ n3_ n4_ n5_ n6_ n7_ n8_ n9_ n10_ n11_ n12_ n13_ n14_ n15_ n16_ n17_ n18_; clear hb hbox hg; have hnb38 := NB141_111.out; have hnc38 := NB111_141.out; have hnb39 := NB141_122.out; have hnc39 := NB122_141.out; have hnb40 := NB141_133.out; have hnc40 := NB133_141.out; have hcz41_0 : w37.cell? ⟨gb141, 0, none⟩ = some (.int .i64 0) := (blk_cell BK141.out 0).trans rfl; have hcz41_1 : w37.cell? ⟨gb141, 1, none⟩ = some (.int .i64 0) := (blk_cell BK141.out 1).trans rfl; have hcz41_2 : w37.cell? ⟨gb141, 2, none⟩ = some (.int .i64 0) := (blk_cell BK141.out 2).trans rfl; have hcz41_3 : w37.cell? ⟨gb141, 3, none⟩ = some (.slice none 0 0) := (blk_cell BK141.out 3).trans rfl; have hfz41_0 := blk_frozen BK141.out 0; have hfz41_1 := blk_frozen BK141.out 1; have hfz41_2 := blk_frozen BK141.out 2; have hfz41_3 := blk_frozen BK141.out 3; obtain ⟨Ao42, co42, eo42⟩ := Kd.R_slice HO139.out; subst eo42; have hcz43_0 : w37.cell? ⟨gb111, 0, none⟩ = some (.int .i64 t105) := (blk_cell BK111.out 0).trans rfl; have hcz43_1 : w37.cell? ⟨gb111, 1, none⟩ = some (.int .i64 t106) := (blk_cell BK111.out 1).trans rfl; have hcz43_2 : w37.cell? ⟨gb111, 2, none⟩ = some (.int .i64 t107) := (blk_cell BK111.out 2).trans rfl; have hcz43_3 : w37.cell? ⟨gb111, 3, none⟩ = some (.slice Ao23 t108.length co23) := (blk_cell BK111.out 3).trans rfl; have hfz43_0 := blk_frozen BK111.out 0; have hfz43_1 := blk_frozen BK111.out 1; have hfz43_2 := blk_frozen BK111.out 2; have hfz43_3 := blk_frozen BK111.out 3) | (go_at_call 16; (with_reducible refine (impl_RankOf.calls k t105 t106 t107 _ _ t108 t142 t143 _ ?side1 ?side2 A12.out).mono ?_); (case side1 => exact Z3.z62); (case side2 => exact (Kd.R_reads' HO110.out).2.1); rintro e w44 ⟨rfl, hb⟩; have n0_ := Z3.k (Kd.R_below Z3.z24 hb); have n1_ := Z3.k (Kd.R_below Z3.z57 hb); have n2_ := Z3.k (Kd.R_below Z3.z56 hb); have n3_ := Z3.k (Kd.R_below Z3.z55 hb); have n4_ := Z3.k (Kd.R_below Z3.z54 hb); have n5_ := Z3.k (Kd.R_below Z3.z53 hb); have n6_ := Z3.k (Z3.bb BK111 Z3.z99 hb); have n7_ := Z3.k (Z3.bb BK122 Z3.z95 hb); have n8_ := Z3.k (Z3.bb BK133 Z3.z92 hb); have n9_ := Z3.k (blk_below (g := gb141) (o := .cells #[.int .i64 t134, .int .i64 t135, .int .i64 t136, .slice Ao42 t137.length co42] 27 (0, 0)) Z3.z32 hb); have n10_ := Z3.k (below_step Z3.z5 hb); clear HO110 HO117 HO120 HO128 HO131 HO139 BK111 BK122 BK133 BK141 HB; have HO110 := n0_; have HO117 := n1_; have HO120 := n2_; have HO128 := n3_; have HO131 := n4_; have HO139 := n5_; have BK111 := n6_; have BK122 := n7_; have BK133 := n8_; have BK141 := n9_; have HB := n10_; clear n0_ n1_ n2_ n3_ n4_ n5_ n6_ n7_ n8_ n9_ n10_; (try clear hb); (try clear hb2); (try clear hk); (try clear hi); have hcz45_0 : w44.cell? ⟨gb141, 0, none⟩ = some (.int .i64 t134) := (blk_cell BK141.out 0).trans rfl; have hcz45_1 : w44.cell? ⟨gb141, 1, none⟩ = some (.int .i64 t135) := (blk_cell BK141.out 1).trans rfl; have hcz45_2 : w44.cell? ⟨gb141, 2, none⟩ = some (.int .i64 t136) := (blk_cell BK141.out 2).trans rfl; have hcz45_3 : w44.cell? ⟨gb141, 3, none⟩ = some (.slice Ao42 t137.length co42) := (blk_cell BK141.out 3).trans rfl; have hfz45_0 := blk_frozen BK141.out 0; have hfz45_1 := blk_frozen BK141.out 1; have hfz45_2 := blk_frozen BK141.out 2; have hfz45_3 := blk_frozen BK141.out 3) | (go_at_call 16; (with_reducible refine (impl_RankOf.calls k t134 t135 t136 _ _ t137 t144 t145 _ ?side1 ?side2 A13.out).mono ?_); (case side1 => exact Z3.z81); (case side2 => exact (Kd.R_reads' HO139.out).2.1); rintro e w46 ⟨rfl, hb⟩; have n0_ := Z3.k (Kd.R_below Z3.z12 hb); have n1_ := Z3.k (Kd.R_below Z3.z16 hb); have n2_ := Z3.k (Kd.R_below Z3.z15 hb); have n3_ := Z3.k (Kd.R_below Z3.z19 hb); have n4_ := Z3.k (Kd.R_below Z3.z18 hb); have n5_ := Z3.k (Kd.R_below Z3.z21 hb); have n6_ := Z3.k (Z3.bb BK111 Z3.z0 hb); have n7_ := Z3.k (Z3.bb BK122 Z3.z1 hb); have n8_ := Z3.k (Z3.bb BK133 Z3.z7 hb); have n9_ := Z3.k (Z3.bb BK141 Z3.z8 hb); have n10_ := Z3.k (below_step Z3.z5 hb); clear HO110 HO117 HO120 HO128 HO131 HO139 BK111 BK122 BK133 BK141 HB; have HO110 := n0_; have HO117 := n1_; have HO120 := n2_; have HO128 := n3_; have HO131 := n4_; have HO139 := n5_; have BK111 := n6_; have BK122 := n7_; have BK133 := n8_; have BK141 := n9_; have HB := n10_; clear n0_ n1_ n2_ n3_ n4_ n5_ n6_ n7_ n8_ n9_ n10_; (try clear hb); (try clear hb2); (try clear hk); (try clear hi); have hcz47_0 : w46.cell? ⟨gb111, 0, none⟩ = some (.int .i64 t105) := (blk_cell BK111.out 0).trans rfl; have hcz47_1 : w46.cell? ⟨gb111, 1, none⟩ = some (.int .i64 t106) := (blk_cell BK111.out 1).trans rfl; have hcz47_2 : w46.cell? ⟨gb111, 2, none⟩ = some (.int .i64 t107) := (blk_cell BK111.out 2).trans rfl; have hcz47_3 : w46.cell? ⟨gb111, 3, none⟩ = some (.slice Ao23 t108.length co23) := (blk_cell BK111.out 3).trans rfl; have hfz47_0 := blk_frozen BK111.out 0; have hfz47_1 := blk_frozen BK111.out 1; have hfz47_2 := blk_frozen BK111.out 2; have hfz47_3 := blk_frozen BK111.out 3) | (go_at_call 17; (with_reducible refine (impl_StackRows.calls k t105 t106 t107 (fun k_ => some k_ = (.slice Ao23 t108.length co23 : Value).ownBlock) _ _ t108 t105 t106 t107 (fun k_ => some k_ = (.slice Ao23 t108.length co23 : Value).ownBlock) _ _ t108 t146 t147 t148 t149 t152 _ ?side1 ?side2 A14.out).mono ?_); (case side1 => exact Z3.z60); (case side2 => exact Z3.z60); rintro e w48 ⟨v150, rfl, ho0, hb⟩; have n0_ := Z3.k (Kd.R_elder' Z3.z12 (Kd.R_base ho0) hb); have n1_ := Z3.k (Kd.R_elder' Z3.z16 (Kd.R_base ho0) hb); have n2_ := Z3.k (Kd.R_elder' Z3.z15 (Kd.R_base ho0) hb); have n3_ := Z3.k (Kd.R_elder' Z3.z19 (Kd.R_base ho0) hb); have n4_ := Z3.k (Kd.R_elder' Z3.z18 (Kd.R_base ho0) hb); have n5_ := Z3.k (Kd.R_elder' Z3.z21 (Kd.R_base ho0) hb); have n6_ := Z3.k (Kd.R_lower (Kd.R_new' (Kd.R_new' (Kd.R_new' (Kd.R_new' (Kd.R_new' (Kd.R_new' (Kd.R_mono (ok' := fun k_ => True) ho0 (fun _ hk_ => trivial)) (Kd.R_lt Z3.z12)) (Kd.R_lt Z3.z16)) (Kd.R_lt Z3.z15)) (Kd.R_lt Z3.z19)) (Kd.R_lt Z3.z18)) (Kd.R_lt Z3.z21)) (below_size Z3.z5)); have n7_ := Z3.k (Z3.bb BK111 Z3.z0 hb); have n8_ := Z3.k (Z3.bb BK122 Z3.z1 hb); have n9_ := Z3.k (Z3.bb BK133 Z3.z7 hb); have n10_ := Z3.k (Z3.bb BK141 Z3.z8 hb); have n11_ := Z3.k (below_step Z3.z5 hb); clear HO110 HO117 HO120 HO128 HO131 HO139 BK111 BK122 BK133 BK141 HB; have HO110 := n0_; have HO117 := n1_; have HO120 := n2_; have HO128 := n3_; have HO131 := n4_; have HO139 := n5_; have HO151 := n6_; have BK111 := n7_; have BK122 := n8_; have BK133 := n9_; have BK141 := n10_; have HB := n11_; clear n0_ n1_ n2_ n3_ n4_ n5_ n6_ n7_ n8_ n9_ n10_ n11_; (try clear hb); (try clear hb2); (try clear hk); (try clear hi); (try clear ho0)) | ((with_reducible refine gate_dst (N := 19) rfl ?_); (try (refine gate_guard (by rfl) ?_; dsimp only)); refine box_event ?hg (N := 19) ?hd (cs := #[.int .i64 0, .int .i64 0, .int .i64 0, .slice none 0 0]) (t := 27) ?hr ?_; (case hd => rfl); (case hg => rfl); (case hr => first | (go_simp; done) | (go_simp; rfl)); intro gb153 hg w49 hbox hb; have n0_ := Z3.k (Kd.R_below Z3.z12 hb); have n1_ := Z3.k (Kd.R_below Z3.z16 hb); have n2_ := Z3.k (Kd.R_below Z3.z15 hb); have n3_ := Z3.k (Kd.R_below Z3.z19 hb); have n4_ := Z3.k (Kd.R_below Z3.z18 hb); have n5_ := Z3.k (Kd.R_below Z3.z21 hb); have n6_ := Z3.k (Kd.R_below Z3.z36 hb); have n7_ := Z3.k (Z3.bb BK111 Z3.z0 hb); have n8_ := Z3.k (Z3.bb BK122 Z3.z1 hb); have n9_ := Z3.k (Z3.bb BK133 Z3.z7 hb); have n10_ := Z3.k (Z3.bb BK141 Z3.z8 hb); have n11_ := Z3.k (below_step Z3.z5 hb); have n12_ := Z3.k (hbox); have n13_ := Z3.k (show w.heap.size ≤ gb153 from (by rw [hg]; exact (below_size Z3.z5))); have n14_ := Z3.k (show w.heap.size ≤ gb153 from (by rw [hg]; exact (below_size Z3.z5))); have n15_ := Z3.k (show gb111 ≠ gb153 from Z3.z72); have n16_ := Z3.k (show gb153 ≠ gb111 from Z3.z73); have n17_ := Z3.k (show gb122 ≠ gb153 from Z3.z77); have n18_ := Z3.k (show gb153 ≠ gb122 from Z3.z78); have n19_ := Z3.k (show gb133 ≠ gb153 from Z3.z102); have n20_ := Z3.k (show gb153 ≠ gb133 from Z3.z103); have n21_ := Z3.k (show gb141 ≠ gb153 from Z3.z106); have n22_ := Z3.k (show gb153 ≠ gb141 from Z3.z107); clear HO110 HO117 HO120 HO128 HO131 HO139 HO151 BK111 BK122 BK133 BK141 HB; have HO110 := n0_; have HO117 := n1_; have HO120 := n2_; have HO128 := n3_; have HO131 := n4_; have HO139 := n5_; have HO151 := n6_; have BK111 := n7_; have BK122 := n8_; have BK133 := n9_; have BK141 := n10_; have HB := n11_; have BK153 := n12_; have GW153 := n13_; have GE153 := n14_; have NB111_153 := n15_; have NB153_111 := n16_; have NB122_153 := n17_; have NB153_122 := n18_; have NB133_153 := n19_; have NB153_133 := n20_; have NB141_153 := n21_; have NB153_141 := n22_; clear n0_ n1_ n2_ n3_ n4_ n5_ n6_ n7_ n8_ n9_ n10_ n11_ n12_ n13_ n14_ n15_ n16_ n17_ n18_ n19_ n20_ n21_ n22_; clear hb hbox hg; have hnb50 := NB153_111.out; have hnc50 := NB111_153.out; have hnb51 := NB153_122.out; have hnc51 := NB122_153.out; have hnb52 := NB153_133.out; have hnc52 := NB133_153.out; have hnb53 := NB153_141.out; have hnc53 := NB141_153.out; have hcz54_0 : w49.cell? ⟨gb153, 0, none⟩ = some (.int .i64 0) := (blk_cell BK153.out 0).trans rfl; have hcz54_1 : w49.cell? ⟨gb153, 1, none⟩ = some (.int .i64 0) := (blk_cell BK153.out 1).trans rfl; have hcz54_2 : w49.cell? ⟨gb153, 2, none⟩ = some (.int .i64 0) := (blk_cell BK153.out 2).trans rfl; have hcz54_3 : w49.cell? ⟨gb153, 3, none⟩ = some (.slice none 0 0) := (blk_cell BK153.out 3).trans rfl; have hfz54_0 := blk_frozen BK153.out 0; have hfz54_1 := blk_frozen BK153.out 1; have hfz54_2 := blk_frozen BK153.out 2; have hfz54_3 := blk_frozen BK153.out 3; obtain ⟨Ao55, co55, eo55⟩ := Kd.R_slice HO151.out; subst eo55) | (go_at_call 16; (with_reducible refine (impl_RankOf.calls k t146 t147 t148 _ _ t149 t154 t155 _ ?side1 ?side2 A15.out).mono ?_); (case side1 => exact Z3.z59); (case side2 => exact (Kd.R_reads' HO151.out).2.1); rintro e w56 ⟨rfl, hb⟩; have n0_ := Z3.k (Kd.R_below Z3.z52 hb); have n1_ := Z3.k (Kd.R_below Z3.z51 hb); have n2_ := Z3.k (Kd.R_below Z3.z50 hb); have n3_ := Z3.k (Kd.R_below Z3.z49 hb); have n4_ := Z3.k (Kd.R_below Z3.z48 hb); have n5_ := Z3.k (Kd.R_below Z3.z47 hb); have n6_ := Z3.k (Kd.R_below Z3.z23 hb); have n7_ := Z3.k (Z3.bb BK111 Z3.z98 hb); have n8_ := Z3.k (Z3.bb BK122 Z3.z94 hb); have n9_ := Z3.k (Z3.bb BK133 Z3.z91 hb); have n10_ := Z3.k (Z3.bb BK141 Z3.z89 hb); have n11_ := Z3.k (blk_below (g := gb153) (o := .cells #[.int .i64 t146, .int .i64 t147, .int .i64 t148, .slice Ao55 t149.length co55] 27 (0, 0)) Z3.z31 hb); have n12_ := Z3.k (below_step Z3.z6 hb); clear HO110 HO117 HO120 HO128 HO131 HO139 HO151 BK111 BK122 BK133 BK141 BK153 HB; have HO110 := n0_; have HO117 := n1_; have HO120 := n2_; have HO128 := n3_; have HO131 := n4_; have HO139 := n5_; have HO151 := n6_; have BK111 := n7_; have BK122 := n8_; have BK133 := n9_; have BK141 := n10_; have BK153 := n11_; have HB := n12_; clear n0_ n1_ n2_ n3_ n4_ n5_ n6_ n7_ n8_ n9_ n10_ n11_ n12_; (try clear hb); (try clear hb2); (try clear hk); (try clear hi); have hcz57_0 : w56.cell? ⟨gb111, 0, none⟩ = some (.int .i64 t105) := (blk_cell BK111.out 0).trans rfl; have hcz57_1 : w56.cell? ⟨gb111, 1, none⟩ = some (.int .i64 t106) := (blk_cell BK111.out 1).trans rfl; have hcz57_2 : w56.cell? ⟨gb111, 2, none⟩ = some (.int .i64 t107) := (blk_cell BK111.out 2).trans rfl; have hcz57_3 : w56.cell? ⟨gb111, 3, none⟩ = some (.slice Ao23 t108.length co23) := (blk_cell BK111.out 3).trans rfl; have hfz57_0 := blk_frozen BK111.out 0; have hfz57_1 := blk_frozen BK111.out 1; have hfz57_2 := blk_frozen BK111.out 2; have hfz57_3 := blk_frozen BK111.out 3) | (go_at_call 18; (with_reducible refine (impl_JoinColumns.calls k t105 t106 t107 _ _ t108 t105 t106 t107 _ _ t108 t156 t157 t158 t159 t162 _ ?side1 ?side2 ?side3 ?side4 A16.out).mono ?_); (case side1 => exact Z3.z61); (case side2 => exact (Kd.R_reads' HO110.out).2.1); (case side3 => exact Z3.z61); (case side4 => exact (Kd.R_reads' HO110.out).2.1); rintro e w58 ⟨v160, rfl, ho0, hb⟩; have n0_ := Z3.k (Kd.R_elder' Z3.z12 (Kd.R_base ho0) hb); have n1_ := Z3.k (Kd.R_elder' Z3.z16 (Kd.R_base ho0) hb); have n2_ := Z3.k (Kd.R_elder' Z3.z15 (Kd.R_base ho0) hb); have n3_ := Z3.k (Kd.R_elder' Z3.z19 (Kd.R_base ho0) hb); have n4_ := Z3.k (Kd.R_elder' Z3.z18 (Kd.R_base ho0) hb); have n5_ := Z3.k (Kd.R_elder' Z3.z21 (Kd.R_base ho0) hb); have n6_ := Z3.k (Kd.R_elder' Z3.z36 (Kd.R_base ho0) hb); have n7_ := Z3.k (Kd.R_lower (Kd.R_new' (Kd.R_new' (Kd.R_new' (Kd.R_new' (Kd.R_new' (Kd.R_new' (Kd.R_new' ho0 (Kd.R_lt Z3.z12)) (Kd.R_lt Z3.z16)) (Kd.R_lt Z3.z15)) (Kd.R_lt Z3.z19)) (Kd.R_lt Z3.z18)) (Kd.R_lt Z3.z21)) (Kd.R_lt Z3.z36)) (below_size Z3.z6)); have n8_ := Z3.k (Z3.bb BK111 Z3.z0 hb); have n9_ := Z3.k (Z3.bb BK122 Z3.z1 hb); have n10_ := Z3.k (Z3.bb BK133 Z3.z7 hb); have n11_ := Z3.k (Z3.bb BK141 Z3.z8 hb); have n12_ := Z3.k (Z3.bb BK153 Z3.z29 hb); have n13_ := Z3.k (below_step Z3.z6 hb); clear HO110 HO117 HO120 HO128 HO131 HO139 HO151 BK111 BK122 BK133 BK141 BK153 HB; have HO110 := n0_; have HO117 := n1_; have HO120 := n2_; have HO128 := n3_; have HO131 := n4_; have HO139 := n5_; have HO151 := n6_; have HO161 := n7_; have BK111 := n8_; have BK122 := n9_; have BK133 := n10_; have BK141 := n11_; have BK153 := n12_; have HB := n13_; clear n0_ n1_ n2_ n3_ n4_ n5_ n6_ n7_ n8_ n9_ n10_ n11_ n12_ n13_; (try clear hb); (try clear hb2); (try clear hk); (try clear hi); (try clear ho0)) | ((with_reducible refine gate_dst (N := 23) rfl ?_); (try (refine gate_guard (by rfl) ?_; dsimp only)); refine box_event ?hg (N := 23) ?hd (cs := #[.int .i64 0, .int .i64 0, .int .i64 0, .slice none 0 0]) (t := 27) ?hr ?_; (case hd => rfl); (case hg => rfl); (case hr => first | (go_simp; done) | (go_simp; rfl)); intro gb163 hg w59 hbox hb; have n0_ := Z3.k (Kd.R_below Z3.z12 hb); have n1_ := Z3.k (Kd.R_below Z3.z16 hb); have n2_ := Z3.k (Kd.R_below Z3.z15 hb); have n3_ := Z3.k (Kd.R_below Z3.z19 hb); have n4_ := Z3.k (Kd.R_below Z3.z18 hb); have n5_ := Z3.k (Kd.R_below Z3.z21 hb); have n6_ := Z3.k (Kd.R_below Z3.z36 hb); have n7_ := Z3.k (Kd.R_below Z3.z74 hb); have n8_ := Z3.k (Z3.bb BK111 Z3.z0 hb); have n9_ := Z3.k (Z3.bb BK122 Z3.z1 hb); have n10_ := Z3.k (Z3.bb BK133 Z3.z7 hb); have n11_ := Z3.k (Z3.bb BK141 Z3.z8 hb); have n12_ := Z3.k (Z3.bb BK153 Z3.z29 hb); have n13_ := Z3.k (below_step Z3.z6 hb); have n14_ := Z3.k (hbox); have n15_ := Z3.k (show w.heap.size ≤ gb163 from (by rw [hg]; exact (below_size Z3.z6))); have n16_ := Z3.k (show w.heap.size ≤ gb163 from (by rw [hg]; exact (below_size Z3.z6))); have n17_ := Z3.k (show gb111 ≠ gb163 from Z3.z72); have n18_ := Z3.k (show gb163 ≠ gb111 from Z3.z73); have n19_ := Z3.k (show gb122 ≠ gb163 from Z3.z77); have n20_ := Z3.k (show gb163 ≠ gb122 from Z3.z78); have n21_ := Z3.k (show gb133 ≠ gb163 from Z3.z102); have n22_ := Z3.k (show gb163 ≠ gb133 from Z3.z103); have n23_ := Z3.k (show gb141 ≠ gb163 from Z3.z106); have n24_ := Z3.k (show gb163 ≠ gb141 from Z3.z107); have n25_ := Z3.k (show gb153 ≠ gb163 from (by rw [hg]; exact Nat.ne_of_lt (Z3.bl BK153 Z3.z29))); have n26_ := Z3.k (show gb163 ≠ gb153 from (by rw [hg]; exact Nat.ne_of_gt (Z3.bl BK153 Z3.z29))); clear HO110 HO117 HO120 HO128 HO131 HO139 HO151 HO161 BK111 BK122 BK133 BK141 BK153 HB; have HO110 := n0_; have HO117 := n1_; have HO120 := n2_; have HO128 := n3_; have HO131 := n4_; have HO139 := n5_; have HO151 := n6_; have HO161 := n7_; have BK111 := n8_; have BK122 := n9_; have BK133 := n10_; have BK141 := n11_; have BK153 := n12_; have HB := n13_; have BK163 := n14_; have GW163 := n15_; have GE163 := n16_; have NB111_163 := n17_; have NB163_111 := n18_; have NB122_163 := n19_; have NB163_122 := n20_; have NB133_163 := n21_; have NB163_133 := n22_; have NB141_163 := n23_; have NB163_141 := n24_; have NB153_163 := n25_; have NB163_153 := n26_; clear n0_ n1_ n2_ n3_ n4_ n5_ n6_ n7_ n8_ n9_ n10_ n11_ n12_ n13_ n14_ n15_ n16_ n17_ n18_ n19_ n20_ n21_ n22_ n23_ n24_ n25_ n26_; clear hb hbox hg; have hnb60 := NB163_111.out; have hnc60 := NB111_163.out; have hnb61 := NB163_122.out; have hnc61 := NB122_163.out; have hnb62 := NB163_133.out; have hnc62 := NB133_163.out; have hnb63 := NB163_141.out; have hnc63 := NB141_163.out; have hnb64 := NB163_153.out; have hnc64 := NB153_163.out; have hcz65_0 : w59.cell? ⟨gb163, 0, none⟩ = some (.int .i64 0) := (blk_cell BK163.out 0).trans rfl; have hcz65_1 : w59.cell? ⟨gb163, 1, none⟩ = some (.int .i64 0) := (blk_cell BK163.out 1).trans rfl; have hcz65_2 : w59.cell? ⟨gb163, 2, none⟩ = some (.int .i64 0) := (blk_cell BK163.out 2).trans rfl; have hcz65_3 : w59.cell? ⟨gb163, 3, none⟩ = some (.slice none 0 0) := (blk_cell BK163.out 3).trans rfl; have hfz65_0 := blk_frozen BK163.out 0; have hfz65_1 := blk_frozen BK163.out 1; have hfz65_2 := blk_frozen BK163.out 2; have hfz65_3 := blk_frozen BK163.out 3; obtain ⟨Ao66, co66, eo66⟩ := Kd.R_slice HO161.out; subst eo66) | (go_at_call 16; (with_reducible refine (impl_RankOf.calls k t156 t157 t158 _ _ t159 t164 t165 _ ?side1 ?side2 A17.out).mono ?_); (case side1 => exact Z3.z39); (case side2 => exact (Kd.R_reads' HO161.out).2.1); rintro e w67 ⟨rfl, hb⟩; have n0_ := Z3.k (Kd.R_below Z3.z46 hb); have n1_ := Z3.k (Kd.R_below Z3.z45 hb); have n2_ := Z3.k (Kd.R_below Z3.z44 hb); have n3_ := Z3.k (Kd.R_below Z3.z43 hb); have n4_ := Z3.k (Kd.R_below Z3.z42 hb); have n5_ := Z3.k (Kd.R_below Z3.z41 hb); have n6_ := Z3.k (Kd.R_below Z3.z40 hb); have n7_ := Z3.k (Kd.R_below Z3.z22 hb); have n8_ := Z3.k (Z3.bb BK111 Z3.z97 hb); have n9_ := Z3.k (Z3.bb BK122 Z3.z93 hb); have n10_ := Z3.k (Z3.bb BK133 Z3.z90 hb); have n11_ := Z3.k (Z3.bb BK141 Z3.z88 hb); have n12_ := Z3.k (Z3.bb BK153 Z3.z87 hb); have n13_ := Z3.k (blk_below (g := gb163) (o := .cells #[.int .i64 t156, .int .i64 t157, .int .i64 t158, .slice Ao66 t159.length co66] 27 (0, 0)) Z3.z30 hb); have n14_ := Z3.k (below_step Z3.z2 hb); clear HO110 HO117 HO120 HO128 HO131 HO139 HO151 HO161 BK111 BK122 BK133 BK141 BK153 BK163 HB; have HO110 := n0_; have HO117 := n1_; have HO120 := n2_; have HO128 := n3_; have HO131 := n4_; have HO139 := n5_; have HO151 := n6_; have HO161 := n7_; have BK111 := n8_; have BK122 := n9_; have BK133 := n10_; have BK141 := n11_; have BK153 := n12_; have BK163 := n13_; have HB := n14_; clear n0_ n1_ n2_ n3_ n4_ n5_ n6_ n7_ n8_ n9_ n10_ n11_ n12_ n13_ n14_; (try clear hb); (try clear hb2); (try clear hk); (try clear hi)))
   repeat (go_quiet (first | (go_at_call 10; (with_reducible refine (laws_r8Long.calls _ _ l0 _ _ l1 false _ ?side1 ?side2 ?side3 ?side4 A3.out).mono ?_); (case side1 => exact Z3.z37); (case side2 => exact HC0.out); (case side3 => exact Z3.z63); (case side4 => exact HC1.out); rintro e w' ⟨rfl, ⟨nd, rfl⟩⟩; (try first | exact ⟨rfl, _, World.drewN_drewN _ _ _⟩ | exact ⟨rfl, _, Eq.trans (World.drewN_drewN _ _ _) (congrArg (World.drewN _) (Nat.add_assoc _ _ _))⟩)) | (go_at_call 11; (with_reducible refine (spec_R8Prime.calls _ _ l0 t102 _ ?side1 ?side2 A5.out).mono ?_); (case side1 => exact Z3.z37); (case side2 => exact HC0.out); rintro e w19 ⟨rfl, hb⟩; have n0_ := Z3.k (below_step Z3.z17 hb); clear HB; have HB := n0_; clear n0_; (try clear hb); (try clear hb2); (try clear hk); (try clear hi)) | (go_at_call 13; (with_reducible refine (laws_r8At.calls _ _ l1 0 6 t103 _ ?side1 ?side2 A6.out).mono ?_); (case side1 => exact Z3.z86); (case side2 => exact HC1.out); rintro e w' ⟨rfl, ⟨nd, rfl⟩⟩; (try first | exact ⟨rfl, _, World.drewN_drewN _ _ _⟩ | exact ⟨rfl, _, Eq.trans (World.drewN_drewN _ _ _) (congrArg (World.drewN _) (Nat.add_assoc _ _ _))⟩)) | (go_at_call 13; (with_reducible refine (laws_r8At.calls _ _ l1 1 6 t104 _ ?side1 ?side2 A7.out).mono ?_); (case side1 => exact Z3.z79); (case side2 => exact HC1.out); rintro e w' ⟨rfl, ⟨nd, rfl⟩⟩; (try first | exact ⟨rfl, _, World.drewN_drewN _ _ _⟩ | exact ⟨rfl, _, Eq.trans (World.drewN_drewN _ _ _) (congrArg (World.drewN _) (Nat.add_assoc _ _ _))⟩)) | (go_at_call 12; (with_reducible refine (spec_R8Matrix.calls k _ _ l0 t102 t103 t104 t105 t106 t107 t108 _ ?side1 ?side2 A8.out).mono ?_); (case side1 => exact Z3.z80); (case side2 => exact HC0.out); rintro e w20 ⟨v109, rfl, ho0, hb⟩; have n0_ := Z3.k (Kd.R_lower ho0 (below_size Z3.z17)); have n1_ := Z3.k (below_step Z3.z17 hb); clear HB; have HO110 := n0_; have HB := n1_; clear n0_ n1_; (try clear hb); (try clear hb2); (try clear hk); (try clear hi); (try clear ho0)) | ((with_reducible refine gate_dst (N := 6) rfl ?_); (try (refine gate_guard (by rfl) ?_; dsimp only)); refine box_event ?hg (N := 6) ?hd (cs := #[.int .i64 0, .int .i64 0, .int .i64 0, .slice none 0 0]) (t := 27) ?hr ?_; (case hd => rfl); (case hg => rfl); (case hr => first | (go_simp; done) | (go_simp; rfl)); intro gb111 hg w21 hbox hb; have n0_ := Z3.k (Kd.R_below Z3.z12 hb); have n1_ := Z3.k (below_step Z3.z17 hb); have n2_ := Z3.k (hbox); have n3_ := Z3.k (show w.heap.size ≤ gb111 from (by rw [hg]; exact (below_size Z3.z17))); have n4_ := Z3.k (show w.heap.size ≤ gb111 from (by rw [hg]; exact (below_size Z3.z17))); clear HO110 HB; have HO110 := n0_; have HB := n1_; have BK111 := n2_; have GW111 := n3_; have GE111 := n4_; clear n0_ n1_ n2_ n3_ n4_; clear hb hbox hg; have hcz22_0 : w21.cell? ⟨gb111, 0, none⟩ = some (.int .i64 0) := (blk_cell BK111.out 0).trans rfl; have hcz22_1 : w21.cell? ⟨gb111, 1, none⟩ = some (.int .i64 0) := (blk_cell BK111.out 1).trans rfl; have hcz22_2 : w21.cell? ⟨gb111, 2, none⟩ = some (.int .i64 0) := (blk_cell BK111.out 2).trans rfl; have hcz22_3 : w21.cell? ⟨gb111, 3, none⟩ = some (.slice none 0 0) := (blk_cell BK111.out 3).trans rfl; have hfz22_0 := blk_frozen BK111.out 0; have hfz22_1 := blk_frozen BK111.out 1; have hfz22_2 := blk_frozen BK111.out 2; have hfz22_3 := blk_frozen BK111.out 3; obtain ⟨Ao23, co23, eo23⟩ := Kd.R_slice HO110.out; subst eo23) | (go_at_call 14; (with_reducible refine (impl_ReducedForm.calls k t105 t106 t107 _ _ t108 t112 t113 t114 t115 t118 t121 _ ?side1 ?side2 A9.out).mono ?_); (case side1 => exact Z3.z104); (case side2 => exact (Kd.R_reads' HO110.out).2.1); rintro e w24 ⟨v116, v119, rfl, ho0, ho1, hb⟩; have n0_ := Z3.k (Kd.R_mono (Kd.R_told (Kd.R_told (Kd.R_old Z3.z4 hb) (Kd.R_base ho0)) (Kd.R_base ho1)) (fun _ h_ => h_.1)); have n1_ := Z3.k (Kd.R_lower (Kd.R_new' ho0 (Kd.R_lt Z3.z4)) (below_size Z3.z20)); have n2_ := Z3.k (Kd.R_lower (Kd.R_new' ho1 (Kd.R_lt Z3.z4)) (below_size Z3.z20)); have n3_ := Z3.k (blk_below (g := gb111) (o := .cells #[.int .i64 t105, .int .i64 t106, .int .i64 t107, .slice Ao23 t108.length co23] 27 (0, 0)) Z3.z35 hb); have n4_ := Z3.k (below_step Z3.z20 hb); clear HO110 BK111 HB; have HO110 := n0_; have HO117 := n1_; have HO120 := n2_; have BK111 := n3_; have HB := n4_; clear n0_ n1_ n2_ n3_ n4_; (try clear hb); (try clear hb2); (try clear hk); (try clear hi); (try clear ho0); (try clear ho1)) | ((with_reducible refine gate_dst (N := 7) rfl ?_); (try (refine gate_guard (by rfl) ?_; dsimp only)); refine box_event ?hg (N := 7) ?hd (cs := #[.int .i64 0, .int .i64 0, .int .i64 0, .slice none 0 0]) (t := 27) ?hr ?_; (case hd => rfl); (case hg => rfl); (case hr => first | (go_simp; done) | (go_simp; rfl)); intro gb122 hg w25 hbox hb; have n0_ := Z3.k (Kd.R_below Z3.z12 hb); have n1_ := Z3.k (Kd.R_below Z3.z16 hb); have n2_ := Z3.k (Kd.R_below Z3.z15 hb); have n3_ := Z3.k (Z3.bb BK111 Z3.z0 hb); have n4_ := Z3.k (below_step Z3.z20 hb); have n5_ := Z3.k (hbox); have n6_ := Z3.k (show w.heap.size ≤ gb122 from (by rw [hg]; exact (below_size Z3.z20))); have n7_ := Z3.k (show w.heap.size ≤ gb122 from (by rw [hg]; exact (below_size Z3.z20))); have n8_ := Z3.k (show gb111 ≠ gb122 from Z3.z72); have n9_ := Z3.k (show gb122 ≠ gb111 from Z3.z73); clear HO110 HO117 HO120 BK111 HB; have HO110 := n0_; have HO117 := n1_; have HO120 := n2_; have BK111 := n3_; have HB := n4_; have BK122 := n5_; have GW122 := n6_; have GE122 := n7_; have NB111_122 := n8_; have NB122_111 := n9_; clear n0_ n1_ n2_ n3_ n4_ n5_ n6_ n7_ n8_ n9_; clear hb hbox hg; have hnb26 := NB122_111.out; have hnc26 := NB111_122.out; have hcz27_0 : w25.cell? ⟨gb122, 0, none⟩ = some (.int .i64 0) := (blk_cell BK122.out 0).trans rfl; have hcz27_1 : w25.cell? ⟨gb122, 1, none⟩ = some (.int .i64 0) := (blk_cell BK122.out 1).trans rfl; have hcz27_2 : w25.cell? ⟨gb122, 2, none⟩ = some (.int .i64 0) := (blk_cell BK122.out 2).trans rfl; have hcz27_3 : w25.cell? ⟨gb122, 3, none⟩ = some (.slice none 0 0) := (blk_cell BK122.out 3).trans rfl; have hfz27_0 := blk_frozen BK122.out 0; have hfz27_1 := blk_frozen BK122.out 1; have hfz27_2 := blk_frozen BK122.out 2; have hfz27_3 := blk_frozen BK122.out 3; obtain ⟨Ao28, co28, eo28⟩ := Kd.R_slice HO117.out; subst eo28) | (go_at_call 14; (with_reducible refine (impl_ReducedForm.calls k t112 t113 t114 _ _ t115 t123 t124 t125 t126 t129 t132 _ ?side1 ?side2 A10.out).mono ?_); (case side1 => exact Z3.z75); (case side2 => exact (Kd.R_reads' HO117.out).2.1); rintro e w29 ⟨v127, v130, rfl, ho0, ho1, hb⟩; have n0_ := Z3.k (Kd.R_mono (Kd.R_told (Kd.R_told (Kd.R_old Z3.z11 hb) (Kd.R_base ho0)) (Kd.R_base ho1)) (fun _ h_ => h_.1)); have n1_ := Z3.k (Kd.R_mono (Kd.R_told (Kd.R_told (Kd.R_old Z3.z3 hb) (Kd.R_base ho0)) (Kd.R_base ho1)) (fun _ h_ => h_.1)); have n2_ := Z3.k (Kd.R_mono (Kd.R_told (Kd.R_told (Kd.R_old Z3.z10 hb) (Kd.R_base ho0)) (Kd.R_base ho1)) (fun _ h_ => h_.1)); have n3_ := Z3.k (Kd.R_lower (Kd.R_new' (Kd.R_new' (Kd.R_new' ho0 (Kd.R_lt Z3.z11)) (Kd.R_lt Z3.z3)) (Kd.R_lt Z3.z10)) (below_size Z3.z13)); have n4_ := Z3.k (Kd.R_lower (Kd.R_new' (Kd.R_new' (Kd.R_new' ho1 (Kd.R_lt Z3.z11)) (Kd.R_lt Z3.z3)) (Kd.R_lt Z3.z10)) (below_size Z3.z13)); have n5_ := Z3.k (Z3.bb BK111 Z3.z101 hb); have n6_ := Z3.k (blk_below (g := gb122) (o := .cells #[.int .i64 t112, .int .i64 t113, .int .i64 t114, .slice Ao28 t115.length co28] 27 (0, 0)) Z3.z34 hb); have n7_ := Z3.k (below_step Z3.z13 hb); clear HO110 HO117 HO120 BK111 BK122 HB; have HO110 := n0_; have HO117 := n1_; have HO120 := n2_; have HO128 := n3_; have HO131 := n4_; have BK111 := n5_; have BK122 := n6_; have HB := n7_; clear n0_ n1_ n2_ n3_ n4_ n5_ n6_ n7_; (try clear hb); (try clear hb2); (try clear hk); (try clear hi); (try clear ho0); (try clear ho1)) | ((with_reducible refine gate_dst (N := 10) rfl ?_); (try (refine gate_guard (by rfl) ?_; dsimp only)); refine box_event ?hg (N := 10) ?hd (cs := #[.int .i64 0, .int .i64 0, .int .i64 0, .slice none 0 0]) (t := 27) ?hr ?_; (case hd => rfl); (case hg => rfl); (case hr => first | (go_simp; done) | (go_simp; rfl)); intro gb133 hg w30 hbox hb; have n0_ := Z3.k (Kd.R_below Z3.z12 hb); have n1_ := Z3.k (Kd.R_below Z3.z16 hb); have n2_ := Z3.k (Kd.R_below Z3.z15 hb); have n3_ := Z3.k (Kd.R_below Z3.z19 hb); have n4_ := Z3.k (Kd.R_below Z3.z18 hb); have n5_ := Z3.k (Z3.bb BK111 Z3.z0 hb); have n6_ := Z3.k (Z3.bb BK122 Z3.z1 hb); have n7_ := Z3.k (below_step Z3.z13 hb); have n8_ := Z3.k (hbox); have n9_ := Z3.k (show w.heap.size ≤ gb133 from (by rw [hg]; exact (below_size Z3.z13))); have n10_ := Z3.k (show w.heap.size ≤ gb133 from (by rw [hg]; exact (below_size Z3.z13))); have n11_ := Z3.k (show gb111 ≠ gb133 from Z3.z72); have n12_ := Z3.k (show gb133 ≠ gb111 from Z3.z73); have n13_ := Z3.k (show gb122 ≠ gb133 from Z3.z77); have n14_ := Z3.k (show gb133 ≠ gb122 from Z3.z78); clear HO110 HO117 HO120 HO128 HO131 BK111 BK122 HB; have HO110 := n0_; have HO117 := n1_; have HO120 := n2_; have HO128 := n3_; have HO131 := n4_; have BK111 := n5_; have BK122 := n6_; have HB := n7_; have BK133 := n8_; have GW133 := n9_; have GE133 := n10_; have NB111_133 := n11_; have NB133_111 := n12_; have NB122_133 := n13_; have NB133_122 := n14_; clear n0_ n1_ n2_ n3_ n4_ n5_ n6_ n7_ n8_ n9_ n10_ n11_ n12_ n13_ n14_; clear hb hbox hg; have hnb31 := NB133_111.out; have hnc31 := NB111_133.out; have hnb32 := NB133_122.out; have hnc32 := NB122_133.out; have hcz33_0 : w30.cell? ⟨gb133, 0, none⟩ = some (.int .i64 0) := (blk_cell BK133.out 0).trans rfl; have hcz33_1 : w30.cell? ⟨gb133, 1, none⟩ = some (.int .i64 0) := (blk_cell BK133.out 1).trans rfl; have hcz33_2 : w30.cell? ⟨gb133, 2, none⟩ = some (.int .i64 0) := (blk_cell BK133.out 2).trans rfl; have hcz33_3 : w30.cell? ⟨gb133, 3, none⟩ = some (.slice none 0 0) := (blk_cell BK133.out 3).trans rfl; have hfz33_0 := blk_frozen BK133.out 0; have hfz33_1 := blk_frozen BK133.out 1; have hfz33_2 := blk_frozen BK133.out 2; have hfz33_3 := blk_frozen BK133.out 3; obtain ⟨Ao34, co34, eo34⟩ := Kd.R_slice HO128.out; subst eo34; have hcz35_0 : w30.cell? ⟨gb111, 0, none⟩ = some (.int .i64 t105) := (blk_cell BK111.out 0).trans rfl; have hcz35_1 : w30.cell? ⟨gb111, 1, none⟩ = some (.int .i64 t106) := (blk_cell BK111.out 1).trans rfl; have hcz35_2 : w30.cell? ⟨gb111, 2, none⟩ = some (.int .i64 t107) := (blk_cell BK111.out 2).trans rfl; have hcz35_3 : w30.cell? ⟨gb111, 3, none⟩ = some (.slice Ao23 t108.length co23) := (blk_cell BK111.out 3).trans rfl; have hfz35_0 := blk_frozen BK111.out 0; have hfz35_1 := blk_frozen BK111.out 1; have hfz35_2 := blk_frozen BK111.out 2; have hfz35_3 := blk_frozen BK111.out 3) | (go_at_call 15; (with_reducible refine (impl_Transpose.calls k t105 t106 t107 _ _ t108 t134 t135 t136 t137 t140 _ ?side1 ?side2 A11.out).mono ?_); (case side1 => exact Z3.z64); (case side2 => exact (Kd.R_reads' HO110.out).2.1); rintro e w36 ⟨v138, rfl, ho0, hb⟩; have n0_ := Z3.k (Kd.R_elder' Z3.z9 (Kd.R_base ho0) hb); have n1_ := Z3.k (Kd.R_elder' Z3.z28 (Kd.R_base ho0) hb); have n2_ := Z3.k (Kd.R_elder' Z3.z27 (Kd.R_base ho0) hb); have n3_ := Z3.k (Kd.R_elder' Z3.z26 (Kd.R_base ho0) hb); have n4_ := Z3.k (Kd.R_elder' Z3.z25 (Kd.R_base ho0) hb); have n5_ := Z3.k (Kd.R_lower (Kd.R_new' (Kd.R_new' (Kd.R_new' (Kd.R_new' (Kd.R_new' ho0 (Kd.R_lt Z3.z9)) (Kd.R_lt Z3.z28)) (Kd.R_lt Z3.z27)) (Kd.R_lt Z3.z26)) (Kd.R_lt Z3.z25)) (below_size Z3.z14)); have n6_ := Z3.k (Z3.bb BK111 Z3.z100 hb); have n7_ := Z3.k (Z3.bb BK122 Z3.z96 hb); have n8_ := Z3.k (blk_below (g := gb133) (o := .cells #[.int .i64 t123, .int .i64 t124, .int .i64 t125, .slice Ao34 t126.length co34] 27 (0, 0)) Z3.z33 hb); have n9_ := Z3.k (below_step Z3.z14 hb); clear HO110 HO117 HO120 HO128 HO131 BK111 BK122 BK133 HB; have HO110 := n0_; have HO117 := n1_; have HO120 := n2_; have HO128 := n3_; have HO131 := n4_; have HO139 := n5_; have BK111 := n6_; have BK122 := n7_; have BK133 := n8_; have HB := n9_; clear n0_ n1_ n2_ n3_ n4_ n5_ n6_ n7_ n8_ n9_; (try clear hb); (try clear hb2); (try clear hk); (try clear hi); (try clear ho0)) | ((with_reducible refine gate_dst (N := 13) rfl ?_); (try (refine gate_guard (by rfl) ?_; dsimp only)); refine box_event ?hg (N := 13) ?hd (cs := #[.int .i64 0, .int .i64 0, .int .i64 0, .slice none 0 0]) (t := 27) ?hr ?_; (case hd => rfl); (case hg => rfl); (case hr => first | (go_simp; done) | (go_simp; rfl)); intro gb141 hg w37 hbox hb; have n0_ := Z3.k (Kd.R_below Z3.z12 hb); have n1_ := Z3.k (Kd.R_below Z3.z16 hb); have n2_ := Z3.k (Kd.R_below Z3.z15 hb); have n3_ := Z3.k (Kd.R_below Z3.z19 hb); have n4_ := Z3.k (Kd.R_below Z3.z18 hb); have n5_ := Z3.k (Kd.R_below Z3.z21 hb); have n6_ := Z3.k (Z3.bb BK111 Z3.z0 hb); have n7_ := Z3.k (Z3.bb BK122 Z3.z1 hb); have n8_ := Z3.k (Z3.bb BK133 Z3.z7 hb); have n9_ := Z3.k (below_step Z3.z14 hb); have n10_ := Z3.k (hbox); have n11_ := Z3.k (show w.heap.size ≤ gb141 from (by rw [hg]; exact (below_size Z3.z14))); have n12_ := Z3.k (show w.heap.size ≤ gb141 from (by rw [hg]; exact (below_size Z3.z14))); have n13_ := Z3.k (show gb111 ≠ gb141 from Z3.z72); have n14_ := Z3.k (show gb141 ≠ gb111 from Z3.z73); have n15_ := Z3.k (show gb122 ≠ gb141 from Z3.z77); have n16_ := Z3.k (show gb141 ≠ gb122 from Z3.z78); have n17_ := Z3.k (show gb133 ≠ gb141 from Z3.z102); have n18_ := Z3.k (show gb141 ≠ gb133 from Z3.z103); clear HO110 HO117 HO120 HO128 HO131 HO139 BK111 BK122 BK133 HB; have HO110 := n0_; have HO117 := n1_; have HO120 := n2_; have HO128 := n3_; have HO131 := n4_; have HO139 := n5_; have BK111 := n6_; have BK122 := n7_; have BK133 := n8_; have HB := n9_; have BK141 := n10_; have GW141 := n11_; have GE141 := n12_; have NB111_141 := n13_; have NB141_111 := n14_; have NB122_141 := n15_; have NB141_122 := n16_; have NB133_141 := n17_; have NB141_133 := n18_; clear n0_ n1_ n2_ n3_ n4_ n5_ n6_ n7_ n8_ n9_ n10_ n11_ n12_ n13_ n14_ n15_ n16_ n17_ n18_; clear hb hbox hg; have hnb38 := NB141_111.out; have hnc38 := NB111_141.out; have hnb39 := NB141_122.out; have hnc39 := NB122_141.out; have hnb40 := NB141_133.out; have hnc40 := NB133_141.out; have hcz41_0 : w37.cell? ⟨gb141, 0, none⟩ = some (.int .i64 0) := (blk_cell BK141.out 0).trans rfl; have hcz41_1 : w37.cell? ⟨gb141, 1, none⟩ = some (.int .i64 0) := (blk_cell BK141.out 1).trans rfl; have hcz41_2 : w37.cell? ⟨gb141, 2, none⟩ = some (.int .i64 0) := (blk_cell BK141.out 2).trans rfl; have hcz41_3 : w37.cell? ⟨gb141, 3, none⟩ = some (.slice none 0 0) := (blk_cell BK141.out 3).trans rfl; have hfz41_0 := blk_frozen BK141.out 0; have hfz41_1 := blk_frozen BK141.out 1; have hfz41_2 := blk_frozen BK141.out 2; have hfz41_3 := blk_frozen BK141.out 3; obtain ⟨Ao42, co42, eo42⟩ := Kd.R_slice HO139.out; subst eo42; have hcz43_0 : w37.cell? ⟨gb111, 0, none⟩ = some (.int .i64 t105) := (blk_cell BK111.out 0).trans rfl; have hcz43_1 : w37.cell? ⟨gb111, 1, none⟩ = some (.int .i64 t106) := (blk_cell BK111.out 1).trans rfl; have hcz43_2 : w37.cell? ⟨gb111, 2, none⟩ = some (.int .i64 t107) := (blk_cell BK111.out 2).trans rfl; have hcz43_3 : w37.cell? ⟨gb111, 3, none⟩ = some (.slice Ao23 t108.length co23) := (blk_cell BK111.out 3).trans rfl; have hfz43_0 := blk_frozen BK111.out 0; have hfz43_1 := blk_frozen BK111.out 1; have hfz43_2 := blk_frozen BK111.out 2; have hfz43_3 := blk_frozen BK111.out 3) | (go_at_call 16; (with_reducible refine (impl_RankOf.calls k t105 t106 t107 _ _ t108 t142 t143 _ ?side1 ?side2 A12.out).mono ?_); (case side1 => exact Z3.z62); (case side2 => exact (Kd.R_reads' HO110.out).2.1); rintro e w44 ⟨rfl, hb⟩; have n0_ := Z3.k (Kd.R_below Z3.z24 hb); have n1_ := Z3.k (Kd.R_below Z3.z57 hb); have n2_ := Z3.k (Kd.R_below Z3.z56 hb); have n3_ := Z3.k (Kd.R_below Z3.z55 hb); have n4_ := Z3.k (Kd.R_below Z3.z54 hb); have n5_ := Z3.k (Kd.R_below Z3.z53 hb); have n6_ := Z3.k (Z3.bb BK111 Z3.z99 hb); have n7_ := Z3.k (Z3.bb BK122 Z3.z95 hb); have n8_ := Z3.k (Z3.bb BK133 Z3.z92 hb); have n9_ := Z3.k (blk_below (g := gb141) (o := .cells #[.int .i64 t134, .int .i64 t135, .int .i64 t136, .slice Ao42 t137.length co42] 27 (0, 0)) Z3.z32 hb); have n10_ := Z3.k (below_step Z3.z5 hb); clear HO110 HO117 HO120 HO128 HO131 HO139 BK111 BK122 BK133 BK141 HB; have HO110 := n0_; have HO117 := n1_; have HO120 := n2_; have HO128 := n3_; have HO131 := n4_; have HO139 := n5_; have BK111 := n6_; have BK122 := n7_; have BK133 := n8_; have BK141 := n9_; have HB := n10_; clear n0_ n1_ n2_ n3_ n4_ n5_ n6_ n7_ n8_ n9_ n10_; (try clear hb); (try clear hb2); (try clear hk); (try clear hi); have hcz45_0 : w44.cell? ⟨gb141, 0, none⟩ = some (.int .i64 t134) := (blk_cell BK141.out 0).trans rfl; have hcz45_1 : w44.cell? ⟨gb141, 1, none⟩ = some (.int .i64 t135) := (blk_cell BK141.out 1).trans rfl; have hcz45_2 : w44.cell? ⟨gb141, 2, none⟩ = some (.int .i64 t136) := (blk_cell BK141.out 2).trans rfl; have hcz45_3 : w44.cell? ⟨gb141, 3, none⟩ = some (.slice Ao42 t137.length co42) := (blk_cell BK141.out 3).trans rfl; have hfz45_0 := blk_frozen BK141.out 0; have hfz45_1 := blk_frozen BK141.out 1; have hfz45_2 := blk_frozen BK141.out 2; have hfz45_3 := blk_frozen BK141.out 3) | (go_at_call 16; (with_reducible refine (impl_RankOf.calls k t134 t135 t136 _ _ t137 t144 t145 _ ?side1 ?side2 A13.out).mono ?_); (case side1 => exact Z3.z81); (case side2 => exact (Kd.R_reads' HO139.out).2.1); rintro e w46 ⟨rfl, hb⟩; have n0_ := Z3.k (Kd.R_below Z3.z12 hb); have n1_ := Z3.k (Kd.R_below Z3.z16 hb); have n2_ := Z3.k (Kd.R_below Z3.z15 hb); have n3_ := Z3.k (Kd.R_below Z3.z19 hb); have n4_ := Z3.k (Kd.R_below Z3.z18 hb); have n5_ := Z3.k (Kd.R_below Z3.z21 hb); have n6_ := Z3.k (Z3.bb BK111 Z3.z0 hb); have n7_ := Z3.k (Z3.bb BK122 Z3.z1 hb); have n8_ := Z3.k (Z3.bb BK133 Z3.z7 hb); have n9_ := Z3.k (Z3.bb BK141 Z3.z8 hb); have n10_ := Z3.k (below_step Z3.z5 hb); clear HO110 HO117 HO120 HO128 HO131 HO139 BK111 BK122 BK133 BK141 HB; have HO110 := n0_; have HO117 := n1_; have HO120 := n2_; have HO128 := n3_; have HO131 := n4_; have HO139 := n5_; have BK111 := n6_; have BK122 := n7_; have BK133 := n8_; have BK141 := n9_; have HB := n10_; clear n0_ n1_ n2_ n3_ n4_ n5_ n6_ n7_ n8_ n9_ n10_; (try clear hb); (try clear hb2); (try clear hk); (try clear hi); have hcz47_0 : w46.cell? ⟨gb111, 0, none⟩ = some (.int .i64 t105) := (blk_cell BK111.out 0).trans rfl; have hcz47_1 : w46.cell? ⟨gb111, 1, none⟩ = some (.int .i64 t106) := (blk_cell BK111.out 1).trans rfl; have hcz47_2 : w46.cell? ⟨gb111, 2, none⟩ = some (.int .i64 t107) := (blk_cell BK111.out 2).trans rfl; have hcz47_3 : w46.cell? ⟨gb111, 3, none⟩ = some (.slice Ao23 t108.length co23) := (blk_cell BK111.out 3).trans rfl; have hfz47_0 := blk_frozen BK111.out 0; have hfz47_1 := blk_frozen BK111.out 1; have hfz47_2 := blk_frozen BK111.out 2; have hfz47_3 := blk_frozen BK111.out 3) | (go_at_call 17; (with_reducible refine (impl_StackRows.calls k t105 t106 t107 (fun k_ => some k_ = (.slice Ao23 t108.length co23 : Value).ownBlock) _ _ t108 t105 t106 t107 (fun k_ => some k_ = (.slice Ao23 t108.length co23 : Value).ownBlock) _ _ t108 t146 t147 t148 t149 t152 _ ?side1 ?side2 A14.out).mono ?_); (case side1 => exact Z3.z60); (case side2 => exact Z3.z60); rintro e w48 ⟨v150, rfl, ho0, hb⟩; have n0_ := Z3.k (Kd.R_elder' Z3.z12 (Kd.R_base ho0) hb); have n1_ := Z3.k (Kd.R_elder' Z3.z16 (Kd.R_base ho0) hb); have n2_ := Z3.k (Kd.R_elder' Z3.z15 (Kd.R_base ho0) hb); have n3_ := Z3.k (Kd.R_elder' Z3.z19 (Kd.R_base ho0) hb); have n4_ := Z3.k (Kd.R_elder' Z3.z18 (Kd.R_base ho0) hb); have n5_ := Z3.k (Kd.R_elder' Z3.z21 (Kd.R_base ho0) hb); have n6_ := Z3.k (Kd.R_lower (Kd.R_new' (Kd.R_new' (Kd.R_new' (Kd.R_new' (Kd.R_new' (Kd.R_new' (Kd.R_mono (ok' := fun k_ => True) ho0 (fun _ hk_ => trivial)) (Kd.R_lt Z3.z12)) (Kd.R_lt Z3.z16)) (Kd.R_lt Z3.z15)) (Kd.R_lt Z3.z19)) (Kd.R_lt Z3.z18)) (Kd.R_lt Z3.z21)) (below_size Z3.z5)); have n7_ := Z3.k (Z3.bb BK111 Z3.z0 hb); have n8_ := Z3.k (Z3.bb BK122 Z3.z1 hb); have n9_ := Z3.k (Z3.bb BK133 Z3.z7 hb); have n10_ := Z3.k (Z3.bb BK141 Z3.z8 hb); have n11_ := Z3.k (below_step Z3.z5 hb); clear HO110 HO117 HO120 HO128 HO131 HO139 BK111 BK122 BK133 BK141 HB; have HO110 := n0_; have HO117 := n1_; have HO120 := n2_; have HO128 := n3_; have HO131 := n4_; have HO139 := n5_; have HO151 := n6_; have BK111 := n7_; have BK122 := n8_; have BK133 := n9_; have BK141 := n10_; have HB := n11_; clear n0_ n1_ n2_ n3_ n4_ n5_ n6_ n7_ n8_ n9_ n10_ n11_; (try clear hb); (try clear hb2); (try clear hk); (try clear hi); (try clear ho0)) | ((with_reducible refine gate_dst (N := 19) rfl ?_); (try (refine gate_guard (by rfl) ?_; dsimp only)); refine box_event ?hg (N := 19) ?hd (cs := #[.int .i64 0, .int .i64 0, .int .i64 0, .slice none 0 0]) (t := 27) ?hr ?_; (case hd => rfl); (case hg => rfl); (case hr => first | (go_simp; done) | (go_simp; rfl)); intro gb153 hg w49 hbox hb; have n0_ := Z3.k (Kd.R_below Z3.z12 hb); have n1_ := Z3.k (Kd.R_below Z3.z16 hb); have n2_ := Z3.k (Kd.R_below Z3.z15 hb); have n3_ := Z3.k (Kd.R_below Z3.z19 hb); have n4_ := Z3.k (Kd.R_below Z3.z18 hb); have n5_ := Z3.k (Kd.R_below Z3.z21 hb); have n6_ := Z3.k (Kd.R_below Z3.z36 hb); have n7_ := Z3.k (Z3.bb BK111 Z3.z0 hb); have n8_ := Z3.k (Z3.bb BK122 Z3.z1 hb); have n9_ := Z3.k (Z3.bb BK133 Z3.z7 hb); have n10_ := Z3.k (Z3.bb BK141 Z3.z8 hb); have n11_ := Z3.k (below_step Z3.z5 hb); have n12_ := Z3.k (hbox); have n13_ := Z3.k (show w.heap.size ≤ gb153 from (by rw [hg]; exact (below_size Z3.z5))); have n14_ := Z3.k (show w.heap.size ≤ gb153 from (by rw [hg]; exact (below_size Z3.z5))); have n15_ := Z3.k (show gb111 ≠ gb153 from Z3.z72); have n16_ := Z3.k (show gb153 ≠ gb111 from Z3.z73); have n17_ := Z3.k (show gb122 ≠ gb153 from Z3.z77); have n18_ := Z3.k (show gb153 ≠ gb122 from Z3.z78); have n19_ := Z3.k (show gb133 ≠ gb153 from Z3.z102); have n20_ := Z3.k (show gb153 ≠ gb133 from Z3.z103); have n21_ := Z3.k (show gb141 ≠ gb153 from Z3.z106); have n22_ := Z3.k (show gb153 ≠ gb141 from Z3.z107); clear HO110 HO117 HO120 HO128 HO131 HO139 HO151 BK111 BK122 BK133 BK141 HB; have HO110 := n0_; have HO117 := n1_; have HO120 := n2_; have HO128 := n3_; have HO131 := n4_; have HO139 := n5_; have HO151 := n6_; have BK111 := n7_; have BK122 := n8_; have BK133 := n9_; have BK141 := n10_; have HB := n11_; have BK153 := n12_; have GW153 := n13_; have GE153 := n14_; have NB111_153 := n15_; have NB153_111 := n16_; have NB122_153 := n17_; have NB153_122 := n18_; have NB133_153 := n19_; have NB153_133 := n20_; have NB141_153 := n21_; have NB153_141 := n22_; clear n0_ n1_ n2_ n3_ n4_ n5_ n6_ n7_ n8_ n9_ n10_ n11_ n12_ n13_ n14_ n15_ n16_ n17_ n18_ n19_ n20_ n21_ n22_; clear hb hbox hg; have hnb50 := NB153_111.out; have hnc50 := NB111_153.out; have hnb51 := NB153_122.out; have hnc51 := NB122_153.out; have hnb52 := NB153_133.out; have hnc52 := NB133_153.out; have hnb53 := NB153_141.out; have hnc53 := NB141_153.out; have hcz54_0 : w49.cell? ⟨gb153, 0, none⟩ = some (.int .i64 0) := (blk_cell BK153.out 0).trans rfl; have hcz54_1 : w49.cell? ⟨gb153, 1, none⟩ = some (.int .i64 0) := (blk_cell BK153.out 1).trans rfl; have hcz54_2 : w49.cell? ⟨gb153, 2, none⟩ = some (.int .i64 0) := (blk_cell BK153.out 2).trans rfl; have hcz54_3 : w49.cell? ⟨gb153, 3, none⟩ = some (.slice none 0 0) := (blk_cell BK153.out 3).trans rfl; have hfz54_0 := blk_frozen BK153.out 0; have hfz54_1 := blk_frozen BK153.out 1; have hfz54_2 := blk_frozen BK153.out 2; have hfz54_3 := blk_frozen BK153.out 3; obtain ⟨Ao55, co55, eo55⟩ := Kd.R_slice HO151.out; subst eo55) | (go_at_call 16; (with_reducible refine (impl_RankOf.calls k t146 t147 t148 _ _ t149 t154 t155 _ ?side1 ?side2 A15.out).mono ?_); (case side1 => exact Z3.z59); (case side2 => exact (Kd.R_reads' HO151.out).2.1); rintro e w56 ⟨rfl, hb⟩; have n0_ := Z3.k (Kd.R_below Z3.z52 hb); have n1_ := Z3.k (Kd.R_below Z3.z51 hb); have n2_ := Z3.k (Kd.R_below Z3.z50 hb); have n3_ := Z3.k (Kd.R_below Z3.z49 hb); have n4_ := Z3.k (Kd.R_below Z3.z48 hb); have n5_ := Z3.k (Kd.R_below Z3.z47 hb); have n6_ := Z3.k (Kd.R_below Z3.z23 hb); have n7_ := Z3.k (Z3.bb BK111 Z3.z98 hb); have n8_ := Z3.k (Z3.bb BK122 Z3.z94 hb); have n9_ := Z3.k (Z3.bb BK133 Z3.z91 hb); have n10_ := Z3.k (Z3.bb BK141 Z3.z89 hb); have n11_ := Z3.k (blk_below (g := gb153) (o := .cells #[.int .i64 t146, .int .i64 t147, .int .i64 t148, .slice Ao55 t149.length co55] 27 (0, 0)) Z3.z31 hb); have n12_ := Z3.k (below_step Z3.z6 hb); clear HO110 HO117 HO120 HO128 HO131 HO139 HO151 BK111 BK122 BK133 BK141 BK153 HB; have HO110 := n0_; have HO117 := n1_; have HO120 := n2_; have HO128 := n3_; have HO131 := n4_; have HO139 := n5_; have HO151 := n6_; have BK111 := n7_; have BK122 := n8_; have BK133 := n9_; have BK141 := n10_; have BK153 := n11_; have HB := n12_; clear n0_ n1_ n2_ n3_ n4_ n5_ n6_ n7_ n8_ n9_ n10_ n11_ n12_; (try clear hb); (try clear hb2); (try clear hk); (try clear hi); have hcz57_0 : w56.cell? ⟨gb111, 0, none⟩ = some (.int .i64 t105) := (blk_cell BK111.out 0).trans rfl; have hcz57_1 : w56.cell? ⟨gb111, 1, none⟩ = some (.int .i64 t106) := (blk_cell BK111.out 1).trans rfl; have hcz57_2 : w56.cell? ⟨gb111, 2, none⟩ = some (.int .i64 t107) := (blk_cell BK111.out 2).trans rfl; have hcz57_3 : w56.cell? ⟨gb111, 3, none⟩ = some (.slice Ao23 t108.length co23) := (blk_cell BK111.out 3).trans rfl; have hfz57_0 := blk_frozen BK111.out 0; have hfz57_1 := blk_frozen BK111.out 1; have hfz57_2 := blk_frozen BK111.out 2; have hfz57_3 := blk_frozen BK111.out 3) | (go_at_call 18; (with_reducible refine (impl_JoinColumns.calls k t105 t106 t107 _ _ t108 t105 t106 t107 _ _ t108 t156 t157 t158 t159 t162 _ ?side1 ?side2 ?side3 ?side4 A16.out).mono ?_); (case side1 => exact Z3.z61); (case side2 => exact (Kd.R_reads' HO110.out).2.1); (case side3 => exact Z3.z61); (case side4 => exact (Kd.R_reads' HO110.out).2.1); rintro e w58 ⟨v160, rfl, ho0, hb⟩; have n0_ := Z3.k (Kd.R_elder' Z3.z12 (Kd.R_base ho0) hb); have n1_ := Z3.k (Kd.R_elder' Z3.z16 (Kd.R_base ho0) hb); have n2_ := Z3.k (Kd.R_elder' Z3.z15 (Kd.R_base ho0) hb); have n3_ := Z3.k (Kd.R_elder' Z3.z19 (Kd.R_base ho0) hb); have n4_ := Z3.k (Kd.R_elder' Z3.z18 (Kd.R_base ho0) hb); have n5_ := Z3.k (Kd.R_elder' Z3.z21 (Kd.R_base ho0) hb); have n6_ := Z3.k (Kd.R_elder' Z3.z36 (Kd.R_base ho0) hb); have n7_ := Z3.k (Kd.R_lower (Kd.R_new' (Kd.R_new' (Kd.R_new' (Kd.R_new' (Kd.R_new' (Kd.R_new' (Kd.R_new' ho0 (Kd.R_lt Z3.z12)) (Kd.R_lt Z3.z16)) (Kd.R_lt Z3.z15)) (Kd.R_lt Z3.z19)) (Kd.R_lt Z3.z18)) (Kd.R_lt Z3.z21)) (Kd.R_lt Z3.z36)) (below_size Z3.z6)); have n8_ := Z3.k (Z3.bb BK111 Z3.z0 hb); have n9_ := Z3.k (Z3.bb BK122 Z3.z1 hb); have n10_ := Z3.k (Z3.bb BK133 Z3.z7 hb); have n11_ := Z3.k (Z3.bb BK141 Z3.z8 hb); have n12_ := Z3.k (Z3.bb BK153 Z3.z29 hb); have n13_ := Z3.k (below_step Z3.z6 hb); clear HO110 HO117 HO120 HO128 HO131 HO139 HO151 BK111 BK122 BK133 BK141 BK153 HB; have HO110 := n0_; have HO117 := n1_; have HO120 := n2_; have HO128 := n3_; have HO131 := n4_; have HO139 := n5_; have HO151 := n6_; have HO161 := n7_; have BK111 := n8_; have BK122 := n9_; have BK133 := n10_; have BK141 := n11_; have BK153 := n12_; have HB := n13_; clear n0_ n1_ n2_ n3_ n4_ n5_ n6_ n7_ n8_ n9_ n10_ n11_ n12_ n13_; (try clear hb); (try clear hb2); (try clear hk); (try clear hi); (try clear ho0)) | ((with_reducible refine gate_dst (N := 23) rfl ?_); (try (refine gate_guard (by rfl) ?_; dsimp only)); refine box_event ?hg (N := 23) ?hd (cs := #[.int .i64 0, .int .i64 0, .int .i64 0, .slice none 0 0]) (t := 27) ?hr ?_; (case hd => rfl); (case hg => rfl); (case hr => first | (go_simp; done) | (go_simp; rfl)); intro gb163 hg w59 hbox hb; have n0_ := Z3.k (Kd.R_below Z3.z12 hb); have n1_ := Z3.k (Kd.R_below Z3.z16 hb); have n2_ := Z3.k (Kd.R_below Z3.z15 hb); have n3_ := Z3.k (Kd.R_below Z3.z19 hb); have n4_ := Z3.k (Kd.R_below Z3.z18 hb); have n5_ := Z3.k (Kd.R_below Z3.z21 hb); have n6_ := Z3.k (Kd.R_below Z3.z36 hb); have n7_ := Z3.k (Kd.R_below Z3.z74 hb); have n8_ := Z3.k (Z3.bb BK111 Z3.z0 hb); have n9_ := Z3.k (Z3.bb BK122 Z3.z1 hb); have n10_ := Z3.k (Z3.bb BK133 Z3.z7 hb); have n11_ := Z3.k (Z3.bb BK141 Z3.z8 hb); have n12_ := Z3.k (Z3.bb BK153 Z3.z29 hb); have n13_ := Z3.k (below_step Z3.z6 hb); have n14_ := Z3.k (hbox); have n15_ := Z3.k (show w.heap.size ≤ gb163 from (by rw [hg]; exact (below_size Z3.z6))); have n16_ := Z3.k (show w.heap.size ≤ gb163 from (by rw [hg]; exact (below_size Z3.z6))); have n17_ := Z3.k (show gb111 ≠ gb163 from Z3.z72); have n18_ := Z3.k (show gb163 ≠ gb111 from Z3.z73); have n19_ := Z3.k (show gb122 ≠ gb163 from Z3.z77); have n20_ := Z3.k (show gb163 ≠ gb122 from Z3.z78); have n21_ := Z3.k (show gb133 ≠ gb163 from Z3.z102); have n22_ := Z3.k (show gb163 ≠ gb133 from Z3.z103); have n23_ := Z3.k (show gb141 ≠ gb163 from Z3.z106); have n24_ := Z3.k (show gb163 ≠ gb141 from Z3.z107); have n25_ := Z3.k (show gb153 ≠ gb163 from (by rw [hg]; exact Nat.ne_of_lt (Z3.bl BK153 Z3.z29))); have n26_ := Z3.k (show gb163 ≠ gb153 from (by rw [hg]; exact Nat.ne_of_gt (Z3.bl BK153 Z3.z29))); clear HO110 HO117 HO120 HO128 HO131 HO139 HO151 HO161 BK111 BK122 BK133 BK141 BK153 HB; have HO110 := n0_; have HO117 := n1_; have HO120 := n2_; have HO128 := n3_; have HO131 := n4_; have HO139 := n5_; have HO151 := n6_; have HO161 := n7_; have BK111 := n8_; have BK122 := n9_; have BK133 := n10_; have BK141 := n11_; have BK153 := n12_; have HB := n13_; have BK163 := n14_; have GW163 := n15_; have GE163 := n16_; have NB111_163 := n17_; have NB163_111 := n18_; have NB122_163 := n19_; have NB163_122 := n20_; have NB133_163 := n21_; have NB163_133 := n22_; have NB141_163 := n23_; have NB163_141 := n24_; have NB153_163 := n25_; have NB163_153 := n26_; clear n0_ n1_ n2_ n3_ n4_ n5_ n6_ n7_ n8_ n9_ n10_ n11_ n12_ n13_ n14_ n15_ n16_ n17_ n18_ n19_ n20_ n21_ n22_ n23_ n24_ n25_ n26_; clear hb hbox hg; have hnb60 := NB163_111.out; have hnc60 := NB111_163.out; have hnb61 := NB163_122.out; have hnc61 := NB122_163.out; have hnb62 := NB163_133.out; have hnc62 := NB133_163.out; have hnb63 := NB163_141.out; have hnc63 := NB141_163.out; have hnb64 := NB163_153.out; have hnc64 := NB153_163.out; have hcz65_0 : w59.cell? ⟨gb163, 0, none⟩ = some (.int .i64 0) := (blk_cell BK163.out 0).trans rfl; have hcz65_1 : w59.cell? ⟨gb163, 1, none⟩ = some (.int .i64 0) := (blk_cell BK163.out 1).trans rfl; have hcz65_2 : w59.cell? ⟨gb163, 2, none⟩ = some (.int .i64 0) := (blk_cell BK163.out 2).trans rfl; have hcz65_3 : w59.cell? ⟨gb163, 3, none⟩ = some (.slice none 0 0) := (blk_cell BK163.out 3).trans rfl; have hfz65_0 := blk_frozen BK163.out 0; have hfz65_1 := blk_frozen BK163.out 1; have hfz65_2 := blk_frozen BK163.out 2; have hfz65_3 := blk_frozen BK163.out 3; obtain ⟨Ao66, co66, eo66⟩ := Kd.R_slice HO161.out; subst eo66) | (go_at_call 16; (with_reducible refine (impl_RankOf.calls k t156 t157 t158 _ _ t159 t164 t165 _ ?side1 ?side2 A17.out).mono ?_); (case side1 => exact Z3.z39); (case side2 => exact (Kd.R_reads' HO161.out).2.1); rintro e w67 ⟨rfl, hb⟩; have n0_ := Z3.k (Kd.R_below Z3.z46 hb); have n1_ := Z3.k (Kd.R_below Z3.z45 hb); have n2_ := Z3.k (Kd.R_below Z3.z44 hb); have n3_ := Z3.k (Kd.R_below Z3.z43 hb); have n4_ := Z3.k (Kd.R_below Z3.z42 hb); have n5_ := Z3.k (Kd.R_below Z3.z41 hb); have n6_ := Z3.k (Kd.R_below Z3.z40 hb); have n7_ := Z3.k (Kd.R_below Z3.z22 hb); have n8_ := Z3.k (Z3.bb BK111 Z3.z97 hb); have n9_ := Z3.k (Z3.bb BK122 Z3.z93 hb); have n10_ := Z3.k (Z3.bb BK133 Z3.z90 hb); have n11_ := Z3.k (Z3.bb BK141 Z3.z88 hb); have n12_ := Z3.k (Z3.bb BK153 Z3.z87 hb); have n13_ := Z3.k (blk_below (g := gb163) (o := .cells #[.int .i64 t156, .int .i64 t157, .int .i64 t158, .slice Ao66 t159.length co66] 27 (0, 0)) Z3.z30 hb); have n14_ := Z3.k (below_step Z3.z2 hb); clear HO110 HO117 HO120 HO128 HO131 HO139 HO151 HO161 BK111 BK122 BK133 BK141 BK153 BK163 HB; have HO110 := n0_; have HO117 := n1_; have HO120 := n2_; have HO128 := n3_; have HO131 := n4_; have HO139 := n5_; have HO151 := n6_; have HO161 := n7_; have BK111 := n8_; have BK122 := n9_; have BK133 := n10_; have BK141 := n11_; have BK153 := n12_; have BK163 := n13_; have HB := n14_; clear n0_ n1_ n2_ n3_ n4_ n5_ n6_ n7_ n8_ n9_ n10_ n11_ n12_ n13_ n14_; (try clear hb); (try clear hb2); (try clear hk); (try clear hi))); go_upto_region 14 with (first | (go_at_call 10; (with_reducible refine (laws_r8Long.calls _ _ l0 _ _ l1 false _ ?side1 ?side2 ?side3 ?side4 A3.out).mono ?_); (case side1 => exact Z3.z37); (case side2 => exact HC0.out); (case side3 => exact Z3.z63); (case side4 => exact HC1.out); rintro e w' ⟨rfl, ⟨nd, rfl⟩⟩; (try first | exact ⟨rfl, _, World.drewN_drewN _ _ _⟩ | exact ⟨rfl, _, Eq.trans (World.drewN_drewN _ _ _) (congrArg (World.drewN _) (Nat.add_assoc _ _ _))⟩)) | (go_at_call 11; (with_reducible refine (spec_R8Prime.calls _ _ l0 t102 _ ?side1 ?side2 A5.out).mono ?_); (case side1 => exact Z3.z37); (case side2 => exact HC0.out); rintro e w19 ⟨rfl, hb⟩; have n0_ := Z3.k (below_step Z3.z17 hb); clear HB; have HB := n0_; clear n0_; (try clear hb); (try clear hb2); (try clear hk); (try clear hi)) | (go_at_call 13; (with_reducible refine (laws_r8At.calls _ _ l1 0 6 t103 _ ?side1 ?side2 A6.out).mono ?_); (case side1 => exact Z3.z86); (case side2 => exact HC1.out); rintro e w' ⟨rfl, ⟨nd, rfl⟩⟩; (try first | exact ⟨rfl, _, World.drewN_drewN _ _ _⟩ | exact ⟨rfl, _, Eq.trans (World.drewN_drewN _ _ _) (congrArg (World.drewN _) (Nat.add_assoc _ _ _))⟩)) | (go_at_call 13; (with_reducible refine (laws_r8At.calls _ _ l1 1 6 t104 _ ?side1 ?side2 A7.out).mono ?_); (case side1 => exact Z3.z79); (case side2 => exact HC1.out); rintro e w' ⟨rfl, ⟨nd, rfl⟩⟩; (try first | exact ⟨rfl, _, World.drewN_drewN _ _ _⟩ | exact ⟨rfl, _, Eq.trans (World.drewN_drewN _ _ _) (congrArg (World.drewN _) (Nat.add_assoc _ _ _))⟩)) | (go_at_call 12; (with_reducible refine (spec_R8Matrix.calls k _ _ l0 t102 t103 t104 t105 t106 t107 t108 _ ?side1 ?side2 A8.out).mono ?_); (case side1 => exact Z3.z80); (case side2 => exact HC0.out); rintro e w20 ⟨v109, rfl, ho0, hb⟩; have n0_ := Z3.k (Kd.R_lower ho0 (below_size Z3.z17)); have n1_ := Z3.k (below_step Z3.z17 hb); clear HB; have HO110 := n0_; have HB := n1_; clear n0_ n1_; (try clear hb); (try clear hb2); (try clear hk); (try clear hi); (try clear ho0)) | ((with_reducible refine gate_dst (N := 6) rfl ?_); (try (refine gate_guard (by rfl) ?_; dsimp only)); refine box_event ?hg (N := 6) ?hd (cs := #[.int .i64 0, .int .i64 0, .int .i64 0, .slice none 0 0]) (t := 27) ?hr ?_; (case hd => rfl); (case hg => rfl); (case hr => first | (go_simp; done) | (go_simp; rfl)); intro gb111 hg w21 hbox hb; have n0_ := Z3.k (Kd.R_below Z3.z12 hb); have n1_ := Z3.k (below_step Z3.z17 hb); have n2_ := Z3.k (hbox); have n3_ := Z3.k (show w.heap.size ≤ gb111 from (by rw [hg]; exact (below_size Z3.z17))); have n4_ := Z3.k (show w.heap.size ≤ gb111 from (by rw [hg]; exact (below_size Z3.z17))); clear HO110 HB; have HO110 := n0_; have HB := n1_; have BK111 := n2_; have GW111 := n3_; have GE111 := n4_; clear n0_ n1_ n2_ n3_ n4_; clear hb hbox hg; have hcz22_0 : w21.cell? ⟨gb111, 0, none⟩ = some (.int .i64 0) := (blk_cell BK111.out 0).trans rfl; have hcz22_1 : w21.cell? ⟨gb111, 1, none⟩ = some (.int .i64 0) := (blk_cell BK111.out 1).trans rfl; have hcz22_2 : w21.cell? ⟨gb111, 2, none⟩ = some (.int .i64 0) := (blk_cell BK111.out 2).trans rfl; have hcz22_3 : w21.cell? ⟨gb111, 3, none⟩ = some (.slice none 0 0) := (blk_cell BK111.out 3).trans rfl; have hfz22_0 := blk_frozen BK111.out 0; have hfz22_1 := blk_frozen BK111.out 1; have hfz22_2 := blk_frozen BK111.out 2; have hfz22_3 := blk_frozen BK111.out 3; obtain ⟨Ao23, co23, eo23⟩ := Kd.R_slice HO110.out; subst eo23) | (go_at_call 14; (with_reducible refine (impl_ReducedForm.calls k t105 t106 t107 _ _ t108 t112 t113 t114 t115 t118 t121 _ ?side1 ?side2 A9.out).mono ?_); (case side1 => exact Z3.z104); (case side2 => exact (Kd.R_reads' HO110.out).2.1); rintro e w24 ⟨v116, v119, rfl, ho0, ho1, hb⟩; have n0_ := Z3.k (Kd.R_mono (Kd.R_told (Kd.R_told (Kd.R_old Z3.z4 hb) (Kd.R_base ho0)) (Kd.R_base ho1)) (fun _ h_ => h_.1)); have n1_ := Z3.k (Kd.R_lower (Kd.R_new' ho0 (Kd.R_lt Z3.z4)) (below_size Z3.z20)); have n2_ := Z3.k (Kd.R_lower (Kd.R_new' ho1 (Kd.R_lt Z3.z4)) (below_size Z3.z20)); have n3_ := Z3.k (blk_below (g := gb111) (o := .cells #[.int .i64 t105, .int .i64 t106, .int .i64 t107, .slice Ao23 t108.length co23] 27 (0, 0)) Z3.z35 hb); have n4_ := Z3.k (below_step Z3.z20 hb); clear HO110 BK111 HB; have HO110 := n0_; have HO117 := n1_; have HO120 := n2_; have BK111 := n3_; have HB := n4_; clear n0_ n1_ n2_ n3_ n4_; (try clear hb); (try clear hb2); (try clear hk); (try clear hi); (try clear ho0); (try clear ho1)) | ((with_reducible refine gate_dst (N := 7) rfl ?_); (try (refine gate_guard (by rfl) ?_; dsimp only)); refine box_event ?hg (N := 7) ?hd (cs := #[.int .i64 0, .int .i64 0, .int .i64 0, .slice none 0 0]) (t := 27) ?hr ?_; (case hd => rfl); (case hg => rfl); (case hr => first | (go_simp; done) | (go_simp; rfl)); intro gb122 hg w25 hbox hb; have n0_ := Z3.k (Kd.R_below Z3.z12 hb); have n1_ := Z3.k (Kd.R_below Z3.z16 hb); have n2_ := Z3.k (Kd.R_below Z3.z15 hb); have n3_ := Z3.k (Z3.bb BK111 Z3.z0 hb); have n4_ := Z3.k (below_step Z3.z20 hb); have n5_ := Z3.k (hbox); have n6_ := Z3.k (show w.heap.size ≤ gb122 from (by rw [hg]; exact (below_size Z3.z20))); have n7_ := Z3.k (show w.heap.size ≤ gb122 from (by rw [hg]; exact (below_size Z3.z20))); have n8_ := Z3.k (show gb111 ≠ gb122 from Z3.z72); have n9_ := Z3.k (show gb122 ≠ gb111 from Z3.z73); clear HO110 HO117 HO120 BK111 HB; have HO110 := n0_; have HO117 := n1_; have HO120 := n2_; have BK111 := n3_; have HB := n4_; have BK122 := n5_; have GW122 := n6_; have GE122 := n7_; have NB111_122 := n8_; have NB122_111 := n9_; clear n0_ n1_ n2_ n3_ n4_ n5_ n6_ n7_ n8_ n9_; clear hb hbox hg; have hnb26 := NB122_111.out; have hnc26 := NB111_122.out; have hcz27_0 : w25.cell? ⟨gb122, 0, none⟩ = some (.int .i64 0) := (blk_cell BK122.out 0).trans rfl; have hcz27_1 : w25.cell? ⟨gb122, 1, none⟩ = some (.int .i64 0) := (blk_cell BK122.out 1).trans rfl; have hcz27_2 : w25.cell? ⟨gb122, 2, none⟩ = some (.int .i64 0) := (blk_cell BK122.out 2).trans rfl; have hcz27_3 : w25.cell? ⟨gb122, 3, none⟩ = some (.slice none 0 0) := (blk_cell BK122.out 3).trans rfl; have hfz27_0 := blk_frozen BK122.out 0; have hfz27_1 := blk_frozen BK122.out 1; have hfz27_2 := blk_frozen BK122.out 2; have hfz27_3 := blk_frozen BK122.out 3; obtain ⟨Ao28, co28, eo28⟩ := Kd.R_slice HO117.out; subst eo28) | (go_at_call 14; (with_reducible refine (impl_ReducedForm.calls k t112 t113 t114 _ _ t115 t123 t124 t125 t126 t129 t132 _ ?side1 ?side2 A10.out).mono ?_); (case side1 => exact Z3.z75); (case side2 => exact (Kd.R_reads' HO117.out).2.1); rintro e w29 ⟨v127, v130, rfl, ho0, ho1, hb⟩; have n0_ := Z3.k (Kd.R_mono (Kd.R_told (Kd.R_told (Kd.R_old Z3.z11 hb) (Kd.R_base ho0)) (Kd.R_base ho1)) (fun _ h_ => h_.1)); have n1_ := Z3.k (Kd.R_mono (Kd.R_told (Kd.R_told (Kd.R_old Z3.z3 hb) (Kd.R_base ho0)) (Kd.R_base ho1)) (fun _ h_ => h_.1)); have n2_ := Z3.k (Kd.R_mono (Kd.R_told (Kd.R_told (Kd.R_old Z3.z10 hb) (Kd.R_base ho0)) (Kd.R_base ho1)) (fun _ h_ => h_.1)); have n3_ := Z3.k (Kd.R_lower (Kd.R_new' (Kd.R_new' (Kd.R_new' ho0 (Kd.R_lt Z3.z11)) (Kd.R_lt Z3.z3)) (Kd.R_lt Z3.z10)) (below_size Z3.z13)); have n4_ := Z3.k (Kd.R_lower (Kd.R_new' (Kd.R_new' (Kd.R_new' ho1 (Kd.R_lt Z3.z11)) (Kd.R_lt Z3.z3)) (Kd.R_lt Z3.z10)) (below_size Z3.z13)); have n5_ := Z3.k (Z3.bb BK111 Z3.z101 hb); have n6_ := Z3.k (blk_below (g := gb122) (o := .cells #[.int .i64 t112, .int .i64 t113, .int .i64 t114, .slice Ao28 t115.length co28] 27 (0, 0)) Z3.z34 hb); have n7_ := Z3.k (below_step Z3.z13 hb); clear HO110 HO117 HO120 BK111 BK122 HB; have HO110 := n0_; have HO117 := n1_; have HO120 := n2_; have HO128 := n3_; have HO131 := n4_; have BK111 := n5_; have BK122 := n6_; have HB := n7_; clear n0_ n1_ n2_ n3_ n4_ n5_ n6_ n7_; (try clear hb); (try clear hb2); (try clear hk); (try clear hi); (try clear ho0); (try clear ho1)) | ((with_reducible refine gate_dst (N := 10) rfl ?_); (try (refine gate_guard (by rfl) ?_; dsimp only)); refine box_event ?hg (N := 10) ?hd (cs := #[.int .i64 0, .int .i64 0, .int .i64 0, .slice none 0 0]) (t := 27) ?hr ?_; (case hd => rfl); (case hg => rfl); (case hr => first | (go_simp; done) | (go_simp; rfl)); intro gb133 hg w30 hbox hb; have n0_ := Z3.k (Kd.R_below Z3.z12 hb); have n1_ := Z3.k (Kd.R_below Z3.z16 hb); have n2_ := Z3.k (Kd.R_below Z3.z15 hb); have n3_ := Z3.k (Kd.R_below Z3.z19 hb); have n4_ := Z3.k (Kd.R_below Z3.z18 hb); have n5_ := Z3.k (Z3.bb BK111 Z3.z0 hb); have n6_ := Z3.k (Z3.bb BK122 Z3.z1 hb); have n7_ := Z3.k (below_step Z3.z13 hb); have n8_ := Z3.k (hbox); have n9_ := Z3.k (show w.heap.size ≤ gb133 from (by rw [hg]; exact (below_size Z3.z13))); have n10_ := Z3.k (show w.heap.size ≤ gb133 from (by rw [hg]; exact (below_size Z3.z13))); have n11_ := Z3.k (show gb111 ≠ gb133 from Z3.z72); have n12_ := Z3.k (show gb133 ≠ gb111 from Z3.z73); have n13_ := Z3.k (show gb122 ≠ gb133 from Z3.z77); have n14_ := Z3.k (show gb133 ≠ gb122 from Z3.z78); clear HO110 HO117 HO120 HO128 HO131 BK111 BK122 HB; have HO110 := n0_; have HO117 := n1_; have HO120 := n2_; have HO128 := n3_; have HO131 := n4_; have BK111 := n5_; have BK122 := n6_; have HB := n7_; have BK133 := n8_; have GW133 := n9_; have GE133 := n10_; have NB111_133 := n11_; have NB133_111 := n12_; have NB122_133 := n13_; have NB133_122 := n14_; clear n0_ n1_ n2_ n3_ n4_ n5_ n6_ n7_ n8_ n9_ n10_ n11_ n12_ n13_ n14_; clear hb hbox hg; have hnb31 := NB133_111.out; have hnc31 := NB111_133.out; have hnb32 := NB133_122.out; have hnc32 := NB122_133.out; have hcz33_0 : w30.cell? ⟨gb133, 0, none⟩ = some (.int .i64 0) := (blk_cell BK133.out 0).trans rfl; have hcz33_1 : w30.cell? ⟨gb133, 1, none⟩ = some (.int .i64 0) := (blk_cell BK133.out 1).trans rfl; have hcz33_2 : w30.cell? ⟨gb133, 2, none⟩ = some (.int .i64 0) := (blk_cell BK133.out 2).trans rfl; have hcz33_3 : w30.cell? ⟨gb133, 3, none⟩ = some (.slice none 0 0) := (blk_cell BK133.out 3).trans rfl; have hfz33_0 := blk_frozen BK133.out 0; have hfz33_1 := blk_frozen BK133.out 1; have hfz33_2 := blk_frozen BK133.out 2; have hfz33_3 := blk_frozen BK133.out 3; obtain ⟨Ao34, co34, eo34⟩ := Kd.R_slice HO128.out; subst eo34; have hcz35_0 : w30.cell? ⟨gb111, 0, none⟩ = some (.int .i64 t105) := (blk_cell BK111.out 0).trans rfl; have hcz35_1 : w30.cell? ⟨gb111, 1, none⟩ = some (.int .i64 t106) := (blk_cell BK111.out 1).trans rfl; have hcz35_2 : w30.cell? ⟨gb111, 2, none⟩ = some (.int .i64 t107) := (blk_cell BK111.out 2).trans rfl; have hcz35_3 : w30.cell? ⟨gb111, 3, none⟩ = some (.slice Ao23 t108.length co23) := (blk_cell BK111.out 3).trans rfl; have hfz35_0 := blk_frozen BK111.out 0; have hfz35_1 := blk_frozen BK111.out 1; have hfz35_2 := blk_frozen BK111.out 2; have hfz35_3 := blk_frozen BK111.out 3) | (go_at_call 15; (with_reducible refine (impl_Transpose.calls k t105 t106 t107 _ _ t108 t134 t135 t136 t137 t140 _ ?side1 ?side2 A11.out).mono ?_); (case side1 => exact Z3.z64); (case side2 => exact (Kd.R_reads' HO110.out).2.1); rintro e w36 ⟨v138, rfl, ho0, hb⟩; have n0_ := Z3.k (Kd.R_elder' Z3.z9 (Kd.R_base ho0) hb); have n1_ := Z3.k (Kd.R_elder' Z3.z28 (Kd.R_base ho0) hb); have n2_ := Z3.k (Kd.R_elder' Z3.z27 (Kd.R_base ho0) hb); have n3_ := Z3.k (Kd.R_elder' Z3.z26 (Kd.R_base ho0) hb); have n4_ := Z3.k (Kd.R_elder' Z3.z25 (Kd.R_base ho0) hb); have n5_ := Z3.k (Kd.R_lower (Kd.R_new' (Kd.R_new' (Kd.R_new' (Kd.R_new' (Kd.R_new' ho0 (Kd.R_lt Z3.z9)) (Kd.R_lt Z3.z28)) (Kd.R_lt Z3.z27)) (Kd.R_lt Z3.z26)) (Kd.R_lt Z3.z25)) (below_size Z3.z14)); have n6_ := Z3.k (Z3.bb BK111 Z3.z100 hb); have n7_ := Z3.k (Z3.bb BK122 Z3.z96 hb); have n8_ := Z3.k (blk_below (g := gb133) (o := .cells #[.int .i64 t123, .int .i64 t124, .int .i64 t125, .slice Ao34 t126.length co34] 27 (0, 0)) Z3.z33 hb); have n9_ := Z3.k (below_step Z3.z14 hb); clear HO110 HO117 HO120 HO128 HO131 BK111 BK122 BK133 HB; have HO110 := n0_; have HO117 := n1_; have HO120 := n2_; have HO128 := n3_; have HO131 := n4_; have HO139 := n5_; have BK111 := n6_; have BK122 := n7_; have BK133 := n8_; have HB := n9_; clear n0_ n1_ n2_ n3_ n4_ n5_ n6_ n7_ n8_ n9_; (try clear hb); (try clear hb2); (try clear hk); (try clear hi); (try clear ho0)) | ((with_reducible refine gate_dst (N := 13) rfl ?_); (try (refine gate_guard (by rfl) ?_; dsimp only)); refine box_event ?hg (N := 13) ?hd (cs := #[.int .i64 0, .int .i64 0, .int .i64 0, .slice none 0 0]) (t := 27) ?hr ?_; (case hd => rfl); (case hg => rfl); (case hr => first | (go_simp; done) | (go_simp; rfl)); intro gb141 hg w37 hbox hb; have n0_ := Z3.k (Kd.R_below Z3.z12 hb); have n1_ := Z3.k (Kd.R_below Z3.z16 hb); have n2_ := Z3.k (Kd.R_below Z3.z15 hb); have n3_ := Z3.k (Kd.R_below Z3.z19 hb); have n4_ := Z3.k (Kd.R_below Z3.z18 hb); have n5_ := Z3.k (Kd.R_below Z3.z21 hb); have n6_ := Z3.k (Z3.bb BK111 Z3.z0 hb); have n7_ := Z3.k (Z3.bb BK122 Z3.z1 hb); have n8_ := Z3.k (Z3.bb BK133 Z3.z7 hb); have n9_ := Z3.k (below_step Z3.z14 hb); have n10_ := Z3.k (hbox); have n11_ := Z3.k (show w.heap.size ≤ gb141 from (by rw [hg]; exact (below_size Z3.z14))); have n12_ := Z3.k (show w.heap.size ≤ gb141 from (by rw [hg]; exact (below_size Z3.z14))); have n13_ := Z3.k (show gb111 ≠ gb141 from Z3.z72); have n14_ := Z3.k (show gb141 ≠ gb111 from Z3.z73); have n15_ := Z3.k (show gb122 ≠ gb141 from Z3.z77); have n16_ := Z3.k (show gb141 ≠ gb122 from Z3.z78); have n17_ := Z3.k (show gb133 ≠ gb141 from Z3.z102); have n18_ := Z3.k (show gb141 ≠ gb133 from Z3.z103); clear HO110 HO117 HO120 HO128 HO131 HO139 BK111 BK122 BK133 HB; have HO110 := n0_; have HO117 := n1_; have HO120 := n2_; have HO128 := n3_; have HO131 := n4_; have HO139 := n5_; have BK111 := n6_; have BK122 := n7_; have BK133 := n8_; have HB := n9_; have BK141 := n10_; have GW141 := n11_; have GE141 := n12_; have NB111_141 := n13_; have NB141_111 := n14_; have NB122_141 := n15_; have NB141_122 := n16_; have NB133_141 := n17_; have NB141_133 := n18_; clear n0_ n1_ n2_ n3_ n4_ n5_ n6_ n7_ n8_ n9_ n10_ n11_ n12_ n13_ n14_ n15_ n16_ n17_ n18_; clear hb hbox hg; have hnb38 := NB141_111.out; have hnc38 := NB111_141.out; have hnb39 := NB141_122.out; have hnc39 := NB122_141.out; have hnb40 := NB141_133.out; have hnc40 := NB133_141.out; have hcz41_0 : w37.cell? ⟨gb141, 0, none⟩ = some (.int .i64 0) := (blk_cell BK141.out 0).trans rfl; have hcz41_1 : w37.cell? ⟨gb141, 1, none⟩ = some (.int .i64 0) := (blk_cell BK141.out 1).trans rfl; have hcz41_2 : w37.cell? ⟨gb141, 2, none⟩ = some (.int .i64 0) := (blk_cell BK141.out 2).trans rfl; have hcz41_3 : w37.cell? ⟨gb141, 3, none⟩ = some (.slice none 0 0) := (blk_cell BK141.out 3).trans rfl; have hfz41_0 := blk_frozen BK141.out 0; have hfz41_1 := blk_frozen BK141.out 1; have hfz41_2 := blk_frozen BK141.out 2; have hfz41_3 := blk_frozen BK141.out 3; obtain ⟨Ao42, co42, eo42⟩ := Kd.R_slice HO139.out; subst eo42; have hcz43_0 : w37.cell? ⟨gb111, 0, none⟩ = some (.int .i64 t105) := (blk_cell BK111.out 0).trans rfl; have hcz43_1 : w37.cell? ⟨gb111, 1, none⟩ = some (.int .i64 t106) := (blk_cell BK111.out 1).trans rfl; have hcz43_2 : w37.cell? ⟨gb111, 2, none⟩ = some (.int .i64 t107) := (blk_cell BK111.out 2).trans rfl; have hcz43_3 : w37.cell? ⟨gb111, 3, none⟩ = some (.slice Ao23 t108.length co23) := (blk_cell BK111.out 3).trans rfl; have hfz43_0 := blk_frozen BK111.out 0; have hfz43_1 := blk_frozen BK111.out 1; have hfz43_2 := blk_frozen BK111.out 2; have hfz43_3 := blk_frozen BK111.out 3) | (go_at_call 16; (with_reducible refine (impl_RankOf.calls k t105 t106 t107 _ _ t108 t142 t143 _ ?side1 ?side2 A12.out).mono ?_); (case side1 => exact Z3.z62); (case side2 => exact (Kd.R_reads' HO110.out).2.1); rintro e w44 ⟨rfl, hb⟩; have n0_ := Z3.k (Kd.R_below Z3.z24 hb); have n1_ := Z3.k (Kd.R_below Z3.z57 hb); have n2_ := Z3.k (Kd.R_below Z3.z56 hb); have n3_ := Z3.k (Kd.R_below Z3.z55 hb); have n4_ := Z3.k (Kd.R_below Z3.z54 hb); have n5_ := Z3.k (Kd.R_below Z3.z53 hb); have n6_ := Z3.k (Z3.bb BK111 Z3.z99 hb); have n7_ := Z3.k (Z3.bb BK122 Z3.z95 hb); have n8_ := Z3.k (Z3.bb BK133 Z3.z92 hb); have n9_ := Z3.k (blk_below (g := gb141) (o := .cells #[.int .i64 t134, .int .i64 t135, .int .i64 t136, .slice Ao42 t137.length co42] 27 (0, 0)) Z3.z32 hb); have n10_ := Z3.k (below_step Z3.z5 hb); clear HO110 HO117 HO120 HO128 HO131 HO139 BK111 BK122 BK133 BK141 HB; have HO110 := n0_; have HO117 := n1_; have HO120 := n2_; have HO128 := n3_; have HO131 := n4_; have HO139 := n5_; have BK111 := n6_; have BK122 := n7_; have BK133 := n8_; have BK141 := n9_; have HB := n10_; clear n0_ n1_ n2_ n3_ n4_ n5_ n6_ n7_ n8_ n9_ n10_; (try clear hb); (try clear hb2); (try clear hk); (try clear hi); have hcz45_0 : w44.cell? ⟨gb141, 0, none⟩ = some (.int .i64 t134) := (blk_cell BK141.out 0).trans rfl; have hcz45_1 : w44.cell? ⟨gb141, 1, none⟩ = some (.int .i64 t135) := (blk_cell BK141.out 1).trans rfl; have hcz45_2 : w44.cell? ⟨gb141, 2, none⟩ = some (.int .i64 t136) := (blk_cell BK141.out 2).trans rfl; have hcz45_3 : w44.cell? ⟨gb141, 3, none⟩ = some (.slice Ao42 t137.length co42) := (blk_cell BK141.out 3).trans rfl; have hfz45_0 := blk_frozen BK141.out 0; have hfz45_1 := blk_frozen BK141.out 1; have hfz45_2 := blk_frozen BK141.out 2; have hfz45_3 := blk_frozen BK141.out 3) | (go_at_call 16; (with_reducible refine (impl_RankOf.calls k t134 t135 t136 _ _ t137 t144 t145 _ ?side1 ?side2 A13.out).mono ?_); (case side1 => exact Z3.z81); (case side2 => exact (Kd.R_reads' HO139.out).2.1); rintro e w46 ⟨rfl, hb⟩; have n0_ := Z3.k (Kd.R_below Z3.z12 hb); have n1_ := Z3.k (Kd.R_below Z3.z16 hb); have n2_ := Z3.k (Kd.R_below Z3.z15 hb); have n3_ := Z3.k (Kd.R_below Z3.z19 hb); have n4_ := Z3.k (Kd.R_below Z3.z18 hb); have n5_ := Z3.k (Kd.R_below Z3.z21 hb); have n6_ := Z3.k (Z3.bb BK111 Z3.z0 hb); have n7_ := Z3.k (Z3.bb BK122 Z3.z1 hb); have n8_ := Z3.k (Z3.bb BK133 Z3.z7 hb); have n9_ := Z3.k (Z3.bb BK141 Z3.z8 hb); have n10_ := Z3.k (below_step Z3.z5 hb); clear HO110 HO117 HO120 HO128 HO131 HO139 BK111 BK122 BK133 BK141 HB; have HO110 := n0_; have HO117 := n1_; have HO120 := n2_; have HO128 := n3_; have HO131 := n4_; have HO139 := n5_; have BK111 := n6_; have BK122 := n7_; have BK133 := n8_; have BK141 := n9_; have HB := n10_; clear n0_ n1_ n2_ n3_ n4_ n5_ n6_ n7_ n8_ n9_ n10_; (try clear hb); (try clear hb2); (try clear hk); (try clear hi); have hcz47_0 : w46.cell? ⟨gb111, 0, none⟩ = some (.int .i64 t105) := (blk_cell BK111.out 0).trans rfl; have hcz47_1 : w46.cell? ⟨gb111, 1, none⟩ = some (.int .i64 t106) := (blk_cell BK111.out 1).trans rfl; have hcz47_2 : w46.cell? ⟨gb111, 2, none⟩ = some (.int .i64 t107) := (blk_cell BK111.out 2).trans rfl; have hcz47_3 : w46.cell? ⟨gb111, 3, none⟩ = some (.slice Ao23 t108.length co23) := (blk_cell BK111.out 3).trans rfl; have hfz47_0 := blk_frozen BK111.out 0; have hfz47_1 := blk_frozen BK111.out 1; have hfz47_2 := blk_frozen BK111.out 2; have hfz47_3 := blk_frozen BK111.out 3) | (go_at_call 17; (with_reducible refine (impl_StackRows.calls k t105 t106 t107 (fun k_ => some k_ = (.slice Ao23 t108.length co23 : Value).ownBlock) _ _ t108 t105 t106 t107 (fun k_ => some k_ = (.slice Ao23 t108.length co23 : Value).ownBlock) _ _ t108 t146 t147 t148 t149 t152 _ ?side1 ?side2 A14.out).mono ?_); (case side1 => exact Z3.z60); (case side2 => exact Z3.z60); rintro e w48 ⟨v150, rfl, ho0, hb⟩; have n0_ := Z3.k (Kd.R_elder' Z3.z12 (Kd.R_base ho0) hb); have n1_ := Z3.k (Kd.R_elder' Z3.z16 (Kd.R_base ho0) hb); have n2_ := Z3.k (Kd.R_elder' Z3.z15 (Kd.R_base ho0) hb); have n3_ := Z3.k (Kd.R_elder' Z3.z19 (Kd.R_base ho0) hb); have n4_ := Z3.k (Kd.R_elder' Z3.z18 (Kd.R_base ho0) hb); have n5_ := Z3.k (Kd.R_elder' Z3.z21 (Kd.R_base ho0) hb); have n6_ := Z3.k (Kd.R_lower (Kd.R_new' (Kd.R_new' (Kd.R_new' (Kd.R_new' (Kd.R_new' (Kd.R_new' (Kd.R_mono (ok' := fun k_ => True) ho0 (fun _ hk_ => trivial)) (Kd.R_lt Z3.z12)) (Kd.R_lt Z3.z16)) (Kd.R_lt Z3.z15)) (Kd.R_lt Z3.z19)) (Kd.R_lt Z3.z18)) (Kd.R_lt Z3.z21)) (below_size Z3.z5)); have n7_ := Z3.k (Z3.bb BK111 Z3.z0 hb); have n8_ := Z3.k (Z3.bb BK122 Z3.z1 hb); have n9_ := Z3.k (Z3.bb BK133 Z3.z7 hb); have n10_ := Z3.k (Z3.bb BK141 Z3.z8 hb); have n11_ := Z3.k (below_step Z3.z5 hb); clear HO110 HO117 HO120 HO128 HO131 HO139 BK111 BK122 BK133 BK141 HB; have HO110 := n0_; have HO117 := n1_; have HO120 := n2_; have HO128 := n3_; have HO131 := n4_; have HO139 := n5_; have HO151 := n6_; have BK111 := n7_; have BK122 := n8_; have BK133 := n9_; have BK141 := n10_; have HB := n11_; clear n0_ n1_ n2_ n3_ n4_ n5_ n6_ n7_ n8_ n9_ n10_ n11_; (try clear hb); (try clear hb2); (try clear hk); (try clear hi); (try clear ho0)) | ((with_reducible refine gate_dst (N := 19) rfl ?_); (try (refine gate_guard (by rfl) ?_; dsimp only)); refine box_event ?hg (N := 19) ?hd (cs := #[.int .i64 0, .int .i64 0, .int .i64 0, .slice none 0 0]) (t := 27) ?hr ?_; (case hd => rfl); (case hg => rfl); (case hr => first | (go_simp; done) | (go_simp; rfl)); intro gb153 hg w49 hbox hb; have n0_ := Z3.k (Kd.R_below Z3.z12 hb); have n1_ := Z3.k (Kd.R_below Z3.z16 hb); have n2_ := Z3.k (Kd.R_below Z3.z15 hb); have n3_ := Z3.k (Kd.R_below Z3.z19 hb); have n4_ := Z3.k (Kd.R_below Z3.z18 hb); have n5_ := Z3.k (Kd.R_below Z3.z21 hb); have n6_ := Z3.k (Kd.R_below Z3.z36 hb); have n7_ := Z3.k (Z3.bb BK111 Z3.z0 hb); have n8_ := Z3.k (Z3.bb BK122 Z3.z1 hb); have n9_ := Z3.k (Z3.bb BK133 Z3.z7 hb); have n10_ := Z3.k (Z3.bb BK141 Z3.z8 hb); have n11_ := Z3.k (below_step Z3.z5 hb); have n12_ := Z3.k (hbox); have n13_ := Z3.k (show w.heap.size ≤ gb153 from (by rw [hg]; exact (below_size Z3.z5))); have n14_ := Z3.k (show w.heap.size ≤ gb153 from (by rw [hg]; exact (below_size Z3.z5))); have n15_ := Z3.k (show gb111 ≠ gb153 from Z3.z72); have n16_ := Z3.k (show gb153 ≠ gb111 from Z3.z73); have n17_ := Z3.k (show gb122 ≠ gb153 from Z3.z77); have n18_ := Z3.k (show gb153 ≠ gb122 from Z3.z78); have n19_ := Z3.k (show gb133 ≠ gb153 from Z3.z102); have n20_ := Z3.k (show gb153 ≠ gb133 from Z3.z103); have n21_ := Z3.k (show gb141 ≠ gb153 from Z3.z106); have n22_ := Z3.k (show gb153 ≠ gb141 from Z3.z107); clear HO110 HO117 HO120 HO128 HO131 HO139 HO151 BK111 BK122 BK133 BK141 HB; have HO110 := n0_; have HO117 := n1_; have HO120 := n2_; have HO128 := n3_; have HO131 := n4_; have HO139 := n5_; have HO151 := n6_; have BK111 := n7_; have BK122 := n8_; have BK133 := n9_; have BK141 := n10_; have HB := n11_; have BK153 := n12_; have GW153 := n13_; have GE153 := n14_; have NB111_153 := n15_; have NB153_111 := n16_; have NB122_153 := n17_; have NB153_122 := n18_; have NB133_153 := n19_; have NB153_133 := n20_; have NB141_153 := n21_; have NB153_141 := n22_; clear n0_ n1_ n2_ n3_ n4_ n5_ n6_ n7_ n8_ n9_ n10_ n11_ n12_ n13_ n14_ n15_ n16_ n17_ n18_ n19_ n20_ n21_ n22_; clear hb hbox hg; have hnb50 := NB153_111.out; have hnc50 := NB111_153.out; have hnb51 := NB153_122.out; have hnc51 := NB122_153.out; have hnb52 := NB153_133.out; have hnc52 := NB133_153.out; have hnb53 := NB153_141.out; have hnc53 := NB141_153.out; have hcz54_0 : w49.cell? ⟨gb153, 0, none⟩ = some (.int .i64 0) := (blk_cell BK153.out 0).trans rfl; have hcz54_1 : w49.cell? ⟨gb153, 1, none⟩ = some (.int .i64 0) := (blk_cell BK153.out 1).trans rfl; have hcz54_2 : w49.cell? ⟨gb153, 2, none⟩ = some (.int .i64 0) := (blk_cell BK153.out 2).trans rfl; have hcz54_3 : w49.cell? ⟨gb153, 3, none⟩ = some (.slice none 0 0) := (blk_cell BK153.out 3).trans rfl; have hfz54_0 := blk_frozen BK153.out 0; have hfz54_1 := blk_frozen BK153.out 1; have hfz54_2 := blk_frozen BK153.out 2; have hfz54_3 := blk_frozen BK153.out 3; obtain ⟨Ao55, co55, eo55⟩ := Kd.R_slice HO151.out; subst eo55) | (go_at_call 16; (with_reducible refine (impl_RankOf.calls k t146 t147 t148 _ _ t149 t154 t155 _ ?side1 ?side2 A15.out).mono ?_); (case side1 => exact Z3.z59); (case side2 => exact (Kd.R_reads' HO151.out).2.1); rintro e w56 ⟨rfl, hb⟩; have n0_ := Z3.k (Kd.R_below Z3.z52 hb); have n1_ := Z3.k (Kd.R_below Z3.z51 hb); have n2_ := Z3.k (Kd.R_below Z3.z50 hb); have n3_ := Z3.k (Kd.R_below Z3.z49 hb); have n4_ := Z3.k (Kd.R_below Z3.z48 hb); have n5_ := Z3.k (Kd.R_below Z3.z47 hb); have n6_ := Z3.k (Kd.R_below Z3.z23 hb); have n7_ := Z3.k (Z3.bb BK111 Z3.z98 hb); have n8_ := Z3.k (Z3.bb BK122 Z3.z94 hb); have n9_ := Z3.k (Z3.bb BK133 Z3.z91 hb); have n10_ := Z3.k (Z3.bb BK141 Z3.z89 hb); have n11_ := Z3.k (blk_below (g := gb153) (o := .cells #[.int .i64 t146, .int .i64 t147, .int .i64 t148, .slice Ao55 t149.length co55] 27 (0, 0)) Z3.z31 hb); have n12_ := Z3.k (below_step Z3.z6 hb); clear HO110 HO117 HO120 HO128 HO131 HO139 HO151 BK111 BK122 BK133 BK141 BK153 HB; have HO110 := n0_; have HO117 := n1_; have HO120 := n2_; have HO128 := n3_; have HO131 := n4_; have HO139 := n5_; have HO151 := n6_; have BK111 := n7_; have BK122 := n8_; have BK133 := n9_; have BK141 := n10_; have BK153 := n11_; have HB := n12_; clear n0_ n1_ n2_ n3_ n4_ n5_ n6_ n7_ n8_ n9_ n10_ n11_ n12_; (try clear hb); (try clear hb2); (try clear hk); (try clear hi); have hcz57_0 : w56.cell? ⟨gb111, 0, none⟩ = some (.int .i64 t105) := (blk_cell BK111.out 0).trans rfl; have hcz57_1 : w56.cell? ⟨gb111, 1, none⟩ = some (.int .i64 t106) := (blk_cell BK111.out 1).trans rfl; have hcz57_2 : w56.cell? ⟨gb111, 2, none⟩ = some (.int .i64 t107) := (blk_cell BK111.out 2).trans rfl; have hcz57_3 : w56.cell? ⟨gb111, 3, none⟩ = some (.slice Ao23 t108.length co23) := (blk_cell BK111.out 3).trans rfl; have hfz57_0 := blk_frozen BK111.out 0; have hfz57_1 := blk_frozen BK111.out 1; have hfz57_2 := blk_frozen BK111.out 2; have hfz57_3 := blk_frozen BK111.out 3) | (go_at_call 18; (with_reducible refine (impl_JoinColumns.calls k t105 t106 t107 _ _ t108 t105 t106 t107 _ _ t108 t156 t157 t158 t159 t162 _ ?side1 ?side2 ?side3 ?side4 A16.out).mono ?_); (case side1 => exact Z3.z61); (case side2 => exact (Kd.R_reads' HO110.out).2.1); (case side3 => exact Z3.z61); (case side4 => exact (Kd.R_reads' HO110.out).2.1); rintro e w58 ⟨v160, rfl, ho0, hb⟩; have n0_ := Z3.k (Kd.R_elder' Z3.z12 (Kd.R_base ho0) hb); have n1_ := Z3.k (Kd.R_elder' Z3.z16 (Kd.R_base ho0) hb); have n2_ := Z3.k (Kd.R_elder' Z3.z15 (Kd.R_base ho0) hb); have n3_ := Z3.k (Kd.R_elder' Z3.z19 (Kd.R_base ho0) hb); have n4_ := Z3.k (Kd.R_elder' Z3.z18 (Kd.R_base ho0) hb); have n5_ := Z3.k (Kd.R_elder' Z3.z21 (Kd.R_base ho0) hb); have n6_ := Z3.k (Kd.R_elder' Z3.z36 (Kd.R_base ho0) hb); have n7_ := Z3.k (Kd.R_lower (Kd.R_new' (Kd.R_new' (Kd.R_new' (Kd.R_new' (Kd.R_new' (Kd.R_new' (Kd.R_new' ho0 (Kd.R_lt Z3.z12)) (Kd.R_lt Z3.z16)) (Kd.R_lt Z3.z15)) (Kd.R_lt Z3.z19)) (Kd.R_lt Z3.z18)) (Kd.R_lt Z3.z21)) (Kd.R_lt Z3.z36)) (below_size Z3.z6)); have n8_ := Z3.k (Z3.bb BK111 Z3.z0 hb); have n9_ := Z3.k (Z3.bb BK122 Z3.z1 hb); have n10_ := Z3.k (Z3.bb BK133 Z3.z7 hb); have n11_ := Z3.k (Z3.bb BK141 Z3.z8 hb); have n12_ := Z3.k (Z3.bb BK153 Z3.z29 hb); have n13_ := Z3.k (below_step Z3.z6 hb); clear HO110 HO117 HO120 HO128 HO131 HO139 HO151 BK111 BK122 BK133 BK141 BK153 HB; have HO110 := n0_; have HO117 := n1_; have HO120 := n2_; have HO128 := n3_; have HO131 := n4_; have HO139 := n5_; have HO151 := n6_; have HO161 := n7_; have BK111 := n8_; have BK122 := n9_; have BK133 := n10_; have BK141 := n11_; have BK153 := n12_; have HB := n13_; clear n0_ n1_ n2_ n3_ n4_ n5_ n6_ n7_ n8_ n9_ n10_ n11_ n12_ n13_; (try clear hb); (try clear hb2); (try clear hk); (try clear hi); (try clear ho0)) | ((with_reducible refine gate_dst (N := 23) rfl ?_); (try (refine gate_guard (by rfl) ?_; dsimp only)); refine box_event ?hg (N := 23) ?hd (cs := #[.int .i64 0, .int .i64 0, .int .i64 0, .slice none 0 0]) (t := 27) ?hr ?_; (case hd => rfl); (case hg => rfl); (case hr => first | (go_simp; done) | (go_simp; rfl)); intro gb163 hg w59 hbox hb; have n0_ := Z3.k (Kd.R_below Z3.z12 hb); have n1_ := Z3.k (Kd.R_below Z3.z16 hb); have n2_ := Z3.k (Kd.R_below Z3.z15 hb); have n3_ := Z3.k (Kd.R_below Z3.z19 hb); have n4_ := Z3.k (Kd.R_below Z3.z18 hb); have n5_ := Z3.k (Kd.R_below Z3.z21 hb); have n6_ := Z3.k (Kd.R_below Z3.z36 hb); have n7_ := Z3.k (Kd.R_below Z3.z74 hb); have n8_ := Z3.k (Z3.bb BK111 Z3.z0 hb); have n9_ := Z3.k (Z3.bb BK122 Z3.z1 hb); have n10_ := Z3.k (Z3.bb BK133 Z3.z7 hb); have n11_ := Z3.k (Z3.bb BK141 Z3.z8 hb); have n12_ := Z3.k (Z3.bb BK153 Z3.z29 hb); have n13_ := Z3.k (below_step Z3.z6 hb); have n14_ := Z3.k (hbox); have n15_ := Z3.k (show w.heap.size ≤ gb163 from (by rw [hg]; exact (below_size Z3.z6))); have n16_ := Z3.k (show w.heap.size ≤ gb163 from (by rw [hg]; exact (below_size Z3.z6))); have n17_ := Z3.k (show gb111 ≠ gb163 from Z3.z72); have n18_ := Z3.k (show gb163 ≠ gb111 from Z3.z73); have n19_ := Z3.k (show gb122 ≠ gb163 from Z3.z77); have n20_ := Z3.k (show gb163 ≠ gb122 from Z3.z78); have n21_ := Z3.k (show gb133 ≠ gb163 from Z3.z102); have n22_ := Z3.k (show gb163 ≠ gb133 from Z3.z103); have n23_ := Z3.k (show gb141 ≠ gb163 from Z3.z106); have n24_ := Z3.k (show gb163 ≠ gb141 from Z3.z107); have n25_ := Z3.k (show gb153 ≠ gb163 from (by rw [hg]; exact Nat.ne_of_lt (Z3.bl BK153 Z3.z29))); have n26_ := Z3.k (show gb163 ≠ gb153 from (by rw [hg]; exact Nat.ne_of_gt (Z3.bl BK153 Z3.z29))); clear HO110 HO117 HO120 HO128 HO131 HO139 HO151 HO161 BK111 BK122 BK133 BK141 BK153 HB; have HO110 := n0_; have HO117 := n1_; have HO120 := n2_; have HO128 := n3_; have HO131 := n4_; have HO139 := n5_; have HO151 := n6_; have HO161 := n7_; have BK111 := n8_; have BK122 := n9_; have BK133 := n10_; have BK141 := n11_; have BK153 := n12_; have HB := n13_; have BK163 := n14_; have GW163 := n15_; have GE163 := n16_; have NB111_163 := n17_; have NB163_111 := n18_; have NB122_163 := n19_; have NB163_122 := n20_; have NB133_163 := n21_; have NB163_133 := n22_; have NB141_163 := n23_; have NB163_141 := n24_; have NB153_163 := n25_; have NB163_153 := n26_; clear n0_ n1_ n2_ n3_ n4_ n5_ n6_ n7_ n8_ n9_ n10_ n11_ n12_ n13_ n14_ n15_ n16_ n17_ n18_ n19_ n20_ n21_ n22_ n23_ n24_ n25_ n26_; clear hb hbox hg; have hnb60 := NB163_111.out; have hnc60 := NB111_163.out; have hnb61 := NB163_122.out; have hnc61 := NB122_163.out; have hnb62 := NB163_133.out; have hnc62 := NB133_163.out; have hnb63 := NB163_141.out; have hnc63 := NB141_163.out; have hnb64 := NB163_153.out; have hnc64 := NB153_163.out; have hcz65_0 : w59.cell? ⟨gb163, 0, none⟩ = some (.int .i64 0) := (blk_cell BK163.out 0).trans rfl; have hcz65_1 : w59.cell? ⟨gb163, 1, none⟩ = some (.int .i64 0) := (blk_cell BK163.out 1).trans rfl; have hcz65_2 : w59.cell? ⟨gb163, 2, none⟩ = some (.int .i64 0) := (blk_cell BK163.out 2).trans rfl; have hcz65_3 : w59.cell? ⟨gb163, 3, none⟩ = some (.slice none 0 0) := (blk_cell BK163.out 3).trans rfl; have hfz65_0 := blk_frozen BK163.out 0; have hfz65_1 := blk_frozen BK163.out 1; have hfz65_2 := blk_frozen BK163.out 2; have hfz65_3 := blk_frozen BK163.out 3; obtain ⟨Ao66, co66, eo66⟩ := Kd.R_slice HO161.out; subst eo66) | (go_at_call 16; (with_reducible refine (impl_RankOf.calls k t156 t157 t158 _ _ t159 t164 t165 _ ?side1 ?side2 A17.out).mono ?_); (case side1 => exact Z3.z39); (case side2 => exact (Kd.R_reads' HO161.out).2.1); rintro e w67 ⟨rfl, hb⟩; have n0_ := Z3.k (Kd.R_below Z3.z46 hb); have n1_ := Z3.k (Kd.R_below Z3.z45 hb); have n2_ := Z3.k (Kd.R_below Z3.z44 hb); have n3_ := Z3.k (Kd.R_below Z3.z43 hb); have n4_ := Z3.k (Kd.R_below Z3.z42 hb); have n5_ := Z3.k (Kd.R_below Z3.z41 hb); have n6_ := Z3.k (Kd.R_below Z3.z40 hb); have n7_ := Z3.k (Kd.R_below Z3.z22 hb); have n8_ := Z3.k (Z3.bb BK111 Z3.z97 hb); have n9_ := Z3.k (Z3.bb BK122 Z3.z93 hb); have n10_ := Z3.k (Z3.bb BK133 Z3.z90 hb); have n11_ := Z3.k (Z3.bb BK141 Z3.z88 hb); have n12_ := Z3.k (Z3.bb BK153 Z3.z87 hb); have n13_ := Z3.k (blk_below (g := gb163) (o := .cells #[.int .i64 t156, .int .i64 t157, .int .i64 t158, .slice Ao66 t159.length co66] 27 (0, 0)) Z3.z30 hb); have n14_ := Z3.k (below_step Z3.z2 hb); clear HO110 HO117 HO120 HO128 HO131 HO139 HO151 HO161 BK111 BK122 BK133 BK141 BK153 BK163 HB; have HO110 := n0_; have HO117 := n1_; have HO120 := n2_; have HO128 := n3_; have HO131 := n4_; have HO139 := n5_; have HO151 := n6_; have HO161 := n7_; have BK111 := n8_; have BK122 := n9_; have BK133 := n10_; have BK141 := n11_; have BK153 := n12_; have BK163 := n13_; have HB := n14_; clear n0_ n1_ n2_ n3_ n4_ n5_ n6_ n7_ n8_ n9_ n10_ n11_ n12_ n13_ n14_; (try clear hb); (try clear hb2); (try clear hk); (try clear hi))))
   (try simp only [Act.put, List.setIfInBounds_toArray, List.set_cons_zero, List.set_cons_succ])
   go_cut [182] (fun v182 wc => ∃ (kq : Nat) (x182_17 : Bool), v182 = .bool x182_17 ∧ Aside0 (laws_FnReduced.j0 kq t118 t142 x182_17 t105 t106 t107 t108 t112 t113 t114 t115 = some true) ∧ Aside0 (kq ≤ k) ∧ Aside0 (Kd.R (Kd.int .i64) 2 wc w.heap.size (fun k_ => some k_ ≠ ((.slice Ao23 t108.length co23) : Value).ownBlock ∧ some k_ ≠ ((.slice Ao28 t115.length co28) : Value).ownBlock ∧ some k_ ≠ ((.slice Ao34 t126.length co34) : Value).ownBlock ∧ some k_ ≠ ((.slice Ao42 t137.length co42) : Value).ownBlock ∧ some k_ ≠ ((.slice Ao55 t149.length co55) : Value).ownBlock ∧ some k_ ≠ ((.slice Ao66 t159.length co66) : Value).ownBlock) v119 t118) ∧ Aside0 (Kd.R (Kd.int .i64) 2 wc w.heap.size (fun k_ => some k_ ≠ (v119 : Value).ownBlock ∧ some k_ ≠ ((.slice Ao28 t115.length co28) : Value).ownBlock ∧ some k_ ≠ ((.slice Ao34 t126.length co34) : Value).ownBlock ∧ some k_ ≠ ((.slice Ao42 t137.length co42) : Value).ownBlock ∧ some k_ ≠ ((.slice Ao55 t149.length co55) : Value).ownBlock ∧ some k_ ≠ ((.slice Ao66 t159.length co66) : Value).ownBlock) (.slice Ao23 t108.length co23) t108) ∧ Aside0 (Kd.R (Kd.int .i64) 2 wc w.heap.size (fun k_ => some k_ ≠ (v119 : Value).ownBlock ∧ some k_ ≠ ((.slice Ao23 t108.length co23) : Value).ownBlock ∧ some k_ ≠ ((.slice Ao34 t126.length co34) : Value).ownBlock ∧ some k_ ≠ ((.slice Ao42 t137.length co42) : Value).ownBlock ∧ some k_ ≠ ((.slice Ao55 t149.length co55) : Value).ownBlock ∧ some k_ ≠ ((.slice Ao66 t159.length co66) : Value).ownBlock) (.slice Ao28 t115.length co28) t115) ∧ Aside0 (Kd.R (Kd.int .i64) 2 wc w.heap.size (fun k_ => some k_ ≠ (v119 : Value).ownBlock ∧ some k_ ≠ ((.slice Ao23 t108.length co23) : Value).ownBlock ∧ some k_ ≠ ((.slice Ao28 t115.length co28) : Value).ownBlock ∧ some k_ ≠ ((.slice Ao42 t137.length co42) : Value).ownBlock ∧ some k_ ≠ ((.slice Ao55 t149.length co55) : Value).ownBlock ∧ some k_ ≠ ((.slice Ao66 t159.length co66) : Value).ownBlock) (.slice Ao34 t126.length co34) t126) ∧ Aside0 (Kd.R (Kd.int .i64) 2 wc w.heap.size (fun k_ => some k_ ≠ (v119 : Value).ownBlock ∧ some k_ ≠ ((.slice Ao23 t108.length co23) : Value).ownBlock ∧ some k_ ≠ ((.slice Ao28 t115.length co28) : Value).ownBlock ∧ some k_ ≠ ((.slice Ao34 t126.length co34) : Value).ownBlock ∧ some k_ ≠ ((.slice Ao55 t149.length co55) : Value).ownBlock ∧ some k_ ≠ ((.slice Ao66 t159.length co66) : Value).ownBlock) (.slice Ao42 t137.length co42) t137) ∧ Aside0 (Kd.R (Kd.int .i64) 2 wc w.heap.size (fun k_ => some k_ ≠ (v119 : Value).ownBlock ∧ some k_ ≠ ((.slice Ao23 t108.length co23) : Value).ownBlock ∧ some k_ ≠ ((.slice Ao28 t115.length co28) : Value).ownBlock ∧ some k_ ≠ ((.slice Ao34 t126.length co34) : Value).ownBlock ∧ some k_ ≠ ((.slice Ao42 t137.length co42) : Value).ownBlock ∧ some k_ ≠ ((.slice Ao66 t159.length co66) : Value).ownBlock) (.slice Ao55 t149.length co55) t149) ∧ Aside0 (Kd.R (Kd.int .i64) 2 wc w.heap.size (fun k_ => some k_ ≠ (v119 : Value).ownBlock ∧ some k_ ≠ ((.slice Ao23 t108.length co23) : Value).ownBlock ∧ some k_ ≠ ((.slice Ao28 t115.length co28) : Value).ownBlock ∧ some k_ ≠ ((.slice Ao34 t126.length co34) : Value).ownBlock ∧ some k_ ≠ ((.slice Ao42 t137.length co42) : Value).ownBlock ∧ some k_ ≠ ((.slice Ao55 t149.length co55) : Value).ownBlock) (.slice Ao66 t159.length co66) t159) ∧ Aside0 (wc.heap[gb111]? = some (.cells #[.int .i64 t105, .int .i64 t106, .int .i64 t107, (.slice Ao23 t108.length co23)] 27 (0, 0))) ∧ Aside0 (wc.heap[gb122]? = some (.cells #[.int .i64 t112, .int .i64 t113, .int .i64 t114, (.slice Ao28 t115.length co28)] 27 (0, 0))) ∧ Aside0 (wc.heap[gb133]? = some (.cells #[.int .i64 t123, .int .i64 t124, .int .i64 t125, (.slice Ao34 t126.length co34)] 27 (0, 0))) ∧ Aside0 (wc.heap[gb141]? = some (.cells #[.int .i64 t134, .int .i64 t135, .int .i64 t136, (.slice Ao42 t137.length co42)] 27 (0, 0))) ∧ Aside0 (wc.heap[gb153]? = some (.cells #[.int .i64 t146, .int .i64 t147, .int .i64 t148, (.slice Ao55 t149.length co55)] 27 (0, 0))) ∧ Aside0 (wc.heap[gb163]? = some (.cells #[.int .i64 t156, .int .i64 t157, .int .i64 t158, (.slice Ao66 t159.length co66)] 27 (0, 0))) ∧ Aside0 (Below w.heap.size w wc))
   case first =>
    have H := HC18.out
    clear HC18
    by_cases c68 : t121 = 0
    ·as_aux_lemma =>
      rw [if_pos c68] at H
      have c68b0 : (t121 == 0) = true := beq_iff_eq.mpr c68
      have c68b1 : (t121 != 0) = false := bne_eq_false_iff_eq.mpr c68
      clear c68
      (first | rw [c68b0] | (simp only [i64_w, i32_w]; rw [c68b0]) | skip)
      by_cases c69 : t132 = 0
      ·as_aux_lemma =>
        rw [if_pos c69] at H
        have c69b0 : (t132 == 0) = true := beq_iff_eq.mpr c69
        have c69b1 : (t132 != 0) = false := bne_eq_false_iff_eq.mpr c69
        clear c69
        replace H := Option.bind_eq_some_iff.mp H
        obtain ⟨t166, A700, H⟩ := H
        replace H : (if t166 = true then ((laws_r8Same.f k t129 t118).bind fun t167 => (if t167 = true then (if t140 = 0 then (if t143 = 0 then (if t145 = 0 then (if t142 = t144 then (if t142 = (t118.length : Int) then (if t152 = 0 then (if t155 = 0 then (if t154 = t142 then (if t162 = 0 then (if t165 = 0 then (if t164 = t142 then (if t113 = t106 then (if t114 = t107 then (laws_FnReduced.j0 k t118 t142 ((t115.length : Int) != (wrap64 (t106 * t107))) t105 t106 t107 t108 t112 t113 t114 t115) else (laws_FnReduced.j0 k t118 t142 true t105 t106 t107 t108 t112 t113 t114 t115)) else (laws_FnReduced.j0 k t118 t142 true t105 t106 t107 t108 t112 t113 t114 t115)) else (laws_FnReduced.j0 k t118 t142 true t105 t106 t107 t108 t112 t113 t114 t115)) else (laws_FnReduced.j0 k t118 t142 true t105 t106 t107 t108 t112 t113 t114 t115)) else (laws_FnReduced.j0 k t118 t142 true t105 t106 t107 t108 t112 t113 t114 t115)) else (laws_FnReduced.j0 k t118 t142 true t105 t106 t107 t108 t112 t113 t114 t115)) else (laws_FnReduced.j0 k t118 t142 true t105 t106 t107 t108 t112 t113 t114 t115)) else (laws_FnReduced.j0 k t118 t142 true t105 t106 t107 t108 t112 t113 t114 t115)) else (laws_FnReduced.j0 k t118 t142 true t105 t106 t107 t108 t112 t113 t114 t115)) else (laws_FnReduced.j0 k t118 t142 true t105 t106 t107 t108 t112 t113 t114 t115)) else (laws_FnReduced.j0 k t118 t142 true t105 t106 t107 t108 t112 t113 t114 t115)) else (laws_FnReduced.j0 k t118 t142 true t105 t106 t107 t108 t112 t113 t114 t115)) else (laws_FnReduced.j0 k t118 t142 true t105 t106 t107 t108 t112 t113 t114 t115)) else (laws_FnReduced.j0 k t118 t142 true t105 t106 t107 t108 t112 t113 t114 t115))) else (laws_FnReduced.j0 k t118 t142 true t105 t106 t107 t108 t112 t113 t114 t115)) = some true := H
        have A70 := Z3.k A700
        clear A700
        by_cases c71 : t166 = true
        ·as_aux_lemma =>
          subst c71
          have H1 : ((laws_r8Same.f k t129 t118).bind fun t167 => (if t167 = true then (if t140 = 0 then (if t143 = 0 then (if t145 = 0 then (if t142 = t144 then (if t142 = (t118.length : Int) then (if t152 = 0 then (if t155 = 0 then (if t154 = t142 then (if t162 = 0 then (if t165 = 0 then (if t164 = t142 then (if t113 = t106 then (if t114 = t107 then (laws_FnReduced.j0 k t118 t142 ((t115.length : Int) != (wrap64 (t106 * t107))) t105 t106 t107 t108 t112 t113 t114 t115) else (laws_FnReduced.j0 k t118 t142 true t105 t106 t107 t108 t112 t113 t114 t115)) else (laws_FnReduced.j0 k t118 t142 true t105 t106 t107 t108 t112 t113 t114 t115)) else (laws_FnReduced.j0 k t118 t142 true t105 t106 t107 t108 t112 t113 t114 t115)) else (laws_FnReduced.j0 k t118 t142 true t105 t106 t107 t108 t112 t113 t114 t115)) else (laws_FnReduced.j0 k t118 t142 true t105 t106 t107 t108 t112 t113 t114 t115)) else (laws_FnReduced.j0 k t118 t142 true t105 t106 t107 t108 t112 t113 t114 t115)) else (laws_FnReduced.j0 k t118 t142 true t105 t106 t107 t108 t112 t113 t114 t115)) else (laws_FnReduced.j0 k t118 t142 true t105 t106 t107 t108 t112 t113 t114 t115)) else (laws_FnReduced.j0 k t118 t142 true t105 t106 t107 t108 t112 t113 t114 t115)) else (laws_FnReduced.j0 k t118 t142 true t105 t106 t107 t108 t112 t113 t114 t115)) else (laws_FnReduced.j0 k t118 t142 true t105 t106 t107 t108 t112 t113 t114 t115)) else (laws_FnReduced.j0 k t118 t142 true t105 t106 t107 t108 t112 t113 t114 t115)) else (laws_FnReduced.j0 k t118 t142 true t105 t106 t107 t108 t112 t113 t114 t115)) else (laws_FnReduced.j0 k t118 t142 true t105 t106 t107 t108 t112 t113 t114 t115))) = some true := by rw [if_pos rfl] at H; exact H
          clear H
          have H := H1
          clear H1
          replace H := Option.bind_eq_some_iff.mp H
          obtain ⟨t167, A720, H⟩ := H
          replace H : (if t167 = true then (if t140 = 0 then (if t143 = 0 then (if t145 = 0 then (if t142 = t144 then (if t142 = (t118.length : Int) then (if t152 = 0 then (if t155 = 0 then (if t154 = t142 then (if t162 = 0 then (if t165 = 0 then (if t164 = t142 then (if t113 = t106 then (if t114 = t107 then (laws_FnReduced.j0 k t118 t142 ((t115.length : Int) != (wrap64 (t106 * t107))) t105 t106 t107 t108 t112 t113 t114 t115) else (laws_FnReduced.j0 k t118 t142 true t105 t106 t107 t108 t112 t113 t114 t115)) else (laws_FnReduced.j0 k t118 t142 true t105 t106 t107 t108 t112 t113 t114 t115)) else (laws_FnReduced.j0 k t118 t142 true t105 t106 t107 t108 t112 t113 t114 t115)) else (laws_FnReduced.j0 k t118 t142 true t105 t106 t107 t108 t112 t113 t114 t115)) else (laws_FnReduced.j0 k t118 t142 true t105 t106 t107 t108 t112 t113 t114 t115)) else (laws_FnReduced.j0 k t118 t142 true t105 t106 t107 t108 t112 t113 t114 t115)) else (laws_FnReduced.j0 k t118 t142 true t105 t106 t107 t108 t112 t113 t114 t115)) else (laws_FnReduced.j0 k t118 t142 true t105 t106 t107 t108 t112 t113 t114 t115)) else (laws_FnReduced.j0 k t118 t142 true t105 t106 t107 t108 t112 t113 t114 t115)) else (laws_FnReduced.j0 k t118 t142 true t105 t106 t107 t108 t112 t113 t114 t115)) else (laws_FnReduced.j0 k t118 t142 true t105 t106 t107 t108 t112 t113 t114 t115)) else (laws_FnReduced.j0 k t118 t142 true t105 t106 t107 t108 t112 t113 t114 t115)) else (laws_FnReduced.j0 k t118 t142 true t105 t106 t107 t108 t112 t113 t114 t115)) else (laws_FnReduced.j0 k t118 t142 true t105 t106 t107 t108 t112 t113 t114 t115)) = some true := H
          have A72 := Z3.k A720
          clear A720
          by_cases c73 : t167 = true
          ·as_aux_lemma =>
            subst c73
            have H1 : (if t140 = 0 then (if t143 = 0 then (if t145 = 0 then (if t142 = t144 then (if t142 = (t118.length : Int) then (if t152 = 0 then (if t155 = 0 then (if t154 = t142 then (if t162 = 0 then (if t165 = 0 then (if t164 = t142 then (if t113 = t106 then (if t114 = t107 then (laws_FnReduced.j0 k t118 t142 ((t115.length : Int) != (wrap64 (t106 * t107))) t105 t106 t107 t108 t112 t113 t114 t115) else (laws_FnReduced.j0 k t118 t142 true t105 t106 t107 t108 t112 t113 t114 t115)) else (laws_FnReduced.j0 k t118 t142 true t105 t106 t107 t108 t112 t113 t114 t115)) else (laws_FnReduced.j0 k t118 t142 true t105 t106 t107 t108 t112 t113 t114 t115)) else (laws_FnReduced.j0 k t118 t142 true t105 t106 t107 t108 t112 t113 t114 t115)) else (laws_FnReduced.j0 k t118 t142 true t105 t106 t107 t108 t112 t113 t114 t115)) else (laws_FnReduced.j0 k t118 t142 true t105 t106 t107 t108 t112 t113 t114 t115)) else (laws_FnReduced.j0 k t118 t142 true t105 t106 t107 t108 t112 t113 t114 t115)) else (laws_FnReduced.j0 k t118 t142 true t105 t106 t107 t108 t112 t113 t114 t115)) else (laws_FnReduced.j0 k t118 t142 true t105 t106 t107 t108 t112 t113 t114 t115)) else (laws_FnReduced.j0 k t118 t142 true t105 t106 t107 t108 t112 t113 t114 t115)) else (laws_FnReduced.j0 k t118 t142 true t105 t106 t107 t108 t112 t113 t114 t115)) else (laws_FnReduced.j0 k t118 t142 true t105 t106 t107 t108 t112 t113 t114 t115)) else (laws_FnReduced.j0 k t118 t142 true t105 t106 t107 t108 t112 t113 t114 t115)) = some true := by rw [if_pos rfl] at H; exact H
            clear H
            have H := H1
            clear H1
            by_cases c74 : t140 = 0
            ·as_aux_lemma =>
              rw [if_pos c74] at H
              have c74b0 : (t140 == 0) = true := beq_iff_eq.mpr c74
              have c74b1 : (t140 != 0) = false := bne_eq_false_iff_eq.mpr c74
              clear c74
              by_cases c75 : t143 = 0
              ·as_aux_lemma =>
                rw [if_pos c75] at H
                have c75b0 : (t143 == 0) = true := beq_iff_eq.mpr c75
                have c75b1 : (t143 != 0) = false := bne_eq_false_iff_eq.mpr c75
                clear c75
                by_cases c76 : t145 = 0
                ·as_aux_lemma =>
                  rw [if_pos c76] at H
                  have c76b0 : (t145 == 0) = true := beq_iff_eq.mpr c76
                  have c76b1 : (t145 != 0) = false := bne_eq_false_iff_eq.mpr c76
                  clear c76
                  by_cases c77 : t142 = t144
                  ·as_aux_lemma =>
                    rw [if_pos c77] at H
                    have c77b0 : (t142 == t144) = true := beq_iff_eq.mpr c77
                    have c77b1 : (t142 != t144) = false := bne_eq_false_iff_eq.mpr c77
                    clear c77
                    by_cases c78 : t142 = (t118.length : Int)
                    ·as_aux_lemma =>
                      rw [if_pos c78] at H
                      have c78b0 : (t142 == (t118.length : Int)) = true := beq_iff_eq.mpr c78
                      have c78b1 : (t142 != (t118.length : Int)) = false := bne_eq_false_iff_eq.mpr c78
                      clear c78
                      by_cases c79 : t152 = 0
                      ·as_aux_lemma =>
                        rw [if_pos c79] at H
                        have c79b0 : (t152 == 0) = true := beq_iff_eq.mpr c79
                        have c79b1 : (t152 != 0) = false := bne_eq_false_iff_eq.mpr c79
                        clear c79
                        by_cases c80 : t155 = 0
                        ·as_aux_lemma =>
                          rw [if_pos c80] at H
                          have c80b0 : (t155 == 0) = true := beq_iff_eq.mpr c80
                          have c80b1 : (t155 != 0) = false := bne_eq_false_iff_eq.mpr c80
                          clear c80
                          by_cases c81 : t154 = t142
                          ·as_aux_lemma =>
                            rw [if_pos c81] at H
                            have c81b0 : (t154 == t142) = true := beq_iff_eq.mpr c81
                            have c81b1 : (t154 != t142) = false := bne_eq_false_iff_eq.mpr c81
                            clear c81
                            by_cases c82 : t162 = 0
                            ·rw [if_pos c82] at H
                             have c82b0 : (t162 == 0) = true := beq_iff_eq.mpr c82
                             have c82b1 : (t162 != 0) = false := bne_eq_false_iff_eq.mpr c82
                             clear c82
                             by_cases c83 : t165 = 0
                             ·rw [if_pos c83] at H
                              have c83b0 : (t165 == 0) = true := beq_iff_eq.mpr c83
                              have c83b1 : (t165 != 0) = false := bne_eq_false_iff_eq.mpr c83
                              clear c83
                              by_cases c84 : t164 = t142
                              ·rw [if_pos c84] at H
                               have c84b0 : (t164 == t142) = true := beq_iff_eq.mpr c84
                               have c84b1 : (t164 != t142) = false := bne_eq_false_iff_eq.mpr c84
                               clear c84
                               by_cases c85 : t113 = t106
                               ·rw [if_pos c85] at H
                                have c85b0 : (t113 == t106) = true := beq_iff_eq.mpr c85
                                have c85b1 : (t113 != t106) = false := bne_eq_false_iff_eq.mpr c85
                                clear c85
                                by_cases c86 : t114 = t107
                                ·rw [if_pos c86] at H
                                 have c86b0 : (t114 == t107) = true := beq_iff_eq.mpr c86
                                 have c86b1 : (t114 != t107) = false := bne_eq_false_iff_eq.mpr c86
                                 clear c86
                                 have H' := Z3.k H
                                 clear H
                                 have hnb87 := NB133_111.out
                                 have hnc87 := NB111_133.out
                                 have hnb88 := NB133_122.out
                                 have hnc88 := NB122_133.out
                                 have hnb89 := NB133_141.out
                                 have hnc89 := NB141_133.out
                                 have hnb90 := NB133_153.out
                                 have hnc90 := NB153_133.out
                                 have hnb91 := NB133_163.out
                                 have hnc91 := NB163_133.out
                                 have hcz92_0 : w67.cell? ⟨gb133, 0, none⟩ = some (.int .i64 t123) := (blk_cell BK133.out 0).trans rfl
                                 have hcz92_1 : w67.cell? ⟨gb133, 1, none⟩ = some (.int .i64 t124) := (blk_cell BK133.out 1).trans rfl
                                 have hcz92_2 : w67.cell? ⟨gb133, 2, none⟩ = some (.int .i64 t125) := (blk_cell BK133.out 2).trans rfl
                                 have hcz92_3 : w67.cell? ⟨gb133, 3, none⟩ = some (.slice Ao34 t126.length co34) := (blk_cell BK133.out 3).trans rfl
                                 have hfz92_0 := blk_frozen BK133.out 0
                                 have hfz92_1 := blk_frozen BK133.out 1
                                 have hfz92_2 := blk_frozen BK133.out 2
                                 have hfz92_3 := blk_frozen BK133.out 3
                                 have hnb93 := NB122_111.out
                                 have hnc93 := NB111_122.out
                                 have hnb94 := NB122_141.out
                                 have hnc94 := NB141_122.out
                                 have hnb95 := NB122_153.out
                                 have hnc95 := NB153_122.out
                                 have hnb96 := NB122_163.out
                                 have hnc96 := NB163_122.out
                                 have hcz97_0 : w67.cell? ⟨gb122, 0, none⟩ = some (.int .i64 t112) := (blk_cell BK122.out 0).trans rfl
                                 have hcz97_1 : w67.cell? ⟨gb122, 1, none⟩ = some (.int .i64 t113) := (blk_cell BK122.out 1).trans rfl
                                 have hcz97_2 : w67.cell? ⟨gb122, 2, none⟩ = some (.int .i64 t114) := (blk_cell BK122.out 2).trans rfl
                                 have hcz97_3 : w67.cell? ⟨gb122, 3, none⟩ = some (.slice Ao28 t115.length co28) := (blk_cell BK122.out 3).trans rfl
                                 have hfz97_0 := blk_frozen BK122.out 0
                                 have hfz97_1 := blk_frozen BK122.out 1
                                 have hfz97_2 := blk_frozen BK122.out 2
                                 have hfz97_3 := blk_frozen BK122.out 3
                                 go_wp2_with (first | (go_at_call 19; (with_reducible refine (spec_SameMatrix.calls k t123 t124 t125 _ _ t126 t112 t113 t114 _ _ t115 true _ ?side1 ?side2 ?side3 ?side4 A70.out).mono ?_); (case side1 => exact Z3.z83); (case side2 => exact (Kd.R_reads' HO128.out).2.1); (case side3 => exact Z3.z85); (case side4 => exact (Kd.R_reads' HO117.out).2.1); rintro e w98 ⟨rfl, hb⟩; have n0_ := Z3.k (Kd.R_below Z3.z12 hb); have n1_ := Z3.k (Kd.R_below Z3.z16 hb); have n2_ := Z3.k (Kd.R_below Z3.z15 hb); have n3_ := Z3.k (Kd.R_below Z3.z19 hb); have n4_ := Z3.k (Kd.R_below Z3.z18 hb); have n5_ := Z3.k (Kd.R_below Z3.z21 hb); have n6_ := Z3.k (Kd.R_below Z3.z36 hb); have n7_ := Z3.k (Kd.R_below Z3.z74 hb); have n8_ := Z3.k (Z3.bb BK111 Z3.z0 hb); have n9_ := Z3.k (Z3.bb BK122 Z3.z1 hb); have n10_ := Z3.k (Z3.bb BK133 Z3.z7 hb); have n11_ := Z3.k (Z3.bb BK141 Z3.z8 hb); have n12_ := Z3.k (Z3.bb BK153 Z3.z29 hb); have n13_ := Z3.k (Z3.bb BK163 Z3.z38 hb); have n14_ := Z3.k (below_step Z3.z2 hb); clear HO110 HO117 HO120 HO128 HO131 HO139 HO151 HO161 BK111 BK122 BK133 BK141 BK153 BK163 HB; have HO110 := n0_; have HO117 := n1_; have HO120 := n2_; have HO128 := n3_; have HO131 := n4_; have HO139 := n5_; have HO151 := n6_; have HO161 := n7_; have BK111 := n8_; have BK122 := n9_; have BK133 := n10_; have BK141 := n11_; have BK153 := n12_; have BK163 := n13_; have HB := n14_; clear n0_ n1_ n2_ n3_ n4_ n5_ n6_ n7_ n8_ n9_ n10_ n11_ n12_ n13_ n14_; (try clear hb); (try clear hb2); (try clear hk); (try clear hi); obtain ⟨Ao99, co99, eo99⟩ := Kd.R_slice HO131.out; subst eo99; obtain ⟨Ao100, co100, eo100⟩ := Kd.R_slice HO120.out; subst eo100) | (go_at_call 20; (with_reducible refine (laws_r8Same.calls k _ _ t129 _ _ t118 true _ ?side1 ?side2 ?side3 ?side4 A72.out).mono ?_); (case side1 => exact Z3.z82); (case side2 => exact (Kd.R_reads' HO131.out).2.1); (case side3 => exact Z3.z84); (case side4 => exact (Kd.R_reads' HO120.out).2.1); rintro e w' ⟨rfl, ⟨nd, rfl⟩⟩; (try first | exact ⟨rfl, _, World.drewN_drewN _ _ _⟩ | exact ⟨rfl, _, Eq.trans (World.drewN_drewN _ _ _) (congrArg (World.drewN _) (Nat.add_assoc _ _ _))⟩); have hcz101_0 : w98.cell? ⟨gb122, 0, none⟩ = some (.int .i64 t112) := (blk_cell BK122.out 0).trans rfl; have hcz101_1 : w98.cell? ⟨gb122, 1, none⟩ = some (.int .i64 t113) := (blk_cell BK122.out 1).trans rfl; have hcz101_2 : w98.cell? ⟨gb122, 2, none⟩ = some (.int .i64 t114) := (blk_cell BK122.out 2).trans rfl; have hcz101_3 : w98.cell? ⟨gb122, 3, none⟩ = some (.slice Ao28 t115.length co28) := (blk_cell BK122.out 3).trans rfl; have hfz101_0 := blk_frozen BK122.out 0; have hfz101_1 := blk_frozen BK122.out 1; have hfz101_2 := blk_frozen BK122.out 2; have hfz101_3 := blk_frozen BK122.out 3; have hnb102 := NB111_141.out; have hnc102 := NB141_111.out; have hnb103 := NB111_153.out; have hnc103 := NB153_111.out; have hnb104 := NB111_163.out; have hnc104 := NB163_111.out; have hcz105_0 : w98.cell? ⟨gb111, 0, none⟩ = some (.int .i64 t105) := (blk_cell BK111.out 0).trans rfl; have hcz105_1 : w98.cell? ⟨gb111, 1, none⟩ = some (.int .i64 t106) := (blk_cell BK111.out 1).trans rfl; have hcz105_2 : w98.cell? ⟨gb111, 2, none⟩ = some (.int .i64 t107) := (blk_cell BK111.out 2).trans rfl; have hcz105_3 : w98.cell? ⟨gb111, 3, none⟩ = some (.slice Ao23 t108.length co23) := (blk_cell BK111.out 3).trans rfl; have hfz105_0 := blk_frozen BK111.out 0; have hfz105_1 := blk_frozen BK111.out 1; have hfz105_2 := blk_frozen BK111.out 2; have hfz105_3 := blk_frozen BK111.out 3))
                                 repeat (go_quiet (first | (go_at_call 19; (with_reducible refine (spec_SameMatrix.calls k t123 t124 t125 _ _ t126 t112 t113 t114 _ _ t115 true _ ?side1 ?side2 ?side3 ?side4 A70.out).mono ?_); (case side1 => exact Z3.z83); (case side2 => exact (Kd.R_reads' HO128.out).2.1); (case side3 => exact Z3.z85); (case side4 => exact (Kd.R_reads' HO117.out).2.1); rintro e w98 ⟨rfl, hb⟩; have n0_ := Z3.k (Kd.R_below Z3.z12 hb); have n1_ := Z3.k (Kd.R_below Z3.z16 hb); have n2_ := Z3.k (Kd.R_below Z3.z15 hb); have n3_ := Z3.k (Kd.R_below Z3.z19 hb); have n4_ := Z3.k (Kd.R_below Z3.z18 hb); have n5_ := Z3.k (Kd.R_below Z3.z21 hb); have n6_ := Z3.k (Kd.R_below Z3.z36 hb); have n7_ := Z3.k (Kd.R_below Z3.z74 hb); have n8_ := Z3.k (Z3.bb BK111 Z3.z0 hb); have n9_ := Z3.k (Z3.bb BK122 Z3.z1 hb); have n10_ := Z3.k (Z3.bb BK133 Z3.z7 hb); have n11_ := Z3.k (Z3.bb BK141 Z3.z8 hb); have n12_ := Z3.k (Z3.bb BK153 Z3.z29 hb); have n13_ := Z3.k (Z3.bb BK163 Z3.z38 hb); have n14_ := Z3.k (below_step Z3.z2 hb); clear HO110 HO117 HO120 HO128 HO131 HO139 HO151 HO161 BK111 BK122 BK133 BK141 BK153 BK163 HB; have HO110 := n0_; have HO117 := n1_; have HO120 := n2_; have HO128 := n3_; have HO131 := n4_; have HO139 := n5_; have HO151 := n6_; have HO161 := n7_; have BK111 := n8_; have BK122 := n9_; have BK133 := n10_; have BK141 := n11_; have BK153 := n12_; have BK163 := n13_; have HB := n14_; clear n0_ n1_ n2_ n3_ n4_ n5_ n6_ n7_ n8_ n9_ n10_ n11_ n12_ n13_ n14_; (try clear hb); (try clear hb2); (try clear hk); (try clear hi); obtain ⟨Ao99, co99, eo99⟩ := Kd.R_slice HO131.out; subst eo99; obtain ⟨Ao100, co100, eo100⟩ := Kd.R_slice HO120.out; subst eo100) | (go_at_call 20; (with_reducible refine (laws_r8Same.calls k _ _ t129 _ _ t118 true _ ?side1 ?side2 ?side3 ?side4 A72.out).mono ?_); (case side1 => exact Z3.z82); (case side2 => exact (Kd.R_reads' HO131.out).2.1); (case side3 => exact Z3.z84); (case side4 => exact (Kd.R_reads' HO120.out).2.1); rintro e w' ⟨rfl, ⟨nd, rfl⟩⟩; (try first | exact ⟨rfl, _, World.drewN_drewN _ _ _⟩ | exact ⟨rfl, _, Eq.trans (World.drewN_drewN _ _ _) (congrArg (World.drewN _) (Nat.add_assoc _ _ _))⟩); have hcz101_0 : w98.cell? ⟨gb122, 0, none⟩ = some (.int .i64 t112) := (blk_cell BK122.out 0).trans rfl; have hcz101_1 : w98.cell? ⟨gb122, 1, none⟩ = some (.int .i64 t113) := (blk_cell BK122.out 1).trans rfl; have hcz101_2 : w98.cell? ⟨gb122, 2, none⟩ = some (.int .i64 t114) := (blk_cell BK122.out 2).trans rfl; have hcz101_3 : w98.cell? ⟨gb122, 3, none⟩ = some (.slice Ao28 t115.length co28) := (blk_cell BK122.out 3).trans rfl; have hfz101_0 := blk_frozen BK122.out 0; have hfz101_1 := blk_frozen BK122.out 1; have hfz101_2 := blk_frozen BK122.out 2; have hfz101_3 := blk_frozen BK122.out 3; have hnb102 := NB111_141.out; have hnc102 := NB141_111.out; have hnb103 := NB111_153.out; have hnc103 := NB153_111.out; have hnb104 := NB111_163.out; have hnc104 := NB163_111.out; have hcz105_0 : w98.cell? ⟨gb111, 0, none⟩ = some (.int .i64 t105) := (blk_cell BK111.out 0).trans rfl; have hcz105_1 : w98.cell? ⟨gb111, 1, none⟩ = some (.int .i64 t106) := (blk_cell BK111.out 1).trans rfl; have hcz105_2 : w98.cell? ⟨gb111, 2, none⟩ = some (.int .i64 t107) := (blk_cell BK111.out 2).trans rfl; have hcz105_3 : w98.cell? ⟨gb111, 3, none⟩ = some (.slice Ao23 t108.length co23) := (blk_cell BK111.out 3).trans rfl; have hfz105_0 := blk_frozen BK111.out 0; have hfz105_1 := blk_frozen BK111.out 1; have hfz105_2 := blk_frozen BK111.out 2; have hfz105_3 := blk_frozen BK111.out 3)); try go_wp2_with (first | (go_at_call 19; (with_reducible refine (spec_SameMatrix.calls k t123 t124 t125 _ _ t126 t112 t113 t114 _ _ t115 true _ ?side1 ?side2 ?side3 ?side4 A70.out).mono ?_); (case side1 => exact Z3.z83); (case side2 => exact (Kd.R_reads' HO128.out).2.1); (case side3 => exact Z3.z85); (case side4 => exact (Kd.R_reads' HO117.out).2.1); rintro e w98 ⟨rfl, hb⟩; have n0_ := Z3.k (Kd.R_below Z3.z12 hb); have n1_ := Z3.k (Kd.R_below Z3.z16 hb); have n2_ := Z3.k (Kd.R_below Z3.z15 hb); have n3_ := Z3.k (Kd.R_below Z3.z19 hb); have n4_ := Z3.k (Kd.R_below Z3.z18 hb); have n5_ := Z3.k (Kd.R_below Z3.z21 hb); have n6_ := Z3.k (Kd.R_below Z3.z36 hb); have n7_ := Z3.k (Kd.R_below Z3.z74 hb); have n8_ := Z3.k (Z3.bb BK111 Z3.z0 hb); have n9_ := Z3.k (Z3.bb BK122 Z3.z1 hb); have n10_ := Z3.k (Z3.bb BK133 Z3.z7 hb); have n11_ := Z3.k (Z3.bb BK141 Z3.z8 hb); have n12_ := Z3.k (Z3.bb BK153 Z3.z29 hb); have n13_ := Z3.k (Z3.bb BK163 Z3.z38 hb); have n14_ := Z3.k (below_step Z3.z2 hb); clear HO110 HO117 HO120 HO128 HO131 HO139 HO151 HO161 BK111 BK122 BK133 BK141 BK153 BK163 HB; have HO110 := n0_; have HO117 := n1_; have HO120 := n2_; have HO128 := n3_; have HO131 := n4_; have HO139 := n5_; have HO151 := n6_; have HO161 := n7_; have BK111 := n8_; have BK122 := n9_; have BK133 := n10_; have BK141 := n11_; have BK153 := n12_; have BK163 := n13_; have HB := n14_; clear n0_ n1_ n2_ n3_ n4_ n5_ n6_ n7_ n8_ n9_ n10_ n11_ n12_ n13_ n14_; (try clear hb); (try clear hb2); (try clear hk); (try clear hi); obtain ⟨Ao99, co99, eo99⟩ := Kd.R_slice HO131.out; subst eo99; obtain ⟨Ao100, co100, eo100⟩ := Kd.R_slice HO120.out; subst eo100) | (go_at_call 20; (with_reducible refine (laws_r8Same.calls k _ _ t129 _ _ t118 true _ ?side1 ?side2 ?side3 ?side4 A72.out).mono ?_); (case side1 => exact Z3.z82); (case side2 => exact (Kd.R_reads' HO131.out).2.1); (case side3 => exact Z3.z84); (case side4 => exact (Kd.R_reads' HO120.out).2.1); rintro e w' ⟨rfl, ⟨nd, rfl⟩⟩; (try first | exact ⟨rfl, _, World.drewN_drewN _ _ _⟩ | exact ⟨rfl, _, Eq.trans (World.drewN_drewN _ _ _) (congrArg (World.drewN _) (Nat.add_assoc _ _ _))⟩); have hcz101_0 : w98.cell? ⟨gb122, 0, none⟩ = some (.int .i64 t112) := (blk_cell BK122.out 0).trans rfl; have hcz101_1 : w98.cell? ⟨gb122, 1, none⟩ = some (.int .i64 t113) := (blk_cell BK122.out 1).trans rfl; have hcz101_2 : w98.cell? ⟨gb122, 2, none⟩ = some (.int .i64 t114) := (blk_cell BK122.out 2).trans rfl; have hcz101_3 : w98.cell? ⟨gb122, 3, none⟩ = some (.slice Ao28 t115.length co28) := (blk_cell BK122.out 3).trans rfl; have hfz101_0 := blk_frozen BK122.out 0; have hfz101_1 := blk_frozen BK122.out 1; have hfz101_2 := blk_frozen BK122.out 2; have hfz101_3 := blk_frozen BK122.out 3; have hnb102 := NB111_141.out; have hnc102 := NB141_111.out; have hnb103 := NB111_153.out; have hnc103 := NB153_111.out; have hnb104 := NB111_163.out; have hnc104 := NB163_111.out; have hcz105_0 : w98.cell? ⟨gb111, 0, none⟩ = some (.int .i64 t105) := (blk_cell BK111.out 0).trans rfl; have hcz105_1 : w98.cell? ⟨gb111, 1, none⟩ = some (.int .i64 t106) := (blk_cell BK111.out 1).trans rfl; have hcz105_2 : w98.cell? ⟨gb111, 2, none⟩ = some (.int .i64 t107) := (blk_cell BK111.out 2).trans rfl; have hcz105_3 : w98.cell? ⟨gb111, 3, none⟩ = some (.slice Ao23 t108.length co23) := (blk_cell BK111.out 3).trans rfl; have hfz105_0 := blk_frozen BK111.out 0; have hfz105_1 := blk_frozen BK111.out 1; have hfz105_2 := blk_frozen BK111.out 2; have hfz105_3 := blk_frozen BK111.out 3)))
                                 go_meet
                                 case rel => exact ⟨_, (((t115.length : Int) != (wrap64 (t106 * t107)))), Z3.z105, H', ⟨(by first | omega | exact Nat.le_refl _)⟩, ⟨(by (with_reducible repeat (first | apply Kd.R_alloc | apply Kd.R_drewN | apply Kd.R_drew)); exact Kd.R_mono HO120.out (fun _ hk => ⟨hk.1.1.1.1.1.2, ⟨hk.1.1.1.1.1.1, ⟨hk.1.1.1.1.2, ⟨hk.1.1.2, ⟨hk.1.2, hk.2⟩⟩⟩⟩⟩))⟩, ⟨(by (with_reducible repeat (first | apply Kd.R_alloc | apply Kd.R_drewN | apply Kd.R_drew)); exact Kd.R_mono HO110.out (fun _ hk => ⟨hk.1.1.1.1.1.2, ⟨hk.1.1.1.1.1.1.2, ⟨hk.1.1.1.1.2, ⟨hk.1.1.2, ⟨hk.1.2, hk.2⟩⟩⟩⟩⟩))⟩, ⟨(by (with_reducible repeat (first | apply Kd.R_alloc | apply Kd.R_drewN | apply Kd.R_drew)); exact Kd.R_mono HO117.out (fun _ hk => ⟨hk.1.1.1.1.1.1, ⟨hk.1.1.1.1.1.2, ⟨hk.1.1.1.1.2, ⟨hk.1.1.2, ⟨hk.1.2, hk.2⟩⟩⟩⟩⟩))⟩, ⟨(by (with_reducible repeat (first | apply Kd.R_alloc | apply Kd.R_drewN | apply Kd.R_drew)); exact Kd.R_mono HO128.out (fun _ hk => ⟨hk.1.1.1.2, ⟨hk.1.1.1.1.1.2, ⟨hk.1.1.1.1.2, ⟨hk.1.1.2, ⟨hk.1.2, hk.2⟩⟩⟩⟩⟩))⟩, ⟨(by (with_reducible repeat (first | apply Kd.R_alloc | apply Kd.R_drewN | apply Kd.R_drew)); exact Kd.R_mono HO139.out (fun _ hk => ⟨hk.1.1.1.1.2, ⟨hk.1.1.1.1.1.1.2, ⟨hk.1.1.1.1.1.2, ⟨hk.1.1.1.2, ⟨hk.1.2, hk.2⟩⟩⟩⟩⟩))⟩, ⟨(by (with_reducible repeat (first | apply Kd.R_alloc | apply Kd.R_drewN | apply Kd.R_drew)); exact Kd.R_mono HO151.out (fun _ hk => ⟨hk.1.1.1.1.2, ⟨hk.1.1.1.1.1.1.2, ⟨hk.1.1.1.1.1.2, ⟨hk.1.1.1.2, ⟨hk.1.2, hk.2⟩⟩⟩⟩⟩))⟩, ⟨(by (with_reducible repeat (first | apply Kd.R_alloc | apply Kd.R_drewN | apply Kd.R_drew)); exact Kd.R_mono HO161.out (fun _ hk => ⟨hk.1.1.1.1.2, ⟨hk.1.1.1.1.1.1.2, ⟨hk.1.1.1.1.1.2, ⟨hk.1.1.1.2, ⟨hk.1.2, hk.2⟩⟩⟩⟩⟩))⟩, ⟨Z3.z0⟩, ⟨Z3.z1⟩, ⟨Z3.z7⟩, ⟨Z3.z8⟩, ⟨Z3.z29⟩, ⟨Z3.z38⟩, ⟨Z3.z2⟩⟩
                                rw [if_neg c86] at H
                                have c86b0 : (t114 == t107) = false := beq_eq_false_iff_ne.mpr c86
                                have c86b1 : (t114 != t107) = true := bne_iff_ne.mpr c86
                                exact absurd H Z3.z76
                               rw [if_neg c85] at H
                               have c85b0 : (t113 == t106) = false := beq_eq_false_iff_ne.mpr c85
                               have c85b1 : (t113 != t106) = true := bne_iff_ne.mpr c85
                               exact absurd H Z3.z76
                              rw [if_neg c84] at H
                              have c84b0 : (t164 == t142) = false := beq_eq_false_iff_ne.mpr c84
                              have c84b1 : (t164 != t142) = true := bne_iff_ne.mpr c84
                              exact absurd H Z3.z76
                             rw [if_neg c83] at H
                             have c83b0 : (t165 == 0) = false := beq_eq_false_iff_ne.mpr c83
                             have c83b1 : (t165 != 0) = true := bne_iff_ne.mpr c83
                             exact absurd H Z3.z76
                            rw [if_neg c82] at H
                            have c82b0 : (t162 == 0) = false := beq_eq_false_iff_ne.mpr c82
                            have c82b1 : (t162 != 0) = true := bne_iff_ne.mpr c82
                            exact absurd H Z3.z76
                          rw [if_neg c81] at H
                          have c81b0 : (t154 == t142) = false := beq_eq_false_iff_ne.mpr c81
                          have c81b1 : (t154 != t142) = true := bne_iff_ne.mpr c81
                          exact absurd H Z3.z76
                        rw [if_neg c80] at H
                        have c80b0 : (t155 == 0) = false := beq_eq_false_iff_ne.mpr c80
                        have c80b1 : (t155 != 0) = true := bne_iff_ne.mpr c80
                        exact absurd H Z3.z76
                      rw [if_neg c79] at H
                      have c79b0 : (t152 == 0) = false := beq_eq_false_iff_ne.mpr c79
                      have c79b1 : (t152 != 0) = true := bne_iff_ne.mpr c79
                      exact absurd H Z3.z76
                    rw [if_neg c78] at H
                    have c78b0 : (t142 == (t118.length : Int)) = false := beq_eq_false_iff_ne.mpr c78
                    have c78b1 : (t142 != (t118.length : Int)) = true := bne_iff_ne.mpr c78
                    exact absurd H Z3.z76
                  rw [if_neg c77] at H
                  have c77b0 : (t142 == t144) = false := beq_eq_false_iff_ne.mpr c77
                  have c77b1 : (t142 != t144) = true := bne_iff_ne.mpr c77
                  exact absurd H Z3.z76
                rw [if_neg c76] at H
                have c76b0 : (t145 == 0) = false := beq_eq_false_iff_ne.mpr c76
                have c76b1 : (t145 != 0) = true := bne_iff_ne.mpr c76
                exact absurd H Z3.z76
              rw [if_neg c75] at H
              have c75b0 : (t143 == 0) = false := beq_eq_false_iff_ne.mpr c75
              have c75b1 : (t143 != 0) = true := bne_iff_ne.mpr c75
              exact absurd H Z3.z76
            rw [if_neg c74] at H
            have c74b0 : (t140 == 0) = false := beq_eq_false_iff_ne.mpr c74
            have c74b1 : (t140 != 0) = true := bne_iff_ne.mpr c74
            exact absurd H Z3.z76
          replace c73 := Bool.eq_false_iff.mpr c73
          subst c73
          have H1 : (laws_FnReduced.j0 k t118 t142 true t105 t106 t107 t108 t112 t113 t114 t115) = some true := by rw [if_neg (show ¬ (false = true) by decide)] at H; exact H
          clear H
          have H := H1
          clear H1
          exact absurd H Z3.z76
        replace c71 := Bool.eq_false_iff.mpr c71
        subst c71
        have H1 : (laws_FnReduced.j0 k t118 t142 true t105 t106 t107 t108 t112 t113 t114 t115) = some true := by rw [if_neg (show ¬ (false = true) by decide)] at H; exact H
        clear H
        have H := H1
        clear H1
        exact absurd H Z3.z76
      rw [if_neg c69] at H
      have c69b0 : (t132 == 0) = false := beq_eq_false_iff_ne.mpr c69
      have c69b1 : (t132 != 0) = true := bne_iff_ne.mpr c69
      exact absurd H Z3.z76
    rw [if_neg c68] at H
    have c68b0 : (t121 == 0) = false := beq_eq_false_iff_ne.mpr c68
    have c68b1 : (t121 != 0) = true := bne_iff_ne.mpr c68
    (first | rw [c68b0] | (simp only [i64_w, i32_w]; rw [c68b0]) | skip)
    exact absurd H Z3.z76
   case rest =>
    clear HC18
    try clear c1
    try clear c2
    try clear p2
    try clear c3
    try clear c6
    try clear c7
    try clear c8
    try clear c13
    try clear c14
    try clear c15
    try clear c16
    try clear c17
    try clear c18
    try clear c19
    try clear c20
    try clear c21
    try clear c22
    try clear c23
    try clear c24
    try clear c25
    try clear c26
    try clear c27
    try clear c28
    try clear c29
    try clear c30
    try clear c31
    try clear c32
    try clear c68
    try clear c68b0
    try clear c68b1
    try clear c69
    try clear c69b0
    try clear c69b1
    try clear c71
    try clear c73
    try clear c74
    try clear c74b0
    try clear c74b1
    try clear c75
    try clear c75b0
    try clear c75b1
    try clear c76
    try clear c76b0
    try clear c76b1
    try clear c77
    try clear c77b0
    try clear c77b1
    try clear c78
    try clear c78b0
    try clear c78b1
    try clear c79
    try clear c79b0
    try clear c79b1
    try clear c80
    try clear c80b0
    try clear c80b1
    try clear c81
    try clear c81b0
    try clear c81b1
    try clear c82
    try clear c82b0
    try clear c82b1
    try clear c83
    try clear c83b0
    try clear c83b1
    try clear c84
    try clear c84b0
    try clear c84b1
    try clear c134
    try clear c140
    try clear c141
    try clear c142
    try clear c144
    try clear c145
    try clear c146
    try clear c147
    try clear c148
    try clear c150
    try clear c151
    try clear c152
    try clear c153
    try clear c158
    try clear c159
    try clear c160
    try clear c161
    try clear c162
    try clear c164
    try clear c165
    try clear c166
    try clear c167
    try clear c172
    try clear c173
    try clear c174
    try clear c175
    try clear c176
    try clear c178
    try clear c179
    try clear c180
    try clear c181
    try clear c186
    try clear c187
    try clear c188
    try clear c189
    try clear c190
    try clear c192
    try clear c193
    try clear c194
    try clear c195
    try clear c200
    try clear c201
    try clear c202
    try clear c203
    try clear c204
    try clear c206
    try clear c207
    try clear c208
    try clear c209
    try clear c214
    try clear c215
    try clear c216
    try clear c217
    try clear c218
    try clear c220
    try clear c221
    try clear c222
    try clear c223
    try clear c228
    try clear c229
    try clear c230
    try clear c231
    try clear c232
    try clear c234
    try clear c235
    try clear c236
    try clear c237
    try clear c242
    try clear c243
    try clear c244
    try clear c245
    try clear c246
    try clear c248
    try clear c249
    try clear c250
    try clear c251
    try clear c256
    try clear c257
    try clear c258
    try clear c259
    try clear c260
    try clear c262
    try clear c263
    try clear c264
    try clear c265
    try clear c270
    try clear c271
    try clear c272
    try clear c273
    try clear c274
    try clear c276
    try clear c277
    try clear c278
    try clear c279
    try clear c284
    try clear c285
    try clear c286
    try clear c287
    try clear c288
    try clear c290
    try clear c291
    try clear c292
    try clear c293
    try clear c298
    try clear c299
    try clear c300
    try clear c301
    try clear c302
    try clear c304
    try clear c305
    try clear c306
    try clear c307
    try clear c312
    try clear c313
    try clear c314
    try clear c315
    try clear c316
    try clear c318
    try clear c319
    try clear c320
    try clear c321
    try clear hcz135_0
    try clear hcz135_1
    try clear hcz135_2
    try clear hcz135_3
    try clear hcz139_0
    try clear hcz139_1
    try clear hcz139_2
    try clear hcz139_3
    try clear hcz143_0
    try clear hcz143_1
    try clear hcz143_2
    try clear hcz143_3
    try clear hcz149_0
    try clear hcz149_1
    try clear hcz149_2
    try clear hcz149_3
    try clear hcz154_0
    try clear hcz154_1
    try clear hcz154_2
    try clear hcz154_3
    try clear hcz163_0
    try clear hcz163_1
    try clear hcz163_2
    try clear hcz163_3
    try clear hcz168_0
    try clear hcz168_1
    try clear hcz168_2
    try clear hcz168_3
    try clear hcz177_0
    try clear hcz177_1
    try clear hcz177_2
    try clear hcz177_3
    try clear hcz182_0
    try clear hcz182_1
    try clear hcz182_2
    try clear hcz182_3
    try clear hcz191_0
    try clear hcz191_1
    try clear hcz191_2
    try clear hcz191_3
    try clear hcz196_0
    try clear hcz196_1
    try clear hcz196_2
    try clear hcz196_3
    try clear hcz205_0
    try clear hcz205_1
    try clear hcz205_2
    try clear hcz205_3
    try clear hcz210_0
    try clear hcz210_1
    try clear hcz210_2
    try clear hcz210_3
    try clear hcz219_0
    try clear hcz219_1
    try clear hcz219_2
    try clear hcz219_3
    try clear hcz224_0
    try clear hcz224_1
    try clear hcz224_2
    try clear hcz224_3
    try clear hcz233_0
    try clear hcz233_1
    try clear hcz233_2
    try clear hcz233_3
    try clear hcz238_0
    try clear hcz238_1
    try clear hcz238_2
    try clear hcz238_3
    try clear hcz247_0
    try clear hcz247_1
    try clear hcz247_2
    try clear hcz247_3
    try clear hcz252_0
    try clear hcz252_1
    try clear hcz252_2
    try clear hcz252_3
    try clear hcz261_0
    try clear hcz261_1
    try clear hcz261_2
    try clear hcz261_3
    try clear hcz266_0
    try clear hcz266_1
    try clear hcz266_2
    try clear hcz266_3
    try clear hcz275_0
    try clear hcz275_1
    try clear hcz275_2
    try clear hcz275_3
    try clear hcz280_0
    try clear hcz280_1
    try clear hcz280_2
    try clear hcz280_3
    try clear hcz289_0
    try clear hcz289_1
    try clear hcz289_2
    try clear hcz289_3
    try clear hcz294_0
    try clear hcz294_1
    try clear hcz294_2
    try clear hcz294_3
    try clear hcz303_0
    try clear hcz303_1
    try clear hcz303_2
    try clear hcz303_3
    try clear hcz308_0
    try clear hcz308_1
    try clear hcz308_2
    try clear hcz308_3
    try clear hcz317_0
    try clear hcz317_1
    try clear hcz317_2
    try clear hcz317_3
    try clear hcz322_0
    try clear hcz322_1
    try clear hcz322_2
    try clear hcz322_3
    try clear hfz135_0
    try clear hfz135_1
    try clear hfz135_2
    try clear hfz135_3
    try clear hfz139_0
    try clear hfz139_1
    try clear hfz139_2
    try clear hfz139_3
    try clear hfz143_0
    try clear hfz143_1
    try clear hfz143_2
    try clear hfz143_3
    try clear hfz149_0
    try clear hfz149_1
    try clear hfz149_2
    try clear hfz149_3
    try clear hfz154_0
    try clear hfz154_1
    try clear hfz154_2
    try clear hfz154_3
    try clear hfz163_0
    try clear hfz163_1
    try clear hfz163_2
    try clear hfz163_3
    try clear hfz168_0
    try clear hfz168_1
    try clear hfz168_2
    try clear hfz168_3
    try clear hfz177_0
    try clear hfz177_1
    try clear hfz177_2
    try clear hfz177_3
    try clear hfz182_0
    try clear hfz182_1
    try clear hfz182_2
    try clear hfz182_3
    try clear hfz191_0
    try clear hfz191_1
    try clear hfz191_2
    try clear hfz191_3
    try clear hfz196_0
    try clear hfz196_1
    try clear hfz196_2
    try clear hfz196_3
    try clear hfz205_0
    try clear hfz205_1
    try clear hfz205_2
    try clear hfz205_3
    try clear hfz210_0
    try clear hfz210_1
    try clear hfz210_2
    try clear hfz210_3
    try clear hfz219_0
    try clear hfz219_1
    try clear hfz219_2
    try clear hfz219_3
    try clear hfz224_0
    try clear hfz224_1
    try clear hfz224_2
    try clear hfz224_3
    try clear hfz233_0
    try clear hfz233_1
    try clear hfz233_2
    try clear hfz233_3
    try clear hfz238_0
    try clear hfz238_1
    try clear hfz238_2
    try clear hfz238_3
    try clear hfz247_0
    try clear hfz247_1
    try clear hfz247_2
    try clear hfz247_3
    try clear hfz252_0
    try clear hfz252_1
    try clear hfz252_2
    try clear hfz252_3
    try clear hfz261_0
    try clear hfz261_1
    try clear hfz261_2
    try clear hfz261_3
    try clear hfz266_0
    try clear hfz266_1
    try clear hfz266_2
    try clear hfz266_3
    try clear hfz275_0
    try clear hfz275_1
    try clear hfz275_2
    try clear hfz275_3
    try clear hfz280_0
    try clear hfz280_1
    try clear hfz280_2
    try clear hfz280_3
    try clear hfz289_0
    try clear hfz289_1
    try clear hfz289_2
    try clear hfz289_3
    try clear hfz294_0
    try clear hfz294_1
    try clear hfz294_2
    try clear hfz294_3
    try clear hfz303_0
    try clear hfz303_1
    try clear hfz303_2
    try clear hfz303_3
    try clear hfz308_0
    try clear hfz308_1
    try clear hfz308_2
    try clear hfz308_3
    try clear hfz317_0
    try clear hfz317_1
    try clear hfz317_2
    try clear hfz317_3
    try clear hfz322_0
    try clear hfz322_1
    try clear hfz322_2
    try clear hfz322_3
    obtain ⟨kq, x182_17, rfl, HA, HJ17, HO_8, HO_112003, HO_123003, HO_134003, HO_142003, HO_154003, HO_164003, BK111, BK122, BK133, BK141, BK153, BK163, HB⟩ := hcut
    cases kq with
    | zero => exact absurd HA.out (by simp [laws_FnReduced.j0])
    | succ kj17 =>
     have H := HA.out
     clear HA
     simp only [laws_FnReduced.j0] at H
     by_cases c324 : x182_17 = true
     ·subst c324
      have H1 : (some false) = some true := by rw [if_pos rfl] at H; exact H
      exact absurd H1 (by simp)
     ·as_aux_lemma =>
       replace c324 := Bool.eq_false_iff.mpr c324
       subst c324
       have H1 : (laws_FnReduced.l0 kj17 t118 t142 0 t105 t106 t107 t108 t112 t113 t114 t115) = some true := by rw [if_neg (show ¬ (false = true) by decide)] at H; exact H
       clear H
       have H := H1
       clear H1
       have H' := Z3.k H
       clear H
       go_wp2
       repeat (go_quiet (fail); try go_wp2)
       go_loopg [27] kj17 (fun kq v27 w' => ∃ (x27_2 : Int), v27 = .int .i64 x27_2 ∧ Aside0 (laws_FnReduced.l0 kq t118 t142 x27_2 t105 t106 t107 t108 t112 t113 t114 t115 = some true) ∧ Aside0 (kq ≤ kj17) ∧ Aside0 (Kd.R (Kd.int .i64) 2 w' w.heap.size (fun k_ => some k_ ≠ ((.slice Ao23 t108.length co23) : Value).ownBlock ∧ some k_ ≠ ((.slice Ao28 t115.length co28) : Value).ownBlock ∧ some k_ ≠ ((.slice Ao34 t126.length co34) : Value).ownBlock ∧ some k_ ≠ ((.slice Ao42 t137.length co42) : Value).ownBlock ∧ some k_ ≠ ((.slice Ao55 t149.length co55) : Value).ownBlock ∧ some k_ ≠ ((.slice Ao66 t159.length co66) : Value).ownBlock) v119 t118) ∧ Aside0 (Kd.R (Kd.int .i64) 2 w' w.heap.size (fun k_ => some k_ ≠ (v119 : Value).ownBlock ∧ some k_ ≠ ((.slice Ao28 t115.length co28) : Value).ownBlock ∧ some k_ ≠ ((.slice Ao34 t126.length co34) : Value).ownBlock ∧ some k_ ≠ ((.slice Ao42 t137.length co42) : Value).ownBlock ∧ some k_ ≠ ((.slice Ao55 t149.length co55) : Value).ownBlock ∧ some k_ ≠ ((.slice Ao66 t159.length co66) : Value).ownBlock) (.slice Ao23 t108.length co23) t108) ∧ Aside0 (Kd.R (Kd.int .i64) 2 w' w.heap.size (fun k_ => some k_ ≠ (v119 : Value).ownBlock ∧ some k_ ≠ ((.slice Ao23 t108.length co23) : Value).ownBlock ∧ some k_ ≠ ((.slice Ao34 t126.length co34) : Value).ownBlock ∧ some k_ ≠ ((.slice Ao42 t137.length co42) : Value).ownBlock ∧ some k_ ≠ ((.slice Ao55 t149.length co55) : Value).ownBlock ∧ some k_ ≠ ((.slice Ao66 t159.length co66) : Value).ownBlock) (.slice Ao28 t115.length co28) t115) ∧ Aside0 (Kd.R (Kd.int .i64) 2 w' w.heap.size (fun k_ => some k_ ≠ (v119 : Value).ownBlock ∧ some k_ ≠ ((.slice Ao23 t108.length co23) : Value).ownBlock ∧ some k_ ≠ ((.slice Ao28 t115.length co28) : Value).ownBlock ∧ some k_ ≠ ((.slice Ao42 t137.length co42) : Value).ownBlock ∧ some k_ ≠ ((.slice Ao55 t149.length co55) : Value).ownBlock ∧ some k_ ≠ ((.slice Ao66 t159.length co66) : Value).ownBlock) (.slice Ao34 t126.length co34) t126) ∧ Aside0 (Kd.R (Kd.int .i64) 2 w' w.heap.size (fun k_ => some k_ ≠ (v119 : Value).ownBlock ∧ some k_ ≠ ((.slice Ao23 t108.length co23) : Value).ownBlock ∧ some k_ ≠ ((.slice Ao28 t115.length co28) : Value).ownBlock ∧ some k_ ≠ ((.slice Ao34 t126.length co34) : Value).ownBlock ∧ some k_ ≠ ((.slice Ao55 t149.length co55) : Value).ownBlock ∧ some k_ ≠ ((.slice Ao66 t159.length co66) : Value).ownBlock) (.slice Ao42 t137.length co42) t137) ∧ Aside0 (Kd.R (Kd.int .i64) 2 w' w.heap.size (fun k_ => some k_ ≠ (v119 : Value).ownBlock ∧ some k_ ≠ ((.slice Ao23 t108.length co23) : Value).ownBlock ∧ some k_ ≠ ((.slice Ao28 t115.length co28) : Value).ownBlock ∧ some k_ ≠ ((.slice Ao34 t126.length co34) : Value).ownBlock ∧ some k_ ≠ ((.slice Ao42 t137.length co42) : Value).ownBlock ∧ some k_ ≠ ((.slice Ao66 t159.length co66) : Value).ownBlock) (.slice Ao55 t149.length co55) t149) ∧ Aside0 (Kd.R (Kd.int .i64) 2 w' w.heap.size (fun k_ => some k_ ≠ (v119 : Value).ownBlock ∧ some k_ ≠ ((.slice Ao23 t108.length co23) : Value).ownBlock ∧ some k_ ≠ ((.slice Ao28 t115.length co28) : Value).ownBlock ∧ some k_ ≠ ((.slice Ao34 t126.length co34) : Value).ownBlock ∧ some k_ ≠ ((.slice Ao42 t137.length co42) : Value).ownBlock ∧ some k_ ≠ ((.slice Ao55 t149.length co55) : Value).ownBlock) (.slice Ao66 t159.length co66) t159) ∧ Aside0 (w'.heap[gb111]? = some (.cells #[.int .i64 t105, .int .i64 t106, .int .i64 t107, (.slice Ao23 t108.length co23)] 27 (0, 0))) ∧ Aside0 (w'.heap[gb122]? = some (.cells #[.int .i64 t112, .int .i64 t113, .int .i64 t114, (.slice Ao28 t115.length co28)] 27 (0, 0))) ∧ Aside0 (w'.heap[gb133]? = some (.cells #[.int .i64 t123, .int .i64 t124, .int .i64 t125, (.slice Ao34 t126.length co34)] 27 (0, 0))) ∧ Aside0 (w'.heap[gb141]? = some (.cells #[.int .i64 t134, .int .i64 t135, .int .i64 t136, (.slice Ao42 t137.length co42)] 27 (0, 0))) ∧ Aside0 (w'.heap[gb153]? = some (.cells #[.int .i64 t146, .int .i64 t147, .int .i64 t148, (.slice Ao55 t149.length co55)] 27 (0, 0))) ∧ Aside0 (w'.heap[gb163]? = some (.cells #[.int .i64 t156, .int .i64 t157, .int .i64 t158, (.slice Ao66 t159.length co66)] 27 (0, 0))) ∧ Aside0 (Below w.heap.size w w'))
       case atStart => exact ⟨(0), Z3.z105, H', ⟨Nat.le_refl _⟩, ⟨Z3.z71⟩, ⟨Z3.z70⟩, ⟨Z3.z69⟩, ⟨Z3.z68⟩, ⟨Z3.z67⟩, ⟨Z3.z66⟩, ⟨Z3.z65⟩, ⟨Z3.z0⟩, ⟨Z3.z1⟩, ⟨Z3.z7⟩, ⟨Z3.z8⟩, ⟨Z3.z29⟩, ⟨Z3.z38⟩, ⟨Z3.z2⟩⟩
       case round =>
        clear H'
        try clear c1
        try clear c2
        try clear p2
        try clear c3
        try clear c6
        try clear c7
        try clear c8
        try clear c13
        try clear c14
        try clear c15
        try clear c16
        try clear c17
        try clear c18
        try clear c19
        try clear c20
        try clear c21
        try clear c22
        try clear c23
        try clear c24
        try clear c25
        try clear c26
        try clear c27
        try clear c28
        try clear c29
        try clear c30
        try clear c31
        try clear c32
        try clear c68
        try clear c68b0
        try clear c68b1
        try clear c69
        try clear c69b0
        try clear c69b1
        try clear c71
        try clear c73
        try clear c74
        try clear c74b0
        try clear c74b1
        try clear c75
        try clear c75b0
        try clear c75b1
        try clear c76
        try clear c76b0
        try clear c76b1
        try clear c77
        try clear c77b0
        try clear c77b1
        try clear c78
        try clear c78b0
        try clear c78b1
        try clear c79
        try clear c79b0
        try clear c79b1
        try clear c80
        try clear c80b0
        try clear c80b1
        try clear c81
        try clear c81b0
        try clear c81b1
        try clear c82
        try clear c82b0
        try clear c82b1
        try clear c83
        try clear c83b0
        try clear c83b1
        try clear c84
        try clear c84b0
        try clear c84b1
        try clear c134
        try clear c140
        try clear c141
        try clear c142
        try clear c144
        try clear c145
        try clear c146
        try clear c147
        try clear c148
        try clear c150
        try clear c151
        try clear c152
        try clear c153
        try clear c158
        try clear c159
        try clear c160
        try clear c161
        try clear c162
        try clear c164
        try clear c165
        try clear c166
        try clear c167
        try clear c172
        try clear c173
        try clear c174
        try clear c175
        try clear c176
        try clear c178
        try clear c179
        try clear c180
        try clear c181
        try clear c186
        try clear c187
        try clear c188
        try clear c189
        try clear c190
        try clear c192
        try clear c193
        try clear c194
        try clear c195
        try clear c200
        try clear c201
        try clear c202
        try clear c203
        try clear c204
        try clear c206
        try clear c207
        try clear c208
        try clear c209
        try clear c214
        try clear c215
        try clear c216
        try clear c217
        try clear c218
        try clear c220
        try clear c221
        try clear c222
        try clear c223
        try clear c228
        try clear c229
        try clear c230
        try clear c231
        try clear c232
        try clear c234
        try clear c235
        try clear c236
        try clear c237
        try clear c242
        try clear c243
        try clear c244
        try clear c245
        try clear c246
        try clear c248
        try clear c249
        try clear c250
        try clear c251
        try clear c256
        try clear c257
        try clear c258
        try clear c259
        try clear c260
        try clear c262
        try clear c263
        try clear c264
        try clear c265
        try clear c270
        try clear c271
        try clear c272
        try clear c273
        try clear c274
        try clear c276
        try clear c277
        try clear c278
        try clear c279
        try clear c284
        try clear c285
        try clear c286
        try clear c287
        try clear c288
        try clear c290
        try clear c291
        try clear c292
        try clear c293
        try clear c298
        try clear c299
        try clear c300
        try clear c301
        try clear c302
        try clear c304
        try clear c305
        try clear c306
        try clear c307
        try clear c312
        try clear c313
        try clear c314
        try clear c315
        try clear c316
        try clear c318
        try clear c319
        try clear c320
        try clear c321
        try clear c324
        try clear hcz135_0
        try clear hcz135_1
        try clear hcz135_2
        try clear hcz135_3
        try clear hcz139_0
        try clear hcz139_1
        try clear hcz139_2
        try clear hcz139_3
        try clear hcz143_0
        try clear hcz143_1
        try clear hcz143_2
        try clear hcz143_3
        try clear hcz149_0
        try clear hcz149_1
        try clear hcz149_2
        try clear hcz149_3
        try clear hcz154_0
        try clear hcz154_1
        try clear hcz154_2
        try clear hcz154_3
        try clear hcz163_0
        try clear hcz163_1
        try clear hcz163_2
        try clear hcz163_3
        try clear hcz168_0
        try clear hcz168_1
        try clear hcz168_2
        try clear hcz168_3
        try clear hcz177_0
        try clear hcz177_1
        try clear hcz177_2
        try clear hcz177_3
        try clear hcz182_0
        try clear hcz182_1
        try clear hcz182_2
        try clear hcz182_3
        try clear hcz191_0
        try clear hcz191_1
        try clear hcz191_2
        try clear hcz191_3
        try clear hcz196_0
        try clear hcz196_1
        try clear hcz196_2
        try clear hcz196_3
        try clear hcz205_0
        try clear hcz205_1
        try clear hcz205_2
        try clear hcz205_3
        try clear hcz210_0
        try clear hcz210_1
        try clear hcz210_2
        try clear hcz210_3
        try clear hcz219_0
        try clear hcz219_1
        try clear hcz219_2
        try clear hcz219_3
        try clear hcz224_0
        try clear hcz224_1
        try clear hcz224_2
        try clear hcz224_3
        try clear hcz233_0
        try clear hcz233_1
        try clear hcz233_2
        try clear hcz233_3
        try clear hcz238_0
        try clear hcz238_1
        try clear hcz238_2
        try clear hcz238_3
        try clear hcz247_0
        try clear hcz247_1
        try clear hcz247_2
        try clear hcz247_3
        try clear hcz252_0
        try clear hcz252_1
        try clear hcz252_2
        try clear hcz252_3
        try clear hcz261_0
        try clear hcz261_1
        try clear hcz261_2
        try clear hcz261_3
        try clear hcz266_0
        try clear hcz266_1
        try clear hcz266_2
        try clear hcz266_3
        try clear hcz275_0
        try clear hcz275_1
        try clear hcz275_2
        try clear hcz275_3
        try clear hcz280_0
        try clear hcz280_1
        try clear hcz280_2
        try clear hcz280_3
        try clear hcz289_0
        try clear hcz289_1
        try clear hcz289_2
        try clear hcz289_3
        try clear hcz294_0
        try clear hcz294_1
        try clear hcz294_2
        try clear hcz294_3
        try clear hcz303_0
        try clear hcz303_1
        try clear hcz303_2
        try clear hcz303_3
        try clear hcz308_0
        try clear hcz308_1
        try clear hcz308_2
        try clear hcz308_3
        try clear hcz317_0
        try clear hcz317_1
        try clear hcz317_2
        try clear hcz317_3
        try clear hcz322_0
        try clear hcz322_1
        try clear hcz322_2
        try clear hcz322_3
        try clear hfz135_0
        try clear hfz135_1
        try clear hfz135_2
        try clear hfz135_3
        try clear hfz139_0
        try clear hfz139_1
        try clear hfz139_2
        try clear hfz139_3
        try clear hfz143_0
        try clear hfz143_1
        try clear hfz143_2
        try clear hfz143_3
        try clear hfz149_0
        try clear hfz149_1
        try clear hfz149_2
        try clear hfz149_3
        try clear hfz154_0
        try clear hfz154_1
        try clear hfz154_2
        try clear hfz154_3
        try clear hfz163_0
        try clear hfz163_1
        try clear hfz163_2
        try clear hfz163_3
        try clear hfz168_0
        try clear hfz168_1
        try clear hfz168_2
        try clear hfz168_3
        try clear hfz177_0
        try clear hfz177_1
        try clear hfz177_2
        try clear hfz177_3
        try clear hfz182_0
        try clear hfz182_1
        try clear hfz182_2
        try clear hfz182_3
        try clear hfz191_0
        try clear hfz191_1
        try clear hfz191_2
        try clear hfz191_3
        try clear hfz196_0
        try clear hfz196_1
        try clear hfz196_2
        try clear hfz196_3
        try clear hfz205_0
        try clear hfz205_1
        try clear hfz205_2
        try clear hfz205_3
        try clear hfz210_0
        try clear hfz210_1
        try clear hfz210_2
        try clear hfz210_3
        try clear hfz219_0
        try clear hfz219_1
        try clear hfz219_2
        try clear hfz219_3
        try clear hfz224_0
        try clear hfz224_1
        try clear hfz224_2
        try clear hfz224_3
        try clear hfz233_0
        try clear hfz233_1
        try clear hfz233_2
        try clear hfz233_3
        try clear hfz238_0
        try clear hfz238_1
        try clear hfz238_2
        try clear hfz238_3
        try clear hfz247_0
        try clear hfz247_1
        try clear hfz247_2
        try clear hfz247_3
        try clear hfz252_0
        try clear hfz252_1
        try clear hfz252_2
        try clear hfz252_3
        try clear hfz261_0
        try clear hfz261_1
        try clear hfz261_2
        try clear hfz261_3
        try clear hfz266_0
        try clear hfz266_1
        try clear hfz266_2
        try clear hfz266_3
        try clear hfz275_0
        try clear hfz275_1
        try clear hfz275_2
        try clear hfz275_3
        try clear hfz280_0
        try clear hfz280_1
        try clear hfz280_2
        try clear hfz280_3
        try clear hfz289_0
        try clear hfz289_1
        try clear hfz289_2
        try clear hfz289_3
        try clear hfz294_0
        try clear hfz294_1
        try clear hfz294_2
        try clear hfz294_3
        try clear hfz303_0
        try clear hfz303_1
        try clear hfz303_2
        try clear hfz303_3
        try clear hfz308_0
        try clear hfz308_1
        try clear hfz308_2
        try clear hfz308_3
        try clear hfz317_0
        try clear hfz317_1
        try clear hfz317_2
        try clear hfz317_3
        try clear hfz322_0
        try clear hfz322_1
        try clear hfz322_2
        try clear hfz322_3
        try clear p2
        obtain ⟨x27_2, rfl, HA, HK2, HO_8, HO_112003, HO_123003, HO_134003, HO_142003, HO_154003, HO_164003, BK111, BK122, BK133, BK141, BK153, BK163, HB⟩ := hrel
        cases gk with
        | zero => exact absurd HA.out (by simp [laws_FnReduced.l0])
        | succ k2 =>
         have H := HA.out
         clear HA
         simp only [laws_FnReduced.l0] at H
         by_cases c325 : x27_2 < (t118.length : Int)
         ·as_aux_lemma =>
           rw [if_pos c325] at H
           have c325b0 : decide (x27_2 < (t118.length : Int)) = true := decide_eq_true c325
           clear c325
           have HC326 := Z3.k H
           clear H
           obtain ⟨Ao327, co327, eo327⟩ := Kd.R_slice HO_8.out
           subst eo327
           go_upto_region 19 with (fail)
           repeat (go_quiet (fail); go_upto_region 19 with (fail))
           go_cut [218] (fun v218 wc => ∃ (kq : Nat) (x218_325 : Bool), v218 = .bool x218_325 ∧ Aside0 (laws_FnReduced.j2 kq t118 t142 x27_2 x218_325 t105 t106 t107 t108 t112 t113 t114 t115 = some true) ∧ Aside0 (kq ≤ k2) ∧ Aside0 (Kd.R (Kd.int .i64) 2 wc w.heap.size (fun k_ => some k_ ≠ ((.slice Ao23 t108.length co23) : Value).ownBlock ∧ some k_ ≠ ((.slice Ao28 t115.length co28) : Value).ownBlock ∧ some k_ ≠ ((.slice Ao34 t126.length co34) : Value).ownBlock ∧ some k_ ≠ ((.slice Ao42 t137.length co42) : Value).ownBlock ∧ some k_ ≠ ((.slice Ao55 t149.length co55) : Value).ownBlock ∧ some k_ ≠ ((.slice Ao66 t159.length co66) : Value).ownBlock) (.slice Ao327 t118.length co327) t118) ∧ Aside0 (Kd.R (Kd.int .i64) 2 wc w.heap.size (fun k_ => some k_ ≠ ((.slice Ao327 t118.length co327) : Value).ownBlock ∧ some k_ ≠ ((.slice Ao28 t115.length co28) : Value).ownBlock ∧ some k_ ≠ ((.slice Ao34 t126.length co34) : Value).ownBlock ∧ some k_ ≠ ((.slice Ao42 t137.length co42) : Value).ownBlock ∧ some k_ ≠ ((.slice Ao55 t149.length co55) : Value).ownBlock ∧ some k_ ≠ ((.slice Ao66 t159.length co66) : Value).ownBlock) (.slice Ao23 t108.length co23) t108) ∧ Aside0 (Kd.R (Kd.int .i64) 2 wc w.heap.size (fun k_ => some k_ ≠ ((.slice Ao327 t118.length co327) : Value).ownBlock ∧ some k_ ≠ ((.slice Ao23 t108.length co23) : Value).ownBlock ∧ some k_ ≠ ((.slice Ao34 t126.length co34) : Value).ownBlock ∧ some k_ ≠ ((.slice Ao42 t137.length co42) : Value).ownBlock ∧ some k_ ≠ ((.slice Ao55 t149.length co55) : Value).ownBlock ∧ some k_ ≠ ((.slice Ao66 t159.length co66) : Value).ownBlock) (.slice Ao28 t115.length co28) t115) ∧ Aside0 (Kd.R (Kd.int .i64) 2 wc w.heap.size (fun k_ => some k_ ≠ ((.slice Ao327 t118.length co327) : Value).ownBlock ∧ some k_ ≠ ((.slice Ao23 t108.length co23) : Value).ownBlock ∧ some k_ ≠ ((.slice Ao28 t115.length co28) : Value).ownBlock ∧ some k_ ≠ ((.slice Ao42 t137.length co42) : Value).ownBlock ∧ some k_ ≠ ((.slice Ao55 t149.length co55) : Value).ownBlock ∧ some k_ ≠ ((.slice Ao66 t159.length co66) : Value).ownBlock) (.slice Ao34 t126.length co34) t126) ∧ Aside0 (Kd.R (Kd.int .i64) 2 wc w.heap.size (fun k_ => some k_ ≠ ((.slice Ao327 t118.length co327) : Value).ownBlock ∧ some k_ ≠ ((.slice Ao23 t108.length co23) : Value).ownBlock ∧ some k_ ≠ ((.slice Ao28 t115.length co28) : Value).ownBlock ∧ some k_ ≠ ((.slice Ao34 t126.length co34) : Value).ownBlock ∧ some k_ ≠ ((.slice Ao55 t149.length co55) : Value).ownBlock ∧ some k_ ≠ ((.slice Ao66 t159.length co66) : Value).ownBlock) (.slice Ao42 t137.length co42) t137) ∧ Aside0 (Kd.R (Kd.int .i64) 2 wc w.heap.size (fun k_ => some k_ ≠ ((.slice Ao327 t118.length co327) : Value).ownBlock ∧ some k_ ≠ ((.slice Ao23 t108.length co23) : Value).ownBlock ∧ some k_ ≠ ((.slice Ao28 t115.length co28) : Value).ownBlock ∧ some k_ ≠ ((.slice Ao34 t126.length co34) : Value).ownBlock ∧ some k_ ≠ ((.slice Ao42 t137.length co42) : Value).ownBlock ∧ some k_ ≠ ((.slice Ao66 t159.length co66) : Value).ownBlock) (.slice Ao55 t149.length co55) t149) ∧ Aside0 (Kd.R (Kd.int .i64) 2 wc w.heap.size (fun k_ => some k_ ≠ ((.slice Ao327 t118.length co327) : Value).ownBlock ∧ some k_ ≠ ((.slice Ao23 t108.length co23) : Value).ownBlock ∧ some k_ ≠ ((.slice Ao28 t115.length co28) : Value).ownBlock ∧ some k_ ≠ ((.slice Ao34 t126.length co34) : Value).ownBlock ∧ some k_ ≠ ((.slice Ao42 t137.length co42) : Value).ownBlock ∧ some k_ ≠ ((.slice Ao55 t149.length co55) : Value).ownBlock) (.slice Ao66 t159.length co66) t159) ∧ Aside0 (wc.heap[gb111]? = some (.cells #[.int .i64 t105, .int .i64 t106, .int .i64 t107, (.slice Ao23 t108.length co23)] 27 (0, 0))) ∧ Aside0 (wc.heap[gb122]? = some (.cells #[.int .i64 t112, .int .i64 t113, .int .i64 t114, (.slice Ao28 t115.length co28)] 27 (0, 0))) ∧ Aside0 (wc.heap[gb133]? = some (.cells #[.int .i64 t123, .int .i64 t124, .int .i64 t125, (.slice Ao34 t126.length co34)] 27 (0, 0))) ∧ Aside0 (wc.heap[gb141]? = some (.cells #[.int .i64 t134, .int .i64 t135, .int .i64 t136, (.slice Ao42 t137.length co42)] 27 (0, 0))) ∧ Aside0 (wc.heap[gb153]? = some (.cells #[.int .i64 t146, .int .i64 t147, .int .i64 t148, (.slice Ao55 t149.length co55)] 27 (0, 0))) ∧ Aside0 (wc.heap[gb163]? = some (.cells #[.int .i64 t156, .int .i64 t157, .int .i64 t158, (.slice Ao66 t159.length co66)] 27 (0, 0))) ∧ Aside0 (Below w.heap.size w wc))
           case first =>
            have H := HC326.out
            clear HC326
            by_cases c328 : 0 ≤ x27_2
            ·as_aux_lemma =>
              rw [if_pos c328] at H
              have c328b0 : decide (0 ≤ x27_2) = true := decide_eq_true c328
              clear c328
              (first | rw [c328b0] | (simp only [i64_w, i32_w]; rw [c328b0]) | skip)
              by_cases c329 : (rd t118 x27_2) < 0
              ·rw [if_pos c329] at H
               have c329b0 : decide ((rd t118 x27_2) < 0) = true := decide_eq_true c329
               clear c329
               exact absurd H (by unfold laws_FnReduced.j2; split <;> simp)
              ·as_aux_lemma =>
                rw [if_neg c329] at H
                have c329b0 : decide ((rd t118 x27_2) < 0) = false := decide_eq_false c329
                clear c329
                by_cases c330 : (rd t118 x27_2) ≥ t107
                ·rw [if_pos c330] at H
                 have c330b0 : decide (t107 ≤ (rd t118 x27_2)) = true := decide_eq_true c330
                 clear c330
                 exact absurd H (by unfold laws_FnReduced.j2; split <;> simp)
                ·as_aux_lemma =>
                  rw [if_neg c330] at H
                  have c330b0 : decide (t107 ≤ (rd t118 x27_2)) = false := decide_eq_false c330
                  clear c330
                  by_cases c337 : x27_2 > 0
                  ·rw [if_pos c337] at H
                   have c337b0 : decide (0 < x27_2) = true := decide_eq_true c337
                   clear c337
                   obtain ⟨ji338, hji338⟩ : ∃ j_ : Int, (wrap64 (x27_2 - 1)) = j_ := ⟨_, rfl⟩
                   replace H : (if 0 ≤ (ji338) then (if (ji338) < (t118.length : Int) then (laws_FnReduced.j2 k2 t118 t142 x27_2 (decide ((rd t118 x27_2) ≤ (rd t118 (ji338)))) t105 t106 t107 t108 t112 t113 t114 t115) else (none)) else (none)) = some true := by first | (rw [hji338] at H; exact H) | (simp only [hji338] at H ⊢; exact H)
                   have hji338w : (IntKind.i64.wrap (x27_2 - 1)) = ji338 := (i64_w _).trans hji338
                   by_cases c339 : 0 ≤ (ji338)
                   ·rw [if_pos c339] at H
                    have c339b0 : decide (0 ≤ (ji338)) = true := decide_eq_true c339
                    clear c339
                    by_cases c340 : (ji338) < (t118.length : Int)
                    ·rw [if_pos c340] at H
                     have c340b0 : decide ((ji338) < (t118.length : Int)) = true := decide_eq_true c340
                     clear c340
                     have H' := Z3.k H
                     clear H
                     have p168 : 0 ≤ (x27_2 : Int) := of_decide_eq_true Z3.z58
                     have q168 : x27_2 < (t118.length : Int) := of_decide_eq_true Z3.z58
                     obtain ⟨ad168, e168, hx168_0⟩ := Kd.at_int (Kd.R_reads' HO_8.out).2.2 x27_2 p168 q168
                     cases e168
                     replace p168 := eq_true p168
                     replace q168 := eq_true q168
                     have p169 : 0 ≤ (x27_2 : Int) := of_decide_eq_true Z3.z58
                     have q169 : x27_2 < (t118.length : Int) := of_decide_eq_true Z3.z58
                     obtain ⟨ad169, e169, hx169_0⟩ := Kd.at_int (Kd.R_reads' HO_8.out).2.2 x27_2 p169 q169
                     obtain rfl : ad168 = ad169 := (by injection e169)
                     replace p169 := eq_true p169
                     replace q169 := eq_true q169
                     have hnb341 := NB111_122.out
                     have hnc341 := NB122_111.out
                     have hnb342 := NB111_133.out
                     have hnc342 := NB133_111.out
                     have hnb343 := NB111_141.out
                     have hnc343 := NB141_111.out
                     have hnb344 := NB111_153.out
                     have hnc344 := NB153_111.out
                     have hnb345 := NB111_163.out
                     have hnc345 := NB163_111.out
                     have hcz346_0 : wr.cell? ⟨gb111, 0, none⟩ = some (.int .i64 t105) := (blk_cell BK111.out 0).trans rfl
                     have hcz346_1 : wr.cell? ⟨gb111, 1, none⟩ = some (.int .i64 t106) := (blk_cell BK111.out 1).trans rfl
                     have hcz346_2 : wr.cell? ⟨gb111, 2, none⟩ = some (.int .i64 t107) := (blk_cell BK111.out 2).trans rfl
                     have hcz346_3 : wr.cell? ⟨gb111, 3, none⟩ = some (.slice Ao23 t108.length co23) := (blk_cell BK111.out 3).trans rfl
                     have hfz346_0 := blk_frozen BK111.out 0
                     have hfz346_1 := blk_frozen BK111.out 1
                     have hfz346_2 := blk_frozen BK111.out 2
                     have hfz346_3 := blk_frozen BK111.out 3
                     have p170 : 0 ≤ (x27_2 : Int) := of_decide_eq_true Z3.z58
                     have q170 : x27_2 < (t118.length : Int) := of_decide_eq_true Z3.z58
                     obtain ⟨ad170, e170, hx170_0⟩ := Kd.at_int (Kd.R_reads' HO_8.out).2.2 x27_2 p170 q170
                     obtain rfl : ad168 = ad170 := (by injection e170)
                     replace p170 := eq_true p170
                     replace q170 := eq_true q170
                     have p171 : 0 ≤ ((ji338) : Int) := of_decide_eq_true Z3.z58
                     have q171 : (ji338) < (t118.length : Int) := of_decide_eq_true Z3.z58
                     obtain ⟨ad171, e171, hx171_0⟩ := Kd.at_int (Kd.R_reads' HO_8.out).2.2 (ji338) p171 q171
                     obtain rfl : ad168 = ad171 := (by injection e171)
                     replace p171 := eq_true p171
                     replace q171 := eq_true q171
                     go_wp2
                     repeat (go_quiet (fail); try go_wp2)
                     go_meet
                     case rel => exact ⟨_, (decide ((rd t118 x27_2) ≤ (rd t118 (ji338)))), (by first | rfl | (simp; done) | (simp only [← hji338] <;> (first | rfl | simp)) | (simp [*]; done)), H', ⟨(by have := HJ17.out; have := HK2.out; first | omega | exact Nat.le_refl _)⟩, ⟨Z3.z71⟩, ⟨Z3.z70⟩, ⟨Z3.z69⟩, ⟨Z3.z68⟩, ⟨Z3.z67⟩, ⟨Z3.z66⟩, ⟨Z3.z65⟩, ⟨Z3.z0⟩, ⟨Z3.z1⟩, ⟨Z3.z7⟩, ⟨Z3.z8⟩, ⟨Z3.z29⟩, ⟨Z3.z38⟩, ⟨Z3.z2⟩⟩
                    rw [if_neg c340] at H
                    exact absurd H (by simp)
                   rw [if_neg c339] at H
                   exact absurd H (by simp)
                  rw [if_neg c337] at H
                  have c337b0 : decide (0 < x27_2) = false := decide_eq_false c337
                  clear c337
                  have H' := Z3.k H
                  clear H
                  have p168 : 0 ≤ (x27_2 : Int) := of_decide_eq_true Z3.z58
                  have q168 : x27_2 < (t118.length : Int) := of_decide_eq_true Z3.z58
                  obtain ⟨ad168, e168, hx168_0⟩ := Kd.at_int (Kd.R_reads' HO_8.out).2.2 x27_2 p168 q168
                  cases e168
                  replace p168 := eq_true p168
                  replace q168 := eq_true q168
                  have p169 : 0 ≤ (x27_2 : Int) := of_decide_eq_true Z3.z58
                  have q169 : x27_2 < (t118.length : Int) := of_decide_eq_true Z3.z58
                  obtain ⟨ad169, e169, hx169_0⟩ := Kd.at_int (Kd.R_reads' HO_8.out).2.2 x27_2 p169 q169
                  obtain rfl : ad168 = ad169 := (by injection e169)
                  replace p169 := eq_true p169
                  replace q169 := eq_true q169
                  have hnb347 := NB111_122.out
                  have hnc347 := NB122_111.out
                  have hnb348 := NB111_133.out
                  have hnc348 := NB133_111.out
                  have hnb349 := NB111_141.out
                  have hnc349 := NB141_111.out
                  have hnb350 := NB111_153.out
                  have hnc350 := NB153_111.out
                  have hnb351 := NB111_163.out
                  have hnc351 := NB163_111.out
                  have hcz352_0 : wr.cell? ⟨gb111, 0, none⟩ = some (.int .i64 t105) := (blk_cell BK111.out 0).trans rfl
                  have hcz352_1 : wr.cell? ⟨gb111, 1, none⟩ = some (.int .i64 t106) := (blk_cell BK111.out 1).trans rfl
                  have hcz352_2 : wr.cell? ⟨gb111, 2, none⟩ = some (.int .i64 t107) := (blk_cell BK111.out 2).trans rfl
                  have hcz352_3 : wr.cell? ⟨gb111, 3, none⟩ = some (.slice Ao23 t108.length co23) := (blk_cell BK111.out 3).trans rfl
                  have hfz352_0 := blk_frozen BK111.out 0
                  have hfz352_1 := blk_frozen BK111.out 1
                  have hfz352_2 := blk_frozen BK111.out 2
                  have hfz352_3 := blk_frozen BK111.out 3
                  go_wp2
                  repeat (go_quiet (fail); try go_wp2)
                  go_meet
                  case rel => exact ⟨_, (false), Z3.z105, H', ⟨(by have := HJ17.out; have := HK2.out; first | omega | exact Nat.le_refl _)⟩, ⟨Z3.z71⟩, ⟨Z3.z70⟩, ⟨Z3.z69⟩, ⟨Z3.z68⟩, ⟨Z3.z67⟩, ⟨Z3.z66⟩, ⟨Z3.z65⟩, ⟨Z3.z0⟩, ⟨Z3.z1⟩, ⟨Z3.z7⟩, ⟨Z3.z8⟩, ⟨Z3.z29⟩, ⟨Z3.z38⟩, ⟨Z3.z2⟩⟩
            rw [if_neg c328] at H
            exact absurd H (by simp)
           case rest =>
            clear HC326
            try clear c1
            try clear p1
            try clear q1
            try clear hx1
            try clear c2
            try clear p2
            try clear c3
            try clear c6
            try clear p6
            try clear c7
            try clear c8
            try clear c13
            try clear c14
            try clear c15
            try clear c16
            try clear p16
            try clear q16
            try clear hx16
            try clear c17
            try clear p17
            try clear q17
            try clear hx17
            try clear c18
            try clear c19
            try clear c20
            try clear c21
            try clear c22
            try clear c23
            try clear c24
            try clear c25
            try clear c26
            try clear c27
            try clear c28
            try clear c29
            try clear c30
            try clear c31
            try clear c32
            try clear c33
            try clear c34
            try clear c35
            try clear p64
            try clear c68
            try clear c68b0
            try clear c68b1
            try clear c69
            try clear c69b0
            try clear c69b1
            try clear c71
            try clear c73
            try clear c74
            try clear c74b0
            try clear c74b1
            try clear c75
            try clear c75b0
            try clear c75b1
            try clear c76
            try clear c76b0
            try clear c76b1
            try clear c77
            try clear c77b0
            try clear c77b1
            try clear c78
            try clear c78b0
            try clear c78b1
            try clear c79
            try clear c79b0
            try clear c79b1
            try clear c80
            try clear c80b0
            try clear c80b1
            try clear c81
            try clear c81b0
            try clear c81b1
            try clear c82
            try clear c82b0
            try clear c82b1
            try clear c83
            try clear c83b0
            try clear c83b1
            try clear c84
            try clear c84b0
            try clear c84b1
            try clear c134
            try clear c140
            try clear c141
            try clear c142
            try clear c144
            try clear c145
            try clear c146
            try clear c147
            try clear c148
            try clear c150
            try clear c151
            try clear c152
            try clear c153
            try clear c158
            try clear c159
            try clear c160
            try clear c161
            try clear c162
            try clear c164
            try clear c165
            try clear c166
            try clear c167
            try clear p168
            try clear q168
            try clear hx168
            try clear p169
            try clear q169
            try clear hx169
            try clear p170
            try clear q170
            try clear hx170
            try clear p171
            try clear q171
            try clear hx171
            try clear c172
            try clear c173
            try clear c174
            try clear c175
            try clear c176
            try clear c178
            try clear c179
            try clear c180
            try clear c181
            try clear c186
            try clear c187
            try clear c188
            try clear c189
            try clear c190
            try clear c192
            try clear c193
            try clear c194
            try clear c195
            try clear c200
            try clear c201
            try clear c202
            try clear c203
            try clear c204
            try clear c206
            try clear c207
            try clear c208
            try clear c209
            try clear c214
            try clear c215
            try clear c216
            try clear c217
            try clear c218
            try clear c220
            try clear c221
            try clear c222
            try clear c223
            try clear c228
            try clear c229
            try clear c230
            try clear c231
            try clear c232
            try clear c234
            try clear c235
            try clear c236
            try clear c237
            try clear c242
            try clear c243
            try clear c244
            try clear c245
            try clear c246
            try clear c248
            try clear c249
            try clear c250
            try clear c251
            try clear c256
            try clear c257
            try clear c258
            try clear c259
            try clear c260
            try clear c262
            try clear c263
            try clear c264
            try clear c265
            try clear c270
            try clear c271
            try clear c272
            try clear c273
            try clear c274
            try clear c276
            try clear c277
            try clear c278
            try clear c279
            try clear c284
            try clear c285
            try clear c286
            try clear c287
            try clear c288
            try clear c290
            try clear c291
            try clear c292
            try clear c293
            try clear c298
            try clear c299
            try clear c300
            try clear c301
            try clear c302
            try clear c304
            try clear c305
            try clear c306
            try clear c307
            try clear c312
            try clear c313
            try clear c314
            try clear c315
            try clear c316
            try clear c318
            try clear c319
            try clear c320
            try clear c321
            try clear c324
            try clear c325
            try clear c325b0
            try clear c328
            try clear c328b0
            try clear c329
            try clear c329b0
            try clear c330
            try clear c330b0
            try clear c331
            try clear c332
            try clear c333
            try clear c334
            try clear c335
            try clear c337
            try clear c337b0
            try clear c339
            try clear c339b0
            try clear c340
            try clear c340b0
            try clear c341
            try clear c342
            try clear c343
            try clear c344
            try clear c345
            try clear c347
            try clear c348
            try clear c349
            try clear c350
            try clear c351
            try clear hcz135_0
            try clear hcz135_1
            try clear hcz135_2
            try clear hcz135_3
            try clear hcz139_0
            try clear hcz139_1
            try clear hcz139_2
            try clear hcz139_3
            try clear hcz143_0
            try clear hcz143_1
            try clear hcz143_2
            try clear hcz143_3
            try clear hcz149_0
            try clear hcz149_1
            try clear hcz149_2
            try clear hcz149_3
            try clear hcz154_0
            try clear hcz154_1
            try clear hcz154_2
            try clear hcz154_3
            try clear hcz163_0
            try clear hcz163_1
            try clear hcz163_2
            try clear hcz163_3
            try clear hcz168_0
            try clear hcz168_1
            try clear hcz168_2
            try clear hcz168_3
            try clear hcz177_0
            try clear hcz177_1
            try clear hcz177_2
            try clear hcz177_3
            try clear hcz182_0
            try clear hcz182_1
            try clear hcz182_2
            try clear hcz182_3
            try clear hcz191_0
            try clear hcz191_1
            try clear hcz191_2
            try clear hcz191_3
            try clear hcz196_0
            try clear hcz196_1
            try clear hcz196_2
            try clear hcz196_3
            try clear hcz205_0
            try clear hcz205_1
            try clear hcz205_2
            try clear hcz205_3
            try clear hcz210_0
            try clear hcz210_1
            try clear hcz210_2
            try clear hcz210_3
            try clear hcz219_0
            try clear hcz219_1
            try clear hcz219_2
            try clear hcz219_3
            try clear hcz224_0
            try clear hcz224_1
            try clear hcz224_2
            try clear hcz224_3
            try clear hcz233_0
            try clear hcz233_1
            try clear hcz233_2
            try clear hcz233_3
            try clear hcz238_0
            try clear hcz238_1
            try clear hcz238_2
            try clear hcz238_3
            try clear hcz247_0
            try clear hcz247_1
            try clear hcz247_2
            try clear hcz247_3
            try clear hcz252_0
            try clear hcz252_1
            try clear hcz252_2
            try clear hcz252_3
            try clear hcz261_0
            try clear hcz261_1
            try clear hcz261_2
            try clear hcz261_3
            try clear hcz266_0
            try clear hcz266_1
            try clear hcz266_2
            try clear hcz266_3
            try clear hcz275_0
            try clear hcz275_1
            try clear hcz275_2
            try clear hcz275_3
            try clear hcz280_0
            try clear hcz280_1
            try clear hcz280_2
            try clear hcz280_3
            try clear hcz289_0
            try clear hcz289_1
            try clear hcz289_2
            try clear hcz289_3
            try clear hcz294_0
            try clear hcz294_1
            try clear hcz294_2
            try clear hcz294_3
            try clear hcz303_0
            try clear hcz303_1
            try clear hcz303_2
            try clear hcz303_3
            try clear hcz308_0
            try clear hcz308_1
            try clear hcz308_2
            try clear hcz308_3
            try clear hcz317_0
            try clear hcz317_1
            try clear hcz317_2
            try clear hcz317_3
            try clear hcz322_0
            try clear hcz322_1
            try clear hcz322_2
            try clear hcz322_3
            try clear hcz336_0
            try clear hcz336_1
            try clear hcz336_2
            try clear hcz336_3
            try clear hcz346_0
            try clear hcz346_1
            try clear hcz346_2
            try clear hcz346_3
            try clear hcz352_0
            try clear hcz352_1
            try clear hcz352_2
            try clear hcz352_3
            try clear hfz135_0
            try clear hfz135_1
            try clear hfz135_2
            try clear hfz135_3
            try clear hfz139_0
            try clear hfz139_1
            try clear hfz139_2
            try clear hfz139_3
            try clear hfz143_0
            try clear hfz143_1
            try clear hfz143_2
            try clear hfz143_3
            try clear hfz149_0
            try clear hfz149_1
            try clear hfz149_2
            try clear hfz149_3
            try clear hfz154_0
            try clear hfz154_1
            try clear hfz154_2
            try clear hfz154_3
            try clear hfz163_0
            try clear hfz163_1
            try clear hfz163_2
            try clear hfz163_3
            try clear hfz168_0
            try clear hfz168_1
            try clear hfz168_2
            try clear hfz168_3
            try clear hfz177_0
            try clear hfz177_1
            try clear hfz177_2
            try clear hfz177_3
            try clear hfz182_0
            try clear hfz182_1
            try clear hfz182_2
            try clear hfz182_3
            try clear hfz191_0
            try clear hfz191_1
            try clear hfz191_2
            try clear hfz191_3
            try clear hfz196_0
            try clear hfz196_1
            try clear hfz196_2
            try clear hfz196_3
            try clear hfz205_0
            try clear hfz205_1
            try clear hfz205_2
            try clear hfz205_3
            try clear hfz210_0
            try clear hfz210_1
            try clear hfz210_2
            try clear hfz210_3
            try clear hfz219_0
            try clear hfz219_1
            try clear hfz219_2
            try clear hfz219_3
            try clear hfz224_0
            try clear hfz224_1
            try clear hfz224_2
            try clear hfz224_3
            try clear hfz233_0
            try clear hfz233_1
            try clear hfz233_2
            try clear hfz233_3
            try clear hfz238_0
            try clear hfz238_1
            try clear hfz238_2
            try clear hfz238_3
            try clear hfz247_0
            try clear hfz247_1
            try clear hfz247_2
            try clear hfz247_3
            try clear hfz252_0
            try clear hfz252_1
            try clear hfz252_2
            try clear hfz252_3
            try clear hfz261_0
            try clear hfz261_1
            try clear hfz261_2
            try clear hfz261_3
            try clear hfz266_0
            try clear hfz266_1
            try clear hfz266_2
            try clear hfz266_3
            try clear hfz275_0
            try clear hfz275_1
            try clear hfz275_2
            try clear hfz275_3
            try clear hfz280_0
            try clear hfz280_1
            try clear hfz280_2
            try clear hfz280_3
            try clear hfz289_0
            try clear hfz289_1
            try clear hfz289_2
            try clear hfz289_3
            try clear hfz294_0
            try clear hfz294_1
            try clear hfz294_2
            try clear hfz294_3
            try clear hfz303_0
            try clear hfz303_1
            try clear hfz303_2
            try clear hfz303_3
            try clear hfz308_0
            try clear hfz308_1
            try clear hfz308_2
            try clear hfz308_3
            try clear hfz317_0
            try clear hfz317_1
            try clear hfz317_2
            try clear hfz317_3
            try clear hfz322_0
            try clear hfz322_1
            try clear hfz322_2
            try clear hfz322_3
            try clear hfz336_0
            try clear hfz336_1
            try clear hfz336_2
            try clear hfz336_3
            try clear hfz346_0
            try clear hfz346_1
            try clear hfz346_2
            try clear hfz346_3
            try clear hfz352_0
            try clear hfz352_1
            try clear hfz352_2
            try clear hfz352_3
            try clear hx168_0
            try clear hx169_0
            try clear hx170_0
            try clear hx171_0
            try clear p168
            try clear p169
            try clear p170
            try clear p171
            try clear p2
            try clear q168
            try clear q169
            try clear q170
            try clear q171
            obtain ⟨kq, x218_325, rfl, HA, HJ325, HO_8, HO_112003, HO_123003, HO_134003, HO_142003, HO_154003, HO_164003, BK111, BK122, BK133, BK141, BK153, BK163, HB⟩ := hcut
            cases kq with
            | zero => exact absurd HA.out (by simp [laws_FnReduced.j2])
            | succ kj325 =>
             have H := HA.out
             clear HA
             simp only [laws_FnReduced.j2] at H
             by_cases c353 : x218_325 = true
             ·subst c353
              have H1 : (some false) = some true := by rw [if_pos rfl] at H; exact H
              exact absurd H1 (by simp)
             ·as_aux_lemma =>
               replace c353 := Bool.eq_false_iff.mpr c353
               subst c353
               have H1 : (laws_FnReduced.l1 kj325 t118 t142 x27_2 0 t105 t106 t107 t108 t112 t113 t114 t115) = some true := by rw [if_neg (show ¬ (false = true) by decide)] at H; exact H
               clear H
               have H := H1
               clear H1
               have H' := Z3.k H
               clear H
               go_wp2
               repeat (go_quiet (fail); try go_wp2)
               go_loopg [28] kj325 (fun kq v28 w' => ∃ (x28_4 : Int), v28 = .int .i64 x28_4 ∧ Aside0 (laws_FnReduced.l1 kq t118 t142 x27_2 x28_4 t105 t106 t107 t108 t112 t113 t114 t115 = some true) ∧ Aside0 (kq ≤ kj325) ∧ Aside0 (Kd.R (Kd.int .i64) 2 w' w.heap.size (fun k_ => some k_ ≠ ((.slice Ao23 t108.length co23) : Value).ownBlock ∧ some k_ ≠ ((.slice Ao28 t115.length co28) : Value).ownBlock ∧ some k_ ≠ ((.slice Ao34 t126.length co34) : Value).ownBlock ∧ some k_ ≠ ((.slice Ao42 t137.length co42) : Value).ownBlock ∧ some k_ ≠ ((.slice Ao55 t149.length co55) : Value).ownBlock ∧ some k_ ≠ ((.slice Ao66 t159.length co66) : Value).ownBlock) (.slice Ao327 t118.length co327) t118) ∧ Aside0 (Kd.R (Kd.int .i64) 2 w' w.heap.size (fun k_ => some k_ ≠ ((.slice Ao327 t118.length co327) : Value).ownBlock ∧ some k_ ≠ ((.slice Ao28 t115.length co28) : Value).ownBlock ∧ some k_ ≠ ((.slice Ao34 t126.length co34) : Value).ownBlock ∧ some k_ ≠ ((.slice Ao42 t137.length co42) : Value).ownBlock ∧ some k_ ≠ ((.slice Ao55 t149.length co55) : Value).ownBlock ∧ some k_ ≠ ((.slice Ao66 t159.length co66) : Value).ownBlock) (.slice Ao23 t108.length co23) t108) ∧ Aside0 (Kd.R (Kd.int .i64) 2 w' w.heap.size (fun k_ => some k_ ≠ ((.slice Ao327 t118.length co327) : Value).ownBlock ∧ some k_ ≠ ((.slice Ao23 t108.length co23) : Value).ownBlock ∧ some k_ ≠ ((.slice Ao34 t126.length co34) : Value).ownBlock ∧ some k_ ≠ ((.slice Ao42 t137.length co42) : Value).ownBlock ∧ some k_ ≠ ((.slice Ao55 t149.length co55) : Value).ownBlock ∧ some k_ ≠ ((.slice Ao66 t159.length co66) : Value).ownBlock) (.slice Ao28 t115.length co28) t115) ∧ Aside0 (Kd.R (Kd.int .i64) 2 w' w.heap.size (fun k_ => some k_ ≠ ((.slice Ao327 t118.length co327) : Value).ownBlock ∧ some k_ ≠ ((.slice Ao23 t108.length co23) : Value).ownBlock ∧ some k_ ≠ ((.slice Ao28 t115.length co28) : Value).ownBlock ∧ some k_ ≠ ((.slice Ao42 t137.length co42) : Value).ownBlock ∧ some k_ ≠ ((.slice Ao55 t149.length co55) : Value).ownBlock ∧ some k_ ≠ ((.slice Ao66 t159.length co66) : Value).ownBlock) (.slice Ao34 t126.length co34) t126) ∧ Aside0 (Kd.R (Kd.int .i64) 2 w' w.heap.size (fun k_ => some k_ ≠ ((.slice Ao327 t118.length co327) : Value).ownBlock ∧ some k_ ≠ ((.slice Ao23 t108.length co23) : Value).ownBlock ∧ some k_ ≠ ((.slice Ao28 t115.length co28) : Value).ownBlock ∧ some k_ ≠ ((.slice Ao34 t126.length co34) : Value).ownBlock ∧ some k_ ≠ ((.slice Ao55 t149.length co55) : Value).ownBlock ∧ some k_ ≠ ((.slice Ao66 t159.length co66) : Value).ownBlock) (.slice Ao42 t137.length co42) t137) ∧ Aside0 (Kd.R (Kd.int .i64) 2 w' w.heap.size (fun k_ => some k_ ≠ ((.slice Ao327 t118.length co327) : Value).ownBlock ∧ some k_ ≠ ((.slice Ao23 t108.length co23) : Value).ownBlock ∧ some k_ ≠ ((.slice Ao28 t115.length co28) : Value).ownBlock ∧ some k_ ≠ ((.slice Ao34 t126.length co34) : Value).ownBlock ∧ some k_ ≠ ((.slice Ao42 t137.length co42) : Value).ownBlock ∧ some k_ ≠ ((.slice Ao66 t159.length co66) : Value).ownBlock) (.slice Ao55 t149.length co55) t149) ∧ Aside0 (Kd.R (Kd.int .i64) 2 w' w.heap.size (fun k_ => some k_ ≠ ((.slice Ao327 t118.length co327) : Value).ownBlock ∧ some k_ ≠ ((.slice Ao23 t108.length co23) : Value).ownBlock ∧ some k_ ≠ ((.slice Ao28 t115.length co28) : Value).ownBlock ∧ some k_ ≠ ((.slice Ao34 t126.length co34) : Value).ownBlock ∧ some k_ ≠ ((.slice Ao42 t137.length co42) : Value).ownBlock ∧ some k_ ≠ ((.slice Ao55 t149.length co55) : Value).ownBlock) (.slice Ao66 t159.length co66) t159) ∧ Aside0 (w'.heap[gb111]? = some (.cells #[.int .i64 t105, .int .i64 t106, .int .i64 t107, (.slice Ao23 t108.length co23)] 27 (0, 0))) ∧ Aside0 (w'.heap[gb122]? = some (.cells #[.int .i64 t112, .int .i64 t113, .int .i64 t114, (.slice Ao28 t115.length co28)] 27 (0, 0))) ∧ Aside0 (w'.heap[gb133]? = some (.cells #[.int .i64 t123, .int .i64 t124, .int .i64 t125, (.slice Ao34 t126.length co34)] 27 (0, 0))) ∧ Aside0 (w'.heap[gb141]? = some (.cells #[.int .i64 t134, .int .i64 t135, .int .i64 t136, (.slice Ao42 t137.length co42)] 27 (0, 0))) ∧ Aside0 (w'.heap[gb153]? = some (.cells #[.int .i64 t146, .int .i64 t147, .int .i64 t148, (.slice Ao55 t149.length co55)] 27 (0, 0))) ∧ Aside0 (w'.heap[gb163]? = some (.cells #[.int .i64 t156, .int .i64 t157, .int .i64 t158, (.slice Ao66 t159.length co66)] 27 (0, 0))) ∧ Aside0 (Below w.heap.size w w'))
               case atStart => exact ⟨(0), Z3.z105, H', ⟨Nat.le_refl _⟩, ⟨Z3.z71⟩, ⟨Z3.z70⟩, ⟨Z3.z69⟩, ⟨Z3.z68⟩, ⟨Z3.z67⟩, ⟨Z3.z66⟩, ⟨Z3.z65⟩, ⟨Z3.z0⟩, ⟨Z3.z1⟩, ⟨Z3.z7⟩, ⟨Z3.z8⟩, ⟨Z3.z29⟩, ⟨Z3.z38⟩, ⟨Z3.z2⟩⟩
               case round =>
                clear H'
                try clear c1
                try clear p1
                try clear q1
                try clear hx1
                try clear c2
                try clear p2
                try clear c3
                try clear c6
                try clear p6
                try clear c7
                try clear c8
                try clear c13
                try clear c14
                try clear c15
                try clear c16
                try clear p16
                try clear q16
                try clear hx16
                try clear c17
                try clear p17
                try clear q17
                try clear hx17
                try clear c18
                try clear c19
                try clear c20
                try clear c21
                try clear c22
                try clear c23
                try clear c24
                try clear c25
                try clear c26
                try clear c27
                try clear c28
                try clear c29
                try clear c30
                try clear c31
                try clear c32
                try clear c33
                try clear c34
                try clear c35
                try clear p64
                try clear c68
                try clear c68b0
                try clear c68b1
                try clear c69
                try clear c69b0
                try clear c69b1
                try clear c71
                try clear c73
                try clear c74
                try clear c74b0
                try clear c74b1
                try clear c75
                try clear c75b0
                try clear c75b1
                try clear c76
                try clear c76b0
                try clear c76b1
                try clear c77
                try clear c77b0
                try clear c77b1
                try clear c78
                try clear c78b0
                try clear c78b1
                try clear c79
                try clear c79b0
                try clear c79b1
                try clear c80
                try clear c80b0
                try clear c80b1
                try clear c81
                try clear c81b0
                try clear c81b1
                try clear c82
                try clear c82b0
                try clear c82b1
                try clear c83
                try clear c83b0
                try clear c83b1
                try clear c84
                try clear c84b0
                try clear c84b1
                try clear c134
                try clear c140
                try clear c141
                try clear c142
                try clear c144
                try clear c145
                try clear c146
                try clear c147
                try clear c148
                try clear c150
                try clear c151
                try clear c152
                try clear c153
                try clear c158
                try clear c159
                try clear c160
                try clear c161
                try clear c162
                try clear c164
                try clear c165
                try clear c166
                try clear c167
                try clear p168
                try clear q168
                try clear hx168
                try clear p169
                try clear q169
                try clear hx169
                try clear p170
                try clear q170
                try clear hx170
                try clear p171
                try clear q171
                try clear hx171
                try clear c172
                try clear c173
                try clear c174
                try clear c175
                try clear c176
                try clear c178
                try clear c179
                try clear c180
                try clear c181
                try clear c186
                try clear c187
                try clear c188
                try clear c189
                try clear c190
                try clear c192
                try clear c193
                try clear c194
                try clear c195
                try clear c200
                try clear c201
                try clear c202
                try clear c203
                try clear c204
                try clear c206
                try clear c207
                try clear c208
                try clear c209
                try clear c214
                try clear c215
                try clear c216
                try clear c217
                try clear c218
                try clear c220
                try clear c221
                try clear c222
                try clear c223
                try clear c228
                try clear c229
                try clear c230
                try clear c231
                try clear c232
                try clear c234
                try clear c235
                try clear c236
                try clear c237
                try clear c242
                try clear c243
                try clear c244
                try clear c245
                try clear c246
                try clear c248
                try clear c249
                try clear c250
                try clear c251
                try clear c256
                try clear c257
                try clear c258
                try clear c259
                try clear c260
                try clear c262
                try clear c263
                try clear c264
                try clear c265
                try clear c270
                try clear c271
                try clear c272
                try clear c273
                try clear c274
                try clear c276
                try clear c277
                try clear c278
                try clear c279
                try clear c284
                try clear c285
                try clear c286
                try clear c287
                try clear c288
                try clear c290
                try clear c291
                try clear c292
                try clear c293
                try clear c298
                try clear c299
                try clear c300
                try clear c301
                try clear c302
                try clear c304
                try clear c305
                try clear c306
                try clear c307
                try clear c312
                try clear c313
                try clear c314
                try clear c315
                try clear c316
                try clear c318
                try clear c319
                try clear c320
                try clear c321
                try clear c324
                try clear c325
                try clear c325b0
                try clear c328
                try clear c328b0
                try clear c329
                try clear c329b0
                try clear c330
                try clear c330b0
                try clear c331
                try clear c332
                try clear c333
                try clear c334
                try clear c335
                try clear c337
                try clear c337b0
                try clear c339
                try clear c339b0
                try clear c340
                try clear c340b0
                try clear c341
                try clear c342
                try clear c343
                try clear c344
                try clear c345
                try clear c347
                try clear c348
                try clear c349
                try clear c350
                try clear c351
                try clear c353
                try clear hcz135_0
                try clear hcz135_1
                try clear hcz135_2
                try clear hcz135_3
                try clear hcz139_0
                try clear hcz139_1
                try clear hcz139_2
                try clear hcz139_3
                try clear hcz143_0
                try clear hcz143_1
                try clear hcz143_2
                try clear hcz143_3
                try clear hcz149_0
                try clear hcz149_1
                try clear hcz149_2
                try clear hcz149_3
                try clear hcz154_0
                try clear hcz154_1
                try clear hcz154_2
                try clear hcz154_3
                try clear hcz163_0
                try clear hcz163_1
                try clear hcz163_2
                try clear hcz163_3
                try clear hcz168_0
                try clear hcz168_1
                try clear hcz168_2
                try clear hcz168_3
                try clear hcz177_0
                try clear hcz177_1
                try clear hcz177_2
                try clear hcz177_3
                try clear hcz182_0
                try clear hcz182_1
                try clear hcz182_2
                try clear hcz182_3
                try clear hcz191_0
                try clear hcz191_1
                try clear hcz191_2
                try clear hcz191_3
                try clear hcz196_0
                try clear hcz196_1
                try clear hcz196_2
                try clear hcz196_3
                try clear hcz205_0
                try clear hcz205_1
                try clear hcz205_2
                try clear hcz205_3
                try clear hcz210_0
                try clear hcz210_1
                try clear hcz210_2
                try clear hcz210_3
                try clear hcz219_0
                try clear hcz219_1
                try clear hcz219_2
                try clear hcz219_3
                try clear hcz224_0
                try clear hcz224_1
                try clear hcz224_2
                try clear hcz224_3
                try clear hcz233_0
                try clear hcz233_1
                try clear hcz233_2
                try clear hcz233_3
                try clear hcz238_0
                try clear hcz238_1
                try clear hcz238_2
                try clear hcz238_3
                try clear hcz247_0
                try clear hcz247_1
                try clear hcz247_2
                try clear hcz247_3
                try clear hcz252_0
                try clear hcz252_1
                try clear hcz252_2
                try clear hcz252_3
                try clear hcz261_0
                try clear hcz261_1
                try clear hcz261_2
                try clear hcz261_3
                try clear hcz266_0
                try clear hcz266_1
                try clear hcz266_2
                try clear hcz266_3
                try clear hcz275_0
                try clear hcz275_1
                try clear hcz275_2
                try clear hcz275_3
                try clear hcz280_0
                try clear hcz280_1
                try clear hcz280_2
                try clear hcz280_3
                try clear hcz289_0
                try clear hcz289_1
                try clear hcz289_2
                try clear hcz289_3
                try clear hcz294_0
                try clear hcz294_1
                try clear hcz294_2
                try clear hcz294_3
                try clear hcz303_0
                try clear hcz303_1
                try clear hcz303_2
                try clear hcz303_3
                try clear hcz308_0
                try clear hcz308_1
                try clear hcz308_2
                try clear hcz308_3
                try clear hcz317_0
                try clear hcz317_1
                try clear hcz317_2
                try clear hcz317_3
                try clear hcz322_0
                try clear hcz322_1
                try clear hcz322_2
                try clear hcz322_3
                try clear hcz336_0
                try clear hcz336_1
                try clear hcz336_2
                try clear hcz336_3
                try clear hcz346_0
                try clear hcz346_1
                try clear hcz346_2
                try clear hcz346_3
                try clear hcz352_0
                try clear hcz352_1
                try clear hcz352_2
                try clear hcz352_3
                try clear hfz135_0
                try clear hfz135_1
                try clear hfz135_2
                try clear hfz135_3
                try clear hfz139_0
                try clear hfz139_1
                try clear hfz139_2
                try clear hfz139_3
                try clear hfz143_0
                try clear hfz143_1
                try clear hfz143_2
                try clear hfz143_3
                try clear hfz149_0
                try clear hfz149_1
                try clear hfz149_2
                try clear hfz149_3
                try clear hfz154_0
                try clear hfz154_1
                try clear hfz154_2
                try clear hfz154_3
                try clear hfz163_0
                try clear hfz163_1
                try clear hfz163_2
                try clear hfz163_3
                try clear hfz168_0
                try clear hfz168_1
                try clear hfz168_2
                try clear hfz168_3
                try clear hfz177_0
                try clear hfz177_1
                try clear hfz177_2
                try clear hfz177_3
                try clear hfz182_0
                try clear hfz182_1
                try clear hfz182_2
                try clear hfz182_3
                try clear hfz191_0
                try clear hfz191_1
                try clear hfz191_2
                try clear hfz191_3
                try clear hfz196_0
                try clear hfz196_1
                try clear hfz196_2
                try clear hfz196_3
                try clear hfz205_0
                try clear hfz205_1
                try clear hfz205_2
                try clear hfz205_3
                try clear hfz210_0
                try clear hfz210_1
                try clear hfz210_2
                try clear hfz210_3
                try clear hfz219_0
                try clear hfz219_1
                try clear hfz219_2
                try clear hfz219_3
                try clear hfz224_0
                try clear hfz224_1
                try clear hfz224_2
                try clear hfz224_3
                try clear hfz233_0
                try clear hfz233_1
                try clear hfz233_2
                try clear hfz233_3
                try clear hfz238_0
                try clear hfz238_1
                try clear hfz238_2
                try clear hfz238_3
                try clear hfz247_0
                try clear hfz247_1
                try clear hfz247_2
                try clear hfz247_3
                try clear hfz252_0
                try clear hfz252_1
                try clear hfz252_2
                try clear hfz252_3
                try clear hfz261_0
                try clear hfz261_1
                try clear hfz261_2
                try clear hfz261_3
                try clear hfz266_0
                try clear hfz266_1
                try clear hfz266_2
                try clear hfz266_3
                try clear hfz275_0
                try clear hfz275_1
                try clear hfz275_2
                try clear hfz275_3
                try clear hfz280_0
                try clear hfz280_1
                try clear hfz280_2
                try clear hfz280_3
                try clear hfz289_0
                try clear hfz289_1
                try clear hfz289_2
                try clear hfz289_3
                try clear hfz294_0
                try clear hfz294_1
                try clear hfz294_2
                try clear hfz294_3
                try clear hfz303_0
                try clear hfz303_1
                try clear hfz303_2
                try clear hfz303_3
                try clear hfz308_0
                try clear hfz308_1
                try clear hfz308_2
                try clear hfz308_3
                try clear hfz317_0
                try clear hfz317_1
                try clear hfz317_2
                try clear hfz317_3
                try clear hfz322_0
                try clear hfz322_1
                try clear hfz322_2
                try clear hfz322_3
                try clear hfz336_0
                try clear hfz336_1
                try clear hfz336_2
                try clear hfz336_3
                try clear hfz346_0
                try clear hfz346_1
                try clear hfz346_2
                try clear hfz346_3
                try clear hfz352_0
                try clear hfz352_1
                try clear hfz352_2
                try clear hfz352_3
                try clear hx168_0
                try clear hx169_0
                try clear hx170_0
                try clear hx171_0
                try clear p1
                try clear p16
                try clear p168
                try clear p169
                try clear p17
                try clear p170
                try clear p171
                try clear p2
                try clear p6
                try clear p64
                try clear q1
                try clear q16
                try clear q168
                try clear q169
                try clear q17
                try clear q170
                try clear q171
                obtain ⟨x28_4, rfl, HA, HK4, HO_8, HO_112003, HO_123003, HO_134003, HO_142003, HO_154003, HO_164003, BK111, BK122, BK133, BK141, BK153, BK163, HB⟩ := hrel
                cases gk with
                | zero => exact absurd HA.out (by simp [laws_FnReduced.l1])
                | succ k4 =>
                 have H := HA.out
                 clear HA
                 simp only [laws_FnReduced.l1] at H
                 by_cases c354 : x28_4 < t106
                 ·as_aux_lemma =>
                   rw [if_pos c354] at H
                   have c354b0 : decide (x28_4 < t106) = true := decide_eq_true c354
                   clear c354
                   by_cases c355 : 0 ≤ x27_2
                   ·as_aux_lemma =>
                     rw [if_pos c355] at H
                     have c355b0 : decide (0 ≤ x27_2) = true := decide_eq_true c355
                     clear c355
                     by_cases c356 : x27_2 < (t118.length : Int)
                     ·as_aux_lemma =>
                       rw [if_pos c356] at H
                       have c356b0 : decide (x27_2 < (t118.length : Int)) = true := decide_eq_true c356
                       clear c356
                       obtain ⟨ji357, hji357⟩ : ∃ j_ : Int, (wrap64 ((wrap64 (x28_4 * t107)) + (rd t118 x27_2))) = j_ := ⟨_, rfl⟩
                       replace H : (if 0 ≤ (ji357) then (if (ji357) < (t115.length : Int) then (if x28_4 = x27_2 then (if (rd t115 (ji357)) = 1 then (laws_FnReduced.l1 k4 t118 t142 x27_2 (wrap64 (x28_4 + 1)) t105 t106 t107 t108 t112 t113 t114 t115) else (some false)) else (if (rd t115 (ji357)) = 0 then (laws_FnReduced.l1 k4 t118 t142 x27_2 (wrap64 (x28_4 + 1)) t105 t106 t107 t108 t112 t113 t114 t115) else (some false))) else (none)) else (none)) = some true := by first | (rw [hji357] at H; exact H) | (simp only [hji357] at H ⊢; exact H)
                       have hji357w : (IntKind.i64.wrap ((wrap64 (x28_4 * t107)) + (rd t118 x27_2))) = ji357 := (i64_w _).trans hji357
                       by_cases c358 : 0 ≤ (ji357)
                       ·as_aux_lemma =>
                         rw [if_pos c358] at H
                         have c358b0 : decide (0 ≤ (ji357)) = true := decide_eq_true c358
                         clear c358
                         by_cases c359 : (ji357) < (t115.length : Int)
                         ·as_aux_lemma =>
                           rw [if_pos c359] at H
                           have c359b0 : decide ((ji357) < (t115.length : Int)) = true := decide_eq_true c359
                           clear c359
                           by_cases c360 : x28_4 = x27_2
                           ·as_aux_lemma =>
                             rw [if_pos c360] at H
                             have c360b0 : (x28_4 == x27_2) = true := beq_iff_eq.mpr c360
                             have c360b1 : (x28_4 != x27_2) = false := bne_eq_false_iff_eq.mpr c360
                             clear c360
                             by_cases c361 : (rd t115 (ji357)) = 1
                             ·rw [if_pos c361] at H
                              have c361b0 : ((rd t115 (ji357)) == 1) = true := beq_iff_eq.mpr c361
                              have c361b1 : ((rd t115 (ji357)) != 1) = false := bne_eq_false_iff_eq.mpr c361
                              clear c361
                              have H' := Z3.k H
                              clear H
                              have hnb362 := NB111_122.out
                              have hnc362 := NB122_111.out
                              have hnb363 := NB111_133.out
                              have hnc363 := NB133_111.out
                              have hnb364 := NB111_141.out
                              have hnc364 := NB141_111.out
                              have hnb365 := NB111_153.out
                              have hnc365 := NB153_111.out
                              have hnb366 := NB111_163.out
                              have hnc366 := NB163_111.out
                              have hcz367_0 : wr.cell? ⟨gb111, 0, none⟩ = some (.int .i64 t105) := (blk_cell BK111.out 0).trans rfl
                              have hcz367_1 : wr.cell? ⟨gb111, 1, none⟩ = some (.int .i64 t106) := (blk_cell BK111.out 1).trans rfl
                              have hcz367_2 : wr.cell? ⟨gb111, 2, none⟩ = some (.int .i64 t107) := (blk_cell BK111.out 2).trans rfl
                              have hcz367_3 : wr.cell? ⟨gb111, 3, none⟩ = some (.slice Ao23 t108.length co23) := (blk_cell BK111.out 3).trans rfl
                              have hfz367_0 := blk_frozen BK111.out 0
                              have hfz367_1 := blk_frozen BK111.out 1
                              have hfz367_2 := blk_frozen BK111.out 2
                              have hfz367_3 := blk_frozen BK111.out 3
                              have hnb368 := NB122_133.out
                              have hnc368 := NB133_122.out
                              have hnb369 := NB122_141.out
                              have hnc369 := NB141_122.out
                              have hnb370 := NB122_153.out
                              have hnc370 := NB153_122.out
                              have hnb371 := NB122_163.out
                              have hnc371 := NB163_122.out
                              have hcz372_0 : wr.cell? ⟨gb122, 0, none⟩ = some (.int .i64 t112) := (blk_cell BK122.out 0).trans rfl
                              have hcz372_1 : wr.cell? ⟨gb122, 1, none⟩ = some (.int .i64 t113) := (blk_cell BK122.out 1).trans rfl
                              have hcz372_2 : wr.cell? ⟨gb122, 2, none⟩ = some (.int .i64 t114) := (blk_cell BK122.out 2).trans rfl
                              have hcz372_3 : wr.cell? ⟨gb122, 3, none⟩ = some (.slice Ao28 t115.length co28) := (blk_cell BK122.out 3).trans rfl
                              have hfz372_0 := blk_frozen BK122.out 0
                              have hfz372_1 := blk_frozen BK122.out 1
                              have hfz372_2 := blk_frozen BK122.out 2
                              have hfz372_3 := blk_frozen BK122.out 3
                              have p172 : 0 ≤ (x27_2 : Int) := of_decide_eq_true Z3.z58
                              have q172 : x27_2 < (t118.length : Int) := of_decide_eq_true Z3.z58
                              obtain ⟨ad172, e172, hx172_0⟩ := Kd.at_int (Kd.R_reads' HO_8.out).2.2 x27_2 p172 q172
                              cases e172
                              replace p172 := eq_true p172
                              replace q172 := eq_true q172
                              have p173 : 0 ≤ ((ji357) : Int) := of_decide_eq_true Z3.z58
                              have q173 : (ji357) < (t115.length : Int) := of_decide_eq_true Z3.z58
                              obtain ⟨ad173, e173, hx173_0⟩ := Kd.at_int (Kd.R_reads' HO_123003.out).2.2 (ji357) p173 q173
                              cases e173
                              replace p173 := eq_true p173
                              replace q173 := eq_true q173
                              go_wp2
                              repeat (go_quiet (fail); try go_wp2)
                              go_roundg k4
                              case measure => have := HJ17.out; have := HK2.out; have := HJ325.out; have := HK4.out; omega
                              case rel => exact ⟨(wrap64 (x28_4 + 1)), Z3.z105, H', ⟨Z3.z110⟩, ⟨Z3.z71⟩, ⟨Z3.z70⟩, ⟨Z3.z69⟩, ⟨Z3.z68⟩, ⟨Z3.z67⟩, ⟨Z3.z66⟩, ⟨Z3.z65⟩, ⟨Z3.z0⟩, ⟨Z3.z1⟩, ⟨Z3.z7⟩, ⟨Z3.z8⟩, ⟨Z3.z29⟩, ⟨Z3.z38⟩, ⟨Z3.z2⟩⟩
                             rw [if_neg c361] at H
                             have c361b0 : ((rd t115 (ji357)) == 1) = false := beq_eq_false_iff_ne.mpr c361
                             have c361b1 : ((rd t115 (ji357)) != 1) = true := bne_iff_ne.mpr c361
                             first | exact absurd H (by decide) | obtain rfl := Option.some.inj H | have hd_ := Option.some.inj H
                             all_goals
                              have hnb373 := NB111_122.out
                              have hnc373 := NB122_111.out
                              have hnb374 := NB111_133.out
                              have hnc374 := NB133_111.out
                              have hnb375 := NB111_141.out
                              have hnc375 := NB141_111.out
                              have hnb376 := NB111_153.out
                              have hnc376 := NB153_111.out
                              have hnb377 := NB111_163.out
                              have hnc377 := NB163_111.out
                              have hcz378_0 : wr.cell? ⟨gb111, 0, none⟩ = some (.int .i64 t105) := (blk_cell BK111.out 0).trans rfl
                              have hcz378_1 : wr.cell? ⟨gb111, 1, none⟩ = some (.int .i64 t106) := (blk_cell BK111.out 1).trans rfl
                              have hcz378_2 : wr.cell? ⟨gb111, 2, none⟩ = some (.int .i64 t107) := (blk_cell BK111.out 2).trans rfl
                              have hcz378_3 : wr.cell? ⟨gb111, 3, none⟩ = some (.slice Ao23 t108.length co23) := (blk_cell BK111.out 3).trans rfl
                              have hfz378_0 := blk_frozen BK111.out 0
                              have hfz378_1 := blk_frozen BK111.out 1
                              have hfz378_2 := blk_frozen BK111.out 2
                              have hfz378_3 := blk_frozen BK111.out 3
                              have hnb379 := NB122_133.out
                              have hnc379 := NB133_122.out
                              have hnb380 := NB122_141.out
                              have hnc380 := NB141_122.out
                              have hnb381 := NB122_153.out
                              have hnc381 := NB153_122.out
                              have hnb382 := NB122_163.out
                              have hnc382 := NB163_122.out
                              have hcz383_0 : wr.cell? ⟨gb122, 0, none⟩ = some (.int .i64 t112) := (blk_cell BK122.out 0).trans rfl
                              have hcz383_1 : wr.cell? ⟨gb122, 1, none⟩ = some (.int .i64 t113) := (blk_cell BK122.out 1).trans rfl
                              have hcz383_2 : wr.cell? ⟨gb122, 2, none⟩ = some (.int .i64 t114) := (blk_cell BK122.out 2).trans rfl
                              have hcz383_3 : wr.cell? ⟨gb122, 3, none⟩ = some (.slice Ao28 t115.length co28) := (blk_cell BK122.out 3).trans rfl
                              have hfz383_0 := blk_frozen BK122.out 0
                              have hfz383_1 := blk_frozen BK122.out 1
                              have hfz383_2 := blk_frozen BK122.out 2
                              have hfz383_3 := blk_frozen BK122.out 3
                              have p172 : 0 ≤ (x27_2 : Int) := of_decide_eq_true Z3.z58
                              have q172 : x27_2 < (t118.length : Int) := of_decide_eq_true Z3.z58
                              obtain ⟨ad172, e172, hx172_0⟩ := Kd.at_int (Kd.R_reads' HO_8.out).2.2 x27_2 p172 q172
                              cases e172
                              replace p172 := eq_true p172
                              replace q172 := eq_true q172
                              have p173 : 0 ≤ ((ji357) : Int) := of_decide_eq_true Z3.z58
                              have q173 : (ji357) < (t115.length : Int) := of_decide_eq_true Z3.z58
                              obtain ⟨ad173, e173, hx173_0⟩ := Kd.at_int (Kd.R_reads' HO_123003.out).2.2 (ji357) p173 q173
                              cases e173
                              replace p173 := eq_true p173
                              replace q173 := eq_true q173
                              go_wp2
                              repeat (go_quiet (fail); try go_wp2)
                              go_ret
                              exact ⟨Z3.z109, Z3.z2⟩
                           ·as_aux_lemma =>
                             rw [if_neg c360] at H
                             have c360b0 : (x28_4 == x27_2) = false := beq_eq_false_iff_ne.mpr c360
                             have c360b1 : (x28_4 != x27_2) = true := bne_iff_ne.mpr c360
                             by_cases c384 : (rd t115 (ji357)) = 0
                             ·rw [if_pos c384] at H
                              have c384b0 : ((rd t115 (ji357)) == 0) = true := beq_iff_eq.mpr c384
                              have c384b1 : ((rd t115 (ji357)) != 0) = false := bne_eq_false_iff_eq.mpr c384
                              clear c384
                              have H' := Z3.k H
                              clear H
                              have hnb385 := NB111_122.out
                              have hnc385 := NB122_111.out
                              have hnb386 := NB111_133.out
                              have hnc386 := NB133_111.out
                              have hnb387 := NB111_141.out
                              have hnc387 := NB141_111.out
                              have hnb388 := NB111_153.out
                              have hnc388 := NB153_111.out
                              have hnb389 := NB111_163.out
                              have hnc389 := NB163_111.out
                              have hcz390_0 : wr.cell? ⟨gb111, 0, none⟩ = some (.int .i64 t105) := (blk_cell BK111.out 0).trans rfl
                              have hcz390_1 : wr.cell? ⟨gb111, 1, none⟩ = some (.int .i64 t106) := (blk_cell BK111.out 1).trans rfl
                              have hcz390_2 : wr.cell? ⟨gb111, 2, none⟩ = some (.int .i64 t107) := (blk_cell BK111.out 2).trans rfl
                              have hcz390_3 : wr.cell? ⟨gb111, 3, none⟩ = some (.slice Ao23 t108.length co23) := (blk_cell BK111.out 3).trans rfl
                              have hfz390_0 := blk_frozen BK111.out 0
                              have hfz390_1 := blk_frozen BK111.out 1
                              have hfz390_2 := blk_frozen BK111.out 2
                              have hfz390_3 := blk_frozen BK111.out 3
                              have hnb391 := NB122_133.out
                              have hnc391 := NB133_122.out
                              have hnb392 := NB122_141.out
                              have hnc392 := NB141_122.out
                              have hnb393 := NB122_153.out
                              have hnc393 := NB153_122.out
                              have hnb394 := NB122_163.out
                              have hnc394 := NB163_122.out
                              have hcz395_0 : wr.cell? ⟨gb122, 0, none⟩ = some (.int .i64 t112) := (blk_cell BK122.out 0).trans rfl
                              have hcz395_1 : wr.cell? ⟨gb122, 1, none⟩ = some (.int .i64 t113) := (blk_cell BK122.out 1).trans rfl
                              have hcz395_2 : wr.cell? ⟨gb122, 2, none⟩ = some (.int .i64 t114) := (blk_cell BK122.out 2).trans rfl
                              have hcz395_3 : wr.cell? ⟨gb122, 3, none⟩ = some (.slice Ao28 t115.length co28) := (blk_cell BK122.out 3).trans rfl
                              have hfz395_0 := blk_frozen BK122.out 0
                              have hfz395_1 := blk_frozen BK122.out 1
                              have hfz395_2 := blk_frozen BK122.out 2
                              have hfz395_3 := blk_frozen BK122.out 3
                              have p172 : 0 ≤ (x27_2 : Int) := of_decide_eq_true Z3.z58
                              have q172 : x27_2 < (t118.length : Int) := of_decide_eq_true Z3.z58
                              obtain ⟨ad172, e172, hx172_0⟩ := Kd.at_int (Kd.R_reads' HO_8.out).2.2 x27_2 p172 q172
                              cases e172
                              replace p172 := eq_true p172
                              replace q172 := eq_true q172
                              have p173 : 0 ≤ ((ji357) : Int) := of_decide_eq_true Z3.z58
                              have q173 : (ji357) < (t115.length : Int) := of_decide_eq_true Z3.z58
                              obtain ⟨ad173, e173, hx173_0⟩ := Kd.at_int (Kd.R_reads' HO_123003.out).2.2 (ji357) p173 q173
                              cases e173
                              replace p173 := eq_true p173
                              replace q173 := eq_true q173
                              go_wp2
                              repeat (go_quiet (fail); try go_wp2)
                              go_roundg k4
                              case measure => have := HJ17.out; have := HK2.out; have := HJ325.out; have := HK4.out; omega
                              case rel => exact ⟨(wrap64 (x28_4 + 1)), Z3.z105, H', ⟨Z3.z110⟩, ⟨Z3.z71⟩, ⟨Z3.z70⟩, ⟨Z3.z69⟩, ⟨Z3.z68⟩, ⟨Z3.z67⟩, ⟨Z3.z66⟩, ⟨Z3.z65⟩, ⟨Z3.z0⟩, ⟨Z3.z1⟩, ⟨Z3.z7⟩, ⟨Z3.z8⟩, ⟨Z3.z29⟩, ⟨Z3.z38⟩, ⟨Z3.z2⟩⟩
                             rw [if_neg c384] at H
                             have c384b0 : ((rd t115 (ji357)) == 0) = false := beq_eq_false_iff_ne.mpr c384
                             have c384b1 : ((rd t115 (ji357)) != 0) = true := bne_iff_ne.mpr c384
                             first | exact absurd H (by decide) | obtain rfl := Option.some.inj H | have hd_ := Option.some.inj H
                             all_goals
                              have hnb396 := NB111_122.out
                              have hnc396 := NB122_111.out
                              have hnb397 := NB111_133.out
                              have hnc397 := NB133_111.out
                              have hnb398 := NB111_141.out
                              have hnc398 := NB141_111.out
                              have hnb399 := NB111_153.out
                              have hnc399 := NB153_111.out
                              have hnb400 := NB111_163.out
                              have hnc400 := NB163_111.out
                              have hcz401_0 : wr.cell? ⟨gb111, 0, none⟩ = some (.int .i64 t105) := (blk_cell BK111.out 0).trans rfl
                              have hcz401_1 : wr.cell? ⟨gb111, 1, none⟩ = some (.int .i64 t106) := (blk_cell BK111.out 1).trans rfl
                              have hcz401_2 : wr.cell? ⟨gb111, 2, none⟩ = some (.int .i64 t107) := (blk_cell BK111.out 2).trans rfl
                              have hcz401_3 : wr.cell? ⟨gb111, 3, none⟩ = some (.slice Ao23 t108.length co23) := (blk_cell BK111.out 3).trans rfl
                              have hfz401_0 := blk_frozen BK111.out 0
                              have hfz401_1 := blk_frozen BK111.out 1
                              have hfz401_2 := blk_frozen BK111.out 2
                              have hfz401_3 := blk_frozen BK111.out 3
                              have hnb402 := NB122_133.out
                              have hnc402 := NB133_122.out
                              have hnb403 := NB122_141.out
                              have hnc403 := NB141_122.out
                              have hnb404 := NB122_153.out
                              have hnc404 := NB153_122.out
                              have hnb405 := NB122_163.out
                              have hnc405 := NB163_122.out
                              have hcz406_0 : wr.cell? ⟨gb122, 0, none⟩ = some (.int .i64 t112) := (blk_cell BK122.out 0).trans rfl
                              have hcz406_1 : wr.cell? ⟨gb122, 1, none⟩ = some (.int .i64 t113) := (blk_cell BK122.out 1).trans rfl
                              have hcz406_2 : wr.cell? ⟨gb122, 2, none⟩ = some (.int .i64 t114) := (blk_cell BK122.out 2).trans rfl
                              have hcz406_3 : wr.cell? ⟨gb122, 3, none⟩ = some (.slice Ao28 t115.length co28) := (blk_cell BK122.out 3).trans rfl
                              have hfz406_0 := blk_frozen BK122.out 0
                              have hfz406_1 := blk_frozen BK122.out 1
                              have hfz406_2 := blk_frozen BK122.out 2
                              have hfz406_3 := blk_frozen BK122.out 3
                              have p172 : 0 ≤ (x27_2 : Int) := of_decide_eq_true Z3.z58
                              have q172 : x27_2 < (t118.length : Int) := of_decide_eq_true Z3.z58
                              obtain ⟨ad172, e172, hx172_0⟩ := Kd.at_int (Kd.R_reads' HO_8.out).2.2 x27_2 p172 q172
                              cases e172
                              replace p172 := eq_true p172
                              replace q172 := eq_true q172
                              have p173 : 0 ≤ ((ji357) : Int) := of_decide_eq_true Z3.z58
                              have q173 : (ji357) < (t115.length : Int) := of_decide_eq_true Z3.z58
                              obtain ⟨ad173, e173, hx173_0⟩ := Kd.at_int (Kd.R_reads' HO_123003.out).2.2 (ji357) p173 q173
                              cases e173
                              replace p173 := eq_true p173
                              replace q173 := eq_true q173
                              go_wp2
                              repeat (go_quiet (fail); try go_wp2)
                              go_ret
                              exact ⟨Z3.z109, Z3.z2⟩
                         rw [if_neg c359] at H
                         exact absurd H (by simp)
                       rw [if_neg c358] at H
                       exact absurd H (by simp)
                     rw [if_neg c356] at H
                     exact absurd H (by simp)
                   rw [if_neg c355] at H
                   exact absurd H (by simp)
                 rw [if_neg c354] at H
                 have c354b0 : decide (x28_4 < t106) = false := decide_eq_false c354
                 clear c354
                 have H' := Z3.k H
                 clear H
                 have hnb407 := NB111_122.out
                 have hnc407 := NB122_111.out
                 have hnb408 := NB111_133.out
                 have hnc408 := NB133_111.out
                 have hnb409 := NB111_141.out
                 have hnc409 := NB141_111.out
                 have hnb410 := NB111_153.out
                 have hnc410 := NB153_111.out
                 have hnb411 := NB111_163.out
                 have hnc411 := NB163_111.out
                 have hcz412_0 : wr.cell? ⟨gb111, 0, none⟩ = some (.int .i64 t105) := (blk_cell BK111.out 0).trans rfl
                 have hcz412_1 : wr.cell? ⟨gb111, 1, none⟩ = some (.int .i64 t106) := (blk_cell BK111.out 1).trans rfl
                 have hcz412_2 : wr.cell? ⟨gb111, 2, none⟩ = some (.int .i64 t107) := (blk_cell BK111.out 2).trans rfl
                 have hcz412_3 : wr.cell? ⟨gb111, 3, none⟩ = some (.slice Ao23 t108.length co23) := (blk_cell BK111.out 3).trans rfl
                 have hfz412_0 := blk_frozen BK111.out 0
                 have hfz412_1 := blk_frozen BK111.out 1
                 have hfz412_2 := blk_frozen BK111.out 2
                 have hfz412_3 := blk_frozen BK111.out 3
                 go_wp2
                 repeat (go_quiet (fail); try go_wp2)
                 go_roundg k4
                 case measure => have := HJ17.out; have := HK2.out; have := HJ325.out; have := HK4.out; omega
                 case rel => exact ⟨(wrap64 (x27_2 + 1)), Z3.z105, H', ⟨Z3.z110⟩, ⟨Z3.z71⟩, ⟨Z3.z70⟩, ⟨Z3.z69⟩, ⟨Z3.z68⟩, ⟨Z3.z67⟩, ⟨Z3.z66⟩, ⟨Z3.z65⟩, ⟨Z3.z0⟩, ⟨Z3.z1⟩, ⟨Z3.z7⟩, ⟨Z3.z8⟩, ⟨Z3.z29⟩, ⟨Z3.z38⟩, ⟨Z3.z2⟩⟩
         rw [if_neg c325] at H
         have c325b0 : decide (x27_2 < (t118.length : Int)) = false := decide_eq_false c325
         clear c325
         by_cases c413 : t142 ≤ t106
         ·rw [if_pos c413] at H
          have c413b0 : decide (t142 ≤ t106) = true := decide_eq_true c413
          clear c413
          first | exact absurd H (by decide) | obtain rfl := Option.some.inj H | have hd_ := Option.some.inj H
          all_goals
           obtain ⟨Ao414, co414, eo414⟩ := Kd.R_slice HO_8.out
           subst eo414
           have hnb415 := NB111_122.out
           have hnc415 := NB122_111.out
           have hnb416 := NB111_133.out
           have hnc416 := NB133_111.out
           have hnb417 := NB111_141.out
           have hnc417 := NB141_111.out
           have hnb418 := NB111_153.out
           have hnc418 := NB153_111.out
           have hnb419 := NB111_163.out
           have hnc419 := NB163_111.out
           have hcz420_0 : wr.cell? ⟨gb111, 0, none⟩ = some (.int .i64 t105) := (blk_cell BK111.out 0).trans rfl
           have hcz420_1 : wr.cell? ⟨gb111, 1, none⟩ = some (.int .i64 t106) := (blk_cell BK111.out 1).trans rfl
           have hcz420_2 : wr.cell? ⟨gb111, 2, none⟩ = some (.int .i64 t107) := (blk_cell BK111.out 2).trans rfl
           have hcz420_3 : wr.cell? ⟨gb111, 3, none⟩ = some (.slice Ao23 t108.length co23) := (blk_cell BK111.out 3).trans rfl
           have hfz420_0 := blk_frozen BK111.out 0
           have hfz420_1 := blk_frozen BK111.out 1
           have hfz420_2 := blk_frozen BK111.out 2
           have hfz420_3 := blk_frozen BK111.out 3
           go_wp2
           repeat (go_quiet (fail); try go_wp2)
           go_ret
           exact ⟨Z3.z108, Z3.z2⟩
         rw [if_neg c413] at H
         have c413b0 : decide (t142 ≤ t106) = false := decide_eq_false c413
         clear c413
         first | exact absurd H (by decide) | obtain rfl := Option.some.inj H | have hd_ := Option.some.inj H
         all_goals
          obtain ⟨Ao421, co421, eo421⟩ := Kd.R_slice HO_8.out
          subst eo421
          have hnb422 := NB111_122.out
          have hnc422 := NB122_111.out
          have hnb423 := NB111_133.out
          have hnc423 := NB133_111.out
          have hnb424 := NB111_141.out
          have hnc424 := NB141_111.out
          have hnb425 := NB111_153.out
          have hnc425 := NB153_111.out
          have hnb426 := NB111_163.out
          have hnc426 := NB163_111.out
          have hcz427_0 : wr.cell? ⟨gb111, 0, none⟩ = some (.int .i64 t105) := (blk_cell BK111.out 0).trans rfl
          have hcz427_1 : wr.cell? ⟨gb111, 1, none⟩ = some (.int .i64 t106) := (blk_cell BK111.out 1).trans rfl
          have hcz427_2 : wr.cell? ⟨gb111, 2, none⟩ = some (.int .i64 t107) := (blk_cell BK111.out 2).trans rfl
          have hcz427_3 : wr.cell? ⟨gb111, 3, none⟩ = some (.slice Ao23 t108.length co23) := (blk_cell BK111.out 3).trans rfl
          have hfz427_0 := blk_frozen BK111.out 0
          have hfz427_1 := blk_frozen BK111.out 1
          have hfz427_2 := blk_frozen BK111.out 2
          have hfz427_3 := blk_frozen BK111.out 3
          go_wp2
          repeat (go_quiet (fail); try go_wp2)
          go_ret
          exact ⟨Z3.z108, Z3.z2⟩
  
  /-- THE ONE PURE STATEMENT of laws_FnReduced: yours. -/
def laws_FnReduced.Pure : Prop := ∀ (l0 : List Int) (l1 : List Int), l0.length ≤ maxLen → l0.length * 1 ≤ 140737488351232 → (∀ x ∈ l0, (Lit.int .u8 x).wf = true) → l1.length ≤ maxLen → l1.length * 1 ≤ 140737488351232 → (∀ x ∈ l1, (Lit.int .u8 x).wf = true) → ∃ k, laws_FnReduced.f k l0 l1 = some true
theorem laws_FnReduced.walk (P : laws_FnReduced.Pure) (a0 : Option Addr) (len0 cap0 : Nat) (z0 : List Int) (a1 : Option Addr) (len1 cap1 : Nat) (z1 : List Int) (w : World) (w0 : (a0 = none ∧ len0 = 0 ∧ cap0 = 0 ∧ z0 = []) ∨ ∃ x, a0 = some x ∧ len0 ≤ cap0 ∧ cap0 ≤ maxLen ∧ z0.length = cap0 ∧ (∀ i, i < z0.length → w.cell? (x.add i) = some (.int .u8 (z0.getD i 0))) ∧ ∀ n ∈ z0, (Lit.int .u8 n).wf = true) (y0 : len0 * 1 ≤ 140737488351232) (w1 : (a1 = none ∧ len1 = 0 ∧ cap1 = 0 ∧ z1 = []) ∨ ∃ x, a1 = some x ∧ len1 ≤ cap1 ∧ cap1 ≤ maxLen ∧ z1.length = cap1 ∧ (∀ i, i < z1.length → w.cell? (x.add i) = some (.int .u8 (z1.getD i 0))) ∧ ∀ n ∈ z1, (Lit.int .u8 n).wf = true) (y1 : len1 * 1 ≤ 140737488351232) :
    Calls Try.prog 3 #[.slice a0 len0 cap0, .slice a1 len1 cap1] w fun e w' => e = .returned (.bool true) ∧ Below w.heap.size w w' := by
  obtain ⟨l0, rfl, hr0, hm0, hw0, hc0⟩ := ReadsInt.ofRowC w0
  obtain ⟨l1, rfl, hr1, hm1, hw1, hc1⟩ := ReadsInt.ofRowC w1
  obtain ⟨k, h⟩ := P l0 l1 hm0 y0 hw0 hm1 y1 hw1
  refine (laws_FnReduced.calls k _ _ l0 _ _ l1 true w (Kd.C_of_reads (d := (0 : Int)) (h1 := fun _ => rfl) hr0) hc0 (Kd.C_of_reads (d := (0 : Int)) (h1 := fun _ => rfl) hr1) hc1 h).mono ?_
  rintro e w' ⟨rfl, hd⟩
  exact ⟨rfl, hd⟩
end Go.Proofs.Ytoekjicknclooaa.F
end
