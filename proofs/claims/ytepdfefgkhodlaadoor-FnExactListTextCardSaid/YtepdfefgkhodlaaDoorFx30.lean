-- Written by gprint.py, a program of this session's that drives the kit's print, for this claim. Not trusted: checked as any text.
import Derived.Test.YtepdfefgkhodlaaDoorFx0
import Derived.Test.YtepdfefgkhodlaaDoorFx3
import Derived.Test.YtepdfefgkhodlaaDoorFx22
import Derived.Test.YtepdfefgkhodlaaDoorFx23
import Derived.Test.YtepdfefgkhodlaaDoorFx28
import Derived.Test.YtepdfefgkhodlaaDoorFx29
namespace Go.Proofs.YtepdfefgkhodlaaDoor.F
open Go.RowKit Go.Proofs.YtepdfefgkhodlaaDoorW.PrintWords Go.Proofs.YtepdfefgkhodlaaDoorW.PrintLast Go.Proofs.YtepdfefgkhodlaaDoorW.PrintMore
attribute [local go_sem] max2_int min2_int max_two min_two max_three min_three max_four min_four   -- for this text's walks alone
set_option linter.unusedVariables false
set_option linter.unusedSimpArgs false

/-! ### laws_FnExactListText: function 6 -/
def laws_FnExactListText.f (k : Nat) (l0 : List Int) : Option (Bool) := if (l0.length : Int) > 1048576 then (some true) else ((laws_toInt64S.f k l0).bind fun t101 => ((spec_ListText.f k t101).bind fun t104 => ((laws_toInt64S.f k l0).bind fun t105 => ((impl_ListText.f k t105).bind fun t108 => (if t108.toList = t104.toList then ((laws_toInt64S.f k l0).bind fun t109 => ((laws_eqInt64S.f k t105 t109).bind fun t112 => (if t112 = true then (some true) else (some false)))) else (some false))))))
theorem laws_FnExactListText.mono : ∀ a0 k, LeO (laws_FnExactListText.f k a0) (laws_FnExactListText.f (k + 1) a0) := by
  intro a0 k
  unfold laws_FnExactListText.f
  repeat' first
      | (with_reducible exact impl_ListText.mono _ _)
      | (with_reducible exact laws_eqInt64S.mono _ _ _)
      | (with_reducible exact laws_toInt64S.mono _ _)
      | (with_reducible exact spec_ListText.mono _ _)
      | (with_reducible exact LeO.refl _)
      | (with_reducible exact LeO.none _)
      | (with_reducible refine LeO.ite ?_ ?_)
      | (with_reducible refine LeO.bind ?_ (fun _ => ?_))
      | exact impl_ListText.mono _ _
      | exact laws_eqInt64S.mono _ _ _
      | exact laws_toInt64S.mono _ _
      | exact spec_ListText.mono _ _
      | exact LeO.none _
      | refine LeO.ite ?_ ?_
      | refine LeO.bind ?_ (fun _ => ?_)
theorem Z6.k {p : Prop} (h : p) : Aside0 p := ⟨h⟩
theorem Z6.z9 {P : Prop} (h : P := by repeat (first | exact (Kd.R_reads' HO111.out).2.2 | (with_reducible refine Kd.C_alloc ?_ _) | (with_reducible refine Kd.C_drewN ?_ _) | (with_reducible refine Kd.C_drew ?_))) : P := h
theorem Z6.z8 {P : Prop} (h : P := by first | rfl | (simp [errW_none, errW_some] <;> rfl) | (simp [*, errW_none, errW_some] <;> rfl)) : P := h
theorem Z6.z7 {P : Prop} (h : P := by repeat (first | exact HR0.out | (with_reducible refine Kd.C_alloc ?_ _) | (with_reducible refine Kd.C_drewN ?_ _) | (with_reducible refine Kd.C_drew ?_))) : P := h
theorem Z6.z6 {P : Prop} (h : P := by repeat (first | exact (Kd.R_reads' HO103.out).2.2 | (with_reducible refine Kd.C_alloc ?_ _) | (with_reducible refine Kd.C_drewN ?_ _) | (with_reducible refine Kd.C_drew ?_))) : P := h
theorem Z6.z5 {P : Prop} (h : P := by (with_reducible repeat (first | apply Kd.R_alloc | apply Kd.R_drewN | apply Kd.R_drew)); exact HO107.out) : P := h
theorem Z6.z4 {P : Prop} (h : P := by repeat (first | exact (Kd.C_below HR0.out HB.out) | (with_reducible refine Kd.C_alloc ?_ _) | (with_reducible refine Kd.C_drewN ?_ _) | (with_reducible refine Kd.C_drew ?_))) : P := h
theorem Z6.z3 {P : Prop} (h : P := by repeat (first | exact (Kd.R_reads' HO107.out).2.2 | (with_reducible refine Kd.C_alloc ?_ _) | (with_reducible refine Kd.C_drewN ?_ _) | (with_reducible refine Kd.C_drew ?_))) : P := h
theorem Z6.z2 {P : Prop} (h : P := by (with_reducible repeat (first | apply Kd.R_alloc | apply Kd.R_drewN | apply Kd.R_drew)); exact HO103.out) : P := h
theorem Z6.z1 {P : Prop} (h : P := by (try simp only [List.map_toArray, List.map_cons, List.map_nil]); first | done | rfl | (simp only [List.length_drop, List.length_take]; rfl)) : P := h
theorem Z6.z0 {P : Prop} (h : P := by repeat (first | (with_reducible first | exact HB.out | apply below_alloc | apply pw_below_drewN | apply below_drew1) | exact HB.out)) : P := h
set_option maxHeartbeats 8000000 in
set_option maxRecDepth 100000 in
theorem laws_FnExactListText.calls (k : Nat) (A0 : Option Addr) (c0 : Nat) (l0 : List Int) (r : Bool) (w : World) (hr0 : Kd.C (Kd.int .i64) w A0 l0.length l0) (hc0 : l0.length ≤ c0) (hlP_ : LaidP w) (h : laws_FnExactListText.f k l0 = some r) :
  Calls Tryd.prog 6 #[.slice A0 l0.length c0] w fun e w' => e = .returned (.bool r) ∧ Below w.heap.size w w' := by
 have HR0 := Z6.k hr0
 have HC0 := Z6.k hc0
 clear hr0 hc0
 have HB := Z6.k (Below.refl w.heap.size w)
 have H : (if (l0.length : Int) > 1048576 then (some true) else ((laws_toInt64S.f k l0).bind fun t101 => ((spec_ListText.f k t101).bind fun t104 => ((laws_toInt64S.f k l0).bind fun t105 => ((impl_ListText.f k t105).bind fun t108 => (if t108.toList = t104.toList then ((laws_toInt64S.f k l0).bind fun t109 => ((laws_eqInt64S.f k t105 t109).bind fun t112 => (if t112 = true then (some true) else (some false)))) else (some false))))))) = some r := h
 clear h
 by_cases c2 : (l0.length : Int) > 1048576
 ·rw [if_pos c2] at H
  have c2b0 : decide (1048576 < (l0.length : Int)) = true := decide_eq_true c2
  have c2b1 : decide (1048576 < l0.length) = true := decide_eq_true (by omega)
  clear c2
  obtain rfl := Option.some.inj H
  go_enter Tryd.func6, Tryd.ntmps6
  go_wp2
  go_ret
  exact ⟨Z6.z8, Z6.z0⟩
 rw [if_neg c2] at H
 have c2b0 : decide (1048576 < (l0.length : Int)) = false := decide_eq_false c2
 have c2b1 : decide (1048576 < l0.length) = false := decide_eq_false (by omega)
 clear c2
 replace H := Option.bind_eq_some_iff.mp H
 obtain ⟨t101, A30, H⟩ := H
 replace H : ((spec_ListText.f k t101).bind fun t104 => ((laws_toInt64S.f k l0).bind fun t105 => ((impl_ListText.f k t105).bind fun t108 => (if t108.toList = t104.toList then ((laws_toInt64S.f k l0).bind fun t109 => ((laws_eqInt64S.f k t105 t109).bind fun t112 => (if t112 = true then (some true) else (some false)))) else (some false))))) = some r := H
 have A3 := Z6.k A30
 clear A30
 replace H := Option.bind_eq_some_iff.mp H
 obtain ⟨t104, A40, H⟩ := H
 replace H : ((laws_toInt64S.f k l0).bind fun t105 => ((impl_ListText.f k t105).bind fun t108 => (if t108.toList = t104.toList then ((laws_toInt64S.f k l0).bind fun t109 => ((laws_eqInt64S.f k t105 t109).bind fun t112 => (if t112 = true then (some true) else (some false)))) else (some false)))) = some r := H
 have A4 := Z6.k A40
 clear A40
 replace H := Option.bind_eq_some_iff.mp H
 obtain ⟨t105, A50, H⟩ := H
 replace H : ((impl_ListText.f k t105).bind fun t108 => (if t108.toList = t104.toList then ((laws_toInt64S.f k l0).bind fun t109 => ((laws_eqInt64S.f k t105 t109).bind fun t112 => (if t112 = true then (some true) else (some false)))) else (some false))) = some r := H
 have A5 := Z6.k A50
 clear A50
 replace H := Option.bind_eq_some_iff.mp H
 obtain ⟨t108, A60, H⟩ := H
 replace H : (if t108.toList = t104.toList then ((laws_toInt64S.f k l0).bind fun t109 => ((laws_eqInt64S.f k t105 t109).bind fun t112 => (if t112 = true then (some true) else (some false)))) else (some false)) = some r := H
 have A6 := Z6.k A60
 clear A60
 by_cases c7 : t108.toList = t104.toList
 ·rw [if_pos c7] at H
  have c7b0 : (t108.toList == t104.toList) = true := beq_iff_eq.mpr c7
  have c7b1 : (t108.toList != t104.toList) = false := bne_eq_false_iff_eq.mpr c7
  clear c7
  replace H := Option.bind_eq_some_iff.mp H
  obtain ⟨t109, A80, H⟩ := H
  replace H : ((laws_eqInt64S.f k t105 t109).bind fun t112 => (if t112 = true then (some true) else (some false))) = some r := H
  have A8 := Z6.k A80
  clear A80
  replace H := Option.bind_eq_some_iff.mp H
  obtain ⟨t112, A90, H⟩ := H
  replace H : (if t112 = true then (some true) else (some false)) = some r := H
  have A9 := Z6.k A90
  clear A90
  by_cases c10 : t112 = true
  ·subst c10
   have H1 : (some true) = some r := by rw [if_pos rfl] at H; exact H
   clear H
   have H := H1
   clear H1
   obtain rfl := Option.some.inj H
   go_enter Tryd.func6, Tryd.ntmps6
   go_wp2_with (first | ((with_reducible refine gate_callee (f := 18) rfl ?_); refine goesL_ (some 10) rfl rfl Tryd.func18 (by kernel_rfl) rfl #[.slice A0 l0.length c0] rfl Z6.z1 ?_; (with_reducible refine (laws_toInt64S.calls k _ _ l0 t101 _ ?side1 ?side2 A3.out).mono ?_); (case side1 => exact Z6.z7); (case side2 => exact HC0.out); rintro e w11 ⟨v102, rfl, ho0, hb⟩; refine ⟨_, rfl, ?_⟩; have n0_ := Z6.k (Kd.R_lower ho0 (below_size Z6.z0)); have n1_ := Z6.k (below_step Z6.z0 hb); clear HB; have HO103 := n0_; have HB := n1_; clear n0_ n1_; (try clear hb); (try clear hb2); (try clear hk); (try clear hi); (try clear ho0); obtain ⟨Ao12, co12, eo12⟩ := Kd.R_slice HO103.out; subst eo12) | ((with_reducible refine gate_callee (f := 17) rfl ?_); refine goesL_ (some 11) rfl rfl Tryd.func17 (by kernel_rfl) rfl #[.slice Ao12 t101.length co12] rfl Z6.z1 ?_; (with_reducible refine (spec_ListText.calls k _ _ t101 t104 _ ?side1 ?side2 A4.out).mono ?_); (case side1 => exact Z6.z6); (case side2 => exact (Kd.R_reads' HO103.out).2.1); rintro e w13 ⟨rfl, hb⟩; refine ⟨_, rfl, ?_⟩; have n0_ := Z6.k (Kd.R_below Z6.z2 hb); have n1_ := Z6.k (below_step Z6.z0 hb); clear HO103 HB; have HO103 := n0_; have HB := n1_; clear n0_ n1_; (try clear hb); (try clear hb2); (try clear hk); (try clear hi)) | ((with_reducible refine gate_callee (f := 18) rfl ?_); refine goesL_ (some 13) rfl rfl Tryd.func18 (by kernel_rfl) rfl #[.slice A0 l0.length c0] rfl Z6.z1 ?_; (with_reducible refine (laws_toInt64S.calls k _ _ l0 t105 _ ?side1 ?side2 A5.out).mono ?_); (case side1 => exact Z6.z4); (case side2 => exact HC0.out); rintro e w14 ⟨v106, rfl, ho0, hb⟩; refine ⟨_, rfl, ?_⟩; have n0_ := Z6.k (Kd.R_elder' Z6.z2 (Kd.R_base ho0) hb); have n1_ := Z6.k (Kd.R_lower (Kd.R_new' ho0 (Kd.R_lt Z6.z2)) (below_size Z6.z0)); have n2_ := Z6.k (below_step Z6.z0 hb); clear HO103 HB; have HO103 := n0_; have HO107 := n1_; have HB := n2_; clear n0_ n1_ n2_; (try clear hb); (try clear hb2); (try clear hk); (try clear hi); (try clear ho0); obtain ⟨Ao15, co15, eo15⟩ := Kd.R_slice HO107.out; subst eo15) | ((with_reducible refine gate_callee (f := 19) rfl ?_); refine goesL_ (some 15) rfl rfl Tryd.func19 (by kernel_rfl) rfl #[.slice Ao15 t105.length co15] rfl Z6.z1 ?_; (with_reducible refine (impl_ListText.calls k _ _ t105 t108 _ ?side1 ?side2 ?side3 A6.out).mono ?_); (case side1 => exact Z6.z3); (case side2 => exact (Kd.R_reads' HO107.out).2.1); (case side3 => exact (by exact LaidP.below hlP_ Z6.z0)); rintro e w16 ⟨rfl, hb⟩; refine ⟨_, rfl, ?_⟩; have n0_ := Z6.k (Kd.R_below Z6.z2 hb); have n1_ := Z6.k (Kd.R_below Z6.z5 hb); have n2_ := Z6.k (below_step Z6.z0 hb); clear HO103 HO107 HB; have HO103 := n0_; have HO107 := n1_; have HB := n2_; clear n0_ n1_ n2_; (try clear hb); (try clear hb2); (try clear hk); (try clear hi)) | ((with_reducible refine gate_callee (f := 18) rfl ?_); refine goesL_ (some 21) rfl rfl Tryd.func18 (by kernel_rfl) rfl #[.slice A0 l0.length c0] rfl Z6.z1 ?_; (with_reducible refine (laws_toInt64S.calls k _ _ l0 t109 _ ?side1 ?side2 A8.out).mono ?_); (case side1 => exact Z6.z4); (case side2 => exact HC0.out); rintro e w17 ⟨v110, rfl, ho0, hb⟩; refine ⟨_, rfl, ?_⟩; have n0_ := Z6.k (Kd.R_elder' Z6.z2 (Kd.R_base ho0) hb); have n1_ := Z6.k (Kd.R_elder' Z6.z5 (Kd.R_base ho0) hb); have n2_ := Z6.k (Kd.R_lower (Kd.R_new' (Kd.R_new' ho0 (Kd.R_lt Z6.z2)) (Kd.R_lt Z6.z5)) (below_size Z6.z0)); have n3_ := Z6.k (below_step Z6.z0 hb); clear HO103 HO107 HB; have HO103 := n0_; have HO107 := n1_; have HO111 := n2_; have HB := n3_; clear n0_ n1_ n2_ n3_; (try clear hb); (try clear hb2); (try clear hk); (try clear hi); (try clear ho0); obtain ⟨Ao18, co18, eo18⟩ := Kd.R_slice HO111.out; subst eo18) | ((with_reducible refine gate_callee (f := 20) rfl ?_); refine goesL_ (some 22) rfl rfl Tryd.func20 (by kernel_rfl) rfl #[.slice Ao15 t105.length co15, .slice Ao18 t109.length co18] rfl Z6.z1 ?_; (with_reducible refine (laws_eqInt64S.calls k _ _ t105 _ _ t109 true _ ?side1 ?side2 ?side3 ?side4 A9.out).mono ?_); (case side1 => exact Z6.z3); (case side2 => exact (Kd.R_reads' HO107.out).2.1); (case side3 => exact Z6.z9); (case side4 => exact (Kd.R_reads' HO111.out).2.1); rintro e w' ⟨rfl, ⟨nd, rfl⟩⟩; refine ⟨_, rfl, ?_⟩))
   go_ret
   exact ⟨Z6.z8, Z6.z0⟩
  replace c10 := Bool.eq_false_iff.mpr c10
  subst c10
  have H1 : (some false) = some r := by rw [if_neg (show ¬ (false = true) by decide)] at H; exact H
  clear H
  have H := H1
  clear H1
  obtain rfl := Option.some.inj H
  go_enter Tryd.func6, Tryd.ntmps6
  go_wp2_with (first | ((with_reducible refine gate_callee (f := 18) rfl ?_); refine goesL_ (some 10) rfl rfl Tryd.func18 (by kernel_rfl) rfl #[.slice A0 l0.length c0] rfl Z6.z1 ?_; (with_reducible refine (laws_toInt64S.calls k _ _ l0 t101 _ ?side1 ?side2 A3.out).mono ?_); (case side1 => exact Z6.z7); (case side2 => exact HC0.out); rintro e w19 ⟨v102, rfl, ho0, hb⟩; refine ⟨_, rfl, ?_⟩; have n0_ := Z6.k (Kd.R_lower ho0 (below_size Z6.z0)); have n1_ := Z6.k (below_step Z6.z0 hb); clear HB; have HO103 := n0_; have HB := n1_; clear n0_ n1_; (try clear hb); (try clear hb2); (try clear hk); (try clear hi); (try clear ho0); obtain ⟨Ao20, co20, eo20⟩ := Kd.R_slice HO103.out; subst eo20) | ((with_reducible refine gate_callee (f := 17) rfl ?_); refine goesL_ (some 11) rfl rfl Tryd.func17 (by kernel_rfl) rfl #[.slice Ao20 t101.length co20] rfl Z6.z1 ?_; (with_reducible refine (spec_ListText.calls k _ _ t101 t104 _ ?side1 ?side2 A4.out).mono ?_); (case side1 => exact Z6.z6); (case side2 => exact (Kd.R_reads' HO103.out).2.1); rintro e w21 ⟨rfl, hb⟩; refine ⟨_, rfl, ?_⟩; have n0_ := Z6.k (Kd.R_below Z6.z2 hb); have n1_ := Z6.k (below_step Z6.z0 hb); clear HO103 HB; have HO103 := n0_; have HB := n1_; clear n0_ n1_; (try clear hb); (try clear hb2); (try clear hk); (try clear hi)) | ((with_reducible refine gate_callee (f := 18) rfl ?_); refine goesL_ (some 13) rfl rfl Tryd.func18 (by kernel_rfl) rfl #[.slice A0 l0.length c0] rfl Z6.z1 ?_; (with_reducible refine (laws_toInt64S.calls k _ _ l0 t105 _ ?side1 ?side2 A5.out).mono ?_); (case side1 => exact Z6.z4); (case side2 => exact HC0.out); rintro e w22 ⟨v106, rfl, ho0, hb⟩; refine ⟨_, rfl, ?_⟩; have n0_ := Z6.k (Kd.R_elder' Z6.z2 (Kd.R_base ho0) hb); have n1_ := Z6.k (Kd.R_lower (Kd.R_new' ho0 (Kd.R_lt Z6.z2)) (below_size Z6.z0)); have n2_ := Z6.k (below_step Z6.z0 hb); clear HO103 HB; have HO103 := n0_; have HO107 := n1_; have HB := n2_; clear n0_ n1_ n2_; (try clear hb); (try clear hb2); (try clear hk); (try clear hi); (try clear ho0); obtain ⟨Ao23, co23, eo23⟩ := Kd.R_slice HO107.out; subst eo23) | ((with_reducible refine gate_callee (f := 19) rfl ?_); refine goesL_ (some 15) rfl rfl Tryd.func19 (by kernel_rfl) rfl #[.slice Ao23 t105.length co23] rfl Z6.z1 ?_; (with_reducible refine (impl_ListText.calls k _ _ t105 t108 _ ?side1 ?side2 ?side3 A6.out).mono ?_); (case side1 => exact Z6.z3); (case side2 => exact (Kd.R_reads' HO107.out).2.1); (case side3 => exact (by exact LaidP.below hlP_ Z6.z0)); rintro e w24 ⟨rfl, hb⟩; refine ⟨_, rfl, ?_⟩; have n0_ := Z6.k (Kd.R_below Z6.z2 hb); have n1_ := Z6.k (Kd.R_below Z6.z5 hb); have n2_ := Z6.k (below_step Z6.z0 hb); clear HO103 HO107 HB; have HO103 := n0_; have HO107 := n1_; have HB := n2_; clear n0_ n1_ n2_; (try clear hb); (try clear hb2); (try clear hk); (try clear hi)) | ((with_reducible refine gate_callee (f := 18) rfl ?_); refine goesL_ (some 21) rfl rfl Tryd.func18 (by kernel_rfl) rfl #[.slice A0 l0.length c0] rfl Z6.z1 ?_; (with_reducible refine (laws_toInt64S.calls k _ _ l0 t109 _ ?side1 ?side2 A8.out).mono ?_); (case side1 => exact Z6.z4); (case side2 => exact HC0.out); rintro e w25 ⟨v110, rfl, ho0, hb⟩; refine ⟨_, rfl, ?_⟩; have n0_ := Z6.k (Kd.R_elder' Z6.z2 (Kd.R_base ho0) hb); have n1_ := Z6.k (Kd.R_elder' Z6.z5 (Kd.R_base ho0) hb); have n2_ := Z6.k (Kd.R_lower (Kd.R_new' (Kd.R_new' ho0 (Kd.R_lt Z6.z2)) (Kd.R_lt Z6.z5)) (below_size Z6.z0)); have n3_ := Z6.k (below_step Z6.z0 hb); clear HO103 HO107 HB; have HO103 := n0_; have HO107 := n1_; have HO111 := n2_; have HB := n3_; clear n0_ n1_ n2_ n3_; (try clear hb); (try clear hb2); (try clear hk); (try clear hi); (try clear ho0); obtain ⟨Ao26, co26, eo26⟩ := Kd.R_slice HO111.out; subst eo26) | ((with_reducible refine gate_callee (f := 20) rfl ?_); refine goesL_ (some 22) rfl rfl Tryd.func20 (by kernel_rfl) rfl #[.slice Ao23 t105.length co23, .slice Ao26 t109.length co26] rfl Z6.z1 ?_; (with_reducible refine (laws_eqInt64S.calls k _ _ t105 _ _ t109 false _ ?side1 ?side2 ?side3 ?side4 A9.out).mono ?_); (case side1 => exact Z6.z3); (case side2 => exact (Kd.R_reads' HO107.out).2.1); (case side3 => exact Z6.z9); (case side4 => exact (Kd.R_reads' HO111.out).2.1); rintro e w' ⟨rfl, ⟨nd, rfl⟩⟩; refine ⟨_, rfl, ?_⟩))
  go_ret
  exact ⟨Z6.z8, Z6.z0⟩
 rw [if_neg c7] at H
 have c7b0 : (t108.toList == t104.toList) = false := beq_eq_false_iff_ne.mpr c7
 have c7b1 : (t108.toList != t104.toList) = true := bne_iff_ne.mpr c7
 obtain rfl := Option.some.inj H
 go_enter Tryd.func6, Tryd.ntmps6
 go_wp2_with (first | ((with_reducible refine gate_callee (f := 18) rfl ?_); refine goesL_ (some 10) rfl rfl Tryd.func18 (by kernel_rfl) rfl #[.slice A0 l0.length c0] rfl Z6.z1 ?_; (with_reducible refine (laws_toInt64S.calls k _ _ l0 t101 _ ?side1 ?side2 A3.out).mono ?_); (case side1 => exact Z6.z7); (case side2 => exact HC0.out); rintro e w27 ⟨v102, rfl, ho0, hb⟩; refine ⟨_, rfl, ?_⟩; have n0_ := Z6.k (Kd.R_lower ho0 (below_size Z6.z0)); have n1_ := Z6.k (below_step Z6.z0 hb); clear HB; have HO103 := n0_; have HB := n1_; clear n0_ n1_; (try clear hb); (try clear hb2); (try clear hk); (try clear hi); (try clear ho0); obtain ⟨Ao28, co28, eo28⟩ := Kd.R_slice HO103.out; subst eo28) | ((with_reducible refine gate_callee (f := 17) rfl ?_); refine goesL_ (some 11) rfl rfl Tryd.func17 (by kernel_rfl) rfl #[.slice Ao28 t101.length co28] rfl Z6.z1 ?_; (with_reducible refine (spec_ListText.calls k _ _ t101 t104 _ ?side1 ?side2 A4.out).mono ?_); (case side1 => exact Z6.z6); (case side2 => exact (Kd.R_reads' HO103.out).2.1); rintro e w29 ⟨rfl, hb⟩; refine ⟨_, rfl, ?_⟩; have n0_ := Z6.k (Kd.R_below Z6.z2 hb); have n1_ := Z6.k (below_step Z6.z0 hb); clear HO103 HB; have HO103 := n0_; have HB := n1_; clear n0_ n1_; (try clear hb); (try clear hb2); (try clear hk); (try clear hi)) | ((with_reducible refine gate_callee (f := 18) rfl ?_); refine goesL_ (some 13) rfl rfl Tryd.func18 (by kernel_rfl) rfl #[.slice A0 l0.length c0] rfl Z6.z1 ?_; (with_reducible refine (laws_toInt64S.calls k _ _ l0 t105 _ ?side1 ?side2 A5.out).mono ?_); (case side1 => exact Z6.z4); (case side2 => exact HC0.out); rintro e w30 ⟨v106, rfl, ho0, hb⟩; refine ⟨_, rfl, ?_⟩; have n0_ := Z6.k (Kd.R_elder' Z6.z2 (Kd.R_base ho0) hb); have n1_ := Z6.k (Kd.R_lower (Kd.R_new' ho0 (Kd.R_lt Z6.z2)) (below_size Z6.z0)); have n2_ := Z6.k (below_step Z6.z0 hb); clear HO103 HB; have HO103 := n0_; have HO107 := n1_; have HB := n2_; clear n0_ n1_ n2_; (try clear hb); (try clear hb2); (try clear hk); (try clear hi); (try clear ho0); obtain ⟨Ao31, co31, eo31⟩ := Kd.R_slice HO107.out; subst eo31) | ((with_reducible refine gate_callee (f := 19) rfl ?_); refine goesL_ (some 15) rfl rfl Tryd.func19 (by kernel_rfl) rfl #[.slice Ao31 t105.length co31] rfl Z6.z1 ?_; (with_reducible refine (impl_ListText.calls k _ _ t105 t108 _ ?side1 ?side2 ?side3 A6.out).mono ?_); (case side1 => exact Z6.z3); (case side2 => exact (Kd.R_reads' HO107.out).2.1); (case side3 => exact (by exact LaidP.below hlP_ Z6.z0)); rintro e w32 ⟨rfl, hb⟩; refine ⟨_, rfl, ?_⟩; have n0_ := Z6.k (Kd.R_below Z6.z2 hb); have n1_ := Z6.k (Kd.R_below Z6.z5 hb); have n2_ := Z6.k (below_step Z6.z0 hb); clear HO103 HO107 HB; have HO103 := n0_; have HO107 := n1_; have HB := n2_; clear n0_ n1_ n2_; (try clear hb); (try clear hb2); (try clear hk); (try clear hi)))
 go_ret
 exact ⟨Z6.z8, Z6.z0⟩

/-- THE ONE PURE STATEMENT of laws_FnExactListText: yours. -/
def laws_FnExactListText.Pure : Prop := ∀ (l0 : List Int), l0.length ≤ maxLen → l0.length * 8 ≤ 140737488351232 → (∀ x ∈ l0, (Lit.int .i64 x).wf = true) → ∃ k, laws_FnExactListText.f k l0 = some true
theorem laws_FnExactListText.walk (P : laws_FnExactListText.Pure) (a0 : Option Addr) (len0 cap0 : Nat) (z0 : List Int) (w : World) (w0 : (a0 = none ∧ len0 = 0 ∧ cap0 = 0 ∧ z0 = []) ∨ ∃ x, a0 = some x ∧ len0 ≤ cap0 ∧ cap0 ≤ maxLen ∧ z0.length = cap0 ∧ (∀ i, i < z0.length → w.cell? (x.add i) = some (.int .i64 (z0.getD i 0))) ∧ ∀ n ∈ z0, (Lit.int .i64 n).wf = true) (y0 : len0 * 8 ≤ 140737488351232) (hlP_ : LaidP w) :
    Calls Tryd.prog 6 #[.slice a0 len0 cap0] w fun e w' => e = .returned (.bool true) ∧ Below w.heap.size w w' := by
  obtain ⟨l0, rfl, hr0, hm0, hw0, hc0⟩ := ReadsInt.ofRowC w0
  obtain ⟨k, h⟩ := P l0 hm0 y0 hw0
  refine (laws_FnExactListText.calls k _ _ l0 true w (Kd.C_of_reads (d := (0 : Int)) (h1 := fun _ => rfl) hr0) hc0 hlP_ h).mono ?_
  rintro e w' ⟨rfl, hd⟩
  exact ⟨rfl, hd⟩

end Go.Proofs.YtepdfefgkhodlaaDoor.F
