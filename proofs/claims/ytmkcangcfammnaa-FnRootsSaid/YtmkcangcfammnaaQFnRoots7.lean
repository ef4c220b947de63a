-- Texts of this claim, merged by pack.py (a program of this session's).
import Derived.Test.YtmkcangcfammnaaQFnRoots0
import Derived.Test.YtmkcangcfammnaaQFnRoots2
import Derived.Test.YtmkcangcfammnaaQFnRoots5
import Derived.Test.YtmkcangcfammnaaQFnRoots6
import Derived.Test.YtmkcangcfammnaaQFnRoots3
import Derived.Test.YtmkcangcfammnaaQFnRoots4

section
namespace Go.Proofs.Ytmkcangcfammnaa.F
open Go.RowKit Go.Proofs.YtmkcangcfammnaaW.PrintWords Go.Proofs.YtmkcangcfammnaaW.PrintLast Go.Proofs.YtmkcangcfammnaaW.PrintMore
attribute [local go_sem] max2_int min2_int max_two min_two max_three min_three max_four min_four   -- for this text's walks alone
set_option linter.unusedVariables false
set_option linter.unusedSimpArgs false

/-! ### impl_isElement: function 49 -/
def impl_isElement.f (a0 : Int) (a1 : Int) : Option (Bool) := (impl_within.f a0 0 (wrap64 (a1 - 1))).bind fun t101 => (some t101)
set_option maxHeartbeats 8000000 in
set_option maxRecDepth 100000 in
theorem impl_isElement.calls (a0 : Int) (a1 : Int) (r : Bool) (w : World) (h : impl_isElement.f a0 a1 = some r) :
  Calls Try.prog 49 #[.int .i64 a0, .int .i64 a1] w fun e w' => e = .returned (.bool r) ∧ Drawn0 w w' := by
 have H : ((impl_within.f a0 0 (wrap64 (a1 - 1))).bind fun t101 => (some t101)) = some r := h
 clear h
 replace H := Option.bind_eq_some_iff.mp H
 obtain ⟨t101, A30, H⟩ := H
 replace H : (some t101) = some r := H
 have A3 := Aside0.mk A30
 clear A30
 obtain rfl := Option.some.inj H
 go_enter Try.func49, Try.ntmps49
 go_wp2_with (first | ((with_reducible refine gate_callee (f := 29) rfl ?_); refine goesL_ (some 8) rfl rfl Try.func29 (by kernel_rfl) rfl #[.int .i64 a0, .int .i64 0, .int .i64 (wrap64 (a1 - 1))] rfl (by (try simp only [List.map_toArray, List.map_cons, List.map_nil]); first | done | rfl | (simp only [List.length_drop, List.length_take]; rfl)) ?_; (with_reducible refine (impl_within.calls a0 0 (wrap64 (a1 - 1)) t101 _ A3.out).mono ?_); rintro e w' ⟨rfl, ⟨nd, rfl⟩⟩; refine ⟨_, rfl, ?_⟩))
 go_ret
 exact ⟨(by first | rfl | (simp; done) | (simp [*]; done)), (by repeat (first | exact Drawn0.refl _ | apply Drawn0.step))⟩

end Go.Proofs.Ytmkcangcfammnaa.F
end

section
namespace Go.Proofs.Ytmkcangcfammnaa.F
open Go.RowKit Go.Proofs.YtmkcangcfammnaaW.PrintWords Go.Proofs.YtmkcangcfammnaaW.PrintLast Go.Proofs.YtmkcangcfammnaaW.PrintMore
attribute [local go_sem] max2_int min2_int max_two min_two max_three min_three max_four min_four   -- for this text's walks alone
set_option linter.unusedVariables false
set_option linter.unusedSimpArgs false

/-! ### impl_ScaleVector: function 24 -/
def impl_ScaleVector.f (k : Nat) (l0 : List Int) (a1 : Int) (a2 : Int) : Option (List Int × Int) := (impl_ValidVector.f k l0 a2).bind fun t101 => (if t101 = true then ((impl_isElement.f a1 a2).bind fun t102 => (if t102 = true then (if 0 ≤ (l0.length : Int) then (if ((l0.length : Int) : Int).toNat ≤ 35184372088832 then ((impl_addTimes.f k (List.replicate ((l0.length : Int) : Int).toNat 0) l0 a1 a2).bind fun t106 => (some (t106, 0))) else (none)) else (none)) else (some (([] : List Int), 2)))) else (some (([] : List Int), 1)))
theorem impl_ScaleVector.mono : ∀ a0 a1 a2 k, LeO (impl_ScaleVector.f k a0 a1 a2) (impl_ScaleVector.f (k + 1) a0 a1 a2) := by
  intro a0 a1 a2 k
  unfold impl_ScaleVector.f
  repeat' first
      | (with_reducible exact impl_ValidVector.mono _ _ _)
      | (with_reducible exact impl_addTimes.mono _ _ _ _ _)
      | (with_reducible exact LeO.refl _)
      | (with_reducible exact LeO.none _)
      | (with_reducible refine LeO.ite ?_ ?_)
      | (with_reducible refine LeO.bind ?_ (fun _ => ?_))
      | exact impl_ValidVector.mono _ _ _
      | exact impl_addTimes.mono _ _ _ _ _
      | exact LeO.none _
      | refine LeO.ite ?_ ?_
      | refine LeO.bind ?_ (fun _ => ?_)
theorem Z24.z4 {P : Prop} (h : P := by first | exact Kd.R_nil _ _ _ _ _ | exact Kd.N_nil _ _ _ _ _ | exact Kd.V_nil _ _ _ _ _ | exact Kd.Q_nil _ _ _ _ _ | exact Kd.S_nil _ _ _ _ _) : P := h
theorem Z24.z3 {P : Prop} (h : P := by first | rfl | (simp [errW_none, errW_some] <;> rfl) | (simp [*, errW_none, errW_some] <;> rfl)) : P := h
theorem Z24.z2 {P : Prop} (h : P := by repeat (first | exact HR0.out | (with_reducible refine Kd.C_alloc ?_ _) | (with_reducible refine Kd.C_drewN ?_ _) | (with_reducible refine Kd.C_drew ?_))) : P := h
theorem Z24.z1 {P : Prop} (h : P := by (try simp only [List.map_toArray, List.map_cons, List.map_nil]); first | done | rfl | (simp only [List.length_drop, List.length_take]; rfl)) : P := h
theorem Z24.z0 {P : Prop} (h : P := by repeat (first | (with_reducible first | exact HB.out | apply below_alloc | apply pw_below_drewN | apply below_drew1) | exact HB.out)) : P := h
set_option maxHeartbeats 8000000 in
set_option maxRecDepth 100000 in
theorem impl_ScaleVector.calls (k : Nat) (A0 : Option Addr) (c0 : Nat) (l0 : List Int) (a1 : Int) (a2 : Int) (r1 : List Int) (r2 : Int) (w : World) (hr0 : Kd.C (Kd.int .i64) w A0 l0.length l0) (hc0 : l0.length ≤ c0) (h : impl_ScaleVector.f k l0 a1 a2 = some (r1, r2)) :
  Calls Try.prog 24 #[.slice A0 l0.length c0, .int .i64 a1, .int .i64 a2] w fun e w' => ∃ v0_ : Value, e = .returned (.tuple #[v0_, .int .i64 r2]) ∧ Kd.R (Kd.int .i64) 2 w' w.heap.size (fun _ => True) v0_ r1 ∧ Below w.heap.size w w' := by
 have HR0 := Aside0.mk hr0
 have HC0 := Aside0.mk hc0
 clear hr0 hc0
 have HB := Aside0.mk (Below.refl w.heap.size w)
 have H : ((impl_ValidVector.f k l0 a2).bind fun t101 => (if t101 = true then ((impl_isElement.f a1 a2).bind fun t102 => (if t102 = true then (if 0 ≤ (l0.length : Int) then (if ((l0.length : Int) : Int).toNat ≤ 35184372088832 then ((impl_addTimes.f k (List.replicate ((l0.length : Int) : Int).toNat 0) l0 a1 a2).bind fun t106 => (some (t106, 0))) else (none)) else (none)) else (some (([] : List Int), 2)))) else (some (([] : List Int), 1)))) = some (r1, r2) := h
 clear h
 replace H := Option.bind_eq_some_iff.mp H
 obtain ⟨t101, A40, H⟩ := H
 replace H : (if t101 = true then ((impl_isElement.f a1 a2).bind fun t102 => (if t102 = true then (if 0 ≤ (l0.length : Int) then (if ((l0.length : Int) : Int).toNat ≤ 35184372088832 then ((impl_addTimes.f k (List.replicate ((l0.length : Int) : Int).toNat 0) l0 a1 a2).bind fun t106 => (some (t106, 0))) else (none)) else (none)) else (some (([] : List Int), 2)))) else (some (([] : List Int), 1))) = some (r1, r2) := H
 have A4 := Aside0.mk A40
 clear A40
 by_cases c5 : t101 = true
 ·subst c5
  have H1 : ((impl_isElement.f a1 a2).bind fun t102 => (if t102 = true then (if 0 ≤ (l0.length : Int) then (if ((l0.length : Int) : Int).toNat ≤ 35184372088832 then ((impl_addTimes.f k (List.replicate ((l0.length : Int) : Int).toNat 0) l0 a1 a2).bind fun t106 => (some (t106, 0))) else (none)) else (none)) else (some (([] : List Int), 2)))) = some (r1, r2) := by rw [if_pos rfl] at H; exact H
  clear H
  have H := H1
  clear H1
  replace H := Option.bind_eq_some_iff.mp H
  obtain ⟨t102, A60, H⟩ := H
  replace H : (if t102 = true then (if 0 ≤ (l0.length : Int) then (if ((l0.length : Int) : Int).toNat ≤ 35184372088832 then ((impl_addTimes.f k (List.replicate ((l0.length : Int) : Int).toNat 0) l0 a1 a2).bind fun t106 => (some (t106, 0))) else (none)) else (none)) else (some (([] : List Int), 2))) = some (r1, r2) := H
  have A6 := Aside0.mk A60
  clear A60
  by_cases c7 : t102 = true
  ·subst c7
   have H1 : (if 0 ≤ (l0.length : Int) then (if ((l0.length : Int) : Int).toNat ≤ 35184372088832 then ((impl_addTimes.f k (List.replicate ((l0.length : Int) : Int).toNat 0) l0 a1 a2).bind fun t106 => (some (t106, 0))) else (none)) else (none)) = some (r1, r2) := by rw [if_pos rfl] at H; exact H
   clear H
   have H := H1
   clear H1
   by_cases c8 : 0 ≤ (l0.length : Int)
   ·rw [if_pos c8] at H
    have c8b0 := eq_true c8
    have c8b1 : decide (0 ≤ (l0.length : Int)) = true := decide_eq_true c8
    clear c8
    by_cases c9 : ((l0.length : Int) : Int).toNat ≤ 35184372088832
    ·rw [if_pos c9] at H
     have c9b0 := eq_true c9
     have c9b1 : decide (((l0.length : Int) : Int).toNat ≤ 35184372088832) = true := decide_eq_true c9
     clear c9
     obtain ⟨y103, hy103⟩ : ∃ y_ : List Int, y_ = (List.replicate ((l0.length : Int) : Int).toNat 0) := ⟨_, rfl⟩
     replace H : ((impl_addTimes.f k y103 l0 a1 a2).bind fun t106 => (some (t106, 0))) = some (r1, r2) := by first | (rw [hy103]; with_reducible exact H) | (have H2_ := (Option.bind_some _ _).symm.trans H; rw [hy103]; with_reducible exact H2_) | (have H2_ := (Option.bind_some _ _).symm.trans H; with_reducible exact H2_) | with_reducible exact H | (rw [hy103]; exact H) | exact H
     have Ny103 := Aside0.mk hy103
     clear hy103
     replace H := Option.bind_eq_some_iff.mp H
     obtain ⟨t106, A100, H⟩ := H
     replace H : (some (t106, 0)) = some (r1, r2) := H
     have A10 := Aside0.mk A100
     clear A100
     simp only [Option.some.injEq, Prod.mk.injEq] at H
     obtain ⟨rfl, rfl⟩ := H
     go_enter Try.func24, Try.ntmps24
     go_wp2_with (first | ((with_reducible refine gate_callee (f := 48) rfl ?_); refine goesL_ (some 10) rfl rfl Try.func48 (by kernel_rfl) rfl #[.slice A0 l0.length c0, .int .i64 a2] rfl Z24.z1 ?_; (with_reducible refine (impl_ValidVector.calls k _ _ l0 a2 true _ ?side1 ?side2 A4.out).mono ?_); (case side1 => exact Z24.z2); (case side2 => exact HC0.out); rintro e w11 ⟨rfl, hb⟩; refine ⟨_, rfl, ?_⟩; have n0_ := Aside0.mk (below_step Z24.z0 hb); clear HB; have HB := n0_; clear n0_; (try clear hb); (try clear hb2); (try clear hk); (try clear hi)) | ((with_reducible refine gate_callee (f := 49) rfl ?_); refine goesL_ (some 14) rfl rfl Try.func49 (by kernel_rfl) rfl #[.int .i64 a1, .int .i64 a2] rfl Z24.z1 ?_; (with_reducible refine (impl_isElement.calls a1 a2 true _ A6.out).mono ?_); rintro e w' ⟨rfl, ⟨nd, rfl⟩⟩; refine ⟨_, rfl, ?_⟩) | ((with_reducible refine gate_dst (N := 18) rfl ?_); refine Kd.R_make (Kd.int .i64) _ 2 rfl (N := 18) rfl 25 _ _ rfl (l0.length : Int) rfl rfl Try.underlying25 (.int .i64 0) 8 info2 rfl (by decide) (by omega) 0 (ok := fun _ => True) (okp := fun _ => True) rfl (fun _ hk => hk) trivial (of_decide_eq_true (by first | (with_reducible assumption) | assumption)) (Nat.le_trans (Nat.mul_le_mul_right _ (of_decide_eq_true (by first | (with_reducible assumption) | assumption) : (l0.length : Int).toNat ≤ 35184372088832)) (by omega)) (Below.refl _ _) (Nat.le_refl _) ?_; intro v104 w12 ho13 hb hg_ hnew_; clear hg_ hnew_; (first | rw [← Ny103.out] at ho13 | (simp only [Int.reduceToNat] at ho13; rw [← Ny103.out] at ho13)); have n0_ := Aside0.mk (Kd.R_lower ho13 (below_size Z24.z0)); have n1_ := Aside0.mk (below_step Z24.z0 hb); clear HB; have HO105 := n0_; have HB := n1_; clear n0_ n1_; clear hb ho13; obtain ⟨Ao14, co14, eo14⟩ := Kd.R_slice HO105.out; subst eo14) | ((with_reducible refine gate_callee (f := 47) rfl ?_); refine goesL_ (some 22) rfl rfl Try.func47 (by kernel_rfl) rfl #[.slice Ao14 y103.length co14, .slice A0 l0.length c0, .int .i64 a1, .int .i64 a2] rfl Z24.z1 ?_; (with_reducible refine (impl_addTimes.calls k _ _ y103 _ _ l0 a1 a2 t106 _ ?side1 ?side2 ?side3 ?side4 A10.out).mono ?_); (case side1 => exact (by repeat (first | exact (Kd.R_reads' HO105.out).2.2 | (with_reducible refine Kd.C_alloc ?_ _) | (with_reducible refine Kd.C_drewN ?_ _) | (with_reducible refine Kd.C_drew ?_)))); (case side2 => exact (Kd.R_reads' HO105.out).2.1); (case side3 => exact (by repeat (first | exact (Kd.C_below HR0.out HB.out) | (with_reducible refine Kd.C_alloc ?_ _) | (with_reducible refine Kd.C_drewN ?_ _) | (with_reducible refine Kd.C_drew ?_)))); (case side4 => exact HC0.out); rintro e w15 ⟨v107, rfl, ho0, hb⟩; refine ⟨_, rfl, ?_⟩; have n0_ := Aside0.mk (Kd.R_elder' (by (with_reducible repeat (first | apply Kd.R_alloc | apply Kd.R_drewN | apply Kd.R_drew)); exact HO105.out) (Kd.R_base ho0) hb); have n1_ := Aside0.mk (Kd.R_lower (Kd.R_new' ho0 (Kd.R_lt (by (with_reducible repeat (first | apply Kd.R_alloc | apply Kd.R_drewN | apply Kd.R_drew)); exact HO105.out))) (below_size Z24.z0)); have n2_ := Aside0.mk (below_step Z24.z0 hb); clear HO105 HB; have HO105 := n0_; have HO108 := n1_; have HB := n2_; clear n0_ n1_ n2_; (try clear hb); (try clear hb2); (try clear hk); (try clear hi); (try clear ho0)))
     go_ret2
     exact ⟨_, Z24.z3, (by (with_reducible repeat (first | apply Kd.R_alloc | apply Kd.R_drewN | apply Kd.R_drew)); exact Kd.R_mono HO108.out (fun _ hk => trivial)), Z24.z0⟩
    rw [if_neg c9] at H
    exact absurd H (by simp)
   rw [if_neg c8] at H
   exact absurd H (by simp)
  replace c7 := Bool.eq_false_iff.mpr c7
  subst c7
  have H1 : (some (([] : List Int), 2)) = some (r1, r2) := by rw [if_neg (show ¬ (false = true) by decide)] at H; exact H
  clear H
  have H := H1
  clear H1
  simp only [Option.some.injEq, Prod.mk.injEq] at H
  obtain ⟨rfl, rfl⟩ := H
  go_enter Try.func24, Try.ntmps24
  go_wp2_with (first | ((with_reducible refine gate_callee (f := 48) rfl ?_); refine goesL_ (some 10) rfl rfl Try.func48 (by kernel_rfl) rfl #[.slice A0 l0.length c0, .int .i64 a2] rfl Z24.z1 ?_; (with_reducible refine (impl_ValidVector.calls k _ _ l0 a2 true _ ?side1 ?side2 A4.out).mono ?_); (case side1 => exact Z24.z2); (case side2 => exact HC0.out); rintro e w16 ⟨rfl, hb⟩; refine ⟨_, rfl, ?_⟩; have n0_ := Aside0.mk (below_step Z24.z0 hb); clear HB; have HB := n0_; clear n0_; (try clear hb); (try clear hb2); (try clear hk); (try clear hi)) | ((with_reducible refine gate_callee (f := 49) rfl ?_); refine goesL_ (some 14) rfl rfl Try.func49 (by kernel_rfl) rfl #[.int .i64 a1, .int .i64 a2] rfl Z24.z1 ?_; (with_reducible refine (impl_isElement.calls a1 a2 false _ A6.out).mono ?_); rintro e w' ⟨rfl, ⟨nd, rfl⟩⟩; refine ⟨_, rfl, ?_⟩))
  go_ret2
  exact ⟨_, Z24.z3, Z24.z4, Z24.z0⟩
 replace c5 := Bool.eq_false_iff.mpr c5
 subst c5
 have H1 : (some (([] : List Int), 1)) = some (r1, r2) := by rw [if_neg (show ¬ (false = true) by decide)] at H; exact H
 clear H
 have H := H1
 clear H1
 simp only [Option.some.injEq, Prod.mk.injEq] at H
 obtain ⟨rfl, rfl⟩ := H
 go_enter Try.func24, Try.ntmps24
 go_wp2_with (first | ((with_reducible refine gate_callee (f := 48) rfl ?_); refine goesL_ (some 10) rfl rfl Try.func48 (by kernel_rfl) rfl #[.slice A0 l0.length c0, .int .i64 a2] rfl Z24.z1 ?_; (with_reducible refine (impl_ValidVector.calls k _ _ l0 a2 false _ ?side1 ?side2 A4.out).mono ?_); (case side1 => exact Z24.z2); (case side2 => exact HC0.out); rintro e w17 ⟨rfl, hb⟩; refine ⟨_, rfl, ?_⟩; have n0_ := Aside0.mk (below_step Z24.z0 hb); clear HB; have HB := n0_; clear n0_; (try clear hb); (try clear hb2); (try clear hk); (try clear hi)))
 go_ret2
 exact ⟨_, Z24.z3, Z24.z4, Z24.z0⟩

end Go.Proofs.Ytmkcangcfammnaa.F
end

section
namespace Go.Proofs.Ytmkcangcfammnaa.F
open Go.RowKit Go.Proofs.YtmkcangcfammnaaW.PrintWords Go.Proofs.YtmkcangcfammnaaW.PrintLast Go.Proofs.YtmkcangcfammnaaW.PrintMore
attribute [local go_sem] max2_int min2_int max_two min_two max_three min_three max_four min_four   -- for this text's walks alone
set_option linter.unusedVariables false
set_option linter.unusedSimpArgs false

/-! ### laws_b10Nums: function 25 -/
def laws_b10Nums.l0 : Nat → List Int → List Int → Int → Option (Bool)
  | 0, _, _, _ => none
  | k + 1, x0, x1, x5 => if x5 < (x0.length : Int) then (if 0 ≤ x5 then (if x5 < (x1.length : Int) then (if (rd x0 x5) = (rd x1 x5) then (laws_b10Nums.l0 k x0 x1 (wrap64 (x5 + 1))) else (some false)) else (none)) else (none)) else (some true)
def laws_b10Nums.f (k : Nat) (l0 : List Int) (l1 : List Int) : Option (Bool) := if (l0.length : Int) = (l1.length : Int) then (laws_b10Nums.l0 k l0 l1 0) else (some false)
theorem laws_b10Nums.mono_l : ∀ k, (∀ y0 y1 y2, LeO (laws_b10Nums.l0 k y0 y1 y2) (laws_b10Nums.l0 (k + 1) y0 y1 y2))
  | 0 => fun _ _ _ r h => by simp [laws_b10Nums.l0] at h
  | k + 1 => by
    have ih0 := laws_b10Nums.mono_l k
    · intro y0 y1 y2
      unfold laws_b10Nums.l0
      repeat' first
      | (with_reducible exact ih0 _ _ _)
      | (with_reducible exact LeO.refl _)
      | (with_reducible exact LeO.none _)
      | (with_reducible refine LeO.ite ?_ ?_)
      | (with_reducible refine LeO.bind ?_ (fun _ => ?_))
      | exact ih0 _ _ _
      | exact LeO.none _
      | refine LeO.ite ?_ ?_
      | refine LeO.bind ?_ (fun _ => ?_)
theorem laws_b10Nums.mono : ∀ a0 a1 k, LeO (laws_b10Nums.f k a0 a1) (laws_b10Nums.f (k + 1) a0 a1) := by
  intro a0 a1 k
  have ih0 := laws_b10Nums.mono_l k
  unfold laws_b10Nums.f
  repeat' first
      | (with_reducible exact ih0 _ _ _)
      | (with_reducible exact LeO.refl _)
      | (with_reducible exact LeO.none _)
      | (with_reducible refine LeO.ite ?_ ?_)
      | (with_reducible refine LeO.bind ?_ (fun _ => ?_))
      | exact ih0 _ _ _
      | exact LeO.none _
      | refine LeO.ite ?_ ?_
      | refine LeO.bind ?_ (fun _ => ?_)
theorem Z25.z2 {P : Prop} (h : P := by first | rfl | (simp; done) | (simp [*]; done)) : P := h
theorem Z25.z1 {P : Prop} (h : P := by repeat (first | exact Drawn0.refl _ | apply Drawn0.step)) : P := h
theorem Z25.z0 {P : Prop} (h : P := by first | (with_reducible assumption) | assumption) : P := h
set_option maxHeartbeats 8000000 in
set_option maxRecDepth 100000 in
theorem laws_b10Nums.calls (k : Nat) (A0 : Option Addr) (c0 : Nat) (l0 : List Int) (A1 : Option Addr) (c1 : Nat) (l1 : List Int) (r : Bool) (w : World) (hr0 : Kd.C (Kd.int .i64) w A0 l0.length l0) (hc0 : l0.length ≤ c0) (hr1 : Kd.C (Kd.int .i64) w A1 l1.length l1) (hc1 : l1.length ≤ c1) (h : laws_b10Nums.f k l0 l1 = some r) :
  Calls Try.prog 25 #[.slice A0 l0.length c0, .slice A1 l1.length c1] w fun e w' => e = .returned (.bool r) ∧ Drawn0 w w' := by
 have HR0 := Aside0.mk hr0
 have HC0 := Aside0.mk hc0
 clear hr0 hc0
 have HR1 := Aside0.mk hr1
 have HC1 := Aside0.mk hc1
 clear hr1 hc1
 have H : (if (l0.length : Int) = (l1.length : Int) then (laws_b10Nums.l0 k l0 l1 0) else (some false)) = some r := h
 clear h
 by_cases c3 : (l0.length : Int) = (l1.length : Int)
 ·rw [if_pos c3] at H
  have c3b0 : ((l0.length : Int) == (l1.length : Int)) = true := beq_iff_eq.mpr c3
  have c3b1 : ((l0.length : Int) != (l1.length : Int)) = false := bne_eq_false_iff_eq.mpr c3
  have c3b2 : (l0.length == l1.length) = true := by first | simpa using c3 | (simp at c3 ⊢; omega)
  clear c3
  have H' := Aside0.mk H
  clear H
  go_enter Try.func25, Try.ntmps25
  go_wp2
  repeat (go_quiet (fail); try go_wp2)
  go_loopg [5] k (fun kq v5 w' => ∃ (x5_1 : Int), v5 = .int .i64 x5_1 ∧ Aside0 (laws_b10Nums.l0 kq l0 l1 x5_1 = some r) ∧ Aside0 (kq ≤ k) ∧ Drawn0 w w')
  case atStart => exact ⟨(0), Z25.z2, H', ⟨Nat.le_refl _⟩, Z25.z1⟩
  case round =>
   clear H'
   try clear c1
   try clear c2
   try clear p2
   try clear c3
   try clear c3b0
   try clear c3b1
   try clear c3b2
   obtain ⟨x5_1, rfl, HA, HK1, ⟨m1, rfl⟩⟩ := hrel
   cases gk with
   | zero => exact absurd HA.out (by simp [laws_b10Nums.l0])
   | succ k1 =>
    have H := HA.out
    clear HA
    simp only [laws_b10Nums.l0] at H
    by_cases c4 : x5_1 < (l0.length : Int)
    ·rw [if_pos c4] at H
     have c4b0 : decide (x5_1 < (l0.length : Int)) = true := decide_eq_true c4
     clear c4
     by_cases c5 : 0 ≤ x5_1
     ·rw [if_pos c5] at H
      have c5b0 : decide (0 ≤ x5_1) = true := decide_eq_true c5
      clear c5
      by_cases c6 : x5_1 < (l1.length : Int)
      ·rw [if_pos c6] at H
       have c6b0 : decide (x5_1 < (l1.length : Int)) = true := decide_eq_true c6
       clear c6
       by_cases c7 : (rd l0 x5_1) = (rd l1 x5_1)
       ·rw [if_pos c7] at H
        have c7b0 : ((rd l0 x5_1) == (rd l1 x5_1)) = true := beq_iff_eq.mpr c7
        have c7b1 : ((rd l0 x5_1) != (rd l1 x5_1)) = false := bne_eq_false_iff_eq.mpr c7
        clear c7
        have H' := Aside0.mk H
        clear H
        have p101 : 0 ≤ (x5_1 : Int) := of_decide_eq_true Z25.z0
        have q101 : x5_1 < (l0.length : Int) := of_decide_eq_true Z25.z0
        obtain ⟨ad101, e101, hx101_0⟩ := Kd.at_int HR0.out x5_1 p101 q101
        cases e101
        replace p101 := eq_true p101
        replace q101 := eq_true q101
        have p102 : 0 ≤ (x5_1 : Int) := of_decide_eq_true Z25.z0
        have q102 : x5_1 < (l1.length : Int) := of_decide_eq_true Z25.z0
        obtain ⟨ad102, e102, hx102_0⟩ := Kd.at_int HR1.out x5_1 p102 q102
        cases e102
        replace p102 := eq_true p102
        replace q102 := eq_true q102
        go_wp2
        repeat (go_quiet (fail); try go_wp2)
        go_roundg k1
        case measure => have := HK1.out; omega
        case rel => exact ⟨(wrap64 (x5_1 + 1)), Z25.z2, H', ⟨(by have := HK1.out; omega)⟩, Z25.z1⟩
       rw [if_neg c7] at H
       have c7b0 : ((rd l0 x5_1) == (rd l1 x5_1)) = false := beq_eq_false_iff_ne.mpr c7
       have c7b1 : ((rd l0 x5_1) != (rd l1 x5_1)) = true := bne_iff_ne.mpr c7
       obtain rfl := Option.some.inj H
       have p101 : 0 ≤ (x5_1 : Int) := of_decide_eq_true Z25.z0
       have q101 : x5_1 < (l0.length : Int) := of_decide_eq_true Z25.z0
       obtain ⟨ad101, e101, hx101_0⟩ := Kd.at_int HR0.out x5_1 p101 q101
       cases e101
       replace p101 := eq_true p101
       replace q101 := eq_true q101
       have p102 : 0 ≤ (x5_1 : Int) := of_decide_eq_true Z25.z0
       have q102 : x5_1 < (l1.length : Int) := of_decide_eq_true Z25.z0
       obtain ⟨ad102, e102, hx102_0⟩ := Kd.at_int HR1.out x5_1 p102 q102
       cases e102
       replace p102 := eq_true p102
       replace q102 := eq_true q102
       go_wp2
       repeat (go_quiet (fail); try go_wp2)
       go_ret
       exact ⟨Z25.z2, Z25.z1⟩
      rw [if_neg c6] at H
      exact absurd H (by simp)
     rw [if_neg c5] at H
     exact absurd H (by simp)
    rw [if_neg c4] at H
    have c4b0 : decide (x5_1 < (l0.length : Int)) = false := decide_eq_false c4
    clear c4
    obtain rfl := Option.some.inj H
    go_wp2
    repeat (go_quiet (fail); try go_wp2)
    go_ret
    exact ⟨Z25.z2, Z25.z1⟩
 rw [if_neg c3] at H
 have c3b0 : ((l0.length : Int) == (l1.length : Int)) = false := beq_eq_false_iff_ne.mpr c3
 have c3b1 : ((l0.length : Int) != (l1.length : Int)) = true := bne_iff_ne.mpr c3
 have c3b2 : (l0.length == l1.length) = false := by first | simpa using c3 | (simp at c3 ⊢; omega)
 obtain rfl := Option.some.inj H
 go_enter Try.func25, Try.ntmps25
 go_wp2
 repeat (go_quiet (fail); try go_wp2)
 go_ret
 exact ⟨Z25.z2, Z25.z1⟩

end Go.Proofs.Ytmkcangcfammnaa.F
end

section
namespace Go.Proofs.Ytmkcangcfammnaa.F
open Go.RowKit Go.Proofs.YtmkcangcfammnaaW.PrintWords Go.Proofs.YtmkcangcfammnaaW.PrintLast Go.Proofs.YtmkcangcfammnaaW.PrintMore
attribute [local go_sem] max2_int min2_int max_two min_two max_three min_three max_four min_four   -- for this text's walks alone
set_option linter.unusedVariables false
set_option linter.unusedSimpArgs false

/-! ### laws_FnRoots: function 6 -/
mutual
def laws_FnRoots.j0 : Nat → List Int → List Int → Bool → Option (Bool)
  | 0, _, _, _ => none
  | k + 1, x0, x1, x31 => if x31 = true then (some true) else ((spec_DrawSquareRootOf.f k x0).bind fun bt103 => ((impl_SquareRootOf.f k bt103.1 bt103.2).bind fun bt105 => ((impl_LegendreOf.f k bt103.1 bt103.2).bind fun bt107 => (if bt105.2 = 0 then ((spec_ValidPrime.f k bt103.2).bind fun t109 => (if t109 = true then (if bt105.1 < 0 then (laws_FnRoots.j1 k x1 bt105.2 bt107.1 bt107.2 true) else (if bt105.1 ≥ bt103.2 then (laws_FnRoots.j1 k x1 bt105.2 bt107.1 bt107.2 true) else (if bt103.2 = 0 then (none) else (if (Int.tmod (wrap64 (bt105.1 * bt105.1)) bt103.2) = bt103.1 then (if bt107.2 = 0 then (if bt107.1 < 0 then (laws_FnRoots.j1 k x1 bt105.2 bt107.1 bt107.2 true) else (laws_FnRoots.j1 k x1 bt105.2 bt107.1 bt107.2 ((bt107.1 == 0) != (bt103.1 == 0)))) else (laws_FnRoots.j1 k x1 bt105.2 bt107.1 bt107.2 true)) else (laws_FnRoots.j1 k x1 bt105.2 bt107.1 bt107.2 true))))) else (laws_FnRoots.j1 k x1 bt105.2 bt107.1 bt107.2 true))) else (laws_FnRoots.j1 k x1 bt105.2 bt107.1 bt107.2 false)))))
def laws_FnRoots.j1 : Nat → List Int → Int → Int → Int → Bool → Option (Bool)
  | 0, _, _, _, _, _ => none
  | k + 1, x1, x8, x9, x10, x88 => if x88 = true then (some false) else (if x8 = 3 then (if x10 = 0 then (laws_FnRoots.j2 k x1 (x9 != (-1))) else (laws_FnRoots.j2 k x1 true)) else (laws_FnRoots.j2 k x1 false))
def laws_FnRoots.j2 : Nat → List Int → Bool → Option (Bool)
  | 0, _, _ => none
  | k + 1, x1, x98 => if x98 = true then (some false) else ((spec_DrawDotOf.f k x1).bind fun bt110 => ((impl_DotOf.f k bt110.1 bt110.2.1 bt110.2.2).bind fun bt117 => ((impl_AddVectors.f k bt110.1 bt110.2.1 bt110.2.2).bind fun bt119 => (if bt117.2 = bt119.2 then (if bt117.2 = 0 then ((spec_ValidPrime.f k bt110.2.2).bind fun t123 => (if t123 = true then ((impl_DotOf.f k bt119.1 bt110.2.1 bt110.2.2).bind fun bt124 => ((impl_DotOf.f k bt110.2.1 bt110.2.1 bt110.2.2).bind fun bt126 => (if bt110.2.2 = 0 then (none) else ((impl_ScaleVector.f k bt110.1 ((2 : Int) % bt110.2.2) bt110.2.2).bind fun bt128 => ((impl_AddVectors.f k bt110.1 bt110.1 bt110.2.2).bind fun bt132 => (if bt124.2 = 0 then (if bt126.2 = 0 then (if bt124.1 = (Int.tmod (wrap64 (bt117.1 + bt126.1)) bt110.2.2) then (if bt128.2 = 0 then (if bt132.2 = 0 then ((laws_b10Nums.f k bt128.1 bt132.1).bind fun t136 => (some t136)) else (some false)) else (some false)) else (some false)) else (some false)) else (some false))))))) else (some false))) else (if bt117.1 = 0 then (some ((bt119.1.length : Int) == 0)) else (some false))) else (some false)))))
end
def laws_FnRoots.f (k : Nat) (l0 : List Int) (l1 : List Int) : Option (Bool) := (laws_b10Long.f l0).bind fun t101 => (if t101 = true then (laws_FnRoots.j0 k l0 l1 true) else ((laws_b10Long.f l1).bind fun t102 => (laws_FnRoots.j0 k l0 l1 t102)))
theorem laws_FnRoots.mono_l : ∀ k, (∀ y0 y1 y2, LeO (laws_FnRoots.j0 k y0 y1 y2) (laws_FnRoots.j0 (k + 1) y0 y1 y2)) ∧ (∀ y0 y1 y2 y3 y4, LeO (laws_FnRoots.j1 k y0 y1 y2 y3 y4) (laws_FnRoots.j1 (k + 1) y0 y1 y2 y3 y4)) ∧ (∀ y0 y1, LeO (laws_FnRoots.j2 k y0 y1) (laws_FnRoots.j2 (k + 1) y0 y1))
  | 0 => ⟨fun _ _ _ r h => by simp [laws_FnRoots.j0] at h, fun _ _ _ _ _ r h => by simp [laws_FnRoots.j1] at h, fun _ _ r h => by simp [laws_FnRoots.j2] at h⟩
  | k + 1 => by
    obtain ⟨ih0, ih1, ih2⟩ := laws_FnRoots.mono_l k
    refine ⟨?_, ?_, ?_⟩
    · intro y0 y1 y2
      unfold laws_FnRoots.j0
      repeat' first
      | (with_reducible exact ih0 _ _ _)
      | (with_reducible exact ih1 _ _ _ _ _)
      | (with_reducible exact ih2 _ _)
      | (with_reducible exact impl_AddVectors.mono _ _ _ _)
      | (with_reducible exact impl_DotOf.mono _ _ _ _)
      | (with_reducible exact impl_LegendreOf.mono _ _ _)
      | (with_reducible exact impl_ScaleVector.mono _ _ _ _)
      | (with_reducible exact impl_SquareRootOf.mono _ _ _)
      | (with_reducible exact laws_b10Nums.mono _ _ _)
      | (with_reducible exact spec_DrawDotOf.mono _ _)
      | (with_reducible exact spec_DrawSquareRootOf.mono _ _)
      | (with_reducible exact spec_ValidPrime.mono _ _)
      | (with_reducible exact LeO.refl _)
      | (with_reducible exact LeO.none _)
      | (with_reducible refine LeO.ite ?_ ?_)
      | (with_reducible refine LeO.bind ?_ (fun _ => ?_))
      | exact ih0 _ _ _
      | exact ih1 _ _ _ _ _
      | exact ih2 _ _
      | exact impl_AddVectors.mono _ _ _ _
      | exact impl_DotOf.mono _ _ _ _
      | exact impl_LegendreOf.mono _ _ _
      | exact impl_ScaleVector.mono _ _ _ _
      | exact impl_SquareRootOf.mono _ _ _
      | exact laws_b10Nums.mono _ _ _
      | exact spec_DrawDotOf.mono _ _
      | exact spec_DrawSquareRootOf.mono _ _
      | exact spec_ValidPrime.mono _ _
      | exact LeO.none _
      | refine LeO.ite ?_ ?_
      | refine LeO.bind ?_ (fun _ => ?_)
    · intro y0 y1 y2 y3 y4
      unfold laws_FnRoots.j1
      repeat' first
      | (with_reducible exact ih0 _ _ _)
      | (with_reducible exact ih1 _ _ _ _ _)
      | (with_reducible exact ih2 _ _)
      | (with_reducible exact impl_AddVectors.mono _ _ _ _)
      | (with_reducible exact impl_DotOf.mono _ _ _ _)
      | (with_reducible exact impl_LegendreOf.mono _ _ _)
      | (with_reducible exact impl_ScaleVector.mono _ _ _ _)
      | (with_reducible exact impl_SquareRootOf.mono _ _ _)
      | (with_reducible exact laws_b10Nums.mono _ _ _)
      | (with_reducible exact spec_DrawDotOf.mono _ _)
      | (with_reducible exact spec_DrawSquareRootOf.mono _ _)
      | (with_reducible exact spec_ValidPrime.mono _ _)
      | (with_reducible exact LeO.refl _)
      | (with_reducible exact LeO.none _)
      | (with_reducible refine LeO.ite ?_ ?_)
      | (with_reducible refine LeO.bind ?_ (fun _ => ?_))
      | exact ih0 _ _ _
      | exact ih1 _ _ _ _ _
      | exact ih2 _ _
      | exact impl_AddVectors.mono _ _ _ _
      | exact impl_DotOf.mono _ _ _ _
      | exact impl_LegendreOf.mono _ _ _
      | exact impl_ScaleVector.mono _ _ _ _
      | exact impl_SquareRootOf.mono _ _ _
      | exact laws_b10Nums.mono _ _ _
      | exact spec_DrawDotOf.mono _ _
      | exact spec_DrawSquareRootOf.mono _ _
      | exact spec_ValidPrime.mono _ _
      | exact LeO.none _
      | refine LeO.ite ?_ ?_
      | refine LeO.bind ?_ (fun _ => ?_)
    · intro y0 y1
      unfold laws_FnRoots.j2
      repeat' first
      | (with_reducible exact ih0 _ _ _)
      | (with_reducible exact ih1 _ _ _ _ _)
      | (with_reducible exact ih2 _ _)
      | (with_reducible exact impl_AddVectors.mono _ _ _ _)
      | (with_reducible exact impl_DotOf.mono _ _ _ _)
      | (with_reducible exact impl_LegendreOf.mono _ _ _)
      | (with_reducible exact impl_ScaleVector.mono _ _ _ _)
      | (with_reducible exact impl_SquareRootOf.mono _ _ _)
      | (with_reducible exact laws_b10Nums.mono _ _ _)
      | (with_reducible exact spec_DrawDotOf.mono _ _)
      | (with_reducible exact spec_DrawSquareRootOf.mono _ _)
      | (with_reducible exact spec_ValidPrime.mono _ _)
      | (with_reducible exact LeO.refl _)
      | (with_reducible exact LeO.none _)
      | (with_reducible refine LeO.ite ?_ ?_)
      | (with_reducible refine LeO.bind ?_ (fun _ => ?_))
      | exact ih0 _ _ _
      | exact ih1 _ _ _ _ _
      | exact ih2 _ _
      | exact impl_AddVectors.mono _ _ _ _
      | exact impl_DotOf.mono _ _ _ _
      | exact impl_LegendreOf.mono _ _ _
      | exact impl_ScaleVector.mono _ _ _ _
      | exact impl_SquareRootOf.mono _ _ _
      | exact laws_b10Nums.mono _ _ _
      | exact spec_DrawDotOf.mono _ _
      | exact spec_DrawSquareRootOf.mono _ _
      | exact spec_ValidPrime.mono _ _
      | exact LeO.none _
      | refine LeO.ite ?_ ?_
      | refine LeO.bind ?_ (fun _ => ?_)
theorem laws_FnRoots.mono : ∀ a0 a1 k, LeO (laws_FnRoots.f k a0 a1) (laws_FnRoots.f (k + 1) a0 a1) := by
  intro a0 a1 k
  obtain ⟨ih0, ih1, ih2⟩ := laws_FnRoots.mono_l k
  unfold laws_FnRoots.f
  repeat' first
      | (with_reducible exact ih0 _ _ _)
      | (with_reducible exact ih1 _ _ _ _ _)
      | (with_reducible exact ih2 _ _)
      | (with_reducible exact impl_AddVectors.mono _ _ _ _)
      | (with_reducible exact impl_DotOf.mono _ _ _ _)
      | (with_reducible exact impl_LegendreOf.mono _ _ _)
      | (with_reducible exact impl_ScaleVector.mono _ _ _ _)
      | (with_reducible exact impl_SquareRootOf.mono _ _ _)
      | (with_reducible exact laws_b10Nums.mono _ _ _)
      | (with_reducible exact spec_DrawDotOf.mono _ _)
      | (with_reducible exact spec_DrawSquareRootOf.mono _ _)
      | (with_reducible exact spec_ValidPrime.mono _ _)
      | (with_reducible exact LeO.refl _)
      | (with_reducible exact LeO.none _)
      | (with_reducible refine LeO.ite ?_ ?_)
      | (with_reducible refine LeO.bind ?_ (fun _ => ?_))
      | exact ih0 _ _ _
      | exact ih1 _ _ _ _ _
      | exact ih2 _ _
      | exact impl_AddVectors.mono _ _ _ _
      | exact impl_DotOf.mono _ _ _ _
      | exact impl_LegendreOf.mono _ _ _
      | exact impl_ScaleVector.mono _ _ _ _
      | exact impl_SquareRootOf.mono _ _ _
      | exact laws_b10Nums.mono _ _ _
      | exact spec_DrawDotOf.mono _ _
      | exact spec_DrawSquareRootOf.mono _ _
      | exact spec_ValidPrime.mono _ _
      | exact LeO.none _
      | refine LeO.ite ?_ ?_
      | refine LeO.bind ?_ (fun _ => ?_)
theorem Z6.z14 {P : Prop} (h : P := by have := HJ2.out; have := HJ10.out; first | omega | exact Nat.le_refl _) : P := h
theorem Z6.z13 {P : Prop} (h : P := by have := HJ2.out; first | omega | exact Nat.le_refl _) : P := h
theorem Z6.z12 {P : Prop} (h : P := by repeat (first | exact (Kd.C_below HR0.out HB.out) | (with_reducible refine Kd.C_alloc ?_ _) | (with_reducible refine Kd.C_drewN ?_ _) | (with_reducible refine Kd.C_drew ?_))) : P := h
theorem Z6.z11 {P : Prop} (h : P := by first | rfl | (simp; done) | (simp [*]; done)) : P := h
theorem Z6.z10 {P : Prop} (h : P := by repeat (first | exact (Kd.R_reads' HO122.out).2.2 | (with_reducible refine Kd.C_alloc ?_ _) | (with_reducible refine Kd.C_drewN ?_ _) | (with_reducible refine Kd.C_drew ?_))) : P := h
theorem Z6.z9 {P : Prop} (h : P := by first | rfl | (simp [errW_none, errW_some] <;> rfl) | (simp [*, errW_none, errW_some] <;> rfl)) : P := h
theorem Z6.z8 {P : Prop} (h : P := by (with_reducible repeat (first | apply Kd.R_alloc | apply Kd.R_drewN | apply Kd.R_drew)); exact HO131.out) : P := h
theorem Z6.z7 {P : Prop} (h : P := by repeat (first | exact (Kd.C_below HR1.out HB.out) | (with_reducible refine Kd.C_alloc ?_ _) | (with_reducible refine Kd.C_drewN ?_ _) | (with_reducible refine Kd.C_drew ?_))) : P := h
theorem Z6.z6 {P : Prop} (h : P := by (with_reducible repeat (first | apply Kd.R_alloc | apply Kd.R_drewN | apply Kd.R_drew)); exact HO122.out) : P := h
theorem Z6.z5 {P : Prop} (h : P := by (with_reducible repeat (first | apply Kd.R_alloc | apply Kd.R_drewN | apply Kd.R_drew)); exact HO114.out) : P := h
theorem Z6.z4 {P : Prop} (h : P := by (with_reducible repeat (first | apply Kd.R_alloc | apply Kd.R_drewN | apply Kd.R_drew)); exact HO116.out) : P := h
theorem Z6.z3 {P : Prop} (h : P := by repeat (first | exact (Kd.R_reads' HO114.out).2.2 | (with_reducible refine Kd.C_alloc ?_ _) | (with_reducible refine Kd.C_drewN ?_ _) | (with_reducible refine Kd.C_drew ?_))) : P := h
theorem Z6.z2 {P : Prop} (h : P := by repeat (first | exact (Kd.R_reads' HO116.out).2.2 | (with_reducible refine Kd.C_alloc ?_ _) | (with_reducible refine Kd.C_drewN ?_ _) | (with_reducible refine Kd.C_drew ?_))) : P := h
theorem Z6.z1 {P : Prop} (h : P := by (try simp only [List.map_toArray, List.map_cons, List.map_nil]); first | done | rfl | (simp only [List.length_drop, List.length_take]; rfl)) : P := h
theorem Z6.z0 {P : Prop} (h : P := by repeat (first | (with_reducible first | exact HB.out | apply below_alloc | apply pw_below_drewN | apply below_drew1) | exact HB.out)) : P := h
set_option maxHeartbeats 8000000 in
set_option maxRecDepth 100000 in
theorem laws_FnRoots.calls (k : Nat) (A0 : Option Addr) (c0 : Nat) (l0 : List Int) (A1 : Option Addr) (c1 : Nat) (l1 : List Int) (r : Bool) (w : World) (hr0 : Kd.C (Kd.int .u8) w A0 l0.length l0) (hc0 : l0.length ≤ c0) (hr1 : Kd.C (Kd.int .u8) w A1 l1.length l1) (hc1 : l1.length ≤ c1) (h : laws_FnRoots.f k l0 l1 = some r) :
  Calls Try.prog 6 #[.slice A0 l0.length c0, .slice A1 l1.length c1] w fun e w' => e = .returned (.bool r) ∧ Below w.heap.size w w' := by
 have HR0 := Aside0.mk hr0
 have HC0 := Aside0.mk hc0
 clear hr0 hc0
 have HR1 := Aside0.mk hr1
 have HC1 := Aside0.mk hc1
 clear hr1 hc1
 have HB := Aside0.mk (Below.refl w.heap.size w)
 have H : ((laws_b10Long.f l0).bind fun t101 => (if t101 = true then (laws_FnRoots.j0 k l0 l1 true) else ((laws_b10Long.f l1).bind fun t102 => (laws_FnRoots.j0 k l0 l1 t102)))) = some r := h
 clear h
 have HC3 := Aside0.mk H
 clear H
 go_enter Try.func6, Try.ntmps6
 go_upto_region 1 with (fail)
 go_cut [31] (fun v31 wc => ∃ (kq : Nat) (x31_2 : Bool), v31 = .bool x31_2 ∧ Aside0 (laws_FnRoots.j0 kq l0 l1 x31_2 = some r) ∧ Aside0 (kq ≤ k) ∧ Aside0 (Below w.heap.size w wc))
 case first =>
  have H := HC3.out
  clear HC3
  replace H := Option.bind_eq_some_iff.mp H
  obtain ⟨t101, A40, H⟩ := H
  replace H : (if t101 = true then (laws_FnRoots.j0 k l0 l1 true) else ((laws_b10Long.f l1).bind fun t102 => (laws_FnRoots.j0 k l0 l1 t102))) = some r := H
  have A4 := Aside0.mk A40
  clear A40
  by_cases c5 : t101 = true
  ·subst c5
   have H1 : (laws_FnRoots.j0 k l0 l1 true) = some r := by rw [if_pos rfl] at H; exact H
   clear H
   have H := H1
   clear H1
   have H' := Aside0.mk H
   clear H
   go_wp2_with (first | ((with_reducible refine gate_callee (f := 16) rfl ?_); refine goesL_ (some 27) rfl rfl Try.func16 (by kernel_rfl) rfl #[.slice A0 l0.length c0] rfl Z6.z1 ?_; (with_reducible refine (laws_b10Long.calls _ _ l0 true _ ?side1 ?side2 A4.out).mono ?_); (case side1 => exact Z6.z12); (case side2 => exact HC0.out); rintro e w' ⟨rfl, ⟨nd, rfl⟩⟩; refine ⟨_, rfl, ?_⟩))
   go_meet
   case rel => exact ⟨_, (true), Z6.z11, H', ⟨(by first | omega | exact Nat.le_refl _)⟩, ⟨Z6.z0⟩⟩
  replace c5 := Bool.eq_false_iff.mpr c5
  subst c5
  have H1 : ((laws_b10Long.f l1).bind fun t102 => (laws_FnRoots.j0 k l0 l1 t102)) = some r := by rw [if_neg (show ¬ (false = true) by decide)] at H; exact H
  clear H
  have H := H1
  clear H1
  replace H := Option.bind_eq_some_iff.mp H
  obtain ⟨t102, A60, H⟩ := H
  replace H : (laws_FnRoots.j0 k l0 l1 t102) = some r := H
  have A6 := Aside0.mk A60
  clear A60
  have H' := Aside0.mk H
  clear H
  go_wp2_with (first | ((with_reducible refine gate_callee (f := 16) rfl ?_); refine goesL_ (some 27) rfl rfl Try.func16 (by kernel_rfl) rfl #[.slice A0 l0.length c0] rfl Z6.z1 ?_; (with_reducible refine (laws_b10Long.calls _ _ l0 false _ ?side1 ?side2 A4.out).mono ?_); (case side1 => exact Z6.z12); (case side2 => exact HC0.out); rintro e w' ⟨rfl, ⟨nd, rfl⟩⟩; refine ⟨_, rfl, ?_⟩) | (go_at_call 16; (with_reducible refine (laws_b10Long.calls _ _ l1 t102 _ ?side1 ?side2 A6.out).mono ?_); (case side1 => exact (by repeat (first | exact (Kd.C_below HR1.out Z6.z0) | (with_reducible refine Kd.C_alloc ?_ _) | (with_reducible refine Kd.C_drewN ?_ _) | (with_reducible refine Kd.C_drew ?_)))); (case side2 => exact HC1.out); rintro e w' ⟨rfl, ⟨nd, rfl⟩⟩))
  go_meet
  case rel => exact ⟨_, (t102), Z6.z11, H', ⟨(by first | omega | exact Nat.le_refl _)⟩, ⟨Z6.z0⟩⟩
 case rest =>
  clear HC3
  try clear c1
  try clear p2
  try clear c5
  try clear c6
  obtain ⟨kq, x31_2, rfl, HA, HJ2, HB⟩ := hcut
  cases kq with
  | zero => exact absurd HA.out (by simp [laws_FnRoots.j0])
  | succ kj2 =>
   have H := HA.out
   clear HA
   simp only [laws_FnRoots.j0] at H
   by_cases c7 : x31_2 = true
   ·subst c7
    have H1 : (some true) = some r := by rw [if_pos rfl] at H; exact H
    clear H
    have H := H1
    clear H1
    obtain rfl := Option.some.inj H
    go_wp2
    go_ret
    exact ⟨Z6.z9, Z6.z0⟩
   ·as_aux_lemma =>
     replace c7 := Bool.eq_false_iff.mpr c7
     subst c7
     have H1 : ((spec_DrawSquareRootOf.f kj2 l0).bind fun bt103 => ((impl_SquareRootOf.f kj2 bt103.1 bt103.2).bind fun bt105 => ((impl_LegendreOf.f kj2 bt103.1 bt103.2).bind fun bt107 => (if bt105.2 = 0 then ((spec_ValidPrime.f kj2 bt103.2).bind fun t109 => (if t109 = true then (if bt105.1 < 0 then (laws_FnRoots.j1 kj2 l1 bt105.2 bt107.1 bt107.2 true) else (if bt105.1 ≥ bt103.2 then (laws_FnRoots.j1 kj2 l1 bt105.2 bt107.1 bt107.2 true) else (if bt103.2 = 0 then (none) else (if (Int.tmod (wrap64 (bt105.1 * bt105.1)) bt103.2) = bt103.1 then (if bt107.2 = 0 then (if bt107.1 < 0 then (laws_FnRoots.j1 kj2 l1 bt105.2 bt107.1 bt107.2 true) else (laws_FnRoots.j1 kj2 l1 bt105.2 bt107.1 bt107.2 ((bt107.1 == 0) != (bt103.1 == 0)))) else (laws_FnRoots.j1 kj2 l1 bt105.2 bt107.1 bt107.2 true)) else (laws_FnRoots.j1 kj2 l1 bt105.2 bt107.1 bt107.2 true))))) else (laws_FnRoots.j1 kj2 l1 bt105.2 bt107.1 bt107.2 true))) else (laws_FnRoots.j1 kj2 l1 bt105.2 bt107.1 bt107.2 false))))) = some r := by rw [if_neg (show ¬ (false = true) by decide)] at H; exact H
     clear H
     have H := H1
     clear H1
     replace H := Option.bind_eq_some_iff.mp H
     obtain ⟨⟨t103, t104⟩, A80, H⟩ := H
     replace H : ((impl_SquareRootOf.f kj2 t103 t104).bind fun bt105 => ((impl_LegendreOf.f kj2 t103 t104).bind fun bt107 => (if bt105.2 = 0 then ((spec_ValidPrime.f kj2 t104).bind fun t109 => (if t109 = true then (if bt105.1 < 0 then (laws_FnRoots.j1 kj2 l1 bt105.2 bt107.1 bt107.2 true) else (if bt105.1 ≥ t104 then (laws_FnRoots.j1 kj2 l1 bt105.2 bt107.1 bt107.2 true) else (if t104 = 0 then (none) else (if (Int.tmod (wrap64 (bt105.1 * bt105.1)) t104) = t103 then (if bt107.2 = 0 then (if bt107.1 < 0 then (laws_FnRoots.j1 kj2 l1 bt105.2 bt107.1 bt107.2 true) else (laws_FnRoots.j1 kj2 l1 bt105.2 bt107.1 bt107.2 ((bt107.1 == 0) != (t103 == 0)))) else (laws_FnRoots.j1 kj2 l1 bt105.2 bt107.1 bt107.2 true)) else (laws_FnRoots.j1 kj2 l1 bt105.2 bt107.1 bt107.2 true))))) else (laws_FnRoots.j1 kj2 l1 bt105.2 bt107.1 bt107.2 true))) else (laws_FnRoots.j1 kj2 l1 bt105.2 bt107.1 bt107.2 false)))) = some r := H
     have A8 := Aside0.mk A80
     clear A80
     replace H := Option.bind_eq_some_iff.mp H
     obtain ⟨⟨t105, t106⟩, A90, H⟩ := H
     replace H : ((impl_LegendreOf.f kj2 t103 t104).bind fun bt107 => (if t106 = 0 then ((spec_ValidPrime.f kj2 t104).bind fun t109 => (if t109 = true then (if t105 < 0 then (laws_FnRoots.j1 kj2 l1 t106 bt107.1 bt107.2 true) else (if t105 ≥ t104 then (laws_FnRoots.j1 kj2 l1 t106 bt107.1 bt107.2 true) else (if t104 = 0 then (none) else (if (Int.tmod (wrap64 (t105 * t105)) t104) = t103 then (if bt107.2 = 0 then (if bt107.1 < 0 then (laws_FnRoots.j1 kj2 l1 t106 bt107.1 bt107.2 true) else (laws_FnRoots.j1 kj2 l1 t106 bt107.1 bt107.2 ((bt107.1 == 0) != (t103 == 0)))) else (laws_FnRoots.j1 kj2 l1 t106 bt107.1 bt107.2 true)) else (laws_FnRoots.j1 kj2 l1 t106 bt107.1 bt107.2 true))))) else (laws_FnRoots.j1 kj2 l1 t106 bt107.1 bt107.2 true))) else (laws_FnRoots.j1 kj2 l1 t106 bt107.1 bt107.2 false))) = some r := H
     have A9 := Aside0.mk A90
     clear A90
     replace H := Option.bind_eq_some_iff.mp H
     obtain ⟨⟨t107, t108⟩, A100, H⟩ := H
     replace H : (if t106 = 0 then ((spec_ValidPrime.f kj2 t104).bind fun t109 => (if t109 = true then (if t105 < 0 then (laws_FnRoots.j1 kj2 l1 t106 t107 t108 true) else (if t105 ≥ t104 then (laws_FnRoots.j1 kj2 l1 t106 t107 t108 true) else (if t104 = 0 then (none) else (if (Int.tmod (wrap64 (t105 * t105)) t104) = t103 then (if t108 = 0 then (if t107 < 0 then (laws_FnRoots.j1 kj2 l1 t106 t107 t108 true) else (laws_FnRoots.j1 kj2 l1 t106 t107 t108 ((t107 == 0) != (t103 == 0)))) else (laws_FnRoots.j1 kj2 l1 t106 t107 t108 true)) else (laws_FnRoots.j1 kj2 l1 t106 t107 t108 true))))) else (laws_FnRoots.j1 kj2 l1 t106 t107 t108 true))) else (laws_FnRoots.j1 kj2 l1 t106 t107 t108 false)) = some r := H
     have A10 := Aside0.mk A100
     clear A100
     have HC11 := Aside0.mk H
     clear H
     go_upto_region 6 with (first | ((with_reducible refine gate_callee (f := 17) rfl ?_); refine goesL_ (some 34) rfl rfl Try.func17 (by kernel_rfl) rfl #[.slice A0 l0.length c0] rfl Z6.z1 ?_; (with_reducible refine (spec_DrawSquareRootOf.calls kj2 _ _ l0 t103 t104 _ ?side1 ?side2 A8.out).mono ?_); (case side1 => exact Z6.z12); (case side2 => exact HC0.out); rintro e w12 ⟨rfl, hb⟩; refine ⟨_, rfl, ?_⟩; have n0_ := Aside0.mk (below_step Z6.z0 hb); clear HB; have HB := n0_; clear n0_; (try clear hb); (try clear hb2); (try clear hk); (try clear hi)) | ((with_reducible refine gate_callee (f := 18) rfl ?_); refine goesL_ (some 40) rfl rfl Try.func18 (by kernel_rfl) rfl #[.int .i64 t103, .int .i64 t104] rfl Z6.z1 ?_; (with_reducible refine (impl_SquareRootOf.calls kj2 t103 t104 t105 t106 _ A9.out).mono ?_); rintro e w13 ⟨rfl, hb⟩; refine ⟨_, rfl, ?_⟩; have n0_ := Aside0.mk (below_step Z6.z0 hb); clear HB; have HB := n0_; clear n0_; (try clear hb); (try clear hb2); (try clear hk); (try clear hi)) | ((with_reducible refine gate_callee (f := 19) rfl ?_); refine goesL_ (some 46) rfl rfl Try.func19 (by kernel_rfl) rfl #[.int .i64 t103, .int .i64 t104] rfl Z6.z1 ?_; (with_reducible refine (impl_LegendreOf.calls kj2 t103 t104 t107 t108 _ A10.out).mono ?_); rintro e w14 ⟨rfl, hb⟩; refine ⟨_, rfl, ?_⟩; have n0_ := Aside0.mk (below_step Z6.z0 hb); clear HB; have HB := n0_; clear n0_; (try clear hb); (try clear hb2); (try clear hk); (try clear hi)))
     (try simp only [Act.put, List.setIfInBounds_toArray, List.set_cons_zero, List.set_cons_succ])
     go_cut [88] (fun v88 wc => ∃ (kq : Nat) (x88_10 : Bool), v88 = .bool x88_10 ∧ Aside0 (laws_FnRoots.j1 kq l1 t106 t107 t108 x88_10 = some r) ∧ Aside0 (kq ≤ kj2) ∧ Aside0 (Below w.heap.size w wc))
     case first =>
      have H := HC11.out
      clear HC11
      by_cases c15 : t106 = 0
      ·as_aux_lemma =>
        rw [if_pos c15] at H
        have c15b0 : (t106 == 0) = true := beq_iff_eq.mpr c15
        have c15b1 : (t106 != 0) = false := bne_eq_false_iff_eq.mpr c15
        clear c15
        (first | rw [c15b0] | (simp only [i64_w, i32_w]; rw [c15b0]) | skip)
        replace H := Option.bind_eq_some_iff.mp H
        obtain ⟨t109, A160, H⟩ := H
        replace H : (if t109 = true then (if t105 < 0 then (laws_FnRoots.j1 kj2 l1 t106 t107 t108 true) else (if t105 ≥ t104 then (laws_FnRoots.j1 kj2 l1 t106 t107 t108 true) else (if t104 = 0 then (none) else (if (Int.tmod (wrap64 (t105 * t105)) t104) = t103 then (if t108 = 0 then (if t107 < 0 then (laws_FnRoots.j1 kj2 l1 t106 t107 t108 true) else (laws_FnRoots.j1 kj2 l1 t106 t107 t108 ((t107 == 0) != (t103 == 0)))) else (laws_FnRoots.j1 kj2 l1 t106 t107 t108 true)) else (laws_FnRoots.j1 kj2 l1 t106 t107 t108 true))))) else (laws_FnRoots.j1 kj2 l1 t106 t107 t108 true)) = some r := H
        have A16 := Aside0.mk A160
        clear A160
        by_cases c17 : t109 = true
        ·subst c17
         have H1 : (if t105 < 0 then (laws_FnRoots.j1 kj2 l1 t106 t107 t108 true) else (if t105 ≥ t104 then (laws_FnRoots.j1 kj2 l1 t106 t107 t108 true) else (if t104 = 0 then (none) else (if (Int.tmod (wrap64 (t105 * t105)) t104) = t103 then (if t108 = 0 then (if t107 < 0 then (laws_FnRoots.j1 kj2 l1 t106 t107 t108 true) else (laws_FnRoots.j1 kj2 l1 t106 t107 t108 ((t107 == 0) != (t103 == 0)))) else (laws_FnRoots.j1 kj2 l1 t106 t107 t108 true)) else (laws_FnRoots.j1 kj2 l1 t106 t107 t108 true))))) = some r := by rw [if_pos rfl] at H; exact H
         clear H
         have H := H1
         clear H1
         by_cases c18 : t105 < 0
         ·rw [if_pos c18] at H
          have c18b0 : decide (t105 < 0) = true := decide_eq_true c18
          clear c18
          have H' := Aside0.mk H
          clear H
          go_wp2_with (first | (go_at_call 20; (with_reducible refine (spec_ValidPrime.calls kj2 t104 true _ A16.out).mono ?_); rintro e w' ⟨rfl, ⟨nd, rfl⟩⟩))
          go_meet
          case rel => exact ⟨_, (true), Z6.z11, H', ⟨Z6.z13⟩, ⟨Z6.z0⟩⟩
         rw [if_neg c18] at H
         have c18b0 : decide (t105 < 0) = false := decide_eq_false c18
         clear c18
         by_cases c19 : t105 ≥ t104
         ·rw [if_pos c19] at H
          have c19b0 : decide (t104 ≤ t105) = true := decide_eq_true c19
          clear c19
          have H' := Aside0.mk H
          clear H
          go_wp2_with (first | (go_at_call 20; (with_reducible refine (spec_ValidPrime.calls kj2 t104 true _ A16.out).mono ?_); rintro e w' ⟨rfl, ⟨nd, rfl⟩⟩))
          go_meet
          case rel => exact ⟨_, (true), Z6.z11, H', ⟨Z6.z13⟩, ⟨Z6.z0⟩⟩
         rw [if_neg c19] at H
         have c19b0 : decide (t104 ≤ t105) = false := decide_eq_false c19
         clear c19
         by_cases c20 : t104 = 0
         ·rw [if_pos c20] at H
          exact absurd H (by simp)
         rw [if_neg c20] at H
         have c20b0 : (t104 == 0) = false := beq_eq_false_iff_ne.mpr c20
         have c20b1 : (t104 != 0) = true := bne_iff_ne.mpr c20
         by_cases c21 : (Int.tmod (wrap64 (t105 * t105)) t104) = t103
         ·rw [if_pos c21] at H
          have c21b0 : ((Int.tmod (wrap64 (t105 * t105)) t104) == t103) = true := beq_iff_eq.mpr c21
          have c21b1 : ((Int.tmod (wrap64 (t105 * t105)) t104) != t103) = false := bne_eq_false_iff_eq.mpr c21
          clear c21
          by_cases c22 : t108 = 0
          ·rw [if_pos c22] at H
           have c22b0 : (t108 == 0) = true := beq_iff_eq.mpr c22
           have c22b1 : (t108 != 0) = false := bne_eq_false_iff_eq.mpr c22
           clear c22
           by_cases c23 : t107 < 0
           ·rw [if_pos c23] at H
            have c23b0 : decide (t107 < 0) = true := decide_eq_true c23
            clear c23
            have H' := Aside0.mk H
            clear H
            go_wp2_with (first | (go_at_call 20; (with_reducible refine (spec_ValidPrime.calls kj2 t104 true _ A16.out).mono ?_); rintro e w' ⟨rfl, ⟨nd, rfl⟩⟩))
            go_meet
            case rel => exact ⟨_, (true), Z6.z11, H', ⟨Z6.z13⟩, ⟨Z6.z0⟩⟩
           rw [if_neg c23] at H
           have c23b0 : decide (t107 < 0) = false := decide_eq_false c23
           clear c23
           have H' := Aside0.mk H
           clear H
           go_wp2_with (first | (go_at_call 20; (with_reducible refine (spec_ValidPrime.calls kj2 t104 true _ A16.out).mono ?_); rintro e w' ⟨rfl, ⟨nd, rfl⟩⟩))
           go_meet
           case rel => exact ⟨_, (((t107 == 0) != (t103 == 0))), Z6.z11, H', ⟨Z6.z13⟩, ⟨Z6.z0⟩⟩
          rw [if_neg c22] at H
          have c22b0 : (t108 == 0) = false := beq_eq_false_iff_ne.mpr c22
          have c22b1 : (t108 != 0) = true := bne_iff_ne.mpr c22
          have H' := Aside0.mk H
          clear H
          go_wp2_with (first | (go_at_call 20; (with_reducible refine (spec_ValidPrime.calls kj2 t104 true _ A16.out).mono ?_); rintro e w' ⟨rfl, ⟨nd, rfl⟩⟩))
          go_meet
          case rel => exact ⟨_, (true), Z6.z11, H', ⟨Z6.z13⟩, ⟨Z6.z0⟩⟩
         rw [if_neg c21] at H
         have c21b0 : ((Int.tmod (wrap64 (t105 * t105)) t104) == t103) = false := beq_eq_false_iff_ne.mpr c21
         have c21b1 : ((Int.tmod (wrap64 (t105 * t105)) t104) != t103) = true := bne_iff_ne.mpr c21
         have H' := Aside0.mk H
         clear H
         go_wp2_with (first | (go_at_call 20; (with_reducible refine (spec_ValidPrime.calls kj2 t104 true _ A16.out).mono ?_); rintro e w' ⟨rfl, ⟨nd, rfl⟩⟩))
         go_meet
         case rel => exact ⟨_, (true), Z6.z11, H', ⟨Z6.z13⟩, ⟨Z6.z0⟩⟩
        replace c17 := Bool.eq_false_iff.mpr c17
        subst c17
        have H1 : (laws_FnRoots.j1 kj2 l1 t106 t107 t108 true) = some r := by rw [if_neg (show ¬ (false = true) by decide)] at H; exact H
        clear H
        have H := H1
        clear H1
        have H' := Aside0.mk H
        clear H
        go_wp2_with (first | (go_at_call 20; (with_reducible refine (spec_ValidPrime.calls kj2 t104 false _ A16.out).mono ?_); rintro e w' ⟨rfl, ⟨nd, rfl⟩⟩))
        go_meet
        case rel => exact ⟨_, (true), Z6.z11, H', ⟨Z6.z13⟩, ⟨Z6.z0⟩⟩
      rw [if_neg c15] at H
      have c15b0 : (t106 == 0) = false := beq_eq_false_iff_ne.mpr c15
      have c15b1 : (t106 != 0) = true := bne_iff_ne.mpr c15
      (first | rw [c15b0] | (simp only [i64_w, i32_w]; rw [c15b0]) | skip)
      have H' := Aside0.mk H
      clear H
      go_wp2
      go_meet
      case rel => exact ⟨_, (false), Z6.z11, H', ⟨Z6.z13⟩, ⟨Z6.z0⟩⟩
     case rest =>
      clear HC11
      try clear c1
      try clear c2
      try clear p2
      try clear c5
      try clear c6
      try clear p6
      try clear c7
      try clear c15
      try clear c15b0
      try clear c15b1
      try clear c16
      try clear c17
      try clear c18
      try clear c18b0
      try clear c19
      try clear c19b0
      try clear c20
      try clear c20b0
      try clear c20b1
      try clear c21
      try clear c21b0
      try clear c21b1
      try clear c22
      try clear c22b0
      try clear c22b1
      try clear c23
      try clear c23b0
      try clear p2
      obtain ⟨kq, x88_10, rfl, HA, HJ10, HB⟩ := hcut
      cases kq with
      | zero => exact absurd HA.out (by simp [laws_FnRoots.j1])
      | succ kj10 =>
       have H := HA.out
       clear HA
       simp only [laws_FnRoots.j1] at H
       by_cases c24 : x88_10 = true
       ·subst c24
        have H1 : (some false) = some r := by rw [if_pos rfl] at H; exact H
        clear H
        have H := H1
        clear H1
        obtain rfl := Option.some.inj H
        go_wp2
        go_ret
        exact ⟨Z6.z9, Z6.z0⟩
       ·as_aux_lemma =>
         replace c24 := Bool.eq_false_iff.mpr c24
         subst c24
         have H1 : (if t106 = 3 then (if t108 = 0 then (laws_FnRoots.j2 kj10 l1 (t107 != (-1))) else (laws_FnRoots.j2 kj10 l1 true)) else (laws_FnRoots.j2 kj10 l1 false)) = some r := by rw [if_neg (show ¬ (false = true) by decide)] at H; exact H
         clear H
         have H := H1
         clear H1
         have HC25 := Aside0.mk H
         clear H
         go_upto_region 8 with (fail)
         go_cut [98] (fun v98 wc => ∃ (kq : Nat) (x98_24 : Bool), v98 = .bool x98_24 ∧ Aside0 (laws_FnRoots.j2 kq l1 x98_24 = some r) ∧ Aside0 (kq ≤ kj10) ∧ Aside0 (Below w.heap.size w wc))
         case first =>
          have H := HC25.out
          clear HC25
          by_cases c26 : t106 = 3
          ·rw [if_pos c26] at H
           have c26b0 : (t106 == 3) = true := beq_iff_eq.mpr c26
           have c26b1 : (t106 != 3) = false := bne_eq_false_iff_eq.mpr c26
           clear c26
           (first | rw [c26b0] | (simp only [i64_w, i32_w]; rw [c26b0]) | skip)
           by_cases c27 : t108 = 0
           ·rw [if_pos c27] at H
            have c27b0 : (t108 == 0) = true := beq_iff_eq.mpr c27
            have c27b1 : (t108 != 0) = false := bne_eq_false_iff_eq.mpr c27
            clear c27
            have H' := Aside0.mk H
            clear H
            go_wp2
            go_meet
            case rel => exact ⟨_, ((t107 != (-1))), Z6.z11, H', ⟨Z6.z14⟩, ⟨Z6.z0⟩⟩
           rw [if_neg c27] at H
           have c27b0 : (t108 == 0) = false := beq_eq_false_iff_ne.mpr c27
           have c27b1 : (t108 != 0) = true := bne_iff_ne.mpr c27
           have H' := Aside0.mk H
           clear H
           go_wp2
           go_meet
           case rel => exact ⟨_, (true), Z6.z11, H', ⟨Z6.z14⟩, ⟨Z6.z0⟩⟩
          rw [if_neg c26] at H
          have c26b0 : (t106 == 3) = false := beq_eq_false_iff_ne.mpr c26
          have c26b1 : (t106 != 3) = true := bne_iff_ne.mpr c26
          (first | rw [c26b0] | (simp only [i64_w, i32_w]; rw [c26b0]) | skip)
          have H' := Aside0.mk H
          clear H
          go_wp2
          go_meet
          case rel => exact ⟨_, (false), Z6.z11, H', ⟨Z6.z14⟩, ⟨Z6.z0⟩⟩
         case rest =>
          clear HC25
          try clear c1
          try clear c2
          try clear p2
          try clear c5
          try clear c6
          try clear p6
          try clear c7
          try clear c15
          try clear c15b0
          try clear c15b1
          try clear c16
          try clear c17
          try clear c18
          try clear c18b0
          try clear c19
          try clear c19b0
          try clear c20
          try clear c20b0
          try clear c20b1
          try clear c21
          try clear c21b0
          try clear c21b1
          try clear c22
          try clear c22b0
          try clear c22b1
          try clear c23
          try clear c23b0
          try clear c24
          try clear c26
          try clear c26b0
          try clear c26b1
          try clear c27
          try clear c27b0
          try clear c27b1
          try clear p2
          try clear p6
          obtain ⟨kq, x98_24, rfl, HA, HJ24, HB⟩ := hcut
          cases kq with
          | zero => exact absurd HA.out (by simp [laws_FnRoots.j2])
          | succ kj24 =>
           have H := HA.out
           clear HA
           simp only [laws_FnRoots.j2] at H
           by_cases c28 : x98_24 = true
           ·subst c28
            have H1 : (some false) = some r := by rw [if_pos rfl] at H; exact H
            clear H
            have H := H1
            clear H1
            obtain rfl := Option.some.inj H
            go_wp2
            go_ret
            exact ⟨Z6.z9, Z6.z0⟩
           ·as_aux_lemma =>
             replace c28 := Bool.eq_false_iff.mpr c28
             subst c28
             have H1 : ((spec_DrawDotOf.f kj24 l1).bind fun bt110 => ((impl_DotOf.f kj24 bt110.1 bt110.2.1 bt110.2.2).bind fun bt117 => ((impl_AddVectors.f kj24 bt110.1 bt110.2.1 bt110.2.2).bind fun bt119 => (if bt117.2 = bt119.2 then (if bt117.2 = 0 then ((spec_ValidPrime.f kj24 bt110.2.2).bind fun t123 => (if t123 = true then ((impl_DotOf.f kj24 bt119.1 bt110.2.1 bt110.2.2).bind fun bt124 => ((impl_DotOf.f kj24 bt110.2.1 bt110.2.1 bt110.2.2).bind fun bt126 => (if bt110.2.2 = 0 then (none) else ((impl_ScaleVector.f kj24 bt110.1 ((2 : Int) % bt110.2.2) bt110.2.2).bind fun bt128 => ((impl_AddVectors.f kj24 bt110.1 bt110.1 bt110.2.2).bind fun bt132 => (if bt124.2 = 0 then (if bt126.2 = 0 then (if bt124.1 = (Int.tmod (wrap64 (bt117.1 + bt126.1)) bt110.2.2) then (if bt128.2 = 0 then (if bt132.2 = 0 then ((laws_b10Nums.f kj24 bt128.1 bt132.1).bind fun t136 => (some t136)) else (some false)) else (some false)) else (some false)) else (some false)) else (some false))))))) else (some false))) else (if bt117.1 = 0 then (some ((bt119.1.length : Int) == 0)) else (some false))) else (some false))))) = some r := by rw [if_neg (show ¬ (false = true) by decide)] at H; exact H
             clear H
             have H := H1
             clear H1
             replace H := Option.bind_eq_some_iff.mp H
             obtain ⟨⟨t110, t111, t112⟩, A290, H⟩ := H
             replace H : ((impl_DotOf.f kj24 t110 t111 t112).bind fun bt117 => ((impl_AddVectors.f kj24 t110 t111 t112).bind fun bt119 => (if bt117.2 = bt119.2 then (if bt117.2 = 0 then ((spec_ValidPrime.f kj24 t112).bind fun t123 => (if t123 = true then ((impl_DotOf.f kj24 bt119.1 t111 t112).bind fun bt124 => ((impl_DotOf.f kj24 t111 t111 t112).bind fun bt126 => (if t112 = 0 then (none) else ((impl_ScaleVector.f kj24 t110 ((2 : Int) % t112) t112).bind fun bt128 => ((impl_AddVectors.f kj24 t110 t110 t112).bind fun bt132 => (if bt124.2 = 0 then (if bt126.2 = 0 then (if bt124.1 = (Int.tmod (wrap64 (bt117.1 + bt126.1)) t112) then (if bt128.2 = 0 then (if bt132.2 = 0 then ((laws_b10Nums.f kj24 bt128.1 bt132.1).bind fun t136 => (some t136)) else (some false)) else (some false)) else (some false)) else (some false)) else (some false))))))) else (some false))) else (if bt117.1 = 0 then (some ((bt119.1.length : Int) == 0)) else (some false))) else (some false)))) = some r := H
             have A29 := Aside0.mk A290
             clear A290
             replace H := Option.bind_eq_some_iff.mp H
             obtain ⟨⟨t117, t118⟩, A300, H⟩ := H
             replace H : ((impl_AddVectors.f kj24 t110 t111 t112).bind fun bt119 => (if t118 = bt119.2 then (if t118 = 0 then ((spec_ValidPrime.f kj24 t112).bind fun t123 => (if t123 = true then ((impl_DotOf.f kj24 bt119.1 t111 t112).bind fun bt124 => ((impl_DotOf.f kj24 t111 t111 t112).bind fun bt126 => (if t112 = 0 then (none) else ((impl_ScaleVector.f kj24 t110 ((2 : Int) % t112) t112).bind fun bt128 => ((impl_AddVectors.f kj24 t110 t110 t112).bind fun bt132 => (if bt124.2 = 0 then (if bt126.2 = 0 then (if bt124.1 = (Int.tmod (wrap64 (t117 + bt126.1)) t112) then (if bt128.2 = 0 then (if bt132.2 = 0 then ((laws_b10Nums.f kj24 bt128.1 bt132.1).bind fun t136 => (some t136)) else (some false)) else (some false)) else (some false)) else (some false)) else (some false))))))) else (some false))) else (if t117 = 0 then (some ((bt119.1.length : Int) == 0)) else (some false))) else (some false))) = some r := H
             have A30 := Aside0.mk A300
             clear A300
             replace H := Option.bind_eq_some_iff.mp H
             obtain ⟨⟨t119, t120⟩, A310, H⟩ := H
             replace H : (if t118 = t120 then (if t118 = 0 then ((spec_ValidPrime.f kj24 t112).bind fun t123 => (if t123 = true then ((impl_DotOf.f kj24 t119 t111 t112).bind fun bt124 => ((impl_DotOf.f kj24 t111 t111 t112).bind fun bt126 => (if t112 = 0 then (none) else ((impl_ScaleVector.f kj24 t110 ((2 : Int) % t112) t112).bind fun bt128 => ((impl_AddVectors.f kj24 t110 t110 t112).bind fun bt132 => (if bt124.2 = 0 then (if bt126.2 = 0 then (if bt124.1 = (Int.tmod (wrap64 (t117 + bt126.1)) t112) then (if bt128.2 = 0 then (if bt132.2 = 0 then ((laws_b10Nums.f kj24 bt128.1 bt132.1).bind fun t136 => (some t136)) else (some false)) else (some false)) else (some false)) else (some false)) else (some false))))))) else (some false))) else (if t117 = 0 then (some ((t119.length : Int) == 0)) else (some false))) else (some false)) = some r := H
             have A31 := Aside0.mk A310
             clear A310
             by_cases c32 : t118 = t120
             ·as_aux_lemma =>
               rw [if_pos c32] at H
               have c32b0 : (t118 == t120) = true := beq_iff_eq.mpr c32
               have c32b1 : (t118 != t120) = false := bne_eq_false_iff_eq.mpr c32
               clear c32
               by_cases c33 : t118 = 0
               ·as_aux_lemma =>
                 rw [if_pos c33] at H
                 have c33b0 : (t118 == 0) = true := beq_iff_eq.mpr c33
                 have c33b1 : (t118 != 0) = false := bne_eq_false_iff_eq.mpr c33
                 clear c33
                 replace H := Option.bind_eq_some_iff.mp H
                 obtain ⟨t123, A340, H⟩ := H
                 replace H : (if t123 = true then ((impl_DotOf.f kj24 t119 t111 t112).bind fun bt124 => ((impl_DotOf.f kj24 t111 t111 t112).bind fun bt126 => (if t112 = 0 then (none) else ((impl_ScaleVector.f kj24 t110 ((2 : Int) % t112) t112).bind fun bt128 => ((impl_AddVectors.f kj24 t110 t110 t112).bind fun bt132 => (if bt124.2 = 0 then (if bt126.2 = 0 then (if bt124.1 = (Int.tmod (wrap64 (t117 + bt126.1)) t112) then (if bt128.2 = 0 then (if bt132.2 = 0 then ((laws_b10Nums.f kj24 bt128.1 bt132.1).bind fun t136 => (some t136)) else (some false)) else (some false)) else (some false)) else (some false)) else (some false))))))) else (some false)) = some r := H
                 have A34 := Aside0.mk A340
                 clear A340
                 by_cases c35 : t123 = true
                 ·as_aux_lemma =>
                   subst c35
                   have H1 : ((impl_DotOf.f kj24 t119 t111 t112).bind fun bt124 => ((impl_DotOf.f kj24 t111 t111 t112).bind fun bt126 => (if t112 = 0 then (none) else ((impl_ScaleVector.f kj24 t110 ((2 : Int) % t112) t112).bind fun bt128 => ((impl_AddVectors.f kj24 t110 t110 t112).bind fun bt132 => (if bt124.2 = 0 then (if bt126.2 = 0 then (if bt124.1 = (Int.tmod (wrap64 (t117 + bt126.1)) t112) then (if bt128.2 = 0 then (if bt132.2 = 0 then ((laws_b10Nums.f kj24 bt128.1 bt132.1).bind fun t136 => (some t136)) else (some false)) else (some false)) else (some false)) else (some false)) else (some false))))))) = some r := by rw [if_pos rfl] at H; exact H
                   clear H
                   have H := H1
                   clear H1
                   replace H := Option.bind_eq_some_iff.mp H
                   obtain ⟨⟨t124, t125⟩, A360, H⟩ := H
                   replace H : ((impl_DotOf.f kj24 t111 t111 t112).bind fun bt126 => (if t112 = 0 then (none) else ((impl_ScaleVector.f kj24 t110 ((2 : Int) % t112) t112).bind fun bt128 => ((impl_AddVectors.f kj24 t110 t110 t112).bind fun bt132 => (if t125 = 0 then (if bt126.2 = 0 then (if t124 = (Int.tmod (wrap64 (t117 + bt126.1)) t112) then (if bt128.2 = 0 then (if bt132.2 = 0 then ((laws_b10Nums.f kj24 bt128.1 bt132.1).bind fun t136 => (some t136)) else (some false)) else (some false)) else (some false)) else (some false)) else (some false)))))) = some r := H
                   have A36 := Aside0.mk A360
                   clear A360
                   replace H := Option.bind_eq_some_iff.mp H
                   obtain ⟨⟨t126, t127⟩, A370, H⟩ := H
                   replace H : (if t112 = 0 then (none) else ((impl_ScaleVector.f kj24 t110 ((2 : Int) % t112) t112).bind fun bt128 => ((impl_AddVectors.f kj24 t110 t110 t112).bind fun bt132 => (if t125 = 0 then (if t127 = 0 then (if t124 = (Int.tmod (wrap64 (t117 + t126)) t112) then (if bt128.2 = 0 then (if bt132.2 = 0 then ((laws_b10Nums.f kj24 bt128.1 bt132.1).bind fun t136 => (some t136)) else (some false)) else (some false)) else (some false)) else (some false)) else (some false))))) = some r := H
                   have A37 := Aside0.mk A370
                   clear A370
                   by_cases c38 : t112 = 0
                   ·rw [if_pos c38] at H
                    exact absurd H (by simp)
                   ·as_aux_lemma =>
                     rw [if_neg c38] at H
                     have c38b0 : (t112 == 0) = false := beq_eq_false_iff_ne.mpr c38
                     have c38b1 : (t112 != 0) = true := bne_iff_ne.mpr c38
                     replace H := Option.bind_eq_some_iff.mp H
                     obtain ⟨⟨t128, t129⟩, A390, H⟩ := H
                     replace H : ((impl_AddVectors.f kj24 t110 t110 t112).bind fun bt132 => (if t125 = 0 then (if t127 = 0 then (if t124 = (Int.tmod (wrap64 (t117 + t126)) t112) then (if t129 = 0 then (if bt132.2 = 0 then ((laws_b10Nums.f kj24 t128 bt132.1).bind fun t136 => (some t136)) else (some false)) else (some false)) else (some false)) else (some false)) else (some false))) = some r := H
                     have A39 := Aside0.mk A390
                     clear A390
                     replace H := Option.bind_eq_some_iff.mp H
                     obtain ⟨⟨t132, t133⟩, A400, H⟩ := H
                     replace H : (if t125 = 0 then (if t127 = 0 then (if t124 = (Int.tmod (wrap64 (t117 + t126)) t112) then (if t129 = 0 then (if t133 = 0 then ((laws_b10Nums.f kj24 t128 t132).bind fun t136 => (some t136)) else (some false)) else (some false)) else (some false)) else (some false)) else (some false)) = some r := H
                     have A40 := Aside0.mk A400
                     clear A400
                     by_cases c41 : t125 = 0
                     ·rw [if_pos c41] at H
                      have c41b0 : (t125 == 0) = true := beq_iff_eq.mpr c41
                      have c41b1 : (t125 != 0) = false := bne_eq_false_iff_eq.mpr c41
                      clear c41
                      by_cases c42 : t127 = 0
                      ·rw [if_pos c42] at H
                       have c42b0 : (t127 == 0) = true := beq_iff_eq.mpr c42
                       have c42b1 : (t127 != 0) = false := bne_eq_false_iff_eq.mpr c42
                       clear c42
                       by_cases c43 : t124 = (Int.tmod (wrap64 (t117 + t126)) t112)
                       ·rw [if_pos c43] at H
                        have c43b0 : (t124 == (Int.tmod (wrap64 (t117 + t126)) t112)) = true := beq_iff_eq.mpr c43
                        have c43b1 : (t124 != (Int.tmod (wrap64 (t117 + t126)) t112)) = false := bne_eq_false_iff_eq.mpr c43
                        clear c43
                        by_cases c44 : t129 = 0
                        ·rw [if_pos c44] at H
                         have c44b0 : (t129 == 0) = true := beq_iff_eq.mpr c44
                         have c44b1 : (t129 != 0) = false := bne_eq_false_iff_eq.mpr c44
                         clear c44
                         by_cases c45 : t133 = 0
                         ·rw [if_pos c45] at H
                          have c45b0 : (t133 == 0) = true := beq_iff_eq.mpr c45
                          have c45b1 : (t133 != 0) = false := bne_eq_false_iff_eq.mpr c45
                          clear c45
                          replace H := Option.bind_eq_some_iff.mp H
                          obtain ⟨t136, A460, H⟩ := H
                          replace H : (some t136) = some r := H
                          have A46 := Aside0.mk A460
                          clear A460
                          obtain rfl := Option.some.inj H
                          go_wp2_with (first | ((with_reducible refine gate_callee (f := 21) rfl ?_); refine goesL_ (some 101) rfl rfl Try.func21 (by kernel_rfl) rfl #[.slice A1 l1.length c1] rfl Z6.z1 ?_; (with_reducible refine (spec_DrawDotOf.calls kj24 _ _ l1 t110 t111 t112 _ ?side1 ?side2 A29.out).mono ?_); (case side1 => exact Z6.z7); (case side2 => exact HC1.out); rintro e w47 ⟨v113, v115, rfl, ho0, ho1, hb⟩; refine ⟨_, rfl, ?_⟩; have n0_ := Aside0.mk (Kd.R_lower ho0 (below_size Z6.z0)); have n1_ := Aside0.mk (Kd.R_lower ho1 (below_size Z6.z0)); have n2_ := Aside0.mk (below_step Z6.z0 hb); clear HB; have HO114 := n0_; have HO116 := n1_; have HB := n2_; clear n0_ n1_ n2_; (try clear hb); (try clear hb2); (try clear hk); (try clear hi); (try clear ho0); (try clear ho1); obtain ⟨Ao48, co48, eo48⟩ := Kd.R_slice HO114.out; subst eo48; obtain ⟨Ao49, co49, eo49⟩ := Kd.R_slice HO116.out; subst eo49) | ((with_reducible refine gate_callee (f := 22) rfl ?_); refine goesL_ (some 109) rfl rfl Try.func22 (by kernel_rfl) rfl #[.slice Ao48 t110.length co48, .slice Ao49 t111.length co49, .int .i64 t112] rfl Z6.z1 ?_; (with_reducible refine (impl_DotOf.calls kj24 _ _ t110 _ _ t111 t112 t117 t118 _ ?side1 ?side2 ?side3 ?side4 A30.out).mono ?_); (case side1 => exact Z6.z3); (case side2 => exact (Kd.R_reads' HO114.out).2.1); (case side3 => exact Z6.z2); (case side4 => exact (Kd.R_reads' HO116.out).2.1); rintro e w50 ⟨rfl, hb⟩; refine ⟨_, rfl, ?_⟩; have n0_ := Aside0.mk (Kd.R_below Z6.z5 hb); have n1_ := Aside0.mk (Kd.R_below Z6.z4 hb); have n2_ := Aside0.mk (below_step Z6.z0 hb); clear HO114 HO116 HB; have HO114 := n0_; have HO116 := n1_; have HB := n2_; clear n0_ n1_ n2_; (try clear hb); (try clear hb2); (try clear hk); (try clear hi)) | ((with_reducible refine gate_callee (f := 23) rfl ?_); refine goesL_ (some 116) rfl rfl Try.func23 (by kernel_rfl) rfl #[.slice Ao48 t110.length co48, .slice Ao49 t111.length co49, .int .i64 t112] rfl Z6.z1 ?_; (with_reducible refine (impl_AddVectors.calls kj24 _ _ t110 _ _ t111 t112 t119 t120 _ ?side1 ?side2 ?side3 ?side4 A31.out).mono ?_); (case side1 => exact Z6.z3); (case side2 => exact (Kd.R_reads' HO114.out).2.1); (case side3 => exact Z6.z2); (case side4 => exact (Kd.R_reads' HO116.out).2.1); rintro e w51 ⟨v121, rfl, ho0, hb⟩; refine ⟨_, rfl, ?_⟩; have n0_ := Aside0.mk (Kd.R_elder' Z6.z5 (Kd.R_base ho0) hb); have n1_ := Aside0.mk (Kd.R_elder' Z6.z4 (Kd.R_base ho0) hb); have n2_ := Aside0.mk (Kd.R_lower (Kd.R_new' (Kd.R_new' ho0 (Kd.R_lt Z6.z5)) (Kd.R_lt Z6.z4)) (below_size Z6.z0)); have n3_ := Aside0.mk (below_step Z6.z0 hb); clear HO114 HO116 HB; have HO114 := n0_; have HO116 := n1_; have HO122 := n2_; have HB := n3_; clear n0_ n1_ n2_ n3_; (try clear hb); (try clear hb2); (try clear hk); (try clear hi); (try clear ho0)) | ((with_reducible refine gate_callee (f := 20) rfl ?_); refine goesL_ (some 132) rfl rfl Try.func20 (by kernel_rfl) rfl #[.int .i64 t112] rfl Z6.z1 ?_; (with_reducible refine (spec_ValidPrime.calls kj24 t112 true _ A34.out).mono ?_); rintro e w' ⟨rfl, ⟨nd, rfl⟩⟩; refine ⟨_, rfl, ?_⟩; obtain ⟨Ao52, co52, eo52⟩ := Kd.R_slice HO122.out; subst eo52) | ((with_reducible refine gate_callee (f := 22) rfl ?_); refine goesL_ (some 138) rfl rfl Try.func22 (by kernel_rfl) rfl #[.slice Ao52 t119.length co52, .slice Ao49 t111.length co49, .int .i64 t112] rfl Z6.z1 ?_; (with_reducible refine (impl_DotOf.calls kj24 _ _ t119 _ _ t111 t112 t124 t125 _ ?side1 ?side2 ?side3 ?side4 A36.out).mono ?_); (case side1 => exact Z6.z10); (case side2 => exact (Kd.R_reads' HO122.out).2.1); (case side3 => exact Z6.z2); (case side4 => exact (Kd.R_reads' HO116.out).2.1); rintro e w53 ⟨rfl, hb⟩; refine ⟨_, rfl, ?_⟩; have n0_ := Aside0.mk (Kd.R_below Z6.z5 hb); have n1_ := Aside0.mk (Kd.R_below Z6.z4 hb); have n2_ := Aside0.mk (Kd.R_below Z6.z6 hb); have n3_ := Aside0.mk (below_step Z6.z0 hb); clear HO114 HO116 HO122 HB; have HO114 := n0_; have HO116 := n1_; have HO122 := n2_; have HB := n3_; clear n0_ n1_ n2_ n3_; (try clear hb); (try clear hb2); (try clear hk); (try clear hi)) | ((with_reducible refine gate_callee (f := 22) rfl ?_); refine goesL_ (some 145) rfl rfl Try.func22 (by kernel_rfl) rfl #[.slice Ao49 t111.length co49, .slice Ao49 t111.length co49, .int .i64 t112] rfl Z6.z1 ?_; (with_reducible refine (impl_DotOf.calls kj24 _ _ t111 _ _ t111 t112 t126 t127 _ ?side1 ?side2 ?side3 ?side4 A37.out).mono ?_); (case side1 => exact Z6.z2); (case side2 => exact (Kd.R_reads' HO116.out).2.1); (case side3 => exact Z6.z2); (case side4 => exact (Kd.R_reads' HO116.out).2.1); rintro e w54 ⟨rfl, hb⟩; refine ⟨_, rfl, ?_⟩; have n0_ := Aside0.mk (Kd.R_below Z6.z5 hb); have n1_ := Aside0.mk (Kd.R_below Z6.z4 hb); have n2_ := Aside0.mk (Kd.R_below Z6.z6 hb); have n3_ := Aside0.mk (below_step Z6.z0 hb); clear HO114 HO116 HO122 HB; have HO114 := n0_; have HO116 := n1_; have HO122 := n2_; have HB := n3_; clear n0_ n1_ n2_ n3_; (try clear hb); (try clear hb2); (try clear hk); (try clear hi)) | ((with_reducible refine gate_callee (f := 24) rfl ?_); refine goesL_ (some 153) rfl rfl Try.func24 (by kernel_rfl) rfl #[.slice Ao48 t110.length co48, .int .i64 ((2 : Int) % t112), .int .i64 t112] rfl Z6.z1 ?_; (with_reducible refine (impl_ScaleVector.calls kj24 _ _ t110 ((2 : Int) % t112) t112 t128 t129 _ ?side1 ?side2 A39.out).mono ?_); (case side1 => exact Z6.z3); (case side2 => exact (Kd.R_reads' HO114.out).2.1); rintro e w55 ⟨v130, rfl, ho0, hb⟩; refine ⟨_, rfl, ?_⟩; have n0_ := Aside0.mk (Kd.R_elder' Z6.z5 (Kd.R_base ho0) hb); have n1_ := Aside0.mk (Kd.R_elder' Z6.z4 (Kd.R_base ho0) hb); have n2_ := Aside0.mk (Kd.R_elder' Z6.z6 (Kd.R_base ho0) hb); have n3_ := Aside0.mk (Kd.R_lower (Kd.R_new' (Kd.R_new' (Kd.R_new' ho0 (Kd.R_lt Z6.z5)) (Kd.R_lt Z6.z4)) (Kd.R_lt Z6.z6)) (below_size Z6.z0)); have n4_ := Aside0.mk (below_step Z6.z0 hb); clear HO114 HO116 HO122 HB; have HO114 := n0_; have HO116 := n1_; have HO122 := n2_; have HO131 := n3_; have HB := n4_; clear n0_ n1_ n2_ n3_ n4_; (try clear hb); (try clear hb2); (try clear hk); (try clear hi); (try clear ho0)) | ((with_reducible refine gate_callee (f := 23) rfl ?_); refine goesL_ (some 160) rfl rfl Try.func23 (by kernel_rfl) rfl #[.slice Ao48 t110.length co48, .slice Ao48 t110.length co48, .int .i64 t112] rfl Z6.z1 ?_; (with_reducible refine (impl_AddVectors.calls kj24 _ _ t110 _ _ t110 t112 t132 t133 _ ?side1 ?side2 ?side3 ?side4 A40.out).mono ?_); (case side1 => exact Z6.z3); (case side2 => exact (Kd.R_reads' HO114.out).2.1); (case side3 => exact Z6.z3); (case side4 => exact (Kd.R_reads' HO114.out).2.1); rintro e w56 ⟨v134, rfl, ho0, hb⟩; refine ⟨_, rfl, ?_⟩; have n0_ := Aside0.mk (Kd.R_elder' Z6.z5 (Kd.R_base ho0) hb); have n1_ := Aside0.mk (Kd.R_elder' Z6.z4 (Kd.R_base ho0) hb); have n2_ := Aside0.mk (Kd.R_elder' Z6.z6 (Kd.R_base ho0) hb); have n3_ := Aside0.mk (Kd.R_elder' Z6.z8 (Kd.R_base ho0) hb); have n4_ := Aside0.mk (Kd.R_lower (Kd.R_new' (Kd.R_new' (Kd.R_new' (Kd.R_new' ho0 (Kd.R_lt Z6.z5)) (Kd.R_lt Z6.z4)) (Kd.R_lt Z6.z6)) (Kd.R_lt Z6.z8)) (below_size Z6.z0)); have n5_ := Aside0.mk (below_step Z6.z0 hb); clear HO114 HO116 HO122 HO131 HB; have HO114 := n0_; have HO116 := n1_; have HO122 := n2_; have HO131 := n3_; have HO135 := n4_; have HB := n5_; clear n0_ n1_ n2_ n3_ n4_ n5_; (try clear hb); (try clear hb2); (try clear hk); (try clear hi); (try clear ho0); obtain ⟨Ao57, co57, eo57⟩ := Kd.R_slice HO131.out; subst eo57; obtain ⟨Ao58, co58, eo58⟩ := Kd.R_slice HO135.out; subst eo58) | (go_at_call 25; (with_reducible refine (laws_b10Nums.calls kj24 _ _ t128 _ _ t132 t136 _ ?side1 ?side2 ?side3 ?side4 A46.out).mono ?_); (case side1 => exact (by repeat (first | exact (Kd.R_reads' HO131.out).2.2 | (with_reducible refine Kd.C_alloc ?_ _) | (with_reducible refine Kd.C_drewN ?_ _) | (with_reducible refine Kd.C_drew ?_)))); (case side2 => exact (Kd.R_reads' HO131.out).2.1); (case side3 => exact (by repeat (first | exact (Kd.R_reads' HO135.out).2.2 | (with_reducible refine Kd.C_alloc ?_ _) | (with_reducible refine Kd.C_drewN ?_ _) | (with_reducible refine Kd.C_drew ?_)))); (case side4 => exact (Kd.R_reads' HO135.out).2.1); rintro e w' ⟨rfl, ⟨nd, rfl⟩⟩))
                          go_ret
                          exact ⟨Z6.z9, Z6.z0⟩
                         rw [if_neg c45] at H
                         have c45b0 : (t133 == 0) = false := beq_eq_false_iff_ne.mpr c45
                         have c45b1 : (t133 != 0) = true := bne_iff_ne.mpr c45
                         obtain rfl := Option.some.inj H
                         go_wp2_with (first | ((with_reducible refine gate_callee (f := 21) rfl ?_); refine goesL_ (some 101) rfl rfl Try.func21 (by kernel_rfl) rfl #[.slice A1 l1.length c1] rfl Z6.z1 ?_; (with_reducible refine (spec_DrawDotOf.calls kj24 _ _ l1 t110 t111 t112 _ ?side1 ?side2 A29.out).mono ?_); (case side1 => exact Z6.z7); (case side2 => exact HC1.out); rintro e w59 ⟨v113, v115, rfl, ho0, ho1, hb⟩; refine ⟨_, rfl, ?_⟩; have n0_ := Aside0.mk (Kd.R_lower ho0 (below_size Z6.z0)); have n1_ := Aside0.mk (Kd.R_lower ho1 (below_size Z6.z0)); have n2_ := Aside0.mk (below_step Z6.z0 hb); clear HB; have HO114 := n0_; have HO116 := n1_; have HB := n2_; clear n0_ n1_ n2_; (try clear hb); (try clear hb2); (try clear hk); (try clear hi); (try clear ho0); (try clear ho1); obtain ⟨Ao60, co60, eo60⟩ := Kd.R_slice HO114.out; subst eo60; obtain ⟨Ao61, co61, eo61⟩ := Kd.R_slice HO116.out; subst eo61) | ((with_reducible refine gate_callee (f := 22) rfl ?_); refine goesL_ (some 109) rfl rfl Try.func22 (by kernel_rfl) rfl #[.slice Ao60 t110.length co60, .slice Ao61 t111.length co61, .int .i64 t112] rfl Z6.z1 ?_; (with_reducible refine (impl_DotOf.calls kj24 _ _ t110 _ _ t111 t112 t117 t118 _ ?side1 ?side2 ?side3 ?side4 A30.out).mono ?_); (case side1 => exact Z6.z3); (case side2 => exact (Kd.R_reads' HO114.out).2.1); (case side3 => exact Z6.z2); (case side4 => exact (Kd.R_reads' HO116.out).2.1); rintro e w62 ⟨rfl, hb⟩; refine ⟨_, rfl, ?_⟩; have n0_ := Aside0.mk (Kd.R_below Z6.z5 hb); have n1_ := Aside0.mk (Kd.R_below Z6.z4 hb); have n2_ := Aside0.mk (below_step Z6.z0 hb); clear HO114 HO116 HB; have HO114 := n0_; have HO116 := n1_; have HB := n2_; clear n0_ n1_ n2_; (try clear hb); (try clear hb2); (try clear hk); (try clear hi)) | ((with_reducible refine gate_callee (f := 23) rfl ?_); refine goesL_ (some 116) rfl rfl Try.func23 (by kernel_rfl) rfl #[.slice Ao60 t110.length co60, .slice Ao61 t111.length co61, .int .i64 t112] rfl Z6.z1 ?_; (with_reducible refine (impl_AddVectors.calls kj24 _ _ t110 _ _ t111 t112 t119 t120 _ ?side1 ?side2 ?side3 ?side4 A31.out).mono ?_); (case side1 => exact Z6.z3); (case side2 => exact (Kd.R_reads' HO114.out).2.1); (case side3 => exact Z6.z2); (case side4 => exact (Kd.R_reads' HO116.out).2.1); rintro e w63 ⟨v121, rfl, ho0, hb⟩; refine ⟨_, rfl, ?_⟩; have n0_ := Aside0.mk (Kd.R_elder' Z6.z5 (Kd.R_base ho0) hb); have n1_ := Aside0.mk (Kd.R_elder' Z6.z4 (Kd.R_base ho0) hb); have n2_ := Aside0.mk (Kd.R_lower (Kd.R_new' (Kd.R_new' ho0 (Kd.R_lt Z6.z5)) (Kd.R_lt Z6.z4)) (below_size Z6.z0)); have n3_ := Aside0.mk (below_step Z6.z0 hb); clear HO114 HO116 HB; have HO114 := n0_; have HO116 := n1_; have HO122 := n2_; have HB := n3_; clear n0_ n1_ n2_ n3_; (try clear hb); (try clear hb2); (try clear hk); (try clear hi); (try clear ho0)) | ((with_reducible refine gate_callee (f := 20) rfl ?_); refine goesL_ (some 132) rfl rfl Try.func20 (by kernel_rfl) rfl #[.int .i64 t112] rfl Z6.z1 ?_; (with_reducible refine (spec_ValidPrime.calls kj24 t112 true _ A34.out).mono ?_); rintro e w' ⟨rfl, ⟨nd, rfl⟩⟩; refine ⟨_, rfl, ?_⟩; obtain ⟨Ao64, co64, eo64⟩ := Kd.R_slice HO122.out; subst eo64) | ((with_reducible refine gate_callee (f := 22) rfl ?_); refine goesL_ (some 138) rfl rfl Try.func22 (by kernel_rfl) rfl #[.slice Ao64 t119.length co64, .slice Ao61 t111.length co61, .int .i64 t112] rfl Z6.z1 ?_; (with_reducible refine (impl_DotOf.calls kj24 _ _ t119 _ _ t111 t112 t124 t125 _ ?side1 ?side2 ?side3 ?side4 A36.out).mono ?_); (case side1 => exact Z6.z10); (case side2 => exact (Kd.R_reads' HO122.out).2.1); (case side3 => exact Z6.z2); (case side4 => exact (Kd.R_reads' HO116.out).2.1); rintro e w65 ⟨rfl, hb⟩; refine ⟨_, rfl, ?_⟩; have n0_ := Aside0.mk (Kd.R_below Z6.z5 hb); have n1_ := Aside0.mk (Kd.R_below Z6.z4 hb); have n2_ := Aside0.mk (Kd.R_below Z6.z6 hb); have n3_ := Aside0.mk (below_step Z6.z0 hb); clear HO114 HO116 HO122 HB; have HO114 := n0_; have HO116 := n1_; have HO122 := n2_; have HB := n3_; clear n0_ n1_ n2_ n3_; (try clear hb); (try clear hb2); (try clear hk); (try clear hi)) | ((with_reducible refine gate_callee (f := 22) rfl ?_); refine goesL_ (some 145) rfl rfl Try.func22 (by kernel_rfl) rfl #[.slice Ao61 t111.length co61, .slice Ao61 t111.length co61, .int .i64 t112] rfl Z6.z1 ?_; (with_reducible refine (impl_DotOf.calls kj24 _ _ t111 _ _ t111 t112 t126 t127 _ ?side1 ?side2 ?side3 ?side4 A37.out).mono ?_); (case side1 => exact Z6.z2); (case side2 => exact (Kd.R_reads' HO116.out).2.1); (case side3 => exact Z6.z2); (case side4 => exact (Kd.R_reads' HO116.out).2.1); rintro e w66 ⟨rfl, hb⟩; refine ⟨_, rfl, ?_⟩; have n0_ := Aside0.mk (Kd.R_below Z6.z5 hb); have n1_ := Aside0.mk (Kd.R_below Z6.z4 hb); have n2_ := Aside0.mk (Kd.R_below Z6.z6 hb); have n3_ := Aside0.mk (below_step Z6.z0 hb); clear HO114 HO116 HO122 HB; have HO114 := n0_; have HO116 := n1_; have HO122 := n2_; have HB := n3_; clear n0_ n1_ n2_ n3_; (try clear hb); (try clear hb2); (try clear hk); (try clear hi)) | ((with_reducible refine gate_callee (f := 24) rfl ?_); refine goesL_ (some 153) rfl rfl Try.func24 (by kernel_rfl) rfl #[.slice Ao60 t110.length co60, .int .i64 ((2 : Int) % t112), .int .i64 t112] rfl Z6.z1 ?_; (with_reducible refine (impl_ScaleVector.calls kj24 _ _ t110 ((2 : Int) % t112) t112 t128 t129 _ ?side1 ?side2 A39.out).mono ?_); (case side1 => exact Z6.z3); (case side2 => exact (Kd.R_reads' HO114.out).2.1); rintro e w67 ⟨v130, rfl, ho0, hb⟩; refine ⟨_, rfl, ?_⟩; have n0_ := Aside0.mk (Kd.R_elder' Z6.z5 (Kd.R_base ho0) hb); have n1_ := Aside0.mk (Kd.R_elder' Z6.z4 (Kd.R_base ho0) hb); have n2_ := Aside0.mk (Kd.R_elder' Z6.z6 (Kd.R_base ho0) hb); have n3_ := Aside0.mk (Kd.R_lower (Kd.R_new' (Kd.R_new' (Kd.R_new' ho0 (Kd.R_lt Z6.z5)) (Kd.R_lt Z6.z4)) (Kd.R_lt Z6.z6)) (below_size Z6.z0)); have n4_ := Aside0.mk (below_step Z6.z0 hb); clear HO114 HO116 HO122 HB; have HO114 := n0_; have HO116 := n1_; have HO122 := n2_; have HO131 := n3_; have HB := n4_; clear n0_ n1_ n2_ n3_ n4_; (try clear hb); (try clear hb2); (try clear hk); (try clear hi); (try clear ho0)) | ((with_reducible refine gate_callee (f := 23) rfl ?_); refine goesL_ (some 160) rfl rfl Try.func23 (by kernel_rfl) rfl #[.slice Ao60 t110.length co60, .slice Ao60 t110.length co60, .int .i64 t112] rfl Z6.z1 ?_; (with_reducible refine (impl_AddVectors.calls kj24 _ _ t110 _ _ t110 t112 t132 t133 _ ?side1 ?side2 ?side3 ?side4 A40.out).mono ?_); (case side1 => exact Z6.z3); (case side2 => exact (Kd.R_reads' HO114.out).2.1); (case side3 => exact Z6.z3); (case side4 => exact (Kd.R_reads' HO114.out).2.1); rintro e w68 ⟨v134, rfl, ho0, hb⟩; refine ⟨_, rfl, ?_⟩; have n0_ := Aside0.mk (Kd.R_elder' Z6.z5 (Kd.R_base ho0) hb); have n1_ := Aside0.mk (Kd.R_elder' Z6.z4 (Kd.R_base ho0) hb); have n2_ := Aside0.mk (Kd.R_elder' Z6.z6 (Kd.R_base ho0) hb); have n3_ := Aside0.mk (Kd.R_elder' Z6.z8 (Kd.R_base ho0) hb); have n4_ := Aside0.mk (Kd.R_lower (Kd.R_new' (Kd.R_new' (Kd.R_new' (Kd.R_new' ho0 (Kd.R_lt Z6.z5)) (Kd.R_lt Z6.z4)) (Kd.R_lt Z6.z6)) (Kd.R_lt Z6.z8)) (below_size Z6.z0)); have n5_ := Aside0.mk (below_step Z6.z0 hb); clear HO114 HO116 HO122 HO131 HB; have HO114 := n0_; have HO116 := n1_; have HO122 := n2_; have HO131 := n3_; have HO135 := n4_; have HB := n5_; clear n0_ n1_ n2_ n3_ n4_ n5_; (try clear hb); (try clear hb2); (try clear hk); (try clear hi); (try clear ho0)))
                         go_ret
                         exact ⟨Z6.z9, Z6.z0⟩
                        rw [if_neg c44] at H
                        have c44b0 : (t129 == 0) = false := beq_eq_false_iff_ne.mpr c44
                        have c44b1 : (t129 != 0) = true := bne_iff_ne.mpr c44
                        obtain rfl := Option.some.inj H
                        go_wp2_with (first | ((with_reducible refine gate_callee (f := 21) rfl ?_); refine goesL_ (some 101) rfl rfl Try.func21 (by kernel_rfl) rfl #[.slice A1 l1.length c1] rfl Z6.z1 ?_; (with_reducible refine (spec_DrawDotOf.calls kj24 _ _ l1 t110 t111 t112 _ ?side1 ?side2 A29.out).mono ?_); (case side1 => exact Z6.z7); (case side2 => exact HC1.out); rintro e w69 ⟨v113, v115, rfl, ho0, ho1, hb⟩; refine ⟨_, rfl, ?_⟩; have n0_ := Aside0.mk (Kd.R_lower ho0 (below_size Z6.z0)); have n1_ := Aside0.mk (Kd.R_lower ho1 (below_size Z6.z0)); have n2_ := Aside0.mk (below_step Z6.z0 hb); clear HB; have HO114 := n0_; have HO116 := n1_; have HB := n2_; clear n0_ n1_ n2_; (try clear hb); (try clear hb2); (try clear hk); (try clear hi); (try clear ho0); (try clear ho1); obtain ⟨Ao70, co70, eo70⟩ := Kd.R_slice HO114.out; subst eo70; obtain ⟨Ao71, co71, eo71⟩ := Kd.R_slice HO116.out; subst eo71) | ((with_reducible refine gate_callee (f := 22) rfl ?_); refine goesL_ (some 109) rfl rfl Try.func22 (by kernel_rfl) rfl #[.slice Ao70 t110.length co70, .slice Ao71 t111.length co71, .int .i64 t112] rfl Z6.z1 ?_; (with_reducible refine (impl_DotOf.calls kj24 _ _ t110 _ _ t111 t112 t117 t118 _ ?side1 ?side2 ?side3 ?side4 A30.out).mono ?_); (case side1 => exact Z6.z3); (case side2 => exact (Kd.R_reads' HO114.out).2.1); (case side3 => exact Z6.z2); (case side4 => exact (Kd.R_reads' HO116.out).2.1); rintro e w72 ⟨rfl, hb⟩; refine ⟨_, rfl, ?_⟩; have n0_ := Aside0.mk (Kd.R_below Z6.z5 hb); have n1_ := Aside0.mk (Kd.R_below Z6.z4 hb); have n2_ := Aside0.mk (below_step Z6.z0 hb); clear HO114 HO116 HB; have HO114 := n0_; have HO116 := n1_; have HB := n2_; clear n0_ n1_ n2_; (try clear hb); (try clear hb2); (try clear hk); (try clear hi)) | ((with_reducible refine gate_callee (f := 23) rfl ?_); refine goesL_ (some 116) rfl rfl Try.func23 (by kernel_rfl) rfl #[.slice Ao70 t110.length co70, .slice Ao71 t111.length co71, .int .i64 t112] rfl Z6.z1 ?_; (with_reducible refine (impl_AddVectors.calls kj24 _ _ t110 _ _ t111 t112 t119 t120 _ ?side1 ?side2 ?side3 ?side4 A31.out).mono ?_); (case side1 => exact Z6.z3); (case side2 => exact (Kd.R_reads' HO114.out).2.1); (case side3 => exact Z6.z2); (case side4 => exact (Kd.R_reads' HO116.out).2.1); rintro e w73 ⟨v121, rfl, ho0, hb⟩; refine ⟨_, rfl, ?_⟩; have n0_ := Aside0.mk (Kd.R_elder' Z6.z5 (Kd.R_base ho0) hb); have n1_ := Aside0.mk (Kd.R_elder' Z6.z4 (Kd.R_base ho0) hb); have n2_ := Aside0.mk (Kd.R_lower (Kd.R_new' (Kd.R_new' ho0 (Kd.R_lt Z6.z5)) (Kd.R_lt Z6.z4)) (below_size Z6.z0)); have n3_ := Aside0.mk (below_step Z6.z0 hb); clear HO114 HO116 HB; have HO114 := n0_; have HO116 := n1_; have HO122 := n2_; have HB := n3_; clear n0_ n1_ n2_ n3_; (try clear hb); (try clear hb2); (try clear hk); (try clear hi); (try clear ho0)) | ((with_reducible refine gate_callee (f := 20) rfl ?_); refine goesL_ (some 132) rfl rfl Try.func20 (by kernel_rfl) rfl #[.int .i64 t112] rfl Z6.z1 ?_; (with_reducible refine (spec_ValidPrime.calls kj24 t112 true _ A34.out).mono ?_); rintro e w' ⟨rfl, ⟨nd, rfl⟩⟩; refine ⟨_, rfl, ?_⟩; obtain ⟨Ao74, co74, eo74⟩ := Kd.R_slice HO122.out; subst eo74) | ((with_reducible refine gate_callee (f := 22) rfl ?_); refine goesL_ (some 138) rfl rfl Try.func22 (by kernel_rfl) rfl #[.slice Ao74 t119.length co74, .slice Ao71 t111.length co71, .int .i64 t112] rfl Z6.z1 ?_; (with_reducible refine (impl_DotOf.calls kj24 _ _ t119 _ _ t111 t112 t124 t125 _ ?side1 ?side2 ?side3 ?side4 A36.out).mono ?_); (case side1 => exact Z6.z10); (case side2 => exact (Kd.R_reads' HO122.out).2.1); (case side3 => exact Z6.z2); (case side4 => exact (Kd.R_reads' HO116.out).2.1); rintro e w75 ⟨rfl, hb⟩; refine ⟨_, rfl, ?_⟩; have n0_ := Aside0.mk (Kd.R_below Z6.z5 hb); have n1_ := Aside0.mk (Kd.R_below Z6.z4 hb); have n2_ := Aside0.mk (Kd.R_below Z6.z6 hb); have n3_ := Aside0.mk (below_step Z6.z0 hb); clear HO114 HO116 HO122 HB; have HO114 := n0_; have HO116 := n1_; have HO122 := n2_; have HB := n3_; clear n0_ n1_ n2_ n3_; (try clear hb); (try clear hb2); (try clear hk); (try clear hi)) | ((with_reducible refine gate_callee (f := 22) rfl ?_); refine goesL_ (some 145) rfl rfl Try.func22 (by kernel_rfl) rfl #[.slice Ao71 t111.length co71, .slice Ao71 t111.length co71, .int .i64 t112] rfl Z6.z1 ?_; (with_reducible refine (impl_DotOf.calls kj24 _ _ t111 _ _ t111 t112 t126 t127 _ ?side1 ?side2 ?side3 ?side4 A37.out).mono ?_); (case side1 => exact Z6.z2); (case side2 => exact (Kd.R_reads' HO116.out).2.1); (case side3 => exact Z6.z2); (case side4 => exact (Kd.R_reads' HO116.out).2.1); rintro e w76 ⟨rfl, hb⟩; refine ⟨_, rfl, ?_⟩; have n0_ := Aside0.mk (Kd.R_below Z6.z5 hb); have n1_ := Aside0.mk (Kd.R_below Z6.z4 hb); have n2_ := Aside0.mk (Kd.R_below Z6.z6 hb); have n3_ := Aside0.mk (below_step Z6.z0 hb); clear HO114 HO116 HO122 HB; have HO114 := n0_; have HO116 := n1_; have HO122 := n2_; have HB := n3_; clear n0_ n1_ n2_ n3_; (try clear hb); (try clear hb2); (try clear hk); (try clear hi)) | ((with_reducible refine gate_callee (f := 24) rfl ?_); refine goesL_ (some 153) rfl rfl Try.func24 (by kernel_rfl) rfl #[.slice Ao70 t110.length co70, .int .i64 ((2 : Int) % t112), .int .i64 t112] rfl Z6.z1 ?_; (with_reducible refine (impl_ScaleVector.calls kj24 _ _ t110 ((2 : Int) % t112) t112 t128 t129 _ ?side1 ?side2 A39.out).mono ?_); (case side1 => exact Z6.z3); (case side2 => exact (Kd.R_reads' HO114.out).2.1); rintro e w77 ⟨v130, rfl, ho0, hb⟩; refine ⟨_, rfl, ?_⟩; have n0_ := Aside0.mk (Kd.R_elder' Z6.z5 (Kd.R_base ho0) hb); have n1_ := Aside0.mk (Kd.R_elder' Z6.z4 (Kd.R_base ho0) hb); have n2_ := Aside0.mk (Kd.R_elder' Z6.z6 (Kd.R_base ho0) hb); have n3_ := Aside0.mk (Kd.R_lower (Kd.R_new' (Kd.R_new' (Kd.R_new' ho0 (Kd.R_lt Z6.z5)) (Kd.R_lt Z6.z4)) (Kd.R_lt Z6.z6)) (below_size Z6.z0)); have n4_ := Aside0.mk (below_step Z6.z0 hb); clear HO114 HO116 HO122 HB; have HO114 := n0_; have HO116 := n1_; have HO122 := n2_; have HO131 := n3_; have HB := n4_; clear n0_ n1_ n2_ n3_ n4_; (try clear hb); (try clear hb2); (try clear hk); (try clear hi); (try clear ho0)) | ((with_reducible refine gate_callee (f := 23) rfl ?_); refine goesL_ (some 160) rfl rfl Try.func23 (by kernel_rfl) rfl #[.slice Ao70 t110.length co70, .slice Ao70 t110.length co70, .int .i64 t112] rfl Z6.z1 ?_; (with_reducible refine (impl_AddVectors.calls kj24 _ _ t110 _ _ t110 t112 t132 t133 _ ?side1 ?side2 ?side3 ?side4 A40.out).mono ?_); (case side1 => exact Z6.z3); (case side2 => exact (Kd.R_reads' HO114.out).2.1); (case side3 => exact Z6.z3); (case side4 => exact (Kd.R_reads' HO114.out).2.1); rintro e w78 ⟨v134, rfl, ho0, hb⟩; refine ⟨_, rfl, ?_⟩; have n0_ := Aside0.mk (Kd.R_elder' Z6.z5 (Kd.R_base ho0) hb); have n1_ := Aside0.mk (Kd.R_elder' Z6.z4 (Kd.R_base ho0) hb); have n2_ := Aside0.mk (Kd.R_elder' Z6.z6 (Kd.R_base ho0) hb); have n3_ := Aside0.mk (Kd.R_elder' Z6.z8 (Kd.R_base ho0) hb); have n4_ := Aside0.mk (Kd.R_lower (Kd.R_new' (Kd.R_new' (Kd.R_new' (Kd.R_new' ho0 (Kd.R_lt Z6.z5)) (Kd.R_lt Z6.z4)) (Kd.R_lt Z6.z6)) (Kd.R_lt Z6.z8)) (below_size Z6.z0)); have n5_ := Aside0.mk (below_step Z6.z0 hb); clear HO114 HO116 HO122 HO131 HB; have HO114 := n0_; have HO116 := n1_; have HO122 := n2_; have HO131 := n3_; have HO135 := n4_; have HB := n5_; clear n0_ n1_ n2_ n3_ n4_ n5_; (try clear hb); (try clear hb2); (try clear hk); (try clear hi); (try clear ho0)))
                        go_ret
                        exact ⟨Z6.z9, Z6.z0⟩
                       rw [if_neg c43] at H
                       have c43b0 : (t124 == (Int.tmod (wrap64 (t117 + t126)) t112)) = false := beq_eq_false_iff_ne.mpr c43
                       have c43b1 : (t124 != (Int.tmod (wrap64 (t117 + t126)) t112)) = true := bne_iff_ne.mpr c43
                       obtain rfl := Option.some.inj H
                       go_wp2_with (first | ((with_reducible refine gate_callee (f := 21) rfl ?_); refine goesL_ (some 101) rfl rfl Try.func21 (by kernel_rfl) rfl #[.slice A1 l1.length c1] rfl Z6.z1 ?_; (with_reducible refine (spec_DrawDotOf.calls kj24 _ _ l1 t110 t111 t112 _ ?side1 ?side2 A29.out).mono ?_); (case side1 => exact Z6.z7); (case side2 => exact HC1.out); rintro e w79 ⟨v113, v115, rfl, ho0, ho1, hb⟩; refine ⟨_, rfl, ?_⟩; have n0_ := Aside0.mk (Kd.R_lower ho0 (below_size Z6.z0)); have n1_ := Aside0.mk (Kd.R_lower ho1 (below_size Z6.z0)); have n2_ := Aside0.mk (below_step Z6.z0 hb); clear HB; have HO114 := n0_; have HO116 := n1_; have HB := n2_; clear n0_ n1_ n2_; (try clear hb); (try clear hb2); (try clear hk); (try clear hi); (try clear ho0); (try clear ho1); obtain ⟨Ao80, co80, eo80⟩ := Kd.R_slice HO114.out; subst eo80; obtain ⟨Ao81, co81, eo81⟩ := Kd.R_slice HO116.out; subst eo81) | ((with_reducible refine gate_callee (f := 22) rfl ?_); refine goesL_ (some 109) rfl rfl Try.func22 (by kernel_rfl) rfl #[.slice Ao80 t110.length co80, .slice Ao81 t111.length co81, .int .i64 t112] rfl Z6.z1 ?_; (with_reducible refine (impl_DotOf.calls kj24 _ _ t110 _ _ t111 t112 t117 t118 _ ?side1 ?side2 ?side3 ?side4 A30.out).mono ?_); (case side1 => exact Z6.z3); (case side2 => exact (Kd.R_reads' HO114.out).2.1); (case side3 => exact Z6.z2); (case side4 => exact (Kd.R_reads' HO116.out).2.1); rintro e w82 ⟨rfl, hb⟩; refine ⟨_, rfl, ?_⟩; have n0_ := Aside0.mk (Kd.R_below Z6.z5 hb); have n1_ := Aside0.mk (Kd.R_below Z6.z4 hb); have n2_ := Aside0.mk (below_step Z6.z0 hb); clear HO114 HO116 HB; have HO114 := n0_; have HO116 := n1_; have HB := n2_; clear n0_ n1_ n2_; (try clear hb); (try clear hb2); (try clear hk); (try clear hi)) | ((with_reducible refine gate_callee (f := 23) rfl ?_); refine goesL_ (some 116) rfl rfl Try.func23 (by kernel_rfl) rfl #[.slice Ao80 t110.length co80, .slice Ao81 t111.length co81, .int .i64 t112] rfl Z6.z1 ?_; (with_reducible refine (impl_AddVectors.calls kj24 _ _ t110 _ _ t111 t112 t119 t120 _ ?side1 ?side2 ?side3 ?side4 A31.out).mono ?_); (case side1 => exact Z6.z3); (case side2 => exact (Kd.R_reads' HO114.out).2.1); (case side3 => exact Z6.z2); (case side4 => exact (Kd.R_reads' HO116.out).2.1); rintro e w83 ⟨v121, rfl, ho0, hb⟩; refine ⟨_, rfl, ?_⟩; have n0_ := Aside0.mk (Kd.R_elder' Z6.z5 (Kd.R_base ho0) hb); have n1_ := Aside0.mk (Kd.R_elder' Z6.z4 (Kd.R_base ho0) hb); have n2_ := Aside0.mk (Kd.R_lower (Kd.R_new' (Kd.R_new' ho0 (Kd.R_lt Z6.z5)) (Kd.R_lt Z6.z4)) (below_size Z6.z0)); have n3_ := Aside0.mk (below_step Z6.z0 hb); clear HO114 HO116 HB; have HO114 := n0_; have HO116 := n1_; have HO122 := n2_; have HB := n3_; clear n0_ n1_ n2_ n3_; (try clear hb); (try clear hb2); (try clear hk); (try clear hi); (try clear ho0)) | ((with_reducible refine gate_callee (f := 20) rfl ?_); refine goesL_ (some 132) rfl rfl Try.func20 (by kernel_rfl) rfl #[.int .i64 t112] rfl Z6.z1 ?_; (with_reducible refine (spec_ValidPrime.calls kj24 t112 true _ A34.out).mono ?_); rintro e w' ⟨rfl, ⟨nd, rfl⟩⟩; refine ⟨_, rfl, ?_⟩; obtain ⟨Ao84, co84, eo84⟩ := Kd.R_slice HO122.out; subst eo84) | ((with_reducible refine gate_callee (f := 22) rfl ?_); refine goesL_ (some 138) rfl rfl Try.func22 (by kernel_rfl) rfl #[.slice Ao84 t119.length co84, .slice Ao81 t111.length co81, .int .i64 t112] rfl Z6.z1 ?_; (with_reducible refine (impl_DotOf.calls kj24 _ _ t119 _ _ t111 t112 t124 t125 _ ?side1 ?side2 ?side3 ?side4 A36.out).mono ?_); (case side1 => exact Z6.z10); (case side2 => exact (Kd.R_reads' HO122.out).2.1); (case side3 => exact Z6.z2); (case side4 => exact (Kd.R_reads' HO116.out).2.1); rintro e w85 ⟨rfl, hb⟩; refine ⟨_, rfl, ?_⟩; have n0_ := Aside0.mk (Kd.R_below Z6.z5 hb); have n1_ := Aside0.mk (Kd.R_below Z6.z4 hb); have n2_ := Aside0.mk (Kd.R_below Z6.z6 hb); have n3_ := Aside0.mk (below_step Z6.z0 hb); clear HO114 HO116 HO122 HB; have HO114 := n0_; have HO116 := n1_; have HO122 := n2_; have HB := n3_; clear n0_ n1_ n2_ n3_; (try clear hb); (try clear hb2); (try clear hk); (try clear hi)) | ((with_reducible refine gate_callee (f := 22) rfl ?_); refine goesL_ (some 145) rfl rfl Try.func22 (by kernel_rfl) rfl #[.slice Ao81 t111.length co81, .slice Ao81 t111.length co81, .int .i64 t112] rfl Z6.z1 ?_; (with_reducible refine (impl_DotOf.calls kj24 _ _ t111 _ _ t111 t112 t126 t127 _ ?side1 ?side2 ?side3 ?side4 A37.out).mono ?_); (case side1 => exact Z6.z2); (case side2 => exact (Kd.R_reads' HO116.out).2.1); (case side3 => exact Z6.z2); (case side4 => exact (Kd.R_reads' HO116.out).2.1); rintro e w86 ⟨rfl, hb⟩; refine ⟨_, rfl, ?_⟩; have n0_ := Aside0.mk (Kd.R_below Z6.z5 hb); have n1_ := Aside0.mk (Kd.R_below Z6.z4 hb); have n2_ := Aside0.mk (Kd.R_below Z6.z6 hb); have n3_ := Aside0.mk (below_step Z6.z0 hb); clear HO114 HO116 HO122 HB; have HO114 := n0_; have HO116 := n1_; have HO122 := n2_; have HB := n3_; clear n0_ n1_ n2_ n3_; (try clear hb); (try clear hb2); (try clear hk); (try clear hi)) | ((with_reducible refine gate_callee (f := 24) rfl ?_); refine goesL_ (some 153) rfl rfl Try.func24 (by kernel_rfl) rfl #[.slice Ao80 t110.length co80, .int .i64 ((2 : Int) % t112), .int .i64 t112] rfl Z6.z1 ?_; (with_reducible refine (impl_ScaleVector.calls kj24 _ _ t110 ((2 : Int) % t112) t112 t128 t129 _ ?side1 ?side2 A39.out).mono ?_); (case side1 => exact Z6.z3); (case side2 => exact (Kd.R_reads' HO114.out).2.1); rintro e w87 ⟨v130, rfl, ho0, hb⟩; refine ⟨_, rfl, ?_⟩; have n0_ := Aside0.mk (Kd.R_elder' Z6.z5 (Kd.R_base ho0) hb); have n1_ := Aside0.mk (Kd.R_elder' Z6.z4 (Kd.R_base ho0) hb); have n2_ := Aside0.mk (Kd.R_elder' Z6.z6 (Kd.R_base ho0) hb); have n3_ := Aside0.mk (Kd.R_lower (Kd.R_new' (Kd.R_new' (Kd.R_new' ho0 (Kd.R_lt Z6.z5)) (Kd.R_lt Z6.z4)) (Kd.R_lt Z6.z6)) (below_size Z6.z0)); have n4_ := Aside0.mk (below_step Z6.z0 hb); clear HO114 HO116 HO122 HB; have HO114 := n0_; have HO116 := n1_; have HO122 := n2_; have HO131 := n3_; have HB := n4_; clear n0_ n1_ n2_ n3_ n4_; (try clear hb); (try clear hb2); (try clear hk); (try clear hi); (try clear ho0)) | ((with_reducible refine gate_callee (f := 23) rfl ?_); refine goesL_ (some 160) rfl rfl Try.func23 (by kernel_rfl) rfl #[.slice Ao80 t110.length co80, .slice Ao80 t110.length co80, .int .i64 t112] rfl Z6.z1 ?_; (with_reducible refine (impl_AddVectors.calls kj24 _ _ t110 _ _ t110 t112 t132 t133 _ ?side1 ?side2 ?side3 ?side4 A40.out).mono ?_); (case side1 => exact Z6.z3); (case side2 => exact (Kd.R_reads' HO114.out).2.1); (case side3 => exact Z6.z3); (case side4 => exact (Kd.R_reads' HO114.out).2.1); rintro e w88 ⟨v134, rfl, ho0, hb⟩; refine ⟨_, rfl, ?_⟩; have n0_ := Aside0.mk (Kd.R_elder' Z6.z5 (Kd.R_base ho0) hb); have n1_ := Aside0.mk (Kd.R_elder' Z6.z4 (Kd.R_base ho0) hb); have n2_ := Aside0.mk (Kd.R_elder' Z6.z6 (Kd.R_base ho0) hb); have n3_ := Aside0.mk (Kd.R_elder' Z6.z8 (Kd.R_base ho0) hb); have n4_ := Aside0.mk (Kd.R_lower (Kd.R_new' (Kd.R_new' (Kd.R_new' (Kd.R_new' ho0 (Kd.R_lt Z6.z5)) (Kd.R_lt Z6.z4)) (Kd.R_lt Z6.z6)) (Kd.R_lt Z6.z8)) (below_size Z6.z0)); have n5_ := Aside0.mk (below_step Z6.z0 hb); clear HO114 HO116 HO122 HO131 HB; have HO114 := n0_; have HO116 := n1_; have HO122 := n2_; have HO131 := n3_; have HO135 := n4_; have HB := n5_; clear n0_ n1_ n2_ n3_ n4_ n5_; (try clear hb); (try clear hb2); (try clear hk); (try clear hi); (try clear ho0)))
                       go_ret
                       exact ⟨Z6.z9, Z6.z0⟩
                      rw [if_neg c42] at H
                      have c42b0 : (t127 == 0) = false := beq_eq_false_iff_ne.mpr c42
                      have c42b1 : (t127 != 0) = true := bne_iff_ne.mpr c42
                      obtain rfl := Option.some.inj H
                      go_wp2_with (first | ((with_reducible refine gate_callee (f := 21) rfl ?_); refine goesL_ (some 101) rfl rfl Try.func21 (by kernel_rfl) rfl #[.slice A1 l1.length c1] rfl Z6.z1 ?_; (with_reducible refine (spec_DrawDotOf.calls kj24 _ _ l1 t110 t111 t112 _ ?side1 ?side2 A29.out).mono ?_); (case side1 => exact Z6.z7); (case side2 => exact HC1.out); rintro e w89 ⟨v113, v115, rfl, ho0, ho1, hb⟩; refine ⟨_, rfl, ?_⟩; have n0_ := Aside0.mk (Kd.R_lower ho0 (below_size Z6.z0)); have n1_ := Aside0.mk (Kd.R_lower ho1 (below_size Z6.z0)); have n2_ := Aside0.mk (below_step Z6.z0 hb); clear HB; have HO114 := n0_; have HO116 := n1_; have HB := n2_; clear n0_ n1_ n2_; (try clear hb); (try clear hb2); (try clear hk); (try clear hi); (try clear ho0); (try clear ho1); obtain ⟨Ao90, co90, eo90⟩ := Kd.R_slice HO114.out; subst eo90; obtain ⟨Ao91, co91, eo91⟩ := Kd.R_slice HO116.out; subst eo91) | ((with_reducible refine gate_callee (f := 22) rfl ?_); refine goesL_ (some 109) rfl rfl Try.func22 (by kernel_rfl) rfl #[.slice Ao90 t110.length co90, .slice Ao91 t111.length co91, .int .i64 t112] rfl Z6.z1 ?_; (with_reducible refine (impl_DotOf.calls kj24 _ _ t110 _ _ t111 t112 t117 t118 _ ?side1 ?side2 ?side3 ?side4 A30.out).mono ?_); (case side1 => exact Z6.z3); (case side2 => exact (Kd.R_reads' HO114.out).2.1); (case side3 => exact Z6.z2); (case side4 => exact (Kd.R_reads' HO116.out).2.1); rintro e w92 ⟨rfl, hb⟩; refine ⟨_, rfl, ?_⟩; have n0_ := Aside0.mk (Kd.R_below Z6.z5 hb); have n1_ := Aside0.mk (Kd.R_below Z6.z4 hb); have n2_ := Aside0.mk (below_step Z6.z0 hb); clear HO114 HO116 HB; have HO114 := n0_; have HO116 := n1_; have HB := n2_; clear n0_ n1_ n2_; (try clear hb); (try clear hb2); (try clear hk); (try clear hi)) | ((with_reducible refine gate_callee (f := 23) rfl ?_); refine goesL_ (some 116) rfl rfl Try.func23 (by kernel_rfl) rfl #[.slice Ao90 t110.length co90, .slice Ao91 t111.length co91, .int .i64 t112] rfl Z6.z1 ?_; (with_reducible refine (impl_AddVectors.calls kj24 _ _ t110 _ _ t111 t112 t119 t120 _ ?side1 ?side2 ?side3 ?side4 A31.out).mono ?_); (case side1 => exact Z6.z3); (case side2 => exact (Kd.R_reads' HO114.out).2.1); (case side3 => exact Z6.z2); (case side4 => exact (Kd.R_reads' HO116.out).2.1); rintro e w93 ⟨v121, rfl, ho0, hb⟩; refine ⟨_, rfl, ?_⟩; have n0_ := Aside0.mk (Kd.R_elder' Z6.z5 (Kd.R_base ho0) hb); have n1_ := Aside0.mk (Kd.R_elder' Z6.z4 (Kd.R_base ho0) hb); have n2_ := Aside0.mk (Kd.R_lower (Kd.R_new' (Kd.R_new' ho0 (Kd.R_lt Z6.z5)) (Kd.R_lt Z6.z4)) (below_size Z6.z0)); have n3_ := Aside0.mk (below_step Z6.z0 hb); clear HO114 HO116 HB; have HO114 := n0_; have HO116 := n1_; have HO122 := n2_; have HB := n3_; clear n0_ n1_ n2_ n3_; (try clear hb); (try clear hb2); (try clear hk); (try clear hi); (try clear ho0)) | ((with_reducible refine gate_callee (f := 20) rfl ?_); refine goesL_ (some 132) rfl rfl Try.func20 (by kernel_rfl) rfl #[.int .i64 t112] rfl Z6.z1 ?_; (with_reducible refine (spec_ValidPrime.calls kj24 t112 true _ A34.out).mono ?_); rintro e w' ⟨rfl, ⟨nd, rfl⟩⟩; refine ⟨_, rfl, ?_⟩; obtain ⟨Ao94, co94, eo94⟩ := Kd.R_slice HO122.out; subst eo94) | ((with_reducible refine gate_callee (f := 22) rfl ?_); refine goesL_ (some 138) rfl rfl Try.func22 (by kernel_rfl) rfl #[.slice Ao94 t119.length co94, .slice Ao91 t111.length co91, .int .i64 t112] rfl Z6.z1 ?_; (with_reducible refine (impl_DotOf.calls kj24 _ _ t119 _ _ t111 t112 t124 t125 _ ?side1 ?side2 ?side3 ?side4 A36.out).mono ?_); (case side1 => exact Z6.z10); (case side2 => exact (Kd.R_reads' HO122.out).2.1); (case side3 => exact Z6.z2); (case side4 => exact (Kd.R_reads' HO116.out).2.1); rintro e w95 ⟨rfl, hb⟩; refine ⟨_, rfl, ?_⟩; have n0_ := Aside0.mk (Kd.R_below Z6.z5 hb); have n1_ := Aside0.mk (Kd.R_below Z6.z4 hb); have n2_ := Aside0.mk (Kd.R_below Z6.z6 hb); have n3_ := Aside0.mk (below_step Z6.z0 hb); clear HO114 HO116 HO122 HB; have HO114 := n0_; have HO116 := n1_; have HO122 := n2_; have HB := n3_; clear n0_ n1_ n2_ n3_; (try clear hb); (try clear hb2); (try clear hk); (try clear hi)) | ((with_reducible refine gate_callee (f := 22) rfl ?_); refine goesL_ (some 145) rfl rfl Try.func22 (by kernel_rfl) rfl #[.slice Ao91 t111.length co91, .slice Ao91 t111.length co91, .int .i64 t112] rfl Z6.z1 ?_; (with_reducible refine (impl_DotOf.calls kj24 _ _ t111 _ _ t111 t112 t126 t127 _ ?side1 ?side2 ?side3 ?side4 A37.out).mono ?_); (case side1 => exact Z6.z2); (case side2 => exact (Kd.R_reads' HO116.out).2.1); (case side3 => exact Z6.z2); (case side4 => exact (Kd.R_reads' HO116.out).2.1); rintro e w96 ⟨rfl, hb⟩; refine ⟨_, rfl, ?_⟩; have n0_ := Aside0.mk (Kd.R_below Z6.z5 hb); have n1_ := Aside0.mk (Kd.R_below Z6.z4 hb); have n2_ := Aside0.mk (Kd.R_below Z6.z6 hb); have n3_ := Aside0.mk (below_step Z6.z0 hb); clear HO114 HO116 HO122 HB; have HO114 := n0_; have HO116 := n1_; have HO122 := n2_; have HB := n3_; clear n0_ n1_ n2_ n3_; (try clear hb); (try clear hb2); (try clear hk); (try clear hi)) | ((with_reducible refine gate_callee (f := 24) rfl ?_); refine goesL_ (some 153) rfl rfl Try.func24 (by kernel_rfl) rfl #[.slice Ao90 t110.length co90, .int .i64 ((2 : Int) % t112), .int .i64 t112] rfl Z6.z1 ?_; (with_reducible refine (impl_ScaleVector.calls kj24 _ _ t110 ((2 : Int) % t112) t112 t128 t129 _ ?side1 ?side2 A39.out).mono ?_); (case side1 => exact Z6.z3); (case side2 => exact (Kd.R_reads' HO114.out).2.1); rintro e w97 ⟨v130, rfl, ho0, hb⟩; refine ⟨_, rfl, ?_⟩; have n0_ := Aside0.mk (Kd.R_elder' Z6.z5 (Kd.R_base ho0) hb); have n1_ := Aside0.mk (Kd.R_elder' Z6.z4 (Kd.R_base ho0) hb); have n2_ := Aside0.mk (Kd.R_elder' Z6.z6 (Kd.R_base ho0) hb); have n3_ := Aside0.mk (Kd.R_lower (Kd.R_new' (Kd.R_new' (Kd.R_new' ho0 (Kd.R_lt Z6.z5)) (Kd.R_lt Z6.z4)) (Kd.R_lt Z6.z6)) (below_size Z6.z0)); have n4_ := Aside0.mk (below_step Z6.z0 hb); clear HO114 HO116 HO122 HB; have HO114 := n0_; have HO116 := n1_; have HO122 := n2_; have HO131 := n3_; have HB := n4_; clear n0_ n1_ n2_ n3_ n4_; (try clear hb); (try clear hb2); (try clear hk); (try clear hi); (try clear ho0)) | ((with_reducible refine gate_callee (f := 23) rfl ?_); refine goesL_ (some 160) rfl rfl Try.func23 (by kernel_rfl) rfl #[.slice Ao90 t110.length co90, .slice Ao90 t110.length co90, .int .i64 t112] rfl Z6.z1 ?_; (with_reducible refine (impl_AddVectors.calls kj24 _ _ t110 _ _ t110 t112 t132 t133 _ ?side1 ?side2 ?side3 ?side4 A40.out).mono ?_); (case side1 => exact Z6.z3); (case side2 => exact (Kd.R_reads' HO114.out).2.1); (case side3 => exact Z6.z3); (case side4 => exact (Kd.R_reads' HO114.out).2.1); rintro e w98 ⟨v134, rfl, ho0, hb⟩; refine ⟨_, rfl, ?_⟩; have n0_ := Aside0.mk (Kd.R_elder' Z6.z5 (Kd.R_base ho0) hb); have n1_ := Aside0.mk (Kd.R_elder' Z6.z4 (Kd.R_base ho0) hb); have n2_ := Aside0.mk (Kd.R_elder' Z6.z6 (Kd.R_base ho0) hb); have n3_ := Aside0.mk (Kd.R_elder' Z6.z8 (Kd.R_base ho0) hb); have n4_ := Aside0.mk (Kd.R_lower (Kd.R_new' (Kd.R_new' (Kd.R_new' (Kd.R_new' ho0 (Kd.R_lt Z6.z5)) (Kd.R_lt Z6.z4)) (Kd.R_lt Z6.z6)) (Kd.R_lt Z6.z8)) (below_size Z6.z0)); have n5_ := Aside0.mk (below_step Z6.z0 hb); clear HO114 HO116 HO122 HO131 HB; have HO114 := n0_; have HO116 := n1_; have HO122 := n2_; have HO131 := n3_; have HO135 := n4_; have HB := n5_; clear n0_ n1_ n2_ n3_ n4_ n5_; (try clear hb); (try clear hb2); (try clear hk); (try clear hi); (try clear ho0)))
                      go_ret
                      exact ⟨Z6.z9, Z6.z0⟩
                     rw [if_neg c41] at H
                     have c41b0 : (t125 == 0) = false := beq_eq_false_iff_ne.mpr c41
                     have c41b1 : (t125 != 0) = true := bne_iff_ne.mpr c41
                     obtain rfl := Option.some.inj H
                     go_wp2_with (first | ((with_reducible refine gate_callee (f := 21) rfl ?_); refine goesL_ (some 101) rfl rfl Try.func21 (by kernel_rfl) rfl #[.slice A1 l1.length c1] rfl Z6.z1 ?_; (with_reducible refine (spec_DrawDotOf.calls kj24 _ _ l1 t110 t111 t112 _ ?side1 ?side2 A29.out).mono ?_); (case side1 => exact Z6.z7); (case side2 => exact HC1.out); rintro e w99 ⟨v113, v115, rfl, ho0, ho1, hb⟩; refine ⟨_, rfl, ?_⟩; have n0_ := Aside0.mk (Kd.R_lower ho0 (below_size Z6.z0)); have n1_ := Aside0.mk (Kd.R_lower ho1 (below_size Z6.z0)); have n2_ := Aside0.mk (below_step Z6.z0 hb); clear HB; have HO114 := n0_; have HO116 := n1_; have HB := n2_; clear n0_ n1_ n2_; (try clear hb); (try clear hb2); (try clear hk); (try clear hi); (try clear ho0); (try clear ho1); obtain ⟨Ao100, co100, eo100⟩ := Kd.R_slice HO114.out; subst eo100; obtain ⟨Ao101, co101, eo101⟩ := Kd.R_slice HO116.out; subst eo101) | ((with_reducible refine gate_callee (f := 22) rfl ?_); refine goesL_ (some 109) rfl rfl Try.func22 (by kernel_rfl) rfl #[.slice Ao100 t110.length co100, .slice Ao101 t111.length co101, .int .i64 t112] rfl Z6.z1 ?_; (with_reducible refine (impl_DotOf.calls kj24 _ _ t110 _ _ t111 t112 t117 t118 _ ?side1 ?side2 ?side3 ?side4 A30.out).mono ?_); (case side1 => exact Z6.z3); (case side2 => exact (Kd.R_reads' HO114.out).2.1); (case side3 => exact Z6.z2); (case side4 => exact (Kd.R_reads' HO116.out).2.1); rintro e w102 ⟨rfl, hb⟩; refine ⟨_, rfl, ?_⟩; have n0_ := Aside0.mk (Kd.R_below Z6.z5 hb); have n1_ := Aside0.mk (Kd.R_below Z6.z4 hb); have n2_ := Aside0.mk (below_step Z6.z0 hb); clear HO114 HO116 HB; have HO114 := n0_; have HO116 := n1_; have HB := n2_; clear n0_ n1_ n2_; (try clear hb); (try clear hb2); (try clear hk); (try clear hi)) | ((with_reducible refine gate_callee (f := 23) rfl ?_); refine goesL_ (some 116) rfl rfl Try.func23 (by kernel_rfl) rfl #[.slice Ao100 t110.length co100, .slice Ao101 t111.length co101, .int .i64 t112] rfl Z6.z1 ?_; (with_reducible refine (impl_AddVectors.calls kj24 _ _ t110 _ _ t111 t112 t119 t120 _ ?side1 ?side2 ?side3 ?side4 A31.out).mono ?_); (case side1 => exact Z6.z3); (case side2 => exact (Kd.R_reads' HO114.out).2.1); (case side3 => exact Z6.z2); (case side4 => exact (Kd.R_reads' HO116.out).2.1); rintro e w103 ⟨v121, rfl, ho0, hb⟩; refine ⟨_, rfl, ?_⟩; have n0_ := Aside0.mk (Kd.R_elder' Z6.z5 (Kd.R_base ho0) hb); have n1_ := Aside0.mk (Kd.R_elder' Z6.z4 (Kd.R_base ho0) hb); have n2_ := Aside0.mk (Kd.R_lower (Kd.R_new' (Kd.R_new' ho0 (Kd.R_lt Z6.z5)) (Kd.R_lt Z6.z4)) (below_size Z6.z0)); have n3_ := Aside0.mk (below_step Z6.z0 hb); clear HO114 HO116 HB; have HO114 := n0_; have HO116 := n1_; have HO122 := n2_; have HB := n3_; clear n0_ n1_ n2_ n3_; (try clear hb); (try clear hb2); (try clear hk); (try clear hi); (try clear ho0)) | ((with_reducible refine gate_callee (f := 20) rfl ?_); refine goesL_ (some 132) rfl rfl Try.func20 (by kernel_rfl) rfl #[.int .i64 t112] rfl Z6.z1 ?_; (with_reducible refine (spec_ValidPrime.calls kj24 t112 true _ A34.out).mono ?_); rintro e w' ⟨rfl, ⟨nd, rfl⟩⟩; refine ⟨_, rfl, ?_⟩; obtain ⟨Ao104, co104, eo104⟩ := Kd.R_slice HO122.out; subst eo104) | ((with_reducible refine gate_callee (f := 22) rfl ?_); refine goesL_ (some 138) rfl rfl Try.func22 (by kernel_rfl) rfl #[.slice Ao104 t119.length co104, .slice Ao101 t111.length co101, .int .i64 t112] rfl Z6.z1 ?_; (with_reducible refine (impl_DotOf.calls kj24 _ _ t119 _ _ t111 t112 t124 t125 _ ?side1 ?side2 ?side3 ?side4 A36.out).mono ?_); (case side1 => exact Z6.z10); (case side2 => exact (Kd.R_reads' HO122.out).2.1); (case side3 => exact Z6.z2); (case side4 => exact (Kd.R_reads' HO116.out).2.1); rintro e w105 ⟨rfl, hb⟩; refine ⟨_, rfl, ?_⟩; have n0_ := Aside0.mk (Kd.R_below Z6.z5 hb); have n1_ := Aside0.mk (Kd.R_below Z6.z4 hb); have n2_ := Aside0.mk (Kd.R_below Z6.z6 hb); have n3_ := Aside0.mk (below_step Z6.z0 hb); clear HO114 HO116 HO122 HB; have HO114 := n0_; have HO116 := n1_; have HO122 := n2_; have HB := n3_; clear n0_ n1_ n2_ n3_; (try clear hb); (try clear hb2); (try clear hk); (try clear hi)) | ((with_reducible refine gate_callee (f := 22) rfl ?_); refine goesL_ (some 145) rfl rfl Try.func22 (by kernel_rfl) rfl #[.slice Ao101 t111.length co101, .slice Ao101 t111.length co101, .int .i64 t112] rfl Z6.z1 ?_; (with_reducible refine (impl_DotOf.calls kj24 _ _ t111 _ _ t111 t112 t126 t127 _ ?side1 ?side2 ?side3 ?side4 A37.out).mono ?_); (case side1 => exact Z6.z2); (case side2 => exact (Kd.R_reads' HO116.out).2.1); (case side3 => exact Z6.z2); (case side4 => exact (Kd.R_reads' HO116.out).2.1); rintro e w106 ⟨rfl, hb⟩; refine ⟨_, rfl, ?_⟩; have n0_ := Aside0.mk (Kd.R_below Z6.z5 hb); have n1_ := Aside0.mk (Kd.R_below Z6.z4 hb); have n2_ := Aside0.mk (Kd.R_below Z6.z6 hb); have n3_ := Aside0.mk (below_step Z6.z0 hb); clear HO114 HO116 HO122 HB; have HO114 := n0_; have HO116 := n1_; have HO122 := n2_; have HB := n3_; clear n0_ n1_ n2_ n3_; (try clear hb); (try clear hb2); (try clear hk); (try clear hi)) | ((with_reducible refine gate_callee (f := 24) rfl ?_); refine goesL_ (some 153) rfl rfl Try.func24 (by kernel_rfl) rfl #[.slice Ao100 t110.length co100, .int .i64 ((2 : Int) % t112), .int .i64 t112] rfl Z6.z1 ?_; (with_reducible refine (impl_ScaleVector.calls kj24 _ _ t110 ((2 : Int) % t112) t112 t128 t129 _ ?side1 ?side2 A39.out).mono ?_); (case side1 => exact Z6.z3); (case side2 => exact (Kd.R_reads' HO114.out).2.1); rintro e w107 ⟨v130, rfl, ho0, hb⟩; refine ⟨_, rfl, ?_⟩; have n0_ := Aside0.mk (Kd.R_elder' Z6.z5 (Kd.R_base ho0) hb); have n1_ := Aside0.mk (Kd.R_elder' Z6.z4 (Kd.R_base ho0) hb); have n2_ := Aside0.mk (Kd.R_elder' Z6.z6 (Kd.R_base ho0) hb); have n3_ := Aside0.mk (Kd.R_lower (Kd.R_new' (Kd.R_new' (Kd.R_new' ho0 (Kd.R_lt Z6.z5)) (Kd.R_lt Z6.z4)) (Kd.R_lt Z6.z6)) (below_size Z6.z0)); have n4_ := Aside0.mk (below_step Z6.z0 hb); clear HO114 HO116 HO122 HB; have HO114 := n0_; have HO116 := n1_; have HO122 := n2_; have HO131 := n3_; have HB := n4_; clear n0_ n1_ n2_ n3_ n4_; (try clear hb); (try clear hb2); (try clear hk); (try clear hi); (try clear ho0)) | ((with_reducible refine gate_callee (f := 23) rfl ?_); refine goesL_ (some 160) rfl rfl Try.func23 (by kernel_rfl) rfl #[.slice Ao100 t110.length co100, .slice Ao100 t110.length co100, .int .i64 t112] rfl Z6.z1 ?_; (with_reducible refine (impl_AddVectors.calls kj24 _ _ t110 _ _ t110 t112 t132 t133 _ ?side1 ?side2 ?side3 ?side4 A40.out).mono ?_); (case side1 => exact Z6.z3); (case side2 => exact (Kd.R_reads' HO114.out).2.1); (case side3 => exact Z6.z3); (case side4 => exact (Kd.R_reads' HO114.out).2.1); rintro e w108 ⟨v134, rfl, ho0, hb⟩; refine ⟨_, rfl, ?_⟩; have n0_ := Aside0.mk (Kd.R_elder' Z6.z5 (Kd.R_base ho0) hb); have n1_ := Aside0.mk (Kd.R_elder' Z6.z4 (Kd.R_base ho0) hb); have n2_ := Aside0.mk (Kd.R_elder' Z6.z6 (Kd.R_base ho0) hb); have n3_ := Aside0.mk (Kd.R_elder' Z6.z8 (Kd.R_base ho0) hb); have n4_ := Aside0.mk (Kd.R_lower (Kd.R_new' (Kd.R_new' (Kd.R_new' (Kd.R_new' ho0 (Kd.R_lt Z6.z5)) (Kd.R_lt Z6.z4)) (Kd.R_lt Z6.z6)) (Kd.R_lt Z6.z8)) (below_size Z6.z0)); have n5_ := Aside0.mk (below_step Z6.z0 hb); clear HO114 HO116 HO122 HO131 HB; have HO114 := n0_; have HO116 := n1_; have HO122 := n2_; have HO131 := n3_; have HO135 := n4_; have HB := n5_; clear n0_ n1_ n2_ n3_ n4_ n5_; (try clear hb); (try clear hb2); (try clear hk); (try clear hi); (try clear ho0)))
                     go_ret
                     exact ⟨Z6.z9, Z6.z0⟩
                 replace c35 := Bool.eq_false_iff.mpr c35
                 subst c35
                 have H1 : (some false) = some r := by rw [if_neg (show ¬ (false = true) by decide)] at H; exact H
                 clear H
                 have H := H1
                 clear H1
                 obtain rfl := Option.some.inj H
                 go_wp2_with (first | ((with_reducible refine gate_callee (f := 21) rfl ?_); refine goesL_ (some 101) rfl rfl Try.func21 (by kernel_rfl) rfl #[.slice A1 l1.length c1] rfl Z6.z1 ?_; (with_reducible refine (spec_DrawDotOf.calls kj24 _ _ l1 t110 t111 t112 _ ?side1 ?side2 A29.out).mono ?_); (case side1 => exact Z6.z7); (case side2 => exact HC1.out); rintro e w109 ⟨v113, v115, rfl, ho0, ho1, hb⟩; refine ⟨_, rfl, ?_⟩; have n0_ := Aside0.mk (Kd.R_lower ho0 (below_size Z6.z0)); have n1_ := Aside0.mk (Kd.R_lower ho1 (below_size Z6.z0)); have n2_ := Aside0.mk (below_step Z6.z0 hb); clear HB; have HO114 := n0_; have HO116 := n1_; have HB := n2_; clear n0_ n1_ n2_; (try clear hb); (try clear hb2); (try clear hk); (try clear hi); (try clear ho0); (try clear ho1); obtain ⟨Ao110, co110, eo110⟩ := Kd.R_slice HO114.out; subst eo110; obtain ⟨Ao111, co111, eo111⟩ := Kd.R_slice HO116.out; subst eo111) | ((with_reducible refine gate_callee (f := 22) rfl ?_); refine goesL_ (some 109) rfl rfl Try.func22 (by kernel_rfl) rfl #[.slice Ao110 t110.length co110, .slice Ao111 t111.length co111, .int .i64 t112] rfl Z6.z1 ?_; (with_reducible refine (impl_DotOf.calls kj24 _ _ t110 _ _ t111 t112 t117 t118 _ ?side1 ?side2 ?side3 ?side4 A30.out).mono ?_); (case side1 => exact Z6.z3); (case side2 => exact (Kd.R_reads' HO114.out).2.1); (case side3 => exact Z6.z2); (case side4 => exact (Kd.R_reads' HO116.out).2.1); rintro e w112 ⟨rfl, hb⟩; refine ⟨_, rfl, ?_⟩; have n0_ := Aside0.mk (Kd.R_below Z6.z5 hb); have n1_ := Aside0.mk (Kd.R_below Z6.z4 hb); have n2_ := Aside0.mk (below_step Z6.z0 hb); clear HO114 HO116 HB; have HO114 := n0_; have HO116 := n1_; have HB := n2_; clear n0_ n1_ n2_; (try clear hb); (try clear hb2); (try clear hk); (try clear hi)) | ((with_reducible refine gate_callee (f := 23) rfl ?_); refine goesL_ (some 116) rfl rfl Try.func23 (by kernel_rfl) rfl #[.slice Ao110 t110.length co110, .slice Ao111 t111.length co111, .int .i64 t112] rfl Z6.z1 ?_; (with_reducible refine (impl_AddVectors.calls kj24 _ _ t110 _ _ t111 t112 t119 t120 _ ?side1 ?side2 ?side3 ?side4 A31.out).mono ?_); (case side1 => exact Z6.z3); (case side2 => exact (Kd.R_reads' HO114.out).2.1); (case side3 => exact Z6.z2); (case side4 => exact (Kd.R_reads' HO116.out).2.1); rintro e w113 ⟨v121, rfl, ho0, hb⟩; refine ⟨_, rfl, ?_⟩; have n0_ := Aside0.mk (Kd.R_elder' Z6.z5 (Kd.R_base ho0) hb); have n1_ := Aside0.mk (Kd.R_elder' Z6.z4 (Kd.R_base ho0) hb); have n2_ := Aside0.mk (Kd.R_lower (Kd.R_new' (Kd.R_new' ho0 (Kd.R_lt Z6.z5)) (Kd.R_lt Z6.z4)) (below_size Z6.z0)); have n3_ := Aside0.mk (below_step Z6.z0 hb); clear HO114 HO116 HB; have HO114 := n0_; have HO116 := n1_; have HO122 := n2_; have HB := n3_; clear n0_ n1_ n2_ n3_; (try clear hb); (try clear hb2); (try clear hk); (try clear hi); (try clear ho0)) | ((with_reducible refine gate_callee (f := 20) rfl ?_); refine goesL_ (some 132) rfl rfl Try.func20 (by kernel_rfl) rfl #[.int .i64 t112] rfl Z6.z1 ?_; (with_reducible refine (spec_ValidPrime.calls kj24 t112 false _ A34.out).mono ?_); rintro e w' ⟨rfl, ⟨nd, rfl⟩⟩; refine ⟨_, rfl, ?_⟩))
                 go_ret
                 exact ⟨Z6.z9, Z6.z0⟩
               rw [if_neg c33] at H
               have c33b0 : (t118 == 0) = false := beq_eq_false_iff_ne.mpr c33
               have c33b1 : (t118 != 0) = true := bne_iff_ne.mpr c33
               by_cases c114 : t117 = 0
               ·rw [if_pos c114] at H
                have c114b0 : (t117 == 0) = true := beq_iff_eq.mpr c114
                have c114b1 : (t117 != 0) = false := bne_eq_false_iff_eq.mpr c114
                clear c114
                obtain rfl := Option.some.inj H
                go_wp2_with (first | ((with_reducible refine gate_callee (f := 21) rfl ?_); refine goesL_ (some 101) rfl rfl Try.func21 (by kernel_rfl) rfl #[.slice A1 l1.length c1] rfl Z6.z1 ?_; (with_reducible refine (spec_DrawDotOf.calls kj24 _ _ l1 t110 t111 t112 _ ?side1 ?side2 A29.out).mono ?_); (case side1 => exact Z6.z7); (case side2 => exact HC1.out); rintro e w115 ⟨v113, v115, rfl, ho0, ho1, hb⟩; refine ⟨_, rfl, ?_⟩; have n0_ := Aside0.mk (Kd.R_lower ho0 (below_size Z6.z0)); have n1_ := Aside0.mk (Kd.R_lower ho1 (below_size Z6.z0)); have n2_ := Aside0.mk (below_step Z6.z0 hb); clear HB; have HO114 := n0_; have HO116 := n1_; have HB := n2_; clear n0_ n1_ n2_; (try clear hb); (try clear hb2); (try clear hk); (try clear hi); (try clear ho0); (try clear ho1); obtain ⟨Ao116, co116, eo116⟩ := Kd.R_slice HO114.out; subst eo116; obtain ⟨Ao117, co117, eo117⟩ := Kd.R_slice HO116.out; subst eo117) | ((with_reducible refine gate_callee (f := 22) rfl ?_); refine goesL_ (some 109) rfl rfl Try.func22 (by kernel_rfl) rfl #[.slice Ao116 t110.length co116, .slice Ao117 t111.length co117, .int .i64 t112] rfl Z6.z1 ?_; (with_reducible refine (impl_DotOf.calls kj24 _ _ t110 _ _ t111 t112 t117 t118 _ ?side1 ?side2 ?side3 ?side4 A30.out).mono ?_); (case side1 => exact Z6.z3); (case side2 => exact (Kd.R_reads' HO114.out).2.1); (case side3 => exact Z6.z2); (case side4 => exact (Kd.R_reads' HO116.out).2.1); rintro e w118 ⟨rfl, hb⟩; refine ⟨_, rfl, ?_⟩; have n0_ := Aside0.mk (Kd.R_below Z6.z5 hb); have n1_ := Aside0.mk (Kd.R_below Z6.z4 hb); have n2_ := Aside0.mk (below_step Z6.z0 hb); clear HO114 HO116 HB; have HO114 := n0_; have HO116 := n1_; have HB := n2_; clear n0_ n1_ n2_; (try clear hb); (try clear hb2); (try clear hk); (try clear hi)) | ((with_reducible refine gate_callee (f := 23) rfl ?_); refine goesL_ (some 116) rfl rfl Try.func23 (by kernel_rfl) rfl #[.slice Ao116 t110.length co116, .slice Ao117 t111.length co117, .int .i64 t112] rfl Z6.z1 ?_; (with_reducible refine (impl_AddVectors.calls kj24 _ _ t110 _ _ t111 t112 t119 t120 _ ?side1 ?side2 ?side3 ?side4 A31.out).mono ?_); (case side1 => exact Z6.z3); (case side2 => exact (Kd.R_reads' HO114.out).2.1); (case side3 => exact Z6.z2); (case side4 => exact (Kd.R_reads' HO116.out).2.1); rintro e w119 ⟨v121, rfl, ho0, hb⟩; refine ⟨_, rfl, ?_⟩; have n0_ := Aside0.mk (Kd.R_elder' Z6.z5 (Kd.R_base ho0) hb); have n1_ := Aside0.mk (Kd.R_elder' Z6.z4 (Kd.R_base ho0) hb); have n2_ := Aside0.mk (Kd.R_lower (Kd.R_new' (Kd.R_new' ho0 (Kd.R_lt Z6.z5)) (Kd.R_lt Z6.z4)) (below_size Z6.z0)); have n3_ := Aside0.mk (below_step Z6.z0 hb); clear HO114 HO116 HB; have HO114 := n0_; have HO116 := n1_; have HO122 := n2_; have HB := n3_; clear n0_ n1_ n2_ n3_; (try clear hb); (try clear hb2); (try clear hk); (try clear hi); (try clear ho0); obtain ⟨Ao120, co120, eo120⟩ := Kd.R_slice HO122.out; subst eo120))
                go_ret
                exact ⟨Z6.z9, Z6.z0⟩
               rw [if_neg c114] at H
               have c114b0 : (t117 == 0) = false := beq_eq_false_iff_ne.mpr c114
               have c114b1 : (t117 != 0) = true := bne_iff_ne.mpr c114
               obtain rfl := Option.some.inj H
               go_wp2_with (first | ((with_reducible refine gate_callee (f := 21) rfl ?_); refine goesL_ (some 101) rfl rfl Try.func21 (by kernel_rfl) rfl #[.slice A1 l1.length c1] rfl Z6.z1 ?_; (with_reducible refine (spec_DrawDotOf.calls kj24 _ _ l1 t110 t111 t112 _ ?side1 ?side2 A29.out).mono ?_); (case side1 => exact Z6.z7); (case side2 => exact HC1.out); rintro e w121 ⟨v113, v115, rfl, ho0, ho1, hb⟩; refine ⟨_, rfl, ?_⟩; have n0_ := Aside0.mk (Kd.R_lower ho0 (below_size Z6.z0)); have n1_ := Aside0.mk (Kd.R_lower ho1 (below_size Z6.z0)); have n2_ := Aside0.mk (below_step Z6.z0 hb); clear HB; have HO114 := n0_; have HO116 := n1_; have HB := n2_; clear n0_ n1_ n2_; (try clear hb); (try clear hb2); (try clear hk); (try clear hi); (try clear ho0); (try clear ho1); obtain ⟨Ao122, co122, eo122⟩ := Kd.R_slice HO114.out; subst eo122; obtain ⟨Ao123, co123, eo123⟩ := Kd.R_slice HO116.out; subst eo123) | ((with_reducible refine gate_callee (f := 22) rfl ?_); refine goesL_ (some 109) rfl rfl Try.func22 (by kernel_rfl) rfl #[.slice Ao122 t110.length co122, .slice Ao123 t111.length co123, .int .i64 t112] rfl Z6.z1 ?_; (with_reducible refine (impl_DotOf.calls kj24 _ _ t110 _ _ t111 t112 t117 t118 _ ?side1 ?side2 ?side3 ?side4 A30.out).mono ?_); (case side1 => exact Z6.z3); (case side2 => exact (Kd.R_reads' HO114.out).2.1); (case side3 => exact Z6.z2); (case side4 => exact (Kd.R_reads' HO116.out).2.1); rintro e w124 ⟨rfl, hb⟩; refine ⟨_, rfl, ?_⟩; have n0_ := Aside0.mk (Kd.R_below Z6.z5 hb); have n1_ := Aside0.mk (Kd.R_below Z6.z4 hb); have n2_ := Aside0.mk (below_step Z6.z0 hb); clear HO114 HO116 HB; have HO114 := n0_; have HO116 := n1_; have HB := n2_; clear n0_ n1_ n2_; (try clear hb); (try clear hb2); (try clear hk); (try clear hi)) | ((with_reducible refine gate_callee (f := 23) rfl ?_); refine goesL_ (some 116) rfl rfl Try.func23 (by kernel_rfl) rfl #[.slice Ao122 t110.length co122, .slice Ao123 t111.length co123, .int .i64 t112] rfl Z6.z1 ?_; (with_reducible refine (impl_AddVectors.calls kj24 _ _ t110 _ _ t111 t112 t119 t120 _ ?side1 ?side2 ?side3 ?side4 A31.out).mono ?_); (case side1 => exact Z6.z3); (case side2 => exact (Kd.R_reads' HO114.out).2.1); (case side3 => exact Z6.z2); (case side4 => exact (Kd.R_reads' HO116.out).2.1); rintro e w125 ⟨v121, rfl, ho0, hb⟩; refine ⟨_, rfl, ?_⟩; have n0_ := Aside0.mk (Kd.R_elder' Z6.z5 (Kd.R_base ho0) hb); have n1_ := Aside0.mk (Kd.R_elder' Z6.z4 (Kd.R_base ho0) hb); have n2_ := Aside0.mk (Kd.R_lower (Kd.R_new' (Kd.R_new' ho0 (Kd.R_lt Z6.z5)) (Kd.R_lt Z6.z4)) (below_size Z6.z0)); have n3_ := Aside0.mk (below_step Z6.z0 hb); clear HO114 HO116 HB; have HO114 := n0_; have HO116 := n1_; have HO122 := n2_; have HB := n3_; clear n0_ n1_ n2_ n3_; (try clear hb); (try clear hb2); (try clear hk); (try clear hi); (try clear ho0)))
               go_ret
               exact ⟨Z6.z9, Z6.z0⟩
             rw [if_neg c32] at H
             have c32b0 : (t118 == t120) = false := beq_eq_false_iff_ne.mpr c32
             have c32b1 : (t118 != t120) = true := bne_iff_ne.mpr c32
             obtain rfl := Option.some.inj H
             go_wp2_with (first | ((with_reducible refine gate_callee (f := 21) rfl ?_); refine goesL_ (some 101) rfl rfl Try.func21 (by kernel_rfl) rfl #[.slice A1 l1.length c1] rfl Z6.z1 ?_; (with_reducible refine (spec_DrawDotOf.calls kj24 _ _ l1 t110 t111 t112 _ ?side1 ?side2 A29.out).mono ?_); (case side1 => exact Z6.z7); (case side2 => exact HC1.out); rintro e w126 ⟨v113, v115, rfl, ho0, ho1, hb⟩; refine ⟨_, rfl, ?_⟩; have n0_ := Aside0.mk (Kd.R_lower ho0 (below_size Z6.z0)); have n1_ := Aside0.mk (Kd.R_lower ho1 (below_size Z6.z0)); have n2_ := Aside0.mk (below_step Z6.z0 hb); clear HB; have HO114 := n0_; have HO116 := n1_; have HB := n2_; clear n0_ n1_ n2_; (try clear hb); (try clear hb2); (try clear hk); (try clear hi); (try clear ho0); (try clear ho1); obtain ⟨Ao127, co127, eo127⟩ := Kd.R_slice HO114.out; subst eo127; obtain ⟨Ao128, co128, eo128⟩ := Kd.R_slice HO116.out; subst eo128) | ((with_reducible refine gate_callee (f := 22) rfl ?_); refine goesL_ (some 109) rfl rfl Try.func22 (by kernel_rfl) rfl #[.slice Ao127 t110.length co127, .slice Ao128 t111.length co128, .int .i64 t112] rfl Z6.z1 ?_; (with_reducible refine (impl_DotOf.calls kj24 _ _ t110 _ _ t111 t112 t117 t118 _ ?side1 ?side2 ?side3 ?side4 A30.out).mono ?_); (case side1 => exact Z6.z3); (case side2 => exact (Kd.R_reads' HO114.out).2.1); (case side3 => exact Z6.z2); (case side4 => exact (Kd.R_reads' HO116.out).2.1); rintro e w129 ⟨rfl, hb⟩; refine ⟨_, rfl, ?_⟩; have n0_ := Aside0.mk (Kd.R_below Z6.z5 hb); have n1_ := Aside0.mk (Kd.R_below Z6.z4 hb); have n2_ := Aside0.mk (below_step Z6.z0 hb); clear HO114 HO116 HB; have HO114 := n0_; have HO116 := n1_; have HB := n2_; clear n0_ n1_ n2_; (try clear hb); (try clear hb2); (try clear hk); (try clear hi)) | ((with_reducible refine gate_callee (f := 23) rfl ?_); refine goesL_ (some 116) rfl rfl Try.func23 (by kernel_rfl) rfl #[.slice Ao127 t110.length co127, .slice Ao128 t111.length co128, .int .i64 t112] rfl Z6.z1 ?_; (with_reducible refine (impl_AddVectors.calls kj24 _ _ t110 _ _ t111 t112 t119 t120 _ ?side1 ?side2 ?side3 ?side4 A31.out).mono ?_); (case side1 => exact Z6.z3); (case side2 => exact (Kd.R_reads' HO114.out).2.1); (case side3 => exact Z6.z2); (case side4 => exact (Kd.R_reads' HO116.out).2.1); rintro e w130 ⟨v121, rfl, ho0, hb⟩; refine ⟨_, rfl, ?_⟩; have n0_ := Aside0.mk (Kd.R_elder' Z6.z5 (Kd.R_base ho0) hb); have n1_ := Aside0.mk (Kd.R_elder' Z6.z4 (Kd.R_base ho0) hb); have n2_ := Aside0.mk (Kd.R_lower (Kd.R_new' (Kd.R_new' ho0 (Kd.R_lt Z6.z5)) (Kd.R_lt Z6.z4)) (below_size Z6.z0)); have n3_ := Aside0.mk (below_step Z6.z0 hb); clear HO114 HO116 HB; have HO114 := n0_; have HO116 := n1_; have HO122 := n2_; have HB := n3_; clear n0_ n1_ n2_ n3_; (try clear hb); (try clear hb2); (try clear hk); (try clear hi); (try clear ho0)))
             go_ret
             exact ⟨Z6.z9, Z6.z0⟩
   
   /-- THE ONE PURE STATEMENT of laws_FnRoots: yours. -/
def laws_FnRoots.Pure : Prop := ∀ (l0 : List Int) (l1 : List Int), l0.length ≤ maxLen → l0.length * 1 ≤ 140737488351232 → (∀ x ∈ l0, (Lit.int .u8 x).wf = true) → l1.length ≤ maxLen → l1.length * 1 ≤ 140737488351232 → (∀ x ∈ l1, (Lit.int .u8 x).wf = true) → ∃ k, laws_FnRoots.f k l0 l1 = some true
theorem laws_FnRoots.walk (P : laws_FnRoots.Pure) (a0 : Option Addr) (len0 cap0 : Nat) (z0 : List Int) (a1 : Option Addr) (len1 cap1 : Nat) (z1 : List Int) (w : World) (w0 : (a0 = none ∧ len0 = 0 ∧ cap0 = 0 ∧ z0 = []) ∨ ∃ x, a0 = some x ∧ len0 ≤ cap0 ∧ cap0 ≤ maxLen ∧ z0.length = cap0 ∧ (∀ i, i < z0.length → w.cell? (x.add i) = some (.int .u8 (z0.getD i 0))) ∧ ∀ n ∈ z0, (Lit.int .u8 n).wf = true) (y0 : len0 * 1 ≤ 140737488351232) (w1 : (a1 = none ∧ len1 = 0 ∧ cap1 = 0 ∧ z1 = []) ∨ ∃ x, a1 = some x ∧ len1 ≤ cap1 ∧ cap1 ≤ maxLen ∧ z1.length = cap1 ∧ (∀ i, i < z1.length → w.cell? (x.add i) = some (.int .u8 (z1.getD i 0))) ∧ ∀ n ∈ z1, (Lit.int .u8 n).wf = true) (y1 : len1 * 1 ≤ 140737488351232) :
    Calls Try.prog 6 #[.slice a0 len0 cap0, .slice a1 len1 cap1] w fun e w' => e = .returned (.bool true) ∧ Below w.heap.size w w' := by
  obtain ⟨l0, rfl, hr0, hm0, hw0, hc0⟩ := ReadsInt.ofRowC w0
  obtain ⟨l1, rfl, hr1, hm1, hw1, hc1⟩ := ReadsInt.ofRowC w1
  obtain ⟨k, h⟩ := P l0 l1 hm0 y0 hw0 hm1 y1 hw1
  refine (laws_FnRoots.calls k _ _ l0 _ _ l1 true w (Kd.C_of_reads (d := (0 : Int)) (h1 := fun _ => rfl) hr0) hc0 (Kd.C_of_reads (d := (0 : Int)) (h1 := fun _ => rfl) hr1) hc1 h).mono ?_
  rintro e w' ⟨rfl, hd⟩
  exact ⟨rfl, hd⟩

end Go.Proofs.Ytmkcangcfammnaa.F
end
