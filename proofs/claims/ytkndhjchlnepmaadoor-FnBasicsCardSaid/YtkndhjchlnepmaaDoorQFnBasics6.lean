-- Texts of this claim, merged by pack.py (a program of this session's).
import Derived.Test.YtkndhjchlnepmaaDoorQFnBasics0
import Derived.Test.YtkndhjchlnepmaaDoorQFnBasics1
import Derived.Test.YtkndhjchlnepmaaDoorQFnBasics2
import Derived.Test.YtkndhjchlnepmaaDoorQFnBasics3
import Derived.Test.YtkndhjchlnepmaaDoorQFnBasics4
import Derived.Test.YtkndhjchlnepmaaDoorQFnBasics5

section
namespace Go.Proofs.YtkndhjchlnepmaaDoor.F
open Go.RowKit Go.Proofs.YtkndhjchlnepmaaDoorW.PrintWords Go.Proofs.YtkndhjchlnepmaaDoorW.PrintLast Go.Proofs.YtkndhjchlnepmaaDoorW.PrintMore
attribute [local go_sem] max2_int min2_int max_two min_two max_three min_three max_four min_four   -- for this text's walks alone
set_option linter.unusedVariables false
set_option linter.unusedSimpArgs false

/-! ### laws_r8Same: function 16 -/
def laws_r8Same.l0 : Nat → List Int → List Int → Int → Option (Bool)
  | 0, _, _, _ => none
  | k + 1, x0, x1, x5 => if x5 < (x0.length : Int) then (if 0 ≤ x5 then (if x5 < (x1.length : Int) then (if (rd x0 x5) = (rd x1 x5) then (laws_r8Same.l0 k x0 x1 (wrap64 (x5 + 1))) else (some false)) else (none)) else (none)) else (some true)
def laws_r8Same.f (k : Nat) (l0 : List Int) (l1 : List Int) : Option (Bool) := if (l0.length : Int) = (l1.length : Int) then (laws_r8Same.l0 k l0 l1 0) else (some false)
theorem laws_r8Same.mono_l : ∀ k, (∀ y0 y1 y2, LeO (laws_r8Same.l0 k y0 y1 y2) (laws_r8Same.l0 (k + 1) y0 y1 y2))
  | 0 => fun _ _ _ r h => by simp [laws_r8Same.l0] at h
  | k + 1 => by
    have ih0 := laws_r8Same.mono_l k
    · intro y0 y1 y2
      unfold laws_r8Same.l0
      repeat' first
      | (with_reducible exact ih0 _ _ _)
      | (with_reducible exact LeO.refl _)
      | (with_reducible exact LeO.none _)
      | (with_reducible refine LeO.ite ?_ ?_)
      | (with_reducible refine LeO.bind ?_ (fun _ => ?_))
      | exact ih0 _ _ _
      | exact LeO.none _
      | refine LeO.ite ?_ ?_
      | refine LeO.bind ?_ (fun _ => ?_)
theorem laws_r8Same.mono : ∀ a0 a1 k, LeO (laws_r8Same.f k a0 a1) (laws_r8Same.f (k + 1) a0 a1) := by
  intro a0 a1 k
  have ih0 := laws_r8Same.mono_l k
  unfold laws_r8Same.f
  repeat' first
      | (with_reducible exact ih0 _ _ _)
      | (with_reducible exact LeO.refl _)
      | (with_reducible exact LeO.none _)
      | (with_reducible refine LeO.ite ?_ ?_)
      | (with_reducible refine LeO.bind ?_ (fun _ => ?_))
      | exact ih0 _ _ _
      | exact LeO.none _
      | refine LeO.ite ?_ ?_
      | refine LeO.bind ?_ (fun _ => ?_)
theorem Z16.z2 {P : Prop} (h : P := by first | rfl | (simp; done) | (simp [*]; done)) : P := h
theorem Z16.z1 {P : Prop} (h : P := by repeat (first | exact Drawn0.refl _ | apply Drawn0.step)) : P := h
theorem Z16.z0 {P : Prop} (h : P := by first | (with_reducible assumption) | assumption) : P := h
set_option maxHeartbeats 8000000 in
set_option maxRecDepth 100000 in
theorem laws_r8Same.calls (k : Nat) (A0 : Option Addr) (c0 : Nat) (l0 : List Int) (A1 : Option Addr) (c1 : Nat) (l1 : List Int) (r : Bool) (w : World) (hr0 : Kd.C (Kd.int .i64) w A0 l0.length l0) (hc0 : l0.length ≤ c0) (hr1 : Kd.C (Kd.int .i64) w A1 l1.length l1) (hc1 : l1.length ≤ c1) (h : laws_r8Same.f k l0 l1 = some r) :
  Calls Tryd.prog 16 #[.slice A0 l0.length c0, .slice A1 l1.length c1] w fun e w' => e = .returned (.bool r) ∧ Drawn0 w w' := by
 have HR0 := Aside0.mk hr0
 have HC0 := Aside0.mk hc0
 clear hr0 hc0
 have HR1 := Aside0.mk hr1
 have HC1 := Aside0.mk hc1
 clear hr1 hc1
 have H : (if (l0.length : Int) = (l1.length : Int) then (laws_r8Same.l0 k l0 l1 0) else (some false)) = some r := h
 clear h
 by_cases c3 : (l0.length : Int) = (l1.length : Int)
 ·rw [if_pos c3] at H
  have c3b0 : ((l0.length : Int) == (l1.length : Int)) = true := beq_iff_eq.mpr c3
  have c3b1 : ((l0.length : Int) != (l1.length : Int)) = false := bne_eq_false_iff_eq.mpr c3
  have c3b2 : (l0.length == l1.length) = true := by first | simpa using c3 | (simp at c3 ⊢; omega)
  clear c3
  have H' := Aside0.mk H
  clear H
  go_enter Tryd.func16, Tryd.ntmps16
  go_wp2
  repeat (go_quiet (fail); try go_wp2)
  go_loopg [5] k (fun kq v5 w' => ∃ (x5_1 : Int), v5 = .int .i64 x5_1 ∧ Aside0 (laws_r8Same.l0 kq l0 l1 x5_1 = some r) ∧ Aside0 (kq ≤ k) ∧ Drawn0 w w')
  case atStart => exact ⟨(0), Z16.z2, H', ⟨Nat.le_refl _⟩, Z16.z1⟩
  case round =>
   clear H'
   try clear c1
   try clear p2
   try clear c3
   try clear c3b0
   try clear c3b1
   try clear c3b2
   obtain ⟨x5_1, rfl, HA, HK1, ⟨m1, rfl⟩⟩ := hrel
   cases gk with
   | zero => exact absurd HA.out (by simp [laws_r8Same.l0])
   | succ k1 =>
    have H := HA.out
    clear HA
    simp only [laws_r8Same.l0] at H
    by_cases c4 : x5_1 < (l0.length : Int)
    ·rw [if_pos c4] at H
     have c4b0 : decide (x5_1 < (l0.length : Int)) = true := decide_eq_true c4
     clear c4
     by_cases c5 : 0 ≤ x5_1
     ·rw [if_pos c5] at H
      have c5b0 : decide (0 ≤ x5_1) = true := decide_eq_true c5
      clear c5
      by_cases c6 : x5_1 < (l1.length : Int)
      ·rw [if_pos c6] at H
       have c6b0 : decide (x5_1 < (l1.length : Int)) = true := decide_eq_true c6
       clear c6
       by_cases c7 : (rd l0 x5_1) = (rd l1 x5_1)
       ·rw [if_pos c7] at H
        have c7b0 : ((rd l0 x5_1) == (rd l1 x5_1)) = true := beq_iff_eq.mpr c7
        have c7b1 : ((rd l0 x5_1) != (rd l1 x5_1)) = false := bne_eq_false_iff_eq.mpr c7
        clear c7
        have H' := Aside0.mk H
        clear H
        have p101 : 0 ≤ (x5_1 : Int) := of_decide_eq_true Z16.z0
        have q101 : x5_1 < (l0.length : Int) := of_decide_eq_true Z16.z0
        obtain ⟨ad101, e101, hx101_0⟩ := Kd.at_int HR0.out x5_1 p101 q101
        cases e101
        replace p101 := eq_true p101
        replace q101 := eq_true q101
        have p102 : 0 ≤ (x5_1 : Int) := of_decide_eq_true Z16.z0
        have q102 : x5_1 < (l1.length : Int) := of_decide_eq_true Z16.z0
        obtain ⟨ad102, e102, hx102_0⟩ := Kd.at_int HR1.out x5_1 p102 q102
        cases e102
        replace p102 := eq_true p102
        replace q102 := eq_true q102
        go_wp2
        repeat (go_quiet (fail); try go_wp2)
        go_roundg k1
        case measure => have := HK1.out; omega
        case rel => exact ⟨(wrap64 (x5_1 + 1)), Z16.z2, H', ⟨(by have := HK1.out; omega)⟩, Z16.z1⟩
       rw [if_neg c7] at H
       have c7b0 : ((rd l0 x5_1) == (rd l1 x5_1)) = false := beq_eq_false_iff_ne.mpr c7
       have c7b1 : ((rd l0 x5_1) != (rd l1 x5_1)) = true := bne_iff_ne.mpr c7
       obtain rfl := Option.some.inj H
       have p101 : 0 ≤ (x5_1 : Int) := of_decide_eq_true Z16.z0
       have q101 : x5_1 < (l0.length : Int) := of_decide_eq_true Z16.z0
       obtain ⟨ad101, e101, hx101_0⟩ := Kd.at_int HR0.out x5_1 p101 q101
       cases e101
       replace p101 := eq_true p101
       replace q101 := eq_true q101
       have p102 : 0 ≤ (x5_1 : Int) := of_decide_eq_true Z16.z0
       have q102 : x5_1 < (l1.length : Int) := of_decide_eq_true Z16.z0
       obtain ⟨ad102, e102, hx102_0⟩ := Kd.at_int HR1.out x5_1 p102 q102
       cases e102
       replace p102 := eq_true p102
       replace q102 := eq_true q102
       go_wp2
       repeat (go_quiet (fail); try go_wp2)
       go_ret
       exact ⟨Z16.z2, Z16.z1⟩
      rw [if_neg c6] at H
      exact absurd H (by simp)
     rw [if_neg c5] at H
     exact absurd H (by simp)
    rw [if_neg c4] at H
    have c4b0 : decide (x5_1 < (l0.length : Int)) = false := decide_eq_false c4
    clear c4
    obtain rfl := Option.some.inj H
    go_wp2
    repeat (go_quiet (fail); try go_wp2)
    go_ret
    exact ⟨Z16.z2, Z16.z1⟩
 rw [if_neg c3] at H
 have c3b0 : ((l0.length : Int) == (l1.length : Int)) = false := beq_eq_false_iff_ne.mpr c3
 have c3b1 : ((l0.length : Int) != (l1.length : Int)) = true := bne_iff_ne.mpr c3
 have c3b2 : (l0.length == l1.length) = false := by first | simpa using c3 | (simp at c3 ⊢; omega)
 obtain rfl := Option.some.inj H
 go_enter Tryd.func16, Tryd.ntmps16
 go_wp2
 repeat (go_quiet (fail); try go_wp2)
 go_ret
 exact ⟨Z16.z2, Z16.z1⟩


/-! ### laws_FnBasics: function 3 -/
mutual
def laws_FnBasics.j0 : Nat → List Int → Int → Int → Bool → Option (Bool)
  | 0, _, _, _, _ => none
  | k + 1, x1, x5, x6, x61 => if x61 = true then (some false) else ((impl_DivRound.f x5 x6).bind fun t105 => ((laws_r8Abs.f (wrap64 (x5 - (wrap64 (t105 * x6))))).bind fun t106 => (if (wrap64 (2 * t106)) > x6 then (laws_FnBasics.j1 k x1 x5 x6 true) else ((impl_DivRound.f (wrap64 (-x5)) x6).bind fun t107 => (laws_FnBasics.j1 k x1 x5 x6 (t107 != (wrap64 (-t105))))))))
def laws_FnBasics.j1 : Nat → List Int → Int → Int → Bool → Option (Bool)
  | 0, _, _, _, _ => none
  | k + 1, x1, x5, x6, x82 => if x82 = true then (some false) else ((laws_r8Wide.f x1 0 1000).bind fun t108 => ((laws_r8Wide.f x1 2 5000).bind fun t109 => ((laws_r8Wide.f x1 4 5000).bind fun t110 => ((impl_Blend.f k 0 (wrap64 (t109 - 2500)) 1000 (wrap64 (t110 - 2500)) t108).bind fun t111 => (if t111 < (mn (wrap64 (t109 - 2500)) (wrap64 (t110 - 2500))) then (laws_FnBasics.j2 k x5 x6 t108 (wrap64 (t109 - 2500)) (wrap64 (t110 - 2500)) true) else (if t111 > (mx (wrap64 (t109 - 2500)) (wrap64 (t110 - 2500))) then (laws_FnBasics.j2 k x5 x6 t108 (wrap64 (t109 - 2500)) (wrap64 (t110 - 2500)) true) else ((impl_Blend.f k 0 (wrap64 (t109 - 2500)) 1000 (wrap64 (t110 - 2500)) 0).bind fun t112 => (if t112 = (wrap64 (t109 - 2500)) then ((impl_Blend.f k 0 (wrap64 (t109 - 2500)) 1000 (wrap64 (t110 - 2500)) 1000).bind fun t113 => (laws_FnBasics.j2 k x5 x6 t108 (wrap64 (t109 - 2500)) (wrap64 (t110 - 2500)) (t113 != (wrap64 (t110 - 2500))))) else (laws_FnBasics.j2 k x5 x6 t108 (wrap64 (t109 - 2500)) (wrap64 (t110 - 2500)) true)))))))))
def laws_FnBasics.j2 : Nat → Int → Int → Int → Int → Int → Bool → Option (Bool)
  | 0, _, _, _, _, _, _ => none
  | k + 1, x5, x6, x9, x10, x11, x120 => if x120 = true then (some false) else ((some (([x5, x6, x9, x10, x11] : List Int) : List Int)).bind fun y114 => ((impl_ListText.f k y114).bind fun t117 => ((impl_ReadList.f k t117).bind fun bt118 => ((impl_Decimal.f x5).bind fun t122 => ((impl_ReadDecimal.f t122).bind fun bt123 => (if bt118.2 = true then ((laws_r8Same.f k bt118.1 y114).bind fun t125 => (if t125 = true then (if bt123.2 = true then (some (bt123.1 == x5)) else (some false)) else (some false))) else (some false)))))))
end
def laws_FnBasics.f (k : Nat) (l0 : List Int) (l1 : List Int) : Option (Bool) := (laws_r8Long.f l0 l1).bind fun t101 => (if t101 = true then (some true) else ((spec_R8Numbers.f l0).bind fun bt102 => ((impl_RootOf.f k bt102.1).bind fun t104 => (if bt102.1 < 0 then (if t104 = 0 then (if bt102.1 ≥ 0 then (if t104 < 0 then (laws_FnBasics.j0 k l1 bt102.1 bt102.2 true) else (if t104 > 3000000000 then (laws_FnBasics.j0 k l1 bt102.1 bt102.2 true) else (if (wrap64 (t104 * t104)) > bt102.1 then (laws_FnBasics.j0 k l1 bt102.1 bt102.2 true) else (laws_FnBasics.j0 k l1 bt102.1 bt102.2 (decide ((wrap64 ((wrap64 (t104 + 1)) * (wrap64 (t104 + 1)))) ≤ bt102.1)))))) else (laws_FnBasics.j0 k l1 bt102.1 bt102.2 false)) else (laws_FnBasics.j0 k l1 bt102.1 bt102.2 true)) else (if bt102.1 ≥ 0 then (if t104 < 0 then (laws_FnBasics.j0 k l1 bt102.1 bt102.2 true) else (if t104 > 3000000000 then (laws_FnBasics.j0 k l1 bt102.1 bt102.2 true) else (if (wrap64 (t104 * t104)) > bt102.1 then (laws_FnBasics.j0 k l1 bt102.1 bt102.2 true) else (laws_FnBasics.j0 k l1 bt102.1 bt102.2 (decide ((wrap64 ((wrap64 (t104 + 1)) * (wrap64 (t104 + 1)))) ≤ bt102.1)))))) else (laws_FnBasics.j0 k l1 bt102.1 bt102.2 false))))))
theorem laws_FnBasics.mono_l : ∀ k, (∀ y0 y1 y2 y3, LeO (laws_FnBasics.j0 k y0 y1 y2 y3) (laws_FnBasics.j0 (k + 1) y0 y1 y2 y3)) ∧ (∀ y0 y1 y2 y3, LeO (laws_FnBasics.j1 k y0 y1 y2 y3) (laws_FnBasics.j1 (k + 1) y0 y1 y2 y3)) ∧ (∀ y0 y1 y2 y3 y4 y5, LeO (laws_FnBasics.j2 k y0 y1 y2 y3 y4 y5) (laws_FnBasics.j2 (k + 1) y0 y1 y2 y3 y4 y5))
  | 0 => ⟨fun _ _ _ _ r h => by simp [laws_FnBasics.j0] at h, fun _ _ _ _ r h => by simp [laws_FnBasics.j1] at h, fun _ _ _ _ _ _ r h => by simp [laws_FnBasics.j2] at h⟩
  | k + 1 => by
    obtain ⟨ih0, ih1, ih2⟩ := laws_FnBasics.mono_l k
    refine ⟨?_, ?_, ?_⟩
    · intro y0 y1 y2 y3
      unfold laws_FnBasics.j0
      repeat' first
      | (with_reducible exact ih0 _ _ _ _)
      | (with_reducible exact ih1 _ _ _ _)
      | (with_reducible exact ih2 _ _ _ _ _ _)
      | (with_reducible exact impl_Blend.mono _ _ _ _ _ _)
      | (with_reducible exact impl_ListText.mono _ _)
      | (with_reducible exact impl_ReadList.mono _ _)
      | (with_reducible exact impl_RootOf.mono _ _)
      | (with_reducible exact laws_r8Same.mono _ _ _)
      | (with_reducible exact LeO.refl _)
      | (with_reducible exact LeO.none _)
      | (with_reducible refine LeO.ite ?_ ?_)
      | (with_reducible refine LeO.bind ?_ (fun _ => ?_))
      | exact ih0 _ _ _ _
      | exact ih1 _ _ _ _
      | exact ih2 _ _ _ _ _ _
      | exact impl_Blend.mono _ _ _ _ _ _
      | exact impl_ListText.mono _ _
      | exact impl_ReadList.mono _ _
      | exact impl_RootOf.mono _ _
      | exact laws_r8Same.mono _ _ _
      | exact LeO.none _
      | refine LeO.ite ?_ ?_
      | refine LeO.bind ?_ (fun _ => ?_)
    · intro y0 y1 y2 y3
      unfold laws_FnBasics.j1
      repeat' first
      | (with_reducible exact ih0 _ _ _ _)
      | (with_reducible exact ih1 _ _ _ _)
      | (with_reducible exact ih2 _ _ _ _ _ _)
      | (with_reducible exact impl_Blend.mono _ _ _ _ _ _)
      | (with_reducible exact impl_ListText.mono _ _)
      | (with_reducible exact impl_ReadList.mono _ _)
      | (with_reducible exact impl_RootOf.mono _ _)
      | (with_reducible exact laws_r8Same.mono _ _ _)
      | (with_reducible exact LeO.refl _)
      | (with_reducible exact LeO.none _)
      | (with_reducible refine LeO.ite ?_ ?_)
      | (with_reducible refine LeO.bind ?_ (fun _ => ?_))
      | exact ih0 _ _ _ _
      | exact ih1 _ _ _ _
      | exact ih2 _ _ _ _ _ _
      | exact impl_Blend.mono _ _ _ _ _ _
      | exact impl_ListText.mono _ _
      | exact impl_ReadList.mono _ _
      | exact impl_RootOf.mono _ _
      | exact laws_r8Same.mono _ _ _
      | exact LeO.none _
      | refine LeO.ite ?_ ?_
      | refine LeO.bind ?_ (fun _ => ?_)
    · intro y0 y1 y2 y3 y4 y5
      unfold laws_FnBasics.j2
      repeat' first
      | (with_reducible exact ih0 _ _ _ _)
      | (with_reducible exact ih1 _ _ _ _)
      | (with_reducible exact ih2 _ _ _ _ _ _)
      | (with_reducible exact impl_Blend.mono _ _ _ _ _ _)
      | (with_reducible exact impl_ListText.mono _ _)
      | (with_reducible exact impl_ReadList.mono _ _)
      | (with_reducible exact impl_RootOf.mono _ _)
      | (with_reducible exact laws_r8Same.mono _ _ _)
      | (with_reducible exact LeO.refl _)
      | (with_reducible exact LeO.none _)
      | (with_reducible refine LeO.ite ?_ ?_)
      | (with_reducible refine LeO.bind ?_ (fun _ => ?_))
      | exact ih0 _ _ _ _
      | exact ih1 _ _ _ _
      | exact ih2 _ _ _ _ _ _
      | exact impl_Blend.mono _ _ _ _ _ _
      | exact impl_ListText.mono _ _
      | exact impl_ReadList.mono _ _
      | exact impl_RootOf.mono _ _
      | exact laws_r8Same.mono _ _ _
      | exact LeO.none _
      | refine LeO.ite ?_ ?_
      | refine LeO.bind ?_ (fun _ => ?_)
theorem laws_FnBasics.mono : ∀ a0 a1 k, LeO (laws_FnBasics.f k a0 a1) (laws_FnBasics.f (k + 1) a0 a1) := by
  intro a0 a1 k
  obtain ⟨ih0, ih1, ih2⟩ := laws_FnBasics.mono_l k
  unfold laws_FnBasics.f
  repeat' first
      | (with_reducible exact ih0 _ _ _ _)
      | (with_reducible exact ih1 _ _ _ _)
      | (with_reducible exact ih2 _ _ _ _ _ _)
      | (with_reducible exact impl_Blend.mono _ _ _ _ _ _)
      | (with_reducible exact impl_ListText.mono _ _)
      | (with_reducible exact impl_ReadList.mono _ _)
      | (with_reducible exact impl_RootOf.mono _ _)
      | (with_reducible exact laws_r8Same.mono _ _ _)
      | (with_reducible exact LeO.refl _)
      | (with_reducible exact LeO.none _)
      | (with_reducible refine LeO.ite ?_ ?_)
      | (with_reducible refine LeO.bind ?_ (fun _ => ?_))
      | exact ih0 _ _ _ _
      | exact ih1 _ _ _ _
      | exact ih2 _ _ _ _ _ _
      | exact impl_Blend.mono _ _ _ _ _ _
      | exact impl_ListText.mono _ _
      | exact impl_ReadList.mono _ _
      | exact impl_RootOf.mono _ _
      | exact laws_r8Same.mono _ _ _
      | exact LeO.none _
      | refine LeO.ite ?_ ?_
      | refine LeO.bind ?_ (fun _ => ?_)
theorem Z3.k {p : Prop} (h : p) : Aside0 p := ⟨h⟩
theorem Z3.z9 {P : Prop} (h : P := by repeat (first | exact HR1.out | (with_reducible refine Kd.C_alloc ?_ _) | (with_reducible refine Kd.C_drewN ?_ _) | (with_reducible refine Kd.C_drew ?_))) : P := h
theorem Z3.z8 {P : Prop} (h : P := by unfold laws_FnBasics.j0; split <;> simp) : P := h
theorem Z3.z7 {P : Prop} (h : P := by first | rfl | (simp; done) | (simp [*]; done)) : P := h
theorem Z3.z6 {P : Prop} (h : P := by repeat (first | exact (Kd.R_reads' HO116.out).2.2 | (with_reducible refine Kd.C_alloc ?_ _) | (with_reducible refine Kd.C_drewN ?_ _) | (with_reducible refine Kd.C_drew ?_))) : P := h
theorem Z3.z5 {P : Prop} (h : P := by repeat (first | exact (Kd.C_below HR1.out Z3.z0) | (with_reducible refine Kd.C_alloc ?_ _) | (with_reducible refine Kd.C_drewN ?_ _) | (with_reducible refine Kd.C_drew ?_))) : P := h
theorem Z3.z4 {P : Prop} (h : P := by first | rfl | (rw [Int.tmod_eq_emod_of_nonneg (a := 1) (by decide), hd_]; rfl) | (simp only [Int.tmod_eq_emod_of_nonneg (show (0 : Int) ≤ 1 from by decide)]; simp [hd_]; done) | (simp [errW_none, errW_some] <;> rfl) | (simp [*, errW_none, errW_some] <;> rfl)) : P := h
theorem Z3.z3 {P : Prop} (h : P := by repeat (first | exact HR0.out | (with_reducible refine Kd.C_alloc ?_ _) | (with_reducible refine Kd.C_drewN ?_ _) | (with_reducible refine Kd.C_drew ?_))) : P := h
theorem Z3.z2 {P : Prop} (h : P := by (with_reducible repeat (first | apply Kd.R_alloc | apply Kd.R_drewN | apply Kd.R_drew)); exact HO116.out) : P := h
theorem Z3.z1 {P : Prop} (h : P := by (try simp only [List.map_toArray, List.map_cons, List.map_nil]); first | done | rfl | (simp only [List.length_drop, List.length_take]; rfl)) : P := h
theorem Z3.z0 {P : Prop} (h : P := by repeat (first | (with_reducible first | exact HB.out | apply below_alloc | apply pw_below_drewN | apply below_drew1) | exact HB.out)) : P := h
set_option maxHeartbeats 8000000 in
set_option maxRecDepth 100000 in
theorem laws_FnBasics.calls (k : Nat) (A0 : Option Addr) (c0 : Nat) (l0 : List Int) (A1 : Option Addr) (c1 : Nat) (l1 : List Int) (_r : Bool) (w : World) (hr0 : Kd.C (Kd.int .u8) w A0 l0.length l0) (hc0 : l0.length ≤ c0) (hr1 : Kd.C (Kd.int .u8) w A1 l1.length l1) (hc1 : l1.length ≤ c1) (hlP_ : LaidP w) (hlE_ : LaidE w) (hlM_ : LaidM w) (h : laws_FnBasics.f k l0 l1 = some true) :
  Calls Tryd.prog 3 #[.slice A0 l0.length c0, .slice A1 l1.length c1] w fun e w' => e = .returned (.bool true) ∧ Below w.heap.size w w' := by
 have HR0 := Z3.k hr0
 have HC0 := Z3.k hc0
 clear hr0 hc0
 have HR1 := Z3.k hr1
 have HC1 := Z3.k hc1
 clear hr1 hc1
 have HB := Z3.k (Below.refl w.heap.size w)
 have H : ((laws_r8Long.f l0 l1).bind fun t101 => (if t101 = true then (some true) else ((spec_R8Numbers.f l0).bind fun bt102 => ((impl_RootOf.f k bt102.1).bind fun t104 => (if bt102.1 < 0 then (if t104 = 0 then (if bt102.1 ≥ 0 then (if t104 < 0 then (laws_FnBasics.j0 k l1 bt102.1 bt102.2 true) else (if t104 > 3000000000 then (laws_FnBasics.j0 k l1 bt102.1 bt102.2 true) else (if (wrap64 (t104 * t104)) > bt102.1 then (laws_FnBasics.j0 k l1 bt102.1 bt102.2 true) else (laws_FnBasics.j0 k l1 bt102.1 bt102.2 (decide ((wrap64 ((wrap64 (t104 + 1)) * (wrap64 (t104 + 1)))) ≤ bt102.1)))))) else (laws_FnBasics.j0 k l1 bt102.1 bt102.2 false)) else (laws_FnBasics.j0 k l1 bt102.1 bt102.2 true)) else (if bt102.1 ≥ 0 then (if t104 < 0 then (laws_FnBasics.j0 k l1 bt102.1 bt102.2 true) else (if t104 > 3000000000 then (laws_FnBasics.j0 k l1 bt102.1 bt102.2 true) else (if (wrap64 (t104 * t104)) > bt102.1 then (laws_FnBasics.j0 k l1 bt102.1 bt102.2 true) else (laws_FnBasics.j0 k l1 bt102.1 bt102.2 (decide ((wrap64 ((wrap64 (t104 + 1)) * (wrap64 (t104 + 1)))) ≤ bt102.1)))))) else (laws_FnBasics.j0 k l1 bt102.1 bt102.2 false))))))) = some true := h
 clear h
 replace H := Option.bind_eq_some_iff.mp H
 obtain ⟨t101, A30, H⟩ := H
 replace H : (if t101 = true then (some true) else ((spec_R8Numbers.f l0).bind fun bt102 => ((impl_RootOf.f k bt102.1).bind fun t104 => (if bt102.1 < 0 then (if t104 = 0 then (if bt102.1 ≥ 0 then (if t104 < 0 then (laws_FnBasics.j0 k l1 bt102.1 bt102.2 true) else (if t104 > 3000000000 then (laws_FnBasics.j0 k l1 bt102.1 bt102.2 true) else (if (wrap64 (t104 * t104)) > bt102.1 then (laws_FnBasics.j0 k l1 bt102.1 bt102.2 true) else (laws_FnBasics.j0 k l1 bt102.1 bt102.2 (decide ((wrap64 ((wrap64 (t104 + 1)) * (wrap64 (t104 + 1)))) ≤ bt102.1)))))) else (laws_FnBasics.j0 k l1 bt102.1 bt102.2 false)) else (laws_FnBasics.j0 k l1 bt102.1 bt102.2 true)) else (if bt102.1 ≥ 0 then (if t104 < 0 then (laws_FnBasics.j0 k l1 bt102.1 bt102.2 true) else (if t104 > 3000000000 then (laws_FnBasics.j0 k l1 bt102.1 bt102.2 true) else (if (wrap64 (t104 * t104)) > bt102.1 then (laws_FnBasics.j0 k l1 bt102.1 bt102.2 true) else (laws_FnBasics.j0 k l1 bt102.1 bt102.2 (decide ((wrap64 ((wrap64 (t104 + 1)) * (wrap64 (t104 + 1)))) ≤ bt102.1)))))) else (laws_FnBasics.j0 k l1 bt102.1 bt102.2 false)))))) = some true := H
 have A3 := Z3.k A30
 clear A30
 by_cases c4 : t101 = true
 ·subst c4
  have H1 : (some true) = some true := rfl
  clear H
  have H := H1
  clear H1
  first | exact absurd H (by decide) | obtain rfl := Option.some.inj H | have hd_ := Option.some.inj H
  all_goals
   go_enter Tryd.func3, Tryd.ntmps3
   go_wp2_with (first | ((with_reducible refine gate_callee (f := 5) rfl ?_); refine goesL_ (some 20) rfl rfl Tryd.func5 (by kernel_rfl) rfl #[.slice A0 l0.length c0, .slice A1 l1.length c1] rfl Z3.z1 ?_; (with_reducible refine (laws_r8Long.calls _ _ l0 _ _ l1 true _ ?side1 ?side2 ?side3 ?side4 A3.out).mono ?_); (case side1 => exact Z3.z3); (case side2 => exact HC0.out); (case side3 => exact Z3.z9); (case side4 => exact HC1.out); rintro e w' ⟨rfl, ⟨nd, rfl⟩⟩; refine ⟨_, rfl, ?_⟩))
   go_ret
   exact ⟨Z3.z4, Z3.z0⟩
 ·as_aux_lemma =>
   replace c4 := Bool.eq_false_iff.mpr c4
   subst c4
   have H1 : ((spec_R8Numbers.f l0).bind fun bt102 => ((impl_RootOf.f k bt102.1).bind fun t104 => (if bt102.1 < 0 then (if t104 = 0 then (if bt102.1 ≥ 0 then (if t104 < 0 then (laws_FnBasics.j0 k l1 bt102.1 bt102.2 true) else (if t104 > 3000000000 then (laws_FnBasics.j0 k l1 bt102.1 bt102.2 true) else (if (wrap64 (t104 * t104)) > bt102.1 then (laws_FnBasics.j0 k l1 bt102.1 bt102.2 true) else (laws_FnBasics.j0 k l1 bt102.1 bt102.2 (decide ((wrap64 ((wrap64 (t104 + 1)) * (wrap64 (t104 + 1)))) ≤ bt102.1)))))) else (laws_FnBasics.j0 k l1 bt102.1 bt102.2 false)) else (laws_FnBasics.j0 k l1 bt102.1 bt102.2 true)) else (if bt102.1 ≥ 0 then (if t104 < 0 then (laws_FnBasics.j0 k l1 bt102.1 bt102.2 true) else (if t104 > 3000000000 then (laws_FnBasics.j0 k l1 bt102.1 bt102.2 true) else (if (wrap64 (t104 * t104)) > bt102.1 then (laws_FnBasics.j0 k l1 bt102.1 bt102.2 true) else (laws_FnBasics.j0 k l1 bt102.1 bt102.2 (decide ((wrap64 ((wrap64 (t104 + 1)) * (wrap64 (t104 + 1)))) ≤ bt102.1)))))) else (laws_FnBasics.j0 k l1 bt102.1 bt102.2 false))))) = some true := by rw [if_neg (show ¬ (false = true) by decide)] at H; exact H
   clear H
   have H := H1
   clear H1
   replace H := Option.bind_eq_some_iff.mp H
   obtain ⟨⟨t102, t103⟩, A50, H⟩ := H
   replace H : ((impl_RootOf.f k t102).bind fun t104 => (if t102 < 0 then (if t104 = 0 then (if t102 ≥ 0 then (if t104 < 0 then (laws_FnBasics.j0 k l1 t102 t103 true) else (if t104 > 3000000000 then (laws_FnBasics.j0 k l1 t102 t103 true) else (if (wrap64 (t104 * t104)) > t102 then (laws_FnBasics.j0 k l1 t102 t103 true) else (laws_FnBasics.j0 k l1 t102 t103 (decide ((wrap64 ((wrap64 (t104 + 1)) * (wrap64 (t104 + 1)))) ≤ t102)))))) else (laws_FnBasics.j0 k l1 t102 t103 false)) else (laws_FnBasics.j0 k l1 t102 t103 true)) else (if t102 ≥ 0 then (if t104 < 0 then (laws_FnBasics.j0 k l1 t102 t103 true) else (if t104 > 3000000000 then (laws_FnBasics.j0 k l1 t102 t103 true) else (if (wrap64 (t104 * t104)) > t102 then (laws_FnBasics.j0 k l1 t102 t103 true) else (laws_FnBasics.j0 k l1 t102 t103 (decide ((wrap64 ((wrap64 (t104 + 1)) * (wrap64 (t104 + 1)))) ≤ t102)))))) else (laws_FnBasics.j0 k l1 t102 t103 false)))) = some true := H
   have A5 := Z3.k A50
   clear A50
   replace H := Option.bind_eq_some_iff.mp H
   obtain ⟨t104, A60, H⟩ := H
   replace H : (if t102 < 0 then (if t104 = 0 then (if t102 ≥ 0 then (if t104 < 0 then (laws_FnBasics.j0 k l1 t102 t103 true) else (if t104 > 3000000000 then (laws_FnBasics.j0 k l1 t102 t103 true) else (if (wrap64 (t104 * t104)) > t102 then (laws_FnBasics.j0 k l1 t102 t103 true) else (laws_FnBasics.j0 k l1 t102 t103 (decide ((wrap64 ((wrap64 (t104 + 1)) * (wrap64 (t104 + 1)))) ≤ t102)))))) else (laws_FnBasics.j0 k l1 t102 t103 false)) else (laws_FnBasics.j0 k l1 t102 t103 true)) else (if t102 ≥ 0 then (if t104 < 0 then (laws_FnBasics.j0 k l1 t102 t103 true) else (if t104 > 3000000000 then (laws_FnBasics.j0 k l1 t102 t103 true) else (if (wrap64 (t104 * t104)) > t102 then (laws_FnBasics.j0 k l1 t102 t103 true) else (laws_FnBasics.j0 k l1 t102 t103 (decide ((wrap64 ((wrap64 (t104 + 1)) * (wrap64 (t104 + 1)))) ≤ t102)))))) else (laws_FnBasics.j0 k l1 t102 t103 false))) = some true := H
   have A6 := Z3.k A60
   clear A60
   have HC7 := Z3.k H
   clear H
   go_enter Tryd.func3, Tryd.ntmps3
   go_upto_region 5 with (first | ((with_reducible refine gate_callee (f := 5) rfl ?_); refine goesL_ (some 20) rfl rfl Tryd.func5 (by kernel_rfl) rfl #[.slice A0 l0.length c0, .slice A1 l1.length c1] rfl Z3.z1 ?_; (with_reducible refine (laws_r8Long.calls _ _ l0 _ _ l1 false _ ?side1 ?side2 ?side3 ?side4 A3.out).mono ?_); (case side1 => exact Z3.z3); (case side2 => exact HC0.out); (case side3 => exact Z3.z9); (case side4 => exact HC1.out); rintro e w' ⟨rfl, ⟨nd, rfl⟩⟩; refine ⟨_, rfl, ?_⟩) | ((with_reducible refine gate_callee (f := 6) rfl ?_); refine goesL_ (some 23) rfl rfl Tryd.func6 (by kernel_rfl) rfl #[.slice A0 l0.length c0] rfl Z3.z1 ?_; (with_reducible refine (spec_R8Numbers.calls _ _ l0 t102 t103 _ ?side1 ?side2 A5.out).mono ?_); (case side1 => exact Z3.z3); (case side2 => exact HC0.out); rintro e w8 ⟨rfl, hb⟩; refine ⟨_, rfl, ?_⟩; have n0_ := Z3.k (below_step Z3.z0 hb); clear HB; have HB := n0_; clear n0_; (try clear hb); (try clear hb2); (try clear hk); (try clear hi)) | ((with_reducible refine gate_callee (f := 7) rfl ?_); refine goesL_ (some 27) rfl rfl Tryd.func7 (by kernel_rfl) rfl #[.int .i64 t102] rfl Z3.z1 ?_; (with_reducible refine (impl_RootOf.calls k t102 t104 _ A6.out).mono ?_); rintro e w' ⟨rfl, ⟨nd, rfl⟩⟩; refine ⟨_, rfl, ?_⟩))
   (try simp only [Act.put, List.setIfInBounds_toArray, List.set_cons_zero, List.set_cons_succ])
   go_cut [61] (fun v61 wc => ∃ (kq : Nat) (x61_6 : Bool), v61 = .bool x61_6 ∧ Aside0 (laws_FnBasics.j0 kq l1 t102 t103 x61_6 = some true) ∧ Aside0 (kq ≤ k) ∧ Aside0 (Below w.heap.size w wc))
   case first =>
    have H := HC7.out
    clear HC7
    by_cases c9 : t102 < 0
    ·rw [if_pos c9] at H
     have c9b0 : decide (t102 < 0) = true := decide_eq_true c9
     clear c9
     (first | rw [c9b0] | (simp only [i64_w, i32_w]; rw [c9b0]) | skip)
     by_cases c10 : t104 = 0
     ·rw [if_pos c10] at H
      have c10b0 : (t104 == 0) = true := beq_iff_eq.mpr c10
      have c10b1 : (t104 != 0) = false := bne_eq_false_iff_eq.mpr c10
      clear c10
      by_cases c11 : t102 ≥ 0
      ·rw [if_pos c11] at H
       have c11b0 : decide (0 ≤ t102) = true := decide_eq_true c11
       clear c11
       by_cases c12 : t104 < 0
       ·rw [if_pos c12] at H
        have c12b0 : decide (t104 < 0) = true := decide_eq_true c12
        clear c12
        exact absurd H Z3.z8
       rw [if_neg c12] at H
       have c12b0 : decide (t104 < 0) = false := decide_eq_false c12
       clear c12
       by_cases c13 : t104 > 3000000000
       ·rw [if_pos c13] at H
        have c13b0 : decide (3000000000 < t104) = true := decide_eq_true c13
        clear c13
        exact absurd H Z3.z8
       rw [if_neg c13] at H
       have c13b0 : decide (3000000000 < t104) = false := decide_eq_false c13
       clear c13
       by_cases c14 : (wrap64 (t104 * t104)) > t102
       ·rw [if_pos c14] at H
        have c14b0 : decide (t102 < (wrap64 (t104 * t104))) = true := decide_eq_true c14
        clear c14
        exact absurd H Z3.z8
       rw [if_neg c14] at H
       have c14b0 : decide (t102 < (wrap64 (t104 * t104))) = false := decide_eq_false c14
       clear c14
       have H' := Z3.k H
       clear H
       go_wp2
       go_meet
       case rel => exact ⟨_, (decide ((wrap64 ((wrap64 (t104 + 1)) * (wrap64 (t104 + 1)))) ≤ t102)), Z3.z7, H', ⟨(by first | omega | exact Nat.le_refl _)⟩, ⟨Z3.z0⟩⟩
      rw [if_neg c11] at H
      have c11b0 : decide (0 ≤ t102) = false := decide_eq_false c11
      clear c11
      have H' := Z3.k H
      clear H
      go_wp2
      go_meet
      case rel => exact ⟨_, (false), Z3.z7, H', ⟨(by first | omega | exact Nat.le_refl _)⟩, ⟨Z3.z0⟩⟩
     rw [if_neg c10] at H
     have c10b0 : (t104 == 0) = false := beq_eq_false_iff_ne.mpr c10
     have c10b1 : (t104 != 0) = true := bne_iff_ne.mpr c10
     exact absurd H Z3.z8
    rw [if_neg c9] at H
    have c9b0 : decide (t102 < 0) = false := decide_eq_false c9
    clear c9
    (first | rw [c9b0] | (simp only [i64_w, i32_w]; rw [c9b0]) | skip)
    by_cases c15 : t102 ≥ 0
    ·rw [if_pos c15] at H
     have c15b0 : decide (0 ≤ t102) = true := decide_eq_true c15
     clear c15
     by_cases c16 : t104 < 0
     ·rw [if_pos c16] at H
      have c16b0 : decide (t104 < 0) = true := decide_eq_true c16
      clear c16
      exact absurd H Z3.z8
     rw [if_neg c16] at H
     have c16b0 : decide (t104 < 0) = false := decide_eq_false c16
     clear c16
     by_cases c17 : t104 > 3000000000
     ·rw [if_pos c17] at H
      have c17b0 : decide (3000000000 < t104) = true := decide_eq_true c17
      clear c17
      exact absurd H Z3.z8
     rw [if_neg c17] at H
     have c17b0 : decide (3000000000 < t104) = false := decide_eq_false c17
     clear c17
     by_cases c18 : (wrap64 (t104 * t104)) > t102
     ·rw [if_pos c18] at H
      have c18b0 : decide (t102 < (wrap64 (t104 * t104))) = true := decide_eq_true c18
      clear c18
      exact absurd H Z3.z8
     rw [if_neg c18] at H
     have c18b0 : decide (t102 < (wrap64 (t104 * t104))) = false := decide_eq_false c18
     clear c18
     have H' := Z3.k H
     clear H
     go_wp2
     go_meet
     case rel => exact ⟨_, (decide ((wrap64 ((wrap64 (t104 + 1)) * (wrap64 (t104 + 1)))) ≤ t102)), Z3.z7, H', ⟨(by first | omega | exact Nat.le_refl _)⟩, ⟨Z3.z0⟩⟩
    rw [if_neg c15] at H
    have c15b0 : decide (0 ≤ t102) = false := decide_eq_false c15
    clear c15
    have H' := Z3.k H
    clear H
    go_wp2
    go_meet
    case rel => exact ⟨_, (false), Z3.z7, H', ⟨(by first | omega | exact Nat.le_refl _)⟩, ⟨Z3.z0⟩⟩
   case rest =>
    clear HC7
    try clear c1
    try clear p2
    try clear c3
    try clear c4
    try clear c5
    try clear c6
    try clear p6
    try clear c7
    try clear c9
    try clear c9b0
    try clear c10
    try clear c10b0
    try clear c10b1
    try clear c11
    try clear c11b0
    try clear c12
    try clear c12b0
    try clear c13
    try clear c13b0
    try clear c14
    try clear c14b0
    try clear c15
    try clear c15b0
    try clear c16
    try clear c16b0
    try clear c17
    try clear c17b0
    try clear c18
    try clear c18b0
    obtain ⟨kq, x61_6, rfl, HA, HJ6, HB⟩ := hcut
    cases kq with
    | zero => exact absurd HA.out (by simp [laws_FnBasics.j0])
    | succ kj6 =>
     have H := HA.out
     clear HA
     simp only [laws_FnBasics.j0] at H
     by_cases c19 : x61_6 = true
     ·subst c19
      have H1 : (some false) = some true := by rw [if_pos rfl] at H; exact H
      exact absurd H1 (by simp)
     ·as_aux_lemma =>
       replace c19 := Bool.eq_false_iff.mpr c19
       subst c19
       have H1 : ((impl_DivRound.f t102 t103).bind fun t105 => ((laws_r8Abs.f (wrap64 (t102 - (wrap64 (t105 * t103))))).bind fun t106 => (if (wrap64 (2 * t106)) > t103 then (laws_FnBasics.j1 kj6 l1 t102 t103 true) else ((impl_DivRound.f (wrap64 (-t102)) t103).bind fun t107 => (laws_FnBasics.j1 kj6 l1 t102 t103 (t107 != (wrap64 (-t105)))))))) = some true := by rw [if_neg (show ¬ (false = true) by decide)] at H; exact H
       clear H
       have H := H1
       clear H1
       replace H := Option.bind_eq_some_iff.mp H
       obtain ⟨t105, A200, H⟩ := H
       replace H : ((laws_r8Abs.f (wrap64 (t102 - (wrap64 (t105 * t103))))).bind fun t106 => (if (wrap64 (2 * t106)) > t103 then (laws_FnBasics.j1 kj6 l1 t102 t103 true) else ((impl_DivRound.f (wrap64 (-t102)) t103).bind fun t107 => (laws_FnBasics.j1 kj6 l1 t102 t103 (t107 != (wrap64 (-t105))))))) = some true := H
       have A20 := Z3.k A200
       clear A200
       have HC21 := Z3.k H
       clear H
       go_upto_region 8 with (first | ((with_reducible refine gate_callee (f := 8) rfl ?_); refine goesL_ (some 64) rfl rfl Tryd.func8 (by kernel_rfl) rfl #[.int .i64 t102, .int .i64 t103] rfl Z3.z1 ?_; (with_reducible refine (impl_DivRound.calls t102 t103 t105 _ A20.out).mono ?_); rintro e w' ⟨rfl, ⟨nd, rfl⟩⟩; refine ⟨_, rfl, ?_⟩))
       (try simp only [Act.put, List.setIfInBounds_toArray, List.set_cons_zero, List.set_cons_succ])
       go_cut [82] (fun v82 wc => ∃ (kq : Nat) (x82_20 : Bool), v82 = .bool x82_20 ∧ Aside0 (laws_FnBasics.j1 kq l1 t102 t103 x82_20 = some true) ∧ Aside0 (kq ≤ kj6) ∧ Aside0 (Below w.heap.size w wc))
       case first =>
        have H := HC21.out
        clear HC21
        replace H := Option.bind_eq_some_iff.mp H
        obtain ⟨t106, A220, H⟩ := H
        replace H : (if (wrap64 (2 * t106)) > t103 then (laws_FnBasics.j1 kj6 l1 t102 t103 true) else ((impl_DivRound.f (wrap64 (-t102)) t103).bind fun t107 => (laws_FnBasics.j1 kj6 l1 t102 t103 (t107 != (wrap64 (-t105)))))) = some true := H
        have A22 := Z3.k A220
        clear A220
        by_cases c23 : (wrap64 (2 * t106)) > t103
        ·rw [if_pos c23] at H
         have c23b0 : decide (t103 < (wrap64 (2 * t106))) = true := decide_eq_true c23
         clear c23
         (first | rw [c23b0] | (simp only [i64_w, i32_w]; rw [c23b0]) | skip)
         exact absurd H (by unfold laws_FnBasics.j1; split <;> simp)
        rw [if_neg c23] at H
        have c23b0 : decide (t103 < (wrap64 (2 * t106))) = false := decide_eq_false c23
        clear c23
        (first | rw [c23b0] | (simp only [i64_w, i32_w]; rw [c23b0]) | skip)
        replace H := Option.bind_eq_some_iff.mp H
        obtain ⟨t107, A250, H⟩ := H
        replace H : (laws_FnBasics.j1 kj6 l1 t102 t103 (t107 != (wrap64 (-t105)))) = some true := H
        have A25 := Z3.k A250
        clear A250
        have H' := Z3.k H
        clear H
        go_wp2_with (first | ((with_reducible refine gate_callee (f := 9) rfl ?_); refine goesL_ (some 70) rfl rfl Tryd.func9 (by kernel_rfl) rfl #[.int .i64 (wrap64 (t102 - (wrap64 (t105 * t103))))] rfl Z3.z1 ?_; (with_reducible refine (laws_r8Abs.calls (wrap64 (t102 - (wrap64 (t105 * t103)))) t106 _ A22.out).mono ?_); rintro e w26 ⟨rfl, hb⟩; refine ⟨_, rfl, ?_⟩; have n0_ := Z3.k (below_step Z3.z0 hb); clear HB; have HB := n0_; clear n0_; (try clear hb); (try clear hb2); (try clear hk); (try clear hi)) | (go_at_call 8; (with_reducible refine (impl_DivRound.calls (wrap64 (-t102)) t103 t107 _ A25.out).mono ?_); rintro e w' ⟨rfl, ⟨nd, rfl⟩⟩))
        go_meet
        case rel => exact ⟨_, ((t107 != (wrap64 (-t105)))), Z3.z7, H', ⟨(by have := HJ6.out; first | omega | exact Nat.le_refl _)⟩, ⟨Z3.z0⟩⟩
       case rest =>
        clear HC21
        try clear c1
        try clear c2
        try clear p2
        try clear c3
        try clear c4
        try clear c5
        try clear c6
        try clear p6
        try clear c7
        try clear c8
        try clear c9
        try clear c9b0
        try clear c10
        try clear c10b0
        try clear c10b1
        try clear c11
        try clear c11b0
        try clear c12
        try clear c12b0
        try clear c13
        try clear c13b0
        try clear c14
        try clear c14b0
        try clear c15
        try clear c15b0
        try clear c16
        try clear c16b0
        try clear c17
        try clear c17b0
        try clear c18
        try clear c18b0
        try clear c19
        try clear c23
        try clear c23b0
        try clear p2
        try clear p6
        obtain ⟨kq, x82_20, rfl, HA, HJ20, HB⟩ := hcut
        cases kq with
        | zero => exact absurd HA.out (by simp [laws_FnBasics.j1])
        | succ kj20 =>
         have H := HA.out
         clear HA
         simp only [laws_FnBasics.j1] at H
         by_cases c27 : x82_20 = true
         ·subst c27
          have H1 : (some false) = some true := by rw [if_pos rfl] at H; exact H
          exact absurd H1 (by simp)
         ·as_aux_lemma =>
           replace c27 := Bool.eq_false_iff.mpr c27
           subst c27
           have H1 : ((laws_r8Wide.f l1 0 1000).bind fun t108 => ((laws_r8Wide.f l1 2 5000).bind fun t109 => ((laws_r8Wide.f l1 4 5000).bind fun t110 => ((impl_Blend.f kj20 0 (wrap64 (t109 - 2500)) 1000 (wrap64 (t110 - 2500)) t108).bind fun t111 => (if t111 < (mn (wrap64 (t109 - 2500)) (wrap64 (t110 - 2500))) then (laws_FnBasics.j2 kj20 t102 t103 t108 (wrap64 (t109 - 2500)) (wrap64 (t110 - 2500)) true) else (if t111 > (mx (wrap64 (t109 - 2500)) (wrap64 (t110 - 2500))) then (laws_FnBasics.j2 kj20 t102 t103 t108 (wrap64 (t109 - 2500)) (wrap64 (t110 - 2500)) true) else ((impl_Blend.f kj20 0 (wrap64 (t109 - 2500)) 1000 (wrap64 (t110 - 2500)) 0).bind fun t112 => (if t112 = (wrap64 (t109 - 2500)) then ((impl_Blend.f kj20 0 (wrap64 (t109 - 2500)) 1000 (wrap64 (t110 - 2500)) 1000).bind fun t113 => (laws_FnBasics.j2 kj20 t102 t103 t108 (wrap64 (t109 - 2500)) (wrap64 (t110 - 2500)) (t113 != (wrap64 (t110 - 2500))))) else (laws_FnBasics.j2 kj20 t102 t103 t108 (wrap64 (t109 - 2500)) (wrap64 (t110 - 2500)) true))))))))) = some true := by rw [if_neg (show ¬ (false = true) by decide)] at H; exact H
           clear H
           have H := H1
           clear H1
           replace H := Option.bind_eq_some_iff.mp H
           obtain ⟨t108, A280, H⟩ := H
           replace H : ((laws_r8Wide.f l1 2 5000).bind fun t109 => ((laws_r8Wide.f l1 4 5000).bind fun t110 => ((impl_Blend.f kj20 0 (wrap64 (t109 - 2500)) 1000 (wrap64 (t110 - 2500)) t108).bind fun t111 => (if t111 < (mn (wrap64 (t109 - 2500)) (wrap64 (t110 - 2500))) then (laws_FnBasics.j2 kj20 t102 t103 t108 (wrap64 (t109 - 2500)) (wrap64 (t110 - 2500)) true) else (if t111 > (mx (wrap64 (t109 - 2500)) (wrap64 (t110 - 2500))) then (laws_FnBasics.j2 kj20 t102 t103 t108 (wrap64 (t109 - 2500)) (wrap64 (t110 - 2500)) true) else ((impl_Blend.f kj20 0 (wrap64 (t109 - 2500)) 1000 (wrap64 (t110 - 2500)) 0).bind fun t112 => (if t112 = (wrap64 (t109 - 2500)) then ((impl_Blend.f kj20 0 (wrap64 (t109 - 2500)) 1000 (wrap64 (t110 - 2500)) 1000).bind fun t113 => (laws_FnBasics.j2 kj20 t102 t103 t108 (wrap64 (t109 - 2500)) (wrap64 (t110 - 2500)) (t113 != (wrap64 (t110 - 2500))))) else (laws_FnBasics.j2 kj20 t102 t103 t108 (wrap64 (t109 - 2500)) (wrap64 (t110 - 2500)) true)))))))) = some true := H
           have A28 := Z3.k A280
           clear A280
           replace H := Option.bind_eq_some_iff.mp H
           obtain ⟨t109, A290, H⟩ := H
           replace H : ((laws_r8Wide.f l1 4 5000).bind fun t110 => ((impl_Blend.f kj20 0 (wrap64 (t109 - 2500)) 1000 (wrap64 (t110 - 2500)) t108).bind fun t111 => (if t111 < (mn (wrap64 (t109 - 2500)) (wrap64 (t110 - 2500))) then (laws_FnBasics.j2 kj20 t102 t103 t108 (wrap64 (t109 - 2500)) (wrap64 (t110 - 2500)) true) else (if t111 > (mx (wrap64 (t109 - 2500)) (wrap64 (t110 - 2500))) then (laws_FnBasics.j2 kj20 t102 t103 t108 (wrap64 (t109 - 2500)) (wrap64 (t110 - 2500)) true) else ((impl_Blend.f kj20 0 (wrap64 (t109 - 2500)) 1000 (wrap64 (t110 - 2500)) 0).bind fun t112 => (if t112 = (wrap64 (t109 - 2500)) then ((impl_Blend.f kj20 0 (wrap64 (t109 - 2500)) 1000 (wrap64 (t110 - 2500)) 1000).bind fun t113 => (laws_FnBasics.j2 kj20 t102 t103 t108 (wrap64 (t109 - 2500)) (wrap64 (t110 - 2500)) (t113 != (wrap64 (t110 - 2500))))) else (laws_FnBasics.j2 kj20 t102 t103 t108 (wrap64 (t109 - 2500)) (wrap64 (t110 - 2500)) true))))))) = some true := H
           have A29 := Z3.k A290
           clear A290
           replace H := Option.bind_eq_some_iff.mp H
           obtain ⟨t110, A300, H⟩ := H
           replace H : ((impl_Blend.f kj20 0 (wrap64 (t109 - 2500)) 1000 (wrap64 (t110 - 2500)) t108).bind fun t111 => (if t111 < (mn (wrap64 (t109 - 2500)) (wrap64 (t110 - 2500))) then (laws_FnBasics.j2 kj20 t102 t103 t108 (wrap64 (t109 - 2500)) (wrap64 (t110 - 2500)) true) else (if t111 > (mx (wrap64 (t109 - 2500)) (wrap64 (t110 - 2500))) then (laws_FnBasics.j2 kj20 t102 t103 t108 (wrap64 (t109 - 2500)) (wrap64 (t110 - 2500)) true) else ((impl_Blend.f kj20 0 (wrap64 (t109 - 2500)) 1000 (wrap64 (t110 - 2500)) 0).bind fun t112 => (if t112 = (wrap64 (t109 - 2500)) then ((impl_Blend.f kj20 0 (wrap64 (t109 - 2500)) 1000 (wrap64 (t110 - 2500)) 1000).bind fun t113 => (laws_FnBasics.j2 kj20 t102 t103 t108 (wrap64 (t109 - 2500)) (wrap64 (t110 - 2500)) (t113 != (wrap64 (t110 - 2500))))) else (laws_FnBasics.j2 kj20 t102 t103 t108 (wrap64 (t109 - 2500)) (wrap64 (t110 - 2500)) true)))))) = some true := H
           have A30 := Z3.k A300
           clear A300
           replace H := Option.bind_eq_some_iff.mp H
           obtain ⟨t111, A310, H⟩ := H
           replace H : (if t111 < (mn (wrap64 (t109 - 2500)) (wrap64 (t110 - 2500))) then (laws_FnBasics.j2 kj20 t102 t103 t108 (wrap64 (t109 - 2500)) (wrap64 (t110 - 2500)) true) else (if t111 > (mx (wrap64 (t109 - 2500)) (wrap64 (t110 - 2500))) then (laws_FnBasics.j2 kj20 t102 t103 t108 (wrap64 (t109 - 2500)) (wrap64 (t110 - 2500)) true) else ((impl_Blend.f kj20 0 (wrap64 (t109 - 2500)) 1000 (wrap64 (t110 - 2500)) 0).bind fun t112 => (if t112 = (wrap64 (t109 - 2500)) then ((impl_Blend.f kj20 0 (wrap64 (t109 - 2500)) 1000 (wrap64 (t110 - 2500)) 1000).bind fun t113 => (laws_FnBasics.j2 kj20 t102 t103 t108 (wrap64 (t109 - 2500)) (wrap64 (t110 - 2500)) (t113 != (wrap64 (t110 - 2500))))) else (laws_FnBasics.j2 kj20 t102 t103 t108 (wrap64 (t109 - 2500)) (wrap64 (t110 - 2500)) true))))) = some true := H
           have A31 := Z3.k A310
           clear A310
           have HC32 := Z3.k H
           clear H
           go_upto_region 14 with (first | ((with_reducible refine gate_callee (f := 10) rfl ?_); refine goesL_ (some 84) rfl rfl Tryd.func10 (by kernel_rfl) rfl #[.slice A1 l1.length c1, .int .i64 0, .int .i64 1000] rfl Z3.z1 ?_; (with_reducible refine (laws_r8Wide.calls _ _ l1 0 1000 t108 _ ?side1 ?side2 A28.out).mono ?_); (case side1 => exact (by repeat (first | exact (Kd.C_below HR1.out HB.out) | (with_reducible refine Kd.C_alloc ?_ _) | (with_reducible refine Kd.C_drewN ?_ _) | (with_reducible refine Kd.C_drew ?_)))); (case side2 => exact HC1.out); rintro e w' ⟨rfl, ⟨nd, rfl⟩⟩; refine ⟨_, rfl, ?_⟩) | ((with_reducible refine gate_callee (f := 10) rfl ?_); refine goesL_ (some 86) rfl rfl Tryd.func10 (by kernel_rfl) rfl #[.slice A1 l1.length c1, .int .i64 2, .int .i64 5000] rfl Z3.z1 ?_; (with_reducible refine (laws_r8Wide.calls _ _ l1 2 5000 t109 _ ?side1 ?side2 A29.out).mono ?_); (case side1 => exact Z3.z5); (case side2 => exact HC1.out); rintro e w' ⟨rfl, ⟨nd, rfl⟩⟩; refine ⟨_, rfl, ?_⟩) | ((with_reducible refine gate_callee (f := 10) rfl ?_); refine goesL_ (some 89) rfl rfl Tryd.func10 (by kernel_rfl) rfl #[.slice A1 l1.length c1, .int .i64 4, .int .i64 5000] rfl Z3.z1 ?_; (with_reducible refine (laws_r8Wide.calls _ _ l1 4 5000 t110 _ ?side1 ?side2 A30.out).mono ?_); (case side1 => exact Z3.z5); (case side2 => exact HC1.out); rintro e w' ⟨rfl, ⟨nd, rfl⟩⟩; refine ⟨_, rfl, ?_⟩) | ((with_reducible refine gate_callee (f := 11) rfl ?_); refine goesL_ (some 94) rfl rfl Tryd.func11 (by kernel_rfl) rfl #[.int .i64 0, .int .i64 (wrap64 (t109 - 2500)), .int .i64 1000, .int .i64 (wrap64 (t110 - 2500)), .int .i64 t108] rfl Z3.z1 ?_; (with_reducible refine (impl_Blend.calls kj20 0 (wrap64 (t109 - 2500)) 1000 (wrap64 (t110 - 2500)) t108 t111 _ A31.out).mono ?_); rintro e w33 ⟨rfl, hb⟩; refine ⟨_, rfl, ?_⟩; have n0_ := Z3.k (below_step Z3.z0 hb); clear HB; have HB := n0_; clear n0_; (try clear hb); (try clear hb2); (try clear hk); (try clear hi)))
           (try simp only [Act.put, List.setIfInBounds_toArray, List.set_cons_zero, List.set_cons_succ])
           go_cut [120] (fun v120 wc => ∃ (kq : Nat) (x120_31 : Bool), v120 = .bool x120_31 ∧ Aside0 (laws_FnBasics.j2 kq t102 t103 t108 (wrap64 (t109 - 2500)) (wrap64 (t110 - 2500)) x120_31 = some true) ∧ Aside0 (kq ≤ kj20) ∧ Aside0 (Below w.heap.size w wc))
           case first =>
            have H := HC32.out
            clear HC32
            obtain ⟨ji34, hji34⟩ : ∃ j_ : Int, (mn (wrap64 (t109 - 2500)) (wrap64 (t110 - 2500))) = j_ := ⟨_, rfl⟩
            replace H : (if t111 < (ji34) then (laws_FnBasics.j2 kj20 t102 t103 t108 (wrap64 (t109 - 2500)) (wrap64 (t110 - 2500)) true) else (if t111 > (mx (wrap64 (t109 - 2500)) (wrap64 (t110 - 2500))) then (laws_FnBasics.j2 kj20 t102 t103 t108 (wrap64 (t109 - 2500)) (wrap64 (t110 - 2500)) true) else ((impl_Blend.f kj20 0 (wrap64 (t109 - 2500)) 1000 (wrap64 (t110 - 2500)) 0).bind fun t112 => (if t112 = (wrap64 (t109 - 2500)) then ((impl_Blend.f kj20 0 (wrap64 (t109 - 2500)) 1000 (wrap64 (t110 - 2500)) 1000).bind fun t113 => (laws_FnBasics.j2 kj20 t102 t103 t108 (wrap64 (t109 - 2500)) (wrap64 (t110 - 2500)) (t113 != (wrap64 (t110 - 2500))))) else (laws_FnBasics.j2 kj20 t102 t103 t108 (wrap64 (t109 - 2500)) (wrap64 (t110 - 2500)) true))))) = some true := by first | (rw [hji34] at H; exact H) | (simp only [hji34] at H ⊢; exact H)
            have hji34_ : (if (wrap64 (t110 - 2500)) < (wrap64 (t109 - 2500)) then (wrap64 (t110 - 2500)) else (wrap64 (t109 - 2500))) = ji34 := hji34
            by_cases c35 : t111 < (ji34)
            ·rw [if_pos c35] at H
             have c35b0 : decide (t111 < (ji34)) = true := decide_eq_true c35
             clear c35
             (first | rw [c35b0] | (simp only [i64_w, i32_w]; rw [c35b0]) | skip)
             exact absurd H (by unfold laws_FnBasics.j2; split <;> simp)
            rw [if_neg c35] at H
            have c35b0 : decide (t111 < (ji34)) = false := decide_eq_false c35
            clear c35
            (first | rw [c35b0] | (simp only [i64_w, i32_w]; rw [c35b0]) | skip)
            obtain ⟨ji36, hji36⟩ : ∃ j_ : Int, (mx (wrap64 (t109 - 2500)) (wrap64 (t110 - 2500))) = j_ := ⟨_, rfl⟩
            replace H : (if t111 > (ji36) then (laws_FnBasics.j2 kj20 t102 t103 t108 (wrap64 (t109 - 2500)) (wrap64 (t110 - 2500)) true) else ((impl_Blend.f kj20 0 (wrap64 (t109 - 2500)) 1000 (wrap64 (t110 - 2500)) 0).bind fun t112 => (if t112 = (wrap64 (t109 - 2500)) then ((impl_Blend.f kj20 0 (wrap64 (t109 - 2500)) 1000 (wrap64 (t110 - 2500)) 1000).bind fun t113 => (laws_FnBasics.j2 kj20 t102 t103 t108 (wrap64 (t109 - 2500)) (wrap64 (t110 - 2500)) (t113 != (wrap64 (t110 - 2500))))) else (laws_FnBasics.j2 kj20 t102 t103 t108 (wrap64 (t109 - 2500)) (wrap64 (t110 - 2500)) true)))) = some true := by first | (rw [hji36] at H; exact H) | (simp only [hji36] at H ⊢; exact H)
            have hji36_ : (if (wrap64 (t109 - 2500)) < (wrap64 (t110 - 2500)) then (wrap64 (t110 - 2500)) else (wrap64 (t109 - 2500))) = ji36 := hji36
            by_cases c37 : t111 > (ji36)
            ·rw [if_pos c37] at H
             have c37b0 : decide ((ji36) < t111) = true := decide_eq_true c37
             clear c37
             exact absurd H (by unfold laws_FnBasics.j2; split <;> simp)
            rw [if_neg c37] at H
            have c37b0 : decide ((ji36) < t111) = false := decide_eq_false c37
            clear c37
            replace H := Option.bind_eq_some_iff.mp H
            obtain ⟨t112, A380, H⟩ := H
            replace H : (if t112 = (wrap64 (t109 - 2500)) then ((impl_Blend.f kj20 0 (wrap64 (t109 - 2500)) 1000 (wrap64 (t110 - 2500)) 1000).bind fun t113 => (laws_FnBasics.j2 kj20 t102 t103 t108 (wrap64 (t109 - 2500)) (wrap64 (t110 - 2500)) (t113 != (wrap64 (t110 - 2500))))) else (laws_FnBasics.j2 kj20 t102 t103 t108 (wrap64 (t109 - 2500)) (wrap64 (t110 - 2500)) true)) = some true := H
            have A38 := Z3.k A380
            clear A380
            by_cases c39 : t112 = (wrap64 (t109 - 2500))
            ·rw [if_pos c39] at H
             have c39b0 : (t112 == (wrap64 (t109 - 2500))) = true := beq_iff_eq.mpr c39
             have c39b1 : (t112 != (wrap64 (t109 - 2500))) = false := bne_eq_false_iff_eq.mpr c39
             clear c39
             replace H := Option.bind_eq_some_iff.mp H
             obtain ⟨t113, A400, H⟩ := H
             replace H : (laws_FnBasics.j2 kj20 t102 t103 t108 (wrap64 (t109 - 2500)) (wrap64 (t110 - 2500)) (t113 != (wrap64 (t110 - 2500)))) = some true := H
             have A40 := Z3.k A400
             clear A400
             have H' := Z3.k H
             clear H
             go_wp2_with (first | (go_at_call 11; (with_reducible refine (impl_Blend.calls kj20 0 (wrap64 (t109 - 2500)) 1000 (wrap64 (t110 - 2500)) 0 t112 _ A38.out).mono ?_); rintro e w41 ⟨rfl, hb⟩; have n0_ := Z3.k (below_step Z3.z0 hb); clear HB; have HB := n0_; clear n0_; (try clear hb); (try clear hb2); (try clear hk); (try clear hi)) | (go_at_call 11; (with_reducible refine (impl_Blend.calls kj20 0 (wrap64 (t109 - 2500)) 1000 (wrap64 (t110 - 2500)) 1000 t113 _ A40.out).mono ?_); rintro e w42 ⟨rfl, hb⟩; have n0_ := Z3.k (below_step Z3.z0 hb); clear HB; have HB := n0_; clear n0_; (try clear hb); (try clear hb2); (try clear hk); (try clear hi)))
             go_meet
             case rel => exact ⟨_, ((t113 != (wrap64 (t110 - 2500)))), Z3.z7, H', ⟨(by have := HJ6.out; have := HJ20.out; first | omega | exact Nat.le_refl _)⟩, ⟨Z3.z0⟩⟩
            rw [if_neg c39] at H
            have c39b0 : (t112 == (wrap64 (t109 - 2500))) = false := beq_eq_false_iff_ne.mpr c39
            have c39b1 : (t112 != (wrap64 (t109 - 2500))) = true := bne_iff_ne.mpr c39
            exact absurd H (by unfold laws_FnBasics.j2; split <;> simp)
           case rest =>
            clear HC32
            try clear c1
            try clear c2
            try clear p2
            try clear c3
            try clear c4
            try clear c5
            try clear c6
            try clear p6
            try clear c7
            try clear c8
            try clear c9
            try clear c9b0
            try clear c10
            try clear c10b0
            try clear c10b1
            try clear c11
            try clear c11b0
            try clear c12
            try clear c12b0
            try clear c13
            try clear c13b0
            try clear c14
            try clear c14b0
            try clear c15
            try clear c15b0
            try clear c16
            try clear c16b0
            try clear c17
            try clear c17b0
            try clear c18
            try clear c18b0
            try clear c19
            try clear c23
            try clear c23b0
            try clear c27
            try clear c35
            try clear c35b0
            try clear c37
            try clear c37b0
            try clear c39
            try clear c39b0
            try clear c39b1
            try clear p2
            try clear p6
            obtain ⟨kq, x120_31, rfl, HA, HJ31, HB⟩ := hcut
            cases kq with
            | zero => exact absurd HA.out (by simp [laws_FnBasics.j2])
            | succ kj31 =>
             have H := HA.out
             clear HA
             simp only [laws_FnBasics.j2] at H
             by_cases c44 : x120_31 = true
             ·subst c44
              have H1 : (some false) = some true := by rw [if_pos rfl] at H; exact H
              exact absurd H1 (by simp)
             replace c44 := Bool.eq_false_iff.mpr c44
             subst c44
             have H1 : ((some (([t102, t103, t108, (wrap64 (t109 - 2500)), (wrap64 (t110 - 2500))] : List Int) : List Int)).bind fun y114 => ((impl_ListText.f kj31 y114).bind fun t117 => ((impl_ReadList.f kj31 t117).bind fun bt118 => ((impl_Decimal.f t102).bind fun t122 => ((impl_ReadDecimal.f t122).bind fun bt123 => (if bt118.2 = true then ((laws_r8Same.f kj31 bt118.1 y114).bind fun t125 => (if t125 = true then (if bt123.2 = true then (some (bt123.1 == t102)) else (some false)) else (some false))) else (some false))))))) = some true := by rw [if_neg (show ¬ (false = true) by decide)] at H; exact H
             clear H
             have H := H1
             clear H1
             obtain ⟨y114, hy114⟩ : ∃ y_ : List Int, y_ = (([t102, t103, t108, (wrap64 (t109 - 2500)), (wrap64 (t110 - 2500))] : List Int)) := ⟨_, rfl⟩
             replace H : ((impl_ListText.f kj31 y114).bind fun t117 => ((impl_ReadList.f kj31 t117).bind fun bt118 => ((impl_Decimal.f t102).bind fun t122 => ((impl_ReadDecimal.f t122).bind fun bt123 => (if bt118.2 = true then ((laws_r8Same.f kj31 bt118.1 y114).bind fun t125 => (if t125 = true then (if bt123.2 = true then (some (bt123.1 == t102)) else (some false)) else (some false))) else (some false)))))) = some true := by first | (rw [hy114]; with_reducible exact H) | (have H2_ := (Option.bind_some _ _).symm.trans H; rw [hy114]; with_reducible exact H2_) | (have H2_ := (Option.bind_some _ _).symm.trans H; with_reducible exact H2_) | with_reducible exact H | (rw [hy114]; exact H) | exact H
             have Ny114 := Z3.k hy114
             clear hy114
             replace H := Option.bind_eq_some_iff.mp H
             obtain ⟨t117, A450, H⟩ := H
             replace H : ((impl_ReadList.f kj31 t117).bind fun bt118 => ((impl_Decimal.f t102).bind fun t122 => ((impl_ReadDecimal.f t122).bind fun bt123 => (if bt118.2 = true then ((laws_r8Same.f kj31 bt118.1 y114).bind fun t125 => (if t125 = true then (if bt123.2 = true then (some (bt123.1 == t102)) else (some false)) else (some false))) else (some false))))) = some true := H
             have A45 := Z3.k A450
             clear A450
             replace H := Option.bind_eq_some_iff.mp H
             obtain ⟨⟨t118, t119⟩, A460, H⟩ := H
             replace H : ((impl_Decimal.f t102).bind fun t122 => ((impl_ReadDecimal.f t122).bind fun bt123 => (if t119 = true then ((laws_r8Same.f kj31 t118 y114).bind fun t125 => (if t125 = true then (if bt123.2 = true then (some (bt123.1 == t102)) else (some false)) else (some false))) else (some false)))) = some true := H
             have A46 := Z3.k A460
             clear A460
             replace H := Option.bind_eq_some_iff.mp H
             obtain ⟨t122, A470, H⟩ := H
             replace H : ((impl_ReadDecimal.f t122).bind fun bt123 => (if t119 = true then ((laws_r8Same.f kj31 t118 y114).bind fun t125 => (if t125 = true then (if bt123.2 = true then (some (bt123.1 == t102)) else (some false)) else (some false))) else (some false))) = some true := H
             have A47 := Z3.k A470
             clear A470
             replace H := Option.bind_eq_some_iff.mp H
             obtain ⟨⟨t123, t124⟩, A480, H⟩ := H
             replace H : (if t119 = true then ((laws_r8Same.f kj31 t118 y114).bind fun t125 => (if t125 = true then (if t124 = true then (some (t123 == t102)) else (some false)) else (some false))) else (some false)) = some true := H
             have A48 := Z3.k A480
             clear A480
             by_cases c49 : t119 = true
             ·subst c49
              have H1 : ((laws_r8Same.f kj31 t118 y114).bind fun t125 => (if t125 = true then (if t124 = true then (some (t123 == t102)) else (some false)) else (some false))) = some true := by rw [if_pos rfl] at H; exact H
              clear H
              have H := H1
              clear H1
              replace H := Option.bind_eq_some_iff.mp H
              obtain ⟨t125, A500, H⟩ := H
              replace H : (if t125 = true then (if t124 = true then (some (t123 == t102)) else (some false)) else (some false)) = some true := H
              have A50 := Z3.k A500
              clear A500
              by_cases c51 : t125 = true
              ·subst c51
               have H1 : (if t124 = true then (some (t123 == t102)) else (some false)) = some true := by rw [if_pos rfl] at H; exact H
               clear H
               have H := H1
               clear H1
               by_cases c52 : t124 = true
               ·subst c52
                have H1 : (some (t123 == t102)) = some true := by rw [if_pos rfl] at H; exact H
                clear H
                have H := H1
                clear H1
                first | exact absurd H (by decide) | obtain rfl := Option.some.inj H | have hd_ := Option.some.inj H
                all_goals
                 go_wp2_with (first | ((with_reducible refine gate_dst (N := 126) rfl ?_); (try (refine gate_guard (by rfl) ?_; dsimp only)); refine Kd.R_lit (Kd.int .i64) _ 2 ?hg (N := 126) ?hd (xs := ([t102, t103, t108, (wrap64 (t109 - 2500)), (wrap64 (t110 - 2500))] : List Int)) (inner := [.int .i64 t102, .int .i64 t103, .int .i64 t108, .int .i64 (wrap64 (t109 - 2500)), .int .i64 (wrap64 (t110 - 2500))]) (ok := fun _ => True) (okp := fun _ => True) ?hr ?hp (fun _ hk => hk) trivial (Below.refl _ _) (Nat.le_refl _) (by simp) ?_; (case hd => rfl); (case hg => rfl); (case hr => first | (go_simp; done) | (go_simp; rfl)); (case hp => exact (Reps.one (show Kd.M (Kd.int .i64) _ _ _ t102 [.int .i64 t102] from rfl) (Reps.one (show Kd.M (Kd.int .i64) _ _ _ t103 [.int .i64 t103] from rfl) (Reps.one (show Kd.M (Kd.int .i64) _ _ _ t108 [.int .i64 t108] from rfl) (Reps.one (show Kd.M (Kd.int .i64) _ _ _ (wrap64 (t109 - 2500)) [.int .i64 (wrap64 (t109 - 2500))] from rfl) (Reps.one (show Kd.M (Kd.int .i64) _ _ _ (wrap64 (t110 - 2500)) [.int .i64 (wrap64 (t110 - 2500))] from rfl) (Reps.none _ _))))))); intro v115 w53 ho54 hb hg_ hnew_; clear hg_ hnew_; (first | rw [← Ny114.out] at ho54 | (simp only [Int.reduceToNat] at ho54; rw [← Ny114.out] at ho54)); have n0_ := Z3.k (Kd.R_lower ho54 (below_size Z3.z0)); have n1_ := Z3.k (below_step Z3.z0 hb); clear HB; have HO116 := n0_; have HB := n1_; clear n0_ n1_; clear hb ho54; obtain ⟨Ao55, co55, eo55⟩ := Kd.R_slice HO116.out; subst eo55) | ((with_reducible refine gate_callee (f := 13) rfl ?_); refine goesL_ (some 129) rfl rfl Tryd.func13 (by kernel_rfl) rfl #[.slice Ao55 y114.length co55] rfl Z3.z1 ?_; (with_reducible refine (impl_ListText.calls kj31 _ _ y114 t117 _ ?side1 ?side2 ?side3 A45.out).mono ?_); (case side1 => exact Z3.z6); (case side2 => exact (Kd.R_reads' HO116.out).2.1); (case side3 => exact (by exact LaidP.below hlP_ Z3.z0)); rintro e w56 ⟨rfl, hb⟩; refine ⟨_, rfl, ?_⟩; have n0_ := Z3.k (Kd.R_below Z3.z2 hb); have n1_ := Z3.k (below_step Z3.z0 hb); clear HO116 HB; have HO116 := n0_; have HB := n1_; clear n0_ n1_; (try clear hb); (try clear hb2); (try clear hk); (try clear hi)) | ((with_reducible refine gate_callee (f := 12) rfl ?_); refine goesL_ (some 130) rfl rfl Tryd.func12 (by kernel_rfl) rfl #[.string t117] rfl Z3.z1 ?_; (with_reducible refine (impl_ReadList.calls kj31 t117 t118 true _ ?side1 ?side2 ?side3 A46.out).mono ?_); (case side1 => exact (by exact LaidP.below hlP_ Z3.z0)); (case side2 => exact (by exact LaidE.below hlE_ Z3.z0)); (case side3 => exact (by exact LaidM.below hlM_ Z3.z0)); rintro e w57 ⟨v120, rfl, ho0, hb⟩; refine ⟨_, rfl, ?_⟩; have n0_ := Z3.k (Kd.R_elder' Z3.z2 (Kd.R_base ho0) hb); have n1_ := Z3.k (Kd.R_lower (Kd.R_new' ho0 (Kd.R_lt Z3.z2)) (below_size Z3.z0)); have n2_ := Z3.k (below_step Z3.z0 hb); clear HO116 HB; have HO116 := n0_; have HO121 := n1_; have HB := n2_; clear n0_ n1_ n2_; (try clear hb); (try clear hb2); (try clear hk); (try clear hi); (try clear ho0)) | ((with_reducible refine gate_callee (f := 15) rfl ?_); refine goesL_ (some 135) rfl rfl Tryd.func15 (by kernel_rfl) rfl #[.int .i64 t102] rfl Z3.z1 ?_; (with_reducible refine (impl_Decimal.calls t102 t122 _ ?side1 A47.out).mono ?_); (case side1 => exact (by exact LaidP.below hlP_ Z3.z0)); rintro e w58 ⟨rfl, hb⟩; refine ⟨_, rfl, ?_⟩; have n0_ := Z3.k (Kd.R_below Z3.z2 hb); have n1_ := Z3.k (Kd.R_below (by (with_reducible repeat (first | apply Kd.R_alloc | apply Kd.R_drewN | apply Kd.R_drew)); exact HO121.out) hb); have n2_ := Z3.k (below_step Z3.z0 hb); clear HO116 HO121 HB; have HO116 := n0_; have HO121 := n1_; have HB := n2_; clear n0_ n1_ n2_; (try clear hb); (try clear hb2); (try clear hk); (try clear hi)) | ((with_reducible refine gate_callee (f := 14) rfl ?_); refine goesL_ (some 136) rfl rfl Tryd.func14 (by kernel_rfl) rfl #[.string t122] rfl Z3.z1 ?_; (with_reducible refine (impl_ReadDecimal.calls t122 t123 true _ ?side1 ?side2 A48.out).mono ?_); (case side1 => exact (by exact LaidP.below hlP_ Z3.z0)); (case side2 => exact (by exact LaidE.below hlE_ Z3.z0)); rintro e w59 ⟨rfl, hb⟩; refine ⟨_, rfl, ?_⟩; have n0_ := Z3.k (Kd.R_below Z3.z2 hb); have n1_ := Z3.k (Kd.R_below (by (with_reducible repeat (first | apply Kd.R_alloc | apply Kd.R_drewN | apply Kd.R_drew)); exact HO121.out) hb); have n2_ := Z3.k (below_step Z3.z0 hb); clear HO116 HO121 HB; have HO116 := n0_; have HO121 := n1_; have HB := n2_; clear n0_ n1_ n2_; (try clear hb); (try clear hb2); (try clear hk); (try clear hi); obtain ⟨Ao60, co60, eo60⟩ := Kd.R_slice HO121.out; subst eo60) | (go_at_call 16; (with_reducible refine (laws_r8Same.calls kj31 _ _ t118 _ _ y114 true _ ?side1 ?side2 ?side3 ?side4 A50.out).mono ?_); (case side1 => exact (by repeat (first | exact (Kd.R_reads' HO121.out).2.2 | (with_reducible refine Kd.C_alloc ?_ _) | (with_reducible refine Kd.C_drewN ?_ _) | (with_reducible refine Kd.C_drew ?_)))); (case side2 => exact (Kd.R_reads' HO121.out).2.1); (case side3 => exact Z3.z6); (case side4 => exact (Kd.R_reads' HO116.out).2.1); rintro e w' ⟨rfl, ⟨nd, rfl⟩⟩))
                 go_ret
                 exact ⟨Z3.z4, Z3.z0⟩
               replace c52 := Bool.eq_false_iff.mpr c52
               subst c52
               have H1 : (some false) = some true := by rw [if_neg (show ¬ (false = true) by decide)] at H; exact H
               exact absurd H1 (by simp)
              replace c51 := Bool.eq_false_iff.mpr c51
              subst c51
              have H1 : (some false) = some true := by rw [if_neg (show ¬ (false = true) by decide)] at H; exact H
              exact absurd H1 (by simp)
             replace c49 := Bool.eq_false_iff.mpr c49
             subst c49
             have H1 : (some false) = some true := by rw [if_neg (show ¬ (false = true) by decide)] at H; exact H
             exact absurd H1 (by simp)
   /-- THE ONE PURE STATEMENT of laws_FnBasics: yours. -/
def laws_FnBasics.Pure : Prop := ∀ (l0 : List Int) (l1 : List Int), l0.length ≤ maxLen → l0.length * 1 ≤ 140737488351232 → (∀ x ∈ l0, (Lit.int .u8 x).wf = true) → l1.length ≤ maxLen → l1.length * 1 ≤ 140737488351232 → (∀ x ∈ l1, (Lit.int .u8 x).wf = true) → ∃ k, laws_FnBasics.f k l0 l1 = some true
theorem laws_FnBasics.walk (P : laws_FnBasics.Pure) (a0 : Option Addr) (len0 cap0 : Nat) (z0 : List Int) (a1 : Option Addr) (len1 cap1 : Nat) (z1 : List Int) (w : World) (w0 : (a0 = none ∧ len0 = 0 ∧ cap0 = 0 ∧ z0 = []) ∨ ∃ x, a0 = some x ∧ len0 ≤ cap0 ∧ cap0 ≤ maxLen ∧ z0.length = cap0 ∧ (∀ i, i < z0.length → w.cell? (x.add i) = some (.int .u8 (z0.getD i 0))) ∧ ∀ n ∈ z0, (Lit.int .u8 n).wf = true) (y0 : len0 * 1 ≤ 140737488351232) (w1 : (a1 = none ∧ len1 = 0 ∧ cap1 = 0 ∧ z1 = []) ∨ ∃ x, a1 = some x ∧ len1 ≤ cap1 ∧ cap1 ≤ maxLen ∧ z1.length = cap1 ∧ (∀ i, i < z1.length → w.cell? (x.add i) = some (.int .u8 (z1.getD i 0))) ∧ ∀ n ∈ z1, (Lit.int .u8 n).wf = true) (y1 : len1 * 1 ≤ 140737488351232) (hlP_ : LaidP w) (hlE_ : LaidE w) (hlM_ : LaidM w) :
    Calls Tryd.prog 3 #[.slice a0 len0 cap0, .slice a1 len1 cap1] w fun e w' => e = .returned (.bool true) ∧ Below w.heap.size w w' := by
  obtain ⟨l0, rfl, hr0, hm0, hw0, hc0⟩ := ReadsInt.ofRowC w0
  obtain ⟨l1, rfl, hr1, hm1, hw1, hc1⟩ := ReadsInt.ofRowC w1
  obtain ⟨k, h⟩ := P l0 l1 hm0 y0 hw0 hm1 y1 hw1
  refine (laws_FnBasics.calls k _ _ l0 _ _ l1 true w (Kd.C_of_reads (d := (0 : Int)) (h1 := fun _ => rfl) hr0) hc0 (Kd.C_of_reads (d := (0 : Int)) (h1 := fun _ => rfl) hr1) hc1 hlP_ hlE_ hlM_ h).mono ?_
  rintro e w' ⟨rfl, hd⟩
  exact ⟨rfl, hd⟩

end Go.Proofs.YtkndhjchlnepmaaDoor.F
end
