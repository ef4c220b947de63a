-- Texts of this claim, merged by packw.py (a program of this session's).
import Derived.Test.YtbalikebmacldaaGreatDoorQFnMatrices3
import Derived.Test.YtbalikebmacldaaGreatDoorQFnMatrices2
import Derived.Test.YtbalikebmacldaaGreatDoorQFnMatrices4

section
namespace Go.Proofs.YtbalikebmacldaaGreatDoor.F
open Go.RowKit Go.Proofs.YtbalikebmacldaaGreatDoorW.PrintWords Go.Proofs.YtbalikebmacldaaGreatDoorW.PrintLast Go.Proofs.YtbalikebmacldaaGreatDoorW.PrintMore
attribute [local go_sem] max2_int min2_int max_two min_two max_three min_three max_four min_four   -- for this text's walks alone
set_option linter.unusedVariables false
set_option linter.unusedSimpArgs false
/-! ### impl_within: function 69 -/
def impl_within.f (a0 : Int) (a1 : Int) (a2 : Int) : Option (Bool) := if a0 ≥ a1 then (some (decide (a0 ≤ a2))) else (some false)
set_option maxHeartbeats 8000000 in
set_option maxRecDepth 100000 in
theorem impl_within.calls (a0 : Int) (a1 : Int) (a2 : Int) (r : Bool) (w : World) (h : impl_within.f a0 a1 a2 = some r) :
  Calls Tryz.prog 69 #[.int .i64 a0, .int .i64 a1, .int .i64 a2] w fun e w' => e = .returned (.bool r) ∧ Drawn0 w w' := by
 have H : (if a0 ≥ a1 then (some (decide (a0 ≤ a2))) else (some false)) = some r := h
 clear h
 by_cases c4 : a0 ≥ a1
 ·rw [if_pos c4] at H
  have c4b0 : decide (a1 ≤ a0) = true := decide_eq_true c4
  clear c4
  obtain rfl := Option.some.inj H
  go_enter Tryz.func69, Tryz.ntmps69
  go_wp2
  go_ret
  exact ⟨(by first | rfl | (simp; done) | (simp [*]; done)), (by repeat (first | exact Drawn0.refl _ | apply Drawn0.step))⟩
 rw [if_neg c4] at H
 have c4b0 : decide (a1 ≤ a0) = false := decide_eq_false c4
 clear c4
 obtain rfl := Option.some.inj H
 go_enter Tryz.func69, Tryz.ntmps69
 go_wp2
 go_ret
 exact ⟨(by first | rfl | (simp; done) | (simp [*]; done)), (by repeat (first | exact Drawn0.refl _ | apply Drawn0.step))⟩
/-! ### impl_ValidPrime: function 45 -/
def impl_ValidPrime.l0 : Nat → Int → Int → Option (Bool)
  | 0, _, _ => none
  | k + 1, x0, x3 => if (wrap64 (x3 * x3)) ≤ x0 then (if x3 = 0 then (none) else (if (Int.tmod x0 x3) = 0 then (some false) else (impl_ValidPrime.l0 k x0 (wrap64 (x3 + 1))))) else (some true)
def impl_ValidPrime.f (k : Nat) (a0 : Int) : Option (Bool) := (impl_within.f a0 2 251).bind fun t101 => (if t101 = true then (impl_ValidPrime.l0 k a0 2) else (some false))
theorem impl_ValidPrime.mono_l : ∀ k, (∀ y0 y1, LeO (impl_ValidPrime.l0 k y0 y1) (impl_ValidPrime.l0 (k + 1) y0 y1))
  | 0 => fun _ _ r h => by simp [impl_ValidPrime.l0] at h
  | k + 1 => by
    have ih0 := impl_ValidPrime.mono_l k
    · intro y0 y1
      unfold impl_ValidPrime.l0
      repeat' first
      | (with_reducible exact ih0 _ _)
      | (with_reducible exact LeO.refl _)
      | (with_reducible exact LeO.none _)
      | (with_reducible refine LeO.ite ?_ ?_)
      | (with_reducible refine LeO.bind ?_ (fun _ => ?_))
      | exact ih0 _ _
      | exact LeO.none _
      | refine LeO.ite ?_ ?_
      | refine LeO.bind ?_ (fun _ => ?_)
theorem impl_ValidPrime.mono : ∀ a0 k, LeO (impl_ValidPrime.f k a0) (impl_ValidPrime.f (k + 1) a0) := by
  intro a0 k
  have ih0 := impl_ValidPrime.mono_l k
  unfold impl_ValidPrime.f
  repeat' first
      | (with_reducible exact ih0 _ _)
      | (with_reducible exact LeO.refl _)
      | (with_reducible exact LeO.none _)
      | (with_reducible refine LeO.ite ?_ ?_)
      | (with_reducible refine LeO.bind ?_ (fun _ => ?_))
      | exact ih0 _ _
      | exact LeO.none _
      | refine LeO.ite ?_ ?_
      | refine LeO.bind ?_ (fun _ => ?_)
theorem Z45.z2 {P : Prop} (h : P := by first | rfl | (simp; done) | (simp [*]; done)) : P := h
theorem Z45.z1 {P : Prop} (h : P := by (try simp only [List.map_toArray, List.map_cons, List.map_nil]); first | done | rfl | (simp only [List.length_drop, List.length_take]; rfl)) : P := h
theorem Z45.z0 {P : Prop} (h : P := by repeat (first | exact Drawn0.refl _ | apply Drawn0.step)) : P := h
set_option maxHeartbeats 8000000 in
set_option maxRecDepth 100000 in
theorem impl_ValidPrime.calls (k : Nat) (a0 : Int) (r : Bool) (w : World) (h : impl_ValidPrime.f k a0 = some r) :
  Calls Tryz.prog 45 #[.int .i64 a0] w fun e w' => e = .returned (.bool r) ∧ Drawn0 w w' := by
 have H : ((impl_within.f a0 2 251).bind fun t101 => (if t101 = true then (impl_ValidPrime.l0 k a0 2) else (some false))) = some r := h
 clear h
 replace H := Option.bind_eq_some_iff.mp H
 obtain ⟨t101, A20, H⟩ := H
 replace H : (if t101 = true then (impl_ValidPrime.l0 k a0 2) else (some false)) = some r := H
 have A2 := Aside0.mk A20
 clear A20
 by_cases c3 : t101 = true
 ·subst c3
  rw [if_pos rfl] at H
  have H' := Aside0.mk H
  clear H
  go_enter Tryz.func45, Tryz.ntmps45
  go_wp2_with (first | ((with_reducible refine gate_callee (f := 69) rfl ?_); refine goesL_ (some 5) rfl rfl Tryz.func69 (by kernel_rfl) rfl #[.int .i64 a0, .int .i64 2, .int .i64 251] rfl Z45.z1 ?_; (with_reducible refine (impl_within.calls a0 2 251 true _ A2.out).mono ?_); rintro e w' ⟨rfl, ⟨nd, rfl⟩⟩; refine ⟨_, rfl, ?_⟩))
  go_loopg [3] k (fun kq v3 w' => ∃ (x3_1 : Int), v3 = .int .i64 x3_1 ∧ Aside0 (impl_ValidPrime.l0 kq a0 x3_1 = some r) ∧ Aside0 (kq ≤ k) ∧ Drawn0 w w')
  case atStart => exact ⟨(2), Z45.z2, H', ⟨Nat.le_refl _⟩, Z45.z0⟩
  case round =>
   clear H'
   try clear p2
   try clear c3
   obtain ⟨x3_1, rfl, HA, HK1, ⟨m1, rfl⟩⟩ := hrel
   cases gk with
   | zero => exact absurd HA.out (by simp [impl_ValidPrime.l0])
   | succ k1 =>
    have H := HA.out
    clear HA
    simp only [impl_ValidPrime.l0] at H
    by_cases c4 : (wrap64 (x3_1 * x3_1)) ≤ a0
    ·rw [if_pos c4] at H
     have c4b0 := decide_eq_true c4
     clear c4
     by_cases c5 : x3_1 = 0
     ·rw [if_pos c5] at H
      exact absurd H (by simp)
     rw [if_neg c5] at H
     obtain ⟨c5b0, c5b1⟩ := tgn c5
     by_cases c6 : (Int.tmod a0 x3_1) = 0
     ·rw [if_pos c6] at H
      obtain ⟨c6b0, c6b1⟩ := tge c6; clear c6; obtain rfl := Option.some.inj H
      go_wp2
      go_ret
      exact ⟨Z45.z2, Z45.z0⟩
     rw [if_neg c6] at H
     obtain ⟨c6b0, c6b1⟩ := tgn c6
     have H' := Aside0.mk H
     clear H
     go_wp2
     go_roundg k1
     case measure => have := HK1.out; omega
     case rel => exact ⟨(wrap64 (x3_1 + 1)), Z45.z2, H', ⟨(by have := HK1.out; omega)⟩, Z45.z0⟩
    rw [if_neg c4] at H
    have c4b0 := decide_eq_false c4
    clear c4
    obtain rfl := Option.some.inj H
    go_wp2
    go_ret
    exact ⟨Z45.z2, Z45.z0⟩
 replace c3 := Bool.eq_false_iff.mpr c3
 subst c3
 rw [if_neg (show ¬ (false = true) by decide)] at H
 obtain rfl := Option.some.inj H
 go_enter Tryz.func45, Tryz.ntmps45
 go_wp2_with (first | ((with_reducible refine gate_callee (f := 69) rfl ?_); refine goesL_ (some 5) rfl rfl Tryz.func69 (by kernel_rfl) rfl #[.int .i64 a0, .int .i64 2, .int .i64 251] rfl Z45.z1 ?_; (with_reducible refine (impl_within.calls a0 2 251 false _ A2.out).mono ?_); rintro e w' ⟨rfl, ⟨nd, rfl⟩⟩; refine ⟨_, rfl, ?_⟩))
 go_ret
 exact ⟨Z45.z2, Z45.z0⟩
/-! ### impl_isSide: function 46 -/
def impl_isSide.f (a0 : Int) : Option (Bool) := (impl_within.f a0 0 32).bind fun t101 => (some t101)
set_option maxHeartbeats 8000000 in
set_option maxRecDepth 100000 in
theorem impl_isSide.calls (a0 : Int) (r : Bool) (w : World) (h : impl_isSide.f a0 = some r) :
  Calls Tryz.prog 46 #[.int .i64 a0] w fun e w' => e = .returned (.bool r) ∧ Drawn0 w w' := by
 have H : ((impl_within.f a0 0 32).bind fun t101 => (some t101)) = some r := h
 clear h
 replace H := Option.bind_eq_some_iff.mp H
 obtain ⟨t101, A20, H⟩ := H
 replace H : (some t101) = some r := H
 have A2 := Aside0.mk A20
 clear A20
 obtain rfl := Option.some.inj H
 go_enter Tryz.func46, Tryz.ntmps46
 go_wp2_with (first | ((with_reducible refine gate_callee (f := 69) rfl ?_); refine goesL_ (some 4) rfl rfl Tryz.func69 (by kernel_rfl) rfl #[.int .i64 a0, .int .i64 0, .int .i64 32] rfl (by (try simp only [List.map_toArray, List.map_cons, List.map_nil]); first | done | rfl | (simp only [List.length_drop, List.length_take]; rfl)) ?_; (with_reducible refine (impl_within.calls a0 0 32 t101 _ A2.out).mono ?_); rintro e w' ⟨rfl, ⟨nd, rfl⟩⟩; refine ⟨_, rfl, ?_⟩))
 go_ret
 exact ⟨(by first | rfl | (simp; done) | (simp [*]; done)), (by repeat (first | exact Drawn0.refl _ | apply Drawn0.step))⟩
/-! ### impl_ValidMatrix: function 22 -/
def impl_ValidMatrix.f (k : Nat) (a0_0 : Int) (a0_1 : Int) (a0_2 : Int) (l0_3 : List Int) : Option (Bool) := (impl_ValidPrime.f k a0_0).bind fun t102 => (if t102 = true then ((impl_isSide.f a0_1).bind fun t103 => (if t103 = true then ((impl_isSide.f a0_2).bind fun t104 => (if t104 = true then ((impl_size_int64.f l0_3).bind fun t105 => (if t105 = (wrap64 (a0_1 * a0_2)) then ((impl_areElements.f l0_3 a0_0).bind fun t106 => (some t106)) else (some false))) else (some false))) else (some false))) else (some false))
def impl_ValidMatrix.T1 : Bool × List (List Nat × List Nat) := (true, [([], []), ([0], [0]), ([1], [1]), ([2, 2], [2]), ([3], [3]), ([4, 3], [3, 4]), ([5, 3, 3], [3, 5]), ([3, 6], [3, 6]), ([7, 6], [7]), ([8], [8]), ([9, 8], [8, 9]), ([10, 8, 8], [8, 10]), ([8, 11], [8, 11]), ([12, 11], [12]), ([13], [13]), ([14, 13], [13, 14]), ([15, 13, 13], [13, 15]), ([13], [13]), ([17, 13], [13, 17]), ([13], [13]), ([19, 13], [13, 19]), ([18, 20, 13], [13, 18, 20]), ([16, 21, 13], [13, 16, 21]), ([13, 22], [13, 22]), ([23, 16], [23]), ([24], [24]), ([25, 24], [24, 25]), ([24], [24]), ([27, 24], [24, 27]), ([26, 28, 24, 24], [24, 26, 28]), ([24, 29], [24, 29]), ([30, 29, 0, 1, 2, 3, 4, 5, 6, 7, 8, 9, 10, 11, 12, 13, 14, 15, 16, 17, 18, 19, 20, 21, 22, 23, 24, 25, 26, 27, 28, 29, 30], [30])])
def impl_ValidMatrix.B1 : List Nat := [0, 1, 3, 7, 15, 31, 63, 127, 255, 511, 1023, 2047, 4095, 8191, 16383, 32767, 65535, 16383, 147455, 16383, 540671, 1982463, 4194303, 8388607, 16777215, 33554431, 67108863, 33554431, 167772159, 536870911, 1073741823, 2147483647]
theorem impl_ValidMatrix.tab1 : rtab .any (opsOf Tryz.f22 1) = impl_ValidMatrix.T1 := by kernel_rfl
theorem impl_ValidMatrix.bits1 : waitsOk impl_ValidMatrix.T1.2 impl_ValidMatrix.B1 = true := by kernel_rfl
theorem Z22.z7 {P : Prop} (h : P := by rw [hg]; exact (below_size Z22.z3)) : P := h
theorem Z22.z6 {P : Prop} (h : P := by first | rfl | (simp [errW_none, errW_some] <;> rfl) | (simp [*, errW_none, errW_some] <;> rfl)) : P := h
theorem Z22.z5 {P : Prop} (h : P := by repeat (first | exact (Kd.C_below HR0_3.out Z22.z4) | (with_reducible refine Kd.C_alloc ?_ _) | (with_reducible refine Kd.C_drewN ?_ _) | (with_reducible refine Kd.C_drew ?_))) : P := h
theorem Z22.z4 {P : Prop} (h : P := by repeat (first | (with_reducible first | exact HB.out | apply below_alloc | apply pw_below_drewN | apply below_drew1 | refine below_set ?_ GE101.out) | exact HB.out)) : P := h
theorem Z22.z3 {P : Prop} (h : P := by repeat (first | (with_reducible first | exact HB.out | apply below_alloc | apply pw_below_drewN | apply below_drew1) | exact HB.out)) : P := h
theorem Z22.z2 {P : Prop} (h : P := by (try simp only [List.map_toArray, List.map_cons, List.map_nil]); first | done | rfl | (simp only [List.length_drop, List.length_take]; rfl)) : P := h
theorem Z22.z1 {P : Prop} (h : P := by exact ⟨(blk_cell BK101.out 0).trans rfl, (blk_cell BK101.out 1).trans rfl, (blk_cell BK101.out 2).trans rfl, (blk_cell BK101.out 3).trans rfl⟩) : P := h
theorem Z22.z0 {P : Prop} (h : P := by simp only [Act.put, List.setIfInBounds_toArray, List.set_cons_zero, List.set_cons_succ, i64_w, i32_w]; rfl) : P := h
set_option maxHeartbeats 8000000 in
set_option maxRecDepth 100000 in
theorem impl_ValidMatrix.calls (k : Nat) (a0_0 : Int) (a0_1 : Int) (a0_2 : Int) (A0_3 : Option Addr) (c0_3 : Nat) (l0_3 : List Int) (r : Bool) (w : World) (hr0_3 : Kd.C (Kd.int .i64) w A0_3 l0_3.length l0_3) (hc0_3 : l0_3.length ≤ c0_3) (h : impl_ValidMatrix.f k a0_0 a0_1 a0_2 l0_3 = some r) :
  Calls Tryz.prog 22 #[.agg #[.int .i64 a0_0, .int .i64 a0_1, .int .i64 a0_2, .slice A0_3 l0_3.length c0_3]] w fun e w' => e = .returned (.bool r) ∧ Below w.heap.size w w' := by
 have hu28 := Tryz.underlying28
 have HR0_3 := tgk hr0_3
 have HC0_3 := tgk hc0_3
 clear hr0_3 hc0_3
 have HB := tgk (Below.refl w.heap.size w)
 have H : ((impl_ValidPrime.f k a0_0).bind fun t102 => (if t102 = true then ((impl_isSide.f a0_1).bind fun t103 => (if t103 = true then ((impl_isSide.f a0_2).bind fun t104 => (if t104 = true then ((impl_size_int64.f l0_3).bind fun t105 => (if t105 = (wrap64 (a0_1 * a0_2)) then ((impl_areElements.f l0_3 a0_0).bind fun t106 => (some t106)) else (some false))) else (some false))) else (some false))) else (some false))) = some r := h
 clear h
 obtain ⟨t102, A2, H⟩ := tgbd H
 replace H : (if t102 = true then ((impl_isSide.f a0_1).bind fun t103 => (if t103 = true then ((impl_isSide.f a0_2).bind fun t104 => (if t104 = true then ((impl_size_int64.f l0_3).bind fun t105 => (if t105 = (wrap64 (a0_1 * a0_2)) then ((impl_areElements.f l0_3 a0_0).bind fun t106 => (some t106)) else (some false))) else (some false))) else (some false))) else (some false)) = some r := H
 by_cases c3 : t102 = true
 ·subst c3
  rw [if_pos rfl] at H
  obtain ⟨t103, A4, H⟩ := tgbd H
  (try dsimp only at H)
  by_cases c5 : t103 = true
  ·subst c5
   rw [if_pos rfl] at H
   obtain ⟨t104, A6, H⟩ := tgbd H
   (try dsimp only at H)
   by_cases c7 : t104 = true
   ·subst c7
    rw [if_pos rfl] at H
    obtain ⟨t105, A8, H⟩ := tgbd H
    (try dsimp only at H)
    by_cases c9 : t105 = (wrap64 (a0_1 * a0_2))
    ·rw [if_pos c9] at H
     obtain ⟨c9b0, c9b1⟩ := tge c9
     clear c9
     obtain ⟨t106, A10, H⟩ := tgbd H
     (try dsimp only at H)
     obtain rfl := Option.some.inj H
     go_enter Tryz.func22, Tryz.ntmps22
     try go_wp2_with (first | ((with_reducible refine gate_dst (N := 1) rfl ?_); refine box_event ?hg (N := 1) ?hd (cs := #[.int .i64 a0_0, .int .i64 a0_1, .int .i64 a0_2, .slice A0_3 l0_3.length c0_3]) (t := 28) ?hr ?_; (case hd => rfl); (case hg => rfl); (case hr => first | (go_simp; done) | (go_simp; rfl)); intro gb101 hg w11 hbox hb; have BK101 := tgk (hbox); have GW101 := tgk (show w.heap.size ≤ gb101 from Z22.z7); have GE101 := tgk (show w.heap.size ≤ gb101 from Z22.z7); replace HB := tgk (below_step Z22.z3 hb); clear hb hbox hg))
     replace BK101 := tgk (blk_drew BK101.out)
     replace HB := tgk (below_drew1 HB.out)
     refine start_ (n := 32) (S := fun w' => w'.cell? ⟨gb101, 0, none⟩ = some (.int .i64 a0_0) ∧ w'.cell? ⟨gb101, 1, none⟩ = some (.int .i64 a0_1) ∧ w'.cell? ⟨gb101, 2, none⟩ = some (.int .i64 a0_2) ∧ w'.cell? ⟨gb101, 3, none⟩ = some (.slice A0_3 l0_3.length c0_3)) (ds := []) #[false, false, false, false, false, false, false, false, false, false, false, false, false, false, false, false, false, false, false, false, false, false, false, false, false, false, false, false, false, false, false, false] (by kernel_rfl) rfl rfl Z22.z1 (fun hHeld => ?_); refine with_tabW impl_ValidMatrix.tab1 impl_ValidMatrix.bits1 (fun HT_ HW_ => ?_)
     generalize w11.drew = w12 at BK101 HB hHeld ⊢
     refine tgpP 0 3 (tgb 32 1) ?_
     refine tgT4 1 4 (tgb 32 3) hHeld ?_
     refine one_ (i := 2) (N := some 5) (tgb 32 7) rfl rfl (one_of HT_.out (by kernel_rfl)) (by decide) (fun K hK => ?_)
     refine goes_ Tryz.func45 (by kernel_rfl) rfl #[.int .i64 a0_0] (by rfl) rfl rfl Z22.z2 ?_
     with_reducible refine (impl_ValidPrime.calls k a0_0 true _ A2.out).mono ?_
     rintro e w' ⟨rfl, ⟨nd, rfl⟩⟩
     refine ⟨_, rfl, ?_⟩
     refine hK.out _ _ Z22.z1 (fun hHeld => ?_)
     clear hK K
     refine tgnm 5 ?_
     refine tgpP 3 6 (tgb 32 15) ?_
     refine tgpP 4 7 (tgb 32 31) ?_
     refine tgT4 5 8 (tgb 32 63) hHeld ?_
     refine one_ (i := 6) (N := some 9) (tgb 32 127) rfl rfl (one_of HT_.out (by kernel_rfl)) (by decide) (fun K hK => ?_)
     refine goes_ Tryz.func46 (by kernel_rfl) rfl #[.int .i64 a0_1] (by rfl) rfl rfl Z22.z2 ?_
     with_reducible refine (impl_isSide.calls a0_1 true _ A4.out).mono ?_
     rintro e w' ⟨rfl, ⟨nd, rfl⟩⟩
     refine ⟨_, rfl, ?_⟩
     refine hK.out _ _ Z22.z1 (fun hHeld => ?_)
     clear hK K
     refine tgnm 9 ?_
     refine tgpP 7 10 (tgb 32 255) ?_
     refine tgpP 8 11 (tgb 32 511) ?_
     refine tgpP 9 12 (tgb 32 1023) ?_
     refine tgT4 10 13 (tgb 32 2047) hHeld ?_
     refine one_ (i := 11) (N := some 14) (tgb 32 4095) rfl rfl (one_of HT_.out (by kernel_rfl)) (by decide) (fun K hK => ?_)
     refine goes_ Tryz.func46 (by kernel_rfl) rfl #[.int .i64 a0_2] (by rfl) rfl rfl Z22.z2 ?_
     with_reducible refine (impl_isSide.calls a0_2 true _ A6.out).mono ?_
     rintro e w' ⟨rfl, ⟨nd, rfl⟩⟩
     refine ⟨_, rfl, ?_⟩
     refine hK.out _ _ Z22.z1 (fun hHeld => ?_)
     clear hK K
     refine tgnm 14 ?_
     refine tgpP 12 15 (tgb 32 8191) ?_
     refine tgpP 13 16 (tgb 32 16383) ?_
     refine tgpP 14 17 (tgb 32 32767) ?_
     refine tgpP 17 20 (tgb 32 163839) ?_
     refine tgpP 19 22 (tgb 32 688127) ?_
     refine tgT4 15 18 (tgb 32 720895) hHeld ?_
     refine tgT4 18 21 (tgb 32 983039) hHeld ?_
     refine tgT4 20 23 (tgb 32 2031615) hHeld ?_
     refine tgpP 21 24 (tgb 32 4128767) ?_
     refine one_ (i := 16) (N := some 19) (tgb 32 4194303) rfl rfl (one_of HT_.out (by kernel_rfl)) (by decide) (fun K hK => ?_)
     refine goes_ Tryz.func34 (by kernel_rfl) rfl #[.slice A0_3 l0_3.length c0_3] (by rfl) rfl rfl Z22.z2 ?_
     with_reducible refine (impl_size_int64.calls _ _ l0_3 t105 _ ?side1 ?side2 A8.out).mono ?_
     (case side1 => exact Z22.z5)
     (case side2 => exact HC0_3.out)
     rintro e w' ⟨rfl, ⟨nd, rfl⟩⟩
     refine ⟨_, rfl, ?_⟩
     refine hK.out _ _ Z22.z1 (fun hHeld => ?_)
     clear hK K
     refine tgnm 19 ?_
     refine tgpP 22 25 (tgb 32 8388607) ?_
     refine tgpP 23 26 (tgb 32 16777215) ?_
     refine tgpP 24 27 (tgb 32 33554431) ?_
     refine tgpP 25 28 (tgb 32 67108863) ?_
     refine tgpP 27 30 (tgb 32 201326591) ?_
     refine tgT4 26 29 (tgb 32 268435455) hHeld ?_
     refine tgT4 28 31 (tgb 32 536870911) hHeld ?_
     refine one_ (i := 29) (N := some 32) (tgb 32 1073741823) rfl rfl (one_of HT_.out (by kernel_rfl)) (by decide) (fun K hK => ?_)
     refine goes_ Tryz.func35 (by kernel_rfl) rfl #[.slice A0_3 l0_3.length c0_3, .int .i64 a0_0] (by rfl) rfl rfl Z22.z2 ?_
     with_reducible refine (impl_areElements.calls _ _ l0_3 a0_0 t106 _ ?side1 ?side2 A10.out).mono ?_
     (case side1 => exact Z22.z5)
     (case side2 => exact HC0_3.out)
     rintro e w13 ⟨rfl, hb⟩
     refine ⟨_, rfl, ?_⟩
     replace BK101 := tgk (tgbb BK101 (tgB BK101.out) hb)
     replace HB := tgk (below_step Z22.z4 hb)
     (try clear hb)
     (try clear hb2)
     (try clear hk)
     (try clear hi)
     refine hK.out _ _ Z22.z1 (fun hHeld => ?_)
     clear hK K
     refine tgnm 32 ?_
     refine tgpP 30 33 (tgb 32 2147483647) ?_
     refine tgpP 31 2 (tgb 32 4294967295) ?_
     refine done_ (done_of HT_.out (by kernel_rfl)) ?_
     try go_wp2
     go_ret
     exact ⟨Z22.z6, Z22.z4⟩
    rw [if_neg c9] at H
    obtain ⟨c9b0, c9b1⟩ := tgn c9
    obtain rfl := Option.some.inj H
    go_enter Tryz.func22, Tryz.ntmps22
    try go_wp2_with (first | ((with_reducible refine gate_dst (N := 1) rfl ?_); refine box_event ?hg (N := 1) ?hd (cs := #[.int .i64 a0_0, .int .i64 a0_1, .int .i64 a0_2, .slice A0_3 l0_3.length c0_3]) (t := 28) ?hr ?_; (case hd => rfl); (case hg => rfl); (case hr => first | (go_simp; done) | (go_simp; rfl)); intro gb101 hg w14 hbox hb; have BK101 := tgk (hbox); have GW101 := tgk (show w.heap.size ≤ gb101 from Z22.z7); have GE101 := tgk (show w.heap.size ≤ gb101 from Z22.z7); replace HB := tgk (below_step Z22.z3 hb); clear hb hbox hg))
    replace BK101 := tgk (blk_drew BK101.out)
    replace HB := tgk (below_drew1 HB.out)
    refine start_ (n := 32) (S := fun w' => w'.cell? ⟨gb101, 0, none⟩ = some (.int .i64 a0_0) ∧ w'.cell? ⟨gb101, 1, none⟩ = some (.int .i64 a0_1) ∧ w'.cell? ⟨gb101, 2, none⟩ = some (.int .i64 a0_2) ∧ w'.cell? ⟨gb101, 3, none⟩ = some (.slice A0_3 l0_3.length c0_3)) (ds := []) #[false, false, false, false, false, false, false, false, false, false, false, false, false, false, false, false, false, false, false, false, false, false, false, false, false, false, false, false, false, false, false, false] (by kernel_rfl) rfl rfl Z22.z1 (fun hHeld => ?_); refine with_tabW impl_ValidMatrix.tab1 impl_ValidMatrix.bits1 (fun HT_ HW_ => ?_)
    generalize w14.drew = w15 at BK101 HB hHeld ⊢
    refine tgpP 0 3 (tgb 32 1) ?_
    refine tgT4 1 4 (tgb 32 3) hHeld ?_
    refine one_ (i := 2) (N := some 5) (tgb 32 7) rfl rfl (one_of HT_.out (by kernel_rfl)) (by decide) (fun K hK => ?_)
    refine goes_ Tryz.func45 (by kernel_rfl) rfl #[.int .i64 a0_0] (by rfl) rfl rfl Z22.z2 ?_
    with_reducible refine (impl_ValidPrime.calls k a0_0 true _ A2.out).mono ?_
    rintro e w' ⟨rfl, ⟨nd, rfl⟩⟩
    refine ⟨_, rfl, ?_⟩
    refine hK.out _ _ Z22.z1 (fun hHeld => ?_)
    clear hK K
    refine tgnm 5 ?_
    refine tgpP 3 6 (tgb 32 15) ?_
    refine tgpP 4 7 (tgb 32 31) ?_
    refine tgT4 5 8 (tgb 32 63) hHeld ?_
    refine one_ (i := 6) (N := some 9) (tgb 32 127) rfl rfl (one_of HT_.out (by kernel_rfl)) (by decide) (fun K hK => ?_)
    refine goes_ Tryz.func46 (by kernel_rfl) rfl #[.int .i64 a0_1] (by rfl) rfl rfl Z22.z2 ?_
    with_reducible refine (impl_isSide.calls a0_1 true _ A4.out).mono ?_
    rintro e w' ⟨rfl, ⟨nd, rfl⟩⟩
    refine ⟨_, rfl, ?_⟩
    refine hK.out _ _ Z22.z1 (fun hHeld => ?_)
    clear hK K
    refine tgnm 9 ?_
    refine tgpP 7 10 (tgb 32 255) ?_
    refine tgpP 8 11 (tgb 32 511) ?_
    refine tgpP 9 12 (tgb 32 1023) ?_
    refine tgT4 10 13 (tgb 32 2047) hHeld ?_
    refine one_ (i := 11) (N := some 14) (tgb 32 4095) rfl rfl (one_of HT_.out (by kernel_rfl)) (by decide) (fun K hK => ?_)
    refine goes_ Tryz.func46 (by kernel_rfl) rfl #[.int .i64 a0_2] (by rfl) rfl rfl Z22.z2 ?_
    with_reducible refine (impl_isSide.calls a0_2 true _ A6.out).mono ?_
    rintro e w' ⟨rfl, ⟨nd, rfl⟩⟩
    refine ⟨_, rfl, ?_⟩
    refine hK.out _ _ Z22.z1 (fun hHeld => ?_)
    clear hK K
    refine tgnm 14 ?_
    refine tgpP 12 15 (tgb 32 8191) ?_
    refine tgpP 13 16 (tgb 32 16383) ?_
    refine tgpP 14 17 (tgb 32 32767) ?_
    refine tgpP 17 20 (tgb 32 163839) ?_
    refine tgpP 19 22 (tgb 32 688127) ?_
    refine tgT4 15 18 (tgb 32 720895) hHeld ?_
    refine tgT4 18 21 (tgb 32 983039) hHeld ?_
    refine tgT4 20 23 (tgb 32 2031615) hHeld ?_
    refine tgpP 21 24 (tgb 32 4128767) ?_
    refine one_ (i := 16) (N := some 19) (tgb 32 4194303) rfl rfl (one_of HT_.out (by kernel_rfl)) (by decide) (fun K hK => ?_)
    refine goes_ Tryz.func34 (by kernel_rfl) rfl #[.slice A0_3 l0_3.length c0_3] (by rfl) rfl rfl Z22.z2 ?_
    with_reducible refine (impl_size_int64.calls _ _ l0_3 t105 _ ?side1 ?side2 A8.out).mono ?_
    (case side1 => exact Z22.z5)
    (case side2 => exact HC0_3.out)
    rintro e w' ⟨rfl, ⟨nd, rfl⟩⟩
    refine ⟨_, rfl, ?_⟩
    refine hK.out _ _ Z22.z1 (fun hHeld => ?_)
    clear hK K
    refine tgnm 19 ?_
    refine tgpP 22 25 (tgb 32 8388607) ?_
    refine tgpP 23 26 (tgb 32 16777215) ?_
    refine tgpP 24 27 (tgb 32 33554431) ?_
    refine tgu 25 28 (tgb 32 67108863) ?_
    refine tgu 26 29 (tgb 32 134217727) ?_
    refine tgu 27 30 (tgb 32 268435455) ?_
    refine tgu 28 31 (tgb 32 536870911) ?_
    refine tgu 29 32 (tgb 32 1073741823) ?_
    refine tgpP 30 33 (tgb 32 2147483647) ?_
    refine tgpP 31 2 (tgb 32 4294967295) ?_
    refine done_ (done_of HT_.out (by kernel_rfl)) ?_
    try go_wp2
    go_ret
    exact ⟨Z22.z6, Z22.z4⟩
   replace c7 := Bool.eq_false_iff.mpr c7
   subst c7
   rw [if_neg (show ¬ (false = true) by decide)] at H
   obtain rfl := Option.some.inj H
   go_enter Tryz.func22, Tryz.ntmps22
   try go_wp2_with (first | ((with_reducible refine gate_dst (N := 1) rfl ?_); refine box_event ?hg (N := 1) ?hd (cs := #[.int .i64 a0_0, .int .i64 a0_1, .int .i64 a0_2, .slice A0_3 l0_3.length c0_3]) (t := 28) ?hr ?_; (case hd => rfl); (case hg => rfl); (case hr => first | (go_simp; done) | (go_simp; rfl)); intro gb101 hg w16 hbox hb; have BK101 := tgk (hbox); have GW101 := tgk (show w.heap.size ≤ gb101 from Z22.z7); have GE101 := tgk (show w.heap.size ≤ gb101 from Z22.z7); replace HB := tgk (below_step Z22.z3 hb); clear hb hbox hg))
   replace BK101 := tgk (blk_drew BK101.out)
   replace HB := tgk (below_drew1 HB.out)
   refine start_ (n := 32) (S := fun w' => w'.cell? ⟨gb101, 0, none⟩ = some (.int .i64 a0_0) ∧ w'.cell? ⟨gb101, 1, none⟩ = some (.int .i64 a0_1) ∧ w'.cell? ⟨gb101, 2, none⟩ = some (.int .i64 a0_2) ∧ w'.cell? ⟨gb101, 3, none⟩ = some (.slice A0_3 l0_3.length c0_3)) (ds := []) #[false, false, false, false, false, false, false, false, false, false, false, false, false, false, false, false, false, false, false, false, false, false, false, false, false, false, false, false, false, false, false, false] (by kernel_rfl) rfl rfl Z22.z1 (fun hHeld => ?_); refine with_tabW impl_ValidMatrix.tab1 impl_ValidMatrix.bits1 (fun HT_ HW_ => ?_)
   generalize w16.drew = w17 at BK101 HB hHeld ⊢
   refine tgpP 0 3 (tgb 32 1) ?_
   refine tgT4 1 4 (tgb 32 3) hHeld ?_
   refine one_ (i := 2) (N := some 5) (tgb 32 7) rfl rfl (one_of HT_.out (by kernel_rfl)) (by decide) (fun K hK => ?_)
   refine goes_ Tryz.func45 (by kernel_rfl) rfl #[.int .i64 a0_0] (by rfl) rfl rfl Z22.z2 ?_
   with_reducible refine (impl_ValidPrime.calls k a0_0 true _ A2.out).mono ?_
   rintro e w' ⟨rfl, ⟨nd, rfl⟩⟩
   refine ⟨_, rfl, ?_⟩
   refine hK.out _ _ Z22.z1 (fun hHeld => ?_)
   clear hK K
   refine tgnm 5 ?_
   refine tgpP 3 6 (tgb 32 15) ?_
   refine tgpP 4 7 (tgb 32 31) ?_
   refine tgT4 5 8 (tgb 32 63) hHeld ?_
   refine one_ (i := 6) (N := some 9) (tgb 32 127) rfl rfl (one_of HT_.out (by kernel_rfl)) (by decide) (fun K hK => ?_)
   refine goes_ Tryz.func46 (by kernel_rfl) rfl #[.int .i64 a0_1] (by rfl) rfl rfl Z22.z2 ?_
   with_reducible refine (impl_isSide.calls a0_1 true _ A4.out).mono ?_
   rintro e w' ⟨rfl, ⟨nd, rfl⟩⟩
   refine ⟨_, rfl, ?_⟩
   refine hK.out _ _ Z22.z1 (fun hHeld => ?_)
   clear hK K
   refine tgnm 9 ?_
   refine tgpP 7 10 (tgb 32 255) ?_
   refine tgpP 8 11 (tgb 32 511) ?_
   refine tgpP 9 12 (tgb 32 1023) ?_
   refine tgT4 10 13 (tgb 32 2047) hHeld ?_
   refine one_ (i := 11) (N := some 14) (tgb 32 4095) rfl rfl (one_of HT_.out (by kernel_rfl)) (by decide) (fun K hK => ?_)
   refine goes_ Tryz.func46 (by kernel_rfl) rfl #[.int .i64 a0_2] (by rfl) rfl rfl Z22.z2 ?_
   with_reducible refine (impl_isSide.calls a0_2 false _ A6.out).mono ?_
   rintro e w' ⟨rfl, ⟨nd, rfl⟩⟩
   refine ⟨_, rfl, ?_⟩
   refine hK.out _ _ Z22.z1 (fun hHeld => ?_)
   clear hK K
   refine tgnm 14 ?_
   refine tgpP 12 15 (tgb 32 8191) ?_
   refine tgpP 13 16 (tgb 32 16383) ?_
   refine tgu 14 17 (tgb 32 32767) ?_
   refine tgu 15 18 (tgb 32 65535) ?_
   refine tgu 16 19 (tgb 32 131071) ?_
   refine tgu 17 20 (tgb 32 262143) ?_
   refine tgu 18 21 (tgb 32 524287) ?_
   refine tgu 19 22 (tgb 32 1048575) ?_
   refine tgu 20 23 (tgb 32 2097151) ?_
   refine tgu 21 24 (tgb 32 4194303) ?_
   refine tgu 22 25 (tgb 32 8388607) ?_
   refine tgpP 23 26 (tgb 32 16777215) ?_
   refine tgpP 24 27 (tgb 32 33554431) ?_
   refine tgu 25 28 (tgb 32 67108863) ?_
   refine tgu 26 29 (tgb 32 134217727) ?_
   refine tgu 27 30 (tgb 32 268435455) ?_
   refine tgu 28 31 (tgb 32 536870911) ?_
   refine tgu 29 32 (tgb 32 1073741823) ?_
   refine tgpP 30 33 (tgb 32 2147483647) ?_
   refine tgpP 31 2 (tgb 32 4294967295) ?_
   refine done_ (done_of HT_.out (by kernel_rfl)) ?_
   try go_wp2
   go_ret
   exact ⟨Z22.z6, Z22.z4⟩
  replace c5 := Bool.eq_false_iff.mpr c5
  subst c5
  rw [if_neg (show ¬ (false = true) by decide)] at H
  obtain rfl := Option.some.inj H
  go_enter Tryz.func22, Tryz.ntmps22
  try go_wp2_with (first | ((with_reducible refine gate_dst (N := 1) rfl ?_); refine box_event ?hg (N := 1) ?hd (cs := #[.int .i64 a0_0, .int .i64 a0_1, .int .i64 a0_2, .slice A0_3 l0_3.length c0_3]) (t := 28) ?hr ?_; (case hd => rfl); (case hg => rfl); (case hr => first | (go_simp; done) | (go_simp; rfl)); intro gb101 hg w18 hbox hb; have BK101 := tgk (hbox); have GW101 := tgk (show w.heap.size ≤ gb101 from Z22.z7); have GE101 := tgk (show w.heap.size ≤ gb101 from Z22.z7); replace HB := tgk (below_step Z22.z3 hb); clear hb hbox hg))
  replace BK101 := tgk (blk_drew BK101.out)
  replace HB := tgk (below_drew1 HB.out)
  refine start_ (n := 32) (S := fun w' => w'.cell? ⟨gb101, 0, none⟩ = some (.int .i64 a0_0) ∧ w'.cell? ⟨gb101, 1, none⟩ = some (.int .i64 a0_1) ∧ w'.cell? ⟨gb101, 2, none⟩ = some (.int .i64 a0_2) ∧ w'.cell? ⟨gb101, 3, none⟩ = some (.slice A0_3 l0_3.length c0_3)) (ds := []) #[false, false, false, false, false, false, false, false, false, false, false, false, false, false, false, false, false, false, false, false, false, false, false, false, false, false, false, false, false, false, false, false] (by kernel_rfl) rfl rfl Z22.z1 (fun hHeld => ?_); refine with_tabW impl_ValidMatrix.tab1 impl_ValidMatrix.bits1 (fun HT_ HW_ => ?_)
  generalize w18.drew = w19 at BK101 HB hHeld ⊢
  refine tgpP 0 3 (tgb 32 1) ?_
  refine tgT4 1 4 (tgb 32 3) hHeld ?_
  refine one_ (i := 2) (N := some 5) (tgb 32 7) rfl rfl (one_of HT_.out (by kernel_rfl)) (by decide) (fun K hK => ?_)
  refine goes_ Tryz.func45 (by kernel_rfl) rfl #[.int .i64 a0_0] (by rfl) rfl rfl Z22.z2 ?_
  with_reducible refine (impl_ValidPrime.calls k a0_0 true _ A2.out).mono ?_
  rintro e w' ⟨rfl, ⟨nd, rfl⟩⟩
  refine ⟨_, rfl, ?_⟩
  refine hK.out _ _ Z22.z1 (fun hHeld => ?_)
  clear hK K
  refine tgnm 5 ?_
  refine tgpP 3 6 (tgb 32 15) ?_
  refine tgpP 4 7 (tgb 32 31) ?_
  refine tgT4 5 8 (tgb 32 63) hHeld ?_
  refine one_ (i := 6) (N := some 9) (tgb 32 127) rfl rfl (one_of HT_.out (by kernel_rfl)) (by decide) (fun K hK => ?_)
  refine goes_ Tryz.func46 (by kernel_rfl) rfl #[.int .i64 a0_1] (by rfl) rfl rfl Z22.z2 ?_
  with_reducible refine (impl_isSide.calls a0_1 false _ A4.out).mono ?_
  rintro e w' ⟨rfl, ⟨nd, rfl⟩⟩
  refine ⟨_, rfl, ?_⟩
  refine hK.out _ _ Z22.z1 (fun hHeld => ?_)
  clear hK K
  refine tgnm 9 ?_
  refine tgpP 7 10 (tgb 32 255) ?_
  refine tgpP 8 11 (tgb 32 511) ?_
  refine tgu 9 12 (tgb 32 1023) ?_
  refine tgu 10 13 (tgb 32 2047) ?_
  refine tgu 11 14 (tgb 32 4095) ?_
  refine tgpP 12 15 (tgb 32 8191) ?_
  refine tgpP 13 16 (tgb 32 16383) ?_
  refine tgu 14 17 (tgb 32 32767) ?_
  refine tgu 15 18 (tgb 32 65535) ?_
  refine tgu 16 19 (tgb 32 131071) ?_
  refine tgu 17 20 (tgb 32 262143) ?_
  refine tgu 18 21 (tgb 32 524287) ?_
  refine tgu 19 22 (tgb 32 1048575) ?_
  refine tgu 20 23 (tgb 32 2097151) ?_
  refine tgu 21 24 (tgb 32 4194303) ?_
  refine tgu 22 25 (tgb 32 8388607) ?_
  refine tgpP 23 26 (tgb 32 16777215) ?_
  refine tgpP 24 27 (tgb 32 33554431) ?_
  refine tgu 25 28 (tgb 32 67108863) ?_
  refine tgu 26 29 (tgb 32 134217727) ?_
  refine tgu 27 30 (tgb 32 268435455) ?_
  refine tgu 28 31 (tgb 32 536870911) ?_
  refine tgu 29 32 (tgb 32 1073741823) ?_
  refine tgpP 30 33 (tgb 32 2147483647) ?_
  refine tgpP 31 2 (tgb 32 4294967295) ?_
  refine done_ (done_of HT_.out (by kernel_rfl)) ?_
  try go_wp2
  go_ret
  exact ⟨Z22.z6, Z22.z4⟩
 replace c3 := Bool.eq_false_iff.mpr c3
 subst c3
 rw [if_neg (show ¬ (false = true) by decide)] at H
 obtain rfl := Option.some.inj H
 go_enter Tryz.func22, Tryz.ntmps22
 try go_wp2_with (first | ((with_reducible refine gate_dst (N := 1) rfl ?_); refine box_event ?hg (N := 1) ?hd (cs := #[.int .i64 a0_0, .int .i64 a0_1, .int .i64 a0_2, .slice A0_3 l0_3.length c0_3]) (t := 28) ?hr ?_; (case hd => rfl); (case hg => rfl); (case hr => first | (go_simp; done) | (go_simp; rfl)); intro gb101 hg w20 hbox hb; have BK101 := tgk (hbox); have GW101 := tgk (show w.heap.size ≤ gb101 from Z22.z7); have GE101 := tgk (show w.heap.size ≤ gb101 from Z22.z7); replace HB := tgk (below_step Z22.z3 hb); clear hb hbox hg))
 replace BK101 := tgk (blk_drew BK101.out)
 replace HB := tgk (below_drew1 HB.out)
 refine start_ (n := 32) (S := fun w' => w'.cell? ⟨gb101, 0, none⟩ = some (.int .i64 a0_0) ∧ w'.cell? ⟨gb101, 1, none⟩ = some (.int .i64 a0_1) ∧ w'.cell? ⟨gb101, 2, none⟩ = some (.int .i64 a0_2) ∧ w'.cell? ⟨gb101, 3, none⟩ = some (.slice A0_3 l0_3.length c0_3)) (ds := []) #[false, false, false, false, false, false, false, false, false, false, false, false, false, false, false, false, false, false, false, false, false, false, false, false, false, false, false, false, false, false, false, false] (by kernel_rfl) rfl rfl Z22.z1 (fun hHeld => ?_); refine with_tabW impl_ValidMatrix.tab1 impl_ValidMatrix.bits1 (fun HT_ HW_ => ?_)
 generalize w20.drew = w21 at BK101 HB hHeld ⊢
 refine tgpP 0 3 (tgb 32 1) ?_
 refine tgT4 1 4 (tgb 32 3) hHeld ?_
 refine one_ (i := 2) (N := some 5) (tgb 32 7) rfl rfl (one_of HT_.out (by kernel_rfl)) (by decide) (fun K hK => ?_)
 refine goes_ Tryz.func45 (by kernel_rfl) rfl #[.int .i64 a0_0] (by rfl) rfl rfl Z22.z2 ?_
 with_reducible refine (impl_ValidPrime.calls k a0_0 false _ A2.out).mono ?_
 rintro e w' ⟨rfl, ⟨nd, rfl⟩⟩
 refine ⟨_, rfl, ?_⟩
 refine hK.out _ _ Z22.z1 (fun hHeld => ?_)
 clear hK K
 refine tgnm 5 ?_
 refine tgpP 3 6 (tgb 32 15) ?_
 refine tgu 4 7 (tgb 32 31) ?_
 refine tgu 5 8 (tgb 32 63) ?_
 refine tgu 6 9 (tgb 32 127) ?_
 refine tgpP 7 10 (tgb 32 255) ?_
 refine tgpP 8 11 (tgb 32 511) ?_
 refine tgu 9 12 (tgb 32 1023) ?_
 refine tgu 10 13 (tgb 32 2047) ?_
 refine tgu 11 14 (tgb 32 4095) ?_
 refine tgpP 12 15 (tgb 32 8191) ?_
 refine tgpP 13 16 (tgb 32 16383) ?_
 refine tgu 14 17 (tgb 32 32767) ?_
 refine tgu 15 18 (tgb 32 65535) ?_
 refine tgu 16 19 (tgb 32 131071) ?_
 refine tgu 17 20 (tgb 32 262143) ?_
 refine tgu 18 21 (tgb 32 524287) ?_
 refine tgu 19 22 (tgb 32 1048575) ?_
 refine tgu 20 23 (tgb 32 2097151) ?_
 refine tgu 21 24 (tgb 32 4194303) ?_
 refine tgu 22 25 (tgb 32 8388607) ?_
 refine tgpP 23 26 (tgb 32 16777215) ?_
 refine tgpP 24 27 (tgb 32 33554431) ?_
 refine tgu 25 28 (tgb 32 67108863) ?_
 refine tgu 26 29 (tgb 32 134217727) ?_
 refine tgu 27 30 (tgb 32 268435455) ?_
 refine tgu 28 31 (tgb 32 536870911) ?_
 refine tgu 29 32 (tgb 32 1073741823) ?_
 refine tgpP 30 33 (tgb 32 2147483647) ?_
 refine tgpP 31 2 (tgb 32 4294967295) ?_
 refine done_ (done_of HT_.out (by kernel_rfl)) ?_
 try go_wp2
 go_ret
 exact ⟨Z22.z6, Z22.z4⟩
/-! ### impl_filled: function 48 -/
structure Cell2 where
  f : Int → Int → Option Int
section
variable {P : Program} {ops : Array Oper} {Q : Exit → Act → World → Prop}
theorem goesV_ {oi : Oper} {N : Option Tmp} {a : Act} {w : World} {K : Act → World → Prop} {o : Operand} {xs_ : Array Operand} {ts : Array TypeId} (g : Nat) (lb : Array Value) (eg : ∀ args w, (callFunc g args).run P w = .ok (.enter g args) w) (args : Array Value)
    (hw : Region.wanted oi (yielded ops a.tmps) = true) (hN : oi.dst = N) (hop : oi.op = .call { callee := .value o, args := xs_, argTypes := ts }) (hv : a.eval o = .func (.func g) #[] lb) (hargs : xs_.map a.eval = args)
    (h : Calls P g (args ++ lb) w fun e w' => ∃ v, e = .returned v ∧ K (a.put N v) w') : if Region.wanted oi (yielded ops a.tmps) = true then Oper.wp P oi a w K Q else K (a.put N undef) w := by
  refine call_ g (args ++ lb) hw hN ?_ h
  unfold execOp
  simp [hop, resolve, Deferred.ofValue, invoke, hv, hargs, eg]
end
mutual
def impl_filled.l0 (cf_ : Cell2) : Nat → Int → Int → Int → Int → Int → Int → List Int → Option (Int × Int × Int × List Int)
  | 0, _, _, _, _, _, _, _ => none
  | k + 1, x2, x16, x17, x103000, x103001, x103002, x103003 => if x17 < x16 then (impl_filled.l1 cf_ k x2 x17 x16 x17 x2 0 x103000 x103001 x103002 x103003) else (some (x103000, x103001, x103002, x103003))
def impl_filled.l1 (cf_ : Cell2) : Nat → Int → Int → Int → Int → Int → Int → Int → Int → Int → List Int → Option (Int × Int × Int × List Int)
  | 0, _, _, _, _, _, _, _, _, _, _ => none
  | k + 1, x2, x10, x16, x17, x20, x21, x103000, x103001, x103002, x103003 => if x21 < x20 then ((cf_.f x10 x21).bind fun t103 => (if x103003.length < 17592186044416 then (impl_filled.l1 cf_ k x2 x10 x16 x17 x20 (wrap64 (x21 + 1)) x103000 x103001 x103002 (x103003 ++ [t103])) else (none))) else (impl_filled.l0 cf_ k x2 x16 (wrap64 (x17 + 1)) x103000 x103001 x103002 x103003)
end
def impl_filled.f (cf_ : Cell2) (k : Nat) (a0 : Int) (a1 : Int) (a2 : Int) (a3 : Int) : Option (Int × Int × Int × List Int) := impl_filled.l0 cf_ k a2 a1 0 a0 a1 a2 ([] : List Int)
def impl_filled.T8 : Bool × List (List Nat × List Nat) := (true, [([], []), ([0], [0]), ([], []), ([], []), ([], []), ([2, 3, 4], [2, 3, 4]), ([5], [5]), ([1, 6, 5], [1, 6]), ([0, 1, 2, 3, 4, 5, 6, 7], []), ([8, 7, 7, 0, 1, 2, 3, 4, 5, 6, 7], [7, 8])])
def impl_filled.B8 : List Nat := [0, 1, 0, 0, 0, 28, 60, 127, 255, 511]
theorem impl_filled.tab8 : rtab .any (opsOf Tryz.f48 8) = impl_filled.T8 := by kernel_rfl
theorem impl_filled.bits8 : waitsOk impl_filled.T8.2 impl_filled.B8 = true := by kernel_rfl
theorem Z48.z8 {P : Prop} (h : P := by (repeat (first | (with_reducible first | refine blk_drewN ?_ _ | refine blk_drew ?_ | refine blk_alloc ?_ _) | refine blk_far ?_ NB101_102.out _)); exact BK101.out) : P := h
theorem Z48.z7 {P : Prop} (h : P := by repeat (first | (with_reducible first | exact HB.out | apply below_alloc | apply pw_below_drewN | apply below_drew1) | exact HB.out)) : P := h
theorem Z48.z6 {P : Prop} (h : P := by exact ⟨(blk_cell BK102.out 0).trans rfl, (blk_cell BK102.out 1).trans rfl, (blk_cell BK102.out 2).trans rfl, (blk_cell BK102.out 3).trans rfl⟩) : P := h
theorem Z48.z5 {P : Prop} (h : P := by exact tgR HO_103003.out) : P := h
theorem Z48.z4 {P : Prop} (h : P := by repeat (first | (with_reducible first | exact HB.out | apply below_alloc | apply pw_below_drewN | apply below_drew1 | refine below_set ?_ GE101.out) | exact HB.out)) : P := h
theorem Z48.z3 {P : Prop} (h : P := by exact tgB BK102.out) : P := h
theorem Z48.z2 {P : Prop} (h : P := by simp only [Act.put, List.setIfInBounds_toArray, List.set_cons_zero, List.set_cons_succ, i64_w, i32_w]; rfl) : P := h
theorem Z48.z1 {P : Prop} (h : P := by exact tgB BK101.out) : P := h
theorem Z48.z0 {P : Prop} (h : P := by repeat (first | (with_reducible first | exact HB.out | apply below_alloc | apply pw_below_drewN | apply below_drew1 | refine below_set ?_ GE101.out | refine below_set ?_ GE102.out) | exact HB.out)) : P := h
set_option maxHeartbeats 8000000 in
set_option maxRecDepth 100000 in
theorem impl_filled.calls (cf_ : Cell2) (g_ : Nat) (lb_ : Array Value) (eg_ : ∀ args w, (callFunc g_ args).run Tryz.prog w = .ok (.enter g_ args) w) (k : Nat) (a0 : Int) (a1 : Int) (a2 : Int) (a3 : Int) (r1 : Int) (r2 : Int) (r3 : Int) (r4 : List Int) (w : World) (hp_ : ∀ (W : World) (i j r : Int), Below w.heap.size w W → cf_.f i j = some r → Calls Tryz.prog g_ (#[.int .i64 i, .int .i64 j] ++ lb_) W fun e w' => e = .returned (.int .i64 r) ∧ Below W.heap.size W w') (h : impl_filled.f cf_ k a0 a1 a2 a3 = some (r1, r2, r3, r4)) :
  Calls Tryz.prog 48 #[.int .i64 a0, .int .i64 a1, .int .i64 a2, .func (.func g_) #[] lb_] w fun e w' => ∃ v3_ : Value, e = .returned (.agg #[.int .i64 r1, .int .i64 r2, .int .i64 r3, v3_]) ∧ Kd.R (Kd.int .i64) 2 w' w.heap.size (fun _ => True) v3_ r4 ∧ Below w.heap.size w w' := by
 have hu28 := Tryz.underlying28
 have HB := tgk (Below.refl w.heap.size w)
 have HP_ := tgk hp_
 clear hp_
 have H : (impl_filled.l0 cf_ k a2 a1 0 a0 a1 a2 ([] : List Int)) = some (r1, r2, r3, r4) := h
 clear h
 have H' := tgk H
 clear H
 go_enter Tryz.func48, Tryz.ntmps48
 go_wp2_with (first | ((with_reducible refine gate_dst (N := 8) rfl ?_); refine box_event ?hg (N := 8) ?hd (cs := #[.int .i64 0, .int .i64 0, .int .i64 0, .slice none 0 0]) (t := 28) ?hr ?_; (case hd => rfl); (case hg => rfl); (case hr => first | (go_simp; done) | (go_simp; rfl)); intro gb101 hg w5 hbox hb; have BK101 := tgk (hbox); have GW101 := tgk (show w.heap.size ≤ gb101 from (by rw [hg]; exact (below_size Z48.z7))); have GE101 := tgk (show w.heap.size ≤ gb101 from (by rw [hg]; exact (below_size Z48.z7))); replace HB := tgk (below_step Z48.z7 hb); clear hb hbox hg) | ((with_reducible refine gate_dst (N := 9) rfl ?_); refine box_event ?hg (N := 9) ?hd (cs := #[.int .i64 0, .int .i64 0, .int .i64 0, .slice none 0 0]) (t := 28) ?hr ?_; (case hd => rfl); (case hg => rfl); (case hr => first | (go_simp; done) | (go_simp; rfl)); intro gb102 hg w6 hbox hb; have BK102 := tgk (hbox); have GW102 := tgk (show w.heap.size ≤ gb102 from (by rw [hg]; exact (below_size Z48.z4))); have GE102 := tgk (show w.heap.size ≤ gb102 from (by rw [hg]; exact (below_size Z48.z4))); have NB101_102 := tgk (show gb101 ≠ gb102 from (by rw [hg]; exact Nat.ne_of_lt (tgbl BK101 Z48.z1))); have NB102_101 := tgk (show gb102 ≠ gb101 from (by rw [hg]; exact Nat.ne_of_gt (tgbl BK101 Z48.z1))); replace BK101 := tgk (tgbb BK101 Z48.z1 hb); replace HB := tgk (below_step Z48.z4 hb); clear hb hbox hg; have hnb7 := NB102_101.out; have hnc7 := NB101_102.out; obtain ⟨hcz8_0, hcz8_1, hcz8_2, hcz8_3, hfz8_0, hfz8_1, hfz8_2, hfz8_3⟩ := cells4 BK102.out))
 go_loopg [17] k (fun kq v17 w' => ∃ (x17_1 : Int) (x103003_1 : List Int) (u103003 : Value), v17 = .int .i64 x17_1 ∧ Aside0 (impl_filled.l0 cf_ kq a2 a1 x17_1 a0 a1 a2 x103003_1 = some (r1, r2, r3, r4)) ∧ Aside0 (kq ≤ k) ∧ Aside0 (Kd.R (Kd.int .i64) 2 w' w.heap.size (fun _ => True) u103003 x103003_1) ∧ Aside0 (w'.heap[gb101]? = some (.cells #[.int .i64 0, .int .i64 0, .int .i64 0, (.slice none 0 0)] 28 (0, 0))) ∧ Aside0 (w'.heap[gb102]? = some (.cells #[.int .i64 a0, .int .i64 a1, .int .i64 a2, u103003] 28 (0, 0))) ∧ Aside0 (Below w.heap.size w w'))
 case atStart => exact ⟨(0), (([] : List Int)), (.slice none 0 0), (by first | rfl | (simp; done) | (simp [*]; done)), H', ⟨Nat.le_refl _⟩, ⟨(by first | exact Kd.R_nil _ _ _ _ _ | exact Kd.N_nil _ _ _ _ _ | exact Kd.V_nil _ _ _ _ _ | exact Kd.Q_nil _ _ _ _ _ | exact Kd.S_nil _ _ _ _ _)⟩, ⟨Z48.z8⟩, ⟨(by (with_reducible repeat (first | refine blk_drewN ?_ _ | refine blk_drew ?_ | refine blk_alloc ?_ _)); exact tgp BK102.out)⟩, ⟨Z48.z0⟩⟩
 case round =>
  clear H'
  try clear p2
  try clear c4
  try clear c7
  try clear hcz8_0
  try clear hcz8_1
  try clear hcz8_2
  try clear hcz8_3
  try clear hfz8_0
  try clear hfz8_1
  try clear hfz8_2
  try clear hfz8_3
  obtain ⟨x17_1, x103003_1, u103003, rfl, HA, HK1, HO_103003, BK101, BK102, HB⟩ := hrel
  cases gk with
  | zero => exact absurd HA.out (by simp [impl_filled.l0])
  | succ k1 =>
   have H := HA.out
   clear HA
   simp only [impl_filled.l0] at H
   by_cases c9 : x17_1 < a1
   ·rw [if_pos c9] at H
    have c9b0 := decide_eq_true c9
    clear c9
    have H' := tgk H
    clear H
    go_wp2
    go_loopg [21] k1 (fun kq v21 w' => ∃ (x21_2 : Int) (x103003_2 : List Int) (u103003 : Value), v21 = .int .i64 x21_2 ∧ Aside0 (impl_filled.l1 cf_ kq a2 x17_1 a1 x17_1 a2 x21_2 a0 a1 a2 x103003_2 = some (r1, r2, r3, r4)) ∧ Aside0 (kq ≤ k1) ∧ Aside0 (Kd.R (Kd.int .i64) 2 w' w.heap.size (fun _ => True) u103003 x103003_2) ∧ Aside0 (w'.heap[gb101]? = some (.cells #[.int .i64 0, .int .i64 0, .int .i64 0, (.slice none 0 0)] 28 (0, 0))) ∧ Aside0 (w'.heap[gb102]? = some (.cells #[.int .i64 a0, .int .i64 a1, .int .i64 a2, u103003] 28 (0, 0))) ∧ Aside0 (Below w.heap.size w w'))
    case atStart => exact ⟨(0), (x103003_1), (u103003), (by first | rfl | (simp; done) | (simp [*]; done)), H', ⟨Nat.le_refl _⟩, ⟨Z48.z5⟩, ⟨Z48.z1⟩, ⟨Z48.z3⟩, ⟨Z48.z0⟩⟩
    case round =>
     clear H'
     try clear p2
     try clear c4
     try clear c7
     try clear c9
     try clear c9b0
     try clear hcz8_0
     try clear hcz8_1
     try clear hcz8_2
     try clear hcz8_3
     try clear hfz8_0
     try clear hfz8_1
     try clear hfz8_2
     try clear hfz8_3
     try clear p2
     obtain ⟨x21_2, x103003_2, u103003, rfl, HA, HK2, HO_103003, BK101, BK102, HB⟩ := hrel
     cases gk with
     | zero => exact absurd HA.out (by simp [impl_filled.l1])
     | succ k2 =>
      have H := HA.out
      clear HA; simp only [impl_filled.l1] at H
      by_cases c10 : x21_2 < a2
      ·rw [if_pos c10] at H
       have c10b0 := decide_eq_true c10; clear c10; obtain ⟨t103, A11, H⟩ := tgbd H; replace H : (if x103003_2.length < 17592186044416 then (impl_filled.l1 cf_ k2 a2 x17_1 a1 x17_1 a2 (wrap64 (x21_2 + 1)) a0 a1 a2 (x103003_2 ++ [t103])) else (none)) = some (r1, r2, r3, r4) := H
       by_cases c12 : x103003_2.length < 17592186044416
       ·rw [if_pos c12] at H
        have LMc12 := tgk c12; clear c12; obtain ⟨y104, hy104⟩ : ∃ y_ : List Int, y_ = (x103003_2 ++ [t103]) := ⟨_, rfl⟩; replace H : (impl_filled.l1 cf_ k2 a2 x17_1 a1 x17_1 a2 (wrap64 (x21_2 + 1)) a0 a1 a2 y104) = some (r1, r2, r3, r4) := by first | (rw [hy104]; with_reducible exact H) | (have H2_ := (Option.bind_some _ _).symm.trans H; rw [hy104]; with_reducible exact H2_) | (have H2_ := (Option.bind_some _ _).symm.trans H; with_reducible exact H2_) | with_reducible exact H | (rw [hy104]; exact H) | exact H
        have Ny104 := tgk hy104; clear hy104; have H' := tgk H; clear H
        try go_wp2
        replace HO_103003 := tgk (Kd.R_drew HO_103003.out); replace BK101 := tgk (blk_drew BK101.out); replace BK102 := tgk (blk_drew BK102.out); replace HB := tgk (below_drew1 HB.out); refine start_ (n := 10) (S := fun w' => w'.cell? ⟨gb102, 0, none⟩ = some (.int .i64 a0) ∧ w'.cell? ⟨gb102, 1, none⟩ = some (.int .i64 a1) ∧ w'.cell? ⟨gb102, 2, none⟩ = some (.int .i64 a2) ∧ w'.cell? ⟨gb102, 3, none⟩ = some (u103003)) (ds := [9]) #[false, false, false, false, false, false, false, false, false, false] (by kernel_rfl) rfl rfl Z48.z6 (fun hHeld => ?_); refine with_tabW impl_filled.tab8 impl_filled.bits8 (fun HT_ HW_ => ?_); generalize wr.drew = w13 at HO_103003 BK101 BK102 HB hHeld ⊢
        refine tgpP 0 24 (tgb 10 1) ?_; refine tgpP 2 26 (tgb 10 5) ?_; refine tgpP 3 27 (tgb 10 13) ?_; refine tgpP 4 28 (tgb 10 29) ?_; refine tgT4 1 25 (tgb 10 31) hHeld ?_; refine one_ (i := 5) (N := some 29) (tgb 10 63) rfl rfl (one_of HT_.out (by kernel_rfl)) (by decide) (fun K hK => ?_); refine goesV_ g_ lb_ eg_ #[.int .i64 x17_1, .int .i64 x21_2] (by rfl) rfl rfl rfl (by (try simp only [List.map_toArray, List.map_cons, List.map_nil]); first | done | rfl | (simp only [List.length_drop, List.length_take]; rfl)) ?_
        with_reducible refine (HP_.out _ x17_1 x21_2 t103 Z48.z0 A11.out).mono ?_
        rintro e w14 ⟨rfl, hb⟩
        refine ⟨_, rfl, ?_⟩; replace HO_103003 := tgk (Kd.R_below Z48.z5 hb); replace BK101 := tgk (tgbb BK101 Z48.z1 hb); replace BK102 := tgk (tgbb BK102 Z48.z3 hb); replace HB := tgk (below_step Z48.z0 hb); (try clear hb); (try clear hb2); (try clear hk); (try clear hi); refine hK.out _ _ Z48.z6 (fun hHeld => ?_); clear hK K; refine tgnm 29 ?_; refine one_ (i := 6) (N := some 30) (tgb 10 127) rfl rfl (one_of HT_.out (by kernel_rfl)) (by decide) (fun K hK => ?_); refine value_ (w1 := ?_) (v := ?_) (by rfl) rfl ?_ ?_
        rotate_left 2
        ·go_simp
         constructor
         ·rfl
         rfl
        refine hK.out _ _ ⟨(blk_cell (blk_alloc BK102.out _) 0).trans rfl, (blk_cell (blk_alloc BK102.out _) 1).trans rfl, (blk_cell (blk_alloc BK102.out _) 2).trans rfl, (blk_cell (blk_alloc BK102.out _) 3).trans rfl⟩ (fun hHeld => ?_); clear hK K; refine tgnm 30 ?_; refine one_ (i := 7) (N := some 31) (tgb 10 255) rfl rfl (one_of HT_.out (by kernel_rfl)) (by decide) (fun K hK => ?_); refine Kd.R_append_step (Kd.int .i64) (w0 := w) w.heap.size (by rfl) (.tmp 25) (.tmp 30) 26 2 (.int .i64 0) 8 rfl Tryz.underlying26 info2 rfl (by decide) (by omega) u103003 x103003_2 t103 [.int .i64 t103] (fun _ => True) (fun _ => False) rfl rfl ?aP (fun _ hk => hk.elim) ?aF ?aO ?aB ?aS ?aL ?_
        (case aP => exact rfl)
        (case aB => exact Z48.z0)
        (case aF => exact (fun _ _ => trivial))
        (case aO => exact Z48.z5)
        (case aS => exact (below_size Z48.z0))
        (case aL => have := LMc12.out; omega)
        intro v105 w15 ho hb hg hat
        rw [← Ny104.out] at ho; have n0_ := tgk (blk_grown (g := gb101) (o := .cells #[.int .i64 0, .int .i64 0, .int .i64 0, .slice none 0 0] 28 (0, 0)) Z48.z1 hg (Kd.R_ne HO_103003.out BK101.out (by decide))); have n1_ := tgk (blk_grown (g := gb102) (o := .cells #[.int .i64 a0, .int .i64 a1, .int .i64 a2, u103003] 28 (0, 0)) Z48.z3 hg (Kd.R_ne HO_103003.out BK102.out (by decide))); have n2_ := tgk (hb); have n3_ := tgk (ho); clear BK101 BK102 HB HO_103003; have BK101 := n0_; have BK102 := n1_; have HB := n2_; have HO106 := n3_; clear n0_ n1_ n2_ n3_ ho hb hg hat; obtain ⟨Ao16, co16, eo16⟩ := Kd.R_slice HO106.out
        (first | subst eo16 | (injection eo16 with f1_ f2_ f3_; have f4_ := f1_.symm; have f5_ := f3_.symm; clear f1_ f2_ f3_; subst f4_; subst f5_))
        refine hK.out _ _ Z48.z6 (fun hHeld => ?_); clear hK K; refine tgnm 31 ?_; refine tgpP 8 32 (tgb 10 511) ?_; refine last_ (i := 9) (N := none) (tgb 10 1023) rfl rfl (one_of HT_.out (by kernel_rfl)) (by decide) (fun K hK => ?_); have hs17 : w15.cell? ⟨gb102, 3, none⟩ = some (u103003) := (blk_cell BK102.out 3).trans rfl; have hfs17 := blk_frozen BK102.out 3; have hns17_0 := NB101_102.out; have hms17_0 := NB102_101.out; refine skip_ (w1 := ?_) (by rfl) rfl ?_ ?_
        rotate_left
        ·go_simp
         rfl
        refine hK.out _ _ ?_; clear hK K; refine done_ (done_of HT_.out (by kernel_rfl)) ?_
        try go_wp2
        go_roundg k2
        case measure => have := HK1.out; have := HK2.out; omega
        case rel => exact ⟨(wrap64 (x21_2 + 1)), (y104), (.slice Ao16 y104.length co16), (by first | rfl | (simp; done) | (simp [*]; done)), H', ⟨(by have := HK1.out; have := HK2.out; omega)⟩, ⟨(by (with_reducible repeat (first | apply Kd.R_alloc | apply Kd.R_drewN | apply Kd.R_drew)); exact Kd.R_mono (Kd.R_far (p := ⟨gb102, 3, none⟩) (Kd.R_types HO106.out BK102.out (by decide)) (fun _ hk => hk.2) (.slice Ao16 y104.length co16)) (fun _ hk => trivial))⟩, ⟨Z48.z8⟩, ⟨(by (with_reducible repeat (first | refine blk_drewN ?_ _ | refine blk_drew ?_ | refine blk_alloc ?_ _)); refine blk_put (cs := #[.int .i64 a0, .int .i64 a1, .int .i64 a2, u103003]) ?_ 3 _ rfl; (with_reducible repeat (first | refine blk_drewN ?_ _ | refine blk_drew ?_ | refine blk_alloc ?_ _)); exact BK102.out)⟩, ⟨Z48.z0⟩⟩
       rw [if_neg c12] at H; exact absurd H (by simp)
      rw [if_neg c10] at H; have c10b0 := decide_eq_false c10; clear c10; have H' := tgk H; clear H
      go_wp2
      go_roundg k2
      case measure => have := HK1.out; have := HK2.out; omega
      case rel => exact ⟨(wrap64 (x17_1 + 1)), (x103003_2), (u103003), (by first | rfl | (simp; done) | (simp [*]; done)), H', ⟨(by have := HK1.out; have := HK2.out; omega)⟩, ⟨Z48.z5⟩, ⟨Z48.z1⟩, ⟨Z48.z3⟩, ⟨Z48.z0⟩⟩
   rw [if_neg c9] at H
   have c9b0 := decide_eq_false c9
   clear c9
   simp only [Option.some.injEq, Prod.mk.injEq] at H
   obtain ⟨rfl, rfl, rfl, rfl⟩ := H
   have hnb18 := NB102_101.out
   have hnc18 := NB101_102.out
   obtain ⟨hcz19_0, hcz19_1, hcz19_2, hcz19_3, hfz19_0, hfz19_1, hfz19_2, hfz19_3⟩ := cells4 BK102.out
   obtain ⟨hcz20_0, hcz20_1, hcz20_2, hcz20_3, hfz20_0, hfz20_1, hfz20_2, hfz20_3⟩ := cells4 BK101.out
   obtain ⟨Ao21, co21, eo21⟩ := Kd.R_slice HO_103003.out
   subst eo21
   go_wp2
   refine bodyPost_ret (results_cell_row rfl _ _ gb101 28 #[.int .i64 a0, .int .i64 a1, .int .i64 a2, .slice Ao21 x103003_1.length co21] (0, 0) _ rfl (by (with_reducible repeat (first | refine blk_drewN ?_ _ | refine blk_drew ?_ | refine blk_alloc ?_ _)); exact tgp BK101.out) Tryz.underlying28 rfl (by kernel_rfl)) rfl ?_
   exact ⟨_, (by first | rfl | (simp [errW_none, errW_some] <;> rfl) | (simp [*, errW_none, errW_some] <;> rfl)), (by (with_reducible repeat (first | apply Kd.R_alloc | apply Kd.R_drewN | apply Kd.R_drew)); exact Kd.R_mono (Kd.R_far (p := ⟨gb101, 3, none⟩) (Kd.R_far (p := ⟨gb101, 2, none⟩) (Kd.R_far (p := ⟨gb101, 1, none⟩) (Kd.R_far (p := ⟨gb101, 0, none⟩) (Kd.R_types HO_103003.out BK101.out (by decide)) (fun _ hk => hk.2) (.int .i64 a0)) (fun _ hk => hk.2) (.int .i64 a1)) (fun _ hk => hk.2) (.int .i64 a2)) (fun _ hk => hk.2) (.slice Ao21 x103003_1.length co21)) (fun _ hk => trivial)), Z48.z0⟩
/-! ### impl_Matrix_at: function 53 -/
def impl_Matrix_at.f (a0_0 : Int) (a0_1 : Int) (a0_2 : Int) (l0_3 : List Int) (a1 : Int) (a2 : Int) : Option (Int) := if 0 ≤ (wrap64 ((wrap64 (a1 * a0_2)) + a2)) then (if (wrap64 ((wrap64 (a1 * a0_2)) + a2)) < (l0_3.length : Int) then (some (rd l0_3 (wrap64 ((wrap64 (a1 * a0_2)) + a2)))) else (none)) else (none)
theorem Z53.z0 {P : Prop} (h : P := by repeat (first | (with_reducible first | exact HB.out | apply below_alloc | apply pw_below_drewN | apply below_drew1) | exact HB.out)) : P := h
set_option maxHeartbeats 8000000 in
set_option maxRecDepth 100000 in
theorem impl_Matrix_at.calls (a0_0 : Int) (a0_1 : Int) (a0_2 : Int) (A0_3 : Option Addr) (c0_3 : Nat) (l0_3 : List Int) (a1 : Int) (a2 : Int) (r : Int) (w : World) (hr0_3 : Kd.C (Kd.int .i64) w A0_3 l0_3.length l0_3) (hc0_3 : l0_3.length ≤ c0_3) (h : impl_Matrix_at.f a0_0 a0_1 a0_2 l0_3 a1 a2 = some r) :
  Calls Tryz.prog 53 #[.agg #[.int .i64 a0_0, .int .i64 a0_1, .int .i64 a0_2, .slice A0_3 l0_3.length c0_3], .int .i64 a1, .int .i64 a2] w fun e w' => e = .returned (.int .i64 r) ∧ Below w.heap.size w w' := by
 have hu28 := Tryz.underlying28
 have HR0_3 := Aside0.mk hr0_3
 have HC0_3 := Aside0.mk hc0_3
 clear hr0_3 hc0_3
 have HB := Aside0.mk (Below.refl w.heap.size w)
 have H : (if 0 ≤ (wrap64 ((wrap64 (a1 * a0_2)) + a2)) then (if (wrap64 ((wrap64 (a1 * a0_2)) + a2)) < (l0_3.length : Int) then (some (rd l0_3 (wrap64 ((wrap64 (a1 * a0_2)) + a2)))) else (none)) else (none)) = some r := h
 clear h
 obtain ⟨ji4, hji4⟩ : ∃ j_ : Int, (wrap64 ((wrap64 (a1 * a0_2)) + a2)) = j_ := ⟨_, rfl⟩
 replace H : (if 0 ≤ (ji4) then (if (ji4) < (l0_3.length : Int) then (some (rd l0_3 (ji4))) else (none)) else (none)) = some r := by first | (rw [hji4] at H; exact H) | (simp only [hji4] at H ⊢; exact H)
 have hji4w : (IntKind.i64.wrap ((wrap64 (a1 * a0_2)) + a2)) = ji4 := (i64_w _).trans hji4
 by_cases c5 : 0 ≤ (ji4)
 ·rw [if_pos c5] at H
  have c5b0 := decide_eq_true c5
  clear c5
  by_cases c6 : (ji4) < (l0_3.length : Int)
  ·rw [if_pos c6] at H
   have c6b0 := decide_eq_true c6
   clear c6
   obtain rfl := Option.some.inj H
   go_enter Tryz.func53, Tryz.ntmps53
   go_wp2_with (first | ((with_reducible refine gate_dst (N := 3) rfl ?_); refine box_event ?hg (N := 3) ?hd (cs := #[.int .i64 a0_0, .int .i64 a0_1, .int .i64 a0_2, .slice A0_3 l0_3.length c0_3]) (t := 28) ?hr ?_; (case hd => rfl); (case hg => rfl); (case hr => first | (go_simp; done) | (go_simp; rfl)); intro gb101 hg w7 hbox hb; have BK101 := Aside0.mk (hbox); have GW101 := Aside0.mk (show w.heap.size ≤ gb101 from (by rw [hg]; exact (below_size Z53.z0))); have GE101 := Aside0.mk (show w.heap.size ≤ gb101 from (by rw [hg]; exact (below_size Z53.z0))); replace HB := Aside0.mk (below_step Z53.z0 hb); clear hb hbox hg; obtain ⟨hcz8_0, hcz8_1, hcz8_2, hcz8_3, hfz8_0, hfz8_1, hfz8_2, hfz8_3⟩ := cells4 BK101.out; have p102 : 0 ≤ ((ji4) : Int) := of_decide_eq_true (by first | (with_reducible assumption) | assumption); have q102 : (ji4) < (l0_3.length : Int) := of_decide_eq_true (by first | (with_reducible assumption) | assumption); obtain ⟨ad102, e102, hx102_0⟩ := Kd.at_int HR0_3.out (ji4) p102 q102; cases e102; replace hx102_0 := (HB.out.cell (World.block_lt_of_cell? w _ hx102_0)).trans hx102_0; replace p102 := eq_true p102; replace q102 := eq_true q102))
   go_ret
   exact ⟨(by first | rfl | (simp [errW_none, errW_some] <;> rfl) | (simp only [← hji4]; first | rfl | (simp [errW_none, errW_some] <;> rfl)) | (simp [*, errW_none, errW_some] <;> rfl)), (by repeat (first | (with_reducible first | exact HB.out | apply below_alloc | apply pw_below_drewN | apply below_drew1 | refine below_set ?_ GE101.out) | exact HB.out))⟩
  rw [if_neg c6] at H
  exact absurd H (by simp)
 rw [if_neg c5] at H
 exact absurd H (by simp)
/-! ### impl_transpose_1: function 52: ours -/
def impl_transpose_1.cell (p r c : Int) (l : List Int) : Cell2 := ⟨fun i j => impl_Matrix_at.f p r c l j i⟩
set_option maxHeartbeats 4000000 in
set_option maxRecDepth 100000 in
theorem impl_transpose_1.cells (gb : Nat) (p r c : Int) (A : Option Addr) (cap : Nat) (l : List Int) (w : World) (hb : w.heap[gb]? = some (.cells #[.int .i64 p, .int .i64 r, .int .i64 c, .slice A l.length cap] 28 (0, 0))) (hr : Kd.C (Kd.int .i64) w A l.length l) (hc : l.length ≤ cap) :
    ∀ (W : World) (i j v : Int), Below w.heap.size w W → (impl_transpose_1.cell p r c l).f i j = some v → Calls Tryz.prog 52 (#[.int .i64 i, .int .i64 j] ++ #[.pointer (some ⟨gb, 0, none⟩)]) W fun e w' => e = .returned (.int .i64 v) ∧ Below W.heap.size W w' := by
  intro W i j v hB h
  have BK := Aside0.mk (blk_below hb hB)
  have HC := Aside0.mk (Kd.C_below hr hB)
  have H : impl_Matrix_at.f p r c l j i = some v := h
  have HH := Aside0.mk H
  have HL := Aside0.mk hc
  clear h H hb hr hB hc
  have hcz_0 : W.cell? ⟨gb, 0, none⟩ = some (.int .i64 p) := (blk_cell BK.out 0).trans rfl
  have hcz_1 : W.cell? ⟨gb, 1, none⟩ = some (.int .i64 r) := (blk_cell BK.out 1).trans rfl
  have hcz_2 : W.cell? ⟨gb, 2, none⟩ = some (.int .i64 c) := (blk_cell BK.out 2).trans rfl
  have hcz_3 : W.cell? ⟨gb, 3, none⟩ = some (.slice A l.length cap) := (blk_cell BK.out 3).trans rfl
  go_enter Tryz.func52, Tryz.ntmps52
  go_wp2_with (go_at_call 53; refine (impl_Matrix_at.calls p r c A cap l j i v _ HC.out HL.out HH.out).mono ?_; rintro e w' ⟨rfl, hb⟩)
  go_ret
  exact ⟨rfl, hb⟩
/-! ### impl_transpose: function 24 -/
def impl_transpose.f (k : Nat) (a0_0 : Int) (a0_1 : Int) (a0_2 : Int) (l0_3 : List Int) : Option (Int × Int × Int × List Int) := (impl_filled.f (impl_transpose_1.cell a0_0 a0_1 a0_2 l0_3) k a0_0 a0_2 a0_1 0).bind fun bt103 => (some (bt103.1, bt103.2.1, bt103.2.2.1, bt103.2.2.2))
theorem Z24.z3 {P : Prop} (h : P := by repeat (first | (with_reducible first | exact HB.out | apply below_alloc | apply pw_below_drewN | apply below_drew1) | exact HB.out)) : P := h
theorem Z24.z2 {P : Prop} (h : P := by repeat (first | (with_reducible first | exact HB.out | apply below_alloc | apply pw_below_drewN | apply below_drew1 | refine below_set ?_ GE101.out) | exact HB.out)) : P := h
theorem Z24.z1 {P : Prop} (h : P := by exact tgB BK101.out) : P := h
theorem Z24.z0 {P : Prop} (h : P := by repeat (first | (with_reducible first | exact HB.out | apply below_alloc | apply pw_below_drewN | apply below_drew1 | refine below_set ?_ GE101.out | refine below_set ?_ GE102.out) | exact HB.out)) : P := h
set_option maxHeartbeats 8000000 in
set_option maxRecDepth 100000 in
theorem impl_transpose.calls (k : Nat) (a0_0 : Int) (a0_1 : Int) (a0_2 : Int) (A0_3 : Option Addr) (c0_3 : Nat) (l0_3 : List Int) (r1 : Int) (r2 : Int) (r3 : Int) (r4 : List Int) (w : World) (hr0_3 : Kd.C (Kd.int .i64) w A0_3 l0_3.length l0_3) (hc0_3 : l0_3.length ≤ c0_3) (h : impl_transpose.f k a0_0 a0_1 a0_2 l0_3 = some (r1, r2, r3, r4)) :
  Calls Tryz.prog 24 #[.agg #[.int .i64 a0_0, .int .i64 a0_1, .int .i64 a0_2, .slice A0_3 l0_3.length c0_3]] w fun e w' => ∃ v3_ : Value, e = .returned (.agg #[.int .i64 r1, .int .i64 r2, .int .i64 r3, v3_]) ∧ Kd.R (Kd.int .i64) 2 w' w.heap.size (fun _ => True) v3_ r4 ∧ Below w.heap.size w w' := by
 have hu28 := Tryz.underlying28
 have HR0_3 := Aside0.mk hr0_3
 have HC0_3 := Aside0.mk hc0_3
 clear hr0_3 hc0_3
 have HB := Aside0.mk (Below.refl w.heap.size w)
 have H : ((impl_filled.f (impl_transpose_1.cell a0_0 a0_1 a0_2 l0_3) k a0_0 a0_2 a0_1 0).bind fun bt103 => (some (bt103.1, bt103.2.1, bt103.2.2.1, bt103.2.2.2))) = some (r1, r2, r3, r4) := h
 clear h
 replace H := Option.bind_eq_some_iff.mp H
 obtain ⟨⟨t103, t104, t105, t106⟩, A20, H⟩ := H
 replace H : (some (t103, t104, t105, t106)) = some (r1, r2, r3, r4) := H
 have A2 := Aside0.mk A20
 clear A20
 simp only [Option.some.injEq, Prod.mk.injEq] at H
 obtain ⟨rfl, rfl, rfl, rfl⟩ := H
 go_enter Tryz.func24, Tryz.ntmps24
 go_wp2_with (first | ((with_reducible refine gate_dst (N := 1) rfl ?_); refine box_event ?hg (N := 1) ?hd (cs := #[.int .i64 a0_0, .int .i64 a0_1, .int .i64 a0_2, .slice A0_3 l0_3.length c0_3]) (t := 28) ?hr ?_; (case hd => rfl); (case hg => rfl); (case hr => first | (go_simp; done) | (go_simp; rfl)); intro gb101 hg w3 hbox hb; have BK101 := Aside0.mk (hbox); have GW101 := Aside0.mk (show w.heap.size ≤ gb101 from (by rw [hg]; exact (below_size Z24.z3))); have GE101 := Aside0.mk (show w.heap.size ≤ gb101 from (by rw [hg]; exact (below_size Z24.z3))); replace HB := Aside0.mk (below_step Z24.z3 hb); clear hb hbox hg) | ((with_reducible refine gate_dst (N := 2) rfl ?_); refine box_event ?hg (N := 2) ?hd (cs := #[.int .i64 0, .int .i64 0, .int .i64 0, .slice none 0 0]) (t := 28) ?hr ?_; (case hd => rfl); (case hg => rfl); (case hr => first | (go_simp; done) | (go_simp; rfl)); intro gb102 hg w4 hbox hb; have BK102 := Aside0.mk (hbox); have GW102 := Aside0.mk (show w.heap.size ≤ gb102 from (by rw [hg]; exact (below_size Z24.z2))); have GE102 := Aside0.mk (show w.heap.size ≤ gb102 from (by rw [hg]; exact (below_size Z24.z2))); have NB101_102 := Aside0.mk (show gb101 ≠ gb102 from (by rw [hg]; exact Nat.ne_of_lt (tgbl BK101 Z24.z1))); have NB102_101 := Aside0.mk (show gb102 ≠ gb101 from (by rw [hg]; exact Nat.ne_of_gt (tgbl BK101 Z24.z1))); replace BK101 := Aside0.mk (tgbb BK101 Z24.z1 hb); replace HB := Aside0.mk (below_step Z24.z2 hb); clear hb hbox hg; have hnb5 := NB101_102.out; have hnc5 := NB102_101.out; obtain ⟨hcz6_0, hcz6_1, hcz6_2, hcz6_3, hfz6_0, hfz6_1, hfz6_2, hfz6_3⟩ := cells4 BK101.out) | ((with_reducible refine gate_callee (f := 48) rfl ?_); refine goesL_ (some 10) rfl rfl Tryz.func48 (by kernel_rfl) rfl #[.int .i64 a0_0, .int .i64 a0_2, .int .i64 a0_1, .func (.func 52) #[] #[.pointer (some ⟨gb101, 0, none⟩)]] rfl (by (try simp only [List.map_toArray, List.map_cons, List.map_nil]); first | done | rfl | (simp only [List.length_drop, List.length_take]; rfl)) ?_; (refine (impl_filled.calls (impl_transpose_1.cell a0_0 a0_1 a0_2 l0_3) 52 #[.pointer (some ⟨gb101, 0, none⟩)] (enters_of Tryz.func52 (by kernel_rfl) rfl) k a0_0 a0_2 a0_1 0 t103 t104 t105 t106 _ (impl_transpose_1.cells gb101 a0_0 a0_1 a0_2 A0_3 c0_3 l0_3 _ BK101.out (Kd.C_below HR0_3.out HB.out) HC0_3.out) A2.out).mono ?_); rintro e w7 ⟨v107, rfl, ho0, hb⟩; refine ⟨_, rfl, ?_⟩; have HO108 := Aside0.mk (Kd.R_lower ho0 (below_size Z24.z0)); replace BK101 := Aside0.mk (tgbb BK101 Z24.z1 hb); replace BK102 := Aside0.mk (tgbb BK102 (tgB BK102.out) hb); replace HB := Aside0.mk (below_step Z24.z0 hb); (try clear hb); (try clear ho0); obtain ⟨hcz8_0, hcz8_1, hcz8_2, hcz8_3, hfz8_0, hfz8_1, hfz8_2, hfz8_3⟩ := cells4 BK102.out; obtain ⟨Ao9, co9, eo9⟩ := Kd.R_slice HO108.out; subst eo9))
 refine bodyPost_ret (results_cell_row rfl _ _ gb102 28 #[.int .i64 t103, .int .i64 t104, .int .i64 t105, .slice Ao9 t106.length co9] (0, 0) _ rfl (by (with_reducible repeat (first | refine blk_drewN ?_ _ | refine blk_drew ?_ | refine blk_alloc ?_ _)); exact tgp BK102.out) Tryz.underlying28 rfl (by kernel_rfl)) rfl ?_
 exact ⟨_, (by first | rfl | (simp [errW_none, errW_some] <;> rfl) | (simp [*, errW_none, errW_some] <;> rfl)), (by (with_reducible repeat (first | apply Kd.R_alloc | apply Kd.R_drewN | apply Kd.R_drew)); exact Kd.R_mono (Kd.R_far (p := ⟨gb102, 3, none⟩) (Kd.R_far (p := ⟨gb102, 2, none⟩) (Kd.R_far (p := ⟨gb102, 1, none⟩) (Kd.R_far (p := ⟨gb102, 0, none⟩) (Kd.R_types HO108.out BK102.out (by decide)) (fun _ hk => hk.2) (.int .i64 t103)) (fun _ hk => hk.2) (.int .i64 t104)) (fun _ hk => hk.2) (.int .i64 t105)) (fun _ hk => hk.2) (.slice Ao9 t106.length co9)) (fun _ hk => trivial)), Z24.z0⟩
end Go.Proofs.YtbalikebmacldaaGreatDoor.F
end
