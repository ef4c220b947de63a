-- Texts of this claim, merged by packw.py (a program of this session's).
import Derived.Test.YtbalikebmacldaaGreatDoorQFnMatrices2
import Derived.Test.YtbalikebmacldaaGreatDoorQFnMatrices3
import Derived.Test.YtbalikebmacldaaGreatDoorQFnMatrices6
import Derived.Test.YtbalikebmacldaaGreatDoorQFnMatrices4
import Derived.Test.YtbalikebmacldaaGreatDoorQFnMatrices5

section
namespace Go.Proofs.YtbalikebmacldaaGreatDoor.F
open Go.RowKit Go.Proofs.YtbalikebmacldaaGreatDoorW.PrintWords Go.Proofs.YtbalikebmacldaaGreatDoorW.PrintLast Go.Proofs.YtbalikebmacldaaGreatDoorW.PrintMore
attribute [local go_sem] max2_int min2_int max_two min_two max_three min_three max_four min_four   -- for this text's walks alone
set_option linter.unusedVariables false
set_option linter.unusedSimpArgs false
/-! ### spec_l03Same: function 32 -/
mutual
def spec_l03Same.j0 : Nat → Bool → Int → Int → Int → List Int → Int → Int → Int → List Int → Option (Bool)
  | 0, _, _, _, _, _, _, _, _, _ => none
  | k + 1, x49, x102000, x102001, x102002, x102003, x103000, x103001, x103002, x103003 => if x49 = true then (some false) else (spec_l03Same.l0 k 0 x102000 x102001 x102002 x102003 x103000 x103001 x103002 x103003)
def spec_l03Same.l0 : Nat → Int → Int → Int → Int → List Int → Int → Int → Int → List Int → Option (Bool)
  | 0, _, _, _, _, _, _, _, _, _ => none
  | k + 1, x5, x102000, x102001, x102002, x102003, x103000, x103001, x103002, x103003 => if x5 < (x102003.length : Int) then (if 0 ≤ x5 then (if x5 < (x103003.length : Int) then (if (rd x102003 x5) = (rd x103003 x5) then (spec_l03Same.l0 k (wrap64 (x5 + 1)) x102000 x102001 x102002 x102003 x103000 x103001 x103002 x103003) else (some false)) else (none)) else (none)) else (some true)
end
def spec_l03Same.f (k : Nat) (a0_0 : Int) (a0_1 : Int) (a0_2 : Int) (l0_3 : List Int) (a1_0 : Int) (a1_1 : Int) (a1_2 : Int) (l1_3 : List Int) : Option (Bool) := if a0_0 = a1_0 then (if a0_1 = a1_1 then (if a0_2 = a1_2 then (spec_l03Same.j0 k ((l0_3.length : Int) != (l1_3.length : Int)) a0_0 a0_1 a0_2 l0_3 a1_0 a1_1 a1_2 l1_3) else (spec_l03Same.j0 k true a0_0 a0_1 a0_2 l0_3 a1_0 a1_1 a1_2 l1_3)) else (spec_l03Same.j0 k true a0_0 a0_1 a0_2 l0_3 a1_0 a1_1 a1_2 l1_3)) else (spec_l03Same.j0 k true a0_0 a0_1 a0_2 l0_3 a1_0 a1_1 a1_2 l1_3)
theorem Z32.z5 {P : Prop} (h : P := by first | rfl | (simp; done) | (simp [*]; done)) : P := h
theorem Z32.z4 {P : Prop} (h : P := by first | rfl | (simp [errW_none, errW_some] <;> rfl) | (simp [*, errW_none, errW_some] <;> rfl)) : P := h
theorem Z32.z3 {P : Prop} (h : P := by first | (with_reducible assumption) | assumption) : P := h
theorem Z32.z2 {P : Prop} (h : P := by exact tgB BK101.out) : P := h
theorem Z32.z1 {P : Prop} (h : P := by exact tgB BK102.out) : P := h
theorem Z32.z0 {P : Prop} (h : P := by repeat (first | (with_reducible first | exact HB.out | apply below_alloc | apply pw_below_drewN | apply below_drew1 | refine below_set ?_ GE101.out | refine below_set ?_ GE102.out) | exact HB.out)) : P := h
set_option maxHeartbeats 8000000 in
set_option maxRecDepth 100000 in
theorem spec_l03Same.calls (k : Nat) (a0_0 : Int) (a0_1 : Int) (a0_2 : Int) (A0_3 : Option Addr) (c0_3 : Nat) (l0_3 : List Int) (a1_0 : Int) (a1_1 : Int) (a1_2 : Int) (A1_3 : Option Addr) (c1_3 : Nat) (l1_3 : List Int) (r : Bool) (w : World) (hr0_3 : Kd.C (Kd.int .i64) w A0_3 l0_3.length l0_3) (hc0_3 : l0_3.length ≤ c0_3) (hr1_3 : Kd.C (Kd.int .i64) w A1_3 l1_3.length l1_3) (hc1_3 : l1_3.length ≤ c1_3) {g0_ : Nat} (hbk0_ : w.heap[g0_]? = some (.cells #[.int .i64 a0_0, .int .i64 a0_1, .int .i64 a0_2, .slice A0_3 l0_3.length c0_3] 28 (0, 0))) {g1_ : Nat} (hbk1_ : w.heap[g1_]? = some (.cells #[.int .i64 a1_0, .int .i64 a1_1, .int .i64 a1_2, .slice A1_3 l1_3.length c1_3] 28 (0, 0))) (h : spec_l03Same.f k a0_0 a0_1 a0_2 l0_3 a1_0 a1_1 a1_2 l1_3 = some r) :
  Calls Tryz.prog 32 #[.pointer (some ⟨g0_, 0, none⟩), .pointer (some ⟨g1_, 0, none⟩)] w fun e w' => e = .returned (.bool r) ∧ Below w.heap.size w w' := by
 have hu28 := Tryz.underlying28
 have HR0_3 := Aside0.mk hr0_3
 have HC0_3 := Aside0.mk hc0_3
 clear hr0_3 hc0_3
 have HR1_3 := Aside0.mk hr1_3
 have HC1_3 := Aside0.mk hc1_3
 clear hr1_3 hc1_3
 have HB := Aside0.mk (Below.refl w.heap.size w)
 have H : (if a0_0 = a1_0 then (if a0_1 = a1_1 then (if a0_2 = a1_2 then (spec_l03Same.j0 k ((l0_3.length : Int) != (l1_3.length : Int)) a0_0 a0_1 a0_2 l0_3 a1_0 a1_1 a1_2 l1_3) else (spec_l03Same.j0 k true a0_0 a0_1 a0_2 l0_3 a1_0 a1_1 a1_2 l1_3)) else (spec_l03Same.j0 k true a0_0 a0_1 a0_2 l0_3 a1_0 a1_1 a1_2 l1_3)) else (spec_l03Same.j0 k true a0_0 a0_1 a0_2 l0_3 a1_0 a1_1 a1_2 l1_3)) = some r := h
 clear h
 have HC3 := Aside0.mk H
 clear H
 go_enter Tryz.func32, Tryz.ntmps32
 have BK101 := Aside0.mk hbk0_
 have BK102 := Aside0.mk hbk1_
 go_upto_region 1 with (first | fail)
 repeat (go_quiet (first | fail); go_upto_region 1 with (first | fail))
 (try simp only [Act.put, List.setIfInBounds_toArray, List.set_cons_zero, List.set_cons_succ])
 go_cut [49] (fun v49 wc => ∃ (kq : Nat) (x49_2 : Bool), v49 = .bool x49_2 ∧ Aside0 (spec_l03Same.j0 kq x49_2 a0_0 a0_1 a0_2 l0_3 a1_0 a1_1 a1_2 l1_3 = some r) ∧ Aside0 (kq ≤ k) ∧ Aside0 (wc.heap[g0_]? = some (.cells #[.int .i64 a0_0, .int .i64 a0_1, .int .i64 a0_2, (.slice A0_3 l0_3.length c0_3)] 28 (0, 0))) ∧ Aside0 (wc.heap[g1_]? = some (.cells #[.int .i64 a1_0, .int .i64 a1_1, .int .i64 a1_2, (.slice A1_3 l1_3.length c1_3)] 28 (0, 0))) ∧ Aside0 (Below w.heap.size w wc))
 case first =>
  have H := HC3.out
  clear HC3
  by_cases c6 : a0_0 = a1_0
  ·rw [if_pos c6] at H
   obtain ⟨c6b0, c6b1⟩ := tge c6
   clear c6
   (first | rw [c6b0] | (simp only [i64_w, i32_w]; rw [c6b0]) | skip)
   by_cases c7 : a0_1 = a1_1
   ·rw [if_pos c7] at H
    obtain ⟨c7b0, c7b1⟩ := tge c7
    clear c7
    by_cases c8 : a0_2 = a1_2
    ·rw [if_pos c8] at H
     obtain ⟨c8b0, c8b1⟩ := tge c8
     clear c8
     have H' := Aside0.mk H
     clear H
     obtain ⟨hcz10_0, hcz10_1, hcz10_2, hcz10_3, hfz10_0, hfz10_1, hfz10_2, hfz10_3⟩ := cells4 BK101.out
     obtain ⟨hcz11_0, hcz11_1, hcz11_2, hcz11_3, hfz11_0, hfz11_1, hfz11_2, hfz11_3⟩ := cells4 BK102.out
     go_wp2
     repeat (go_quiet (fail); try go_wp2)
     go_meet
     case rel => exact ⟨_, (((l0_3.length : Int) != (l1_3.length : Int))), Z32.z5, H', ⟨(by first | omega | exact Nat.le_refl _)⟩, ⟨Z32.z2⟩, ⟨Z32.z1⟩, ⟨Z32.z0⟩⟩
    rw [if_neg c8] at H
    obtain ⟨c8b0, c8b1⟩ := tgn c8
    have H' := Aside0.mk H
    clear H
    obtain ⟨hcz13_0, hcz13_1, hcz13_2, hcz13_3, hfz13_0, hfz13_1, hfz13_2, hfz13_3⟩ := cells4 BK101.out
    obtain ⟨hcz14_0, hcz14_1, hcz14_2, hcz14_3, hfz14_0, hfz14_1, hfz14_2, hfz14_3⟩ := cells4 BK102.out
    go_wp2
    repeat (go_quiet (fail); try go_wp2)
    go_meet
    case rel => exact ⟨_, (true), Z32.z5, H', ⟨(by first | omega | exact Nat.le_refl _)⟩, ⟨Z32.z2⟩, ⟨Z32.z1⟩, ⟨Z32.z0⟩⟩
   rw [if_neg c7] at H
   obtain ⟨c7b0, c7b1⟩ := tgn c7
   have H' := Aside0.mk H
   clear H
   obtain ⟨hcz16_0, hcz16_1, hcz16_2, hcz16_3, hfz16_0, hfz16_1, hfz16_2, hfz16_3⟩ := cells4 BK101.out
   obtain ⟨hcz17_0, hcz17_1, hcz17_2, hcz17_3, hfz17_0, hfz17_1, hfz17_2, hfz17_3⟩ := cells4 BK102.out
   go_wp2
   repeat (go_quiet (fail); try go_wp2)
   go_meet
   case rel => exact ⟨_, (true), Z32.z5, H', ⟨(by first | omega | exact Nat.le_refl _)⟩, ⟨Z32.z2⟩, ⟨Z32.z1⟩, ⟨Z32.z0⟩⟩
  rw [if_neg c6] at H
  obtain ⟨c6b0, c6b1⟩ := tgn c6
  (first | rw [c6b0] | (simp only [i64_w, i32_w]; rw [c6b0]) | skip)
  have H' := Aside0.mk H
  clear H
  obtain ⟨hcz19_0, hcz19_1, hcz19_2, hcz19_3, hfz19_0, hfz19_1, hfz19_2, hfz19_3⟩ := cells4 BK101.out
  obtain ⟨hcz20_0, hcz20_1, hcz20_2, hcz20_3, hfz20_0, hfz20_1, hfz20_2, hfz20_3⟩ := cells4 BK102.out
  go_wp2
  repeat (go_quiet (fail); try go_wp2)
  go_meet
  case rel => exact ⟨_, (true), Z32.z5, H', ⟨(by first | omega | exact Nat.le_refl _)⟩, ⟨Z32.z2⟩, ⟨Z32.z1⟩, ⟨Z32.z0⟩⟩
 case rest =>
  clear HC3
  try clear c1
  try clear p2
  try clear c3
  try clear c6
  try clear c6b0
  try clear c6b1
  try clear c7
  try clear c7b0
  try clear c7b1
  try clear c8
  try clear c8b0
  try clear c8b1
  try clear c9
  try clear c12
  try clear c15
  try clear c18
  try clear hcz10_0
  try clear hcz10_1
  try clear hcz10_2
  try clear hcz10_3
  try clear hcz11_0
  try clear hcz11_1
  try clear hcz11_2
  try clear hcz11_3
  try clear hcz13_0
  try clear hcz13_1
  try clear hcz13_2
  try clear hcz13_3
  try clear hcz14_0
  try clear hcz14_1
  try clear hcz14_2
  try clear hcz14_3
  try clear hcz16_0
  try clear hcz16_1
  try clear hcz16_2
  try clear hcz16_3
  try clear hcz17_0
  try clear hcz17_1
  try clear hcz17_2
  try clear hcz17_3
  try clear hcz19_0
  try clear hcz19_1
  try clear hcz19_2
  try clear hcz19_3
  try clear hcz20_0
  try clear hcz20_1
  try clear hcz20_2
  try clear hcz20_3
  try clear hfz10_0
  try clear hfz10_1
  try clear hfz10_2
  try clear hfz10_3
  try clear hfz11_0
  try clear hfz11_1
  try clear hfz11_2
  try clear hfz11_3
  try clear hfz13_0
  try clear hfz13_1
  try clear hfz13_2
  try clear hfz13_3
  try clear hfz14_0
  try clear hfz14_1
  try clear hfz14_2
  try clear hfz14_3
  try clear hfz16_0
  try clear hfz16_1
  try clear hfz16_2
  try clear hfz16_3
  try clear hfz17_0
  try clear hfz17_1
  try clear hfz17_2
  try clear hfz17_3
  try clear hfz19_0
  try clear hfz19_1
  try clear hfz19_2
  try clear hfz19_3
  try clear hfz20_0
  try clear hfz20_1
  try clear hfz20_2
  try clear hfz20_3
  obtain ⟨kq, x49_2, rfl, HA, HJ2, BK101, BK102, HB⟩ := hcut
  cases kq with
  | zero => exact absurd HA.out (by simp [spec_l03Same.j0])
  | succ kj2 =>
   have H := HA.out
   clear HA
   simp only [spec_l03Same.j0] at H
   by_cases c21 : x49_2 = true
   ·subst c21
    rw [if_pos rfl] at H
    obtain rfl := Option.some.inj H
    go_wp2
    repeat (go_quiet (fail); try go_wp2)
    go_ret
    exact ⟨Z32.z4, Z32.z0⟩
   replace c21 := Bool.eq_false_iff.mpr c21
   subst c21
   rw [if_neg (show ¬ (false = true) by decide)] at H
   have H' := Aside0.mk H
   clear H
   go_wp2
   repeat (go_quiet (fail); try go_wp2)
   go_loopg [5] kj2 (fun kq v5 w' => ∃ (x5_2 : Int), v5 = .int .i64 x5_2 ∧ Aside0 (spec_l03Same.l0 kq x5_2 a0_0 a0_1 a0_2 l0_3 a1_0 a1_1 a1_2 l1_3 = some r) ∧ Aside0 (kq ≤ kj2) ∧ Aside0 (w'.heap[g0_]? = some (.cells #[.int .i64 a0_0, .int .i64 a0_1, .int .i64 a0_2, (.slice A0_3 l0_3.length c0_3)] 28 (0, 0))) ∧ Aside0 (w'.heap[g1_]? = some (.cells #[.int .i64 a1_0, .int .i64 a1_1, .int .i64 a1_2, (.slice A1_3 l1_3.length c1_3)] 28 (0, 0))) ∧ Aside0 (Below w.heap.size w w'))
   case atStart => exact ⟨(0), Z32.z5, H', ⟨Nat.le_refl _⟩, ⟨Z32.z2⟩, ⟨Z32.z1⟩, ⟨Z32.z0⟩⟩
   case round =>
    clear H'
    try clear c1
    try clear c2
    try clear p2
    try clear c3
    try clear c6
    try clear c6b0
    try clear c6b1
    try clear c7
    try clear c7b0
    try clear c7b1
    try clear c8
    try clear c8b0
    try clear c8b1
    try clear c9
    try clear c12
    try clear c15
    try clear c18
    try clear c21
    try clear hcz10_0
    try clear hcz10_1
    try clear hcz10_2
    try clear hcz10_3
    try clear hcz11_0
    try clear hcz11_1
    try clear hcz11_2
    try clear hcz11_3
    try clear hcz13_0
    try clear hcz13_1
    try clear hcz13_2
    try clear hcz13_3
    try clear hcz14_0
    try clear hcz14_1
    try clear hcz14_2
    try clear hcz14_3
    try clear hcz16_0
    try clear hcz16_1
    try clear hcz16_2
    try clear hcz16_3
    try clear hcz17_0
    try clear hcz17_1
    try clear hcz17_2
    try clear hcz17_3
    try clear hcz19_0
    try clear hcz19_1
    try clear hcz19_2
    try clear hcz19_3
    try clear hcz20_0
    try clear hcz20_1
    try clear hcz20_2
    try clear hcz20_3
    try clear hfz10_0
    try clear hfz10_1
    try clear hfz10_2
    try clear hfz10_3
    try clear hfz11_0
    try clear hfz11_1
    try clear hfz11_2
    try clear hfz11_3
    try clear hfz13_0
    try clear hfz13_1
    try clear hfz13_2
    try clear hfz13_3
    try clear hfz14_0
    try clear hfz14_1
    try clear hfz14_2
    try clear hfz14_3
    try clear hfz16_0
    try clear hfz16_1
    try clear hfz16_2
    try clear hfz16_3
    try clear hfz17_0
    try clear hfz17_1
    try clear hfz17_2
    try clear hfz17_3
    try clear hfz19_0
    try clear hfz19_1
    try clear hfz19_2
    try clear hfz19_3
    try clear hfz20_0
    try clear hfz20_1
    try clear hfz20_2
    try clear hfz20_3
    try clear p2
    obtain ⟨x5_2, rfl, HA, HK2, BK101, BK102, HB⟩ := hrel
    cases gk with
    | zero => exact absurd HA.out (by simp [spec_l03Same.l0])
    | succ k2 =>
     have H := HA.out
     clear HA
     simp only [spec_l03Same.l0] at H
     by_cases c22 : x5_2 < (l0_3.length : Int)
     ·rw [if_pos c22] at H
      have c22b0 := decide_eq_true c22; clear c22
      by_cases c23 : 0 ≤ x5_2
      ·rw [if_pos c23] at H
       have c23b0 := decide_eq_true c23; clear c23
       by_cases c24 : x5_2 < (l1_3.length : Int)
       ·rw [if_pos c24] at H
        have c24b0 := decide_eq_true c24; clear c24
        by_cases c25 : (rd l0_3 x5_2) = (rd l1_3 x5_2)
        ·rw [if_pos c25] at H
         obtain ⟨c25b0, c25b1⟩ := tge c25; clear c25; have H' := Aside0.mk H; clear H; obtain ⟨hcz27_0, hcz27_1, hcz27_2, hcz27_3, hfz27_0, hfz27_1, hfz27_2, hfz27_3⟩ := cells4 BK101.out; have p103 : 0 ≤ (x5_2 : Int) := of_decide_eq_true Z32.z3; have q103 : x5_2 < (l0_3.length : Int) := of_decide_eq_true Z32.z3; obtain ⟨ad103, e103, hx103_0⟩ := Kd.at_int HR0_3.out x5_2 p103 q103; cases e103; replace hx103_0 := (HB.out.cell (World.block_lt_of_cell? w _ hx103_0)).trans hx103_0; replace p103 := eq_true p103; replace q103 := eq_true q103; obtain ⟨hcz28_0, hcz28_1, hcz28_2, hcz28_3, hfz28_0, hfz28_1, hfz28_2, hfz28_3⟩ := cells4 BK102.out; have p104 : 0 ≤ (x5_2 : Int) := of_decide_eq_true Z32.z3; have q104 : x5_2 < (l1_3.length : Int) := of_decide_eq_true Z32.z3; obtain ⟨ad104, e104, hx104_0⟩ := Kd.at_int HR1_3.out x5_2 p104 q104; cases e104; replace hx104_0 := (HB.out.cell (World.block_lt_of_cell? w _ hx104_0)).trans hx104_0; replace p104 := eq_true p104; replace q104 := eq_true q104
         go_wp2
         repeat (go_quiet (fail); try go_wp2)
         go_roundg k2
         case measure => have := HJ2.out; have := HK2.out; omega
         case rel => exact ⟨(wrap64 (x5_2 + 1)), Z32.z5, H', ⟨(by have := HJ2.out; have := HK2.out; omega)⟩, ⟨Z32.z2⟩, ⟨Z32.z1⟩, ⟨Z32.z0⟩⟩
        rw [if_neg c25] at H; obtain ⟨c25b0, c25b1⟩ := tgn c25; obtain rfl := Option.some.inj H; obtain ⟨hcz30_0, hcz30_1, hcz30_2, hcz30_3, hfz30_0, hfz30_1, hfz30_2, hfz30_3⟩ := cells4 BK101.out; have p103 : 0 ≤ (x5_2 : Int) := of_decide_eq_true Z32.z3; have q103 : x5_2 < (l0_3.length : Int) := of_decide_eq_true Z32.z3; obtain ⟨ad103, e103, hx103_0⟩ := Kd.at_int HR0_3.out x5_2 p103 q103; cases e103; replace hx103_0 := (HB.out.cell (World.block_lt_of_cell? w _ hx103_0)).trans hx103_0; replace p103 := eq_true p103; replace q103 := eq_true q103; obtain ⟨hcz31_0, hcz31_1, hcz31_2, hcz31_3, hfz31_0, hfz31_1, hfz31_2, hfz31_3⟩ := cells4 BK102.out; have p104 : 0 ≤ (x5_2 : Int) := of_decide_eq_true Z32.z3; have q104 : x5_2 < (l1_3.length : Int) := of_decide_eq_true Z32.z3; obtain ⟨ad104, e104, hx104_0⟩ := Kd.at_int HR1_3.out x5_2 p104 q104; cases e104; replace hx104_0 := (HB.out.cell (World.block_lt_of_cell? w _ hx104_0)).trans hx104_0; replace p104 := eq_true p104; replace q104 := eq_true q104
        go_wp2
        repeat (go_quiet (fail); try go_wp2)
        go_ret
        exact ⟨Z32.z4, Z32.z0⟩
       rw [if_neg c24] at H; exact absurd H (by simp)
      rw [if_neg c23] at H; exact absurd H (by simp)
     rw [if_neg c22] at H
     have c22b0 := decide_eq_false c22
     clear c22
     obtain rfl := Option.some.inj H
     obtain ⟨hcz33_0, hcz33_1, hcz33_2, hcz33_3, hfz33_0, hfz33_1, hfz33_2, hfz33_3⟩ := cells4 BK101.out
     go_wp2
     repeat (go_quiet (fail); try go_wp2)
     go_ret
     exact ⟨Z32.z4, Z32.z0⟩
/-! ### spec_SameMatrix: function 12 -/
def spec_SameMatrix.f (k : Nat) (a0_0 : Int) (a0_1 : Int) (a0_2 : Int) (l0_3 : List Int) (a1_0 : Int) (a1_1 : Int) (a1_2 : Int) (l1_3 : List Int) : Option (Bool) := (spec_l03Same.f k a0_0 a0_1 a0_2 l0_3 a1_0 a1_1 a1_2 l1_3).bind fun t103 => (some t103)
theorem Z12.z3 {P : Prop} (h : P := by repeat (first | (with_reducible first | exact HB.out | apply below_alloc | apply pw_below_drewN | apply below_drew1 | refine below_set ?_ GE101.out | refine below_set ?_ GE102.out) | exact HB.out)) : P := h
theorem Z12.z2 {P : Prop} (h : P := by repeat (first | (with_reducible first | exact HB.out | apply below_alloc | apply pw_below_drewN | apply below_drew1) | exact HB.out)) : P := h
theorem Z12.z1 {P : Prop} (h : P := by repeat (first | (with_reducible first | exact HB.out | apply below_alloc | apply pw_below_drewN | apply below_drew1 | refine below_set ?_ GE101.out) | exact HB.out)) : P := h
theorem Z12.z0 {P : Prop} (h : P := by exact tgB BK101.out) : P := h
set_option maxHeartbeats 8000000 in
set_option maxRecDepth 100000 in
theorem spec_SameMatrix.calls (k : Nat) (a0_0 : Int) (a0_1 : Int) (a0_2 : Int) (A0_3 : Option Addr) (c0_3 : Nat) (l0_3 : List Int) (a1_0 : Int) (a1_1 : Int) (a1_2 : Int) (A1_3 : Option Addr) (c1_3 : Nat) (l1_3 : List Int) (r : Bool) (w : World) (hr0_3 : Kd.C (Kd.int .i64) w A0_3 l0_3.length l0_3) (hc0_3 : l0_3.length ≤ c0_3) (hr1_3 : Kd.C (Kd.int .i64) w A1_3 l1_3.length l1_3) (hc1_3 : l1_3.length ≤ c1_3) (h : spec_SameMatrix.f k a0_0 a0_1 a0_2 l0_3 a1_0 a1_1 a1_2 l1_3 = some r) :
  Calls Tryz.prog 12 #[.agg #[.int .i64 a0_0, .int .i64 a0_1, .int .i64 a0_2, .slice A0_3 l0_3.length c0_3], .agg #[.int .i64 a1_0, .int .i64 a1_1, .int .i64 a1_2, .slice A1_3 l1_3.length c1_3]] w fun e w' => e = .returned (.bool r) ∧ Below w.heap.size w w' := by
 have hu28 := Tryz.underlying28
 have HR0_3 := Aside0.mk hr0_3
 have HC0_3 := Aside0.mk hc0_3
 clear hr0_3 hc0_3
 have HR1_3 := Aside0.mk hr1_3
 have HC1_3 := Aside0.mk hc1_3
 clear hr1_3 hc1_3
 have HB := Aside0.mk (Below.refl w.heap.size w)
 have H : ((spec_l03Same.f k a0_0 a0_1 a0_2 l0_3 a1_0 a1_1 a1_2 l1_3).bind fun t103 => (some t103)) = some r := h
 clear h
 replace H := Option.bind_eq_some_iff.mp H
 obtain ⟨t103, A30, H⟩ := H
 replace H : (some t103) = some r := H
 have A3 := Aside0.mk A30
 clear A30
 obtain rfl := Option.some.inj H
 go_enter Tryz.func12, Tryz.ntmps12
 go_wp2_with (first | ((with_reducible refine gate_dst (N := 2) rfl ?_); refine box_event ?hg (N := 2) ?hd (cs := #[.int .i64 a0_0, .int .i64 a0_1, .int .i64 a0_2, .slice A0_3 l0_3.length c0_3]) (t := 28) ?hr ?_; (case hd => rfl); (case hg => rfl); (case hr => first | (go_simp; done) | (go_simp; rfl)); intro gb101 hg w4 hbox hb; have BK101 := Aside0.mk (hbox); have GW101 := Aside0.mk (show w.heap.size ≤ gb101 from (by rw [hg]; exact (below_size Z12.z2))); have GE101 := Aside0.mk (show w.heap.size ≤ gb101 from (by rw [hg]; exact (below_size Z12.z2))); replace HB := Aside0.mk (below_step Z12.z2 hb); clear hb hbox hg) | ((with_reducible refine gate_dst (N := 3) rfl ?_); refine box_event ?hg (N := 3) ?hd (cs := #[.int .i64 a1_0, .int .i64 a1_1, .int .i64 a1_2, .slice A1_3 l1_3.length c1_3]) (t := 28) ?hr ?_; (case hd => rfl); (case hg => rfl); (case hr => first | (go_simp; done) | (go_simp; rfl)); intro gb102 hg w5 hbox hb; have BK102 := Aside0.mk (hbox); have GW102 := Aside0.mk (show w.heap.size ≤ gb102 from (by rw [hg]; exact (below_size Z12.z1))); have GE102 := Aside0.mk (show w.heap.size ≤ gb102 from (by rw [hg]; exact (below_size Z12.z1))); have NB101_102 := Aside0.mk (show gb101 ≠ gb102 from (by rw [hg]; exact Nat.ne_of_lt (tgbl BK101 Z12.z0))); have NB102_101 := Aside0.mk (show gb102 ≠ gb101 from (by rw [hg]; exact Nat.ne_of_gt (tgbl BK101 Z12.z0))); replace BK101 := Aside0.mk (tgbb BK101 Z12.z0 hb); replace HB := Aside0.mk (below_step Z12.z1 hb); clear hb hbox hg) | ((with_reducible refine gate_callee (f := 32) rfl ?_); refine goesL_ (some 5) rfl rfl Tryz.func32 (by kernel_rfl) rfl #[.pointer (some ⟨gb101, 0, none⟩), .pointer (some ⟨gb102, 0, none⟩)] rfl (by (try simp only [List.map_toArray, List.map_cons, List.map_nil]); first | done | rfl | (simp only [List.length_drop, List.length_take]; rfl)) ?_; (with_reducible refine (spec_l03Same.calls k a0_0 a0_1 a0_2 A0_3 c0_3 l0_3 a1_0 a1_1 a1_2 A1_3 c1_3 l1_3 t103 _ ?side1 ?side2 ?side3 ?side4 ?side5 ?side6 A3.out).mono ?_); (case side1 => exact (by repeat (first | exact (Kd.C_below HR0_3.out HB.out) | (with_reducible refine Kd.C_alloc ?_ _) | (with_reducible refine Kd.C_drewN ?_ _) | (with_reducible refine Kd.C_drew ?_)))); (case side2 => exact HC0_3.out); (case side3 => exact (by repeat (first | exact (Kd.C_below HR1_3.out HB.out) | (with_reducible refine Kd.C_alloc ?_ _) | (with_reducible refine Kd.C_drewN ?_ _) | (with_reducible refine Kd.C_drew ?_)))); (case side4 => exact HC1_3.out); (case side5 => exact Z12.z0); (case side6 => exact (tgB BK102.out)); rintro e w6 ⟨rfl, hb⟩; refine ⟨_, rfl, ?_⟩; replace BK101 := Aside0.mk (tgbb BK101 Z12.z0 hb); replace BK102 := Aside0.mk (tgbb BK102 (tgB BK102.out) hb); replace HB := Aside0.mk (below_step Z12.z3 hb); (try clear hb); (try clear hi)))
 go_ret
 exact ⟨(by first | rfl | (simp [errW_none, errW_some] <;> rfl) | (simp [*, errW_none, errW_some] <;> rfl)), Z12.z3⟩
/-! ### spec_R8List: function 13 -/
def spec_R8List.l0 : Nat → Int → Int → List Int → Int → List Int → Int → Int → Option (List Int)
  | 0, _, _, _, _, _, _, _ => none
  | k + 1, x1, x2, x8, x9, x105000, x105001, x105002 => if x9 < x1 then ((spec_l00Src_pick.f x105000 x105001 x105002 x2).bind fun bt108 => (if x8.length < 17592186044416 then (spec_R8List.l0 k x1 x2 (x8 ++ [bt108.1]) (wrap64 (x9 + 1)) x105000 bt108.2.1 bt108.2.2) else (none))) else (some x8)
def spec_R8List.f (k : Nat) (l0 : List Int) (a1 : Int) (a2 : Int) : Option (List Int) := (spec_l00From.f l0).bind fun bt101 => (spec_R8List.l0 k a1 a2 (([] : List Int)) 0 bt101.1 bt101.2.1 bt101.2.2)
theorem spec_R8List.mono_l : ∀ k, (∀ y0 y1 y2 y3 y4 y5 y6, LeO (spec_R8List.l0 k y0 y1 y2 y3 y4 y5 y6) (spec_R8List.l0 (k + 1) y0 y1 y2 y3 y4 y5 y6))
  | 0 => fun _ _ _ _ _ _ _ r h => by simp [spec_R8List.l0] at h
  | k + 1 => by
    have ih0 := spec_R8List.mono_l k
    · intro y0 y1 y2 y3 y4 y5 y6
      unfold spec_R8List.l0
      repeat' first
      | (with_reducible exact ih0 _ _ _ _ _ _ _)
      | (with_reducible exact LeO.refl _)
      | (with_reducible exact LeO.none _)
      | (with_reducible refine LeO.ite ?_ ?_)
      | (with_reducible refine LeO.bind ?_ (fun _ => ?_))
      | exact ih0 _ _ _ _ _ _ _
      | exact LeO.none _
      | refine LeO.ite ?_ ?_
      | refine LeO.bind ?_ (fun _ => ?_)
theorem spec_R8List.mono : ∀ a0 a1 a2 k, LeO (spec_R8List.f k a0 a1 a2) (spec_R8List.f (k + 1) a0 a1 a2) := by
  intro a0 a1 a2 k
  have ih0 := spec_R8List.mono_l k
  unfold spec_R8List.f
  repeat' first
      | (with_reducible exact ih0 _ _ _ _ _ _ _)
      | (with_reducible exact LeO.refl _)
      | (with_reducible exact LeO.none _)
      | (with_reducible refine LeO.ite ?_ ?_)
      | (with_reducible refine LeO.bind ?_ (fun _ => ?_))
      | exact ih0 _ _ _ _ _ _ _
      | exact LeO.none _
      | refine LeO.ite ?_ ?_
      | refine LeO.bind ?_ (fun _ => ?_)
theorem Z13.z3 {P : Prop} (h : P := by (try simp only [List.map_toArray, List.map_cons, List.map_nil]); first | done | rfl | (simp only [List.length_drop, List.length_take]; rfl)) : P := h
theorem Z13.z2 {P : Prop} (h : P := by exact tgR HO_8.out) : P := h
theorem Z13.z1 {P : Prop} (h : P := by repeat (first | (with_reducible first | exact HI104.out | apply IsS74.alloc | apply IsS74.drewN | apply IsS74.drew | apply IsS74.set_1 | apply IsS74.set_2) | exact HI104.out)) : P := h
theorem Z13.z0 {P : Prop} (h : P := by repeat (first | (with_reducible first | exact HB.out | apply below_alloc | apply pw_below_drewN | apply below_drew1 | refine below_set ?_ (IsS74.ge HI104.out)) | exact HB.out)) : P := h
set_option maxHeartbeats 8000000 in
set_option maxRecDepth 100000 in
theorem spec_R8List.calls (k : Nat) (A0 : Option Addr) (c0 : Nat) (l0 : List Int) (a1 : Int) (a2 : Int) (r : List Int) (w : World) (hr0 : Kd.C (Kd.int .u8) w A0 l0.length l0) (hc0 : l0.length ≤ c0) (h : spec_R8List.f k l0 a1 a2 = some r) :
  Calls Tryz.prog 13 #[.slice A0 l0.length c0, .int .i64 a1, .int .i64 a2] w fun e w' => ∃ v0_ : Value, e = .returned (v0_) ∧ Kd.R (Kd.int .i64) 2 w' w.heap.size (fun _ => True) v0_ r ∧ Below w.heap.size w w' := by
 have HR0 := Aside0.mk hr0
 have HC0 := Aside0.mk hc0
 clear hr0 hc0
 have HB := Aside0.mk (Below.refl w.heap.size w)
 have H : ((spec_l00From.f l0).bind fun bt101 => (spec_R8List.l0 k a1 a2 (([] : List Int)) 0 bt101.1 bt101.2.1 bt101.2.2)) = some r := h
 clear h
 replace H := Option.bind_eq_some_iff.mp H
 obtain ⟨⟨t101, t102, t103⟩, A40, H⟩ := H
 replace H : (spec_R8List.l0 k a1 a2 (([] : List Int)) 0 t101 t102 t103) = some r := H
 have A4 := Aside0.mk A40
 clear A40
 obtain ⟨y105, hy105⟩ : ∃ y_ : List Int, y_ = (([] : List Int)) := ⟨_, rfl⟩
 replace H : (spec_R8List.l0 k a1 a2 y105 0 t101 t102 t103) = some r := by first | (rw [hy105]; with_reducible exact H) | (have H2_ := (Option.bind_some _ _).symm.trans H; rw [hy105]; with_reducible exact H2_) | (have H2_ := (Option.bind_some _ _).symm.trans H; with_reducible exact H2_) | with_reducible exact H | (rw [hy105]; exact H) | exact H
 have Ny105 := Aside0.mk hy105
 clear hy105
 have H' := Aside0.mk H
 clear H
 go_enter Tryz.func13, Tryz.ntmps13
 go_wp2_with (first | ((with_reducible refine gate_callee (f := 19) rfl ?_); refine goesL_ (some 11) rfl rfl Tryz.func19 (by kernel_rfl) rfl #[.slice A0 l0.length c0] rfl Z13.z3 ?_; (with_reducible refine (spec_l00From.calls _ _ l0 t101 t102 t103 w _ ?side1 ?side2 ?side3 A4.out).mono ?_); (case side1 => exact (by repeat (first | (with_reducible first | exact HB.out | apply below_alloc | apply pw_below_drewN | apply below_drew1) | exact HB.out))); (case side2 => exact HR0.out); (case side3 => exact HC0.out); rintro e w5 ⟨g104, rfl, hi, hb, hb2⟩; refine ⟨_, rfl, ?_⟩; have HI104 := Aside0.mk (hi); replace HB := Aside0.mk (hb); (try clear hb); (try clear hb2); (try clear hi)) | ((with_reducible refine gate_dst (N := 12) rfl ?_); refine Kd.R_lit (Kd.int .i64) _ 2 ?hg (N := 12) ?hd (xs := ([] : List Int)) (inner := []) (ok := fun _ => True) (okp := fun _ => True) ?hr ?hp (fun _ hk => hk) trivial (Below.refl _ _) (Nat.le_refl _) (by simp) ?_; (case hd => rfl); (case hg => rfl); (case hr => first | (go_simp; done) | (go_simp; rfl)); (case hp => exact (Reps.none _ _)); intro v106 w6 ho7 hb hg_ hnew_; clear hg_ hnew_; (first | rw [← Ny105.out] at ho7 | (simp only [Int.reduceToNat] at ho7; rw [← Ny105.out] at ho7)); have HO107 := Aside0.mk (Kd.R_lower ho7 (below_size Z13.z0)); replace HB := Aside0.mk (below_step Z13.z0 hb); replace HI104 := Aside0.mk (IsS74.below Z13.z1 hb); clear hb ho7))
 go_loopg [8, 9] k (fun kq v8 v9 w' => ∃ (x8_1 : List Int) (x9_1 : Int) (x105001_1 : Int) (x105002_1 : Int), v9 = .int .i64 x9_1 ∧ Aside0 (spec_R8List.l0 kq a1 a2 x8_1 x9_1 t101 x105001_1 x105002_1 = some r) ∧ Aside0 (kq ≤ k) ∧ Aside0 (Kd.R (Kd.int .i64) 2 w' w.heap.size (fun _ => True) v8 x8_1) ∧ Aside0 (IsS74 w w' g104 t101 x105001_1 x105002_1) ∧ Aside0 (Below w.heap.size w w'))
 case atStart => exact ⟨(y105), (0), (t102), (t103), (by first | rfl | (simp; done) | (simp [*]; done)), H', ⟨Nat.le_refl _⟩, ⟨(tgR HO107.out)⟩, ⟨Z13.z1⟩, ⟨Z13.z0⟩⟩
 case round =>
  clear H'
  try clear c1
  try clear p2
  obtain ⟨x8_1, x9_1, x105001_1, x105002_1, rfl, HA, HK1, HO_8, HI104, HB⟩ := hrel
  cases gk with
  | zero => exact absurd HA.out (by simp [spec_R8List.l0])
  | succ k1 =>
   have H := HA.out
   clear HA
   simp only [spec_R8List.l0] at H
   by_cases c8 : x9_1 < a1
   ·rw [if_pos c8] at H
    have c8b0 := decide_eq_true c8
    clear c8
    replace H := Option.bind_eq_some_iff.mp H
    obtain ⟨⟨t108, t109, t110⟩, A90, H⟩ := H
    (try dsimp only at H)
    have A9 := Aside0.mk A90
    clear A90
    by_cases c10 : x8_1.length < 17592186044416
    ·rw [if_pos c10] at H
     have LMc10 := Aside0.mk c10
     clear c10
     obtain ⟨y111, hy111⟩ : ∃ y_ : List Int, y_ = (x8_1 ++ [t108]) := ⟨_, rfl⟩
     replace H : (spec_R8List.l0 k1 a1 a2 y111 (wrap64 (x9_1 + 1)) t101 t109 t110) = some r := by first | (rw [hy111]; with_reducible exact H) | (have H2_ := (Option.bind_some _ _).symm.trans H; rw [hy111]; with_reducible exact H2_) | (have H2_ := (Option.bind_some _ _).symm.trans H; with_reducible exact H2_) | with_reducible exact H | (rw [hy111]; exact H) | exact H
     have Ny111 := Aside0.mk hy111
     clear hy111
     have H' := Aside0.mk H
     clear H
     go_wp2_with (first | ((with_reducible refine gate_callee (f := 33) rfl ?_); refine goesL_ (some 21) rfl rfl Tryz.func33 (by kernel_rfl) rfl #[.pointer (some ⟨g104, 0, none⟩), .int .i64 a2] rfl Z13.z3 ?_; (with_reducible refine (spec_l00Src_pick.calls g104 t101 x105001_1 x105002_1 a2 t108 t109 t110 w _ ?side1 ?side2 A9.out).mono ?_); (case side1 => exact Z13.z1); (case side2 => exact Z13.z0); rintro e w11 ⟨rfl, hi, hb, hk⟩; refine ⟨_, rfl, ?_⟩; replace HO_8 := Aside0.mk (Kd.R_mono (Kd.R_keep (IsS74.apart (show IsS74 w _ g104 t101 x105001_1 x105002_1 from by repeat (first | (with_reducible first | exact HI104.out | apply IsS74.alloc | apply IsS74.drewN | apply IsS74.drew | apply IsS74.set_1 | apply IsS74.set_2) | exact HI104.out)) Z13.z2 (by decide)) hk (fun _ h => h.2)) (fun _ h => h.1)); replace HB := Aside0.mk (hb); replace HI104 := Aside0.mk (hi); (try clear hb); (try clear hk); (try clear hi)) | ((with_reducible refine gate_builtin (b := .append) (xs := #[.tmp 18, .tmp 22]) rfl ?_); at_builtin; refine Kd.R_append (Kd.int .i64) (w0 := w) w.heap.size rfl (.tmp 18) (.tmp 22) 26 2 (.int .i64 0) 8 rfl Tryz.underlying26 info2 rfl (by decide) (by omega) u8 x8_1 t108 [.int .i64 t108] (fun _ => True) (fun _ => False) rfl rfl ?aP (fun _ hk => hk.elim) ?aF ?aO ?aB ?aS ?aL ?_; (case aP => exact rfl); (case aB => exact Z13.z0); (case aF => exact (fun _ _ => trivial)); (case aO => exact Z13.z2); (case aS => exact (below_size Z13.z0)); (case aL => have := LMc10.out; omega); intro v112 w12 ho hb hg hat; rw [← Ny111.out] at ho; have HO113 := Aside0.mk (ho); replace HI104 := Aside0.mk (IsS74.grown Z13.z1 hg (IsS74.own_ne HI104.out HO_8.out (by decide))); replace HB := Aside0.mk (hb); clear HO_8; clear ho hb hg hat))
     go_roundg k1
     case measure => have := HK1.out; omega
     case rel => exact ⟨(y111), (wrap64 (x9_1 + 1)), (t109), (t110), (by first | rfl | (simp; done) | (simp [*]; done)), H', ⟨(by have := HK1.out; omega)⟩, ⟨(tgR HO113.out)⟩, ⟨Z13.z1⟩, ⟨Z13.z0⟩⟩
    rw [if_neg c10] at H
    exact absurd H (by simp)
   rw [if_neg c8] at H
   have c8b0 := decide_eq_false c8
   clear c8
   obtain rfl := Option.some.inj H
   go_wp2
   go_ret
   exact ⟨_, (by first | rfl | (simp [errW_none, errW_some] <;> rfl) | (simp [*, errW_none, errW_some] <;> rfl)), Z13.z2, Z13.z0⟩
/-! ### impl_apply: function 36 -/
def impl_apply.l0 : Nat → List Int → List Int → Int → Int → Int → Int → Int → List Int → Option (List Int)
  | 0, _, _, _, _, _, _, _, _ => none
  | k + 1, x1, x5, x8, x9, x102000, x102001, x102002, x102003 => if x9 < x8 then ((impl_Matrix_row.f k x102000 x102001 x102002 x102003 x9 x1 x102000).bind fun t102 => (if x5.length < 17592186044416 then (impl_apply.l0 k x1 (x5 ++ [t102]) x8 (wrap64 (x9 + 1)) x102000 x102001 x102002 x102003) else (none))) else (some x5)
def impl_apply.f (k : Nat) (a0_0 : Int) (a0_1 : Int) (a0_2 : Int) (l0_3 : List Int) (l1 : List Int) : Option (List Int) := impl_apply.l0 k l1 ([] : List Int) a0_1 0 a0_0 a0_1 a0_2 l0_3
def impl_apply.T5 : Bool × List (List Nat × List Nat) := (true, [([], []), ([], []), ([], []), ([1, 2], [1, 2]), ([], []), ([], []), ([5], [5]), ([3, 4, 6, 3], [3, 4, 6]), ([7], [7]), ([0, 8, 7], [0, 8]), ([9, 9, 0, 1, 2, 3, 4, 5, 6, 7, 8, 9], [0, 9])])
def impl_apply.B5 : List Nat := [0, 0, 0, 6, 0, 0, 32, 126, 254, 511, 1023]
theorem impl_apply.tab5 : rtab .any (opsOf Tryz.f36 5) = impl_apply.T5 := by kernel_rfl
theorem impl_apply.bits5 : waitsOk impl_apply.T5.2 impl_apply.B5 = true := by kernel_rfl
theorem Z36.z6 {P : Prop} (h : P := by (try simp only [List.map_toArray, List.map_cons, List.map_nil]); first | done | rfl | (simp only [List.length_drop, List.length_take]; rfl)) : P := h
theorem Z36.z5 {P : Prop} (h : P := by repeat (first | (with_reducible first | exact HB.out | apply below_alloc | apply pw_below_drewN | apply below_drew1) | exact HB.out)) : P := h
theorem Z36.z4 {P : Prop} (h : P := by exact tgR HO_5.out) : P := h
theorem Z36.z3 {P : Prop} (h : P := by exact ⟨(blk_cell BK101.out 0).trans rfl, (blk_cell BK101.out 1).trans rfl, (blk_cell BK101.out 2).trans rfl, (blk_cell BK101.out 3).trans rfl⟩) : P := h
theorem Z36.z2 {P : Prop} (h : P := by exact tgB BK101.out) : P := h
theorem Z36.z1 {P : Prop} (h : P := by simp only [Act.put, List.setIfInBounds_toArray, List.set_cons_zero, List.set_cons_succ, i64_w, i32_w]; rfl) : P := h
theorem Z36.z0 {P : Prop} (h : P := by repeat (first | (with_reducible first | exact HB.out | apply below_alloc | apply pw_below_drewN | apply below_drew1 | refine below_set ?_ GE101.out) | exact HB.out)) : P := h
set_option maxHeartbeats 8000000 in
set_option maxRecDepth 100000 in
theorem impl_apply.calls (k : Nat) (a0_0 : Int) (a0_1 : Int) (a0_2 : Int) (A0_3 : Option Addr) (c0_3 : Nat) (l0_3 : List Int) (A1 : Option Addr) (c1 : Nat) (l1 : List Int) (r : List Int) (w : World) (hr0_3 : Kd.C (Kd.int .i64) w A0_3 l0_3.length l0_3) (hc0_3 : l0_3.length ≤ c0_3) (hr1 : Kd.C (Kd.int .i64) w A1 l1.length l1) (hc1 : l1.length ≤ c1) (h : impl_apply.f k a0_0 a0_1 a0_2 l0_3 l1 = some r) :
  Calls Tryz.prog 36 #[.agg #[.int .i64 a0_0, .int .i64 a0_1, .int .i64 a0_2, .slice A0_3 l0_3.length c0_3], .slice A1 l1.length c1] w fun e w' => ∃ v0_ : Value, e = .returned (v0_) ∧ Kd.R (Kd.int .i64) 2 w' w.heap.size (fun _ => True) v0_ r ∧ Below w.heap.size w w' := by
 have hu28 := Tryz.underlying28
 have HR0_3 := Aside0.mk hr0_3
 have HC0_3 := Aside0.mk hc0_3
 clear hr0_3 hc0_3
 have HR1 := Aside0.mk hr1
 have HC1 := Aside0.mk hc1
 clear hr1 hc1
 have HB := Aside0.mk (Below.refl w.heap.size w)
 have H : (impl_apply.l0 k l1 ([] : List Int) a0_1 0 a0_0 a0_1 a0_2 l0_3) = some r := h
 clear h
 have H' := Aside0.mk H
 clear H
 go_enter Tryz.func36, Tryz.ntmps36
 go_wp2_with (first | ((with_reducible refine gate_dst (N := 2) rfl ?_); refine box_event ?hg (N := 2) ?hd (cs := #[.int .i64 a0_0, .int .i64 a0_1, .int .i64 a0_2, .slice A0_3 l0_3.length c0_3]) (t := 28) ?hr ?_; (case hd => rfl); (case hg => rfl); (case hr => first | (go_simp; done) | (go_simp; rfl)); intro gb101 hg w3 hbox hb; have BK101 := Aside0.mk (hbox); have GW101 := Aside0.mk (show w.heap.size ≤ gb101 from (by rw [hg]; exact (below_size Z36.z5))); have GE101 := Aside0.mk (show w.heap.size ≤ gb101 from (by rw [hg]; exact (below_size Z36.z5))); replace HB := Aside0.mk (below_step Z36.z5 hb); clear hb hbox hg; obtain ⟨hcz4_0, hcz4_1, hcz4_2, hcz4_3, hfz4_0, hfz4_1, hfz4_2, hfz4_3⟩ := cells4 BK101.out))
 go_loopg [5, 9] k (fun kq v5 v9 w' => ∃ (x5_1 : List Int) (x9_1 : Int), v9 = .int .i64 x9_1 ∧ Aside0 (impl_apply.l0 kq l1 x5_1 a0_1 x9_1 a0_0 a0_1 a0_2 l0_3 = some r) ∧ Aside0 (kq ≤ k) ∧ Aside0 (Kd.R (Kd.int .i64) 2 w' w.heap.size (fun _ => True) v5 x5_1) ∧ Aside0 (w'.heap[gb101]? = some (.cells #[.int .i64 a0_0, .int .i64 a0_1, .int .i64 a0_2, (.slice A0_3 l0_3.length c0_3)] 28 (0, 0))) ∧ Aside0 (Below w.heap.size w w'))
 case atStart => exact ⟨(([] : List Int)), (0), (by first | rfl | (simp; done) | (simp [*]; done)), H', ⟨Nat.le_refl _⟩, ⟨(by first | exact Kd.R_nil _ _ _ _ _ | exact Kd.N_nil _ _ _ _ _ | exact Kd.V_nil _ _ _ _ _ | exact Kd.Q_nil _ _ _ _ _ | exact Kd.S_nil _ _ _ _ _)⟩, ⟨Z36.z2⟩, ⟨Z36.z0⟩⟩
 case round =>
  clear H'
  try clear c1
  try clear p2
  try clear c3
  try clear hcz4_0
  try clear hcz4_1
  try clear hcz4_2
  try clear hcz4_3
  try clear hfz4_0
  try clear hfz4_1
  try clear hfz4_2
  try clear hfz4_3
  obtain ⟨x5_1, x9_1, rfl, HA, HK1, HO_5, BK101, HB⟩ := hrel
  cases gk with
  | zero => exact absurd HA.out (by simp [impl_apply.l0])
  | succ k1 =>
   have H := HA.out
   clear HA
   simp only [impl_apply.l0] at H
   by_cases c5 : x9_1 < a0_1
   ·rw [if_pos c5] at H
    have c5b0 := decide_eq_true c5
    clear c5
    replace H := Option.bind_eq_some_iff.mp H
    obtain ⟨t102, A60, H⟩ := H
    replace H : (if x5_1.length < 17592186044416 then (impl_apply.l0 k1 l1 (x5_1 ++ [t102]) a0_1 (wrap64 (x9_1 + 1)) a0_0 a0_1 a0_2 l0_3) else (none)) = some r := H
    have A6 := Aside0.mk A60
    clear A60
    by_cases c7 : x5_1.length < 17592186044416
    ·rw [if_pos c7] at H
     have LMc7 := Aside0.mk c7
     clear c7
     obtain ⟨y103, hy103⟩ : ∃ y_ : List Int, y_ = (x5_1 ++ [t102]) := ⟨_, rfl⟩
     replace H : (impl_apply.l0 k1 l1 y103 a0_1 (wrap64 (x9_1 + 1)) a0_0 a0_1 a0_2 l0_3) = some r := by first | (rw [hy103]; with_reducible exact H) | (have H2_ := (Option.bind_some _ _).symm.trans H; rw [hy103]; with_reducible exact H2_) | (have H2_ := (Option.bind_some _ _).symm.trans H; with_reducible exact H2_) | with_reducible exact H | (rw [hy103]; exact H) | exact H
     have Ny103 := Aside0.mk hy103
     clear hy103
     have H' := Aside0.mk H
     clear H
     try go_wp2
     replace HO_5 := Aside0.mk (Kd.R_drew HO_5.out)
     replace BK101 := Aside0.mk (blk_drew BK101.out)
     replace HB := Aside0.mk (below_drew1 HB.out)
     refine start_ (n := 11) (S := fun w' => w'.cell? ⟨gb101, 0, none⟩ = some (.int .i64 a0_0) ∧ w'.cell? ⟨gb101, 1, none⟩ = some (.int .i64 a0_1) ∧ w'.cell? ⟨gb101, 2, none⟩ = some (.int .i64 a0_2) ∧ w'.cell? ⟨gb101, 3, none⟩ = some (.slice A0_3 l0_3.length c0_3)) (ds := []) #[false, false, false, false, false, false, false, false, false, false, false] (by kernel_rfl) rfl rfl Z36.z3 (fun hHeld => ?_); refine with_tabW impl_apply.tab5 impl_apply.bits5 (fun HT_ HW_ => ?_)
     generalize wr.drew = w8 at HO_5 BK101 HB hHeld ⊢
     refine tgpP 0 12 (tgb 11 1) ?_
     refine tgpP 2 14 (tgb 11 5) ?_
     refine tgpP 4 16 (tgb 11 21) ?_
     refine tgpP 5 17 (tgb 11 53) ?_
     refine tgT4 1 13 (tgb 11 55) hHeld ?_
     refine tgT4 6 18 (tgb 11 119) hHeld ?_
     refine one_ (i := 3) (N := some 15) (tgb 11 127) rfl rfl (one_of HT_.out (by kernel_rfl)) (by decide) (fun K hK => ?_)
     obtain ⟨cr0, cr1, cr2, AD⟩ := impl_Matrix_row.parts A6.out
     have AD := Aside0.mk AD
     refine goes_ Tryz.func51 (by kernel_rfl) rfl #[.agg #[.int .i64 a0_0, .int .i64 a0_1, .int .i64 a0_2, .slice A0_3 l0_3.length c0_3], .int .i64 x9_1] (by rfl) rfl rfl Z36.z6 ?_
     with_reducible refine (impl_Matrix_row.calls a0_0 a0_1 a0_2 _ _ l0_3 x9_1 _ ?side1 ?side2 cr0 cr1 cr2).mono ?_
     (case side1 => exact (by repeat (first | exact (Kd.C_below HR0_3.out HB.out) | (with_reducible refine Kd.C_alloc ?_ _) | (with_reducible refine Kd.C_drewN ?_ _) | (with_reducible refine Kd.C_drew ?_))))
     (case side2 => exact HC0_3.out)
     rintro e w8a ⟨Ar, cr, rfl, HRr, HLr, hb⟩
     have HRr := Aside0.mk HRr
     have HLr := Aside0.mk HLr
     clear cr0 cr1 cr2
     refine ⟨_, rfl, ?_⟩
     replace HO_5 := Aside0.mk (Kd.R_below Z36.z4 hb)
     replace BK101 := Aside0.mk (tgbb BK101 Z36.z2 hb)
     replace HB := Aside0.mk (below_step Z36.z0 hb)
     (try clear hb)
     (try clear hb2)
     (try clear hk)
     (try clear hi)
     refine hK.out _ _ Z36.z3 (fun hHeld => ?_)
     clear hK K
     refine tgnm 15 ?_
     refine one_ (i := 7) (N := some 19) (tgb 11 255) rfl rfl (one_of HT_.out (by kernel_rfl)) (by decide) (fun K hK => ?_)
     refine goes_ Tryz.func50 (by kernel_rfl) rfl #[.slice Ar _ cr, .slice A1 l1.length c1, .int .i64 a0_0] (by rfl) rfl rfl Z36.z6 ?_
     with_reducible refine (impl_dot.calls k1 _ _ _ _ _ l1 a0_0 t102 _ ?side1 ?side2 ?side3 ?side4 AD.out).mono ?_
     (case side1 => exact (by repeat (first | exact HRr.out | (with_reducible refine Kd.C_alloc ?_ _) | (with_reducible refine Kd.C_drewN ?_ _) | (with_reducible refine Kd.C_drew ?_))))
     (case side2 => exact HLr.out)
     (case side3 => exact (by repeat (first | exact (Kd.C_below HR1.out HB.out) | (with_reducible refine Kd.C_alloc ?_ _) | (with_reducible refine Kd.C_drewN ?_ _) | (with_reducible refine Kd.C_drew ?_))))
     (case side4 => exact HC1.out)
     rintro e w9 ⟨rfl, hd_⟩
     have hb := hd_.below
     clear hd_
     refine ⟨_, rfl, ?_⟩
     replace HO_5 := Aside0.mk (Kd.R_below Z36.z4 hb)
     replace BK101 := Aside0.mk (tgbb BK101 Z36.z2 hb)
     replace HB := Aside0.mk (below_step Z36.z0 hb)
     (try clear hb)
     (try clear hb2)
     (try clear hk)
     (try clear hi)
     refine hK.out _ _ Z36.z3 (fun hHeld => ?_)
     clear hK K
     refine tgnm 19 ?_
     refine one_ (i := 8) (N := some 20) (tgb 11 511) rfl rfl (one_of HT_.out (by kernel_rfl)) (by decide) (fun K hK => ?_)
     refine value_ (w1 := ?_) (v := ?_) (by rfl) rfl ?_ ?_
     rotate_left 2
     ·go_simp
      constructor
      ·rfl
      rfl
     refine hK.out _ _ ⟨(blk_cell (blk_alloc BK101.out _) 0).trans rfl, (blk_cell (blk_alloc BK101.out _) 1).trans rfl, (blk_cell (blk_alloc BK101.out _) 2).trans rfl, (blk_cell (blk_alloc BK101.out _) 3).trans rfl⟩ (fun hHeld => ?_)
     clear hK K
     refine tgnm 20 ?_
     refine one_ (i := 9) (N := some 21) (tgb 11 1023) rfl rfl (one_of HT_.out (by kernel_rfl)) (by decide) (fun K hK => ?_)
     refine Kd.R_append_step (Kd.int .i64) (w0 := w) w.heap.size (by rfl) (.tmp 12) (.tmp 20) 26 2 (.int .i64 0) 8 rfl Tryz.underlying26 info2 rfl (by decide) (by omega) u5 x5_1 t102 [.int .i64 t102] (fun _ => True) (fun _ => False) rfl rfl ?aP (fun _ hk => hk.elim) ?aF ?aO ?aB ?aS ?aL ?_
     (case aP => exact rfl)
     (case aB => exact Z36.z0)
     (case aF => exact (fun _ _ => trivial))
     (case aO => exact Z36.z4)
     (case aS => exact (below_size Z36.z0))
     (case aL => have := LMc7.out; omega)
     intro v104 w10 ho hb hg hat
     rw [← Ny103.out] at ho
     have n0_ := Aside0.mk (blk_grown (g := gb101) (o := .cells #[.int .i64 a0_0, .int .i64 a0_1, .int .i64 a0_2, .slice A0_3 l0_3.length c0_3] 28 (0, 0)) Z36.z2 hg (Kd.R_ne HO_5.out BK101.out (by decide)))
     have n1_ := Aside0.mk (hb)
     have n2_ := Aside0.mk (ho)
     clear BK101 HB HO_5
     have BK101 := n0_
     have HB := n1_
     have HO105 := n2_
     clear n0_ n1_ n2_ ho hb hg hat
     refine hK.out _ _ Z36.z3 (fun hHeld => ?_)
     clear hK K
     refine tgnm 21 ?_
     refine tgpP 10 5 (tgb 11 2047) ?_
     refine done_ (done_of HT_.out (by kernel_rfl)) ?_
     try go_wp2
     go_roundg k1
     case measure => have := HK1.out; omega
     case rel => exact ⟨(y103), (wrap64 (x9_1 + 1)), (by first | rfl | (simp; done) | (simp [*]; done)), H', ⟨(by have := HK1.out; omega)⟩, ⟨(tgR HO105.out)⟩, ⟨Z36.z2⟩, ⟨Z36.z0⟩⟩
    rw [if_neg c7] at H
    exact absurd H (by simp)
   rw [if_neg c5] at H
   have c5b0 := decide_eq_false c5
   clear c5
   obtain rfl := Option.some.inj H
   go_wp2
   go_ret
   exact ⟨_, (by first | rfl | (simp [errW_none, errW_some] <;> rfl) | (simp [*, errW_none, errW_some] <;> rfl)), Z36.z4, Z36.z0⟩
/-! ### impl_ApplyMatrix: function 14 -/
def impl_ApplyMatrix.f (k : Nat) (a0_0 : Int) (a0_1 : Int) (a0_2 : Int) (l0_3 : List Int) (l1 : List Int) : Option (List Int × Int) := (impl_ValidMatrix.f k a0_0 a0_1 a0_2 l0_3).bind fun t102 => (if t102 = true then ((impl_size_int64.f l1).bind fun t103 => (if t103 = a0_2 then ((impl_areElements.f l1 a0_0).bind fun t104 => (if t104 = true then ((impl_apply.f k a0_0 a0_1 a0_2 l0_3 l1).bind fun t105 => (some (t105, 0))) else (some (([] : List Int), 1)))) else (some (([] : List Int), 1)))) else (some (([] : List Int), 1)))
def impl_ApplyMatrix.T1 : Bool × List (List Nat × List Nat) := (true, [([], []), ([0], [0]), ([1], [1]), ([2, 1], [2]), ([3], [3]), ([4, 3, 3], [3, 4]), ([3], [3]), ([6, 3], [3, 6]), ([5, 7, 3], [3, 5, 7]), ([3, 8], [3, 8]), ([9, 5], [9]), ([10], [10]), ([10], [10]), ([12, 10], [10, 12]), ([11, 13, 10, 10], [10, 11, 13]), ([14, 10], [10, 14]), ([10, 15], [10, 15])])
def impl_ApplyMatrix.B1 : List Nat := [0, 1, 3, 7, 15, 31, 15, 79, 255, 511, 1023, 2047, 2047, 6143, 16383, 32767, 65535]
theorem impl_ApplyMatrix.tab1 : rtab .any (opsOf Tryz.f14 1) = impl_ApplyMatrix.T1 := by kernel_rfl
theorem impl_ApplyMatrix.bits1 : waitsOk impl_ApplyMatrix.T1.2 impl_ApplyMatrix.B1 = true := by kernel_rfl
theorem Z14.z11 {P : Prop} (h : P := by rw [hg]; exact (below_size Z14.z3)) : P := h
theorem Z14.z10 {P : Prop} (h : P := by repeat (first | exact (Kd.C_below HR1.out Z14.z1) | (with_reducible refine Kd.C_alloc ?_ _) | (with_reducible refine Kd.C_drewN ?_ _) | (with_reducible refine Kd.C_drew ?_))) : P := h
theorem Z14.z9 {P : Prop} (h : P := by first | rfl | (simp [errW_none, errW_some] <;> rfl) | (simp [*, errW_none, errW_some] <;> rfl)) : P := h
theorem Z14.z8 {P : Prop} (h : P := by first | exact Kd.R_nil _ _ _ _ _ | exact Kd.N_nil _ _ _ _ _ | exact Kd.V_nil _ _ _ _ _ | exact Kd.Q_nil _ _ _ _ _ | exact Kd.S_nil _ _ _ _ _) : P := h
theorem Z14.z7 {P : Prop} (h : P := by repeat (first | exact (Kd.C_below HR1.out HB.out) | (with_reducible refine Kd.C_alloc ?_ _) | (with_reducible refine Kd.C_drewN ?_ _) | (with_reducible refine Kd.C_drew ?_))) : P := h
theorem Z14.z6 {P : Prop} (h : P := by exact tgB BK101.out) : P := h
theorem Z14.z5 {P : Prop} (h : P := by repeat (first | exact (Kd.C_below HR0_3.out HB.out) | (with_reducible refine Kd.C_alloc ?_ _) | (with_reducible refine Kd.C_drewN ?_ _) | (with_reducible refine Kd.C_drew ?_))) : P := h
theorem Z14.z4 {P : Prop} (h : P := by (try simp only [List.map_toArray, List.map_cons, List.map_nil]); first | done | rfl | (simp only [List.length_drop, List.length_take]; rfl)) : P := h
theorem Z14.z3 {P : Prop} (h : P := by repeat (first | (with_reducible first | exact HB.out | apply below_alloc | apply pw_below_drewN | apply below_drew1) | exact HB.out)) : P := h
theorem Z14.z2 {P : Prop} (h : P := by exact ⟨(blk_cell BK101.out 0).trans rfl, (blk_cell BK101.out 1).trans rfl, (blk_cell BK101.out 2).trans rfl, (blk_cell BK101.out 3).trans rfl⟩) : P := h
theorem Z14.z1 {P : Prop} (h : P := by repeat (first | (with_reducible first | exact HB.out | apply below_alloc | apply pw_below_drewN | apply below_drew1 | refine below_set ?_ GE101.out) | exact HB.out)) : P := h
theorem Z14.z0 {P : Prop} (h : P := by simp only [Act.put, List.setIfInBounds_toArray, List.set_cons_zero, List.set_cons_succ, i64_w, i32_w]; rfl) : P := h
set_option maxHeartbeats 8000000 in
set_option maxRecDepth 100000 in
theorem impl_ApplyMatrix.calls (k : Nat) (a0_0 : Int) (a0_1 : Int) (a0_2 : Int) (A0_3 : Option Addr) (c0_3 : Nat) (l0_3 : List Int) (A1 : Option Addr) (c1 : Nat) (l1 : List Int) (r1 : List Int) (r2 : Int) (w : World) (hr0_3 : Kd.C (Kd.int .i64) w A0_3 l0_3.length l0_3) (hc0_3 : l0_3.length ≤ c0_3) (hr1 : Kd.C (Kd.int .i64) w A1 l1.length l1) (hc1 : l1.length ≤ c1) (h : impl_ApplyMatrix.f k a0_0 a0_1 a0_2 l0_3 l1 = some (r1, r2)) :
  Calls Tryz.prog 14 #[.agg #[.int .i64 a0_0, .int .i64 a0_1, .int .i64 a0_2, .slice A0_3 l0_3.length c0_3], .slice A1 l1.length c1] w fun e w' => ∃ v0_ : Value, e = .returned (.tuple #[v0_, .int .i64 r2]) ∧ Kd.R (Kd.int .i64) 2 w' w.heap.size (fun _ => True) v0_ r1 ∧ Below w.heap.size w w' := by
 have hu28 := Tryz.underlying28
 have HR0_3 := tgk hr0_3
 have HC0_3 := tgk hc0_3
 clear hr0_3 hc0_3
 have HR1 := tgk hr1
 have HC1 := tgk hc1
 clear hr1 hc1
 have HB := tgk (Below.refl w.heap.size w)
 have H : ((impl_ValidMatrix.f k a0_0 a0_1 a0_2 l0_3).bind fun t102 => (if t102 = true then ((impl_size_int64.f l1).bind fun t103 => (if t103 = a0_2 then ((impl_areElements.f l1 a0_0).bind fun t104 => (if t104 = true then ((impl_apply.f k a0_0 a0_1 a0_2 l0_3 l1).bind fun t105 => (some (t105, 0))) else (some (([] : List Int), 1)))) else (some (([] : List Int), 1)))) else (some (([] : List Int), 1)))) = some (r1, r2) := h
 clear h
 obtain ⟨t102, A3, H⟩ := tgbd H
 replace H : (if t102 = true then ((impl_size_int64.f l1).bind fun t103 => (if t103 = a0_2 then ((impl_areElements.f l1 a0_0).bind fun t104 => (if t104 = true then ((impl_apply.f k a0_0 a0_1 a0_2 l0_3 l1).bind fun t105 => (some (t105, 0))) else (some (([] : List Int), 1)))) else (some (([] : List Int), 1)))) else (some (([] : List Int), 1))) = some (r1, r2) := H
 by_cases c4 : t102 = true
 ·subst c4
  rw [if_pos rfl] at H
  obtain ⟨t103, A5, H⟩ := tgbd H
  (try dsimp only at H)
  by_cases c6 : t103 = a0_2
  ·rw [if_pos c6] at H
   obtain ⟨c6b0, c6b1⟩ := tge c6
   clear c6
   obtain ⟨t104, A7, H⟩ := tgbd H
   (try dsimp only at H)
   by_cases c8 : t104 = true
   ·subst c8
    rw [if_pos rfl] at H
    obtain ⟨t105, A9, H⟩ := tgbd H
    (try dsimp only at H)
    simp only [Option.some.injEq, Prod.mk.injEq] at H
    obtain ⟨rfl, rfl⟩ := H
    go_enter Tryz.func14, Tryz.ntmps14
    try go_wp2_with (first | ((with_reducible refine gate_dst (N := 2) rfl ?_); refine box_event ?hg (N := 2) ?hd (cs := #[.int .i64 a0_0, .int .i64 a0_1, .int .i64 a0_2, .slice A0_3 l0_3.length c0_3]) (t := 28) ?hr ?_; (case hd => rfl); (case hg => rfl); (case hr => first | (go_simp; done) | (go_simp; rfl)); intro gb101 hg w10 hbox hb; have BK101 := tgk (hbox); have GW101 := tgk (show w.heap.size ≤ gb101 from Z14.z11); have GE101 := tgk (show w.heap.size ≤ gb101 from Z14.z11); replace HB := tgk (below_step Z14.z3 hb); clear hb hbox hg))
    replace BK101 := tgk (blk_drew BK101.out)
    replace HB := tgk (below_drew1 HB.out)
    refine start_ (n := 17) (S := fun w' => w'.cell? ⟨gb101, 0, none⟩ = some (.int .i64 a0_0) ∧ w'.cell? ⟨gb101, 1, none⟩ = some (.int .i64 a0_1) ∧ w'.cell? ⟨gb101, 2, none⟩ = some (.int .i64 a0_2) ∧ w'.cell? ⟨gb101, 3, none⟩ = some (.slice A0_3 l0_3.length c0_3)) (ds := []) #[false, false, false, false, false, false, false, false, false, false, false, false, false, false, false, false, false] (by kernel_rfl) rfl rfl Z14.z2 (fun hHeld => ?_); refine with_tabW impl_ApplyMatrix.tab1 impl_ApplyMatrix.bits1 (fun HT_ HW_ => ?_)
    generalize w10.drew = w11 at BK101 HB hHeld ⊢
    refine tgT4 0 6 (tgb 17 1) hHeld ?_
    refine one_ (i := 1) (N := some 7) (tgb 17 3) rfl rfl (one_of HT_.out (by kernel_rfl)) (by decide) (fun K hK => ?_)
    refine goes_ Tryz.func22 (by kernel_rfl) rfl #[.agg #[.int .i64 a0_0, .int .i64 a0_1, .int .i64 a0_2, .slice A0_3 l0_3.length c0_3]] (by rfl) rfl rfl Z14.z4 ?_
    with_reducible refine (impl_ValidMatrix.calls k a0_0 a0_1 a0_2 _ _ l0_3 true _ ?side1 ?side2 A3.out).mono ?_
    (case side1 => exact Z14.z5)
    (case side2 => exact HC0_3.out)
    rintro e w12 ⟨rfl, hb⟩
    refine ⟨_, rfl, ?_⟩
    replace BK101 := tgk (tgbb BK101 Z14.z6 hb)
    replace HB := tgk (below_step Z14.z1 hb)
    (try clear hb)
    (try clear hb2)
    (try clear hk)
    (try clear hi)
    refine hK.out _ _ Z14.z2 (fun hHeld => ?_)
    clear hK K
    refine tgnm 7 ?_
    refine tgpP 2 8 (tgb 17 7) ?_
    refine tgpP 3 9 (tgb 17 15) ?_
    refine tgpP 4 10 (tgb 17 31) ?_
    refine tgpP 6 12 (tgb 17 95) ?_
    refine tgT4 7 13 (tgb 17 223) hHeld ?_
    refine one_ (i := 5) (N := some 11) (tgb 17 255) rfl rfl (one_of HT_.out (by kernel_rfl)) (by decide) (fun K hK => ?_)
    refine goes_ Tryz.func34 (by kernel_rfl) rfl #[.slice A1 l1.length c1] (by rfl) rfl rfl Z14.z4 ?_
    with_reducible refine (impl_size_int64.calls _ _ l1 t103 _ ?side1 ?side2 A5.out).mono ?_
    (case side1 => exact Z14.z7)
    (case side2 => exact HC1.out)
    rintro e w' ⟨rfl, ⟨nd, rfl⟩⟩
    refine ⟨_, rfl, ?_⟩
    refine hK.out _ _ Z14.z2 (fun hHeld => ?_)
    clear hK K
    refine tgnm 11 ?_
    refine tgpP 8 14 (tgb 17 511) ?_
    refine tgpP 9 15 (tgb 17 1023) ?_
    refine tgpP 10 16 (tgb 17 2047) ?_
    refine tgpP 11 17 (tgb 17 4095) ?_
    refine tgpP 12 18 (tgb 17 8191) ?_
    refine tgT4 13 19 (tgb 17 16383) hHeld ?_
    refine one_ (i := 14) (N := some 20) (tgb 17 32767) rfl rfl (one_of HT_.out (by kernel_rfl)) (by decide) (fun K hK => ?_)
    refine goes_ Tryz.func35 (by kernel_rfl) rfl #[.slice A1 l1.length c1, .int .i64 a0_0] (by rfl) rfl rfl Z14.z4 ?_
    with_reducible refine (impl_areElements.calls _ _ l1 a0_0 true _ ?side1 ?side2 A7.out).mono ?_
    (case side1 => exact Z14.z10)
    (case side2 => exact HC1.out)
    rintro e w13 ⟨rfl, hb⟩
    refine ⟨_, rfl, ?_⟩
    replace BK101 := tgk (tgbb BK101 Z14.z6 hb)
    replace HB := tgk (below_step Z14.z1 hb)
    (try clear hb)
    (try clear hb2)
    (try clear hk)
    (try clear hi)
    refine hK.out _ _ Z14.z2 (fun hHeld => ?_)
    clear hK K
    refine tgnm 20 ?_
    refine tgpP 15 21 (tgb 17 65535) ?_
    refine tgpP 16 22 (tgb 17 131071) ?_
    refine done_ (done_of HT_.out (by kernel_rfl)) ?_
    obtain ⟨hcz14_0, hcz14_1, hcz14_2, hcz14_3, hfz14_0, hfz14_1, hfz14_2, hfz14_3⟩ := cells4 BK101.out
    try go_wp2_with (first | ((with_reducible refine gate_callee (f := 36) rfl ?_); refine goesL_ (some 25) rfl rfl Tryz.func36 (by kernel_rfl) rfl #[.agg #[.int .i64 a0_0, .int .i64 a0_1, .int .i64 a0_2, .slice A0_3 l0_3.length c0_3], .slice A1 l1.length c1] rfl Z14.z4 ?_; (with_reducible refine (impl_apply.calls k a0_0 a0_1 a0_2 _ _ l0_3 _ _ l1 t105 _ ?side1 ?side2 ?side3 ?side4 A9.out).mono ?_); (case side1 => exact Z14.z5); (case side2 => exact HC0_3.out); (case side3 => exact Z14.z7); (case side4 => exact HC1.out); rintro e w15 ⟨v106, rfl, ho0, hb⟩; refine ⟨_, rfl, ?_⟩; have HO107 := tgk (Kd.R_lower ho0 (below_size Z14.z1)); replace BK101 := tgk (tgbb BK101 Z14.z6 hb); replace HB := tgk (below_step Z14.z1 hb); (try clear hb); (try clear ho0)))
    go_ret2
    exact ⟨_, Z14.z9, (tgR HO107.out), Z14.z1⟩
   replace c8 := Bool.eq_false_iff.mpr c8
   subst c8
   rw [if_neg (show ¬ (false = true) by decide)] at H
   simp only [Option.some.injEq, Prod.mk.injEq] at H
   obtain ⟨rfl, rfl⟩ := H
   go_enter Tryz.func14, Tryz.ntmps14
   try go_wp2_with (first | ((with_reducible refine gate_dst (N := 2) rfl ?_); refine box_event ?hg (N := 2) ?hd (cs := #[.int .i64 a0_0, .int .i64 a0_1, .int .i64 a0_2, .slice A0_3 l0_3.length c0_3]) (t := 28) ?hr ?_; (case hd => rfl); (case hg => rfl); (case hr => first | (go_simp; done) | (go_simp; rfl)); intro gb101 hg w16 hbox hb; have BK101 := tgk (hbox); have GW101 := tgk (show w.heap.size ≤ gb101 from Z14.z11); have GE101 := tgk (show w.heap.size ≤ gb101 from Z14.z11); replace HB := tgk (below_step Z14.z3 hb); clear hb hbox hg))
   replace BK101 := tgk (blk_drew BK101.out)
   replace HB := tgk (below_drew1 HB.out)
   refine start_ (n := 17) (S := fun w' => w'.cell? ⟨gb101, 0, none⟩ = some (.int .i64 a0_0) ∧ w'.cell? ⟨gb101, 1, none⟩ = some (.int .i64 a0_1) ∧ w'.cell? ⟨gb101, 2, none⟩ = some (.int .i64 a0_2) ∧ w'.cell? ⟨gb101, 3, none⟩ = some (.slice A0_3 l0_3.length c0_3)) (ds := []) #[false, false, false, false, false, false, false, false, false, false, false, false, false, false, false, false, false] (by kernel_rfl) rfl rfl Z14.z2 (fun hHeld => ?_); refine with_tabW impl_ApplyMatrix.tab1 impl_ApplyMatrix.bits1 (fun HT_ HW_ => ?_)
   generalize w16.drew = w17 at BK101 HB hHeld ⊢
   refine tgT4 0 6 (tgb 17 1) hHeld ?_
   refine one_ (i := 1) (N := some 7) (tgb 17 3) rfl rfl (one_of HT_.out (by kernel_rfl)) (by decide) (fun K hK => ?_)
   refine goes_ Tryz.func22 (by kernel_rfl) rfl #[.agg #[.int .i64 a0_0, .int .i64 a0_1, .int .i64 a0_2, .slice A0_3 l0_3.length c0_3]] (by rfl) rfl rfl Z14.z4 ?_
   with_reducible refine (impl_ValidMatrix.calls k a0_0 a0_1 a0_2 _ _ l0_3 true _ ?side1 ?side2 A3.out).mono ?_
   (case side1 => exact Z14.z5)
   (case side2 => exact HC0_3.out)
   rintro e w18 ⟨rfl, hb⟩
   refine ⟨_, rfl, ?_⟩
   replace BK101 := tgk (tgbb BK101 Z14.z6 hb)
   replace HB := tgk (below_step Z14.z1 hb)
   (try clear hb)
   (try clear hb2)
   (try clear hk)
   (try clear hi)
   refine hK.out _ _ Z14.z2 (fun hHeld => ?_)
   clear hK K
   refine tgnm 7 ?_
   refine tgpP 2 8 (tgb 17 7) ?_
   refine tgpP 3 9 (tgb 17 15) ?_
   refine tgpP 4 10 (tgb 17 31) ?_
   refine tgpP 6 12 (tgb 17 95) ?_
   refine tgT4 7 13 (tgb 17 223) hHeld ?_
   refine one_ (i := 5) (N := some 11) (tgb 17 255) rfl rfl (one_of HT_.out (by kernel_rfl)) (by decide) (fun K hK => ?_)
   refine goes_ Tryz.func34 (by kernel_rfl) rfl #[.slice A1 l1.length c1] (by rfl) rfl rfl Z14.z4 ?_
   with_reducible refine (impl_size_int64.calls _ _ l1 t103 _ ?side1 ?side2 A5.out).mono ?_
   (case side1 => exact Z14.z7)
   (case side2 => exact HC1.out)
   rintro e w' ⟨rfl, ⟨nd, rfl⟩⟩
   refine ⟨_, rfl, ?_⟩
   refine hK.out _ _ Z14.z2 (fun hHeld => ?_)
   clear hK K
   refine tgnm 11 ?_
   refine tgpP 8 14 (tgb 17 511) ?_
   refine tgpP 9 15 (tgb 17 1023) ?_
   refine tgpP 10 16 (tgb 17 2047) ?_
   refine tgpP 11 17 (tgb 17 4095) ?_
   refine tgpP 12 18 (tgb 17 8191) ?_
   refine tgT4 13 19 (tgb 17 16383) hHeld ?_
   refine one_ (i := 14) (N := some 20) (tgb 17 32767) rfl rfl (one_of HT_.out (by kernel_rfl)) (by decide) (fun K hK => ?_)
   refine goes_ Tryz.func35 (by kernel_rfl) rfl #[.slice A1 l1.length c1, .int .i64 a0_0] (by rfl) rfl rfl Z14.z4 ?_
   with_reducible refine (impl_areElements.calls _ _ l1 a0_0 false _ ?side1 ?side2 A7.out).mono ?_
   (case side1 => exact Z14.z10)
   (case side2 => exact HC1.out)
   rintro e w19 ⟨rfl, hb⟩
   refine ⟨_, rfl, ?_⟩
   replace BK101 := tgk (tgbb BK101 Z14.z6 hb)
   replace HB := tgk (below_step Z14.z1 hb)
   (try clear hb)
   (try clear hb2)
   (try clear hk)
   (try clear hi)
   refine hK.out _ _ Z14.z2 (fun hHeld => ?_)
   clear hK K
   refine tgnm 20 ?_
   refine tgpP 15 21 (tgb 17 65535) ?_
   refine tgpP 16 22 (tgb 17 131071) ?_
   refine done_ (done_of HT_.out (by kernel_rfl)) ?_
   try go_wp2
   go_ret2
   exact ⟨_, Z14.z9, Z14.z8, Z14.z1⟩
  rw [if_neg c6] at H
  obtain ⟨c6b0, c6b1⟩ := tgn c6
  simp only [Option.some.injEq, Prod.mk.injEq] at H
  obtain ⟨rfl, rfl⟩ := H
  go_enter Tryz.func14, Tryz.ntmps14
  try go_wp2_with (first | ((with_reducible refine gate_dst (N := 2) rfl ?_); refine box_event ?hg (N := 2) ?hd (cs := #[.int .i64 a0_0, .int .i64 a0_1, .int .i64 a0_2, .slice A0_3 l0_3.length c0_3]) (t := 28) ?hr ?_; (case hd => rfl); (case hg => rfl); (case hr => first | (go_simp; done) | (go_simp; rfl)); intro gb101 hg w20 hbox hb; have BK101 := tgk (hbox); have GW101 := tgk (show w.heap.size ≤ gb101 from Z14.z11); have GE101 := tgk (show w.heap.size ≤ gb101 from Z14.z11); replace HB := tgk (below_step Z14.z3 hb); clear hb hbox hg))
  replace BK101 := tgk (blk_drew BK101.out)
  replace HB := tgk (below_drew1 HB.out)
  refine start_ (n := 17) (S := fun w' => w'.cell? ⟨gb101, 0, none⟩ = some (.int .i64 a0_0) ∧ w'.cell? ⟨gb101, 1, none⟩ = some (.int .i64 a0_1) ∧ w'.cell? ⟨gb101, 2, none⟩ = some (.int .i64 a0_2) ∧ w'.cell? ⟨gb101, 3, none⟩ = some (.slice A0_3 l0_3.length c0_3)) (ds := []) #[false, false, false, false, false, false, false, false, false, false, false, false, false, false, false, false, false] (by kernel_rfl) rfl rfl Z14.z2 (fun hHeld => ?_); refine with_tabW impl_ApplyMatrix.tab1 impl_ApplyMatrix.bits1 (fun HT_ HW_ => ?_)
  generalize w20.drew = w21 at BK101 HB hHeld ⊢
  refine tgT4 0 6 (tgb 17 1) hHeld ?_
  refine one_ (i := 1) (N := some 7) (tgb 17 3) rfl rfl (one_of HT_.out (by kernel_rfl)) (by decide) (fun K hK => ?_)
  refine goes_ Tryz.func22 (by kernel_rfl) rfl #[.agg #[.int .i64 a0_0, .int .i64 a0_1, .int .i64 a0_2, .slice A0_3 l0_3.length c0_3]] (by rfl) rfl rfl Z14.z4 ?_
  with_reducible refine (impl_ValidMatrix.calls k a0_0 a0_1 a0_2 _ _ l0_3 true _ ?side1 ?side2 A3.out).mono ?_
  (case side1 => exact Z14.z5)
  (case side2 => exact HC0_3.out)
  rintro e w22 ⟨rfl, hb⟩
  refine ⟨_, rfl, ?_⟩
  replace BK101 := tgk (tgbb BK101 Z14.z6 hb)
  replace HB := tgk (below_step Z14.z1 hb)
  (try clear hb)
  (try clear hb2)
  (try clear hk)
  (try clear hi)
  refine hK.out _ _ Z14.z2 (fun hHeld => ?_)
  clear hK K
  refine tgnm 7 ?_
  refine tgpP 2 8 (tgb 17 7) ?_
  refine tgpP 3 9 (tgb 17 15) ?_
  refine tgpP 4 10 (tgb 17 31) ?_
  refine tgpP 6 12 (tgb 17 95) ?_
  refine tgT4 7 13 (tgb 17 223) hHeld ?_
  refine one_ (i := 5) (N := some 11) (tgb 17 255) rfl rfl (one_of HT_.out (by kernel_rfl)) (by decide) (fun K hK => ?_)
  refine goes_ Tryz.func34 (by kernel_rfl) rfl #[.slice A1 l1.length c1] (by rfl) rfl rfl Z14.z4 ?_
  with_reducible refine (impl_size_int64.calls _ _ l1 t103 _ ?side1 ?side2 A5.out).mono ?_
  (case side1 => exact Z14.z7)
  (case side2 => exact HC1.out)
  rintro e w' ⟨rfl, ⟨nd, rfl⟩⟩
  refine ⟨_, rfl, ?_⟩
  refine hK.out _ _ Z14.z2 (fun hHeld => ?_)
  clear hK K
  refine tgnm 11 ?_
  refine tgpP 8 14 (tgb 17 511) ?_
  refine tgpP 9 15 (tgb 17 1023) ?_
  refine tgpP 10 16 (tgb 17 2047) ?_
  refine tgu 11 17 (tgb 17 4095) ?_
  refine tgu 12 18 (tgb 17 8191) ?_
  refine tgu 13 19 (tgb 17 16383) ?_
  refine tgu 14 20 (tgb 17 32767) ?_
  refine tgu 15 21 (tgb 17 65535) ?_
  refine tgpP 16 22 (tgb 17 131071) ?_
  refine done_ (done_of HT_.out (by kernel_rfl)) ?_
  try go_wp2
  go_ret2
  exact ⟨_, Z14.z9, Z14.z8, Z14.z1⟩
 replace c4 := Bool.eq_false_iff.mpr c4
 subst c4
 rw [if_neg (show ¬ (false = true) by decide)] at H
 simp only [Option.some.injEq, Prod.mk.injEq] at H
 obtain ⟨rfl, rfl⟩ := H
 go_enter Tryz.func14, Tryz.ntmps14
 try go_wp2_with (first | ((with_reducible refine gate_dst (N := 2) rfl ?_); refine box_event ?hg (N := 2) ?hd (cs := #[.int .i64 a0_0, .int .i64 a0_1, .int .i64 a0_2, .slice A0_3 l0_3.length c0_3]) (t := 28) ?hr ?_; (case hd => rfl); (case hg => rfl); (case hr => first | (go_simp; done) | (go_simp; rfl)); intro gb101 hg w23 hbox hb; have BK101 := tgk (hbox); have GW101 := tgk (show w.heap.size ≤ gb101 from Z14.z11); have GE101 := tgk (show w.heap.size ≤ gb101 from Z14.z11); replace HB := tgk (below_step Z14.z3 hb); clear hb hbox hg))
 replace BK101 := tgk (blk_drew BK101.out)
 replace HB := tgk (below_drew1 HB.out)
 refine start_ (n := 17) (S := fun w' => w'.cell? ⟨gb101, 0, none⟩ = some (.int .i64 a0_0) ∧ w'.cell? ⟨gb101, 1, none⟩ = some (.int .i64 a0_1) ∧ w'.cell? ⟨gb101, 2, none⟩ = some (.int .i64 a0_2) ∧ w'.cell? ⟨gb101, 3, none⟩ = some (.slice A0_3 l0_3.length c0_3)) (ds := []) #[false, false, false, false, false, false, false, false, false, false, false, false, false, false, false, false, false] (by kernel_rfl) rfl rfl Z14.z2 (fun hHeld => ?_); refine with_tabW impl_ApplyMatrix.tab1 impl_ApplyMatrix.bits1 (fun HT_ HW_ => ?_)
 generalize w23.drew = w24 at BK101 HB hHeld ⊢
 refine tgT4 0 6 (tgb 17 1) hHeld ?_
 refine one_ (i := 1) (N := some 7) (tgb 17 3) rfl rfl (one_of HT_.out (by kernel_rfl)) (by decide) (fun K hK => ?_)
 refine goes_ Tryz.func22 (by kernel_rfl) rfl #[.agg #[.int .i64 a0_0, .int .i64 a0_1, .int .i64 a0_2, .slice A0_3 l0_3.length c0_3]] (by rfl) rfl rfl Z14.z4 ?_
 with_reducible refine (impl_ValidMatrix.calls k a0_0 a0_1 a0_2 _ _ l0_3 false _ ?side1 ?side2 A3.out).mono ?_
 (case side1 => exact Z14.z5)
 (case side2 => exact HC0_3.out)
 rintro e w25 ⟨rfl, hb⟩
 refine ⟨_, rfl, ?_⟩
 replace BK101 := tgk (tgbb BK101 Z14.z6 hb)
 replace HB := tgk (below_step Z14.z1 hb)
 (try clear hb)
 (try clear hb2)
 (try clear hk)
 (try clear hi)
 refine hK.out _ _ Z14.z2 (fun hHeld => ?_)
 clear hK K
 refine tgnm 7 ?_
 refine tgpP 2 8 (tgb 17 7) ?_
 refine tgpP 3 9 (tgb 17 15) ?_
 refine tgu 4 10 (tgb 17 31) ?_
 refine tgu 5 11 (tgb 17 63) ?_
 refine tgu 6 12 (tgb 17 127) ?_
 refine tgu 7 13 (tgb 17 255) ?_
 refine tgu 8 14 (tgb 17 511) ?_
 refine tgpP 9 15 (tgb 17 1023) ?_
 refine tgpP 10 16 (tgb 17 2047) ?_
 refine tgu 11 17 (tgb 17 4095) ?_
 refine tgu 12 18 (tgb 17 8191) ?_
 refine tgu 13 19 (tgb 17 16383) ?_
 refine tgu 14 20 (tgb 17 32767) ?_
 refine tgu 15 21 (tgb 17 65535) ?_
 refine tgpP 16 22 (tgb 17 131071) ?_
 refine done_ (done_of HT_.out (by kernel_rfl)) ?_
 try go_wp2
 go_ret2
 exact ⟨_, Z14.z9, Z14.z8, Z14.z1⟩
/-! ### impl_sameShape: function 37 -/
def impl_sameShape.f (a0_0 : Int) (a0_1 : Int) (a0_2 : Int) (l0_3 : List Int) (a1_0 : Int) (a1_1 : Int) (a1_2 : Int) (l1_3 : List Int) : Option (Bool) := if a0_0 = a1_0 then (if a0_1 = a1_1 then (some (a0_2 == a1_2)) else (some false)) else (some false)
theorem Z37.z4 {P : Prop} (h : P := by first | rfl | (simp [errW_none, errW_some] <;> rfl) | (simp [*, errW_none, errW_some] <;> rfl)) : P := h
theorem Z37.z3 {P : Prop} (h : P := by repeat (first | (with_reducible first | exact HB.out | apply below_alloc | apply pw_below_drewN | apply below_drew1 | refine below_set ?_ GE101.out | refine below_set ?_ GE102.out) | exact HB.out)) : P := h
theorem Z37.z2 {P : Prop} (h : P := by exact tgB BK101.out) : P := h
theorem Z37.z1 {P : Prop} (h : P := by repeat (first | (with_reducible first | exact HB.out | apply below_alloc | apply pw_below_drewN | apply below_drew1) | exact HB.out)) : P := h
theorem Z37.z0 {P : Prop} (h : P := by repeat (first | (with_reducible first | exact HB.out | apply below_alloc | apply pw_below_drewN | apply below_drew1 | refine below_set ?_ GE101.out) | exact HB.out)) : P := h
set_option maxHeartbeats 8000000 in
set_option maxRecDepth 100000 in
theorem impl_sameShape.calls (a0_0 : Int) (a0_1 : Int) (a0_2 : Int) (A0_3 : Option Addr) (c0_3 : Nat) (l0_3 : List Int) (a1_0 : Int) (a1_1 : Int) (a1_2 : Int) (A1_3 : Option Addr) (c1_3 : Nat) (l1_3 : List Int) (r : Bool) (w : World) (hr0_3 : Kd.C (Kd.int .i64) w A0_3 l0_3.length l0_3) (hc0_3 : l0_3.length ≤ c0_3) (hr1_3 : Kd.C (Kd.int .i64) w A1_3 l1_3.length l1_3) (hc1_3 : l1_3.length ≤ c1_3) (h : impl_sameShape.f a0_0 a0_1 a0_2 l0_3 a1_0 a1_1 a1_2 l1_3 = some r) :
  Calls Tryz.prog 37 #[.agg #[.int .i64 a0_0, .int .i64 a0_1, .int .i64 a0_2, .slice A0_3 l0_3.length c0_3], .agg #[.int .i64 a1_0, .int .i64 a1_1, .int .i64 a1_2, .slice A1_3 l1_3.length c1_3]] w fun e w' => e = .returned (.bool r) ∧ Below w.heap.size w w' := by
 have hu28 := Tryz.underlying28
 have HR0_3 := tgk hr0_3
 have HC0_3 := tgk hc0_3
 clear hr0_3 hc0_3
 have HR1_3 := tgk hr1_3
 have HC1_3 := tgk hc1_3
 clear hr1_3 hc1_3
 have HB := tgk (Below.refl w.heap.size w)
 have H : (if a0_0 = a1_0 then (if a0_1 = a1_1 then (some (a0_2 == a1_2)) else (some false)) else (some false)) = some r := h
 clear h
 by_cases c3 : a0_0 = a1_0
 ·rw [if_pos c3] at H
  obtain ⟨c3b0, c3b1⟩ := tge c3
  clear c3
  by_cases c4 : a0_1 = a1_1
  ·rw [if_pos c4] at H
   obtain ⟨c4b0, c4b1⟩ := tge c4
   clear c4
   obtain rfl := Option.some.inj H
   go_enter Tryz.func37, Tryz.ntmps37
   go_wp2_with (first | ((with_reducible refine gate_dst (N := 2) rfl ?_); refine box_event ?hg (N := 2) ?hd (cs := #[.int .i64 a0_0, .int .i64 a0_1, .int .i64 a0_2, .slice A0_3 l0_3.length c0_3]) (t := 28) ?hr ?_; (case hd => rfl); (case hg => rfl); (case hr => first | (go_simp; done) | (go_simp; rfl)); intro gb101 hg w5 hbox hb; have BK101 := tgk (hbox); have GW101 := tgk (show w.heap.size ≤ gb101 from (by rw [hg]; exact (below_size Z37.z1))); have GE101 := tgk (show w.heap.size ≤ gb101 from (by rw [hg]; exact (below_size Z37.z1))); replace HB := tgk (below_step Z37.z1 hb); clear hb hbox hg) | ((with_reducible refine gate_dst (N := 3) rfl ?_); refine box_event ?hg (N := 3) ?hd (cs := #[.int .i64 a1_0, .int .i64 a1_1, .int .i64 a1_2, .slice A1_3 l1_3.length c1_3]) (t := 28) ?hr ?_; (case hd => rfl); (case hg => rfl); (case hr => first | (go_simp; done) | (go_simp; rfl)); intro gb102 hg w6 hbox hb; have BK102 := tgk (hbox); have GW102 := tgk (show w.heap.size ≤ gb102 from (by rw [hg]; exact (below_size Z37.z0))); have GE102 := tgk (show w.heap.size ≤ gb102 from (by rw [hg]; exact (below_size Z37.z0))); have NB101_102 := tgk (show gb101 ≠ gb102 from (by rw [hg]; exact Nat.ne_of_lt (tgbl BK101 Z37.z2))); have NB102_101 := tgk (show gb102 ≠ gb101 from (by rw [hg]; exact Nat.ne_of_gt (tgbl BK101 Z37.z2))); replace BK101 := tgk (tgbb BK101 Z37.z2 hb); replace HB := tgk (below_step Z37.z0 hb); clear hb hbox hg; have hnb7 := NB101_102.out; have hnc7 := NB102_101.out; obtain ⟨hcz8_0, hcz8_1, hcz8_2, hcz8_3, hfz8_0, hfz8_1, hfz8_2, hfz8_3⟩ := cells4 BK101.out; obtain ⟨hcz9_0, hcz9_1, hcz9_2, hcz9_3, hfz9_0, hfz9_1, hfz9_2, hfz9_3⟩ := cells4 BK102.out))
   go_ret
   exact ⟨Z37.z4, Z37.z3⟩
  rw [if_neg c4] at H
  obtain ⟨c4b0, c4b1⟩ := tgn c4
  obtain rfl := Option.some.inj H
  go_enter Tryz.func37, Tryz.ntmps37
  go_wp2_with (first | ((with_reducible refine gate_dst (N := 2) rfl ?_); refine box_event ?hg (N := 2) ?hd (cs := #[.int .i64 a0_0, .int .i64 a0_1, .int .i64 a0_2, .slice A0_3 l0_3.length c0_3]) (t := 28) ?hr ?_; (case hd => rfl); (case hg => rfl); (case hr => first | (go_simp; done) | (go_simp; rfl)); intro gb101 hg w10 hbox hb; have BK101 := tgk (hbox); have GW101 := tgk (show w.heap.size ≤ gb101 from (by rw [hg]; exact (below_size Z37.z1))); have GE101 := tgk (show w.heap.size ≤ gb101 from (by rw [hg]; exact (below_size Z37.z1))); replace HB := tgk (below_step Z37.z1 hb); clear hb hbox hg) | ((with_reducible refine gate_dst (N := 3) rfl ?_); refine box_event ?hg (N := 3) ?hd (cs := #[.int .i64 a1_0, .int .i64 a1_1, .int .i64 a1_2, .slice A1_3 l1_3.length c1_3]) (t := 28) ?hr ?_; (case hd => rfl); (case hg => rfl); (case hr => first | (go_simp; done) | (go_simp; rfl)); intro gb102 hg w11 hbox hb; have BK102 := tgk (hbox); have GW102 := tgk (show w.heap.size ≤ gb102 from (by rw [hg]; exact (below_size Z37.z0))); have GE102 := tgk (show w.heap.size ≤ gb102 from (by rw [hg]; exact (below_size Z37.z0))); have NB101_102 := tgk (show gb101 ≠ gb102 from (by rw [hg]; exact Nat.ne_of_lt (tgbl BK101 Z37.z2))); have NB102_101 := tgk (show gb102 ≠ gb101 from (by rw [hg]; exact Nat.ne_of_gt (tgbl BK101 Z37.z2))); replace BK101 := tgk (tgbb BK101 Z37.z2 hb); replace HB := tgk (below_step Z37.z0 hb); clear hb hbox hg; have hnb12 := NB101_102.out; have hnc12 := NB102_101.out; obtain ⟨hcz13_0, hcz13_1, hcz13_2, hcz13_3, hfz13_0, hfz13_1, hfz13_2, hfz13_3⟩ := cells4 BK101.out; obtain ⟨hcz14_0, hcz14_1, hcz14_2, hcz14_3, hfz14_0, hfz14_1, hfz14_2, hfz14_3⟩ := cells4 BK102.out))
  go_ret
  exact ⟨Z37.z4, Z37.z3⟩
 rw [if_neg c3] at H
 obtain ⟨c3b0, c3b1⟩ := tgn c3
 obtain rfl := Option.some.inj H
 go_enter Tryz.func37, Tryz.ntmps37
 go_wp2_with (first | ((with_reducible refine gate_dst (N := 2) rfl ?_); refine box_event ?hg (N := 2) ?hd (cs := #[.int .i64 a0_0, .int .i64 a0_1, .int .i64 a0_2, .slice A0_3 l0_3.length c0_3]) (t := 28) ?hr ?_; (case hd => rfl); (case hg => rfl); (case hr => first | (go_simp; done) | (go_simp; rfl)); intro gb101 hg w15 hbox hb; have BK101 := tgk (hbox); have GW101 := tgk (show w.heap.size ≤ gb101 from (by rw [hg]; exact (below_size Z37.z1))); have GE101 := tgk (show w.heap.size ≤ gb101 from (by rw [hg]; exact (below_size Z37.z1))); replace HB := tgk (below_step Z37.z1 hb); clear hb hbox hg) | ((with_reducible refine gate_dst (N := 3) rfl ?_); refine box_event ?hg (N := 3) ?hd (cs := #[.int .i64 a1_0, .int .i64 a1_1, .int .i64 a1_2, .slice A1_3 l1_3.length c1_3]) (t := 28) ?hr ?_; (case hd => rfl); (case hg => rfl); (case hr => first | (go_simp; done) | (go_simp; rfl)); intro gb102 hg w16 hbox hb; have BK102 := tgk (hbox); have GW102 := tgk (show w.heap.size ≤ gb102 from (by rw [hg]; exact (below_size Z37.z0))); have GE102 := tgk (show w.heap.size ≤ gb102 from (by rw [hg]; exact (below_size Z37.z0))); have NB101_102 := tgk (show gb101 ≠ gb102 from (by rw [hg]; exact Nat.ne_of_lt (tgbl BK101 Z37.z2))); have NB102_101 := tgk (show gb102 ≠ gb101 from (by rw [hg]; exact Nat.ne_of_gt (tgbl BK101 Z37.z2))); replace BK101 := tgk (tgbb BK101 Z37.z2 hb); replace HB := tgk (below_step Z37.z0 hb); clear hb hbox hg; have hnb17 := NB101_102.out; have hnc17 := NB102_101.out; obtain ⟨hcz18_0, hcz18_1, hcz18_2, hcz18_3, hfz18_0, hfz18_1, hfz18_2, hfz18_3⟩ := cells4 BK101.out; obtain ⟨hcz19_0, hcz19_1, hcz19_2, hcz19_3, hfz19_0, hfz19_1, hfz19_2, hfz19_3⟩ := cells4 BK102.out))
 go_ret
 exact ⟨Z37.z4, Z37.z3⟩
end Go.Proofs.YtbalikebmacldaaGreatDoor.F
end
