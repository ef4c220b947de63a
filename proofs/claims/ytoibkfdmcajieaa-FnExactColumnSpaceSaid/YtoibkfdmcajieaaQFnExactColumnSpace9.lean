-- Texts of this claim, merged by pack.py (a program of this session's).
import Derived.Test.YtoibkfdmcajieaaQFnExactColumnSpace0
import Derived.Test.YtoibkfdmcajieaaQFnExactColumnSpace1
import Derived.Test.YtoibkfdmcajieaaQFnExactColumnSpace4
import Derived.KernelRfl
import Derived.Test.YtoibkfdmcajieaaQFnExactColumnSpace3
import Derived.Test.YtoibkfdmcajieaaQFnExactColumnSpace6
import Derived.Test.YtoibkfdmcajieaaQFnExactColumnSpace5

section
namespace Go.Proofs.Ytoibkfdmcajieaa.F
open Go.RowKit Go.Proofs.YtoibkfdmcajieaaW.PrintWords Go.Proofs.YtoibkfdmcajieaaW.PrintLast Go.Proofs.YtoibkfdmcajieaaW.PrintMore
attribute [local go_sem] max2_int min2_int max_two min_two max_three min_three max_four min_four   -- for this text's walks alone
set_option linter.unusedVariables false
set_option linter.unusedSimpArgs false

/-! ### laws_szInt64SS: function 12 -/
def laws_szInt64SS.l0 : Nat → List (List Int) → Int → Int → Option (Int)
  | 0, _, _, _ => none
  | k + 1, x0, x1, x5 => if x5 < (x0.length : Int) then (if 0 ≤ x5 then ((laws_szInt64S.f (rd_L1 x0 x5) x1).bind fun t102 => (if t102 < 0 then (some (-1)) else (laws_szInt64SS.l0 k x0 t102 (wrap64 (x5 + 1))))) else (none)) else (some x1)
def laws_szInt64SS.f (k : Nat) (l0 : List (List Int)) (a1 : Int) : Option (Int) := if (wrap64 (a1 - (l0.length : Int))) < 0 then (some (-1)) else (laws_szInt64SS.l0 k l0 (wrap64 (a1 - (l0.length : Int))) 0)
theorem laws_szInt64SS.mono_l : ∀ k, (∀ y0 y1 y2, LeO (laws_szInt64SS.l0 k y0 y1 y2) (laws_szInt64SS.l0 (k + 1) y0 y1 y2))
  | 0 => fun _ _ _ r h => by simp [laws_szInt64SS.l0] at h
  | k + 1 => by
    have ih0 := laws_szInt64SS.mono_l k
    · intro y0 y1 y2
      unfold laws_szInt64SS.l0
      repeat' first
      | (with_reducible exact ih0 _ _ _)
      | (with_reducible exact LeO.refl _)
      | (with_reducible exact LeO.none _)
      | (with_reducible refine LeO.ite ?_ ?_)
      | (with_reducible refine LeO.bind ?_ (fun _ => ?_))
      | exact ih0 _ _ _
      | exact LeO.none _
      | refine LeO.ite ?_ ?_
      | refine LeO.bind ?_ (fun _ => ?_)
theorem laws_szInt64SS.mono : ∀ a0 a1 k, LeO (laws_szInt64SS.f k a0 a1) (laws_szInt64SS.f (k + 1) a0 a1) := by
  intro a0 a1 k
  have ih0 := laws_szInt64SS.mono_l k
  unfold laws_szInt64SS.f
  repeat' first
      | (with_reducible exact ih0 _ _ _)
      | (with_reducible exact LeO.refl _)
      | (with_reducible exact LeO.none _)
      | (with_reducible refine LeO.ite ?_ ?_)
      | (with_reducible refine LeO.bind ?_ (fun _ => ?_))
      | exact ih0 _ _ _
      | exact LeO.none _
      | refine LeO.ite ?_ ?_
      | refine LeO.bind ?_ (fun _ => ?_)
theorem Z12.z3 {P : Prop} (h : P := by (try simp only [List.map_toArray, List.map_cons, List.map_nil]); first | done | rfl | (simp only [List.length_drop, List.length_take]; rfl)) : P := h
theorem Z12.z2 {P : Prop} (h : P := by repeat (first | exact HR101_0.out | (with_reducible refine Kd.C_alloc ?_ _) | (with_reducible refine Kd.C_drewN ?_ _) | (with_reducible refine Kd.C_drew ?_))) : P := h
theorem Z12.z1 {P : Prop} (h : P := by repeat (first | exact Drawn0.refl _ | apply Drawn0.step)) : P := h
theorem Z12.z0 {P : Prop} (h : P := by first | rfl | (simp; done) | (simp [*]; done)) : P := h
set_option maxHeartbeats 8000000 in
set_option maxRecDepth 100000 in
theorem laws_szInt64SS.calls (k : Nat) (A0 : Option Addr) (c0 : Nat) (l0 : List (List Int)) (a1 : Int) (r : Int) (w : World) (hr0 : Kd.C (Kd.slice 2 (Kd.int .i64)) w A0 l0.length l0) (hc0 : l0.length ≤ c0) (h : laws_szInt64SS.f k l0 a1 = some r) :
  Calls Try.prog 12 #[.slice A0 l0.length c0, .int .i64 a1] w fun e w' => e = .returned (.int .i64 r) ∧ Drawn0 w w' := by
 have HR0 := Aside0.mk hr0
 have HC0 := Aside0.mk hc0
 clear hr0 hc0
 have H : (if (wrap64 (a1 - (l0.length : Int))) < 0 then (some (-1)) else (laws_szInt64SS.l0 k l0 (wrap64 (a1 - (l0.length : Int))) 0)) = some r := h
 clear h
 by_cases c3 : (wrap64 (a1 - (l0.length : Int))) < 0
 ·rw [if_pos c3] at H
  have c3b0 : decide ((wrap64 (a1 - (l0.length : Int))) < 0) = true := decide_eq_true c3
  clear c3
  obtain rfl := Option.some.inj H
  go_enter Try.func12, Try.ntmps12
  go_wp2
  go_ret
  exact ⟨Z12.z0, Z12.z1⟩
 rw [if_neg c3] at H
 have c3b0 : decide ((wrap64 (a1 - (l0.length : Int))) < 0) = false := decide_eq_false c3
 clear c3
 have H' := Aside0.mk H
 clear H
 go_enter Try.func12, Try.ntmps12
 go_wp2
 go_loopg [1, 5] k (fun kq v1 v5 w' => ∃ (x1_1 : Int) (x5_1 : Int), v1 = .int .i64 x1_1 ∧ v5 = .int .i64 x5_1 ∧ Aside0 (laws_szInt64SS.l0 kq l0 x1_1 x5_1 = some r) ∧ Aside0 (kq ≤ k) ∧ Drawn0 w w')
 case atStart => exact ⟨(wrap64 (a1 - (l0.length : Int))), (0), Z12.z0, Z12.z0, H', ⟨Nat.le_refl _⟩, Z12.z1⟩
 case round =>
  clear H'
  try clear c1
  try clear p2
  try clear c3
  try clear c3b0
  obtain ⟨x1_1, x5_1, rfl, rfl, HA, HK1, ⟨m1, rfl⟩⟩ := hrel
  cases gk with
  | zero => exact absurd HA.out (by simp [laws_szInt64SS.l0])
  | succ k1 =>
   have H := HA.out
   clear HA
   simp only [laws_szInt64SS.l0] at H
   by_cases c4 : x5_1 < (l0.length : Int)
   ·rw [if_pos c4] at H
    have c4b0 : decide (x5_1 < (l0.length : Int)) = true := decide_eq_true c4
    clear c4
    by_cases c5 : 0 ≤ x5_1
    ·rw [if_pos c5] at H
     have c5b0 : decide (0 ≤ x5_1) = true := decide_eq_true c5
     clear c5
     replace H := Option.bind_eq_some_iff.mp H
     obtain ⟨t102, A60, H⟩ := H
     replace H : (if t102 < 0 then (some (-1)) else (laws_szInt64SS.l0 k1 l0 t102 (wrap64 (x5_1 + 1)))) = some r := H
     have A6 := Aside0.mk A60
     clear A60
     by_cases c7 : t102 < 0
     ·rw [if_pos c7] at H
      have c7b0 : decide (t102 < 0) = true := decide_eq_true c7
      clear c7
      obtain rfl := Option.some.inj H
      have p101 : 0 ≤ (x5_1 : Int) := of_decide_eq_true (by first | (with_reducible assumption) | assumption)
      have q101 : x5_1 < (l0.length : Int) := of_decide_eq_true (by first | (with_reducible assumption) | assumption)
      obtain ⟨ad101, A101_0, c101_0, e101, hx101_0, hl101_0, hi101_0⟩ := at_L1 HR0.out x5_1 p101 q101
      cases e101
      have HR101_0 := Aside0.mk hi101_0
      have HC101_0 := Aside0.mk hl101_0
      clear hi101_0 hl101_0
      replace p101 := eq_true p101
      replace q101 := eq_true q101
      go_wp2_with (first | ((with_reducible refine gate_callee (f := 35) rfl ?_); refine goesL_ (some 23) rfl rfl Try.func35 (by kernel_rfl) rfl #[.slice A101_0 (rd_L1 l0 x5_1).length c101_0, .int .i64 x1_1] rfl Z12.z3 ?_; (with_reducible refine (laws_szInt64S.calls _ _ (rd_L1 l0 x5_1) x1_1 t102 _ ?side1 ?side2 A6.out).mono ?_); (case side1 => exact Z12.z2); (case side2 => exact HC101_0.out); rintro e w' ⟨rfl, ⟨nd, rfl⟩⟩; refine ⟨_, rfl, ?_⟩))
      go_ret
      exact ⟨Z12.z0, Z12.z1⟩
     rw [if_neg c7] at H
     have c7b0 : decide (t102 < 0) = false := decide_eq_false c7
     clear c7
     have H' := Aside0.mk H
     clear H
     have p101 : 0 ≤ (x5_1 : Int) := of_decide_eq_true (by first | (with_reducible assumption) | assumption)
     have q101 : x5_1 < (l0.length : Int) := of_decide_eq_true (by first | (with_reducible assumption) | assumption)
     obtain ⟨ad101, A101_0, c101_0, e101, hx101_0, hl101_0, hi101_0⟩ := at_L1 HR0.out x5_1 p101 q101
     cases e101
     have HR101_0 := Aside0.mk hi101_0
     have HC101_0 := Aside0.mk hl101_0
     clear hi101_0 hl101_0
     replace p101 := eq_true p101
     replace q101 := eq_true q101
     go_wp2_with (first | ((with_reducible refine gate_callee (f := 35) rfl ?_); refine goesL_ (some 23) rfl rfl Try.func35 (by kernel_rfl) rfl #[.slice A101_0 (rd_L1 l0 x5_1).length c101_0, .int .i64 x1_1] rfl Z12.z3 ?_; (with_reducible refine (laws_szInt64S.calls _ _ (rd_L1 l0 x5_1) x1_1 t102 _ ?side1 ?side2 A6.out).mono ?_); (case side1 => exact Z12.z2); (case side2 => exact HC101_0.out); rintro e w' ⟨rfl, ⟨nd, rfl⟩⟩; refine ⟨_, rfl, ?_⟩))
     go_roundg k1
     case measure => have := HK1.out; omega
     case rel => exact ⟨(t102), (wrap64 (x5_1 + 1)), Z12.z0, Z12.z0, H', ⟨(by have := HK1.out; omega)⟩, Z12.z1⟩
    rw [if_neg c5] at H
    exact absurd H (by simp)
   rw [if_neg c4] at H
   have c4b0 : decide (x5_1 < (l0.length : Int)) = false := decide_eq_false c4
   clear c4
   obtain rfl := Option.some.inj H
   go_wp2
   go_ret
   exact ⟨Z12.z0, Z12.z1⟩


/-! ### laws_toInt64SS: function 14 -/
def laws_toInt64SS.l0 : Nat → List (List Int) → List (List Int) → Int → Option ((List (List Int)))
  | 0, _, _, _ => none
  | k + 1, x0, x3, x4 => if x4 < (x0.length : Int) then (if 0 ≤ x4 then ((laws_toInt64S.f k (rd_L1 x0 x4)).bind fun t105 => (if x4 < (x3.length : Int) then (laws_toInt64SS.l0 k x0 (x3.set (x4 : Int).toNat t105) (wrap64 (x4 + 1))) else (none))) else (none)) else (some x3)
def laws_toInt64SS.f (k : Nat) (l0 : List (List Int)) : Option ((List (List Int))) := if 0 ≤ (l0.length : Int) then (if ((l0.length : Int) : Int).toNat ≤ 11728124029610 then (laws_toInt64SS.l0 k l0 (List.replicate ((l0.length : Int) : Int).toNat []) 0) else (none)) else (none)
theorem laws_toInt64SS.mono_l : ∀ k, (∀ y0 y1 y2, LeO (laws_toInt64SS.l0 k y0 y1 y2) (laws_toInt64SS.l0 (k + 1) y0 y1 y2))
  | 0 => fun _ _ _ r h => by simp [laws_toInt64SS.l0] at h
  | k + 1 => by
    have ih0 := laws_toInt64SS.mono_l k
    · intro y0 y1 y2
      unfold laws_toInt64SS.l0
      repeat' first
      | (with_reducible exact ih0 _ _ _)
      | (with_reducible exact laws_toInt64S.mono _ _)
      | (with_reducible exact LeO.refl _)
      | (with_reducible exact LeO.none _)
      | (with_reducible refine LeO.ite ?_ ?_)
      | (with_reducible refine LeO.bind ?_ (fun _ => ?_))
      | exact ih0 _ _ _
      | exact laws_toInt64S.mono _ _
      | exact LeO.none _
      | refine LeO.ite ?_ ?_
      | refine LeO.bind ?_ (fun _ => ?_)
theorem laws_toInt64SS.mono : ∀ a0 k, LeO (laws_toInt64SS.f k a0) (laws_toInt64SS.f (k + 1) a0) := by
  intro a0 k
  have ih0 := laws_toInt64SS.mono_l k
  unfold laws_toInt64SS.f
  repeat' first
      | (with_reducible exact ih0 _ _ _)
      | (with_reducible exact laws_toInt64S.mono _ _)
      | (with_reducible exact LeO.refl _)
      | (with_reducible exact LeO.none _)
      | (with_reducible refine LeO.ite ?_ ?_)
      | (with_reducible refine LeO.bind ?_ (fun _ => ?_))
      | exact ih0 _ _ _
      | exact laws_toInt64S.mono _ _
      | exact LeO.none _
      | refine LeO.ite ?_ ?_
      | refine LeO.bind ?_ (fun _ => ?_)
theorem Z14.z2 {P : Prop} (h : P := by (with_reducible repeat (first | apply Kd.S_alloc | apply Kd.S_drewN | apply Kd.S_drew)); exact HO_3.out) : P := h
theorem Z14.z1 {P : Prop} (h : P := by first | (with_reducible assumption) | assumption) : P := h
theorem Z14.z0 {P : Prop} (h : P := by repeat (first | (with_reducible first | exact HB.out | apply below_alloc | apply pw_below_drewN | apply below_drew1) | exact HB.out)) : P := h
set_option maxHeartbeats 8000000 in
set_option maxRecDepth 100000 in
theorem laws_toInt64SS.calls (k : Nat) (A0 : Option Addr) (c0 : Nat) (l0 : List (List Int)) (r : List (List Int)) (w : World) (hr0 : Kd.C (Kd.slice 2 (Kd.int .i64)) w A0 l0.length l0) (hc0 : l0.length ≤ c0) (h : laws_toInt64SS.f k l0 = some r) :
  Calls Try.prog 14 #[.slice A0 l0.length c0] w fun e w' => ∃ v0_ : Value, e = .returned (v0_) ∧ Kd.S (Kd.slice 2 (Kd.int .i64)) 38 w' w.heap.size (fun _ => True) v0_ r ∧ Below w.heap.size w w' := by
 have HR0 := Aside0.mk hr0
 have HC0 := Aside0.mk hc0
 clear hr0 hc0
 have HB := Aside0.mk (Below.refl w.heap.size w)
 have H : (if 0 ≤ (l0.length : Int) then (if ((l0.length : Int) : Int).toNat ≤ 11728124029610 then (laws_toInt64SS.l0 k l0 (List.replicate ((l0.length : Int) : Int).toNat []) 0) else (none)) else (none)) = some r := h
 clear h
 by_cases c2 : 0 ≤ (l0.length : Int)
 ·rw [if_pos c2] at H
  have c2b0 := eq_true c2
  have c2b1 : decide (0 ≤ (l0.length : Int)) = true := decide_eq_true c2
  clear c2
  by_cases c3 : ((l0.length : Int) : Int).toNat ≤ 11728124029610
  ·rw [if_pos c3] at H
   have c3b0 := eq_true c3
   have c3b1 : decide (((l0.length : Int) : Int).toNat ≤ 11728124029610) = true := decide_eq_true c3
   clear c3
   obtain ⟨y101, hy101⟩ : ∃ y_ : List (List Int), y_ = (List.replicate ((l0.length : Int) : Int).toNat []) := ⟨_, rfl⟩
   replace H : (laws_toInt64SS.l0 k l0 y101 0) = some r := by first | (rw [hy101]; with_reducible exact H) | (have H2_ := (Option.bind_some _ _).symm.trans H; rw [hy101]; with_reducible exact H2_) | (have H2_ := (Option.bind_some _ _).symm.trans H; with_reducible exact H2_) | with_reducible exact H | (rw [hy101]; exact H) | exact H
   have Ny101 := Aside0.mk hy101
   clear hy101
   have H' := Aside0.mk H
   clear H
   go_enter Try.func14, Try.ntmps14
   go_wp2_with (first | ((with_reducible refine gate_dst (N := 7) rfl ?_); refine Kd.S_make (Kd.slice 2 (Kd.int .i64)) _ 38 rfl (N := 7) rfl 22 _ _ rfl (l0.length : Int) rfl rfl Try.underlying22 (.slice none 0 0) 24 info38 rfl (by decide) (by omega) [] (ok := fun _ => True) (okp := fun _ => True) ⟨_, rfl, Kd.R_nil _ _ _ _ _⟩ (fun _ hk => hk) trivial (of_decide_eq_true Z14.z1) (Nat.le_trans (Nat.mul_le_mul_right _ (of_decide_eq_true Z14.z1 : (l0.length : Int).toNat ≤ 11728124029610)) (by omega)) (Below.refl _ _) (Nat.le_refl _) ?_; intro v102 w4 ho5 hb hg_ hnew_; clear hg_ hnew_; (first | rw [← Ny101.out] at ho5 | (simp only [Int.reduceToNat] at ho5; rw [← Ny101.out] at ho5)); have n0_ := Aside0.mk (Kd.S_lower ho5 (below_size Z14.z0)); have n1_ := Aside0.mk (below_step Z14.z0 hb); clear HB; have HO103 := n0_; have HB := n1_; clear n0_ n1_; clear hb ho5))
   go_loopg [4] k (fun kq v4 w' => ∃ (x3_1 : List (List Int)) (x4_1 : Int), v4 = .int .i64 x4_1 ∧ Aside0 (laws_toInt64SS.l0 kq l0 x3_1 x4_1 = some r) ∧ Aside0 (kq ≤ k) ∧ Aside0 (Kd.S (Kd.slice 2 (Kd.int .i64)) 38 w' w.heap.size (fun _ => True) v102 x3_1) ∧ Aside0 (Below w.heap.size w w'))
   case atStart => exact ⟨(y101), (0), (by first | rfl | (simp; done) | (simp [*]; done)), H', ⟨Nat.le_refl _⟩, ⟨(by (with_reducible repeat (first | apply Kd.S_alloc | apply Kd.S_drewN | apply Kd.S_drew)); exact HO103.out)⟩, ⟨Z14.z0⟩⟩
   case round =>
    clear H'
    try clear c1
    try clear c2
    try clear c2b0
    try clear c2b1
    try clear p2
    try clear c3
    try clear c3b0
    try clear c3b1
    obtain ⟨x3_1, x4_1, rfl, HA, HK1, HO_3, HB⟩ := hrel
    cases gk with
    | zero => exact absurd HA.out (by simp [laws_toInt64SS.l0])
    | succ k1 =>
     have H := HA.out
     clear HA
     simp only [laws_toInt64SS.l0] at H
     by_cases c6 : x4_1 < (l0.length : Int)
     ·rw [if_pos c6] at H
      have c6b0 : decide (x4_1 < (l0.length : Int)) = true := decide_eq_true c6
      clear c6
      by_cases c7 : 0 ≤ x4_1
      ·rw [if_pos c7] at H
       have c7b0 : decide (0 ≤ x4_1) = true := decide_eq_true c7
       clear c7
       replace H := Option.bind_eq_some_iff.mp H
       obtain ⟨t105, A80, H⟩ := H
       replace H : (if x4_1 < (x3_1.length : Int) then (laws_toInt64SS.l0 k1 l0 (x3_1.set (x4_1 : Int).toNat t105) (wrap64 (x4_1 + 1))) else (none)) = some r := H
       have A8 := Aside0.mk A80
       clear A80
       by_cases c9 : x4_1 < (x3_1.length : Int)
       ·rw [if_pos c9] at H
        have c9b0 : decide (x4_1 < (x3_1.length : Int)) = true := decide_eq_true c9
        clear c9
        obtain ⟨y108, hy108⟩ : ∃ y_ : List (List Int), y_ = (x3_1.set (x4_1 : Int).toNat t105) := ⟨_, rfl⟩
        replace H : (laws_toInt64SS.l0 k1 l0 y108 (wrap64 (x4_1 + 1))) = some r := by first | (rw [hy108]; with_reducible exact H) | (have H2_ := (Option.bind_some _ _).symm.trans H; rw [hy108]; with_reducible exact H2_) | (have H2_ := (Option.bind_some _ _).symm.trans H; with_reducible exact H2_) | with_reducible exact H | (rw [hy108]; exact H) | exact H
        have Ny108 := Aside0.mk hy108
        clear hy108
        have H' := Aside0.mk H
        clear H
        have p104 : 0 ≤ (x4_1 : Int) := of_decide_eq_true Z14.z1
        have q104 : x4_1 < (l0.length : Int) := of_decide_eq_true Z14.z1
        obtain ⟨ad104, A104_0, c104_0, e104, hx104_0, hl104_0, hi104_0⟩ := at_L1 HR0.out x4_1 p104 q104
        cases e104
        replace hx104_0 := (HB.out.cell (World.block_lt_of_cell? w _ hx104_0)).trans hx104_0
        have HR104_0 := Aside0.mk hi104_0
        have HC104_0 := Aside0.mk hl104_0
        clear hi104_0 hl104_0
        replace p104 := eq_true p104
        replace q104 := eq_true q104
        go_wp2_with (first | ((with_reducible refine gate_callee (f := 40) rfl ?_); refine goesL_ (some 20) rfl rfl Try.func40 (by kernel_rfl) rfl #[.slice A104_0 (rd_L1 l0 x4_1).length c104_0] rfl (by (try simp only [List.map_toArray, List.map_cons, List.map_nil]); first | done | rfl | (simp only [List.length_drop, List.length_take]; rfl)) ?_; (with_reducible refine (laws_toInt64S.calls k1 _ _ (rd_L1 l0 x4_1) t105 _ ?side1 ?side2 A8.out).mono ?_); (case side1 => exact (by repeat (first | exact (Kd.C_below HR104_0.out HB.out) | (with_reducible refine Kd.C_alloc ?_ _) | (with_reducible refine Kd.C_drewN ?_ _) | (with_reducible refine Kd.C_drew ?_)))); (case side2 => exact HC104_0.out); rintro e w11 ⟨v106, rfl, ho0, hb⟩; obtain ⟨Av106, cv106, ev106⟩ := Kd.R_slice ho0; subst ev106; refine ⟨_, rfl, ?_⟩; have n0_ := Aside0.mk (Kd.S_elder' Z14.z2 (Kd.R_base ho0) hb); have n1_ := Aside0.mk (Kd.R_lower ho0 (below_size Z14.z0)); have n2_ := Aside0.mk (below_step Z14.z0 hb); clear HO_3 HB; have HO_3 := n0_; have HO107 := n1_; have HB := n2_; clear n0_ n1_ n2_; (try clear hb); (try clear hb2); (try clear hk); (try clear hi); (try clear ho0); have p10 : 0 ≤ (x4_1 : Int) := of_decide_eq_true Z14.z1; have q10 : (x4_1 : Int) < ((x3_1.length : Int) : Int) := of_decide_eq_true Z14.z1; obtain ⟨go10, co10, eo10, gb10, gl10, cl10, HG10⟩ := Kd.S_form HO_3.out (by omega); (first | cases eo10 | (injection eo10 with ea_ en_ ec_; (first | subst ea_ | (injection ea_ with ea_; subst ea_)); subst ec_; clear en_)); have GB10 := Aside0.mk gb10; have GG10 := Aside0.mk HG10; clear gb10 gl10 HG10; obtain ⟨_, ce10, hcl10, hM10, hcc10, hfr10, _, _⟩ := Kd.S_elem HO_3.out [] (x4_1 : Int) p10 q10; obtain ⟨ve10_0, rfl, ge10_0⟩ := hM10; have hx10_0 := hcc10 0 _ rfl; have hf10_0 := hfr10 0; (try simp only [show ((Kd.slice 2 (Kd.int .i64))).sz = 1 from rfl, Nat.mul_one, Nat.add_zero] at hx10_0); (try simp only [show ((Kd.slice 2 (Kd.int .i64))).sz = 1 from rfl, Nat.mul_one, Nat.add_zero] at hf10_0); (try clear hM10); clear hcl10 hcc10 hfr10; replace p10 := eq_true p10; replace q10 := eq_true q10; have n_ := Aside0.mk (Kd.S_mono (ok' := (fun k_ => some k_ ≠ ((.slice Av106 t105.length cv106) : Value).ownBlock)) HO_3.out (fun k_ hk => hk.2)); clear HO_3; have HO_3 := n_; clear n_; have HX12 := Aside0.mk (show Kd.S (Kd.slice 2 (Kd.int .i64)) 38 w11 w.heap.size (fun k_ => ((fun _ => True)) k_ ∧ ¬ ((fun k_ => some k_ = ((.slice Av106 t105.length cv106) : Value).ownBlock)) k_) (.slice (some ⟨go10, 0, none⟩) x3_1.length co10) x3_1 from (by (with_reducible repeat (first | apply Kd.S_alloc | apply Kd.S_drewN | apply Kd.S_drew)); exact Kd.S_mono HO_3.out (fun k_ hk => ⟨trivial, fun e_ => hk e_⟩))); obtain ⟨oki12, ce12, hcl12, hM12, hcc12, hfr12, hoki12, hH12⟩ := Kd.S_elem HX12.out [] (x4_1 : Int) (of_decide_eq_true Z14.z1) (by have h_ : (x4_1 : Int) < ((x3_1.length : Int) : Int) := of_decide_eq_true Z14.z1; first | exact h_ | (have e_ := (Kd.S_reads' HO_3.out).1; omega) | simpa using h_); obtain ⟨ve12_0, rfl, ge12_0⟩ := hM12; have HP12 := Kd.S_seg hH12 (of_decide_eq_true Z14.z1) (by have h_ : (x4_1 : Int) < ((x3_1.length : Int) : Int) := of_decide_eq_true Z14.z1; first | exact h_ | (have e_ := (Kd.S_reads' HO_3.out).1; omega) | simpa using h_) (seg := [(.slice Av106 t105.length cv106)]) (j := 0) (show 1 ≤ 1 from by decide) (x' := t105) (Kd.M_row (Kd.R_mono (Kd.R_tight rfl (Kd.R_mono (ok' := fun k_ => ((fun _ => True)) k_ ∧ k_ ≠ go10) (Kd.R_apart' (HO107.out) (Kd.S_typed HO_3.out) (by decide)) (fun k_ hk => ⟨trivial, fun e_ => (hk.2) (by rw [e_]; rfl)⟩))) (fun _ h_ => Or.inr (h_)))) (fun _ hk => hk) (fun k_ hk_ => ((Kd.R_mono (ok' := fun k_ => ((fun _ => True)) k_ ∧ k_ ≠ go10) (Kd.R_apart' (HO107.out) (Kd.S_typed HO_3.out) (by decide)) (fun k_ hk => ⟨trivial, fun e_ => (hk.2) (by rw [e_]; rfl)⟩))).1 k_ hk_.symm); have hx12_0 := hcc12 0 _ rfl; (try simp only [show ((Kd.slice 2 (Kd.int .i64))).sz = 1 from rfl, Nat.mul_one, Nat.add_zero] at hx12_0); have hf12_0 := hfr12 0; (try simp only [show ((Kd.slice 2 (Kd.int .i64))).sz = 1 from rfl, Nat.mul_one, Nat.add_zero] at hf12_0); (try clear hM12); clear hcl12 hcc12 hfr12 hoki12 hH12; (try simp only [show ((Kd.slice 2 (Kd.int .i64))).sz = 1 from rfl, Nat.mul_one, Nat.add_zero] at HP12)) | ((with_reducible refine gate_store (t := 38) (p := 21) rfl ?_); refine store_event (t := 38) (p := 21) (v := ?vo_w13) (w1 := (w11.setCell ⟨go10, (x4_1 : Int).toNat, none⟩ ((.slice Av106 t105.length cv106)))) ?hg ?ho ?hn ?hr ?_; (case ho => rfl); (case hg => rfl); (case hn => rfl); (case hr => first | (go_simp; done) | (go_simp; rfl)); intro w13 hw; have hg : w11.grownBy w13 (some go10) := (by rw [hw]; exact HP12.2); have hp_ : Kd.S (Kd.slice 2 (Kd.int .i64)) 38 w13 w.heap.size (fun _ => True) (.slice (some ⟨go10, 0, none⟩) x3_1.length co10) y108 := (by rw [hw, Ny108.out]; exact HP12.1); clear HP12; have n0_ := Aside0.mk (hp_); have n1_ := Aside0.mk ((by rw [hw]; exact below_set (HB.out) GB10.out : Below w.heap.size w w13)); clear HO_3 HB HO107; have HO_3 := n0_; have HB := n1_; clear n0_ n1_; clear hg hw hp_))
        go_roundg k1
        case measure => have := HK1.out; omega
        case rel => exact ⟨(y108), (wrap64 (x4_1 + 1)), (by first | rfl | (simp; done) | (simp [*]; done)), H', ⟨(by have := HK1.out; omega)⟩, ⟨Z14.z2⟩, ⟨Z14.z0⟩⟩
       rw [if_neg c9] at H
       exact absurd H (by simp)
      rw [if_neg c7] at H
      exact absurd H (by simp)
     rw [if_neg c6] at H
     have c6b0 : decide (x4_1 < (l0.length : Int)) = false := decide_eq_false c6
     clear c6
     obtain rfl := Option.some.inj H
     go_wp2
     go_ret
     exact ⟨_, (by first | rfl | (simp [errW_none, errW_some] <;> rfl) | (simp [*, errW_none, errW_some] <;> rfl)), Z14.z2, Z14.z0⟩
  rw [if_neg c3] at H
  exact absurd H (by simp)
 rw [if_neg c2] at H
 exact absurd H (by simp)

end Go.Proofs.Ytoibkfdmcajieaa.F
end

section
set_option linter.unusedVariables false
set_option linter.unusedSimpArgs false
set_option linter.unusedSectionVars false
namespace Go.Proofs.Ytoibkfdmcajieaa.Lin

def primes251 : List Nat := [2,3,5,7,11,13,17,19,23,29,31,37,41,43,47,53,59,61,67,71,73,79,83,89,97,101,103,107,109,113,127,131,137,139,149,151,157,163,167,173,179,181,191,193,197,199,211,223,227,229,233,239,241,251]
/-- A prime up to 251. -/
def isP (p : Int) : Bool := decide (2 ≤ p) && decide (p ≤ 251) && decide (p.toNat ∈ primes251)
theorem isP_ge {p : Int} (h : isP p = true) : 2 ≤ p ∧ p ≤ 251 := by unfold isP at h; simp at h; omega
/-- One row gets a multiple of another one. -/
def addRow (p : Int) (a b : List Int) (c : Int) : List Int := List.zipWith (fun x y => (x + c * y) % p) a b
theorem getD_set {α : Type} (l : List α) (k : Nat) (v d : α) (hk : k < l.length) (i : Nat) : (l.set k v).getD i d = if i = k then v else l.getD i d := by
  simp only [List.getD_eq_getElem?_getD, List.getElem?_set]
  by_cases h : k = i
  · subst h; simp [hk]
  · simp [h, Ne.symm h]
theorem addRow_getD {p : Int} {a b : List Int} {c : Int} {j : Nat} (ha : j < a.length) (hb : j < b.length) : (addRow p a b c).getD j 0 = (a.getD j 0 + c * b.getD j 0) % p := by
  unfold addRow
  simp [List.getD_eq_getElem?_getD, List.getElem?_zipWith, List.getElem?_eq_getElem ha, List.getElem?_eq_getElem hb]
end Go.Proofs.Ytoibkfdmcajieaa.Lin
end

section
set_option linter.unusedVariables false
set_option linter.unusedSimpArgs false
set_option linter.unusedSectionVars false
namespace Go.Proofs.Ytoibkfdmcajieaa.F
open Go.RowKit Go.Proofs.YtoibkfdmcajieaaW.PrintWords Go.Proofs.YtoibkfdmcajieaaW.PrintLast Go.Proofs.Ytoibkfdmcajieaa.Lin

theorem w64_idV {x : Int} (h0 : -9223372036854775808 ≤ x) (h1 : x ≤ 9223372036854775807) : wrap64 x = x := by unfold wrap64; omega
theorem w64_succ {i n : Nat} (h : i < n) (hn : n ≤ 35184372088832) : wrap64 ((i : Int) + 1) = ((i + 1 : Nat) : Int) := by
  rw [w64_idV (x := (i : Int) + 1) (by omega) (by omega)]; omega
theorem rd_nat (l : List Int) (i : Nat) : rd l (i : Int) = l.getD i 0 := by unfold rd; rw [Int.toNat_natCast]
theorem getD_at {α : Type} {l : List α} {i : Nat} {d : α} (h : i < l.length) : l.getD i d = l[i] := by simp [List.getD_eq_getElem?_getD, h]
theorem ext_getD {l m : List Int} (hl : l.length = m.length) (h : ∀ j, j < l.length → l.getD j 0 = m.getD j 0) : l = m := by
  refine List.ext_getElem hl (fun j h1 h2 => ?_)
  have := h j h1
  rwa [getD_at h1, getD_at h2] at this
theorem copy_loop {l : List Int} (hl : l.length ≤ 35184372088832) (d : Nat) : ∀ (k i : Nat) (acc : List Int), l.length - i = d → i ≤ l.length → d < k → acc.length = l.length → (∀ j, j < i → acc.getD j 0 = l.getD j 0) →
    laws_toInt64S.l0 k l acc i = some l := by
  induction d with
  | zero =>
    intro k i acc hd hi hk ha h
    obtain ⟨k, rfl⟩ : ∃ m, k = m + 1 := ⟨k - 1, by omega⟩
    simp only [laws_toInt64S.l0]
    rw [if_neg (by omega), ext_getD ha (fun j hj => h j (by omega))]
  | succ d ih =>
    intro k i acc hd hi hk ha h
    obtain ⟨k, rfl⟩ : ∃ m, k = m + 1 := ⟨k - 1, by omega⟩
    simp only [laws_toInt64S.l0]
    rw [if_pos (by omega), if_pos (by omega), if_pos (by omega), w64_succ (n := l.length) (by omega) hl, Int.toNat_natCast, rd_nat]
    refine ih k (i + 1) _ (by omega) (by omega) (by omega) (by simp [ha]) (fun j hj => ?_)
    rw [getD_set _ _ _ _ (by omega)]
    by_cases e : j = i
    · rw [if_pos e, e]
    · rw [if_neg e]; exact h j (by omega)
/-- A copy is what is copied. -/
theorem copy_tells {l : List Int} (hl : l.length ≤ 35184372088832) {k : Nat} (hk : l.length < k) : laws_toInt64S.f k l = some l := by
  unfold laws_toInt64S.f
  rw [if_pos (by omega), if_pos (by omega), Int.toNat_natCast]
  exact copy_loop hl l.length k 0 _ (by omega) (by omega) hk (by simp) (fun j hj => by omega)
theorem eq_loop {a b : List Int} (ha : a.length ≤ 35184372088832) (hab : a.length = b.length) (d : Nat) : ∀ (k i : Nat), a.length - i = d → i ≤ a.length → d < k → (∀ j, j < i → a.getD j 0 = b.getD j 0) →
    laws_eqInt64S.l0 k a b i = some (decide (a = b)) := by
  induction d with
  | zero =>
    intro k i hd hi hk h
    obtain ⟨k, rfl⟩ : ∃ m, k = m + 1 := ⟨k - 1, by omega⟩
    simp only [laws_eqInt64S.l0]
    rw [if_neg (by omega), decide_eq_true (ext_getD hab (fun j hj => h j (by omega)))]
  | succ d ih =>
    intro k i hd hi hk h
    obtain ⟨k, rfl⟩ : ∃ m, k = m + 1 := ⟨k - 1, by omega⟩
    simp only [laws_eqInt64S.l0]
    rw [if_pos (by omega), if_pos (by omega), if_pos (by omega), w64_succ (n := a.length) (by omega) ha, rd_nat, rd_nat]
    by_cases e : a.getD i 0 = b.getD i 0
    · rw [if_pos e]
      refine ih k (i + 1) (by omega) (by omega) (by omega) (fun j hj => ?_)
      by_cases e2 : j = i
      · rw [e2]; exact e
      · exact h j (by omega)
    · rw [if_neg e, decide_eq_false (fun h => e (by rw [h]))]
theorem eq_tells {a b : List Int} (ha : a.length ≤ 35184372088832) {k : Nat} (hk : a.length < k) : laws_eqInt64S.f k a b = some (decide (a = b)) := by
  unfold laws_eqInt64S.f
  by_cases h : a.length = b.length
  · rw [if_pos (by omega)]
    exact eq_loop ha h a.length k 0 (by omega) (by omega) hk (fun j hj => by omega)
  · rw [if_neg (by omega), decide_eq_false (fun e => h (by rw [e]))]

theorem rdS_nat (l : List (List Int)) (i : Nat) : rd_L1 l (i : Int) = l.getD i [] := by unfold rd_L1; rw [Int.toNat_natCast]
theorem ext_rows {l m : List (List Int)} (hl : l.length = m.length) (h : ∀ j, j < l.length → l.getD j [] = m.getD j []) : l = m := by
  refine List.ext_getElem hl (fun j h1 h2 => ?_)
  have := h j h1
  rwa [getD_at h1, getD_at h2] at this
theorem row_mem {l : List (List Int)} {i : Nat} (h : i < l.length) : l.getD i [] ∈ l := by rw [getD_at h]; exact List.getElem_mem h
theorem set_rows (l : List (List Int)) (i : Nat) (v : List Int) (j : Nat) (h : i < l.length) : (l.set i v).getD j [] = if j = i then v else l.getD j [] := by
  simp only [List.getD_eq_getElem?_getD, List.getElem?_set, h]
  by_cases e : i = j
  · subst e; simp [h]
  · rw [if_neg e, if_neg (fun h => e h.symm)]
theorem szS_tells {r : List Int} (hr : r.length ≤ maxLen) {a : Int} (h0 : 0 ≤ a) (h1 : a ≤ 1048576) : laws_szInt64S.f r a = if a - (r.length : Int) < 0 then some (-1) else some (a - (r.length : Int)) := by
  unfold laws_szInt64S.f
  unfold maxLen at hr
  rw [w64_idV (x := a - (r.length : Int)) (by omega) (by omega)]
theorem szSS_loop {l : List (List Int)} (hn : l.length ≤ 1048576) (hr : ∀ r ∈ l, r.length ≤ maxLen) (d : Nat) : ∀ (k i : Nat) (a : Int), l.length - i = d → i ≤ l.length → d < k → 0 ≤ a → a ≤ 1048576 →
    ∃ z, laws_szInt64SS.l0 k l a i = some z ∧ z ≤ a ∧ (z < 0 ∨ ∀ j, i ≤ j → j < l.length → ((l.getD j []).length : Int) ≤ a) := by
  induction d with
  | zero =>
    intro k i a hd hi hk h0 h1
    obtain ⟨k, rfl⟩ : ∃ m, k = m + 1 := ⟨k - 1, by omega⟩
    simp only [laws_szInt64SS.l0]
    rw [if_neg (by omega)]
    exact ⟨a, rfl, Int.le_refl _, .inr (fun j hj hj2 => by omega)⟩
  | succ d ih =>
    intro k i a hd hi hk h0 h1
    obtain ⟨k, rfl⟩ : ∃ m, k = m + 1 := ⟨k - 1, by omega⟩
    have hlt : i < l.length := by omega
    simp only [laws_szInt64SS.l0]
    rw [if_pos (by omega), if_pos (by omega), rdS_nat, szS_tells (hr _ (row_mem hlt)) h0 h1]
    by_cases e : a - ((l.getD i []).length : Int) < 0
    · rw [if_pos e, Option.bind_some, if_pos (by omega)]
      exact ⟨-1, rfl, by omega, .inl (by omega)⟩
    · rw [if_neg e, Option.bind_some, if_neg e, w64_succ (n := l.length) hlt (by omega)]
      obtain ⟨z, hz, hz1, hz2⟩ := ih k (i + 1) (a - ((l.getD i []).length : Int)) (by omega) (by omega) (by omega) (by omega) (by omega)
      refine ⟨z, hz, by omega, hz2.imp id (fun h j hj hj2 => ?_)⟩
      by_cases e2 : j = i
      · rw [e2]; omega
      · have := h j (by omega) hj2; omega
/-- A budget: what is left of it, or a number below 0. -/
theorem szSS_tells {l : List (List Int)} (hl : l.length ≤ maxLen) (hr : ∀ r ∈ l, r.length ≤ maxLen) {a : Int} (h0 : 0 ≤ a) (h1 : a ≤ 1048576) {k : Nat} (hk : 1048577 ≤ k) :
    ∃ z, laws_szInt64SS.f k l a = some z ∧ z ≤ a ∧ (z < 0 ∨ ((l.length : Int) ≤ a ∧ ∀ r ∈ l, (r.length : Int) ≤ a)) := by
  unfold laws_szInt64SS.f
  unfold maxLen at hl
  rw [w64_idV (x := a - (l.length : Int)) (by omega) (by omega)]
  by_cases e : a - (l.length : Int) < 0
  · rw [if_pos e]; exact ⟨-1, rfl, by omega, .inl (by omega)⟩
  · rw [if_neg e]
    obtain ⟨z, hz, hz1, hz2⟩ := szSS_loop (l := l) (by omega) hr l.length k 0 (a - (l.length : Int)) (by omega) (by omega) (by omega) (by omega) (by omega)
    refine ⟨z, hz, by omega, hz2.imp id (fun h => ⟨by omega, fun r hm => ?_⟩)⟩
    obtain ⟨j, hj, rfl⟩ := List.mem_iff_getElem.mp hm
    have := h j (by omega) hj
    rw [getD_at hj] at this
    omega
theorem toSS_loop {l : List (List Int)} (hn : l.length ≤ 1048576) (hr : ∀ r ∈ l, r.length ≤ 1048576) (d : Nat) : ∀ (k i : Nat) (acc : List (List Int)), l.length - i = d → i ≤ l.length → d + 1048577 < k → acc.length = l.length → (∀ j, j < i → acc.getD j [] = l.getD j []) →
    laws_toInt64SS.l0 k l acc i = some l := by
  induction d with
  | zero =>
    intro k i acc hd hi hk ha h
    obtain ⟨k, rfl⟩ : ∃ m, k = m + 1 := ⟨k - 1, by omega⟩
    simp only [laws_toInt64SS.l0]
    rw [if_neg (by omega), ext_rows ha (fun j hj => h j (by omega))]
  | succ d ih =>
    intro k i acc hd hi hk ha h
    obtain ⟨k, rfl⟩ : ∃ m, k = m + 1 := ⟨k - 1, by omega⟩
    have hlt : i < l.length := by omega
    have hw := hr _ (row_mem hlt)
    simp only [laws_toInt64SS.l0]
    rw [if_pos (by omega), if_pos (by omega), rdS_nat, copy_tells (l := l.getD i []) (by omega) (k := k) (by omega), Option.bind_some, if_pos (by omega), Int.toNat_natCast, w64_succ (n := l.length) hlt (by omega)]
    refine ih k (i + 1) _ (by omega) (by omega) (by omega) (by simp [ha]) (fun j hj => ?_)
    rw [set_rows _ _ _ _ (by omega)]
    by_cases e : j = i
    · rw [if_pos e, e]
    · rw [if_neg e]; exact h j (by omega)
/-- A copy of rows is what is copied. -/
theorem toSS_tells {l : List (List Int)} (hn : l.length ≤ 1048576) (hr : ∀ r ∈ l, r.length ≤ 1048576) {k : Nat} (hk : 2097154 < k) : laws_toInt64SS.f k l = some l := by
  unfold laws_toInt64SS.f
  rw [if_pos (by omega), if_pos (by omega), Int.toNat_natCast]
  exact toSS_loop hn hr l.length k 0 _ (by omega) (by omega) (by omega) (by simp) (fun j hj => by omega)
theorem eqSS_loop {a b : List (List Int)} (hn : a.length ≤ 1048576) (hr : ∀ r ∈ a, r.length ≤ 1048576) (hab : a.length = b.length) (d : Nat) : ∀ (k i : Nat), a.length - i = d → i ≤ a.length → d + 1048577 < k → (∀ j, j < i → a.getD j [] = b.getD j []) →
    laws_eqInt64SS.l0 k a b i = some (decide (a = b)) := by
  induction d with
  | zero =>
    intro k i hd hi hk h
    obtain ⟨k, rfl⟩ : ∃ m, k = m + 1 := ⟨k - 1, by omega⟩
    simp only [laws_eqInt64SS.l0]
    rw [if_neg (by omega), decide_eq_true (ext_rows hab (fun j hj => h j (by omega)))]
  | succ d ih =>
    intro k i hd hi hk h
    obtain ⟨k, rfl⟩ : ∃ m, k = m + 1 := ⟨k - 1, by omega⟩
    have hlt : i < a.length := by omega
    have hw := hr _ (row_mem hlt)
    simp only [laws_eqInt64SS.l0]
    rw [if_pos (by omega), if_pos (by omega), if_pos (by omega), rdS_nat, rdS_nat, eq_tells (a := a.getD i []) (by omega) (k := k) (by omega), Option.bind_some, w64_succ (n := a.length) hlt (by omega)]
    by_cases e : a.getD i [] = b.getD i []
    · rw [decide_eq_true e, if_pos rfl]
      refine ih k (i + 1) (by omega) (by omega) (by omega) (fun j hj => ?_)
      by_cases e2 : j = i
      · rw [e2]; exact e
      · exact h j (by omega)
    · rw [decide_eq_false e, if_neg (by simp), decide_eq_false (fun h => e (by rw [h]))]
/-- Rows are compared. -/
theorem eqSS_tells {a b : List (List Int)} (hn : a.length ≤ 1048576) (hr : ∀ r ∈ a, r.length ≤ 1048576) {k : Nat} (hk : 2097154 < k) : laws_eqInt64SS.f k a b = some (decide (a = b)) := by
  unfold laws_eqInt64SS.f
  by_cases h : a.length = b.length
  · rw [if_pos (by omega)]
    exact eqSS_loop hn hr h a.length k 0 (by omega) (by omega) (by omega) (fun j hj => by omega)
  · rw [if_neg (by omega), decide_eq_false (fun e => h (by rw [e]))]

theorem w64_id {x : Int} (h0 : -9223372036854775808 ≤ x) (h1 : x ≤ 9223372036854775807) : wrap64 x = x := by unfold wrap64; omega
theorem same_in : impl_within.f = spec_l00In.f := rfl
theorem in_tells (n lo hi : Int) : spec_l00In.f n lo hi = some (decide (lo ≤ n ∧ n ≤ hi)) := by
  unfold spec_l00In.f
  by_cases h : n ≥ lo
  · have : lo ≤ n := h
    simp [this]
  · have : ¬ lo ≤ n := h
    simp [this]
theorem ask_prime : impl_ValidPrime.f = spec_l02Prime.f := by kernel_rfl
theorem prime_small : ∀ n, n < 252 → spec_l02Prime.f 20 (n : Nat) = some (isP n) := by decide +kernel
theorem prime_at (p : Int) : spec_l02Prime.f 20 p = some (isP p) := by
  by_cases h : 2 ≤ p ∧ p ≤ 251
  · obtain ⟨n, rfl⟩ := Int.eq_ofNat_of_zero_le (show 0 ≤ p by omega)
    exact prime_small n (by omega)
  · have : isP p = false := by unfold isP; simp; omega
    rw [this]
    unfold spec_l02Prime.f spec_l00In.f
    by_cases h1 : p ≥ 2
    · have : ¬ p ≤ 251 := by omega
      simp [h1, this]
    · simp [h1]
theorem prime_tells (p : Int) {k : Nat} (hk : 20 ≤ k) : spec_l02Prime.f k p = some (isP p) := at_rounds (spec_l02Prime.mono p) hk (prime_at p)

/-- A matrix as the list of its numbers. -/
def tab (r c : Nat) (f : Nat → Nat → Int) : List Int := (List.range (r * c)).map fun x => f (x / c) (x % c)
theorem lt_nat {i n : Nat} (h : i < n) : (i : Int) < (n : Int) := Int.ofNat_lt.mpr h
theorem nlt_nat {i n : Nat} (h : n ≤ i) : ¬ (i : Int) < (n : Int) := by omega
theorem idx0 (n : Nat) : (0 : Int) ≤ ((n : Nat) : Int) := Int.natCast_nonneg n
theorem tab_length (r c : Nat) (f) : (tab r c f).length = r * c := by unfold tab; simp
theorem at_div {c i j : Nat} (h : j < c) : (i * c + j) / c = i ∧ (i * c + j) % c = j := by
  rw [Nat.mul_comm]
  exact ⟨by rw [Nat.mul_add_div (by omega), Nat.div_eq_of_lt h]; omega, by rw [Nat.mul_add_mod, Nat.mod_eq_of_lt h]⟩
theorem at_lt {r c i j : Nat} (hi : i < r) (hj : j < c) : i * c + j < r * c := by
  have : (i + 1) * c ≤ r * c := Nat.mul_le_mul_right _ hi
  rw [Nat.succ_mul] at this
  omega
theorem smallS {p x y : Int} (hp : 2 ≤ p) (hp' : p ≤ 251) (hx : 0 ≤ x) (hx' : x ≤ 251) (hy : 0 ≤ y) (hy' : y < p) : 0 ≤ x * y ∧ x * y ≤ 63001 := by
  have g1 := Int.mul_nonneg hx hy
  have g2 : x * y ≤ 251 * 251 := Int.mul_le_mul (by omega) (by omega) hy (by omega)
  omega
theorem idx1 {r c i j : Nat} (f : Nat → Nat → Int) (hi : i < r) (hj : j < c) : ((i * c + j : Nat) : Int) < ((tab r c f).length : Int) := by
  rw [tab_length]; exact Int.ofNat_lt.mpr (at_lt hi hj)
theorem tab_getD {r c : Nat} (f) {x : Nat} (h : x < r * c) : (tab r c f).getD x 0 = f (x / c) (x % c) := by
  unfold tab; simp [List.getD_eq_getElem?_getD, h]
theorem tab_at {r c i j : Nat} (f) (hi : i < r) (hj : j < c) : (tab r c f).getD (i * c + j) 0 = f i j := by
  rw [tab_getD f (at_lt hi hj), (at_div hj).1, (at_div hj).2]
theorem split_at {r c x : Nat} (h : x < r * c) : x / c < r ∧ x % c < c ∧ x / c * c + x % c = x := by
  have hc : 0 < c := by rcases Nat.eq_zero_or_pos c with e | e; · subst e; simp at h
                        · exact e
  exact ⟨Nat.div_lt_of_lt_mul (by rw [Nat.mul_comm]; exact h), Nat.mod_lt _ hc, Nat.div_add_mod' x c⟩
theorem tab_ext {r c : Nat} {f} {l : List Int} (hl : l.length = r * c) (h : ∀ i j, i < r → j < c → l.getD (i * c + j) 0 = f i j) : l = tab r c f := by
  refine ext_getD (by rw [hl, tab_length]) (fun x hx => ?_)
  rw [hl] at hx
  obtain ⟨h1, h2, h3⟩ := split_at hx
  have := h _ _ h1 h2
  rw [h3] at this
  rw [this, tab_getD f hx]
theorem tab_congr {r c : Nat} {f g : Nat → Nat → Int} (h : ∀ i j, i < r → j < c → f i j = g i j) : tab r c f = tab r c g :=
  tab_ext (tab_length r c f) (fun i j hi hj => by rw [tab_at f hi hj, h i j hi hj])
theorem tab_self {r c : Nat} {l : List Int} (hl : l.length = r * c) : tab r c (fun i j => l.getD (i * c + j) 0) = l :=
  (tab_ext hl (fun _ _ _ _ => rfl)).symm
theorem side_mul {r c : Nat} (hr : r ≤ 128) (hc : c ≤ 128) : r * c ≤ 16384 := Nat.mul_le_mul hr hc
theorem w64_at {r c i j : Nat} (hr : r ≤ 128) (hc : c ≤ 128) (hi : i ≤ r) (hj : j ≤ c) : wrap64 (wrap64 ((i : Int) * (c : Int)) + (j : Int)) = ((i * c + j : Nat) : Int) := by
  have h := side_mul (Nat.le_trans hi hr) hc
  have e : (i : Int) * (c : Int) = ((i * c : Nat) : Int) := by push_cast; rfl
  rw [e, w64_id (x := ((i * c : Nat) : Int)) (by omega) (by omega), w64_id (x := ((i * c : Nat) : Int) + (j : Int)) (by omega) (by omega)]
  push_cast; rfl
theorem w64_mulN {r c : Nat} (hr : r ≤ 128) (hc : c ≤ 128) : wrap64 ((r : Int) * (c : Int)) = ((r * c : Nat) : Int) := by
  have h := side_mul hr hc
  have e : (r : Int) * (c : Int) = ((r * c : Nat) : Int) := by push_cast; rfl
  rw [e, w64_id (x := ((r * c : Nat) : Int)) (by omega) (by omega)]
theorem side_tells (n : Int) : impl_isSide.f n = some (decide (0 ≤ n ∧ n ≤ 32)) := by
  unfold impl_isSide.f
  rw [same_in, in_tells]; rfl
theorem tab_set {r c i j : Nat} (f : Nat → Nat → Int) (hi : i < r) (hj : j < c) (v : Int) : (tab r c f).set (i * c + j) v = tab r c (fun a b => if a = i ∧ b = j then v else f a b) := by
  refine tab_ext (by rw [List.length_set, tab_length]) (fun a b ha hb => ?_)
  rw [getD_set _ _ _ _ (by rw [tab_length]; exact at_lt hi hj)]
  by_cases e : a * c + b = i * c + j
  · have h1 := at_div (i := a) hb
    have h2 := at_div (i := i) hj
    rw [e] at h1
    rw [if_pos e, if_pos ⟨by rw [← h1.1, h2.1], by rw [← h1.2, h2.2]⟩]
  · rw [if_neg e, if_neg (fun h => e (by rw [h.1, h.2])), tab_at _ ha hb]

theorem slice_row {l : List Int} {r c i : Nat} (hl : l.length = r * c) (hi : i < r) : (l.take ((i + 1) * c)).drop (i * c) = (List.range c).map (fun j => l.getD (i * c + j) 0) := by
  have h1 : (i + 1) * c ≤ r * c := Nat.mul_le_mul_right _ hi
  have h2 := Nat.succ_mul i c
  have h4 : ((l.take ((i + 1) * c)).drop (i * c)).length = c := by
    rw [List.length_drop, List.length_take, Nat.min_eq_left (by rw [hl]; exact h1), h2, Nat.add_sub_cancel_left]
  refine List.ext_getElem (by rw [h4]; simp) (fun j hj hj' => ?_)
  have hj2 : j < c := by rw [h4] at hj; exact hj
  have h3 := at_lt hi hj2
  rw [List.getElem_drop, List.getElem_take, List.getElem_map, List.getElem_range, List.getD_eq_getElem?_getD, List.getElem?_eq_getElem (by omega)]
  rfl
end Go.Proofs.Ytoibkfdmcajieaa.F
end

section
set_option linter.unusedVariables false
set_option linter.unusedSimpArgs false
set_option linter.unusedSectionVars false
namespace Go.Proofs.Ytoibkfdmcajieaa.Lin

/-- The inverse of a number that is not 0. -/
def pinv (p a : Int) : Int := a ^ (p - 2).toNat % p
theorem pinv_range {p a : Int} (hp : isP p = true) : 0 ≤ pinv p a ∧ pinv p a < p := by
  have hp2 := isP_ge hp
  exact ⟨Int.emod_nonneg _ (by omega), Int.emod_lt_of_pos _ (by omega)⟩

/-! ### Rows as lists -/
/-- A row of n numbers modulo p. -/
def RowOk (p : Int) (n : Nat) (r : List Int) : Prop := r.length = n ∧ ∀ x, x ∈ r → 0 ≤ x ∧ x < p
def RowsOk (p : Int) (n : Nat) (rows : List (List Int)) : Prop := ∀ r, r ∈ rows → RowOk p n r
def cell (rows : List (List Int)) (i j : Nat) : Int := (rows.getD i []).getD j 0
theorem RowsOk.cell {p : Int} {n : Nat} {rows : List (List Int)} (h : RowsOk p n rows) (hp : 0 < p) (i j : Nat) : 0 ≤ cell rows i j ∧ cell rows i j < p := by
  unfold Lin.cell
  rw [List.getD_eq_getElem?_getD, List.getD_eq_getElem?_getD]
  by_cases hi : i < rows.length
  · rw [List.getElem?_eq_getElem hi]
    simp only [Option.getD_some]
    by_cases hj : j < (rows[i]).length
    · rw [List.getElem?_eq_getElem hj]
      exact (h _ (List.getElem_mem hi)).2 _ (List.getElem_mem hj)
    · rw [List.getElem?_eq_none (by omega)]; exact ⟨Int.le_refl 0, hp⟩
  · rw [List.getElem?_eq_none (show rows.length ≤ i by omega)]; simp; omega

/-- The rows below the first ones: where is the first number at c that is not 0? -/
def findPivot (rows : List (List Int)) (top c : Nat) : Option Nat := (rows.drop top).findIdx? (fun r => decide (r.getD c 0 ≠ 0))
def swapRows (rows : List (List Int)) (a b : Nat) : List (List Int) := (rows.set a (rows.getD b [])).set b (rows.getD a [])
def clearRow (p : Int) (c : Nat) (q r : List Int) : List Int := if r.getD c 0 = 0 then r else addRow p r q (p - r.getD c 0)
def clearAll (p : Int) (c top : Nat) (q : List Int) (rows : List (List Int)) : List (List Int) := rows.mapIdx (fun i r => if i = top then r else clearRow p c q r)
/-- A column of the elimination: rows, pivots, determinant. -/
def elimStep (p : Int) (s : List (List Int) × List Int × Int) (c : Nat) : List (List Int) × List Int × Int :=
  match findPivot s.1 s.2.1.length c with
  | none => (s.1, s.2.1, 0)
  | some k =>
    let top := s.2.1.length
    let rows := if k = 0 then s.1 else swapRows s.1 top (top + k)
    let lead := cell rows top c
    let q := (rows.getD top []).map (fun x => pinv p lead * x % p)
    (clearAll p c top q (rows.set top q), s.2.1 ++ [(c : Int)], (if k = 0 then s.2.2 else -s.2.2 % p) * lead % p)
def elimTo (p : Int) (rows : List (List Int)) (c : Nat) : List (List Int) × List Int × Int := (List.range c).foldl (elimStep p) (rows, [], 1)
theorem elimTo_succ (p : Int) (rows : List (List Int)) (c : Nat) : elimTo p rows (c + 1) = elimStep p (elimTo p rows c) c := by
  unfold elimTo; rw [List.range_succ, List.foldl_append]; rfl
/-- The reduced rows, the pivots, the determinant. -/
def elim (p : Int) (n : Nat) (rows : List (List Int)) : List (List Int) × List Int × Int := elimTo p rows n

theorem swapRows_length (rows : List (List Int)) (a b : Nat) : (swapRows rows a b).length = rows.length := by unfold swapRows; simp
theorem clearAll_length (p : Int) (c top : Nat) (q : List Int) (rows : List (List Int)) : (clearAll p c top q rows).length = rows.length := by unfold clearAll; simp
theorem swapRows_get (rows : List (List Int)) {a b : Nat} (ha : a < rows.length) (hb : b < rows.length) (i : Nat) : (swapRows rows a b).getD i [] = if i = b then rows.getD a [] else if i = a then rows.getD b [] else rows.getD i [] := by
  unfold swapRows
  simp only [List.getD_eq_getElem?_getD, List.getElem?_set, List.length_set]
  by_cases h1 : b = i
  · subst h1; simp [hb]
  · by_cases h2 : a = i
    · subst h2; simp [h1, ha, Ne.symm h1]
    · simp [h1, h2, Ne.symm h1, Ne.symm h2]
theorem getD_mem {α : Type} {l : List α} {i : Nat} {d : α} (h : i < l.length) : l.getD i d ∈ l := by
  rw [List.getD_eq_getElem?_getD, List.getElem?_eq_getElem h]; exact List.getElem_mem h
theorem findPivot_some {rows : List (List Int)} {top c k : Nat} (h : findPivot rows top c = some k) : top + k < rows.length ∧ cell rows (top + k) c ≠ 0 := by
  unfold findPivot at h
  obtain ⟨hk, hp, _⟩ := List.findIdx?_eq_some_iff_getElem.mp h
  rw [List.length_drop] at hk
  refine ⟨by omega, ?_⟩
  rw [List.getElem_drop] at hp
  unfold cell
  rw [List.getD_eq_getElem?_getD (l := rows), List.getElem?_eq_getElem (show top + k < rows.length by omega)]
  simpa using hp
theorem findPivot_none {rows : List (List Int)} {top c : Nat} (h : findPivot rows top c = none) (i : Nat) (h1 : top ≤ i) (h2 : i < rows.length) : cell rows i c = 0 := by
  unfold findPivot at h
  have h3 := List.findIdx?_eq_none_iff.mp h (rows[i]) (by
    rw [List.mem_iff_getElem]
    exact ⟨i - top, by rw [List.length_drop]; omega, by rw [List.getElem_drop]; congr 1; omega⟩)
  unfold cell
  rw [List.getD_eq_getElem?_getD (l := rows), List.getElem?_eq_getElem h2]
  simpa using h3
theorem addRow_ok {p : Int} {n : Nat} {a b : List Int} (c : Int) (hp : 0 < p) (ha : a.length = n) (hb : b.length = n) : RowOk p n (addRow p a b c) := by
  refine ⟨by unfold addRow; simp [ha, hb], fun x hx => ?_⟩
  unfold addRow at hx
  rw [List.mem_iff_getElem] at hx
  obtain ⟨j, hj, rfl⟩ := hx
  rw [List.getElem_zipWith]
  exact ⟨Int.emod_nonneg _ (by omega), Int.emod_lt_of_pos _ hp⟩
theorem scale_ok {p : Int} {n : Nat} {a : List Int} (c : Int) (hp : 0 < p) (ha : a.length = n) : RowOk p n (a.map (fun x => c * x % p)) := by
  refine ⟨by simp [ha], fun x hx => ?_⟩
  obtain ⟨y, _, rfl⟩ := List.mem_map.mp hx
  exact ⟨Int.emod_nonneg _ (by omega), Int.emod_lt_of_pos _ hp⟩
theorem RowsOk.set {p : Int} {n : Nat} {rows : List (List Int)} (h : RowsOk p n rows) {r : List Int} (hr : RowOk p n r) (k : Nat) : RowsOk p n (rows.set k r) := fun x hx => by
  rcases List.mem_or_eq_of_mem_set hx with h1 | h1
  · exact h x h1
  · rw [h1]; exact hr
theorem RowsOk.swap {p : Int} {n : Nat} {rows : List (List Int)} (h : RowsOk p n rows) {a b : Nat} (ha : a < rows.length) (hb : b < rows.length) : RowsOk p n (swapRows rows a b) :=
  (h.set (h _ (getD_mem hb)) a).set (h _ (getD_mem ha)) b
theorem clearRow_ok {p : Int} {n : Nat} {q r : List Int} (c : Nat) (hp : 0 < p) (hq : q.length = n) (hr : RowOk p n r) : RowOk p n (clearRow p c q r) := by
  unfold clearRow
  split
  · exact hr
  · exact addRow_ok _ hp hr.1 hq
theorem RowsOk.clear {p : Int} {n : Nat} {rows : List (List Int)} (h : RowsOk p n rows) (hp : 0 < p) {q : List Int} (hq : q.length = n) (c top : Nat) : RowsOk p n (clearAll p c top q rows) := fun x hx => by
  unfold clearAll at hx
  obtain ⟨i, hi, rfl⟩ := List.mem_mapIdx.mp hx
  split
  · exact h _ (List.getElem_mem hi)
  · exact clearRow_ok c hp hq (h _ (List.getElem_mem hi))
theorem clearAll_get {p : Int} {c top : Nat} {q : List Int} {rows : List (List Int)} {i : Nat} (hi : i < rows.length) : (clearAll p c top q rows).getD i [] = if i = top then rows.getD i [] else clearRow p c q (rows.getD i []) := by
  unfold clearAll
  simp only [List.getD_eq_getElem?_getD, List.getElem?_mapIdx, List.getElem?_eq_getElem hi, Option.map_some, Option.getD_some]
theorem elimStep_none {p : Int} {c : Nat} {rows : List (List Int)} {piv : List Int} {d : Int} (h : findPivot rows piv.length c = none) : elimStep p (rows, piv, d) c = (rows, piv, 0) := by
  unfold elimStep
  dsimp only
  rw [h]
/-- What every step of the elimination keeps. -/
theorem elimTo_small {p : Int} {n : Nat} {rows : List (List Int)} (hp : isP p = true) (hok : RowsOk p n rows) (c : Nat) (hc : c ≤ n) :
    RowsOk p n (elimTo p rows c).1 ∧ (elimTo p rows c).1.length = rows.length ∧ (elimTo p rows c).2.1.length ≤ c ∧ (elimTo p rows c).2.1.length ≤ rows.length ∧ (0 ≤ (elimTo p rows c).2.2 ∧ (elimTo p rows c).2.2 < p) ∧ ((elimTo p rows c).2.1.length < c → (elimTo p rows c).2.2 = 0) := by
  have hp2 := isP_ge hp
  induction c with
  | zero => exact ⟨hok, rfl, Nat.le_refl _, Nat.zero_le _, ⟨by show (0:Int) ≤ 1; omega, by show (1:Int) < p; omega⟩, fun h => absurd h (Nat.not_lt_zero _)⟩
  | succ c ih =>
    obtain ⟨h1, h2, h3, h4, h5, h6⟩ := ih (by omega)
    rw [elimTo_succ]
    generalize elimTo p rows c = s at *
    obtain ⟨R, piv, d⟩ := s
    dsimp only at *
    cases hf : findPivot R piv.length c with
    | none =>
      rw [elimStep_none hf]
      exact ⟨h1, h2, Nat.le_succ_of_le h3, h4, ⟨Int.le_refl 0, by show (0:Int) < p; omega⟩, fun _ => rfl⟩
    | some k =>
      obtain ⟨b1, b2⟩ := findPivot_some hf
      have hst : elimStep p (R, piv, d) c = (clearAll p c piv.length (((if k = 0 then R else swapRows R piv.length (piv.length + k)).getD piv.length []).map (fun x => pinv p (cell (if k = 0 then R else swapRows R piv.length (piv.length + k)) piv.length c) * x % p)) ((if k = 0 then R else swapRows R piv.length (piv.length + k)).set piv.length (((if k = 0 then R else swapRows R piv.length (piv.length + k)).getD piv.length []).map (fun x => pinv p (cell (if k = 0 then R else swapRows R piv.length (piv.length + k)) piv.length c) * x % p))), piv ++ [(c : Int)], (if k = 0 then d else -d % p) * cell (if k = 0 then R else swapRows R piv.length (piv.length + k)) piv.length c % p) := by
        unfold elimStep; simp only [hf]
      rw [hst]
      have hW : RowsOk p n (if k = 0 then R else swapRows R piv.length (piv.length + k)) ∧ (if k = 0 then R else swapRows R piv.length (piv.length + k)).length = R.length := by
        by_cases e : k = 0
        · rw [if_pos e]; exact ⟨h1, rfl⟩
        · rw [if_neg e]; exact ⟨RowsOk.swap h1 (by omega) b1, swapRows_length _ _ _⟩
      have hz : (if k = 0 then d else -d % p) = 0 ∨ ¬ piv.length < c := by
        by_cases e : piv.length < c
        · left; rw [h6 e]; simp
        · exact .inr e
      generalize (if k = 0 then R else swapRows R piv.length (piv.length + k)) = W at hW ⊢
      generalize (if k = 0 then d else -d % p) = e at hz ⊢
      have okT : RowOk p n (W.getD piv.length []) := hW.1 _ (getD_mem (by omega))
      have hq : RowOk p n ((W.getD piv.length []).map (fun x => pinv p (cell W piv.length c) * x % p)) := scale_ok _ (by omega) okT.1
      refine ⟨RowsOk.clear (RowsOk.set hW.1 hq _) (by omega) hq.1 c _, ?_, ?_, ?_, ⟨Int.emod_nonneg _ (by omega), Int.emod_lt_of_pos _ (by omega)⟩, fun h => ?_⟩
      · rw [clearAll_length, List.length_set]; omega
      · simp; omega
      · simp; omega
      · rcases hz with hz | hz
        · show e * _ % p = 0
          rw [hz]; simp
        · exfalso; simp at h; omega
end Go.Proofs.Ytoibkfdmcajieaa.Lin
end

section
set_option linter.unusedVariables false
set_option linter.unusedSimpArgs false
set_option linter.unusedSectionVars false
namespace Go.Proofs.Ytoibkfdmcajieaa.F
open Go.RowKit Go.Proofs.YtoibkfdmcajieaaW.PrintWords Go.Proofs.YtoibkfdmcajieaaW.PrintLast Go.Proofs.Ytoibkfdmcajieaa.Lin

theorem rdL_nat (l : List (List Int)) (i : Nat) : rd_L1 l (i : Int) = l.getD i [] := by unfold rd_L1; rw [Int.toNat_natCast]
/-- The rows of a matrix. -/
def rowsM (R C : Nat) (l : List Int) : List (List Int) := (List.range R).map (fun i => (List.range C).map (fun j => l.getD (i * C + j) 0))
theorem rowsM_length (R C : Nat) (l : List Int) : (rowsM R C l).length = R := by unfold rowsM; simp
theorem rowsM_snoc (R C : Nat) (l : List Int) : rowsM R C l ++ [(List.range C).map (fun j => l.getD (R * C + j) 0)] = rowsM (R + 1) C l := by
  unfold rowsM; rw [List.range_succ, List.map_append]; rfl
theorem rowsM_ok {p : Int} {R C : Nat} {l : List Int} (h : ∀ j, 0 ≤ l.getD j 0 ∧ l.getD j 0 < p) : RowsOk p C (rowsM R C l) := fun r hr => by
  unfold rowsM at hr
  obtain ⟨i, _, rfl⟩ := List.mem_map.mp hr
  refine ⟨by simp, fun x hx => ?_⟩
  obtain ⟨j, _, rfl⟩ := List.mem_map.mp hx
  exact h _
theorem rowsM_cell {R C i j : Nat} (l : List Int) (hi : i < R) (hj : j < C) : cell (rowsM R C l) i j = l.getD (i * C + j) 0 := by
  unfold cell rowsM
  simp [List.getD_eq_getElem?_getD, hi, hj]
theorem rowsM_tab {R C : Nat} {l : List Int} (hl : l.length = R * C) : tab R C (cell (rowsM R C l)) = l :=
  (tab_ext hl (fun i j hi hj => (rowsM_cell l hi hj).symm)).symm
theorem clone_tells {p r : Int} {R C : Nat} {l : List Int} (hR : R ≤ 64) (hC : C ≤ 70) (hl : l.length = R * C) {i : Nat} (hi : i < R) :
    slices_Clone_int64_int64.f p r C l i = some ((List.range C).map (fun j => l.getD (i * C + j) 0)) := by
  unfold slices_Clone_int64_int64.f
  have h1 : (i + 1) * C ≤ R * C := Nat.mul_le_mul_right _ hi
  have h2 : i * C ≤ (i + 1) * C := Nat.mul_le_mul_right _ (by omega)
  rw [w64_succ (n := 64) (i := i) (by omega) (by omega), w64_mulN (r := i) (by omega) (by omega), w64_mulN (r := i + 1) (by omega) (by omega), if_pos (idx0 _), if_pos (by omega), if_pos (by omega), Int.toNat_natCast, Int.toNat_natCast, slice_row hl hi]
  rw [if_pos (by simp; omega)]
theorem rowsOf_loop {p r : Int} {R C : Nat} {l : List Int} (hR : R ≤ 64) (hC : C ≤ 70) (hl : l.length = R * C) (d : Nat) : ∀ k i, R - i = d → i ≤ R → d < k → impl_rowsOf.l0 k (rowsM i C l) R i p r C l = some (rowsM R C l) := by
  induction d with
  | zero =>
    intro k i hd hi hk
    obtain ⟨k, rfl⟩ : ∃ m, k = m + 1 := ⟨k - 1, by omega⟩
    obtain rfl : i = R := by omega
    simp only [impl_rowsOf.l0]
    rw [if_neg (nlt_nat (Nat.le_refl _))]
  | succ d ih =>
    intro k i hd hi hk
    obtain ⟨k, rfl⟩ : ∃ m, k = m + 1 := ⟨k - 1, by omega⟩
    have hiR : i < R := by omega
    simp only [impl_rowsOf.l0]
    rw [if_pos (lt_nat hiR), clone_tells hR hC hl hiR, Option.bind_some, if_pos (by rw [rowsM_length]; omega), rowsM_snoc, w64_succ (n := 64) (by omega) (by omega)]
    exact ih k (i + 1) (by omega) (by omega) (by omega)
theorem rowsOf_tells {p : Int} {R C : Nat} {l : List Int} (hR : R ≤ 64) (hC : C ≤ 70) (hl : l.length = R * C) {k : Nat} (hk : R < k) : impl_rowsOf.f k p R C l = some (rowsM R C l) := by
  unfold impl_rowsOf.f
  exact rowsOf_loop hR hC hl R k 0 (by omega) (by omega) hk
theorem take_flatten_succ {α : Type} (rs : List (List α)) {i : Nat} (hi : i < rs.length) : (rs.take (i + 1)).flatten = (rs.take i).flatten ++ rs.getD i [] := by
  rw [List.take_add_one, List.getElem?_eq_getElem hi, List.flatten_append, getD_at hi]
  simp
theorem tab_snoc (r c : Nat) (f : Nat → Nat → Int) : tab (r + 1) c f = tab r c f ++ (List.range c).map (f r) := by
  symm
  refine tab_ext (by rw [List.length_append, tab_length]; simp [Nat.succ_mul]) (fun i j hi hj => ?_)
  rw [List.getD_eq_getElem?_getD, List.getElem?_append, tab_length]
  by_cases h : i < r
  · have := at_lt h hj
    rw [if_pos this, ← List.getD_eq_getElem?_getD, tab_at f h hj]
  · obtain rfl : i = r := by omega
    rw [if_neg (by omega)]
    have e : i * c + j - i * c = j := by omega
    rw [e]
    simp [hj]
theorem flatten_tab {p : Int} {C : Nat} {rs : List (List Int)} (hok : RowsOk p C rs) (i : Nat) (hi : i ≤ rs.length) : (rs.take i).flatten = tab i C (cell rs) := by
  induction i with
  | zero => unfold tab; simp
  | succ i ih =>
    have hiR : i < rs.length := by omega
    rw [take_flatten_succ rs hiR, ih (by omega), tab_snoc]
    congr 1
    have h := (hok _ (getD_mem (d := []) hiR)).1
    refine ext_getD (by simpa using h) (fun j hj => ?_)
    rw [h] at hj
    show cell rs i j = _
    simp [List.getD_eq_getElem?_getD, hj]
theorem flatten_rows {p : Int} {C : Nat} {rs : List (List Int)} (hok : RowsOk p C rs) : rs.flatten = tab rs.length C (cell rs) := by
  have := flatten_tab hok rs.length (Nat.le_refl _)
  rwa [List.take_length] at this
theorem row_of_tab {p : Int} {C : Nat} {rs : List (List Int)} (hok : RowsOk p C rs) {i : Nat} (hi : i < rs.length) : ((tab rs.length C (cell rs)).take ((i + 1) * C)).drop (i * C) = rs.getD i [] := by
  rw [slice_row (tab_length _ _ _) hi]
  have h := (hok _ (getD_mem (d := []) hi)).1
  refine ext_getD (by simpa using h.symm) (fun j hj => ?_)
  have hj' : j < C := by simpa using hj
  rw [← h] at hj'
  have e := tab_at (cell rs) hi (show j < C by omega)
  simp only [List.getD_eq_getElem?_getD, List.getElem?_map, List.getElem?_range (show j < C by omega), Option.map_some, Option.getD_some] at e ⊢
  rw [e]
  unfold cell
  simp only [List.getD_eq_getElem?_getD]

theorem pow_emod (a : Int) (n : Nat) (p : Int) : (a % p) ^ n % p = a ^ n % p := by
  induction n with
  | zero => rw [Int.pow_zero, Int.pow_zero]
  | succ n ih => rw [Int.pow_succ, Int.pow_succ, Int.mul_emod, ih, Int.emod_emod_of_dvd a (Int.dvd_refl p), ← Int.mul_emod]
theorem small_mul {p x y : Int} (hp : 2 ≤ p) (hp' : p ≤ 251) (hx : 0 ≤ x) (hx' : x < p) (hy : 0 ≤ y) (hy' : y < p) : 0 ≤ x * y ∧ x * y ≤ 63001 := by
  have h1 := Int.mul_nonneg hx hy
  have h2 : x * y ≤ 251 * 251 := Int.mul_le_mul (by omega) (by omega) hy (by omega)
  omega
theorem tmod_small {p x y : Int} (hp : 2 ≤ p) (hp' : p ≤ 251) (hx : 0 ≤ x) (hx' : x < p) (hy : 0 ≤ y) (hy' : y < p) : Int.tmod (wrap64 (x * y)) p = x * y % p := by
  have h := small_mul hp hp' hx hx' hy hy'
  rw [w64_id (x := x * y) (by omega) (by omega), Int.tmod_eq_emod_of_nonneg h.1]
theorem half_wrap {n : Nat} (h : n ≤ 9223372036854775807) : Int.tmod (n : Int) 2 = ((n % 2 : Nat) : Int) ∧ wrap64 (Int.tdiv (n : Int) 2) = ((n / 2 : Nat) : Int) := by
  rw [Int.tmod_eq_emod_of_nonneg (Int.natCast_nonneg n), Int.tdiv_eq_ediv_of_nonneg (Int.natCast_nonneg n)]
  refine ⟨by omega, ?_⟩
  rw [w64_id (x := (n : Int) / 2) (by omega) (by omega)]; omega
theorem emod_range {p : Int} (hp : 2 ≤ p) (x : Int) : 0 ≤ x % p ∧ x % p < p := ⟨Int.emod_nonneg _ (by omega), Int.emod_lt_of_pos _ (by omega)⟩
theorem pow_loop {p : Int} (hp : 2 ≤ p) (hp' : p ≤ 251) (j : Nat) : ∀ (k : Nat) (x acc : Int) (n : Nat), j < k → n < 2 ^ j → n ≤ 9223372036854775807 → 0 ≤ x → x < p → 0 ≤ acc → acc < p →
    impl_powerOf.l0 k x n p acc = some (acc * x ^ n % p) := by
  induction j with
  | zero =>
    intro k x acc n hk hn _ _ _ h0 h1
    obtain ⟨k, rfl⟩ : ∃ m, k = m + 1 := ⟨k - 1, by omega⟩
    obtain rfl : n = 0 := by simpa using hn
    simp only [impl_powerOf.l0]
    rw [if_neg (by simp)]
    rw [Int.pow_zero, Int.mul_one, Int.emod_eq_of_lt h0 h1]
  | succ j ih =>
    intro k x acc n hk hn hn2 hx hx' h0 h1
    obtain ⟨k, rfl⟩ : ∃ m, k = m + 1 := ⟨k - 1, by omega⟩
    simp only [impl_powerOf.l0]
    by_cases hz : n = 0
    · subst hz
      rw [if_neg (by simp), Int.pow_zero, Int.mul_one, Int.emod_eq_of_lt h0 h1]
    · have hh : n / 2 < 2 ^ j := Nat.div_lt_of_lt_mul (by rw [Nat.pow_succ, Nat.mul_comm] at hn; exact hn)
      clear hn
      have e0 : (n : Int) > 0 := by omega
      obtain ⟨e1, e2⟩ := half_wrap hn2
      have e3 := tmod_small hp hp' hx hx' hx hx'
      have e4 := tmod_small hp hp' h0 h1 hx hx'
      have ep : ¬ p = 0 := by omega
      simp only [e0, if_true, e1, e2, e3, e4, ep, if_false]
      obtain ⟨m1, m2⟩ := emod_range hp (x * x)
      obtain ⟨m3, m4⟩ := emod_range hp (acc * x)
      have hn3 : n / 2 ≤ 9223372036854775807 := Nat.le_trans (Nat.div_le_self _ _) hn2
      have hk' : j < k := by omega
      have key : (x * x % p) ^ (n / 2) % p = x ^ (2 * (n / 2)) % p := by
        rw [pow_emod, Int.pow_mul, Int.pow_succ, Int.pow_succ, Int.pow_zero, Int.one_mul]
      by_cases ho : n % 2 = 1
      · rw [if_pos (by rw [ho]; rfl), ih k (x * x % p) (acc * x % p) (n / 2) hk' hh hn3 m1 m2 m3 m4]
        congr 1
        rw [Int.mul_emod, key, Int.emod_emod_of_dvd _ (Int.dvd_refl p), ← Int.mul_emod, Int.mul_assoc]
        congr 2
        rw [Int.mul_comm, ← Int.pow_succ]
        congr 1; omega
      · rw [if_neg (fun e => ho (by have := Int.ofNat_inj.mp e; exact this)), ih k (x * x % p) acc (n / 2) hk' hh hn3 m1 m2 h0 h1]
        congr 1
        rw [Int.mul_emod, key, ← Int.mul_emod]
        congr 3; omega
theorem pow_tells {p a : Int} {n : Nat} (hp : 2 ≤ p) (hp' : p ≤ 251) (h0 : 0 ≤ a) (h1 : a < p) (hn : n ≤ 9223372036854775807) {k : Nat} (hk : 64 ≤ k) : impl_powerOf.f k a n p = some (a ^ n % p) := by
  unfold impl_powerOf.f
  rw [pow_loop hp hp' 63 k a 1 n (by omega) (by omega) hn h0 h1 (by omega) (by omega), Int.one_mul]
theorem inverse_tells {p a : Int} (hp : isP p = true) (h0 : 0 ≤ a) (h1 : a < p) {k : Nat} (hk : 64 ≤ k) : impl_inverseOf.f k a p = some (pinv p a) := by
  have h := isP_ge hp
  unfold impl_inverseOf.f
  rw [w64_id (x := p - 2) (by omega) (by omega), show p - 2 = (((p - 2).toNat : Nat) : Int) by omega, pow_tells h.1 h.2 h0 h1 (by omega) hk]
  rfl
end Go.Proofs.Ytoibkfdmcajieaa.F
end
