-- Texts of this claim, merged by pack.py (a program of this session's).
import Derived.Test.YtoibkfdmcajieaaQFnExactKernelOf0
import Derived.Test.YtoibkfdmcajieaaQFnExactKernelOf6
import Derived.Test.YtoibkfdmcajieaaQFnExactKernelOf7

section
namespace Go.Proofs.Ytoibkfdmcajieaa.F
open Go.RowKit Go.Proofs.YtoibkfdmcajieaaW.PrintWords Go.Proofs.YtoibkfdmcajieaaW.PrintLast Go.Proofs.YtoibkfdmcajieaaW.PrintMore
attribute [local go_sem] max2_int min2_int max_two min_two max_three min_three max_four min_four   -- for this text's walks alone
set_option linter.unusedVariables false
set_option linter.unusedSimpArgs false

/-! ### slices_Index_int64_int64: function 89 -/
def slices_Index_int64_int64.l0 : Nat → List Int → Int → Int → Int → Option (Int)
  | 0, _, _, _, _ => none
  | k + 1, x0, x1, x7, x8 => if x8 < x7 then (if 0 ≤ x8 then (if x8 < (x0.length : Int) then (if x1 = (rd x0 x8) then (some x8) else (slices_Index_int64_int64.l0 k x0 x1 x7 (wrap64 (x8 + 1)))) else (none)) else (none)) else (some (-1))
def slices_Index_int64_int64.f (k : Nat) (l0 : List Int) (a1 : Int) : Option (Int) := slices_Index_int64_int64.l0 k l0 a1 (l0.length : Int) 0
theorem slices_Index_int64_int64.mono_l : ∀ k, (∀ y0 y1 y2 y3, LeO (slices_Index_int64_int64.l0 k y0 y1 y2 y3) (slices_Index_int64_int64.l0 (k + 1) y0 y1 y2 y3))
  | 0 => fun _ _ _ _ r h => by simp [slices_Index_int64_int64.l0] at h
  | k + 1 => by
    have ih0 := slices_Index_int64_int64.mono_l k
    · intro y0 y1 y2 y3
      unfold slices_Index_int64_int64.l0
      repeat' first
      | (with_reducible exact ih0 _ _ _ _)
      | (with_reducible exact LeO.refl _)
      | (with_reducible exact LeO.none _)
      | (with_reducible refine LeO.ite ?_ ?_)
      | (with_reducible refine LeO.bind ?_ (fun _ => ?_))
      | exact ih0 _ _ _ _
      | exact LeO.none _
      | refine LeO.ite ?_ ?_
      | refine LeO.bind ?_ (fun _ => ?_)
theorem slices_Index_int64_int64.mono : ∀ a0 a1 k, LeO (slices_Index_int64_int64.f k a0 a1) (slices_Index_int64_int64.f (k + 1) a0 a1) := by
  intro a0 a1 k
  have ih0 := slices_Index_int64_int64.mono_l k
  unfold slices_Index_int64_int64.f
  repeat' first
      | (with_reducible exact ih0 _ _ _ _)
      | (with_reducible exact LeO.refl _)
      | (with_reducible exact LeO.none _)
      | (with_reducible refine LeO.ite ?_ ?_)
      | (with_reducible refine LeO.bind ?_ (fun _ => ?_))
      | exact ih0 _ _ _ _
      | exact LeO.none _
      | refine LeO.ite ?_ ?_
      | refine LeO.bind ?_ (fun _ => ?_)
set_option maxHeartbeats 8000000 in
set_option maxRecDepth 100000 in
theorem slices_Index_int64_int64.calls (k : Nat) (A0 : Option Addr) (c0 : Nat) (l0 : List Int) (a1 : Int) (r : Int) (w : World) (hr0 : Kd.C (Kd.int .i64) w A0 l0.length l0) (hc0 : l0.length ≤ c0) (h : slices_Index_int64_int64.f k l0 a1 = some r) :
  Calls Try.prog 89 #[.slice A0 l0.length c0, .int .i64 a1] w fun e w' => e = .returned (.int .i64 r) ∧ Drawn0 w w' := by
 have HR0 := Aside0.mk hr0
 have HC0 := Aside0.mk hc0
 clear hr0 hc0
 have H : (slices_Index_int64_int64.l0 k l0 a1 (l0.length : Int) 0) = some r := h
 clear h
 have H' := Aside0.mk H
 clear H
 go_enter Try.func89, Try.ntmps89
 go_wp2
 go_loopg [8] k (fun kq v8 w' => ∃ (x8_1 : Int), v8 = .int .i64 x8_1 ∧ Aside0 (slices_Index_int64_int64.l0 kq l0 a1 (l0.length : Int) x8_1 = some r) ∧ Aside0 (kq ≤ k) ∧ Drawn0 w w')
 case atStart => exact ⟨(0), (by first | rfl | (simp; done) | (simp [*]; done)), H', ⟨Nat.le_refl _⟩, (by repeat (first | exact Drawn0.refl _ | apply Drawn0.step))⟩
 case round =>
  clear H'
  try clear p2
  obtain ⟨x8_1, rfl, HA, HK1, ⟨m1, rfl⟩⟩ := hrel
  cases gk with
  | zero => exact absurd HA.out (by simp [slices_Index_int64_int64.l0])
  | succ k1 =>
   have H := HA.out
   clear HA
   simp only [slices_Index_int64_int64.l0] at H
   by_cases c3 : x8_1 < (l0.length : Int)
   ·rw [if_pos c3] at H
    have c3b0 : decide (x8_1 < (l0.length : Int)) = true := decide_eq_true c3
    clear c3
    by_cases c4 : 0 ≤ x8_1
    ·rw [if_pos c4] at H
     have c4b0 : decide (0 ≤ x8_1) = true := decide_eq_true c4
     clear c4
     by_cases c5 : x8_1 < (l0.length : Int)
     ·rw [if_pos c5] at H
      have c5b0 : decide (x8_1 < (l0.length : Int)) = true := decide_eq_true c5
      clear c5
      by_cases c6 : a1 = (rd l0 x8_1)
      ·rw [if_pos c6] at H
       have c6b0 : (a1 == (rd l0 x8_1)) = true := beq_iff_eq.mpr c6
       have c6b1 : (a1 != (rd l0 x8_1)) = false := bne_eq_false_iff_eq.mpr c6
       clear c6
       obtain rfl := Option.some.inj H
       have p101 : 0 ≤ (x8_1 : Int) := of_decide_eq_true (by first | (with_reducible assumption) | assumption)
       have q101 : x8_1 < (l0.length : Int) := of_decide_eq_true (by first | (with_reducible assumption) | assumption)
       obtain ⟨ad101, e101, hx101_0⟩ := Kd.at_int HR0.out x8_1 p101 q101
       cases e101
       replace p101 := eq_true p101
       replace q101 := eq_true q101
       go_wp2
       go_ret
       exact ⟨(by first | rfl | (simp; done) | (simp [*]; done)), (by repeat (first | exact Drawn0.refl _ | apply Drawn0.step))⟩
      rw [if_neg c6] at H
      have c6b0 : (a1 == (rd l0 x8_1)) = false := beq_eq_false_iff_ne.mpr c6
      have c6b1 : (a1 != (rd l0 x8_1)) = true := bne_iff_ne.mpr c6
      have H' := Aside0.mk H
      clear H
      have p101 : 0 ≤ (x8_1 : Int) := of_decide_eq_true (by first | (with_reducible assumption) | assumption)
      have q101 : x8_1 < (l0.length : Int) := of_decide_eq_true (by first | (with_reducible assumption) | assumption)
      obtain ⟨ad101, e101, hx101_0⟩ := Kd.at_int HR0.out x8_1 p101 q101
      cases e101
      replace p101 := eq_true p101
      replace q101 := eq_true q101
      go_wp2
      go_roundg k1
      case measure => have := HK1.out; omega
      case rel => exact ⟨(wrap64 (x8_1 + 1)), (by first | rfl | (simp; done) | (simp [*]; done)), H', ⟨(by have := HK1.out; omega)⟩, (by repeat (first | exact Drawn0.refl _ | apply Drawn0.step))⟩
     rw [if_neg c5] at H
     exact absurd H (by simp)
    rw [if_neg c4] at H
    exact absurd H (by simp)
   rw [if_neg c3] at H
   have c3b0 : decide (x8_1 < (l0.length : Int)) = false := decide_eq_false c3
   clear c3
   obtain rfl := Option.some.inj H
   go_wp2
   go_ret
   exact ⟨(by first | rfl | (simp; done) | (simp [*]; done)), (by repeat (first | exact Drawn0.refl _ | apply Drawn0.step))⟩


/-! ### slices_Contains_int64_int64: function 70 -/
def slices_Contains_int64_int64.f (k : Nat) (l0 : List Int) (a1 : Int) : Option (Bool) := (slices_Index_int64_int64.f k l0 a1).bind fun t101 => (some (decide (t101 ≥ 0)))
theorem slices_Contains_int64_int64.mono : ∀ a0 a1 k, LeO (slices_Contains_int64_int64.f k a0 a1) (slices_Contains_int64_int64.f (k + 1) a0 a1) := by
  intro a0 a1 k
  unfold slices_Contains_int64_int64.f
  repeat' first
      | (with_reducible exact slices_Index_int64_int64.mono _ _ _)
      | (with_reducible exact LeO.refl _)
      | (with_reducible exact LeO.none _)
      | (with_reducible refine LeO.ite ?_ ?_)
      | (with_reducible refine LeO.bind ?_ (fun _ => ?_))
      | exact slices_Index_int64_int64.mono _ _ _
      | exact LeO.none _
      | refine LeO.ite ?_ ?_
      | refine LeO.bind ?_ (fun _ => ?_)
set_option maxHeartbeats 8000000 in
set_option maxRecDepth 100000 in
theorem slices_Contains_int64_int64.calls (k : Nat) (A0 : Option Addr) (c0 : Nat) (l0 : List Int) (a1 : Int) (r : Bool) (w : World) (hr0 : Kd.C (Kd.int .i64) w A0 l0.length l0) (hc0 : l0.length ≤ c0) (h : slices_Contains_int64_int64.f k l0 a1 = some r) :
  Calls Try.prog 70 #[.slice A0 l0.length c0, .int .i64 a1] w fun e w' => e = .returned (.bool r) ∧ Drawn0 w w' := by
 have HR0 := Aside0.mk hr0
 have HC0 := Aside0.mk hc0
 clear hr0 hc0
 have H : ((slices_Index_int64_int64.f k l0 a1).bind fun t101 => (some (decide (t101 ≥ 0)))) = some r := h
 clear h
 replace H := Option.bind_eq_some_iff.mp H
 obtain ⟨t101, A30, H⟩ := H
 replace H : (some (decide (t101 ≥ 0))) = some r := H
 have A3 := Aside0.mk A30
 clear A30
 obtain rfl := Option.some.inj H
 go_enter Try.func70, Try.ntmps70
 go_wp2_with (first | ((with_reducible refine gate_callee (f := 89) rfl ?_); refine goesL_ (some 7) rfl rfl Try.func89 (by kernel_rfl) rfl #[.slice A0 l0.length c0, .int .i64 a1] rfl (by (try simp only [List.map_toArray, List.map_cons, List.map_nil]); first | done | rfl | (simp only [List.length_drop, List.length_take]; rfl)) ?_; (with_reducible refine (slices_Index_int64_int64.calls k _ _ l0 a1 t101 _ ?side1 ?side2 A3.out).mono ?_); (case side1 => exact (by repeat (first | exact HR0.out | (with_reducible refine Kd.C_alloc ?_ _) | (with_reducible refine Kd.C_drewN ?_ _) | (with_reducible refine Kd.C_drew ?_)))); (case side2 => exact HC0.out); rintro e w' ⟨rfl, ⟨nd, rfl⟩⟩; refine ⟨_, rfl, ?_⟩))
 go_ret
 exact ⟨(by first | rfl | (simp; done) | (simp [*]; done)), (by repeat (first | exact Drawn0.refl _ | apply Drawn0.step))⟩


/-! ### impl_kernel: function 48 -/
mutual
def impl_kernel.l0 : Nat → List (List Int) → List Int → List (List Int) → Int → Int → Int → Int → Int → List Int → Option ((List (List Int)))
  | 0, _, _, _, _, _, _, _, _, _ => none
  | k + 1, x3, x4, x6, x23, x24, x102000, x102001, x102002, x102003 => if x24 < x23 then ((slices_Contains_int64_int64.f k x4 x24).bind fun t109 => (if t109 = true then (impl_kernel.l0 k x3 x4 x6 x23 (wrap64 (x24 + 1)) x102000 x102001 x102002 x102003) else (if 0 ≤ x102002 then (if (x102002 : Int).toNat ≤ 35184372088832 then ((some (List.replicate (x102002 : Int).toNat 0 : List Int)).bind fun y110 => (if 0 ≤ x24 then (if x24 < (y110.length : Int) then (impl_kernel.l1 k x3 x4 x6 x24 (y110.set (x24 : Int).toNat 1) x23 x24 x4 (x4.length : Int) 0 x102000 x102001 x102002 x102003) else (none)) else (none))) else (none)) else (none)))) else (some x6)
def impl_kernel.l1 : Nat → List (List Int) → List Int → List (List Int) → Int → List Int → Int → Int → List Int → Int → Int → Int → Int → Int → List Int → Option ((List (List Int)))
  | 0, _, _, _, _, _, _, _, _, _, _, _, _, _, _ => none
  | k + 1, x3, x4, x6, x7, x8, x23, x24, x36, x37, x38, x102000, x102001, x102002, x102003 => if x38 < x37 then (if 0 ≤ x38 then (if x38 < (x36.length : Int) then (if x38 < (x3.length : Int) then (if 0 ≤ x7 then (if x7 < ((rd_L1 x3 x38).length : Int) then ((impl_reduce.f (wrap64 (-(rd (rd_L1 x3 x38) x7))) x102000).bind fun t117 => (if 0 ≤ (rd x36 x38) then (if (rd x36 x38) < (x8.length : Int) then (impl_kernel.l1 k x3 x4 x6 x7 (x8.set ((rd x36 x38) : Int).toNat t117) x23 x24 x36 x37 (wrap64 (x38 + 1)) x102000 x102001 x102002 x102003) else (none)) else (none))) else (none)) else (none)) else (none)) else (none)) else (none)) else (if x6.length < 5864062014805 then (impl_kernel.l0 k x3 x4 (x6 ++ [x8]) x23 (wrap64 (x24 + 1)) x102000 x102001 x102002 x102003) else (none))
end
def impl_kernel.f (k : Nat) (a0_0 : Int) (a0_1 : Int) (a0_2 : Int) (l0_3 : List Int) : Option ((List (List Int))) := (impl_eliminate.f k a0_0 a0_1 a0_2 l0_3 a0_2 a0_0).bind fun bt102 => (impl_kernel.l0 k bt102.2.2 bt102.1 ([] : List (List Int)) a0_2 0 a0_0 a0_1 a0_2 l0_3)
theorem impl_kernel.mono_l : ∀ k, (∀ y0 y1 y2 y3 y4 y5 y6 y7 y8, LeO (impl_kernel.l0 k y0 y1 y2 y3 y4 y5 y6 y7 y8) (impl_kernel.l0 (k + 1) y0 y1 y2 y3 y4 y5 y6 y7 y8)) ∧ (∀ y0 y1 y2 y3 y4 y5 y6 y7 y8 y9 y10 y11 y12 y13, LeO (impl_kernel.l1 k y0 y1 y2 y3 y4 y5 y6 y7 y8 y9 y10 y11 y12 y13) (impl_kernel.l1 (k + 1) y0 y1 y2 y3 y4 y5 y6 y7 y8 y9 y10 y11 y12 y13))
  | 0 => ⟨fun _ _ _ _ _ _ _ _ _ r h => by simp [impl_kernel.l0] at h, fun _ _ _ _ _ _ _ _ _ _ _ _ _ _ r h => by simp [impl_kernel.l1] at h⟩
  | k + 1 => by
    obtain ⟨ih0, ih1⟩ := impl_kernel.mono_l k
    refine ⟨?_, ?_⟩
    · intro y0 y1 y2 y3 y4 y5 y6 y7 y8
      unfold impl_kernel.l0
      repeat' first
      | (with_reducible exact ih0 _ _ _ _ _ _ _ _ _)
      | (with_reducible exact ih1 _ _ _ _ _ _ _ _ _ _ _ _ _ _)
      | (with_reducible exact impl_eliminate.mono _ _ _ _ _ _ _)
      | (with_reducible exact slices_Contains_int64_int64.mono _ _ _)
      | (with_reducible exact LeO.refl _)
      | (with_reducible exact LeO.none _)
      | (with_reducible refine LeO.ite ?_ ?_)
      | (with_reducible refine LeO.bind ?_ (fun _ => ?_))
      | exact ih0 _ _ _ _ _ _ _ _ _
      | exact ih1 _ _ _ _ _ _ _ _ _ _ _ _ _ _
      | exact impl_eliminate.mono _ _ _ _ _ _ _
      | exact slices_Contains_int64_int64.mono _ _ _
      | exact LeO.none _
      | refine LeO.ite ?_ ?_
      | refine LeO.bind ?_ (fun _ => ?_)
    · intro y0 y1 y2 y3 y4 y5 y6 y7 y8 y9 y10 y11 y12 y13
      unfold impl_kernel.l1
      repeat' first
      | (with_reducible exact ih0 _ _ _ _ _ _ _ _ _)
      | (with_reducible exact ih1 _ _ _ _ _ _ _ _ _ _ _ _ _ _)
      | (with_reducible exact impl_eliminate.mono _ _ _ _ _ _ _)
      | (with_reducible exact slices_Contains_int64_int64.mono _ _ _)
      | (with_reducible exact LeO.refl _)
      | (with_reducible exact LeO.none _)
      | (with_reducible refine LeO.ite ?_ ?_)
      | (with_reducible refine LeO.bind ?_ (fun _ => ?_))
      | exact ih0 _ _ _ _ _ _ _ _ _
      | exact ih1 _ _ _ _ _ _ _ _ _ _ _ _ _ _
      | exact impl_eliminate.mono _ _ _ _ _ _ _
      | exact slices_Contains_int64_int64.mono _ _ _
      | exact LeO.none _
      | refine LeO.ite ?_ ?_
      | refine LeO.bind ?_ (fun _ => ?_)
theorem impl_kernel.mono : ∀ a0 a1 a2 a3 k, LeO (impl_kernel.f k a0 a1 a2 a3) (impl_kernel.f (k + 1) a0 a1 a2 a3) := by
  intro a0 a1 a2 a3 k
  obtain ⟨ih0, ih1⟩ := impl_kernel.mono_l k
  unfold impl_kernel.f
  repeat' first
      | (with_reducible exact ih0 _ _ _ _ _ _ _ _ _)
      | (with_reducible exact ih1 _ _ _ _ _ _ _ _ _ _ _ _ _ _)
      | (with_reducible exact impl_eliminate.mono _ _ _ _ _ _ _)
      | (with_reducible exact slices_Contains_int64_int64.mono _ _ _)
      | (with_reducible exact LeO.refl _)
      | (with_reducible exact LeO.none _)
      | (with_reducible refine LeO.ite ?_ ?_)
      | (with_reducible refine LeO.bind ?_ (fun _ => ?_))
      | exact ih0 _ _ _ _ _ _ _ _ _
      | exact ih1 _ _ _ _ _ _ _ _ _ _ _ _ _ _
      | exact impl_eliminate.mono _ _ _ _ _ _ _
      | exact slices_Contains_int64_int64.mono _ _ _
      | exact LeO.none _
      | refine LeO.ite ?_ ?_
      | refine LeO.bind ?_ (fun _ => ?_)
def impl_kernel.T13 : Bool × List (List Nat × List Nat) := (true, [([], []), ([], []), ([], []), ([], []), ([2, 3], [2, 3]), ([4], [4]), ([], []), ([5, 6], [5, 6]), ([7], [7]), ([8], [8]), ([], []), ([10], [10]), ([9, 11], [9, 11]), ([0, 1, 0, 1, 2, 3, 4, 5, 6, 7, 8, 9, 10, 11, 12], [0, 1]), ([13, 12, 12, 0, 1, 2, 3, 4, 5, 6, 7, 8, 9, 10, 11, 12], [12, 13])])
def impl_kernel.B13 : List Nat := [0, 0, 0, 0, 12, 28, 0, 124, 252, 508, 0, 1024, 4092, 8191, 16383]
theorem impl_kernel.tab13 : rtab .any (opsOf Try.f48 13) = impl_kernel.T13 := by kernel_rfl
theorem impl_kernel.bits13 : waitsOk impl_kernel.T13.2 impl_kernel.B13 = true := by kernel_rfl
/-- A mask, by a number. -/
def Z48.b (n x : Nat) : Array Bool := ((List.range n).map (fun i => x.testBit i)).toArray
theorem Z48.pP {P : Program} {ops : Array Oper} {Q : Exit → Act → World → Prop} {md : Region.Mode} {S : World → Prop} {ds : List Nat} (i N : Nat) {oi : Oper} {v : Value} {fuel : Nat} {l : Array Bool} {a : Act} {w : World} (l' : Array Bool) (hc : anyB md ops l l' i = true) {a' : Act} (h : wpAnyLast P md ops Q S ds fuel l' a' w) (hi : ops[i]? = some oi := by rfl) (hN : oi.dst = some N := by rfl) (hQ : ∀ c a w, Q (.panic c) (a.put oi.dst v) w → Q (.panic c) a w := by exact fun _ _ _ h => h) (hy : Yields P ops oi v a := by exact Or.inl ⟨(by rfl), by intro w'; go_simp; with_reducible rfl⟩) (ha : a.put (some N) v = a' := by simp only [Act.put, List.setIfInBounds_toArray, List.set_cons_zero, List.set_cons_succ, i64_w, i32_w]; rfl) : wpAnyLast P md ops Q S ds (fuel + 1) l a w := pure_ l' hi hN hc hQ hy ha h
theorem Z48.pT6 {P : Program} {ops : Array Oper} {Q : Exit → Act → World → Prop} {md : Region.Mode} {S : World → Prop} {ds : List Nat} (i N : Nat) {oi : Oper} {v : Value} {fuel : Nat} {l : Array Bool} {a : Act} {w : World} (l' : Array Bool) (hc : takeB md ops ds l l' i = true) (hS : S w) {a' : Act} (h : wpAnyLast P md ops Q S ds fuel l' a' w) (hi : ops[i]? = some oi := by rfl) (hN : oi.dst = some N := by rfl) (hQ : ∀ c a w, Q (.panic c) (a.put oi.dst v) w → Q (.panic c) a w := by exact fun _ _ _ h => h) (hy : YieldsIf P ops S oi v a := by exact Or.inl ⟨(by rfl), by rintro w' ⟨s0, s1, s2, s3, s4, s5⟩; go_simp; with_reducible rfl⟩) (ha : a.put (some N) v = a' := by simp only [Act.put, List.setIfInBounds_toArray, List.set_cons_zero, List.set_cons_succ, i64_w, i32_w]; rfl) : wpAnyLast P md ops Q S ds (fuel + 1) l a w := take_ l' hi hN hc hQ hy hS ha h
theorem Z48.bb {w0 w w1 : World} {g : Nat} {o : Obj} (_B : Aside0 (w0.heap[g]? = some o)) (h : w.heap[g]? = some o) (hb : Below w.heap.size w w1) : w1.heap[g]? = some o := blk_below h hb
theorem Z48.bl {w0 w : World} {g : Nat} {o : Obj} (_B : Aside0 (w0.heap[g]? = some o)) (h : w.heap[g]? = some o) : g < w.heap.size := blk_lt h
theorem Z48.k {p : Prop} (h : p) : Aside0 p := ⟨h⟩
theorem Z48.z10 {P : Prop} (h : P := by first | rfl | (simp; done) | (simp [*]; done)) : P := h
theorem Z48.z9 {P : Prop} (h : P := by repeat (first | exact (Kd.R_reads' HO_4.out).2.2 | (with_reducible refine Kd.C_alloc ?_ _) | (with_reducible refine Kd.C_drewN ?_ _) | (with_reducible refine Kd.C_drew ?_))) : P := h
theorem Z48.z8 {P : Prop} (h : P := by repeat (first | (with_reducible first | exact HB.out | apply below_alloc | apply pw_below_drewN | apply below_drew1) | exact HB.out)) : P := h
theorem Z48.z7 {P : Prop} (h : P := by first | (with_reducible assumption) | assumption) : P := h
theorem Z48.z6 {P : Prop} (h : P := by (try simp only [List.map_toArray, List.map_cons, List.map_nil]); first | done | rfl | (simp only [List.length_drop, List.length_take]; rfl)) : P := h
theorem Z48.z5 {P : Prop} (h : P := by (with_reducible repeat (first | apply Kd.N_alloc | apply Kd.N_drewN | apply Kd.N_drew | apply Kd.S_alloc | apply Kd.S_drewN | apply Kd.S_drew)); exact HO_3.out) : P := h
theorem Z48.z4 {P : Prop} (h : P := by (with_reducible repeat (first | apply Kd.R_alloc | apply Kd.R_drewN | apply Kd.R_drew)); exact HO_4.out) : P := h
theorem Z48.z3 {P : Prop} (h : P := by (with_reducible repeat (first | apply Kd.N_alloc | apply Kd.N_drewN | apply Kd.N_drew | apply Kd.S_alloc | apply Kd.S_drewN | apply Kd.S_drew)); exact HO_6.out) : P := h
theorem Z48.z2 {P : Prop} (h : P := by (with_reducible repeat (first | refine blk_drewN ?_ _ | refine blk_drew ?_ | refine blk_alloc ?_ _)); exact BK101.out) : P := h
theorem Z48.z1 {P : Prop} (h : P := by simp only [Act.put, List.setIfInBounds_toArray, List.set_cons_zero, List.set_cons_succ, i64_w, i32_w]; rfl) : P := h
theorem Z48.z0 {P : Prop} (h : P := by repeat (first | (with_reducible first | exact HB.out | apply below_alloc | apply pw_below_drewN | apply below_drew1 | refine below_set ?_ GE101.out) | exact HB.out)) : P := h
set_option maxHeartbeats 8000000 in
set_option maxRecDepth 100000 in
theorem impl_kernel.calls (k : Nat) (a0_0 : Int) (a0_1 : Int) (a0_2 : Int) (A0_3 : Option Addr) (c0_3 : Nat) (l0_3 : List Int) (r : List (List Int)) (w : World) (hr0_3 : Kd.C (Kd.int .i64) w A0_3 l0_3.length l0_3) (hc0_3 : l0_3.length ≤ c0_3) (h : impl_kernel.f k a0_0 a0_1 a0_2 l0_3 = some r) :
  Calls Try.prog 48 #[.agg #[.int .i64 a0_0, .int .i64 a0_1, .int .i64 a0_2, .slice A0_3 l0_3.length c0_3]] w fun e w' => ∃ v0_ : Value, e = .returned (v0_) ∧ Kd.S (Kd.slice 2 (Kd.int .i64)) 38 w' w.heap.size (fun _ => True) v0_ r ∧ Below w.heap.size w w' := by
 have hu43 := Try.underlying43
 have HR0_3 := Z48.k hr0_3
 have HC0_3 := Z48.k hc0_3
 clear hr0_3 hc0_3
 have HB := Z48.k (Below.refl w.heap.size w)
 have H : ((impl_eliminate.f k a0_0 a0_1 a0_2 l0_3 a0_2 a0_0).bind fun bt102 => (impl_kernel.l0 k bt102.2.2 bt102.1 ([] : List (List Int)) a0_2 0 a0_0 a0_1 a0_2 l0_3)) = some r := h
 clear h
 replace H := Option.bind_eq_some_iff.mp H
 obtain ⟨⟨t102, t105, t106⟩, A20, H⟩ := H
 replace H : (impl_kernel.l0 k t106 t102 ([] : List (List Int)) a0_2 0 a0_0 a0_1 a0_2 l0_3) = some r := H
 have A2 := Z48.k A20
 clear A20
 have H' := Z48.k H
 clear H
 obtain ⟨tR_, AR_, AE_⟩ := Option.bind_eq_some_iff.mp A2.out
 replace AR_ := Z48.k AR_
 replace AE_ := Z48.k AE_
 go_enter Try.func48, Try.ntmps48
 go_wp2_with (first | ((with_reducible refine gate_dst (N := 1) rfl ?_); refine box_event ?hg (N := 1) ?hd (cs := #[.int .i64 a0_0, .int .i64 a0_1, .int .i64 a0_2, .slice A0_3 l0_3.length c0_3]) (t := 43) ?hr ?_; (case hd => rfl); (case hg => rfl); (case hr => first | (go_simp; done) | (go_simp; rfl)); intro gb101 hg w3 hbox hb; have n0_ := Z48.k (below_step Z48.z8 hb); have n1_ := Z48.k (hbox); have n2_ := Z48.k (show w.heap.size ≤ gb101 from (by rw [hg]; exact (below_size Z48.z8))); have n3_ := Z48.k (show w.heap.size ≤ gb101 from (by rw [hg]; exact (below_size Z48.z8))); clear HB; have HB := n0_; have BK101 := n1_; have GW101 := n2_; have GE101 := n3_; clear n0_ n1_ n2_ n3_; clear hb hbox hg; have hcz4_0 : w3.cell? ⟨gb101, 0, none⟩ = some (.int .i64 a0_0) := (blk_cell BK101.out 0).trans rfl; have hcz4_1 : w3.cell? ⟨gb101, 1, none⟩ = some (.int .i64 a0_1) := (blk_cell BK101.out 1).trans rfl; have hcz4_2 : w3.cell? ⟨gb101, 2, none⟩ = some (.int .i64 a0_2) := (blk_cell BK101.out 2).trans rfl; have hcz4_3 : w3.cell? ⟨gb101, 3, none⟩ = some (.slice A0_3 l0_3.length c0_3) := (blk_cell BK101.out 3).trans rfl; have hfz4_0 := blk_frozen BK101.out 0; have hfz4_1 := blk_frozen BK101.out 1; have hfz4_2 := blk_frozen BK101.out 2; have hfz4_3 := blk_frozen BK101.out 3) | ((with_reducible refine gate_callee (f := 65) rfl ?_); refine goesL_ (some 12) rfl rfl Try.func65 (by kernel_rfl) rfl #[.agg #[.int .i64 a0_0, .int .i64 a0_1, .int .i64 a0_2, .slice A0_3 l0_3.length c0_3]] rfl Z48.z6 ?_; (with_reducible refine (impl_rowsOf.calls k a0_0 a0_1 a0_2 _ _ l0_3 tR_ _ ?side1 ?side2 AR_.out).mono ?_); (case side1 => exact (by repeat (first | exact (Kd.C_below HR0_3.out HB.out) | (with_reducible refine Kd.C_alloc ?_ _) | (with_reducible refine Kd.C_drewN ?_ _) | (with_reducible refine Kd.C_drew ?_)))); (case side2 => exact HC0_3.out); rintro e w8a ⟨vR_, rfl, hoR_, hbR_⟩; refine ⟨_, rfl, ?_⟩; have HOR_ := Z48.k (Kd.N_mono (ok' := fun k_ => _ ≤ k_) (Kd.S_N (Kd.S_bound hoR_)) (fun k_ hk_ => hk_.2.1)); have HBR_ := Z48.k hbR_; have hczRgb101_0 : w8a.cell? ⟨gb101, 0, none⟩ = some (.int .i64 a0_0) := (blk_cell (blk_below BK101.out hbR_) 0).trans rfl; have hfzRgb101_0 := blk_frozen (blk_below BK101.out hbR_) 0; have hczRgb101_1 : w8a.cell? ⟨gb101, 1, none⟩ = some (.int .i64 a0_1) := (blk_cell (blk_below BK101.out hbR_) 1).trans rfl; have hfzRgb101_1 := blk_frozen (blk_below BK101.out hbR_) 1; have hczRgb101_2 : w8a.cell? ⟨gb101, 2, none⟩ = some (.int .i64 a0_2) := (blk_cell (blk_below BK101.out hbR_) 2).trans rfl; have hfzRgb101_2 := blk_frozen (blk_below BK101.out hbR_) 2; have hczRgb101_3 : w8a.cell? ⟨gb101, 3, none⟩ = some (.slice A0_3 l0_3.length c0_3) := (blk_cell (blk_below BK101.out hbR_) 3).trans rfl; have hfzRgb101_3 := blk_frozen (blk_below BK101.out hbR_) 3; clear hoR_ hbR_) | ((with_reducible refine gate_callee (f := 59) rfl ?_); refine goesL_ (some 19) rfl rfl Try.func59 (by kernel_rfl) rfl #[vR_, .int .i64 a0_2, .int .i64 a0_0] rfl Z48.z6 ?_; (with_reducible refine (impl_eliminate.calls k vR_ tR_ a0_2 a0_0 t102 t105 t106 _ _ HBR_.out HOR_.out AE_.out).mono ?_); rintro e w5 ⟨v103, rfl, ho0, ho1, hb⟩; refine ⟨_, rfl, ?_⟩; have n0_ := Z48.k (Kd.R_lower (Kd.R_newM (M := fun k_ => (w.heap.size ≤ k_)) (Kd.R_mono (ok' := fun k_ => True) ho0 (fun _ hk_ => trivial)) (below_size Z48.z0) (fun k_ h_ => h_)) (below_size Z48.z0)); have n1_ := Z48.k (Kd.N_lower (Kd.N_mono (ok' := fun k_ => (w.heap.size ≤ k_) ∧ some k_ ≠ (v103 : Value).ownBlock ∧ k_ ≠ gb101) ho1 (fun k_ hk_ => ⟨(Nat.le_trans (below_size Z48.z0) hk_.1), hk_.2, (Kd.freshB (g := gb101) (o := .cells #[.int .i64 a0_0, .int .i64 a0_1, .int .i64 a0_2, .slice A0_3 l0_3.length c0_3] 43 (0, 0)) Z48.z2 k_ hk_.1)⟩)) (below_size Z48.z0)); have n2_ := Z48.k (Z48.bb BK101 Z48.z2 hb); have n3_ := Z48.k (below_step Z48.z0 hb); clear BK101 HB; have HO104 := n0_; have HO108 := n1_; have BK101 := n2_; have HB := n3_; clear n0_ n1_ n2_ n3_; (try clear hb); (try clear hb2); (try clear hk); (try clear hi); (try clear ho0); (try clear ho1); have hcz6_0 : w5.cell? ⟨gb101, 0, none⟩ = some (.int .i64 a0_0) := (blk_cell BK101.out 0).trans rfl; have hcz6_1 : w5.cell? ⟨gb101, 1, none⟩ = some (.int .i64 a0_1) := (blk_cell BK101.out 1).trans rfl; have hcz6_2 : w5.cell? ⟨gb101, 2, none⟩ = some (.int .i64 a0_2) := (blk_cell BK101.out 2).trans rfl; have hcz6_3 : w5.cell? ⟨gb101, 3, none⟩ = some (.slice A0_3 l0_3.length c0_3) := (blk_cell BK101.out 3).trans rfl; have hfz6_0 := blk_frozen BK101.out 0; have hfz6_1 := blk_frozen BK101.out 1; have hfz6_2 := blk_frozen BK101.out 2; have hfz6_3 := blk_frozen BK101.out 3))
 go_loopg [6, 24] k (fun kq v6 v24 w' => ∃ (x4_1 : List Int) (x6_1 : List (List Int)) (x24_1 : Int), v24 = .int .i64 x24_1 ∧ Aside0 (impl_kernel.l0 kq t106 x4_1 x6_1 a0_2 x24_1 a0_0 a0_1 a0_2 l0_3 = some r) ∧ Aside0 (kq ≤ k) ∧ Aside0 (Kd.N (Kd.slice 2 (Kd.int .i64)) 38 w' w.heap.size (fun k_ => (w.heap.size ≤ k_) ∧ some k_ ≠ (v103 : Value).ownBlock ∧ some k_ ≠ (v6 : Value).ownBlock ∧ k_ ≠ gb101) vR_ t106) ∧ Aside0 (Kd.R (Kd.int .i64) 2 w' w.heap.size (fun k_ => (w.heap.size ≤ k_)) v103 x4_1) ∧ Aside0 (Kd.S (Kd.slice 2 (Kd.int .i64)) 38 w' w.heap.size (fun k_ => (w.heap.size ≤ k_) ∧ some k_ ≠ (vR_ : Value).ownBlock ∧ some k_ ≠ (v103 : Value).ownBlock ∧ k_ ≠ gb101) v6 x6_1) ∧ Aside0 (w'.heap[gb101]? = some (.cells #[.int .i64 a0_0, .int .i64 a0_1, .int .i64 a0_2, (.slice A0_3 l0_3.length c0_3)] 43 (0, 0))) ∧ Aside0 (Below w.heap.size w w'))
 case atStart => exact ⟨(t102), (([] : List (List Int))), (0), Z48.z10, H', ⟨Nat.le_refl _⟩, ⟨(by (with_reducible repeat (first | apply Kd.N_alloc | apply Kd.N_drewN | apply Kd.N_drew | apply Kd.S_alloc | apply Kd.S_drewN | apply Kd.S_drew)); exact Kd.N_mono HO108.out (fun _ hk => ⟨hk.1, ⟨hk.2.1, ⟨(by simp [Value.ownBlock]), hk.2.2⟩⟩⟩))⟩, ⟨(by (with_reducible repeat (first | apply Kd.R_alloc | apply Kd.R_drewN | apply Kd.R_drew)); exact Kd.R_mono HO104.out (fun _ hk => hk.1))⟩, ⟨(by first | exact Kd.S_nil _ _ _ _ _ | exact Kd.N_nil _ _ _ _ _ | exact Kd.V_nil _ _ _ _ _ | exact Kd.Q_nil _ _ _ _ _ | exact Kd.R_nil _ _ _ _ _)⟩, ⟨Z48.z2⟩, ⟨Z48.z0⟩⟩
 case round =>
  clear H'
  try clear p2
  try clear c4
  try clear c5
  try clear hcz4_0
  try clear hcz4_1
  try clear hcz4_2
  try clear hcz4_3
  try clear hcz6_0
  try clear hcz6_1
  try clear hcz6_2
  try clear hcz6_3
  try clear hfz4_0
  try clear hfz4_1
  try clear hfz4_2
  try clear hfz4_3
  try clear hfz6_0
  try clear hfz6_1
  try clear hfz6_2
  try clear hfz6_3
  obtain ⟨x4_1, x6_1, x24_1, rfl, HA, HK1, HO_3, HO_4, HO_6, BK101, HB⟩ := hrel
  cases gk with
  | zero => exact absurd HA.out (by simp [impl_kernel.l0])
  | succ k1 =>
   have H := HA.out
   clear HA
   simp only [impl_kernel.l0] at H
   by_cases c7 : x24_1 < a0_2
   ·rw [if_pos c7] at H
    have c7b0 : decide (x24_1 < a0_2) = true := decide_eq_true c7
    clear c7
    replace H := Option.bind_eq_some_iff.mp H
    obtain ⟨t109, A80, H⟩ := H
    replace H : (if t109 = true then (impl_kernel.l0 k1 t106 x4_1 x6_1 a0_2 (wrap64 (x24_1 + 1)) a0_0 a0_1 a0_2 l0_3) else (if 0 ≤ a0_2 then (if (a0_2 : Int).toNat ≤ 35184372088832 then ((some (List.replicate (a0_2 : Int).toNat 0 : List Int)).bind fun y110 => (if 0 ≤ x24_1 then (if x24_1 < (y110.length : Int) then (impl_kernel.l1 k1 t106 x4_1 x6_1 x24_1 (y110.set (x24_1 : Int).toNat 1) a0_2 x24_1 x4_1 (x4_1.length : Int) 0 a0_0 a0_1 a0_2 l0_3) else (none)) else (none))) else (none)) else (none))) = some r := H
    have A8 := Z48.k A80
    clear A80
    by_cases c9 : t109 = true
    ·subst c9
     have H1 : (impl_kernel.l0 k1 t106 x4_1 x6_1 a0_2 (wrap64 (x24_1 + 1)) a0_0 a0_1 a0_2 l0_3) = some r := by rw [if_pos rfl] at H; exact H
     clear H
     have H := H1
     clear H1
     have H' := Z48.k H
     clear H
     obtain ⟨Ao10, co10, eo10⟩ := Kd.R_slice HO_4.out
     subst eo10
     go_wp2_with (first | ((with_reducible refine gate_callee (f := 70) rfl ?_); refine goesL_ (some 29) rfl rfl Try.func70 (by kernel_rfl) rfl #[.slice Ao10 x4_1.length co10, .int .i64 x24_1] rfl Z48.z6 ?_; (with_reducible refine (slices_Contains_int64_int64.calls k1 _ _ x4_1 x24_1 true _ ?side1 ?side2 A8.out).mono ?_); (case side1 => exact Z48.z9); (case side2 => exact (Kd.R_reads' HO_4.out).2.1); rintro e w' ⟨rfl, ⟨nd, rfl⟩⟩; refine ⟨_, rfl, ?_⟩))
     go_roundg k1
     case measure => have := HK1.out; omega
     case rel => exact ⟨(x4_1), (x6_1), (wrap64 (x24_1 + 1)), Z48.z10, H', ⟨(by have := HK1.out; omega)⟩, ⟨Z48.z5⟩, ⟨Z48.z4⟩, ⟨Z48.z3⟩, ⟨Z48.z2⟩, ⟨Z48.z0⟩⟩
    replace c9 := Bool.eq_false_iff.mpr c9
    subst c9
    have H1 : (if 0 ≤ a0_2 then (if (a0_2 : Int).toNat ≤ 35184372088832 then ((some (List.replicate (a0_2 : Int).toNat 0 : List Int)).bind fun y110 => (if 0 ≤ x24_1 then (if x24_1 < (y110.length : Int) then (impl_kernel.l1 k1 t106 x4_1 x6_1 x24_1 (y110.set (x24_1 : Int).toNat 1) a0_2 x24_1 x4_1 (x4_1.length : Int) 0 a0_0 a0_1 a0_2 l0_3) else (none)) else (none))) else (none)) else (none)) = some r := by rw [if_neg (show ¬ (false = true) by decide)] at H; exact H
    clear H
    have H := H1
    clear H1
    by_cases c11 : 0 ≤ a0_2
    ·rw [if_pos c11] at H
     have c11b0 := eq_true c11
     have c11b1 : decide (0 ≤ a0_2) = true := decide_eq_true c11
     clear c11
     by_cases c12 : (a0_2 : Int).toNat ≤ 35184372088832
     ·rw [if_pos c12] at H
      have c12b0 := eq_true c12
      have c12b1 : decide ((a0_2 : Int).toNat ≤ 35184372088832) = true := decide_eq_true c12
      clear c12
      obtain ⟨y110, hy110⟩ : ∃ y_ : List Int, y_ = (List.replicate (a0_2 : Int).toNat 0) := ⟨_, rfl⟩
      replace H : (if 0 ≤ x24_1 then (if x24_1 < (y110.length : Int) then (impl_kernel.l1 k1 t106 x4_1 x6_1 x24_1 (y110.set (x24_1 : Int).toNat 1) a0_2 x24_1 x4_1 (x4_1.length : Int) 0 a0_0 a0_1 a0_2 l0_3) else (none)) else (none)) = some r := by first | (rw [hy110]; with_reducible exact H) | (have H2_ := (Option.bind_some _ _).symm.trans H; rw [hy110]; with_reducible exact H2_) | (have H2_ := (Option.bind_some _ _).symm.trans H; with_reducible exact H2_) | with_reducible exact H | (rw [hy110]; exact H) | exact H
      have Ny110 := Z48.k hy110
      clear hy110
      by_cases c13 : 0 ≤ x24_1
      ·rw [if_pos c13] at H
       have c13b0 : decide (0 ≤ x24_1) = true := decide_eq_true c13
       clear c13
       by_cases c14 : x24_1 < (y110.length : Int)
       ·rw [if_pos c14] at H
        have c14b0 : decide (x24_1 < (y110.length : Int)) = true := decide_eq_true c14
        clear c14
        obtain ⟨y113, hy113⟩ : ∃ y_ : List Int, y_ = (y110.set (x24_1 : Int).toNat 1) := ⟨_, rfl⟩
        replace H : (impl_kernel.l1 k1 t106 x4_1 x6_1 x24_1 y113 a0_2 x24_1 x4_1 (x4_1.length : Int) 0 a0_0 a0_1 a0_2 l0_3) = some r := by first | (rw [hy113]; with_reducible exact H) | (have H2_ := (Option.bind_some _ _).symm.trans H; rw [hy113]; with_reducible exact H2_) | (have H2_ := (Option.bind_some _ _).symm.trans H; with_reducible exact H2_) | with_reducible exact H | (rw [hy113]; exact H) | exact H
        have Ny113 := Z48.k hy113
        clear hy113
        have H' := Z48.k H
        clear H
        obtain ⟨Ao16, co16, eo16⟩ := Kd.R_slice HO_4.out
        subst eo16
        go_wp2_with (first | ((with_reducible refine gate_callee (f := 70) rfl ?_); refine goesL_ (some 29) rfl rfl Try.func70 (by kernel_rfl) rfl #[.slice Ao16 x4_1.length co16, .int .i64 x24_1] rfl Z48.z6 ?_; (with_reducible refine (slices_Contains_int64_int64.calls k1 _ _ x4_1 x24_1 false _ ?side1 ?side2 A8.out).mono ?_); (case side1 => exact Z48.z9); (case side2 => exact (Kd.R_reads' HO_4.out).2.1); rintro e w' ⟨rfl, ⟨nd, rfl⟩⟩; refine ⟨_, rfl, ?_⟩; (try (rw [drewN_self wr]; generalize hq_ : World.drewN wr _ = wr; have n0_ : Aside0 (Kd.N (Kd.slice 2 (Kd.int .i64)) 38 wr w.heap.size (fun k_ => (w.heap.size ≤ k_) ∧ some k_ ≠ (.slice Ao16 x4_1.length co16 : Value).ownBlock ∧ some k_ ≠ (u6 : Value).ownBlock ∧ k_ ≠ gb101) vR_ t106) := ⟨(by rw [← hq_]; exact Z48.z5)⟩; have n1_ : Aside0 (Kd.R (Kd.int .i64) 2 wr w.heap.size (fun k_ => (w.heap.size ≤ k_)) (.slice Ao16 x4_1.length co16) x4_1) := ⟨(by rw [← hq_]; exact Z48.z4)⟩; have n2_ : Aside0 (Kd.S (Kd.slice 2 (Kd.int .i64)) 38 wr w.heap.size (fun k_ => (w.heap.size ≤ k_) ∧ some k_ ≠ (vR_ : Value).ownBlock ∧ some k_ ≠ (.slice Ao16 x4_1.length co16 : Value).ownBlock ∧ k_ ≠ gb101) u6 x6_1) := ⟨(by rw [← hq_]; exact Z48.z3)⟩; have n3_ : Aside0 (wr.heap[gb101]? = some (.cells #[.int .i64 a0_0, .int .i64 a0_1, .int .i64 a0_2, .slice A0_3 l0_3.length c0_3] 43 (0, 0))) := ⟨(by rw [← hq_]; exact Z48.z2)⟩; have n4_ : Aside0 (Below w.heap.size w wr) := ⟨(by rw [← hq_]; exact Z48.z0)⟩; clear HO_3 HO_4 HO_6 BK101 HB hq_; have HO_3 := n0_; have HO_4 := n1_; have HO_6 := n2_; have BK101 := n3_; have HB := n4_; clear n0_ n1_ n2_ n3_ n4_)); have hcz17_0 : wr.cell? ⟨gb101, 0, none⟩ = some (.int .i64 a0_0) := (blk_cell BK101.out 0).trans rfl; have hcz17_1 : wr.cell? ⟨gb101, 1, none⟩ = some (.int .i64 a0_1) := (blk_cell BK101.out 1).trans rfl; have hcz17_2 : wr.cell? ⟨gb101, 2, none⟩ = some (.int .i64 a0_2) := (blk_cell BK101.out 2).trans rfl; have hcz17_3 : wr.cell? ⟨gb101, 3, none⟩ = some (.slice A0_3 l0_3.length c0_3) := (blk_cell BK101.out 3).trans rfl; have hfz17_0 := blk_frozen BK101.out 0; have hfz17_1 := blk_frozen BK101.out 1; have hfz17_2 := blk_frozen BK101.out 2; have hfz17_3 := blk_frozen BK101.out 3) | ((with_reducible refine gate_dst (N := 32) rfl ?_); refine Kd.R_make (Kd.int .i64) _ 2 rfl (N := 32) rfl 38 _ _ rfl a0_2 rfl rfl Try.underlying38 (.int .i64 0) 8 info2 rfl (by decide) (by omega) 0 (ok := fun _ => True) (okp := fun _ => True) rfl (fun _ hk => hk) trivial (of_decide_eq_true Z48.z7) (Nat.le_trans (Nat.mul_le_mul_right _ (of_decide_eq_true Z48.z7 : a0_2.toNat ≤ 35184372088832)) (by omega)) (Below.refl _ _) (Nat.le_refl _) ?_; intro v111 w18 ho19 hb hg_ hnew_; clear hg_ hnew_; (first | rw [← Ny110.out] at ho19 | (simp only [Int.reduceToNat] at ho19; rw [← Ny110.out] at ho19)); have n0_ := Z48.k (Kd.N_elder' Z48.z5 (Kd.R_base ho19) hb); have n1_ := Z48.k (Kd.R_elder' Z48.z4 (Kd.R_base ho19) hb); have n2_ := Z48.k (Kd.S_elder' Z48.z3 (Kd.R_base ho19) hb); have n3_ := Z48.k (Kd.R_lower (Kd.R_new' (Kd.R_newM (M := fun k_ => (w.heap.size ≤ k_)) ho19 (below_size Z48.z0) (fun k_ h_ => h_)) (Kd.R_lt Z48.z4)) (below_size Z48.z0)); have n4_ := Z48.k (Z48.bb BK101 Z48.z2 hb); have n5_ := Z48.k (below_step Z48.z0 hb); clear HO_3 HO_4 HO_6 BK101 HB; have HO_3 := n0_; have HO_4 := n1_; have HO_6 := n2_; have HO112 := n3_; have BK101 := n4_; have HB := n5_; clear n0_ n1_ n2_ n3_ n4_ n5_; clear hb ho19; have p15 : 0 ≤ (x24_1 : Int) := of_decide_eq_true Z48.z7; have q15 : (x24_1 : Int) < ((y110.length : Int) : Int) := of_decide_eq_true Z48.z7; obtain ⟨go15, co15, eo15, gb15, gl15, cl15, HG15⟩ := Kd.R_form HO112.out (by omega); (first | cases eo15 | (injection eo15 with ea_ en_ ec_; (first | subst ea_ | (injection ea_ with ea_; subst ea_)); subst ec_; clear en_)); have GB15 := Z48.k gb15; have GG15 := Z48.k HG15; clear gb15 gl15 HG15; obtain ⟨hx15_0, hf15_0⟩ := Kd.R_celln 0 HO112.out (x24_1 : Int) p15 q15; replace p15 := eq_true p15; replace q15 := eq_true q15; have n_ := Z48.k (Kd.R_mono (ok' := (fun k_ => (w.heap.size ≤ k_) ∧ some k_ ≠ (.slice Ao16 x4_1.length co16 : Value).ownBlock)) HO112.out (fun k_ hk => ⟨hk.1.1, hk.2⟩)); clear HO112; have HO112 := n_; clear n_; obtain ⟨hy20_, hz20_⟩ := Kd.R_celln 0 HO112.out (x24_1 : Int) (of_decide_eq_true Z48.z7) (of_decide_eq_true Z48.z7); have HP20 := Kd.R_putg HO112.out (x24_1 : Int) 1) | ((with_reducible refine gate_store (t := 2) (p := 35) rfl ?_); refine store_event (t := 2) (p := 35) (v := ?vo_w21) (w1 := (w18.setCell ⟨go15, (x24_1 : Int).toNat, none⟩ (.int .i64 1))) ?hg ?ho ?hn ?hr ?_; (case ho => rfl); (case hg => rfl); (case hn => rfl); (case hr => first | (go_simp; done) | (go_simp; rfl)); intro w21 hw; have hg : w18.grownBy w21 (some go15) := (by rw [hw]; exact HP20.2); have hp_ : Kd.R (Kd.int .i64) 2 w21 w.heap.size (fun k_ => (w.heap.size ≤ k_) ∧ some k_ ≠ (.slice Ao16 x4_1.length co16 : Value).ownBlock) (.slice (some ⟨go15, 0, none⟩) y110.length co15) y113 := (by rw [hw, Ny113.out]; exact HP20.1); clear HP20; have n0_ := Z48.k (Kd.N_afterv (v := (.slice (some ⟨go15, 0, none⟩) y110.length co15)) (v1 := (.slice (some ⟨go15, 0, none⟩) y110.length co15)) (ok := (fun k_ => (w.heap.size ≤ k_) ∧ some k_ ≠ (.slice Ao16 x4_1.length co16 : Value).ownBlock ∧ some k_ ≠ (u6 : Value).ownBlock ∧ k_ ≠ gb101)) Z48.z5 hg (.inl rfl)); have n1_ := Z48.k (Kd.R_after (v := (.slice (some ⟨go15, 0, none⟩) y110.length co15)) (v1 := (.slice (some ⟨go15, 0, none⟩) y110.length co15)) (ok := (fun k_ => (w.heap.size ≤ k_))) Z48.z4 hg (.inl rfl)); have n2_ := Z48.k (Kd.S_after (v := (.slice (some ⟨go15, 0, none⟩) y110.length co15)) (v1 := (.slice (some ⟨go15, 0, none⟩) y110.length co15)) (ok := (fun k_ => (w.heap.size ≤ k_) ∧ some k_ ≠ (vR_ : Value).ownBlock ∧ some k_ ≠ (.slice Ao16 x4_1.length co16 : Value).ownBlock ∧ k_ ≠ gb101)) Z48.z3 hg (.inl rfl)); have n3_ := Z48.k (blk_grown (g := gb101) (o := .cells #[.int .i64 a0_0, .int .i64 a0_1, .int .i64 a0_2, .slice A0_3 l0_3.length c0_3] 43 (0, 0)) Z48.z2 hg (Kd.R_ne HO112.out BK101.out (by decide))); have n4_ := Z48.k (hp_); have n5_ := Z48.k ((by rw [hw]; exact below_set (HB.out) GB15.out : Below w.heap.size w w21)); clear HO_3 HO_4 HO_6 BK101 HO112 HB; have HO_3 := n0_; have HO_4 := n1_; have HO_6 := n2_; have BK101 := n3_; have HO112 := n4_; have HB := n5_; clear n0_ n1_ n2_ n3_ n4_ n5_; clear hg hw hp_))
        go_loopg [38] k1 (fun kq v38 w' => ∃ (x8_2 : List Int) (x38_2 : Int), v38 = .int .i64 x38_2 ∧ Aside0 (impl_kernel.l1 kq t106 x4_1 x6_1 x24_1 x8_2 a0_2 x24_1 x4_1 (x4_1.length : Int) x38_2 a0_0 a0_1 a0_2 l0_3 = some r) ∧ Aside0 (kq ≤ k1) ∧ Aside0 (Kd.N (Kd.slice 2 (Kd.int .i64)) 38 w' w.heap.size (fun k_ => (w.heap.size ≤ k_) ∧ some k_ ≠ ((.slice Ao16 x4_1.length co16) : Value).ownBlock ∧ some k_ ≠ (u6 : Value).ownBlock ∧ some k_ ≠ ((.slice (some ⟨go15, 0, none⟩) y110.length co15) : Value).ownBlock ∧ some k_ ≠ ((.slice Ao16 x4_1.length co16) : Value).ownBlock ∧ k_ ≠ gb101) vR_ t106) ∧ Aside0 (Kd.R (Kd.int .i64) 2 w' w.heap.size (fun k_ => (w.heap.size ≤ k_) ∧ some k_ ≠ ((.slice (some ⟨go15, 0, none⟩) y110.length co15) : Value).ownBlock) (.slice Ao16 x4_1.length co16) x4_1) ∧ Aside0 (Kd.S (Kd.slice 2 (Kd.int .i64)) 38 w' w.heap.size (fun k_ => (w.heap.size ≤ k_) ∧ some k_ ≠ (vR_ : Value).ownBlock ∧ some k_ ≠ ((.slice Ao16 x4_1.length co16) : Value).ownBlock ∧ some k_ ≠ ((.slice (some ⟨go15, 0, none⟩) y110.length co15) : Value).ownBlock ∧ some k_ ≠ ((.slice Ao16 x4_1.length co16) : Value).ownBlock ∧ k_ ≠ gb101) u6 x6_1) ∧ Aside0 (Kd.R (Kd.int .i64) 2 w' w.heap.size (fun k_ => (w.heap.size ≤ k_) ∧ some k_ ≠ ((.slice Ao16 x4_1.length co16) : Value).ownBlock ∧ some k_ ≠ ((.slice Ao16 x4_1.length co16) : Value).ownBlock) (.slice (some ⟨go15, 0, none⟩) y110.length co15) x8_2) ∧ Aside0 (Kd.R (Kd.int .i64) 2 w' w.heap.size (fun k_ => (w.heap.size ≤ k_) ∧ some k_ ≠ ((.slice (some ⟨go15, 0, none⟩) y110.length co15) : Value).ownBlock) (.slice Ao16 x4_1.length co16) x4_1) ∧ Aside0 (w'.heap[gb101]? = some (.cells #[.int .i64 a0_0, .int .i64 a0_1, .int .i64 a0_2, (.slice A0_3 l0_3.length c0_3)] 43 (0, 0))) ∧ Aside0 (Below w.heap.size w w'))
        case atStart => exact ⟨(y113), (0), Z48.z10, H', ⟨Nat.le_refl _⟩, ⟨(by (with_reducible repeat (first | apply Kd.N_alloc | apply Kd.N_drewN | apply Kd.N_drew | apply Kd.S_alloc | apply Kd.S_drewN | apply Kd.S_drew)); exact Kd.N_mono HO_3.out (fun _ hk => ⟨hk.1.1, ⟨hk.1.2.1, ⟨hk.1.2.2.1, ⟨hk.2, ⟨hk.1.2.1, hk.1.2.2.2⟩⟩⟩⟩⟩))⟩, ⟨Z48.z4⟩, ⟨(by (with_reducible repeat (first | apply Kd.N_alloc | apply Kd.N_drewN | apply Kd.N_drew | apply Kd.S_alloc | apply Kd.S_drewN | apply Kd.S_drew)); exact Kd.S_mono HO_6.out (fun _ hk => ⟨hk.1.1, ⟨hk.1.2.1, ⟨hk.1.2.2.1, ⟨hk.2, ⟨hk.1.2.2.1, hk.1.2.2.2⟩⟩⟩⟩⟩))⟩, ⟨(by (with_reducible repeat (first | apply Kd.R_alloc | apply Kd.R_drewN | apply Kd.R_drew)); exact Kd.R_mono HO112.out (fun _ hk => ⟨hk.1, ⟨hk.2, hk.2⟩⟩))⟩, ⟨Z48.z4⟩, ⟨Z48.z2⟩, ⟨Z48.z0⟩⟩
        case round =>
         clear H'
         try clear c1
         try clear p1
         try clear q1
         try clear hx1
         try clear hf1
         try clear p2
         try clear c4
         try clear c5
         try clear p6
         try clear c7
         try clear c7b0
         try clear c9
         try clear c11
         try clear c11b0
         try clear c11b1
         try clear c12
         try clear c12b0
         try clear c12b1
         try clear c13
         try clear c13b0
         try clear c14
         try clear c14b0
         try clear p15
         try clear q15
         try clear hx15
         try clear hf15
         try clear hcz17_0
         try clear hcz17_1
         try clear hcz17_2
         try clear hcz17_3
         try clear hcz4_0
         try clear hcz4_1
         try clear hcz4_2
         try clear hcz4_3
         try clear hcz6_0
         try clear hcz6_1
         try clear hcz6_2
         try clear hcz6_3
         try clear hfz17_0
         try clear hfz17_1
         try clear hfz17_2
         try clear hfz17_3
         try clear hfz4_0
         try clear hfz4_1
         try clear hfz4_2
         try clear hfz4_3
         try clear hfz6_0
         try clear hfz6_1
         try clear hfz6_2
         try clear hfz6_3
         try clear hx15_0
         try clear p15
         try clear p2
         try clear q15
         obtain ⟨x8_2, x38_2, rfl, HA, HK2, HO_3, HO_4, HO_6, HO_8, HO_36, BK101, HB⟩ := hrel
         have hl8_2 := (Kd.R_reads' HO_8.out).1
         rw [hl8_2] at HO_8
         (try simp only [hl8_2])
         (try simp only [hl8_2] at BK101)
         (try simp only [hl8_2] at HO_3)
         (try simp only [hl8_2] at HO_4)
         (try simp only [hl8_2] at HO_6)
         (try simp only [hl8_2] at HO_36)
         cases gk with
         | zero => exact absurd HA.out (by simp [impl_kernel.l1])
         | succ k2 =>
          have H := HA.out
          clear HA
          simp only [impl_kernel.l1] at H
          by_cases c22 : x38_2 < (x4_1.length : Int)
          ·rw [if_pos c22] at H
           have c22b0 : decide (x38_2 < (x4_1.length : Int)) = true := decide_eq_true c22
           clear c22
           by_cases c23 : 0 ≤ x38_2
           ·rw [if_pos c23] at H
            have c23b0 : decide (0 ≤ x38_2) = true := decide_eq_true c23
            clear c23
            by_cases c24 : x38_2 < (x4_1.length : Int)
            ·rw [if_pos c24] at H
             have c24b0 : decide (x38_2 < (x4_1.length : Int)) = true := decide_eq_true c24
             clear c24
             by_cases c25 : x38_2 < (t106.length : Int)
             ·rw [if_pos c25] at H
              have c25b0 : decide (x38_2 < (t106.length : Int)) = true := decide_eq_true c25
              clear c25
              by_cases c26 : 0 ≤ x24_1
              ·rw [if_pos c26] at H
               have c26b0 : decide (0 ≤ x24_1) = true := decide_eq_true c26
               clear c26
               by_cases c27 : x24_1 < ((rd_L1 t106 x38_2).length : Int)
               ·rw [if_pos c27] at H
                have c27b0 : decide (x24_1 < ((rd_L1 t106 x38_2).length : Int)) = true := decide_eq_true c27
                clear c27
                replace H := Option.bind_eq_some_iff.mp H
                obtain ⟨t117, A280, H⟩ := H
                replace H : (if 0 ≤ (rd x4_1 x38_2) then (if (rd x4_1 x38_2) < (x8_2.length : Int) then (impl_kernel.l1 k2 t106 x4_1 x6_1 x24_1 (x8_2.set ((rd x4_1 x38_2) : Int).toNat t117) a0_2 x24_1 x4_1 (x4_1.length : Int) (wrap64 (x38_2 + 1)) a0_0 a0_1 a0_2 l0_3) else (none)) else (none)) = some r := H
                have A28 := Z48.k A280
                clear A280
                by_cases c29 : 0 ≤ (rd x4_1 x38_2)
                ·rw [if_pos c29] at H
                 have c29b0 : decide (0 ≤ (rd x4_1 x38_2)) = true := decide_eq_true c29
                 clear c29
                 by_cases c30 : (rd x4_1 x38_2) < (x8_2.length : Int)
                 ·rw [if_pos c30] at H
                  have c30b0 : decide ((rd x4_1 x38_2) < (x8_2.length : Int)) = true := decide_eq_true c30
                  clear c30
                  obtain ⟨y118, hy118⟩ : ∃ y_ : List Int, y_ = (x8_2.set ((rd x4_1 x38_2) : Int).toNat t117) := ⟨_, rfl⟩
                  replace H : (impl_kernel.l1 k2 t106 x4_1 x6_1 x24_1 y118 a0_2 x24_1 x4_1 (x4_1.length : Int) (wrap64 (x38_2 + 1)) a0_0 a0_1 a0_2 l0_3) = some r := by first | (rw [hy118]; with_reducible exact H) | (have H2_ := (Option.bind_some _ _).symm.trans H; rw [hy118]; with_reducible exact H2_) | (have H2_ := (Option.bind_some _ _).symm.trans H; with_reducible exact H2_) | with_reducible exact H | (rw [hy118]; exact H) | exact H
                  have Ny118 := Z48.k hy118
                  clear hy118
                  have H' := Z48.k H
                  clear H
                  have p114 : 0 ≤ (x38_2 : Int) := of_decide_eq_true Z48.z7
                  have q114 : x38_2 < (x4_1.length : Int) := of_decide_eq_true Z48.z7
                  obtain ⟨ad114, e114, hx114_0⟩ := Kd.at_int (Kd.R_reads' HO_36.out).2.2 x38_2 p114 q114
                  cases e114
                  replace p114 := eq_true p114
                  replace q114 := eq_true q114
                  try go_wp2
                  have n0_ := Z48.k (Kd.N_drew HO_3.out)
                  have n1_ := Z48.k (Kd.R_drew HO_4.out)
                  have n2_ := Z48.k (Kd.S_drew HO_6.out)
                  have n3_ := Z48.k (Kd.R_drew HO_8.out)
                  have n4_ := Z48.k (Kd.R_drew HO_36.out)
                  have n5_ := Z48.k (blk_drew BK101.out)
                  have n6_ := Z48.k (below_drew1 HB.out)
                  clear HO_3 HO_4 HO_6 HO_8 HO_36 BK101 HB
                  have HO_3 := n0_
                  have HO_4 := n1_
                  have HO_6 := n2_
                  have HO_8 := n3_
                  have HO_36 := n4_
                  have BK101 := n5_
                  have HB := n6_
                  clear n0_ n1_ n2_ n3_ n4_ n5_ n6_
                  obtain ⟨Ao33, co33, eo33⟩ := Kd.N_slice HO_3.out
                  (first | subst eo33 | (injection eo33 with f1_ f2_ f3_; have f4_ := f1_.symm; have f5_ := f3_.symm; clear f1_ f2_ f3_; subst f4_; subst f5_))
                  have p115 : 0 ≤ (x38_2 : Int) := of_decide_eq_true Z48.z7
                  have q115 : x38_2 < (t106.length : Int) := of_decide_eq_true Z48.z7
                  obtain ⟨ad115, A115_0, c115_0, e115, hx115_0, hl115_0, hi115_0⟩ := at_L1 (Kd.N_reads' HO_3.out).2.2 x38_2 p115 q115
                  cases e115
                  obtain ⟨ce115, hce115, hMe115, hcc115⟩ := Kd.N_get HO_3.out [] x38_2 p115 (by first | exact q115 | exact of_decide_eq_true Z48.z7 | (have e_ := (Kd.N_reads' HO_3.out).1; omega))
                  obtain ⟨ua115_0, uc115_0, rfl, ul115_0, ge115_0⟩ := Kd.FK_slice_open hMe115
                  have hv115_0 := hcc115 0 _ rfl
                  rw [Nat.add_zero, show ((Kd.slice 2 (Kd.int .i64))).sz = 1 from rfl, Nat.mul_one] at hv115_0
                  replace hv115_0 := Option.some.inj (hv115_0.symm.trans hx115_0)
                  injection hv115_0 with hva_ hvn_ hvc_
                  rw [hva_] at ge115_0
                  rw [hvc_] at ul115_0
                  have HL115_0 := Z48.k (show Kd.V (Kd.int .i64) 2 _ w.heap.size _ _ (rd_L1 t106 x38_2) from Kd.V_mk ul115_0 ge115_0)
                  clear hva_ hvn_ hvc_ ge115_0 ul115_0 hcc115 hce115
                  have HR115_0 := Z48.k hi115_0
                  have HC115_0 := Z48.k hl115_0
                  clear hi115_0 hl115_0
                  replace p115 := eq_true p115
                  replace q115 := eq_true q115
                  have p116 : 0 ≤ (x24_1 : Int) := of_decide_eq_true Z48.z7
                  have q116 : x24_1 < ((rd_L1 t106 x38_2).length : Int) := of_decide_eq_true Z48.z7
                  obtain ⟨ad116, e116, hx116_0⟩ := Kd.at_int (by repeat (first | (with_reducible exact HR115_0.out) | (with_reducible refine Kd.C_alloc ?_ _) | (with_reducible refine Kd.C_drewN ?_ _) | (with_reducible refine Kd.C_drew ?_) | exact HR115_0.out)) x24_1 p116 q116
                  cases e116
                  replace p116 := eq_true p116
                  replace q116 := eq_true q116
                  refine start_ (n := 15) (S := fun w' => w'.cell? ⟨gb101, 0, none⟩ = some (.int .i64 a0_0) ∧ w'.cell? ⟨gb101, 1, none⟩ = some (.int .i64 a0_1) ∧ w'.cell? ⟨gb101, 2, none⟩ = some (.int .i64 a0_2) ∧ w'.cell? ⟨gb101, 3, none⟩ = some (.slice A0_3 l0_3.length c0_3) ∧ w'.cell? (ad115.add (x38_2).toNat) = some (.slice (some ad116) (rd_L1 t106 x38_2).length c115_0) ∧ w'.cell? (ad116.add (x24_1).toNat) = some (.int .i64 (rd (rd_L1 t106 x38_2) x24_1))) (ds := [14]) #[false, false, false, false, false, false, false, false, false, false, false, false, false, false, false] (by kernel_rfl) rfl rfl ⟨(blk_cell BK101.out 0).trans rfl, (blk_cell BK101.out 1).trans rfl, (blk_cell BK101.out 2).trans rfl, (blk_cell BK101.out 3).trans rfl, hx115_0, hx116_0⟩ (fun hHeld => ?_); refine with_tabW impl_kernel.tab13 impl_kernel.bits13 (fun HT_ HW_ => ?_)
                  generalize wr.drew = w32 at HO_3 HO_4 HO_6 HO_8 HO_36 BK101 HB HL115_0 HR115_0 hx115_0 hx116_0 hHeld ⊢
                  refine Z48.pP 0 43 (Z48.b 15 1) (any_of HT_.out (by kernel_rfl)) ?_
                  refine Z48.pP 1 44 (Z48.b 15 3) (any_of HT_.out (by kernel_rfl)) ?_
                  refine Z48.pP 2 45 (Z48.b 15 7) (any_of HT_.out (by kernel_rfl)) ?_
                  refine Z48.pP 3 46 (Z48.b 15 15) (any_of HT_.out (by kernel_rfl)) ?_
                  refine Z48.pP 4 47 (Z48.b 15 31) (any_of HT_.out (by kernel_rfl)) ?_
                  refine Z48.pP 6 49 (Z48.b 15 95) (any_of HT_.out (by kernel_rfl)) ?_
                  refine Z48.pP 10 53 (Z48.b 15 1119) (any_of HT_.out (by kernel_rfl)) ?_
                  refine Z48.pT6 5 48 (Z48.b 15 1151) (take_ofW HT_.out HW_.out (by kernel_rfl)) hHeld ?_
                  refine Z48.pP 7 50 (Z48.b 15 1279) (any_of HT_.out (by kernel_rfl)) ?_
                  refine Z48.pT6 8 51 (Z48.b 15 1535) (take_ofW HT_.out HW_.out (by kernel_rfl)) hHeld ?_
                  refine Z48.pP 9 52 (Z48.b 15 2047) (any_of HT_.out (by kernel_rfl)) ?_
                  refine Z48.pT6 11 54 (Z48.b 15 4095) (take_ofW HT_.out HW_.out (by kernel_rfl)) hHeld ?_
                  refine one_ (i := 12) (N := some 55) (Z48.b 15 8191) rfl rfl (one_of HT_.out (by kernel_rfl)) (by decide) (fun K hK => ?_)
                  refine goes_ Try.func71 (by kernel_rfl) rfl #[.int .i64 (wrap64 (-(rd (rd_L1 t106 x38_2) x24_1))), .int .i64 a0_0] (by rfl) rfl rfl Z48.z6 ?_
                  with_reducible refine (impl_reduce.calls (wrap64 (-(rd (rd_L1 t106 x38_2) x24_1))) a0_0 t117 _ A28.out).mono ?_
                  rintro e w' ⟨rfl, ⟨nd, rfl⟩⟩
                  refine ⟨_, rfl, ?_⟩
                  have p31 : 0 ≤ ((rd x4_1 x38_2) : Int) := of_decide_eq_true Z48.z7
                  have q31 : ((rd x4_1 x38_2) : Int) < ((x8_2.length : Int) : Int) := of_decide_eq_true Z48.z7
                  obtain ⟨hx31_0, hf31_0⟩ := Kd.R_celln 0 HO_8.out ((rd x4_1 x38_2) : Int) p31 q31
                  replace p31 := eq_true p31
                  replace q31 := eq_true q31
                  have HP34 := Kd.R_putn HO_8.out ((rd x4_1 x38_2) : Int) t117
                  rw [← Ny118.out] at HP34
                  have HQ34 := Z48.k HP34
                  clear HP34
                  refine hK.out _ _ ⟨(blk_cell BK101.out 0).trans rfl, (blk_cell BK101.out 1).trans rfl, (blk_cell BK101.out 2).trans rfl, (blk_cell BK101.out 3).trans rfl, hHeld.2.2.2.2.1, hHeld.2.2.2.2.2⟩ (fun hHeld => ?_)
                  clear hK K
                  refine norm_ (a' := ?_) ?_ ?_
                  rotate_left
                  ·show Act.put _ (some 55) _ = _
                   simp only [Act.put, List.setIfInBounds_toArray, List.set_cons_zero, List.set_cons_succ, i64_w, i32_w]
                   rfl
                  refine Z48.pP 13 56 (Z48.b 15 16383) (any_of HT_.out (by kernel_rfl)) ?_
                  refine last_ (i := 14) (N := none) (Z48.b 15 32767) rfl rfl (one_of HT_.out (by kernel_rfl)) (by decide) (fun K hK => ?_)
                  refine skip_ (w1 := ?_) (by rfl) rfl ?_ ?_
                  rotate_left
                  ·go_simp
                   rfl
                  refine hK.out _ _ ?_
                  clear hK K
                  refine done_ (done_of HT_.out (by kernel_rfl)) ?_
                  try go_wp2
                  (try simp only [← hl8_2])
                  go_roundg k2
                  case measure => have := HK1.out; have := HK2.out; omega
                  case rel => exact ⟨(y118), (wrap64 (x38_2 + 1)), Z48.z10, H', ⟨(by have := HK1.out; have := HK2.out; omega)⟩, ⟨(by (try simp only [hl8_2]); (with_reducible repeat (first | apply Kd.N_alloc | apply Kd.N_drewN | apply Kd.N_drew | apply Kd.S_alloc | apply Kd.S_drewN | apply Kd.S_drew)); exact Kd.N_mono (Kd.N_far (p := ⟨go15, ((rd x4_1 x38_2) : Int).toNat, none⟩) (Kd.N_mono HO_3.out (fun k_ hk => (⟨hk, fun e_ => hk.2.2.2.1 (by rw [e_]; rfl)⟩ : _ ∧ k_ ≠ go15))) (fun _ hk => hk.2) (.int .i64 t117)) (fun _ hk => ⟨hk.1.1, ⟨hk.1.2.1, ⟨hk.1.2.2.1, ⟨hk.1.2.2.2.1, ⟨hk.1.2.2.2.2.1, hk.1.2.2.2.2.2⟩⟩⟩⟩⟩))⟩, ⟨(by (try simp only [hl8_2]); (with_reducible repeat (first | apply Kd.R_alloc | apply Kd.R_drewN | apply Kd.R_drew)); exact Kd.R_mono (Kd.R_far (p := ⟨go15, ((rd x4_1 x38_2) : Int).toNat, none⟩) (Kd.R_mono HO_4.out (fun k_ hk => (⟨hk, fun e_ => hk.2 (by rw [e_]; rfl)⟩ : _ ∧ k_ ≠ go15))) (fun _ hk => hk.2) (.int .i64 t117)) (fun _ hk => ⟨hk.1.1, hk.1.2⟩))⟩, ⟨(by (try simp only [hl8_2]); (with_reducible repeat (first | apply Kd.N_alloc | apply Kd.N_drewN | apply Kd.N_drew | apply Kd.S_alloc | apply Kd.S_drewN | apply Kd.S_drew)); exact Kd.S_mono (Kd.S_far (p := ⟨go15, ((rd x4_1 x38_2) : Int).toNat, none⟩) (Kd.S_mono HO_6.out (fun k_ hk => (⟨hk, fun e_ => hk.2.2.2.1 (by rw [e_]; rfl)⟩ : _ ∧ k_ ≠ go15))) (fun _ hk => hk.2) (.int .i64 t117)) (fun _ hk => ⟨hk.1.1, ⟨hk.1.2.1, ⟨hk.1.2.2.1, ⟨hk.1.2.2.2.1, ⟨hk.1.2.2.2.2.1, hk.1.2.2.2.2.2⟩⟩⟩⟩⟩))⟩, ⟨(by (try simp only [hl8_2]); (with_reducible repeat (first | apply Kd.R_alloc | apply Kd.R_drewN | apply Kd.R_drew)); exact HQ34.out)⟩, ⟨(by (try simp only [hl8_2]); (with_reducible repeat (first | apply Kd.R_alloc | apply Kd.R_drewN | apply Kd.R_drew)); exact Kd.R_mono (Kd.R_far (p := ⟨go15, ((rd x4_1 x38_2) : Int).toNat, none⟩) (Kd.R_mono HO_36.out (fun k_ hk => (⟨hk, fun e_ => hk.2 (by rw [e_]; rfl)⟩ : _ ∧ k_ ≠ go15))) (fun _ hk => hk.2) (.int .i64 t117)) (fun _ hk => ⟨hk.1.1, hk.1.2⟩))⟩, ⟨(by (try simp only [hl8_2]); (with_reducible repeat (first | refine blk_drewN ?_ _ | refine blk_drew ?_ | refine blk_alloc ?_ _)); refine blk_far ?_ (by have h_ := Kd.R_ne HO_8.out BK101.out (by decide); intro e_; exact h_ (by rw [e_]; rfl)) _; (with_reducible repeat (first | refine blk_drewN ?_ _ | refine blk_drew ?_ | refine blk_alloc ?_ _)); exact BK101.out)⟩, ⟨(by repeat (first | (with_reducible first | exact HB.out | apply below_alloc | apply pw_below_drewN | apply below_drew1 | refine below_set ?_ GB15.out | refine below_set ?_ GE101.out) | exact HB.out))⟩⟩
                 rw [if_neg c30] at H
                 exact absurd H (by simp)
                rw [if_neg c29] at H
                exact absurd H (by simp)
               rw [if_neg c27] at H
               exact absurd H (by simp)
              rw [if_neg c26] at H
              exact absurd H (by simp)
             rw [if_neg c25] at H
             exact absurd H (by simp)
            rw [if_neg c24] at H
            exact absurd H (by simp)
           rw [if_neg c23] at H
           exact absurd H (by simp)
          rw [if_neg c22] at H
          have c22b0 : decide (x38_2 < (x4_1.length : Int)) = false := decide_eq_false c22
          clear c22
          by_cases c35 : x6_1.length < 5864062014805
          ·rw [if_pos c35] at H
           have LMc35 := Z48.k c35
           clear c35
           obtain ⟨y119, hy119⟩ : ∃ y_ : List (List Int), y_ = (x6_1 ++ [x8_2]) := ⟨_, rfl⟩
           replace H : (impl_kernel.l0 k2 t106 x4_1 y119 a0_2 (wrap64 (x24_1 + 1)) a0_0 a0_1 a0_2 l0_3) = some r := by first | (rw [hy119]; with_reducible exact H) | (have H2_ := (Option.bind_some _ _).symm.trans H; rw [hy119]; with_reducible exact H2_) | (have H2_ := (Option.bind_some _ _).symm.trans H; with_reducible exact H2_) | with_reducible exact H | (rw [hy119]; exact H) | exact H
           have Ny119 := Z48.k hy119
           clear hy119
           have H' := Z48.k H
           clear H
           go_wp2_with (first | ((with_reducible refine gate_builtin (b := .append) (xs := #[.tmp 58, .tmp 60]) rfl ?_); at_builtin; refine Kd.S_append (Kd.slice 2 (Kd.int .i64)) (w0 := w) w.heap.size rfl (.tmp 58) (.tmp 60) 22 38 (.slice none 0 0) 24 rfl Try.underlying22 info38 rfl (by decide) (by omega) u6 x6_1 x8_2 [.slice (some ⟨go15, 0, none⟩) x8_2.length co15] (fun k_ => (w.heap.size ≤ k_) ∧ some k_ ≠ (vR_ : Value).ownBlock ∧ some k_ ≠ (.slice Ao16 x4_1.length co16 : Value).ownBlock ∧ some k_ ≠ (.slice Ao16 x4_1.length co16 : Value).ownBlock ∧ k_ ≠ gb101) (fun k_ => some k_ = (.slice (some ⟨go15, 0, none⟩) x8_2.length co15 : Value).ownBlock) rfl rfl ?aP (fun k_ hk_ => ((Kd.R_mono (ok' := (fun k_ => ((fun k_ => (w.heap.size ≤ k_) ∧ some k_ ≠ (vR_ : Value).ownBlock ∧ some k_ ≠ (.slice Ao16 x4_1.length co16 : Value).ownBlock ∧ some k_ ≠ (.slice Ao16 x4_1.length co16 : Value).ownBlock ∧ k_ ≠ gb101)) k_ ∧ some k_ ≠ (u6 : Value).ownBlock)) (Kd.R_types (Kd.R_apart' (Kd.R_apart' (HO_8.out) (Kd.N_typed HO_3.out) (by decide)) (Kd.S_typed HO_6.out) (by decide)) BK101.out (by decide)) (fun k_ hk => ⟨⟨hk.1.1.1.1, ⟨hk.1.1.2, ⟨hk.1.1.1.2.1, ⟨hk.1.1.1.2.2, hk.2⟩⟩⟩⟩, hk.1.2⟩))).1 k_ hk_.symm) ?aF ?aO ?aB ?aS ?aL ?_; (case aP => exact Kd.M_row (Kd.R_mono (Kd.R_tight rfl (Kd.R_mono (ok' := (fun k_ => ((fun k_ => (w.heap.size ≤ k_) ∧ some k_ ≠ (vR_ : Value).ownBlock ∧ some k_ ≠ (.slice Ao16 x4_1.length co16 : Value).ownBlock ∧ some k_ ≠ (.slice Ao16 x4_1.length co16 : Value).ownBlock ∧ k_ ≠ gb101)) k_ ∧ some k_ ≠ (u6 : Value).ownBlock)) (Kd.R_types (Kd.R_apart' (Kd.R_apart' (HO_8.out) (Kd.N_typed HO_3.out) (by decide)) (Kd.S_typed HO_6.out) (by decide)) BK101.out (by decide)) (fun k_ hk => ⟨⟨hk.1.1.1.1, ⟨hk.1.1.2, ⟨hk.1.1.1.2.1, ⟨hk.1.1.1.2.2, hk.2⟩⟩⟩⟩, hk.1.2⟩))) (fun _ h_ => h_))); (case aB => exact Z48.z0); (case aF => exact (fun k_ hk => ⟨(Nat.le_trans (below_size Z48.z0) hk), Kd.fresh' (Kd.N_lt Z48.z5) k_ hk, Kd.fresh' (Kd.R_lt Z48.z4) k_ hk, Kd.fresh' (Kd.R_lt (by (with_reducible repeat (first | apply Kd.R_alloc | apply Kd.R_drewN | apply Kd.R_drew)); exact HO_36.out)) k_ hk, Kd.freshB (g := gb101) (o := .cells #[.int .i64 a0_0, .int .i64 a0_1, .int .i64 a0_2, .slice A0_3 l0_3.length c0_3] 43 (0, 0)) Z48.z2 k_ hk⟩)); (case aO => exact (by (with_reducible repeat (first | apply Kd.N_alloc | apply Kd.N_drewN | apply Kd.N_drew | apply Kd.S_alloc | apply Kd.S_drewN | apply Kd.S_drew)); exact Kd.S_mono HO_6.out (fun k_ hk => ⟨⟨hk.1, ⟨hk.2.1, ⟨hk.2.2.1, ⟨hk.2.2.2.2.1, hk.2.2.2.2.2⟩⟩⟩⟩, fun e_ => hk.2.2.2.1 e_⟩))); (case aS => exact (below_size Z48.z0)); (case aL => have := LMc35.out; omega); intro v120 w36 ho hb hg hat; rw [← Ny119.out] at ho; have n0_ := Z48.k (Kd.N_afterv (ok := (fun k_ => (w.heap.size ≤ k_) ∧ some k_ ≠ (.slice Ao16 x4_1.length co16 : Value).ownBlock ∧ some k_ ≠ (.slice (some ⟨go15, 0, none⟩) x8_2.length co15 : Value).ownBlock ∧ some k_ ≠ (.slice Ao16 x4_1.length co16 : Value).ownBlock ∧ k_ ≠ gb101)) (by (with_reducible repeat (first | apply Kd.N_alloc | apply Kd.N_drewN | apply Kd.N_drew | apply Kd.S_alloc | apply Kd.S_drewN | apply Kd.S_drew)); exact Kd.N_mono HO_3.out (fun _ hk => ⟨⟨hk.1, ⟨hk.2.1, ⟨hk.2.2.2.1, ⟨hk.2.2.2.2.1, hk.2.2.2.2.2⟩⟩⟩⟩, hk.2.2.1⟩)) hg hat); have n1_ := Z48.k (Kd.R_over' Z48.z4 (Kd.S_typed Z48.z3) (by decide) hg); have n2_ := Z48.k (Kd.R_over' (by (with_reducible repeat (first | apply Kd.R_alloc | apply Kd.R_drewN | apply Kd.R_drew)); exact HO_36.out) (Kd.S_typed Z48.z3) (by decide) hg); have n3_ := Z48.k (blk_grown (g := gb101) (o := .cells #[.int .i64 a0_0, .int .i64 a0_1, .int .i64 a0_2, .slice A0_3 l0_3.length c0_3] 43 (0, 0)) Z48.z2 hg (Kd.S_ne HO_6.out BK101.out (by decide))); have n4_ := Z48.k (hb); have n5_ := Z48.k (ho); clear HO_3 HO_4 HO_36 BK101 HB HO_6 HO_8; have HO_3 := n0_; have HO_4 := n1_; have HO_36 := n2_; have BK101 := n3_; have HB := n4_; have HO121 := n5_; clear n0_ n1_ n2_ n3_ n4_ n5_; clear ho hb hg hat))
           (try simp only [← hl8_2])
           go_roundg k2
           case measure => have := HK1.out; have := HK2.out; omega
           case rel => exact ⟨(x4_1), (y119), (wrap64 (x24_1 + 1)), Z48.z10, H', ⟨(by have := HK1.out; have := HK2.out; omega)⟩, ⟨(by (try simp only [hl8_2]); (with_reducible repeat (first | apply Kd.N_alloc | apply Kd.N_drewN | apply Kd.N_drew | apply Kd.S_alloc | apply Kd.S_drewN | apply Kd.S_drew)); exact Kd.N_mono HO_3.out (fun _ hk => ⟨hk.1.1, ⟨hk.1.2.1, ⟨hk.2, hk.1.2.2.2.2⟩⟩⟩))⟩, ⟨(by (try simp only [hl8_2]); (with_reducible repeat (first | apply Kd.R_alloc | apply Kd.R_drewN | apply Kd.R_drew)); exact Kd.R_mono HO_4.out (fun _ hk => hk.1))⟩, ⟨(by (try simp only [hl8_2]); (with_reducible repeat (first | apply Kd.N_alloc | apply Kd.N_drewN | apply Kd.N_drew | apply Kd.S_alloc | apply Kd.S_drewN | apply Kd.S_drew)); exact Kd.S_mono HO121.out (fun _ hk => ⟨hk.1, ⟨hk.2.1, ⟨hk.2.2.1, hk.2.2.2.2⟩⟩⟩))⟩, ⟨(by (try simp only [hl8_2]); (with_reducible repeat (first | refine blk_drewN ?_ _ | refine blk_drew ?_ | refine blk_alloc ?_ _)); exact BK101.out)⟩, ⟨Z48.z0⟩⟩
          rw [if_neg c35] at H
          exact absurd H (by simp)
       rw [if_neg c14] at H
       exact absurd H (by simp)
      rw [if_neg c13] at H
      exact absurd H (by simp)
     rw [if_neg c12] at H
     exact absurd H (by simp)
    rw [if_neg c11] at H
    exact absurd H (by simp)
   rw [if_neg c7] at H
   have c7b0 : decide (x24_1 < a0_2) = false := decide_eq_false c7
   clear c7
   obtain rfl := Option.some.inj H
   go_wp2
   go_ret
   exact ⟨_, (by first | rfl | (simp [errW_none, errW_some] <;> rfl) | (simp [*, errW_none, errW_some] <;> rfl)), (by (with_reducible repeat (first | apply Kd.N_alloc | apply Kd.N_drewN | apply Kd.N_drew | apply Kd.S_alloc | apply Kd.S_drewN | apply Kd.S_drew)); exact Kd.S_mono HO_6.out (fun _ _ => trivial)), Z48.z0⟩

end Go.Proofs.Ytoibkfdmcajieaa.F
end
