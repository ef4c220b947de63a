-- Texts of this claim, merged by pack.py (a program of this session's).
import Derived.Test.YtoibkfdmcajieaaQFnExactKernelOf0
import Derived.Test.YtoibkfdmcajieaaQFnExactKernelOf3

section
namespace Go.Proofs.Ytoibkfdmcajieaa.F
open Go.RowKit Go.Proofs.YtoibkfdmcajieaaW.PrintWords Go.Proofs.YtoibkfdmcajieaaW.PrintLast Go.Proofs.YtoibkfdmcajieaaW.PrintMore
attribute [local go_sem] max2_int min2_int max_two min_two max_three min_three max_four min_four   -- for this text's walks alone
set_option linter.unusedVariables false
set_option linter.unusedSimpArgs false

/-! ### spec_l00Has: function 68 -/
def spec_l00Has.l0 : Nat → List Int → Int → Int → Option (Bool)
  | 0, _, _, _ => none
  | k + 1, x0, x1, x5 => if x5 < (x0.length : Int) then (if 0 ≤ x5 then (if (rd x0 x5) = x1 then (some true) else (spec_l00Has.l0 k x0 x1 (wrap64 (x5 + 1)))) else (none)) else (some false)
def spec_l00Has.f (k : Nat) (l0 : List Int) (a1 : Int) : Option (Bool) := spec_l00Has.l0 k l0 a1 0
theorem spec_l00Has.mono_l : ∀ k, (∀ y0 y1 y2, LeO (spec_l00Has.l0 k y0 y1 y2) (spec_l00Has.l0 (k + 1) y0 y1 y2))
  | 0 => fun _ _ _ r h => by simp [spec_l00Has.l0] at h
  | k + 1 => by
    have ih0 := spec_l00Has.mono_l k
    · intro y0 y1 y2
      unfold spec_l00Has.l0
      repeat' first
      | (with_reducible exact ih0 _ _ _)
      | (with_reducible exact LeO.refl _)
      | (with_reducible exact LeO.none _)
      | (with_reducible refine LeO.ite ?_ ?_)
      | (with_reducible refine LeO.bind ?_ (fun _ => ?_))
      | exact ih0 _ _ _
      | exact LeO.none _
      | refine LeO.ite ?_ ?_
      | refine LeO.bind ?_ (fun _ => ?_)
theorem spec_l00Has.mono : ∀ a0 a1 k, LeO (spec_l00Has.f k a0 a1) (spec_l00Has.f (k + 1) a0 a1) := by
  intro a0 a1 k
  have ih0 := spec_l00Has.mono_l k
  unfold spec_l00Has.f
  repeat' first
      | (with_reducible exact ih0 _ _ _)
      | (with_reducible exact LeO.refl _)
      | (with_reducible exact LeO.none _)
      | (with_reducible refine LeO.ite ?_ ?_)
      | (with_reducible refine LeO.bind ?_ (fun _ => ?_))
      | exact ih0 _ _ _
      | exact LeO.none _
      | refine LeO.ite ?_ ?_
      | refine LeO.bind ?_ (fun _ => ?_)
theorem Z68.z0 {P : Prop} (h : P := by repeat (first | exact Drawn0.refl _ | apply Drawn0.step)) : P := h
set_option maxHeartbeats 8000000 in
set_option maxRecDepth 100000 in
theorem spec_l00Has.calls (k : Nat) (A0 : Option Addr) (c0 : Nat) (l0 : List Int) (a1 : Int) (r : Bool) (w : World) (hr0 : Kd.C (Kd.int .i64) w A0 l0.length l0) (hc0 : l0.length ≤ c0) (h : spec_l00Has.f k l0 a1 = some r) :
  Calls Try.prog 68 #[.slice A0 l0.length c0, .int .i64 a1] w fun e w' => e = .returned (.bool r) ∧ Drawn0 w w' := by
 have HR0 := Aside0.mk hr0
 have HC0 := Aside0.mk hc0
 clear hr0 hc0
 have H : (spec_l00Has.l0 k l0 a1 0) = some r := h
 clear h
 have H' := Aside0.mk H
 clear H
 go_enter Try.func68, Try.ntmps68
 go_wp2
 go_loopg [5] k (fun kq v5 w' => ∃ (x5_1 : Int), v5 = .int .i64 x5_1 ∧ Aside0 (spec_l00Has.l0 kq l0 a1 x5_1 = some r) ∧ Aside0 (kq ≤ k) ∧ Drawn0 w w')
 case atStart => exact ⟨(0), (by first | rfl | (simp; done) | (simp [*]; done)), H', ⟨Nat.le_refl _⟩, Z68.z0⟩
 case round =>
  clear H'
  try clear p2
  obtain ⟨x5_1, rfl, HA, HK1, ⟨m1, rfl⟩⟩ := hrel
  cases gk with
  | zero => exact absurd HA.out (by simp [spec_l00Has.l0])
  | succ k1 =>
   have H := HA.out
   clear HA
   simp only [spec_l00Has.l0] at H
   by_cases c3 : x5_1 < (l0.length : Int)
   ·rw [if_pos c3] at H
    have c3b0 : decide (x5_1 < (l0.length : Int)) = true := decide_eq_true c3
    clear c3
    by_cases c4 : 0 ≤ x5_1
    ·rw [if_pos c4] at H
     have c4b0 : decide (0 ≤ x5_1) = true := decide_eq_true c4
     clear c4
     by_cases c5 : (rd l0 x5_1) = a1
     ·rw [if_pos c5] at H
      have c5b0 : ((rd l0 x5_1) == a1) = true := beq_iff_eq.mpr c5
      have c5b1 : ((rd l0 x5_1) != a1) = false := bne_eq_false_iff_eq.mpr c5
      clear c5
      obtain rfl := Option.some.inj H
      have p101 : 0 ≤ (x5_1 : Int) := of_decide_eq_true (by first | (with_reducible assumption) | assumption)
      have q101 : x5_1 < (l0.length : Int) := of_decide_eq_true (by first | (with_reducible assumption) | assumption)
      obtain ⟨ad101, e101, hx101_0⟩ := Kd.at_int HR0.out x5_1 p101 q101
      cases e101
      replace p101 := eq_true p101
      replace q101 := eq_true q101
      go_wp2
      go_ret
      exact ⟨(by first | rfl | (simp; done) | (simp [*]; done)), Z68.z0⟩
     rw [if_neg c5] at H
     have c5b0 : ((rd l0 x5_1) == a1) = false := beq_eq_false_iff_ne.mpr c5
     have c5b1 : ((rd l0 x5_1) != a1) = true := bne_iff_ne.mpr c5
     have H' := Aside0.mk H
     clear H
     have p101 : 0 ≤ (x5_1 : Int) := of_decide_eq_true (by first | (with_reducible assumption) | assumption)
     have q101 : x5_1 < (l0.length : Int) := of_decide_eq_true (by first | (with_reducible assumption) | assumption)
     obtain ⟨ad101, e101, hx101_0⟩ := Kd.at_int HR0.out x5_1 p101 q101
     cases e101
     replace p101 := eq_true p101
     replace q101 := eq_true q101
     go_wp2
     go_roundg k1
     case measure => have := HK1.out; omega
     case rel => exact ⟨(wrap64 (x5_1 + 1)), (by first | rfl | (simp; done) | (simp [*]; done)), H', ⟨(by have := HK1.out; omega)⟩, Z68.z0⟩
    rw [if_neg c4] at H
    exact absurd H (by simp)
   rw [if_neg c3] at H
   have c3b0 : decide (x5_1 < (l0.length : Int)) = false := decide_eq_false c3
   clear c3
   obtain rfl := Option.some.inj H
   go_wp2
   go_ret
   exact ⟨(by first | rfl | (simp; done) | (simp [*]; done)), Z68.z0⟩


/-! ### spec_l03Kernel: function 47 -/
mutual
def spec_l03Kernel.l0 : Nat → List Int → List (List Int) → Int → Int → Int → Int → List Int → Int → Int → Int → List Int → Option ((List (List Int)))
  | 0, _, _, _, _, _, _, _, _, _, _, _ => none
  | k + 1, x4, x6, x7, x102000, x102001, x102002, x102003, x113000, x113001, x113002, x113003 => if x7 < x102002 then ((spec_l00Has.f k x4 x7).bind fun t116 => (if t116 = true then (spec_l03Kernel.l0 k x4 x6 (wrap64 (x7 + 1)) x102000 x102001 x102002 x102003 x113000 x113001 x113002 x113003) else (if 0 ≤ x102002 then (if (x102002 : Int).toNat ≤ 35184372088832 then ((some (List.replicate (x102002 : Int).toNat 0 : List Int)).bind fun y117 => (if 0 ≤ x7 then (if x7 < (y117.length : Int) then (spec_l03Kernel.l1 k x4 x6 x7 (y117.set (x7 : Int).toNat 1) 0 x102000 x102001 x102002 x102003 x113000 x113001 x113002 x113003) else (none)) else (none))) else (none)) else (none)))) else (some x6)
def spec_l03Kernel.l1 : Nat → List Int → List (List Int) → Int → List Int → Int → Int → Int → Int → List Int → Int → Int → Int → List Int → Option ((List (List Int)))
  | 0, _, _, _, _, _, _, _, _, _, _, _, _, _ => none
  | k + 1, x4, x6, x7, x8, x9, x102000, x102001, x102002, x102003, x113000, x113001, x113002, x113003 => if x9 < (x4.length : Int) then (if 0 ≤ x9 then (if 0 ≤ (wrap64 ((wrap64 (x9 * x102002)) + x7)) then (if (wrap64 ((wrap64 (x9 * x102002)) + x7)) < (x113003.length : Int) then ((spec_l03Mod.f (wrap64 (-(rd x113003 (wrap64 ((wrap64 (x9 * x102002)) + x7))))) x102000).bind fun t123 => (if 0 ≤ (rd x4 x9) then (if (rd x4 x9) < (x8.length : Int) then (spec_l03Kernel.l1 k x4 x6 x7 (x8.set ((rd x4 x9) : Int).toNat t123) (wrap64 (x9 + 1)) x102000 x102001 x102002 x102003 x113000 x113001 x113002 x113003) else (none)) else (none))) else (none)) else (none)) else (none)) else (if x6.length < 5864062014805 then (spec_l03Kernel.l0 k x4 (x6 ++ [x8]) (wrap64 (x7 + 1)) x102000 x102001 x102002 x102003 x113000 x113001 x113002 x113003) else (none))
end
def spec_l03Kernel.f (k : Nat) (a0_0 : Int) (a0_1 : Int) (a0_2 : Int) (l0_3 : List Int) : Option ((List (List Int))) := (spec_l03Reduced.f k a0_0 a0_1 a0_2 l0_3).bind fun bt102 => (spec_l03Kernel.l0 k bt102.2.2.2.2.1 (([] : List (List Int))) 0 a0_0 a0_1 a0_2 l0_3 bt102.1 bt102.2.1 bt102.2.2.1 bt102.2.2.2.1)
theorem spec_l03Kernel.mono_l : ∀ k, (∀ y0 y1 y2 y3 y4 y5 y6 y7 y8 y9 y10, LeO (spec_l03Kernel.l0 k y0 y1 y2 y3 y4 y5 y6 y7 y8 y9 y10) (spec_l03Kernel.l0 (k + 1) y0 y1 y2 y3 y4 y5 y6 y7 y8 y9 y10)) ∧ (∀ y0 y1 y2 y3 y4 y5 y6 y7 y8 y9 y10 y11 y12, LeO (spec_l03Kernel.l1 k y0 y1 y2 y3 y4 y5 y6 y7 y8 y9 y10 y11 y12) (spec_l03Kernel.l1 (k + 1) y0 y1 y2 y3 y4 y5 y6 y7 y8 y9 y10 y11 y12))
  | 0 => ⟨fun _ _ _ _ _ _ _ _ _ _ _ r h => by simp [spec_l03Kernel.l0] at h, fun _ _ _ _ _ _ _ _ _ _ _ _ _ r h => by simp [spec_l03Kernel.l1] at h⟩
  | k + 1 => by
    obtain ⟨ih0, ih1⟩ := spec_l03Kernel.mono_l k
    refine ⟨?_, ?_⟩
    · intro y0 y1 y2 y3 y4 y5 y6 y7 y8 y9 y10
      unfold spec_l03Kernel.l0
      repeat' first
      | (with_reducible exact ih0 _ _ _ _ _ _ _ _ _ _ _)
      | (with_reducible exact ih1 _ _ _ _ _ _ _ _ _ _ _ _ _)
      | (with_reducible exact spec_l00Has.mono _ _ _)
      | (with_reducible exact spec_l03Reduced.mono _ _ _ _ _)
      | (with_reducible exact LeO.refl _)
      | (with_reducible exact LeO.none _)
      | (with_reducible refine LeO.ite ?_ ?_)
      | (with_reducible refine LeO.bind ?_ (fun _ => ?_))
      | exact ih0 _ _ _ _ _ _ _ _ _ _ _
      | exact ih1 _ _ _ _ _ _ _ _ _ _ _ _ _
      | exact spec_l00Has.mono _ _ _
      | exact spec_l03Reduced.mono _ _ _ _ _
      | exact LeO.none _
      | refine LeO.ite ?_ ?_
      | refine LeO.bind ?_ (fun _ => ?_)
    · intro y0 y1 y2 y3 y4 y5 y6 y7 y8 y9 y10 y11 y12
      unfold spec_l03Kernel.l1
      repeat' first
      | (with_reducible exact ih0 _ _ _ _ _ _ _ _ _ _ _)
      | (with_reducible exact ih1 _ _ _ _ _ _ _ _ _ _ _ _ _)
      | (with_reducible exact spec_l00Has.mono _ _ _)
      | (with_reducible exact spec_l03Reduced.mono _ _ _ _ _)
      | (with_reducible exact LeO.refl _)
      | (with_reducible exact LeO.none _)
      | (with_reducible refine LeO.ite ?_ ?_)
      | (with_reducible refine LeO.bind ?_ (fun _ => ?_))
      | exact ih0 _ _ _ _ _ _ _ _ _ _ _
      | exact ih1 _ _ _ _ _ _ _ _ _ _ _ _ _
      | exact spec_l00Has.mono _ _ _
      | exact spec_l03Reduced.mono _ _ _ _ _
      | exact LeO.none _
      | refine LeO.ite ?_ ?_
      | refine LeO.bind ?_ (fun _ => ?_)
theorem spec_l03Kernel.mono : ∀ a0 a1 a2 a3 k, LeO (spec_l03Kernel.f k a0 a1 a2 a3) (spec_l03Kernel.f (k + 1) a0 a1 a2 a3) := by
  intro a0 a1 a2 a3 k
  obtain ⟨ih0, ih1⟩ := spec_l03Kernel.mono_l k
  unfold spec_l03Kernel.f
  repeat' first
      | (with_reducible exact ih0 _ _ _ _ _ _ _ _ _ _ _)
      | (with_reducible exact ih1 _ _ _ _ _ _ _ _ _ _ _ _ _)
      | (with_reducible exact spec_l00Has.mono _ _ _)
      | (with_reducible exact spec_l03Reduced.mono _ _ _ _ _)
      | (with_reducible exact LeO.refl _)
      | (with_reducible exact LeO.none _)
      | (with_reducible refine LeO.ite ?_ ?_)
      | (with_reducible refine LeO.bind ?_ (fun _ => ?_))
      | exact ih0 _ _ _ _ _ _ _ _ _ _ _
      | exact ih1 _ _ _ _ _ _ _ _ _ _ _ _ _
      | exact spec_l00Has.mono _ _ _
      | exact spec_l03Reduced.mono _ _ _ _ _
      | exact LeO.none _
      | refine LeO.ite ?_ ?_
      | refine LeO.bind ?_ (fun _ => ?_)
def spec_l03Kernel.T12 : Bool × List (List Nat × List Nat) := (true, [([], []), ([], []), ([], []), ([1, 2], [1, 2]), ([3], [3]), ([], []), ([5], [5]), ([], []), ([], []), ([8], [8]), ([9], [9]), ([10], [10]), ([7, 11], [7, 11]), ([], []), ([12, 13], [12, 13]), ([6, 14], [6, 14]), ([15], [15]), ([16], [16]), ([], []), ([18], [18]), ([19], [19]), ([20], [20]), ([17, 21], [17, 21]), ([0, 4, 0, 1, 2, 3, 4, 5, 6, 7, 8, 9, 10, 11, 12, 13, 14, 15, 16, 17, 18, 19, 20, 21, 22], [0, 4]), ([23, 22, 22, 0, 1, 2, 3, 4, 5, 6, 7, 8, 9, 10, 11, 12, 13, 14, 15, 16, 17, 18, 19, 20, 21, 22], [22, 23])])
def spec_l03Kernel.B12 : List Nat := [0, 0, 0, 6, 14, 0, 32, 0, 0, 256, 768, 1792, 3968, 0, 16256, 32736, 65504, 131040, 0, 262144, 786432, 1835008, 4194272, 8388607, 16777215]
theorem spec_l03Kernel.tab12 : rtab .any (opsOf Try.f47 12) = spec_l03Kernel.T12 := by kernel_rfl
theorem spec_l03Kernel.bits12 : waitsOk spec_l03Kernel.T12.2 spec_l03Kernel.B12 = true := by kernel_rfl
/-- A mask, by a number. -/
def Z47.b (n x : Nat) : Array Bool := ((List.range n).map (fun i => x.testBit i)).toArray
theorem Z47.pP {P : Program} {ops : Array Oper} {Q : Exit → Act → World → Prop} {md : Region.Mode} {S : World → Prop} {ds : List Nat} (i N : Nat) {oi : Oper} {v : Value} {fuel : Nat} {l : Array Bool} {a : Act} {w : World} (l' : Array Bool) (hc : anyB md ops l l' i = true) {a' : Act} (h : wpAnyLast P md ops Q S ds fuel l' a' w) (hi : ops[i]? = some oi := by rfl) (hN : oi.dst = some N := by rfl) (hQ : ∀ c a w, Q (.panic c) (a.put oi.dst v) w → Q (.panic c) a w := by exact fun _ _ _ h => h) (hy : Yields P ops oi v a := by exact Or.inl ⟨(by rfl), by intro w'; go_simp; with_reducible rfl⟩) (ha : a.put (some N) v = a' := by simp only [Act.put, List.setIfInBounds_toArray, List.set_cons_zero, List.set_cons_succ, i64_w, i32_w]; rfl) : wpAnyLast P md ops Q S ds (fuel + 1) l a w := pure_ l' hi hN hc hQ hy ha h
theorem Z47.pT10 {P : Program} {ops : Array Oper} {Q : Exit → Act → World → Prop} {md : Region.Mode} {S : World → Prop} {ds : List Nat} (i N : Nat) {oi : Oper} {v : Value} {fuel : Nat} {l : Array Bool} {a : Act} {w : World} (l' : Array Bool) (hc : takeB md ops ds l l' i = true) (hS : S w) {a' : Act} (h : wpAnyLast P md ops Q S ds fuel l' a' w) (hi : ops[i]? = some oi := by rfl) (hN : oi.dst = some N := by rfl) (hQ : ∀ c a w, Q (.panic c) (a.put oi.dst v) w → Q (.panic c) a w := by exact fun _ _ _ h => h) (hy : YieldsIf P ops S oi v a := by exact Or.inl ⟨(by rfl), by rintro w' ⟨s0, s1, s2, s3, s4, s5, s6, s7, s8, s9⟩; go_simp; with_reducible rfl⟩) (ha : a.put (some N) v = a' := by simp only [Act.put, List.setIfInBounds_toArray, List.set_cons_zero, List.set_cons_succ, i64_w, i32_w]; rfl) : wpAnyLast P md ops Q S ds (fuel + 1) l a w := take_ l' hi hN hc hQ hy hS ha h
theorem Z47.bb {w0 w w1 : World} {g : Nat} {o : Obj} (_B : Aside0 (w0.heap[g]? = some o)) (h : w.heap[g]? = some o) (hb : Below w.heap.size w w1) : w1.heap[g]? = some o := blk_below h hb
theorem Z47.bl {w0 w : World} {g : Nat} {o : Obj} (_B : Aside0 (w0.heap[g]? = some o)) (h : w.heap[g]? = some o) : g < w.heap.size := blk_lt h
theorem Z47.k {p : Prop} (h : p) : Aside0 p := ⟨h⟩
theorem Z47.z13 {P : Prop} (h : P := by first | rfl | (simp; done) | (simp [*]; done)) : P := h
theorem Z47.z12 {P : Prop} (h : P := by repeat (first | exact (Kd.R_reads' HO_4.out).2.2 | (with_reducible refine Kd.C_alloc ?_ _) | (with_reducible refine Kd.C_drewN ?_ _) | (with_reducible refine Kd.C_drew ?_))) : P := h
theorem Z47.z11 {P : Prop} (h : P := by (try simp only [List.map_toArray, List.map_cons, List.map_nil]); first | done | rfl | (simp only [List.length_drop, List.length_take]; rfl)) : P := h
theorem Z47.z10 {P : Prop} (h : P := by (with_reducible repeat (first | apply Kd.S_alloc | apply Kd.S_drewN | apply Kd.S_drew)); exact HO_6.out) : P := h
theorem Z47.z9 {P : Prop} (h : P := by first | (with_reducible assumption) | assumption) : P := h
theorem Z47.z8 {P : Prop} (h : P := by (with_reducible repeat (first | apply Kd.R_alloc | apply Kd.R_drewN | apply Kd.R_drew)); exact (Kd.R_mono (Kd.R_far (p := ⟨gb112, 3, none⟩) (Kd.R_far (p := ⟨gb112, 2, none⟩) (Kd.R_far (p := ⟨gb112, 1, none⟩) (Kd.R_far (p := ⟨gb112, 0, none⟩) (Kd.R_types HO107.out BK112.out (by decide)) (fun _ hk => hk.2) (.int .i64 t102)) (fun _ hk => hk.2) (.int .i64 t103)) (fun _ hk => hk.2) (.int .i64 t104)) (fun _ hk => hk.2) (.slice Ao8 t105.length co8)) (fun _ h_ => h_.1))) : P := h
theorem Z47.z7 {P : Prop} (h : P := by (with_reducible repeat (first | apply Kd.R_alloc | apply Kd.R_drewN | apply Kd.R_drew)); exact (Kd.R_mono (Kd.R_far (p := ⟨gb112, 3, none⟩) (Kd.R_far (p := ⟨gb112, 2, none⟩) (Kd.R_far (p := ⟨gb112, 1, none⟩) (Kd.R_far (p := ⟨gb112, 0, none⟩) (Kd.R_types HO110.out BK112.out (by decide)) (fun _ hk => hk.2) (.int .i64 t102)) (fun _ hk => hk.2) (.int .i64 t103)) (fun _ hk => hk.2) (.int .i64 t104)) (fun _ hk => hk.2) (.slice Ao8 t105.length co8)) (fun _ h_ => h_.1))) : P := h
theorem Z47.z6 {P : Prop} (h : P := by (with_reducible repeat (first | apply Kd.R_alloc | apply Kd.R_drewN | apply Kd.R_drew)); exact HO_4.out) : P := h
theorem Z47.z5 {P : Prop} (h : P := by (with_reducible repeat (first | refine blk_drewN ?_ _ | refine blk_drew ?_ | refine blk_alloc ?_ _)); exact BK112.out) : P := h
theorem Z47.z4 {P : Prop} (h : P := by (with_reducible repeat (first | apply Kd.R_alloc | apply Kd.R_drewN | apply Kd.R_drew)); exact HO_113003.out) : P := h
theorem Z47.z3 {P : Prop} (h : P := by repeat (first | (with_reducible first | exact HB.out | apply below_alloc | apply pw_below_drewN | apply below_drew1 | refine below_set ?_ GE101.out) | exact HB.out)) : P := h
theorem Z47.z2 {P : Prop} (h : P := by (with_reducible repeat (first | refine blk_drewN ?_ _ | refine blk_drew ?_ | refine blk_alloc ?_ _)); exact BK101.out) : P := h
theorem Z47.z1 {P : Prop} (h : P := by repeat (first | (with_reducible first | exact HB.out | apply below_alloc | apply pw_below_drewN | apply below_drew1 | refine below_set ?_ GE101.out | refine below_set ?_ GE112.out) | exact HB.out)) : P := h
theorem Z47.z0 {P : Prop} (h : P := by simp only [Act.put, List.setIfInBounds_toArray, List.set_cons_zero, List.set_cons_succ, i64_w, i32_w]; rfl) : P := h
set_option maxHeartbeats 8000000 in
set_option maxRecDepth 100000 in
theorem spec_l03Kernel.calls (k : Nat) (a0_0 : Int) (a0_1 : Int) (a0_2 : Int) (A0_3 : Option Addr) (c0_3 : Nat) (l0_3 : List Int) (r : List (List Int)) (w : World) (hr0_3 : Kd.C (Kd.int .i64) w A0_3 l0_3.length l0_3) (hc0_3 : l0_3.length ≤ c0_3) {g0_ : Nat} (hbk0_ : w.heap[g0_]? = some (.cells #[.int .i64 a0_0, .int .i64 a0_1, .int .i64 a0_2, .slice A0_3 l0_3.length c0_3] 43 (0, 0))) (h : spec_l03Kernel.f k a0_0 a0_1 a0_2 l0_3 = some r) :
  Calls Try.prog 47 #[.pointer (some ⟨g0_, 0, none⟩)] w fun e w' => ∃ v0_ : Value, e = .returned (v0_) ∧ Kd.S (Kd.slice 2 (Kd.int .i64)) 38 w' w.heap.size (fun _ => True) v0_ r ∧ Below w.heap.size w w' := by
 have hu43 := Try.underlying43
 have HR0_3 := Z47.k hr0_3
 have HC0_3 := Z47.k hc0_3
 clear hr0_3 hc0_3
 have HB := Z47.k (Below.refl w.heap.size w)
 have H : ((spec_l03Reduced.f k a0_0 a0_1 a0_2 l0_3).bind fun bt102 => (spec_l03Kernel.l0 k bt102.2.2.2.2.1 (([] : List (List Int))) 0 a0_0 a0_1 a0_2 l0_3 bt102.1 bt102.2.1 bt102.2.2.1 bt102.2.2.2.1)) = some r := h
 clear h
 replace H := Option.bind_eq_some_iff.mp H
 obtain ⟨⟨t102, t103, t104, t105, t108, t111⟩, A20, H⟩ := H
 replace H : (spec_l03Kernel.l0 k t108 (([] : List (List Int))) 0 a0_0 a0_1 a0_2 l0_3 t102 t103 t104 t105) = some r := H
 have A2 := Z47.k A20
 clear A20
 obtain ⟨y113, hy113⟩ : ∃ y_ : List (List Int), y_ = (([] : List (List Int))) := ⟨_, rfl⟩
 replace H : (spec_l03Kernel.l0 k t108 y113 0 a0_0 a0_1 a0_2 l0_3 t102 t103 t104 t105) = some r := by first | (rw [hy113]; with_reducible exact H) | (have H2_ := (Option.bind_some _ _).symm.trans H; rw [hy113]; with_reducible exact H2_) | (have H2_ := (Option.bind_some _ _).symm.trans H; with_reducible exact H2_) | with_reducible exact H | (rw [hy113]; exact H) | exact H
 have Ny113 := Z47.k hy113
 clear hy113
 have H' := Z47.k H
 clear H
 go_enter Try.func47, Try.ntmps47
 have BK101 := Z47.k hbk0_
 go_wp2_with (first | ((with_reducible refine gate_callee (f := 67) rfl ?_); refine goesL_ (some 12) rfl rfl Try.func67 (by kernel_rfl) rfl #[.pointer (some ⟨g0_, 0, none⟩)] rfl Z47.z11 ?_; (with_reducible refine (spec_l03Reduced.calls k a0_0 a0_1 a0_2 A0_3 c0_3 l0_3 t102 t103 t104 t105 t108 t111 _ ?side1 ?side2 ?side3 A2.out).mono ?_); (case side1 => exact (by repeat (first | exact (Kd.C_below HR0_3.out HB.out) | (with_reducible refine Kd.C_alloc ?_ _) | (with_reducible refine Kd.C_drewN ?_ _) | (with_reducible refine Kd.C_drew ?_)))); (case side2 => exact HC0_3.out); (case side3 => exact Z47.z2); rintro e w4 ⟨v106, v109, rfl, ho0, ho1, hb⟩; refine ⟨_, rfl, ?_⟩; have n0_ := Z47.k (Kd.R_lower ho0 (below_size Z47.z3)); have n1_ := Z47.k (Kd.R_lower ho1 (below_size Z47.z3)); have n2_ := Z47.k (Z47.bb BK101 Z47.z2 hb); have n3_ := Z47.k (below_step Z47.z3 hb); clear BK101 HB; have HO107 := n0_; have HO110 := n1_; have BK101 := n2_; have HB := n3_; clear n0_ n1_ n2_ n3_; (try clear hb); (try clear hb2); (try clear hk); (try clear hi); (try clear ho0); (try clear ho1)) | ((with_reducible refine gate_dst (N := 3) rfl ?_); refine box_event ?hg (N := 3) ?hd (cs := #[.int .i64 0, .int .i64 0, .int .i64 0, .slice none 0 0]) (t := 43) ?hr ?_; (case hd => rfl); (case hg => rfl); (case hr => first | (go_simp; done) | (go_simp; rfl)); intro gb112 hg w5 hbox hb; have n0_ := Z47.k (Kd.R_below (by (with_reducible repeat (first | apply Kd.R_alloc | apply Kd.R_drewN | apply Kd.R_drew)); exact HO107.out) hb); have n1_ := Z47.k (Kd.R_below (by (with_reducible repeat (first | apply Kd.R_alloc | apply Kd.R_drewN | apply Kd.R_drew)); exact HO110.out) hb); have n2_ := Z47.k (Z47.bb BK101 Z47.z2 hb); have n3_ := Z47.k (below_step Z47.z3 hb); have n4_ := Z47.k (hbox); have n5_ := Z47.k (show w.heap.size ≤ gb112 from (by rw [hg]; exact (below_size Z47.z3))); have n6_ := Z47.k (show w.heap.size ≤ gb112 from (by rw [hg]; exact (below_size Z47.z3))); have n7_ := Z47.k (show g0_ ≠ gb112 from (by rw [hg]; exact Nat.ne_of_lt (Z47.bl BK101 Z47.z2))); have n8_ := Z47.k (show gb112 ≠ g0_ from (by rw [hg]; exact Nat.ne_of_gt (Z47.bl BK101 Z47.z2))); clear HO107 HO110 BK101 HB; have HO107 := n0_; have HO110 := n1_; have BK101 := n2_; have HB := n3_; have BK112 := n4_; have GW112 := n5_; have GE112 := n6_; have NB101_112 := n7_; have NB112_101 := n8_; clear n0_ n1_ n2_ n3_ n4_ n5_ n6_ n7_ n8_; clear hb hbox hg; have hnb6 := NB112_101.out; have hnc6 := NB101_112.out; have hcz7_0 : w5.cell? ⟨gb112, 0, none⟩ = some (.int .i64 0) := (blk_cell BK112.out 0).trans rfl; have hcz7_1 : w5.cell? ⟨gb112, 1, none⟩ = some (.int .i64 0) := (blk_cell BK112.out 1).trans rfl; have hcz7_2 : w5.cell? ⟨gb112, 2, none⟩ = some (.int .i64 0) := (blk_cell BK112.out 2).trans rfl; have hcz7_3 : w5.cell? ⟨gb112, 3, none⟩ = some (.slice none 0 0) := (blk_cell BK112.out 3).trans rfl; have hfz7_0 := blk_frozen BK112.out 0; have hfz7_1 := blk_frozen BK112.out 1; have hfz7_2 := blk_frozen BK112.out 2; have hfz7_3 := blk_frozen BK112.out 3; obtain ⟨Ao8, co8, eo8⟩ := Kd.R_slice HO107.out; subst eo8) | ((with_reducible refine gate_dst (N := 16) rfl ?_); refine Kd.S_lit (Kd.slice 2 (Kd.int .i64)) _ 38 ?hg (N := 16) ?hd (xs := ([] : List (List Int))) (inner := []) (ok := fun _ => True) (okp := fun _ => True) ?hr ?hp (fun _ hk => hk) trivial (Below.refl _ _) (Nat.le_refl _) (by simp) ?_; (case hd => rfl); (case hg => rfl); (case hr => first | (go_simp; done) | (go_simp; rfl)); (case hp => exact (Reps.none _ _)); intro v114 w9 ho10 hb hg_ hnew_; clear hg_ hnew_; (first | rw [← Ny113.out] at ho10 | (simp only [Int.reduceToNat] at ho10; rw [← Ny113.out] at ho10)); have n0_ := Z47.k (Kd.R_below Z47.z8 hb); have n1_ := Z47.k (Kd.R_below Z47.z7 hb); have n2_ := Z47.k (Kd.S_lower (Kd.S_new' (Kd.S_new' ho10 (Kd.R_lt Z47.z8)) (Kd.R_lt Z47.z7)) (below_size Z47.z1)); have n3_ := Z47.k (Z47.bb BK101 (by (repeat (first | (with_reducible first | refine blk_drewN ?_ _ | refine blk_drew ?_ | refine blk_alloc ?_ _) | refine blk_far ?_ NB101_112.out _)); exact BK101.out) hb); have n4_ := Z47.k (blk_below (g := gb112) (o := .cells #[.int .i64 t102, .int .i64 t103, .int .i64 t104, .slice Ao8 t105.length co8] 43 (0, 0)) (by (with_reducible repeat (first | refine blk_drewN ?_ _ | refine blk_drew ?_ | refine blk_alloc ?_ _)); refine blk_put (cs := #[.int .i64 t102, .int .i64 t103, .int .i64 t104, .slice none 0 0]) ?_ 3 _ rfl; (with_reducible repeat (first | refine blk_drewN ?_ _ | refine blk_drew ?_ | refine blk_alloc ?_ _)); refine blk_put (cs := #[.int .i64 t102, .int .i64 t103, .int .i64 0, .slice none 0 0]) ?_ 2 _ rfl; (with_reducible repeat (first | refine blk_drewN ?_ _ | refine blk_drew ?_ | refine blk_alloc ?_ _)); refine blk_put (cs := #[.int .i64 t102, .int .i64 0, .int .i64 0, .slice none 0 0]) ?_ 1 _ rfl; (with_reducible repeat (first | refine blk_drewN ?_ _ | refine blk_drew ?_ | refine blk_alloc ?_ _)); refine blk_put (cs := #[.int .i64 0, .int .i64 0, .int .i64 0, .slice none 0 0]) ?_ 0 _ rfl; (with_reducible repeat (first | refine blk_drewN ?_ _ | refine blk_drew ?_ | refine blk_alloc ?_ _)); exact BK112.out) hb); have n5_ := Z47.k (below_step Z47.z1 hb); clear HO107 HO110 BK101 BK112 HB; have HO107 := n0_; have HO110 := n1_; have HO115 := n2_; have BK101 := n3_; have BK112 := n4_; have HB := n5_; clear n0_ n1_ n2_ n3_ n4_ n5_; clear hb ho10))
 go_loopg [6, 7] k (fun kq v6 v7 w' => ∃ (x4_1 : List Int) (x6_1 : List (List Int)) (x7_1 : Int) (x113003_1 : List Int) (u113003 : Value), v7 = .int .i64 x7_1 ∧ Aside0 (spec_l03Kernel.l0 kq x4_1 x6_1 x7_1 a0_0 a0_1 a0_2 l0_3 t102 t103 t104 x113003_1 = some r) ∧ Aside0 (kq ≤ k) ∧ Aside0 (Kd.R (Kd.int .i64) 2 w' w.heap.size (fun k_ => some k_ ≠ (u113003 : Value).ownBlock) v109 x4_1) ∧ Aside0 (Kd.S (Kd.slice 2 (Kd.int .i64)) 38 w' w.heap.size (fun k_ => some k_ ≠ (v109 : Value).ownBlock ∧ some k_ ≠ (u113003 : Value).ownBlock) v6 x6_1) ∧ Aside0 (Kd.R (Kd.int .i64) 2 w' w.heap.size (fun k_ => some k_ ≠ (v109 : Value).ownBlock) u113003 x113003_1) ∧ Aside0 (w'.heap[g0_]? = some (.cells #[.int .i64 a0_0, .int .i64 a0_1, .int .i64 a0_2, (.slice A0_3 l0_3.length c0_3)] 43 (0, 0))) ∧ Aside0 (w'.heap[gb112]? = some (.cells #[.int .i64 t102, .int .i64 t103, .int .i64 t104, u113003] 43 (0, 0))) ∧ Aside0 (Below w.heap.size w w'))
 case atStart => exact ⟨(t108), (y113), (0), (t105), (.slice Ao8 t105.length co8), Z47.z13, H', ⟨Nat.le_refl _⟩, ⟨(by (with_reducible repeat (first | apply Kd.R_alloc | apply Kd.R_drewN | apply Kd.R_drew)); exact HO110.out)⟩, ⟨(by (with_reducible repeat (first | apply Kd.S_alloc | apply Kd.S_drewN | apply Kd.S_drew)); exact Kd.S_mono HO115.out (fun _ hk => ⟨hk.2, hk.1.2⟩))⟩, ⟨(by (with_reducible repeat (first | apply Kd.R_alloc | apply Kd.R_drewN | apply Kd.R_drew)); exact HO107.out)⟩, ⟨Z47.z2⟩, ⟨Z47.z5⟩, ⟨Z47.z1⟩⟩
 case round =>
  clear H'
  try clear p2
  try clear c4
  try clear c6
  try clear hcz7_0
  try clear hcz7_1
  try clear hcz7_2
  try clear hcz7_3
  try clear hfz7_0
  try clear hfz7_1
  try clear hfz7_2
  try clear hfz7_3
  obtain ⟨x4_1, x6_1, x7_1, x113003_1, u113003, rfl, HA, HK1, HO_4, HO_6, HO_113003, BK101, BK112, HB⟩ := hrel
  cases gk with
  | zero => exact absurd HA.out (by simp [spec_l03Kernel.l0])
  | succ k1 =>
   have H := HA.out
   clear HA
   simp only [spec_l03Kernel.l0] at H
   by_cases c11 : x7_1 < a0_2
   ·rw [if_pos c11] at H
    have c11b0 : decide (x7_1 < a0_2) = true := decide_eq_true c11
    clear c11
    replace H := Option.bind_eq_some_iff.mp H
    obtain ⟨t116, A120, H⟩ := H
    replace H : (if t116 = true then (spec_l03Kernel.l0 k1 x4_1 x6_1 (wrap64 (x7_1 + 1)) a0_0 a0_1 a0_2 l0_3 t102 t103 t104 x113003_1) else (if 0 ≤ a0_2 then (if (a0_2 : Int).toNat ≤ 35184372088832 then ((some (List.replicate (a0_2 : Int).toNat 0 : List Int)).bind fun y117 => (if 0 ≤ x7_1 then (if x7_1 < (y117.length : Int) then (spec_l03Kernel.l1 k1 x4_1 x6_1 x7_1 (y117.set (x7_1 : Int).toNat 1) 0 a0_0 a0_1 a0_2 l0_3 t102 t103 t104 x113003_1) else (none)) else (none))) else (none)) else (none))) = some r := H
    have A12 := Z47.k A120
    clear A120
    by_cases c13 : t116 = true
    ·subst c13
     have H1 : (spec_l03Kernel.l0 k1 x4_1 x6_1 (wrap64 (x7_1 + 1)) a0_0 a0_1 a0_2 l0_3 t102 t103 t104 x113003_1) = some r := by rw [if_pos rfl] at H; exact H
     clear H
     have H := H1
     clear H1
     have H' := Z47.k H
     clear H
     have hnb14 := NB101_112.out
     have hnc14 := NB112_101.out
     have hcz15_0 : wr.cell? ⟨g0_, 0, none⟩ = some (.int .i64 a0_0) := (blk_cell BK101.out 0).trans rfl
     have hcz15_1 : wr.cell? ⟨g0_, 1, none⟩ = some (.int .i64 a0_1) := (blk_cell BK101.out 1).trans rfl
     have hcz15_2 : wr.cell? ⟨g0_, 2, none⟩ = some (.int .i64 a0_2) := (blk_cell BK101.out 2).trans rfl
     have hcz15_3 : wr.cell? ⟨g0_, 3, none⟩ = some (.slice A0_3 l0_3.length c0_3) := (blk_cell BK101.out 3).trans rfl
     have hfz15_0 := blk_frozen BK101.out 0
     have hfz15_1 := blk_frozen BK101.out 1
     have hfz15_2 := blk_frozen BK101.out 2
     have hfz15_3 := blk_frozen BK101.out 3
     obtain ⟨Ao16, co16, eo16⟩ := Kd.R_slice HO_4.out
     subst eo16
     go_wp2_with (first | ((with_reducible refine gate_callee (f := 68) rfl ?_); refine goesL_ (some 27) rfl rfl Try.func68 (by kernel_rfl) rfl #[.slice Ao16 x4_1.length co16, .int .i64 x7_1] rfl Z47.z11 ?_; (with_reducible refine (spec_l00Has.calls k1 _ _ x4_1 x7_1 true _ ?side1 ?side2 A12.out).mono ?_); (case side1 => exact Z47.z12); (case side2 => exact (Kd.R_reads' HO_4.out).2.1); rintro e w' ⟨rfl, ⟨nd, rfl⟩⟩; refine ⟨_, rfl, ?_⟩))
     go_roundg k1
     case measure => have := HK1.out; omega
     case rel => exact ⟨(x4_1), (x6_1), (wrap64 (x7_1 + 1)), (x113003_1), (u113003), Z47.z13, H', ⟨(by have := HK1.out; omega)⟩, ⟨Z47.z6⟩, ⟨Z47.z10⟩, ⟨Z47.z4⟩, ⟨Z47.z2⟩, ⟨Z47.z5⟩, ⟨Z47.z1⟩⟩
    replace c13 := Bool.eq_false_iff.mpr c13
    subst c13
    have H1 : (if 0 ≤ a0_2 then (if (a0_2 : Int).toNat ≤ 35184372088832 then ((some (List.replicate (a0_2 : Int).toNat 0 : List Int)).bind fun y117 => (if 0 ≤ x7_1 then (if x7_1 < (y117.length : Int) then (spec_l03Kernel.l1 k1 x4_1 x6_1 x7_1 (y117.set (x7_1 : Int).toNat 1) 0 a0_0 a0_1 a0_2 l0_3 t102 t103 t104 x113003_1) else (none)) else (none))) else (none)) else (none)) = some r := by rw [if_neg (show ¬ (false = true) by decide)] at H; exact H
    clear H
    have H := H1
    clear H1
    by_cases c17 : 0 ≤ a0_2
    ·rw [if_pos c17] at H
     have c17b0 := eq_true c17
     have c17b1 : decide (0 ≤ a0_2) = true := decide_eq_true c17
     clear c17
     by_cases c18 : (a0_2 : Int).toNat ≤ 35184372088832
     ·rw [if_pos c18] at H
      have c18b0 := eq_true c18
      have c18b1 : decide ((a0_2 : Int).toNat ≤ 35184372088832) = true := decide_eq_true c18
      clear c18
      obtain ⟨y117, hy117⟩ : ∃ y_ : List Int, y_ = (List.replicate (a0_2 : Int).toNat 0) := ⟨_, rfl⟩
      replace H : (if 0 ≤ x7_1 then (if x7_1 < (y117.length : Int) then (spec_l03Kernel.l1 k1 x4_1 x6_1 x7_1 (y117.set (x7_1 : Int).toNat 1) 0 a0_0 a0_1 a0_2 l0_3 t102 t103 t104 x113003_1) else (none)) else (none)) = some r := by first | (rw [hy117]; with_reducible exact H) | (have H2_ := (Option.bind_some _ _).symm.trans H; rw [hy117]; with_reducible exact H2_) | (have H2_ := (Option.bind_some _ _).symm.trans H; with_reducible exact H2_) | with_reducible exact H | (rw [hy117]; exact H) | exact H
      have Ny117 := Z47.k hy117
      clear hy117
      by_cases c19 : 0 ≤ x7_1
      ·rw [if_pos c19] at H
       have c19b0 : decide (0 ≤ x7_1) = true := decide_eq_true c19
       clear c19
       by_cases c20 : x7_1 < (y117.length : Int)
       ·rw [if_pos c20] at H
        have c20b0 : decide (x7_1 < (y117.length : Int)) = true := decide_eq_true c20
        clear c20
        obtain ⟨y120, hy120⟩ : ∃ y_ : List Int, y_ = (y117.set (x7_1 : Int).toNat 1) := ⟨_, rfl⟩
        replace H : (spec_l03Kernel.l1 k1 x4_1 x6_1 x7_1 y120 0 a0_0 a0_1 a0_2 l0_3 t102 t103 t104 x113003_1) = some r := by first | (rw [hy120]; with_reducible exact H) | (have H2_ := (Option.bind_some _ _).symm.trans H; rw [hy120]; with_reducible exact H2_) | (have H2_ := (Option.bind_some _ _).symm.trans H; with_reducible exact H2_) | with_reducible exact H | (rw [hy120]; exact H) | exact H
        have Ny120 := Z47.k hy120
        clear hy120
        have H' := Z47.k H
        clear H
        have hnb22 := NB101_112.out
        have hnc22 := NB112_101.out
        have hcz23_0 : wr.cell? ⟨g0_, 0, none⟩ = some (.int .i64 a0_0) := (blk_cell BK101.out 0).trans rfl
        have hcz23_1 : wr.cell? ⟨g0_, 1, none⟩ = some (.int .i64 a0_1) := (blk_cell BK101.out 1).trans rfl
        have hcz23_2 : wr.cell? ⟨g0_, 2, none⟩ = some (.int .i64 a0_2) := (blk_cell BK101.out 2).trans rfl
        have hcz23_3 : wr.cell? ⟨g0_, 3, none⟩ = some (.slice A0_3 l0_3.length c0_3) := (blk_cell BK101.out 3).trans rfl
        have hfz23_0 := blk_frozen BK101.out 0
        have hfz23_1 := blk_frozen BK101.out 1
        have hfz23_2 := blk_frozen BK101.out 2
        have hfz23_3 := blk_frozen BK101.out 3
        obtain ⟨Ao24, co24, eo24⟩ := Kd.R_slice HO_4.out
        subst eo24
        go_wp2_with (first | ((with_reducible refine gate_callee (f := 68) rfl ?_); refine goesL_ (some 27) rfl rfl Try.func68 (by kernel_rfl) rfl #[.slice Ao24 x4_1.length co24, .int .i64 x7_1] rfl Z47.z11 ?_; (with_reducible refine (spec_l00Has.calls k1 _ _ x4_1 x7_1 false _ ?side1 ?side2 A12.out).mono ?_); (case side1 => exact Z47.z12); (case side2 => exact (Kd.R_reads' HO_4.out).2.1); rintro e w' ⟨rfl, ⟨nd, rfl⟩⟩; refine ⟨_, rfl, ?_⟩; (try (rw [drewN_self wr]; generalize hq_ : World.drewN wr _ = wr; have n0_ : Aside0 (Kd.R (Kd.int .i64) 2 wr w.heap.size (fun k_ => some k_ ≠ (.slice Ao24 x4_1.length co24 : Value).ownBlock) u113003 x113003_1) := ⟨(by rw [← hq_]; exact Z47.z4)⟩; have n1_ : Aside0 (Kd.R (Kd.int .i64) 2 wr w.heap.size (fun k_ => some k_ ≠ (u113003 : Value).ownBlock) (.slice Ao24 x4_1.length co24) x4_1) := ⟨(by rw [← hq_]; exact Z47.z6)⟩; have n2_ : Aside0 (Kd.S (Kd.slice 2 (Kd.int .i64)) 38 wr w.heap.size (fun k_ => some k_ ≠ (u113003 : Value).ownBlock ∧ some k_ ≠ (.slice Ao24 x4_1.length co24 : Value).ownBlock) u6 x6_1) := ⟨(by rw [← hq_]; exact (by (with_reducible repeat (first | apply Kd.S_alloc | apply Kd.S_drewN | apply Kd.S_drew)); exact Kd.S_mono HO_6.out (fun _ hk => ⟨hk.2, hk.1⟩)))⟩; have n3_ : Aside0 (wr.heap[g0_]? = some (.cells #[.int .i64 a0_0, .int .i64 a0_1, .int .i64 a0_2, .slice A0_3 l0_3.length c0_3] 43 (0, 0))) := ⟨(by rw [← hq_]; exact Z47.z2)⟩; have n4_ : Aside0 (wr.heap[gb112]? = some (.cells #[.int .i64 t102, .int .i64 t103, .int .i64 t104, u113003] 43 (0, 0))) := ⟨(by rw [← hq_]; exact Z47.z5)⟩; have n5_ : Aside0 (Below w.heap.size w wr) := ⟨(by rw [← hq_]; exact Z47.z1)⟩; clear HO_113003 HO_4 HO_6 BK101 BK112 HB hq_; have HO_113003 := n0_; have HO_4 := n1_; have HO_6 := n2_; have BK101 := n3_; have BK112 := n4_; have HB := n5_; clear n0_ n1_ n2_ n3_ n4_ n5_; have hcz23_0 : wr.cell? ⟨g0_, 0, none⟩ = some (.int .i64 a0_0) := (blk_cell BK101.out 0).trans rfl; have hcz23_1 : wr.cell? ⟨g0_, 1, none⟩ = some (.int .i64 a0_1) := (blk_cell BK101.out 1).trans rfl; have hcz23_2 : wr.cell? ⟨g0_, 2, none⟩ = some (.int .i64 a0_2) := (blk_cell BK101.out 2).trans rfl; have hcz23_3 : wr.cell? ⟨g0_, 3, none⟩ = some (.slice A0_3 l0_3.length c0_3) := (blk_cell BK101.out 3).trans rfl; have hfz23_0 := blk_frozen BK101.out 0; have hfz23_1 := blk_frozen BK101.out 1; have hfz23_2 := blk_frozen BK101.out 2; have hfz23_3 := blk_frozen BK101.out 3))) | ((with_reducible refine gate_dst (N := 32) rfl ?_); refine Kd.R_make (Kd.int .i64) _ 2 rfl (N := 32) rfl 38 _ _ rfl a0_2 rfl rfl Try.underlying38 (.int .i64 0) 8 info2 rfl (by decide) (by omega) 0 (ok := fun _ => True) (okp := fun _ => True) rfl (fun _ hk => hk) trivial (of_decide_eq_true Z47.z9) (Nat.le_trans (Nat.mul_le_mul_right _ (of_decide_eq_true Z47.z9 : a0_2.toNat ≤ 35184372088832)) (by omega)) (Below.refl _ _) (Nat.le_refl _) ?_; intro v118 w25 ho26 hb hg_ hnew_; clear hg_ hnew_; (first | rw [← Ny117.out] at ho26 | (simp only [Int.reduceToNat] at ho26; rw [← Ny117.out] at ho26)); have n0_ := Z47.k (Kd.R_elder' Z47.z6 (Kd.R_base ho26) hb); have n1_ := Z47.k (Kd.S_elder' Z47.z10 (Kd.R_base ho26) hb); have n2_ := Z47.k (Kd.R_elder' Z47.z4 (Kd.R_base ho26) hb); have n3_ := Z47.k (Kd.R_lower (Kd.R_new' (Kd.R_new' ho26 (Kd.R_lt Z47.z6)) (Kd.R_lt Z47.z4)) (below_size Z47.z1)); have n4_ := Z47.k (Z47.bb BK101 Z47.z2 hb); have n5_ := Z47.k (Z47.bb BK112 Z47.z5 hb); have n6_ := Z47.k (below_step Z47.z1 hb); clear HO_4 HO_6 HO_113003 BK101 BK112 HB; have HO_4 := n0_; have HO_6 := n1_; have HO_113003 := n2_; have HO119 := n3_; have BK101 := n4_; have BK112 := n5_; have HB := n6_; clear n0_ n1_ n2_ n3_ n4_ n5_ n6_; clear hb ho26; have p21 : 0 ≤ (x7_1 : Int) := of_decide_eq_true Z47.z9; have q21 : (x7_1 : Int) < ((y117.length : Int) : Int) := of_decide_eq_true Z47.z9; obtain ⟨go21, co21, eo21, gb21, gl21, cl21, HG21⟩ := Kd.R_form HO119.out (by omega); (first | cases eo21 | (injection eo21 with ea_ en_ ec_; (first | subst ea_ | (injection ea_ with ea_; subst ea_)); subst ec_; clear en_)); have GB21 := Z47.k gb21; have GG21 := Z47.k HG21; clear gb21 gl21 HG21; obtain ⟨hx21_0, hf21_0⟩ := Kd.R_celln 0 HO119.out (x7_1 : Int) p21 q21; replace p21 := eq_true p21; replace q21 := eq_true q21; have n_ := Z47.k (Kd.R_mono (ok' := (fun k_ => some k_ ≠ (.slice Ao24 x4_1.length co24 : Value).ownBlock ∧ some k_ ≠ (u113003 : Value).ownBlock)) HO119.out (fun k_ hk => ⟨hk.1.2, hk.2⟩)); clear HO119; have HO119 := n_; clear n_; obtain ⟨hy27_, hz27_⟩ := Kd.R_celln 0 HO119.out (x7_1 : Int) (of_decide_eq_true Z47.z9) (of_decide_eq_true Z47.z9); have HP27 := Kd.R_putg HO119.out (x7_1 : Int) 1) | ((with_reducible refine gate_store (t := 2) (p := 35) rfl ?_); refine store_event (t := 2) (p := 35) (v := ?vo_w28) (w1 := (w25.setCell ⟨go21, (x7_1 : Int).toNat, none⟩ (.int .i64 1))) ?hg ?ho ?hn ?hr ?_; (case ho => rfl); (case hg => rfl); (case hn => rfl); (case hr => first | (go_simp; done) | (go_simp; rfl)); intro w28 hw; have hg : w25.grownBy w28 (some go21) := (by rw [hw]; exact HP27.2); have hp_ : Kd.R (Kd.int .i64) 2 w28 w.heap.size (fun k_ => some k_ ≠ (.slice Ao24 x4_1.length co24 : Value).ownBlock ∧ some k_ ≠ (u113003 : Value).ownBlock) (.slice (some ⟨go21, 0, none⟩) y117.length co21) y120 := (by rw [hw, Ny120.out]; exact HP27.1); clear HP27; have n0_ := Z47.k (Kd.R_after (v := (.slice (some ⟨go21, 0, none⟩) y117.length co21)) (v1 := (.slice (some ⟨go21, 0, none⟩) y117.length co21)) (ok := (fun k_ => some k_ ≠ (u113003 : Value).ownBlock)) Z47.z6 hg (.inl rfl)); have n1_ := Z47.k (Kd.S_after (v := (.slice (some ⟨go21, 0, none⟩) y117.length co21)) (v1 := (.slice (some ⟨go21, 0, none⟩) y117.length co21)) (ok := (fun k_ => some k_ ≠ (.slice Ao24 x4_1.length co24 : Value).ownBlock ∧ some k_ ≠ (u113003 : Value).ownBlock)) (by (with_reducible repeat (first | apply Kd.S_alloc | apply Kd.S_drewN | apply Kd.S_drew)); first | exact HO_6.out | exact Kd.S_mono HO_6.out (fun _ h_ => ⟨⟨h_.1.2, h_.1.1⟩, h_.2⟩)) hg (.inl rfl)); have n2_ := Z47.k (Kd.R_after (v := (.slice (some ⟨go21, 0, none⟩) y117.length co21)) (v1 := (.slice (some ⟨go21, 0, none⟩) y117.length co21)) (ok := (fun k_ => some k_ ≠ (.slice Ao24 x4_1.length co24 : Value).ownBlock)) Z47.z4 hg (.inl rfl)); have n3_ := Z47.k (blk_grown (g := g0_) (o := .cells #[.int .i64 a0_0, .int .i64 a0_1, .int .i64 a0_2, .slice A0_3 l0_3.length c0_3] 43 (0, 0)) Z47.z2 hg (Kd.R_ne HO119.out BK101.out (by decide))); have n4_ := Z47.k (blk_grown (g := gb112) (o := .cells #[.int .i64 t102, .int .i64 t103, .int .i64 t104, u113003] 43 (0, 0)) Z47.z5 hg (Kd.R_ne HO119.out BK112.out (by decide))); have n5_ := Z47.k (hp_); have n6_ := Z47.k ((by rw [hw]; exact below_set (HB.out) GB21.out : Below w.heap.size w w28)); clear HO_4 HO_6 HO_113003 BK101 BK112 HO119 HB; have HO_4 := n0_; have HO_6 := n1_; have HO_113003 := n2_; have BK101 := n3_; have BK112 := n4_; have HO119 := n5_; have HB := n6_; clear n0_ n1_ n2_ n3_ n4_ n5_ n6_; clear hg hw hp_))
        go_loopg [9] k1 (fun kq v9 w' => ∃ (x8_2 : List Int) (x9_2 : Int), v9 = .int .i64 x9_2 ∧ Aside0 (spec_l03Kernel.l1 kq x4_1 x6_1 x7_1 x8_2 x9_2 a0_0 a0_1 a0_2 l0_3 t102 t103 t104 x113003_1 = some r) ∧ Aside0 (kq ≤ k1) ∧ Aside0 (Kd.R (Kd.int .i64) 2 w' w.heap.size (fun k_ => some k_ ≠ ((.slice (some ⟨go21, 0, none⟩) y117.length co21) : Value).ownBlock ∧ some k_ ≠ (u113003 : Value).ownBlock) (.slice Ao24 x4_1.length co24) x4_1) ∧ Aside0 (Kd.S (Kd.slice 2 (Kd.int .i64)) 38 w' w.heap.size (fun k_ => some k_ ≠ ((.slice Ao24 x4_1.length co24) : Value).ownBlock ∧ some k_ ≠ ((.slice (some ⟨go21, 0, none⟩) y117.length co21) : Value).ownBlock ∧ some k_ ≠ (u113003 : Value).ownBlock) u6 x6_1) ∧ Aside0 (Kd.R (Kd.int .i64) 2 w' w.heap.size (fun k_ => some k_ ≠ ((.slice Ao24 x4_1.length co24) : Value).ownBlock ∧ some k_ ≠ (u113003 : Value).ownBlock) (.slice (some ⟨go21, 0, none⟩) y117.length co21) x8_2) ∧ Aside0 (Kd.R (Kd.int .i64) 2 w' w.heap.size (fun k_ => some k_ ≠ ((.slice Ao24 x4_1.length co24) : Value).ownBlock ∧ some k_ ≠ ((.slice (some ⟨go21, 0, none⟩) y117.length co21) : Value).ownBlock) u113003 x113003_1) ∧ Aside0 (w'.heap[g0_]? = some (.cells #[.int .i64 a0_0, .int .i64 a0_1, .int .i64 a0_2, (.slice A0_3 l0_3.length c0_3)] 43 (0, 0))) ∧ Aside0 (w'.heap[gb112]? = some (.cells #[.int .i64 t102, .int .i64 t103, .int .i64 t104, u113003] 43 (0, 0))) ∧ Aside0 (Below w.heap.size w w'))
        case atStart => exact ⟨(y120), (0), Z47.z13, H', ⟨Nat.le_refl _⟩, ⟨(by (with_reducible repeat (first | apply Kd.R_alloc | apply Kd.R_drewN | apply Kd.R_drew)); exact Kd.R_mono HO_4.out (fun _ hk => ⟨hk.2, hk.1⟩))⟩, ⟨(by (with_reducible repeat (first | apply Kd.S_alloc | apply Kd.S_drewN | apply Kd.S_drew)); exact Kd.S_mono HO_6.out (fun _ hk => ⟨hk.1.1, ⟨hk.2, hk.1.2⟩⟩))⟩, ⟨(by (with_reducible repeat (first | apply Kd.R_alloc | apply Kd.R_drewN | apply Kd.R_drew)); exact HO119.out)⟩, ⟨Z47.z4⟩, ⟨Z47.z2⟩, ⟨Z47.z5⟩, ⟨Z47.z1⟩⟩
        case round =>
         clear H'
         try clear c1
         try clear c2
         try clear p2
         try clear q2
         try clear hx2
         try clear hf2
         try clear c4
         try clear c6
         try clear p6
         try clear c11
         try clear c11b0
         try clear c13
         try clear c14
         try clear c17
         try clear c17b0
         try clear c17b1
         try clear c18
         try clear c18b0
         try clear c18b1
         try clear c19
         try clear c19b0
         try clear c20
         try clear c20b0
         try clear p21
         try clear q21
         try clear hx21
         try clear hf21
         try clear c22
         try clear hcz15_0
         try clear hcz15_1
         try clear hcz15_2
         try clear hcz15_3
         try clear hcz23_0
         try clear hcz23_1
         try clear hcz23_2
         try clear hcz23_3
         try clear hcz7_0
         try clear hcz7_1
         try clear hcz7_2
         try clear hcz7_3
         try clear hfz15_0
         try clear hfz15_1
         try clear hfz15_2
         try clear hfz15_3
         try clear hfz23_0
         try clear hfz23_1
         try clear hfz23_2
         try clear hfz23_3
         try clear hfz7_0
         try clear hfz7_1
         try clear hfz7_2
         try clear hfz7_3
         try clear hx21_0
         try clear p2
         try clear p21
         try clear q21
         obtain ⟨x8_2, x9_2, rfl, HA, HK2, HO_4, HO_6, HO_8, HO_113003, BK101, BK112, HB⟩ := hrel
         have hl8_2 := (Kd.R_reads' HO_8.out).1
         rw [hl8_2] at HO_8
         (try simp only [hl8_2])
         (try simp only [hl8_2] at BK101)
         (try simp only [hl8_2] at BK112)
         (try simp only [hl8_2] at HO_4)
         (try simp only [hl8_2] at HO_6)
         (try simp only [hl8_2] at HO_113003)
         cases gk with
         | zero => exact absurd HA.out (by simp [spec_l03Kernel.l1])
         | succ k2 =>
          have H := HA.out
          clear HA
          simp only [spec_l03Kernel.l1] at H
          by_cases c29 : x9_2 < (x4_1.length : Int)
          ·rw [if_pos c29] at H
           have c29b0 : decide (x9_2 < (x4_1.length : Int)) = true := decide_eq_true c29
           clear c29
           by_cases c30 : 0 ≤ x9_2
           ·rw [if_pos c30] at H
            have c30b0 : decide (0 ≤ x9_2) = true := decide_eq_true c30
            clear c30
            obtain ⟨ji31, hji31⟩ : ∃ j_ : Int, (wrap64 ((wrap64 (x9_2 * a0_2)) + x7_1)) = j_ := ⟨_, rfl⟩
            replace H : (if 0 ≤ (ji31) then (if (ji31) < (x113003_1.length : Int) then ((spec_l03Mod.f (wrap64 (-(rd x113003_1 (ji31)))) a0_0).bind fun t123 => (if 0 ≤ (rd x4_1 x9_2) then (if (rd x4_1 x9_2) < (x8_2.length : Int) then (spec_l03Kernel.l1 k2 x4_1 x6_1 x7_1 (x8_2.set ((rd x4_1 x9_2) : Int).toNat t123) (wrap64 (x9_2 + 1)) a0_0 a0_1 a0_2 l0_3 t102 t103 t104 x113003_1) else (none)) else (none))) else (none)) else (none)) = some r := by first | (rw [hji31] at H; exact H) | (simp only [hji31] at H ⊢; exact H)
            have hji31w : (IntKind.i64.wrap ((wrap64 (x9_2 * a0_2)) + x7_1)) = ji31 := (i64_w _).trans hji31
            by_cases c32 : 0 ≤ (ji31)
            ·rw [if_pos c32] at H
             have c32b0 : decide (0 ≤ (ji31)) = true := decide_eq_true c32
             clear c32
             by_cases c33 : (ji31) < (x113003_1.length : Int)
             ·rw [if_pos c33] at H
              have c33b0 : decide ((ji31) < (x113003_1.length : Int)) = true := decide_eq_true c33
              clear c33
              replace H := Option.bind_eq_some_iff.mp H
              obtain ⟨t123, A340, H⟩ := H
              replace H : (if 0 ≤ (rd x4_1 x9_2) then (if (rd x4_1 x9_2) < (x8_2.length : Int) then (spec_l03Kernel.l1 k2 x4_1 x6_1 x7_1 (x8_2.set ((rd x4_1 x9_2) : Int).toNat t123) (wrap64 (x9_2 + 1)) a0_0 a0_1 a0_2 l0_3 t102 t103 t104 x113003_1) else (none)) else (none)) = some r := H
              have A34 := Z47.k A340
              clear A340
              by_cases c35 : 0 ≤ (rd x4_1 x9_2)
              ·rw [if_pos c35] at H
               have c35b0 : decide (0 ≤ (rd x4_1 x9_2)) = true := decide_eq_true c35
               clear c35
               by_cases c36 : (rd x4_1 x9_2) < (x8_2.length : Int)
               ·rw [if_pos c36] at H
                have c36b0 : decide ((rd x4_1 x9_2) < (x8_2.length : Int)) = true := decide_eq_true c36
                clear c36
                obtain ⟨y124, hy124⟩ : ∃ y_ : List Int, y_ = (x8_2.set ((rd x4_1 x9_2) : Int).toNat t123) := ⟨_, rfl⟩
                replace H : (spec_l03Kernel.l1 k2 x4_1 x6_1 x7_1 y124 (wrap64 (x9_2 + 1)) a0_0 a0_1 a0_2 l0_3 t102 t103 t104 x113003_1) = some r := by first | (rw [hy124]; with_reducible exact H) | (have H2_ := (Option.bind_some _ _).symm.trans H; rw [hy124]; with_reducible exact H2_) | (have H2_ := (Option.bind_some _ _).symm.trans H; with_reducible exact H2_) | with_reducible exact H | (rw [hy124]; exact H) | exact H
                have Ny124 := Z47.k hy124
                clear hy124
                have H' := Z47.k H
                clear H
                try go_wp2
                have n0_ := Z47.k (Kd.R_drew HO_4.out)
                have n1_ := Z47.k (Kd.S_drew HO_6.out)
                have n2_ := Z47.k (Kd.R_drew HO_8.out)
                have n3_ := Z47.k (Kd.R_drew HO_113003.out)
                have n4_ := Z47.k (blk_drew BK101.out)
                have n5_ := Z47.k (blk_drew BK112.out)
                have n6_ := Z47.k (below_drew1 HB.out)
                clear HO_4 HO_6 HO_8 HO_113003 BK101 BK112 HB
                have HO_4 := n0_
                have HO_6 := n1_
                have HO_8 := n2_
                have HO_113003 := n3_
                have BK101 := n4_
                have BK112 := n5_
                have HB := n6_
                clear n0_ n1_ n2_ n3_ n4_ n5_ n6_
                have p121 : 0 ≤ (x9_2 : Int) := of_decide_eq_true Z47.z9
                have q121 : x9_2 < (x4_1.length : Int) := of_decide_eq_true Z47.z9
                obtain ⟨ad121, e121, hx121_0⟩ := Kd.at_int (Kd.R_reads' HO_4.out).2.2 x9_2 p121 q121
                cases e121
                replace p121 := eq_true p121
                replace q121 := eq_true q121
                obtain ⟨Ao39, co39, eo39⟩ := Kd.R_slice HO_113003.out
                (first | subst eo39 | (injection eo39 with f1_ f2_ f3_; have f4_ := f1_.symm; have f5_ := f3_.symm; clear f1_ f2_ f3_; subst f4_; subst f5_))
                have p122 : 0 ≤ ((ji31) : Int) := of_decide_eq_true Z47.z9
                have q122 : (ji31) < (x113003_1.length : Int) := of_decide_eq_true Z47.z9
                obtain ⟨ad122, e122, hx122_0⟩ := Kd.at_int (Kd.R_reads' HO_113003.out).2.2 (ji31) p122 q122
                cases e122
                replace p122 := eq_true p122
                replace q122 := eq_true q122
                refine start_ (n := 25) (S := fun w' => w'.cell? ⟨gb112, 0, none⟩ = some (.int .i64 t102) ∧ w'.cell? ⟨gb112, 1, none⟩ = some (.int .i64 t103) ∧ w'.cell? ⟨gb112, 2, none⟩ = some (.int .i64 t104) ∧ w'.cell? ⟨gb112, 3, none⟩ = some (.slice (some ad122) x113003_1.length co39) ∧ w'.cell? ⟨g0_, 0, none⟩ = some (.int .i64 a0_0) ∧ w'.cell? ⟨g0_, 1, none⟩ = some (.int .i64 a0_1) ∧ w'.cell? ⟨g0_, 2, none⟩ = some (.int .i64 a0_2) ∧ w'.cell? ⟨g0_, 3, none⟩ = some (.slice A0_3 l0_3.length c0_3) ∧ w'.cell? (ad121.add (x9_2).toNat) = some (.int .i64 (rd x4_1 x9_2)) ∧ w'.cell? (ad122.add ((ji31)).toNat) = some (.int .i64 (rd x113003_1 (ji31)))) (ds := [24]) #[false, false, false, false, false, false, false, false, false, false, false, false, false, false, false, false, false, false, false, false, false, false, false, false, false] (by kernel_rfl) rfl rfl ⟨(blk_cell BK112.out 0).trans rfl, (blk_cell BK112.out 1).trans rfl, (blk_cell BK112.out 2).trans rfl, (blk_cell BK112.out 3).trans rfl, (blk_cell BK101.out 0).trans rfl, (blk_cell BK101.out 1).trans rfl, (blk_cell BK101.out 2).trans rfl, (blk_cell BK101.out 3).trans rfl, hx121_0, hx122_0⟩ (fun hHeld => ?_); refine with_tabW spec_l03Kernel.tab12 spec_l03Kernel.bits12 (fun HT_ HW_ => ?_)
                generalize wr.drew = w38 at HO_4 HO_6 HO_8 HO_113003 BK101 BK112 HB hx121_0 hx122_0 hHeld ⊢
                refine Z47.pP 0 42 (Z47.b 25 1) (any_of HT_.out (by kernel_rfl)) ?_
                refine Z47.pP 1 43 (Z47.b 25 3) (any_of HT_.out (by kernel_rfl)) ?_
                refine Z47.pP 2 44 (Z47.b 25 7) (any_of HT_.out (by kernel_rfl)) ?_
                refine Z47.pP 3 45 (Z47.b 25 15) (any_of HT_.out (by kernel_rfl)) ?_
                refine Z47.pP 5 47 (Z47.b 25 47) (any_of HT_.out (by kernel_rfl)) ?_
                refine Z47.pP 7 49 (Z47.b 25 175) (any_of HT_.out (by kernel_rfl)) ?_
                refine Z47.pP 8 50 (Z47.b 25 431) (any_of HT_.out (by kernel_rfl)) ?_
                refine Z47.pP 9 51 (Z47.b 25 943) (any_of HT_.out (by kernel_rfl)) ?_
                refine Z47.pP 10 52 (Z47.b 25 1967) (any_of HT_.out (by kernel_rfl)) ?_
                refine Z47.pP 13 55 (Z47.b 25 10159) (any_of HT_.out (by kernel_rfl)) ?_
                refine Z47.pP 18 60 (Z47.b 25 272303) (any_of HT_.out (by kernel_rfl)) ?_
                refine Z47.pP 19 61 (Z47.b 25 796591) (any_of HT_.out (by kernel_rfl)) ?_
                refine Z47.pP 20 62 (Z47.b 25 1845167) (any_of HT_.out (by kernel_rfl)) ?_
                refine Z47.pT10 4 46 (Z47.b 25 1845183) (take_ofW HT_.out HW_.out (by kernel_rfl)) hHeld ?_
                refine Z47.pT10 6 48 (Z47.b 25 1845247) (take_ofW HT_.out HW_.out (by kernel_rfl)) hHeld ?_
                refine Z47.pT10 11 53 (Z47.b 25 1847295) (take_ofW HT_.out HW_.out (by kernel_rfl)) hHeld ?_
                refine Z47.pP 12 54 (Z47.b 25 1851391) (any_of HT_.out (by kernel_rfl)) ?_
                refine Z47.pP 14 56 (Z47.b 25 1867775) (any_of HT_.out (by kernel_rfl)) ?_
                refine Z47.pP 15 57 (Z47.b 25 1900543) (any_of HT_.out (by kernel_rfl)) ?_
                refine Z47.pT10 16 58 (Z47.b 25 1966079) (take_ofW HT_.out HW_.out (by kernel_rfl)) hHeld ?_
                refine Z47.pP 17 59 (Z47.b 25 2097151) (any_of HT_.out (by kernel_rfl)) ?_
                refine Z47.pT10 21 63 (Z47.b 25 4194303) (take_ofW HT_.out HW_.out (by kernel_rfl)) hHeld ?_
                refine one_ (i := 22) (N := some 64) (Z47.b 25 8388607) rfl rfl (one_of HT_.out (by kernel_rfl)) (by decide) (fun K hK => ?_)
                refine goes_ Try.func69 (by kernel_rfl) rfl #[.int .i64 (wrap64 (-(rd x113003_1 (ji31)))), .int .i64 a0_0] (by rfl) rfl rfl (by (try simp only [List.map_toArray, List.map_cons, List.map_nil]); first | done | (simp only [hji31]; rfl) | rfl | (simp only [List.length_drop, List.length_take]; rfl)) ?_
                with_reducible refine (spec_l03Mod.calls (wrap64 (-(rd x113003_1 (ji31)))) a0_0 t123 _ A34.out).mono ?_
                rintro e w' ⟨rfl, ⟨nd, rfl⟩⟩
                refine ⟨_, rfl, ?_⟩
                have p37 : 0 ≤ ((rd x4_1 x9_2) : Int) := of_decide_eq_true Z47.z9
                have q37 : ((rd x4_1 x9_2) : Int) < ((x8_2.length : Int) : Int) := of_decide_eq_true Z47.z9
                obtain ⟨hx37_0, hf37_0⟩ := Kd.R_celln 0 HO_8.out ((rd x4_1 x9_2) : Int) p37 q37
                replace p37 := eq_true p37
                replace q37 := eq_true q37
                have HP40 := Kd.R_putn HO_8.out ((rd x4_1 x9_2) : Int) t123
                rw [← Ny124.out] at HP40
                have HQ40 := Z47.k HP40
                clear HP40
                refine hK.out _ _ ⟨(blk_cell BK112.out 0).trans rfl, (blk_cell BK112.out 1).trans rfl, (blk_cell BK112.out 2).trans rfl, (blk_cell BK112.out 3).trans rfl, (blk_cell BK101.out 0).trans rfl, (blk_cell BK101.out 1).trans rfl, (blk_cell BK101.out 2).trans rfl, (blk_cell BK101.out 3).trans rfl, hHeld.2.2.2.2.2.2.2.2.1, hHeld.2.2.2.2.2.2.2.2.2⟩ (fun hHeld => ?_)
                clear hK K
                refine norm_ (a' := ?_) ?_ ?_
                rotate_left
                ·show Act.put _ (some 64) _ = _
                 simp only [Act.put, List.setIfInBounds_toArray, List.set_cons_zero, List.set_cons_succ, i64_w, i32_w]
                 rfl
                refine Z47.pP 23 65 (Z47.b 25 16777215) (any_of HT_.out (by kernel_rfl)) ?_
                refine last_ (i := 24) (N := none) (Z47.b 25 33554431) rfl rfl (one_of HT_.out (by kernel_rfl)) (by decide) (fun K hK => ?_)
                refine skip_ (w1 := ?_) (by rfl) rfl ?_ ?_
                rotate_left
                ·go_simp
                 rfl
                refine hK.out _ _ ?_
                clear hK K
                refine done_ (done_of HT_.out (by kernel_rfl)) ?_
                try go_wp2
                (try simp only [← hl8_2])
                go_roundg k2
                case measure => have := HK1.out; have := HK2.out; omega
                case rel => exact ⟨(y124), (wrap64 (x9_2 + 1)), Z47.z13, H', ⟨(by have := HK1.out; have := HK2.out; omega)⟩, ⟨(by (try simp only [hl8_2]); (with_reducible repeat (first | apply Kd.R_alloc | apply Kd.R_drewN | apply Kd.R_drew)); exact Kd.R_mono (Kd.R_far (p := ⟨go21, ((rd x4_1 x9_2) : Int).toNat, none⟩) (Kd.R_mono HO_4.out (fun k_ hk => (⟨hk, fun e_ => hk.1 (by rw [e_]; rfl)⟩ : _ ∧ k_ ≠ go21))) (fun _ hk => hk.2) (.int .i64 t123)) (fun _ hk => ⟨hk.1.1, hk.1.2⟩))⟩, ⟨(by (try simp only [hl8_2]); (with_reducible repeat (first | apply Kd.S_alloc | apply Kd.S_drewN | apply Kd.S_drew)); exact Kd.S_mono (Kd.S_far (p := ⟨go21, ((rd x4_1 x9_2) : Int).toNat, none⟩) (Kd.S_mono HO_6.out (fun k_ hk => (⟨hk, fun e_ => hk.2.1 (by rw [e_]; rfl)⟩ : _ ∧ k_ ≠ go21))) (fun _ hk => hk.2) (.int .i64 t123)) (fun _ hk => ⟨hk.1.1, ⟨hk.1.2.1, hk.1.2.2⟩⟩))⟩, ⟨(by (try simp only [hl8_2]); (with_reducible repeat (first | apply Kd.R_alloc | apply Kd.R_drewN | apply Kd.R_drew)); exact HQ40.out)⟩, ⟨(by (try simp only [hl8_2]); (with_reducible repeat (first | apply Kd.R_alloc | apply Kd.R_drewN | apply Kd.R_drew)); exact Kd.R_mono (Kd.R_far (p := ⟨go21, ((rd x4_1 x9_2) : Int).toNat, none⟩) (Kd.R_mono HO_113003.out (fun k_ hk => (⟨hk, fun e_ => hk.2 (by rw [e_]; rfl)⟩ : _ ∧ k_ ≠ go21))) (fun _ hk => hk.2) (.int .i64 t123)) (fun _ hk => ⟨hk.1.1, hk.1.2⟩))⟩, ⟨(by (try simp only [hl8_2]); (with_reducible repeat (first | refine blk_drewN ?_ _ | refine blk_drew ?_ | refine blk_alloc ?_ _)); refine blk_far ?_ (by have h_ := Kd.R_ne HO_8.out BK101.out (by decide); intro e_; exact h_ (by rw [e_]; rfl)) _; (with_reducible repeat (first | refine blk_drewN ?_ _ | refine blk_drew ?_ | refine blk_alloc ?_ _)); exact BK101.out)⟩, ⟨(by (try simp only [hl8_2]); (with_reducible repeat (first | refine blk_drewN ?_ _ | refine blk_drew ?_ | refine blk_alloc ?_ _)); refine blk_far ?_ (by have h_ := Kd.R_ne HO_8.out BK112.out (by decide); intro e_; exact h_ (by rw [e_]; rfl)) _; (with_reducible repeat (first | refine blk_drewN ?_ _ | refine blk_drew ?_ | refine blk_alloc ?_ _)); exact BK112.out)⟩, ⟨(by repeat (first | (with_reducible first | exact HB.out | apply below_alloc | apply pw_below_drewN | apply below_drew1 | refine below_set ?_ GB21.out | refine below_set ?_ GE101.out | refine below_set ?_ GE112.out) | exact HB.out))⟩⟩
               rw [if_neg c36] at H
               exact absurd H (by simp)
              rw [if_neg c35] at H
              exact absurd H (by simp)
             rw [if_neg c33] at H
             exact absurd H (by simp)
            rw [if_neg c32] at H
            exact absurd H (by simp)
           rw [if_neg c30] at H
           exact absurd H (by simp)
          rw [if_neg c29] at H
          have c29b0 : decide (x9_2 < (x4_1.length : Int)) = false := decide_eq_false c29
          clear c29
          by_cases c41 : x6_1.length < 5864062014805
          ·rw [if_pos c41] at H
           have LMc41 := Z47.k c41
           clear c41
           obtain ⟨y125, hy125⟩ : ∃ y_ : List (List Int), y_ = (x6_1 ++ [x8_2]) := ⟨_, rfl⟩
           replace H : (spec_l03Kernel.l0 k2 x4_1 y125 (wrap64 (x7_1 + 1)) a0_0 a0_1 a0_2 l0_3 t102 t103 t104 x113003_1) = some r := by first | (rw [hy125]; with_reducible exact H) | (have H2_ := (Option.bind_some _ _).symm.trans H; rw [hy125]; with_reducible exact H2_) | (have H2_ := (Option.bind_some _ _).symm.trans H; with_reducible exact H2_) | with_reducible exact H | (rw [hy125]; exact H) | exact H
           have Ny125 := Z47.k hy125
           clear hy125
           have H' := Z47.k H
           clear H
           go_wp2_with (first | ((with_reducible refine gate_builtin (b := .append) (xs := #[.tmp 66, .tmp 68]) rfl ?_); at_builtin; refine Kd.S_append (Kd.slice 2 (Kd.int .i64)) (w0 := w) w.heap.size rfl (.tmp 66) (.tmp 68) 22 38 (.slice none 0 0) 24 rfl Try.underlying22 info38 rfl (by decide) (by omega) u6 x6_1 x8_2 [.slice (some ⟨go21, 0, none⟩) x8_2.length co21] (fun k_ => some k_ ≠ (.slice Ao24 x4_1.length co24 : Value).ownBlock ∧ some k_ ≠ (u113003 : Value).ownBlock) (fun k_ => some k_ = (.slice (some ⟨go21, 0, none⟩) x8_2.length co21 : Value).ownBlock) rfl rfl ?aP (fun k_ hk_ => ((Kd.R_mono (ok' := fun k_ => ((fun k_ => some k_ ≠ (.slice Ao24 x4_1.length co24 : Value).ownBlock ∧ some k_ ≠ (u113003 : Value).ownBlock)) k_ ∧ some k_ ≠ (u6 : Value).ownBlock) (Kd.R_apart' (HO_8.out) (Kd.S_typed HO_6.out) (by decide)) (fun k_ hk => ⟨⟨hk.1.1, hk.1.2⟩, hk.2⟩))).1 k_ hk_.symm) ?aF ?aO ?aB ?aS ?aL ?_; (case aP => exact Kd.M_row (Kd.R_mono (Kd.R_tight rfl (Kd.R_mono (ok' := fun k_ => ((fun k_ => some k_ ≠ (.slice Ao24 x4_1.length co24 : Value).ownBlock ∧ some k_ ≠ (u113003 : Value).ownBlock)) k_ ∧ some k_ ≠ (u6 : Value).ownBlock) (Kd.R_apart' (HO_8.out) (Kd.S_typed HO_6.out) (by decide)) (fun k_ hk => ⟨⟨hk.1.1, hk.1.2⟩, hk.2⟩))) (fun _ h_ => h_))); (case aB => exact Z47.z1); (case aF => exact (fun k_ hk => ⟨Kd.fresh' (Kd.R_lt Z47.z6) k_ hk, Kd.fresh' (Kd.R_lt Z47.z4) k_ hk⟩)); (case aO => exact (by (with_reducible repeat (first | apply Kd.S_alloc | apply Kd.S_drewN | apply Kd.S_drew)); exact Kd.S_mono HO_6.out (fun k_ hk => ⟨⟨hk.1, hk.2.2⟩, fun e_ => hk.2.1 e_⟩))); (case aS => exact (below_size Z47.z1)); (case aL => have := LMc41.out; omega); intro v126 w42 ho hb hg hat; rw [← Ny125.out] at ho; have n0_ := Z47.k (Kd.R_over' Z47.z6 (Kd.S_typed Z47.z10) (by decide) hg); have n1_ := Z47.k (Kd.R_over' Z47.z4 (Kd.S_typed Z47.z10) (by decide) hg); have n2_ := Z47.k (blk_grown (g := g0_) (o := .cells #[.int .i64 a0_0, .int .i64 a0_1, .int .i64 a0_2, .slice A0_3 l0_3.length c0_3] 43 (0, 0)) Z47.z2 hg (Kd.S_ne HO_6.out BK101.out (by decide))); have n3_ := Z47.k (blk_grown (g := gb112) (o := .cells #[.int .i64 t102, .int .i64 t103, .int .i64 t104, u113003] 43 (0, 0)) Z47.z5 hg (Kd.S_ne HO_6.out BK112.out (by decide))); have n4_ := Z47.k (hb); have n5_ := Z47.k (ho); clear HO_4 HO_113003 BK101 BK112 HB HO_6 HO_8; have HO_4 := n0_; have HO_113003 := n1_; have BK101 := n2_; have BK112 := n3_; have HB := n4_; have HO127 := n5_; clear n0_ n1_ n2_ n3_ n4_ n5_; clear ho hb hg hat))
           (try simp only [← hl8_2])
           go_roundg k2
           case measure => have := HK1.out; have := HK2.out; omega
           case rel => exact ⟨(x4_1), (y125), (wrap64 (x7_1 + 1)), (x113003_1), (u113003), Z47.z13, H', ⟨(by have := HK1.out; have := HK2.out; omega)⟩, ⟨(by (try simp only [hl8_2]); (with_reducible repeat (first | apply Kd.R_alloc | apply Kd.R_drewN | apply Kd.R_drew)); exact Kd.R_mono HO_4.out (fun _ hk => hk.2))⟩, ⟨(by (try simp only [hl8_2]); (with_reducible repeat (first | apply Kd.S_alloc | apply Kd.S_drewN | apply Kd.S_drew)); exact HO127.out)⟩, ⟨(by (try simp only [hl8_2]); (with_reducible repeat (first | apply Kd.R_alloc | apply Kd.R_drewN | apply Kd.R_drew)); exact Kd.R_mono HO_113003.out (fun _ hk => hk.1))⟩, ⟨(by (try simp only [hl8_2]); (with_reducible repeat (first | refine blk_drewN ?_ _ | refine blk_drew ?_ | refine blk_alloc ?_ _)); exact BK101.out)⟩, ⟨(by (try simp only [hl8_2]); (with_reducible repeat (first | refine blk_drewN ?_ _ | refine blk_drew ?_ | refine blk_alloc ?_ _)); exact BK112.out)⟩, ⟨Z47.z1⟩⟩
          rw [if_neg c41] at H
          exact absurd H (by simp)
       rw [if_neg c20] at H
       exact absurd H (by simp)
      rw [if_neg c19] at H
      exact absurd H (by simp)
     rw [if_neg c18] at H
     exact absurd H (by simp)
    rw [if_neg c17] at H
    exact absurd H (by simp)
   rw [if_neg c11] at H
   have c11b0 : decide (x7_1 < a0_2) = false := decide_eq_false c11
   clear c11
   obtain rfl := Option.some.inj H
   have hnb43 := NB101_112.out
   have hnc43 := NB112_101.out
   have hcz44_0 : wr.cell? ⟨g0_, 0, none⟩ = some (.int .i64 a0_0) := (blk_cell BK101.out 0).trans rfl
   have hcz44_1 : wr.cell? ⟨g0_, 1, none⟩ = some (.int .i64 a0_1) := (blk_cell BK101.out 1).trans rfl
   have hcz44_2 : wr.cell? ⟨g0_, 2, none⟩ = some (.int .i64 a0_2) := (blk_cell BK101.out 2).trans rfl
   have hcz44_3 : wr.cell? ⟨g0_, 3, none⟩ = some (.slice A0_3 l0_3.length c0_3) := (blk_cell BK101.out 3).trans rfl
   have hfz44_0 := blk_frozen BK101.out 0
   have hfz44_1 := blk_frozen BK101.out 1
   have hfz44_2 := blk_frozen BK101.out 2
   have hfz44_3 := blk_frozen BK101.out 3
   go_wp2
   go_ret
   exact ⟨_, (by first | rfl | (simp [errW_none, errW_some] <;> rfl) | (simp [*, errW_none, errW_some] <;> rfl)), (by (with_reducible repeat (first | apply Kd.S_alloc | apply Kd.S_drewN | apply Kd.S_drew)); exact Kd.S_mono HO_6.out (fun _ hk => trivial)), Z47.z1⟩

end Go.Proofs.Ytoibkfdmcajieaa.F
end
