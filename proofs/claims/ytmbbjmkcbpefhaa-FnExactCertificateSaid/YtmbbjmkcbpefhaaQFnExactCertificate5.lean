-- Texts of this claim, merged by packw.py (a program of this session's).
import Derived.Test.YtmbbjmkcbpefhaaQFnExactCertificate2
import Derived.Test.YtmbbjmkcbpefhaaQFnExactCertificate1
import Derived.Test.YtmbbjmkcbpefhaaQFnExactCertificate4

section
namespace Go.Proofs.Ytmbbjmkcbpefhaa.F
open Go.RowKit Go.Proofs.YtmbbjmkcbpefhaaW.PrintWords Go.Proofs.YtmbbjmkcbpefhaaW.PrintLast Go.Proofs.YtmbbjmkcbpefhaaW.PrintMore
attribute [local go_sem] max2_int min2_int max_two min_two max_three min_three max_four min_four   -- for this text's walks alone
set_option linter.unusedVariables false
set_option linter.unusedSimpArgs false
/-! ### spec_l03Mod: function 87 -/
def spec_l03Mod.f (a0 : Int) (a1 : Int) : Option (Int) := if a1 = 0 then (none) else (some (Int.tmod (wrap64 ((Int.tmod a0 a1) + a1)) a1))
set_option maxHeartbeats 8000000 in
set_option maxRecDepth 100000 in
theorem spec_l03Mod.calls (a0 : Int) (a1 : Int) (r : Int) (w : World) (h : spec_l03Mod.f a0 a1 = some r) :
  Calls Try.prog 87 #[.int .i64 a0, .int .i64 a1] w fun e w' => e = .returned (.int .i64 r) ∧ Drawn0 w w' := by
 have H : (if a1 = 0 then (none) else (some (Int.tmod (wrap64 ((Int.tmod a0 a1) + a1)) a1))) = some r := h
 clear h
 by_cases c3 : a1 = 0
 ·rw [if_pos c3] at H
  exact absurd H (by simp)
 rw [if_neg c3] at H
 have c3b0 : (a1 == 0) = false := beq_eq_false_iff_ne.mpr c3
 have c3b1 : (a1 != 0) = true := bne_iff_ne.mpr c3
 obtain rfl := Option.some.inj H
 go_enter Try.func87, Try.ntmps87
 go_wp2
 go_ret
 exact ⟨(by first | rfl | (simp; done) | (simp [*]; done)), (by repeat (first | exact Drawn0.refl _ | apply Drawn0.step))⟩
/-! ### spec_l03Reduced: function 57 -/
mutual
def spec_l03Reduced.l0 : Nat → Int → Int → List Int → Int → Int → Int → Int → Int → Int → List Int → Int → Int → Int → List Int → Option (Int × Int × Int × List Int × List Int × Int)
  | 0, _, _, _, _, _, _, _, _, _, _, _, _, _, _ => none
  | k + 1, x6, x7, x8, x9, x10, x11, x102000, x102001, x102002, x102003, x107000, x107001, x107002, x107003 => if x11 < x7 then (spec_l03Reduced.j1 k x6 x7 x8 x9 x10 x11 (decide (x10 < x102001)) x102000 x102001 x102002 x102003 x107000 x107001 x107002 x107003) else (spec_l03Reduced.j1 k x6 x7 x8 x9 x10 x11 false x102000 x102001 x102002 x102003 x107000 x107001 x107002 x107003)
def spec_l03Reduced.j1 : Nat → Int → Int → List Int → Int → Int → Int → Bool → Int → Int → Int → List Int → Int → Int → Int → List Int → Option (Int × Int × Int × List Int × List Int × Int)
  | 0, _, _, _, _, _, _, _, _, _, _, _, _, _, _, _ => none
  | k + 1, x6, x7, x8, x9, x10, x11, x58, x102000, x102001, x102002, x102003, x107000, x107001, x107002, x107003 => if x58 = true then (spec_l03Reduced.l1 k x6 x7 x8 x9 x10 x11 x10 x102000 x102001 x102002 x102003 x107000 x107001 x107002 x107003) else (some (x107000, x107001, x107002, x107003, x8, x9))
def spec_l03Reduced.j3 : Nat → Int → Int → List Int → Int → Int → Int → Int → Int → Int → Int → List Int → Int → Int → Int → List Int → Option (Int × Int × Int × List Int × List Int × Int)
  | 0, _, _, _, _, _, _, _, _, _, _, _, _, _, _, _ => none
  | k + 1, x6, x7, x8, x9, x10, x11, x12, x102000, x102001, x102002, x102003, x107000, x107001, x107002, x107003 => if x12 = x102001 then (spec_l03Reduced.l0 k x6 x7 x8 x9 x10 (wrap64 (x11 + 1)) x102000 x102001 x102002 x102003 x107000 x107001 x107002 x107003) else (if x12 = x10 then (spec_l03Reduced.j5 k x6 x7 x8 x9 x10 x11 x102000 x102001 x102002 x102003 x107000 x107001 x107002 x107003) else (spec_l03Reduced.l2 k x6 x7 x8 (wrap64 (x6 - x9)) x10 x11 x12 0 x102000 x102001 x102002 x102003 x107000 x107001 x107002 x107003))
def spec_l03Reduced.j5 : Nat → Int → Int → List Int → Int → Int → Int → Int → Int → Int → List Int → Int → Int → Int → List Int → Option (Int × Int × Int × List Int × List Int × Int)
  | 0, _, _, _, _, _, _, _, _, _, _, _, _, _, _ => none
  | k + 1, x6, x7, x8, x9, x10, x11, x102000, x102001, x102002, x102003, x107000, x107001, x107002, x107003 => if 0 ≤ (wrap64 ((wrap64 (x10 * x7)) + x11)) then (if (wrap64 ((wrap64 (x10 * x7)) + x11)) < (x107003.length : Int) then (if x6 = 0 then (none) else ((spec_l03Inverse.f k (rd x107003 (wrap64 ((wrap64 (x10 * x7)) + x11))) x6).bind fun t116 => (spec_l03Reduced.l3 k x6 x7 x8 (Int.tmod (wrap64 (x9 * (rd x107003 (wrap64 ((wrap64 (x10 * x7)) + x11))))) x6) x10 x11 t116 0 x102000 x102001 x102002 x102003 x107000 x107001 x107002 x107003))) else (none)) else (none)
def spec_l03Reduced.l3 : Nat → Int → Int → List Int → Int → Int → Int → Int → Int → Int → Int → Int → List Int → Int → Int → Int → List Int → Option (Int × Int × Int × List Int × List Int × Int)
  | 0, _, _, _, _, _, _, _, _, _, _, _, _, _, _, _, _ => none
  | k + 1, x6, x7, x8, x9, x10, x11, x16, x17, x102000, x102001, x102002, x102003, x107000, x107001, x107002, x107003 => if x17 < x7 then (if 0 ≤ (wrap64 ((wrap64 (x10 * x7)) + x17)) then (if (wrap64 ((wrap64 (x10 * x7)) + x17)) < (x107003.length : Int) then (if x6 = 0 then (none) else (spec_l03Reduced.l3 k x6 x7 x8 x9 x10 x11 x16 (wrap64 (x17 + 1)) x102000 x102001 x102002 x102003 x107000 x107001 x107002 (x107003.set ((wrap64 ((wrap64 (x10 * x7)) + x17)) : Int).toNat (Int.tmod (wrap64 ((rd x107003 (wrap64 ((wrap64 (x10 * x7)) + x17))) * x16)) x6)))) else (none)) else (none)) else (spec_l03Reduced.l4 k x6 x7 x8 x9 x10 x11 0 x102000 x102001 x102002 x102003 x107000 x107001 x107002 x107003)
def spec_l03Reduced.l4 : Nat → Int → Int → List Int → Int → Int → Int → Int → Int → Int → Int → List Int → Int → Int → Int → List Int → Option (Int × Int × Int × List Int × List Int × Int)
  | 0, _, _, _, _, _, _, _, _, _, _, _, _, _, _, _ => none
  | k + 1, x6, x7, x8, x9, x10, x11, x18, x102000, x102001, x102002, x102003, x107000, x107001, x107002, x107003 => if x18 < x102001 then (if 0 ≤ (wrap64 ((wrap64 (x18 * x7)) + x11)) then (if (wrap64 ((wrap64 (x18 * x7)) + x11)) < (x107003.length : Int) then (if x18 = x10 then (spec_l03Reduced.j8 k x6 x7 x8 x9 x10 x11 x18 (rd x107003 (wrap64 ((wrap64 (x18 * x7)) + x11))) true x102000 x102001 x102002 x102003 x107000 x107001 x107002 x107003) else (spec_l03Reduced.j8 k x6 x7 x8 x9 x10 x11 x18 (rd x107003 (wrap64 ((wrap64 (x18 * x7)) + x11))) ((rd x107003 (wrap64 ((wrap64 (x18 * x7)) + x11))) == 0) x102000 x102001 x102002 x102003 x107000 x107001 x107002 x107003)) else (none)) else (none)) else (if x8.length < 17592186044416 then (spec_l03Reduced.l0 k x6 x7 (x8 ++ [x11]) x9 (wrap64 (x10 + 1)) (wrap64 (x11 + 1)) x102000 x102001 x102002 x102003 x107000 x107001 x107002 x107003) else (none))
def spec_l03Reduced.j8 : Nat → Int → Int → List Int → Int → Int → Int → Int → Int → Bool → Int → Int → Int → List Int → Int → Int → Int → List Int → Option (Int × Int × Int × List Int × List Int × Int)
  | 0, _, _, _, _, _, _, _, _, _, _, _, _, _, _, _, _, _ => none
  | k + 1, x6, x7, x8, x9, x10, x11, x18, x19, x200, x102000, x102001, x102002, x102003, x107000, x107001, x107002, x107003 => if x200 = true then (spec_l03Reduced.l4 k x6 x7 x8 x9 x10 x11 (wrap64 (x18 + 1)) x102000 x102001 x102002 x102003 x107000 x107001 x107002 x107003) else (spec_l03Reduced.l5 k x6 x7 x8 x9 x10 x11 x18 x19 0 x102000 x102001 x102002 x102003 x107000 x107001 x107002 x107003)
def spec_l03Reduced.l5 : Nat → Int → Int → List Int → Int → Int → Int → Int → Int → Int → Int → Int → Int → List Int → Int → Int → Int → List Int → Option (Int × Int × Int × List Int × List Int × Int)
  | 0, _, _, _, _, _, _, _, _, _, _, _, _, _, _, _, _, _ => none
  | k + 1, x6, x7, x8, x9, x10, x11, x18, x19, x20, x102000, x102001, x102002, x102003, x107000, x107001, x107002, x107003 => if x20 < x7 then (if 0 ≤ (wrap64 ((wrap64 (x18 * x7)) + x20)) then (if (wrap64 ((wrap64 (x18 * x7)) + x20)) < (x107003.length : Int) then (if 0 ≤ (wrap64 ((wrap64 (x10 * x7)) + x20)) then (if (wrap64 ((wrap64 (x10 * x7)) + x20)) < (x107003.length : Int) then ((spec_l03Mod.f (wrap64 ((rd x107003 (wrap64 ((wrap64 (x18 * x7)) + x20))) - (wrap64 (x19 * (rd x107003 (wrap64 ((wrap64 (x10 * x7)) + x20))))))) x6).bind fun t125 => (spec_l03Reduced.l5 k x6 x7 x8 x9 x10 x11 x18 x19 (wrap64 (x20 + 1)) x102000 x102001 x102002 x102003 x107000 x107001 x107002 (x107003.set ((wrap64 ((wrap64 (x18 * x7)) + x20)) : Int).toNat t125))) else (none)) else (none)) else (none)) else (none)) else (spec_l03Reduced.l4 k x6 x7 x8 x9 x10 x11 (wrap64 (x18 + 1)) x102000 x102001 x102002 x102003 x107000 x107001 x107002 x107003)
def spec_l03Reduced.l2 : Nat → Int → Int → List Int → Int → Int → Int → Int → Int → Int → Int → Int → List Int → Int → Int → Int → List Int → Option (Int × Int × Int × List Int × List Int × Int)
  | 0, _, _, _, _, _, _, _, _, _, _, _, _, _, _, _, _ => none
  | k + 1, x6, x7, x8, x9, x10, x11, x12, x13, x102000, x102001, x102002, x102003, x107000, x107001, x107002, x107003 => if x13 < x7 then (if 0 ≤ (wrap64 ((wrap64 (x12 * x7)) + x13)) then (if (wrap64 ((wrap64 (x12 * x7)) + x13)) < (x107003.length : Int) then (if 0 ≤ (wrap64 ((wrap64 (x10 * x7)) + x13)) then (if (wrap64 ((wrap64 (x10 * x7)) + x13)) < (x107003.length : Int) then (spec_l03Reduced.l2 k x6 x7 x8 x9 x10 x11 x12 (wrap64 (x13 + 1)) x102000 x102001 x102002 x102003 x107000 x107001 x107002 ((x107003.set ((wrap64 ((wrap64 (x12 * x7)) + x13)) : Int).toNat (rd x107003 (wrap64 ((wrap64 (x10 * x7)) + x13)))).set ((wrap64 ((wrap64 (x10 * x7)) + x13)) : Int).toNat (rd x107003 (wrap64 ((wrap64 (x12 * x7)) + x13))))) else (none)) else (none)) else (none)) else (none)) else (spec_l03Reduced.j5 k x6 x7 x8 x9 x10 x11 x102000 x102001 x102002 x102003 x107000 x107001 x107002 x107003)
def spec_l03Reduced.l1 : Nat → Int → Int → List Int → Int → Int → Int → Int → Int → Int → Int → List Int → Int → Int → Int → List Int → Option (Int × Int × Int × List Int × List Int × Int)
  | 0, _, _, _, _, _, _, _, _, _, _, _, _, _, _, _ => none
  | k + 1, x6, x7, x8, x9, x10, x11, x12, x102000, x102001, x102002, x102003, x107000, x107001, x107002, x107003 => if x12 < x102001 then (if 0 ≤ (wrap64 ((wrap64 (x12 * x7)) + x11)) then (if (wrap64 ((wrap64 (x12 * x7)) + x11)) < (x107003.length : Int) then (if (rd x107003 (wrap64 ((wrap64 (x12 * x7)) + x11))) = 0 then (spec_l03Reduced.l1 k x6 x7 x8 x9 x10 x11 (wrap64 (x12 + 1)) x102000 x102001 x102002 x102003 x107000 x107001 x107002 x107003) else (spec_l03Reduced.j3 k x6 x7 x8 x9 x10 x11 x12 x102000 x102001 x102002 x102003 x107000 x107001 x107002 x107003)) else (none)) else (none)) else (spec_l03Reduced.j3 k x6 x7 x8 x9 x10 x11 x12 x102000 x102001 x102002 x102003 x107000 x107001 x107002 x107003)
end
def spec_l03Reduced.f (k : Nat) (a0_0 : Int) (a0_1 : Int) (a0_2 : Int) (l0_3 : List Int) : Option (Int × Int × Int × List Int × List Int × Int) := (spec_l00Own.f l0_3).bind fun t103 => (spec_l03Reduced.l0 k a0_0 a0_2 (([] : List Int)) 1 0 0 a0_0 a0_1 a0_2 l0_3 a0_0 a0_1 a0_2 t103)
def spec_l03Reduced.T1 : Bool × List (List Nat × List Nat) := (true, [([], []), ([0], [0]), ([1], [1]), ([2], [2]), ([], []), ([4], [4]), ([5], [5]), ([6], [6]), ([], []), ([8], [8]), ([9], [9]), ([10], [10]), ([], []), ([12], [12]), ([13], [13]), ([14], [14]), ([15], [15]), ([3, 7, 11, 16], [3, 7, 11, 16]), ([], []), ([18, 17, 16, 0, 1, 2, 3, 4, 5, 6, 7, 8, 9, 10, 11, 12, 13, 14, 15, 16, 17, 18], [17, 18])])
def spec_l03Reduced.B1 : List Nat := [0, 1, 3, 7, 0, 16, 48, 112, 0, 256, 768, 1792, 0, 4096, 12288, 28672, 61440, 131071, 0, 524287]
theorem spec_l03Reduced.tab1 : rtab .any (opsOf Try.f57 1) = spec_l03Reduced.T1 := by kernel_rfl
theorem spec_l03Reduced.bits1 : waitsOk spec_l03Reduced.T1.2 spec_l03Reduced.B1 = true := by kernel_rfl
def spec_l03Reduced.T20 : Bool × List (List Nat × List Nat) := (true, [([], []), ([0], [0]), ([], []), ([], []), ([2, 3], [2, 3]), ([], []), ([4, 5], [4, 5]), ([], []), ([7], [7]), ([], []), ([], []), ([9, 10], [9, 10]), ([], []), ([11, 12], [11, 12]), ([8, 13], [8, 13]), ([14], [14]), ([1, 6, 0, 1, 2, 3, 4, 5, 6, 7, 8, 9, 10, 11, 12, 13, 14, 15], [1, 6]), ([16, 15, 0, 1, 2, 3, 4, 5, 6, 7, 8, 9, 10, 11, 12, 13, 14, 15], [15, 16])])
def spec_l03Reduced.B20 : List Nat := [0, 1, 0, 0, 12, 0, 60, 0, 128, 0, 0, 1536, 0, 7680, 16256, 32640, 65535, 131071]
theorem spec_l03Reduced.tab20 : rtab .any (opsOf Try.f57 20) = spec_l03Reduced.T20 := by kernel_rfl
theorem spec_l03Reduced.bits20 : waitsOk spec_l03Reduced.T20.2 spec_l03Reduced.B20 = true := by kernel_rfl
def spec_l03Reduced.T28 : Bool × List (List Nat × List Nat) := (true, [([], []), ([0], [0]), ([], []), ([], []), ([2, 3], [2, 3]), ([], []), ([4, 5], [4, 5]), ([], []), ([7], [7]), ([], []), ([], []), ([9, 10], [9, 10]), ([], []), ([11, 12], [11, 12]), ([8, 13], [8, 13]), ([14], [14]), ([], []), ([15, 16], [15, 16]), ([], []), ([17, 18], [17, 18]), ([1, 6, 0, 1, 2, 3, 4, 5, 6, 7, 8, 9, 10, 11, 12, 13, 14, 15, 16, 17, 18, 19], [1, 6]), ([20, 19, 0, 1, 2, 3, 4, 5, 6, 7, 8, 9, 10, 11, 12, 13, 14, 15, 16, 17, 18, 19], [19, 20])])
def spec_l03Reduced.B28 : List Nat := [0, 1, 0, 0, 12, 0, 60, 0, 128, 0, 0, 1536, 0, 7680, 16256, 32640, 0, 130944, 0, 524160, 1048575, 2097151]
theorem spec_l03Reduced.tab28 : rtab .any (opsOf Try.f57 28) = spec_l03Reduced.T28 := by kernel_rfl
theorem spec_l03Reduced.bits28 : waitsOk spec_l03Reduced.T28.2 spec_l03Reduced.B28 = true := by kernel_rfl
def spec_l03Reduced.T37 : Bool × List (List Nat × List Nat) := (true, [([], []), ([0], [0]), ([], []), ([], []), ([2, 3], [2, 3]), ([], []), ([4, 5], [4, 5]), ([], []), ([7], [7]), ([], []), ([], []), ([9, 10], [9, 10]), ([], []), ([11, 12], [11, 12]), ([8, 13], [8, 13]), ([14], [14]), ([], []), ([], []), ([17], [17]), ([], []), ([], []), ([19, 20], [19, 20]), ([], []), ([21, 22], [21, 22]), ([18, 23], [18, 23]), ([24], [24]), ([16, 25], [16, 25]), ([15, 26], [15, 26]), ([], []), ([27, 28], [27, 28]), ([1, 6, 0, 1, 2, 3, 4, 5, 6, 7, 8, 9, 10, 11, 12, 13, 14, 15, 16, 17, 18, 19, 20, 21, 22, 23, 24, 25, 26, 27, 28, 29], [1, 6]), ([30, 29, 29, 0, 1, 2, 3, 4, 5, 6, 7, 8, 9, 10, 11, 12, 13, 14, 15, 16, 17, 18, 19, 20, 21, 22, 23, 24, 25, 26, 27, 28, 29], [29, 30])])
def spec_l03Reduced.B37 : List Nat := [0, 1, 0, 0, 12, 0, 60, 0, 128, 0, 0, 1536, 0, 7680, 16256, 32640, 0, 0, 131072, 0, 0, 1572864, 0, 7864320, 16646144, 33423360, 67043328, 134217600, 0, 536870784, 1073741823, 2147483647]
theorem spec_l03Reduced.tab37 : rtab .any (opsOf Try.f57 37) = spec_l03Reduced.T37 := by kernel_rfl
theorem spec_l03Reduced.bits37 : waitsOk spec_l03Reduced.T37.2 spec_l03Reduced.B37 = true := by kernel_rfl
def Z57.b (n x : Nat) : Array Bool := ((List.range n).map (fun i => x.testBit i)).toArray
theorem Z57.pP {P : Program} {ops : Array Oper} {Q : Exit → Act → World → Prop} {md : Region.Mode} {S : World → Prop} {ds : List Nat} (i N : Nat) {oi : Oper} {v : Value} {fuel : Nat} {l : Array Bool} {a : Act} {w : World} (l' : Array Bool) (hc : anyB md ops l l' i = true) {a' : Act} (h : wpAnyLast P md ops Q S ds fuel l' a' w) (hi : ops[i]? = some oi := by rfl) (hN : oi.dst = some N := by rfl) (hQ : ∀ c a w, Q (.panic c) (a.put oi.dst v) w → Q (.panic c) a w := by exact fun _ _ _ h => h) (hy : Yields P ops oi v a := by exact Or.inl ⟨(by rfl), by intro w'; go_simp; with_reducible rfl⟩) (ha : a.put (some N) v = a' := by simp only [Act.put, List.setIfInBounds_toArray, List.set_cons_zero, List.set_cons_succ, i64_w, i32_w]; rfl) : wpAnyLast P md ops Q S ds (fuel + 1) l a w := pure_ l' hi hN hc hQ hy ha h
theorem Z57.pT4 {P : Program} {ops : Array Oper} {Q : Exit → Act → World → Prop} {md : Region.Mode} {S : World → Prop} {ds : List Nat} (i N : Nat) {oi : Oper} {v : Value} {fuel : Nat} {l : Array Bool} {a : Act} {w : World} (l' : Array Bool) (hc : takeB md ops ds l l' i = true) (hS : S w) {a' : Act} (h : wpAnyLast P md ops Q S ds fuel l' a' w) (hi : ops[i]? = some oi := by rfl) (hN : oi.dst = some N := by rfl) (hQ : ∀ c a w, Q (.panic c) (a.put oi.dst v) w → Q (.panic c) a w := by exact fun _ _ _ h => h) (hy : YieldsIf P ops S oi v a := by exact Or.inl ⟨(by rfl), by rintro w' ⟨s0, s1, s2, s3⟩; go_simp; with_reducible rfl⟩) (ha : a.put (some N) v = a' := by simp only [Act.put, List.setIfInBounds_toArray, List.set_cons_zero, List.set_cons_succ, i64_w, i32_w]; rfl) : wpAnyLast P md ops Q S ds (fuel + 1) l a w := take_ l' hi hN hc hQ hy hS ha h
theorem Z57.pT5 {P : Program} {ops : Array Oper} {Q : Exit → Act → World → Prop} {md : Region.Mode} {S : World → Prop} {ds : List Nat} (i N : Nat) {oi : Oper} {v : Value} {fuel : Nat} {l : Array Bool} {a : Act} {w : World} (l' : Array Bool) (hc : takeB md ops ds l l' i = true) (hS : S w) {a' : Act} (h : wpAnyLast P md ops Q S ds fuel l' a' w) (hi : ops[i]? = some oi := by rfl) (hN : oi.dst = some N := by rfl) (hQ : ∀ c a w, Q (.panic c) (a.put oi.dst v) w → Q (.panic c) a w := by exact fun _ _ _ h => h) (hy : YieldsIf P ops S oi v a := by exact Or.inl ⟨(by rfl), by rintro w' ⟨s0, s1, s2, s3, s4⟩; go_simp; with_reducible rfl⟩) (ha : a.put (some N) v = a' := by simp only [Act.put, List.setIfInBounds_toArray, List.set_cons_zero, List.set_cons_succ, i64_w, i32_w]; rfl) : wpAnyLast P md ops Q S ds (fuel + 1) l a w := take_ l' hi hN hc hQ hy hS ha h
theorem Z57.pT6 {P : Program} {ops : Array Oper} {Q : Exit → Act → World → Prop} {md : Region.Mode} {S : World → Prop} {ds : List Nat} (i N : Nat) {oi : Oper} {v : Value} {fuel : Nat} {l : Array Bool} {a : Act} {w : World} (l' : Array Bool) (hc : takeB md ops ds l l' i = true) (hS : S w) {a' : Act} (h : wpAnyLast P md ops Q S ds fuel l' a' w) (hi : ops[i]? = some oi := by rfl) (hN : oi.dst = some N := by rfl) (hQ : ∀ c a w, Q (.panic c) (a.put oi.dst v) w → Q (.panic c) a w := by exact fun _ _ _ h => h) (hy : YieldsIf P ops S oi v a := by exact Or.inl ⟨(by rfl), by rintro w' ⟨s0, s1, s2, s3, s4, s5⟩; go_simp; with_reducible rfl⟩) (ha : a.put (some N) v = a' := by simp only [Act.put, List.setIfInBounds_toArray, List.set_cons_zero, List.set_cons_succ, i64_w, i32_w]; rfl) : wpAnyLast P md ops Q S ds (fuel + 1) l a w := take_ l' hi hN hc hQ hy hS ha h
theorem Z57.bb {w0 w w1 : World} {g : Nat} {o : Obj} (_B : Aside0 (w0.heap[g]? = some o)) (h : w.heap[g]? = some o) (hb : Below w.heap.size w w1) : w1.heap[g]? = some o := blk_below h hb
theorem Z57.bl {w0 w : World} {g : Nat} {o : Obj} (_B : Aside0 (w0.heap[g]? = some o)) (h : w.heap[g]? = some o) : g < w.heap.size := blk_lt h
theorem Z57.k {p : Prop} (h : p) : Aside0 p := ⟨h⟩
theorem Z57.z20 {P : Prop} (h : P := by (try simp only [List.map_toArray, List.map_cons, List.map_nil]); first | done | rfl | (simp only [List.length_drop, List.length_take]; rfl)) : P := h
theorem Z57.z19 {P : Prop} (h : P := by have := HK1.out; have := HJ19.out; have := HJ25.out; have := HJ50.out; have := HK5.out; have := HK6.out; first | omega | exact Nat.le_refl _) : P := h
theorem Z57.z18 {P : Prop} (h : P := by have := HK1.out; have := HJ19.out; have := HJ25.out; have := HJ50.out; have := HK5.out; have := HK6.out; have := HJ96.out; have := HK8.out; omega) : P := h
theorem Z57.z17 {P : Prop} (h : P := by repeat (first | exact (Kd.C_below HR0_3.out HB.out) | (with_reducible refine Kd.C_alloc ?_ _) | (with_reducible refine Kd.C_drewN ?_ _) | (with_reducible refine Kd.C_drew ?_))) : P := h
theorem Z57.z16 {P : Prop} (h : P := by (with_reducible repeat (first | apply Kd.R_alloc | apply Kd.R_drewN | apply Kd.R_drew)); exact HO105.out) : P := h
theorem Z57.z15 {P : Prop} (h : P := by repeat (first | (with_reducible first | exact HB.out | apply below_alloc | apply pw_below_drewN | apply below_drew1 | refine below_set ?_ GE101.out) | exact HB.out)) : P := h
theorem Z57.z14 {P : Prop} (h : P := by (with_reducible repeat (first | apply Kd.R_alloc | apply Kd.R_drewN | apply Kd.R_drew)); exact (Kd.R_mono (Kd.R_far (p := ⟨gb106, 3, none⟩) (Kd.R_far (p := ⟨gb106, 2, none⟩) (Kd.R_far (p := ⟨gb106, 1, none⟩) (Kd.R_far (p := ⟨gb106, 0, none⟩) (Kd.R_types HO105.out BK106.out (by decide)) (fun _ hk => hk.2) (.int .i64 a0_0)) (fun _ hk => hk.2) (.int .i64 a0_1)) (fun _ hk => hk.2) (.int .i64 a0_2)) (fun _ hk => hk.2) (.slice Ao10 t103.length co10)) (fun _ h_ => h_.1))) : P := h
theorem Z57.z13 {P : Prop} (h : P := by exact ⟨(blk_cell BK101.out 0).trans rfl, (blk_cell BK101.out 1).trans rfl, (blk_cell BK101.out 2).trans rfl, (blk_cell BK101.out 3).trans rfl⟩) : P := h
theorem Z57.z12 {P : Prop} (h : P := by (with_reducible repeat (first | refine blk_drewN ?_ _ | refine blk_drew ?_ | refine blk_alloc ?_ _)); refine blk_far ?_ (by have h_ := Kd.R_ne HO_107003.out BK101.out (by decide); intro e_; exact h_ (by rw [e_]; rfl)) _; (with_reducible repeat (first | refine blk_drewN ?_ _ | refine blk_drew ?_ | refine blk_alloc ?_ _)); exact BK101.out) : P := h
theorem Z57.z11 {P : Prop} (h : P := by (with_reducible repeat (first | refine blk_drewN ?_ _ | refine blk_drew ?_ | refine blk_alloc ?_ _)); refine blk_far ?_ (by have h_ := Kd.R_ne HO_107003.out BK102.out (by decide); intro e_; exact h_ (by rw [e_]; rfl)) _; (with_reducible repeat (first | refine blk_drewN ?_ _ | refine blk_drew ?_ | refine blk_alloc ?_ _)); exact BK102.out) : P := h
theorem Z57.z10 {P : Prop} (h : P := by (with_reducible repeat (first | refine blk_drewN ?_ _ | refine blk_drew ?_ | refine blk_alloc ?_ _)); refine blk_far ?_ (by have h_ := Kd.R_ne HO_107003.out BK106.out (by decide); intro e_; exact h_ (by rw [e_]; rfl)) _; (with_reducible repeat (first | refine blk_drewN ?_ _ | refine blk_drew ?_ | refine blk_alloc ?_ _)); exact BK106.out) : P := h
theorem Z57.z9 {P : Prop} (h : P := by first | rfl | (simp; done) | (simp [*]; done)) : P := h
theorem Z57.z8 {P : Prop} (h : P := by first | (with_reducible assumption) | assumption) : P := h
theorem Z57.z7 {P : Prop} (h : P := by repeat (first | (with_reducible first | exact HB.out | apply below_alloc | apply pw_below_drewN | apply below_drew1 | refine below_set ?_ GE101.out | refine below_set ?_ GE102.out) | exact HB.out)) : P := h
theorem Z57.z6 {P : Prop} (h : P := by (with_reducible repeat (first | apply Kd.R_alloc | apply Kd.R_drewN | apply Kd.R_drew)); exact HO_8.out) : P := h
theorem Z57.z5 {P : Prop} (h : P := by (with_reducible repeat (first | apply Kd.R_alloc | apply Kd.R_drewN | apply Kd.R_drew)); exact HO_107003.out) : P := h
theorem Z57.z4 {P : Prop} (h : P := by (with_reducible repeat (first | refine blk_drewN ?_ _ | refine blk_drew ?_ | refine blk_alloc ?_ _)); exact BK106.out) : P := h
theorem Z57.z3 {P : Prop} (h : P := by (with_reducible repeat (first | refine blk_drewN ?_ _ | refine blk_drew ?_ | refine blk_alloc ?_ _)); exact BK102.out) : P := h
theorem Z57.z2 {P : Prop} (h : P := by (with_reducible repeat (first | refine blk_drewN ?_ _ | refine blk_drew ?_ | refine blk_alloc ?_ _)); exact BK101.out) : P := h
theorem Z57.z1 {P : Prop} (h : P := by repeat (first | (with_reducible first | exact HB.out | apply below_alloc | apply pw_below_drewN | apply below_drew1 | refine below_set ?_ GE101.out | refine below_set ?_ GE102.out | refine below_set ?_ GE106.out) | exact HB.out)) : P := h
theorem Z57.z0 {P : Prop} (h : P := by simp only [Act.put, List.setIfInBounds_toArray, List.set_cons_zero, List.set_cons_succ, i64_w, i32_w]; rfl) : P := h
set_option maxHeartbeats 8000000 in
set_option maxRecDepth 100000 in
theorem spec_l03Reduced.calls (k : Nat) (a0_0 : Int) (a0_1 : Int) (a0_2 : Int) (A0_3 : Option Addr) (c0_3 : Nat) (l0_3 : List Int) (r1 : Int) (r2 : Int) (r3 : Int) (r4 : List Int) (r5 : List Int) (r6 : Int) (w : World) (hr0_3 : Kd.C (Kd.int .i64) w A0_3 l0_3.length l0_3) (hc0_3 : l0_3.length ≤ c0_3) {g0_ : Nat} (hbk0_ : w.heap[g0_]? = some (.cells #[.int .i64 a0_0, .int .i64 a0_1, .int .i64 a0_2, .slice A0_3 l0_3.length c0_3] 28 (0, 0))) (h : spec_l03Reduced.f k a0_0 a0_1 a0_2 l0_3 = some (r1, r2, r3, r4, r5, r6)) :
  Calls Try.prog 57 #[.pointer (some ⟨g0_, 0, none⟩)] w fun e w' => ∃ v3_ v4_ : Value, e = .returned (.tuple #[.agg #[.int .i64 r1, .int .i64 r2, .int .i64 r3, v3_], v4_, .int .i64 r6]) ∧ Kd.R (Kd.int .i64) 2 w' w.heap.size (fun k_ => some k_ ≠ (v4_ : Value).ownBlock) v3_ r4 ∧ Kd.R (Kd.int .i64) 2 w' w.heap.size (fun k_ => some k_ ≠ (v3_ : Value).ownBlock) v4_ r5 ∧ Below w.heap.size w w' := by
 have hu28 := Try.underlying28
 have HR0_3 := Z57.k hr0_3
 have HC0_3 := Z57.k hc0_3
 clear hr0_3 hc0_3
 have HB := Z57.k (Below.refl w.heap.size w)
 have H : ((spec_l00Own.f l0_3).bind fun t103 => (spec_l03Reduced.l0 k a0_0 a0_2 (([] : List Int)) 1 0 0 a0_0 a0_1 a0_2 l0_3 a0_0 a0_1 a0_2 t103)) = some (r1, r2, r3, r4, r5, r6) := h
 clear h
 replace H := Option.bind_eq_some_iff.mp H
 obtain ⟨t103, A20, H⟩ := H
 replace H : (spec_l03Reduced.l0 k a0_0 a0_2 (([] : List Int)) 1 0 0 a0_0 a0_1 a0_2 l0_3 a0_0 a0_1 a0_2 t103) = some (r1, r2, r3, r4, r5, r6) := H
 have A2 := Z57.k A20
 clear A20
 obtain ⟨y107, hy107⟩ : ∃ y_ : List Int, y_ = (([] : List Int)) := ⟨_, rfl⟩
 replace H : (spec_l03Reduced.l0 k a0_0 a0_2 y107 1 0 0 a0_0 a0_1 a0_2 l0_3 a0_0 a0_1 a0_2 t103) = some (r1, r2, r3, r4, r5, r6) := by first | (rw [hy107]; with_reducible exact H) | (have H2_ := (Option.bind_some _ _).symm.trans H; rw [hy107]; with_reducible exact H2_) | (have H2_ := (Option.bind_some _ _).symm.trans H; with_reducible exact H2_) | with_reducible exact H | (rw [hy107]; exact H) | exact H
 have Ny107 := Z57.k hy107
 clear hy107
 have H' := Z57.k H
 clear H
 go_enter Try.func57, Try.ntmps57
 have BK101 := Z57.k hbk0_
 try go_wp2_with (first | ((with_reducible refine gate_dst (N := 2) rfl ?_); refine box_event ?hg (N := 2) ?hd (cs := #[.int .i64 0, .int .i64 0, .int .i64 0, .slice none 0 0]) (t := 28) ?hr ?_; (case hd => rfl); (case hg => rfl); (case hr => first | (go_simp; done) | (go_simp; rfl)); intro gb102 hg w4 hbox hb; have BK102 := Z57.k (hbox); have GW102 := Z57.k (show w.heap.size ≤ gb102 from (by rw [hg]; exact (below_size Z57.z15))); have GE102 := Z57.k (show w.heap.size ≤ gb102 from (by rw [hg]; exact (below_size Z57.z15))); have NB101_102 := Z57.k (show g0_ ≠ gb102 from (by rw [hg]; exact Nat.ne_of_lt (Z57.bl BK101 Z57.z2))); have NB102_101 := Z57.k (show gb102 ≠ g0_ from (by rw [hg]; exact Nat.ne_of_gt (Z57.bl BK101 Z57.z2))); replace BK101 := Z57.k (Z57.bb BK101 Z57.z2 hb); replace HB := Z57.k (below_step Z57.z15 hb); clear hb hbox hg))
 replace BK101 := Z57.k (blk_drew BK101.out)
 replace BK102 := Z57.k (blk_drew BK102.out)
 replace HB := Z57.k (below_drew1 HB.out)
 refine start_ (n := 20) (S := fun w' => w'.cell? ⟨g0_, 0, none⟩ = some (.int .i64 a0_0) ∧ w'.cell? ⟨g0_, 1, none⟩ = some (.int .i64 a0_1) ∧ w'.cell? ⟨g0_, 2, none⟩ = some (.int .i64 a0_2) ∧ w'.cell? ⟨g0_, 3, none⟩ = some (.slice A0_3 l0_3.length c0_3)) (ds := []) #[false, false, false, false, false, false, false, false, false, false, false, false, false, false, false, false, false, false, false, false] (by kernel_rfl) rfl rfl Z57.z13 (fun hHeld => ?_); refine with_tabW spec_l03Reduced.tab1 spec_l03Reduced.bits1 (fun HT_ HW_ => ?_)
 generalize w4.drew = w5 at BK101 BK102 HB hHeld ⊢
 refine Z57.pP 0 21 (Z57.b 20 1) (any_of HT_.out (by kernel_rfl)) ?_
 refine Z57.pP 1 22 (Z57.b 20 3) (any_of HT_.out (by kernel_rfl)) ?_
 refine Z57.pP 2 23 (Z57.b 20 7) (any_of HT_.out (by kernel_rfl)) ?_
 refine Z57.pP 4 25 (Z57.b 20 23) (any_of HT_.out (by kernel_rfl)) ?_
 refine Z57.pP 5 26 (Z57.b 20 55) (any_of HT_.out (by kernel_rfl)) ?_
 refine Z57.pP 6 27 (Z57.b 20 119) (any_of HT_.out (by kernel_rfl)) ?_
 refine Z57.pP 8 29 (Z57.b 20 375) (any_of HT_.out (by kernel_rfl)) ?_
 refine Z57.pP 9 30 (Z57.b 20 887) (any_of HT_.out (by kernel_rfl)) ?_
 refine Z57.pP 10 31 (Z57.b 20 1911) (any_of HT_.out (by kernel_rfl)) ?_
 refine Z57.pP 12 33 (Z57.b 20 6007) (any_of HT_.out (by kernel_rfl)) ?_
 refine Z57.pP 13 34 (Z57.b 20 14199) (any_of HT_.out (by kernel_rfl)) ?_
 refine Z57.pP 14 35 (Z57.b 20 30583) (any_of HT_.out (by kernel_rfl)) ?_
 refine Z57.pT4 3 24 (Z57.b 20 30591) (take_ofW HT_.out HW_.out (by kernel_rfl)) hHeld ?_
 refine Z57.pT4 7 28 (Z57.b 20 30719) (take_ofW HT_.out HW_.out (by kernel_rfl)) hHeld ?_
 refine Z57.pT4 11 32 (Z57.b 20 32767) (take_ofW HT_.out HW_.out (by kernel_rfl)) hHeld ?_
 refine Z57.pT4 15 36 (Z57.b 20 65535) (take_ofW HT_.out HW_.out (by kernel_rfl)) hHeld ?_
 refine join_ (σ := Value × Nat) 1 (Z57.b 20 524287) (fun s_ => [(37, s_.1), (5, .pointer (some ⟨s_.2, 0, none⟩)), (38, .agg #[.int .i64 a0_0, .int .i64 a0_1, .int .i64 a0_2, s_.1])]) (fun s_ w' => (w'.cell? ⟨g0_, 0, none⟩ = some (.int .i64 a0_0) ∧ w'.cell? ⟨g0_, 1, none⟩ = some (.int .i64 a0_1) ∧ w'.cell? ⟨g0_, 2, none⟩ = some (.int .i64 a0_2) ∧ w'.cell? ⟨g0_, 3, none⟩ = some (.slice A0_3 l0_3.length c0_3)) ∧ (Kd.R (Kd.int .i64) 2 w' w.heap.size (fun _ => True) s_.1 t103) ∧ (w'.heap[g0_]? = some (.cells #[.int .i64 a0_0, .int .i64 a0_1, .int .i64 a0_2, .slice A0_3 l0_3.length c0_3] 28 (0, 0))) ∧ (w'.heap[gb102]? = some (.cells #[.int .i64 0, .int .i64 0, .int .i64 0, .slice none 0 0] 28 (0, 0))) ∧ (w'.heap[s_.2]? = some (.cells #[.int .i64 0, .int .i64 0, .int .i64 0, .slice none 0 0] 28 (0, 0))) ∧ (w.heap.size ≤ s_.2) ∧ (w.heap.size ≤ s_.2) ∧ (g0_ ≠ s_.2) ∧ (s_.2 ≠ g0_) ∧ (gb102 ≠ s_.2) ∧ (s_.2 ≠ gb102) ∧ (Below w.heap.size w w')) ?_ ?_
 rotate_left
 ·as_aux_lemma =>
   intro hCont
   refine two_ (i := 16) (j := 18) (Ni := some 37) (Nj := some 5) (Z57.b 20 131071) (Z57.b 20 327679) rfl rfl rfl rfl (two_of HT_.out (by kernel_rfl)) (by decide) (by decide) (fun K hK => ?_) (fun K hK => ?_)
   ·skip
    refine goes_ Try.func34 (by kernel_rfl) rfl #[.slice A0_3 l0_3.length c0_3] (by rfl) rfl rfl Z57.z20 ?_
    with_reducible refine (spec_l00Own.calls _ _ l0_3 t103 _ ?side1 ?side2 A2.out).mono ?_
    (case side1 => exact Z57.z17)
    (case side2 => exact HC0_3.out)
    rintro e w6 ⟨v104, rfl, ho0, hb⟩
    refine ⟨_, rfl, ?_⟩
    have HO105 := Z57.k (Kd.R_lower ho0 (below_size Z57.z7))
    replace BK101 := Z57.k (Z57.bb BK101 Z57.z2 hb)
    replace BK102 := Z57.k (Z57.bb BK102 Z57.z3 hb)
    replace HB := Z57.k (below_step Z57.z7 hb)
    (try clear hb)
    (try clear hb2)
    (try clear hk)
    (try clear hi)
    (try clear ho0)
    obtain ⟨Ao7, co7, eo7⟩ := Kd.R_slice HO105.out
    (first | subst eo7 | (injection eo7 with f1_ f2_ f3_; have f4_ := f1_.symm; have f5_ := f3_.symm; clear f1_ f2_ f3_; subst f4_; subst f5_))
    refine hK.out _ _ Z57.z13 (fun hHeld => ?_)
    clear hK K
    refine norm_ (a' := ?_) ?_ ?_
    rotate_left
    ·show Act.put _ (some 37) _ = _
     simp only [Act.put, List.setIfInBounds_toArray, List.set_cons_zero, List.set_cons_succ, i64_w, i32_w]
     rfl
    refine Z57.pP 17 38 (Z57.b 20 262143) (any_of HT_.out (by kernel_rfl)) ?_
    refine one_ (i := 18) (N := some 5) (Z57.b 20 524287) rfl rfl (one_of HT_.out (by kernel_rfl)) (by decide) (fun K hK => ?_)
    refine box_step ?hg (N := 5) ?hd (cs := #[.int .i64 0, .int .i64 0, .int .i64 0, .slice none 0 0]) (t := 28) ?hr ?_; (case hd => rfl); (case hg => rfl); (case hr => first | (go_simp; done) | (go_simp; rfl))
    intro gb106 hg w8 hbox hb
    have n0_ := Z57.k (Kd.R_below Z57.z16 hb)
    have n1_ := Z57.k (Z57.bb BK101 Z57.z2 hb)
    have n2_ := Z57.k (Z57.bb BK102 Z57.z3 hb)
    have n3_ := Z57.k (below_step Z57.z7 hb)
    have n4_ := Z57.k (hbox)
    have n5_ := Z57.k (show w.heap.size ≤ gb106 from (by rw [hg]; exact (below_size Z57.z7)))
    have n6_ := Z57.k (show w.heap.size ≤ gb106 from (by rw [hg]; exact (below_size Z57.z7)))
    have n7_ := Z57.k (show g0_ ≠ gb106 from (by rw [hg]; exact Nat.ne_of_lt (Z57.bl BK101 Z57.z2)))
    have n8_ := Z57.k (show gb106 ≠ g0_ from (by rw [hg]; exact Nat.ne_of_gt (Z57.bl BK101 Z57.z2)))
    have n9_ := Z57.k (show gb102 ≠ gb106 from (by rw [hg]; exact Nat.ne_of_lt (Z57.bl BK102 Z57.z3)))
    have n10_ := Z57.k (show gb106 ≠ gb102 from (by rw [hg]; exact Nat.ne_of_gt (Z57.bl BK102 Z57.z3)))
    clear HO105 BK101 BK102 HB
    have HO105 := n0_
    have BK101 := n1_
    have BK102 := n2_
    have HB := n3_
    have BK106 := n4_
    have GW106 := n5_
    have GE106 := n6_
    have NB101_106 := n7_
    have NB106_101 := n8_
    have NB102_106 := n9_
    have NB106_102 := n10_
    clear n0_ n1_ n2_ n3_ n4_ n5_ n6_ n7_ n8_ n9_ n10_ hb hbox hg
    refine hK.out _ _ Z57.z13 (fun hHeld => ?_)
    clear hK K
    refine norm_ (a' := ?_) ?_ ?_
    rotate_left
    ·show Act.put _ (some 5) _ = _
     simp only [Act.put, List.setIfInBounds_toArray, List.set_cons_zero, List.set_cons_succ, i64_w, i32_w]
     rfl
    exact norm_ (by simp only [putAll, Act.put, List.setIfInBounds_toArray, List.set_cons_zero, List.set_cons_succ]) (hCont (.slice Ao7 t103.length co7, gb106) _ ⟨hHeld, Z57.z16, Z57.z2, Z57.z3, Z57.z4, GW106.out, GE106.out, NB101_106.out, NB106_101.out, NB102_106.out, NB106_102.out, Z57.z1⟩)
   skip
   refine box_step ?hg (N := 5) ?hd (cs := #[.int .i64 0, .int .i64 0, .int .i64 0, .slice none 0 0]) (t := 28) ?hr ?_; (case hd => rfl); (case hg => rfl); (case hr => first | (go_simp; done) | (go_simp; rfl))
   intro gb106 hg w6 hbox hb
   have n0_ := Z57.k (Z57.bb BK101 Z57.z2 hb)
   have n1_ := Z57.k (Z57.bb BK102 Z57.z3 hb)
   have n2_ := Z57.k (below_step Z57.z7 hb)
   have n3_ := Z57.k (hbox)
   have n4_ := Z57.k (show w.heap.size ≤ gb106 from (by rw [hg]; exact (below_size Z57.z7)))
   have n5_ := Z57.k (show w.heap.size ≤ gb106 from (by rw [hg]; exact (below_size Z57.z7)))
   have n6_ := Z57.k (show g0_ ≠ gb106 from (by rw [hg]; exact Nat.ne_of_lt (Z57.bl BK101 Z57.z2)))
   have n7_ := Z57.k (show gb106 ≠ g0_ from (by rw [hg]; exact Nat.ne_of_gt (Z57.bl BK101 Z57.z2)))
   have n8_ := Z57.k (show gb102 ≠ gb106 from (by rw [hg]; exact Nat.ne_of_lt (Z57.bl BK102 Z57.z3)))
   have n9_ := Z57.k (show gb106 ≠ gb102 from (by rw [hg]; exact Nat.ne_of_gt (Z57.bl BK102 Z57.z3)))
   clear BK101 BK102 HB
   have BK101 := n0_
   have BK102 := n1_
   have HB := n2_
   have BK106 := n3_
   have GW106 := n4_
   have GE106 := n5_
   have NB101_106 := n6_
   have NB106_101 := n7_
   have NB102_106 := n8_
   have NB106_102 := n9_
   clear n0_ n1_ n2_ n3_ n4_ n5_ n6_ n7_ n8_ n9_ hb hbox hg
   refine hK.out _ _ Z57.z13 (fun hHeld => ?_)
   clear hK K
   refine norm_ (a' := ?_) ?_ ?_
   rotate_left
   ·show Act.put _ (some 5) _ = _
    simp only [Act.put, List.setIfInBounds_toArray, List.set_cons_zero, List.set_cons_succ, i64_w, i32_w]
    rfl
   refine one_ (i := 16) (N := some 37) (Z57.b 20 393215) rfl rfl (one_of HT_.out (by kernel_rfl)) (by decide) (fun K hK => ?_)
   refine goes_ Try.func34 (by kernel_rfl) rfl #[.slice A0_3 l0_3.length c0_3] (by rfl) rfl rfl Z57.z20 ?_
   with_reducible refine (spec_l00Own.calls _ _ l0_3 t103 _ ?side1 ?side2 A2.out).mono ?_
   (case side1 => exact Z57.z17)
   (case side2 => exact HC0_3.out)
   rintro e w7 ⟨v104, rfl, ho0, hb⟩
   refine ⟨_, rfl, ?_⟩
   have HO105 := Z57.k (Kd.R_lower ho0 (below_size Z57.z1))
   replace BK101 := Z57.k (Z57.bb BK101 Z57.z2 hb)
   replace BK102 := Z57.k (Z57.bb BK102 Z57.z3 hb)
   replace BK106 := Z57.k (Z57.bb BK106 Z57.z4 hb)
   replace HB := Z57.k (below_step Z57.z1 hb)
   (try clear hb)
   (try clear hb2)
   (try clear hk)
   (try clear hi)
   (try clear ho0)
   obtain ⟨Ao8, co8, eo8⟩ := Kd.R_slice HO105.out
   (first | subst eo8 | (injection eo8 with f1_ f2_ f3_; have f4_ := f1_.symm; have f5_ := f3_.symm; clear f1_ f2_ f3_; subst f4_; subst f5_))
   refine hK.out _ _ Z57.z13 (fun hHeld => ?_)
   clear hK K
   refine norm_ (a' := ?_) ?_ ?_
   rotate_left
   ·show Act.put _ (some 37) _ = _
    simp only [Act.put, List.setIfInBounds_toArray, List.set_cons_zero, List.set_cons_succ, i64_w, i32_w]
    rfl
   refine Z57.pP 17 38 (Z57.b 20 524287) (any_of HT_.out (by kernel_rfl)) ?_
   exact norm_ (by simp only [putAll, Act.put, List.setIfInBounds_toArray, List.set_cons_zero, List.set_cons_succ]) (hCont (.slice Ao8 t103.length co8, gb106) _ ⟨hHeld, Z57.z16, Z57.z2, Z57.z3, Z57.z4, GW106.out, GE106.out, NB101_106.out, NB106_101.out, NB102_106.out, NB106_102.out, Z57.z1⟩)
 rintro ⟨v104, gb106⟩ w9 ⟨hS_, h0_, h1_, h2_, h3_, h4_, h5_, h6_, h7_, h8_, h9_, h10_⟩
 have n0_ : Aside0 (Kd.R (Kd.int .i64) 2 w9 w.heap.size (fun _ => True) v104 t103) := ⟨h0_⟩
 have n1_ : Aside0 (w9.heap[g0_]? = some (.cells #[.int .i64 a0_0, .int .i64 a0_1, .int .i64 a0_2, .slice A0_3 l0_3.length c0_3] 28 (0, 0))) := ⟨h1_⟩
 have n2_ : Aside0 (w9.heap[gb102]? = some (.cells #[.int .i64 0, .int .i64 0, .int .i64 0, .slice none 0 0] 28 (0, 0))) := ⟨h2_⟩
 have n3_ : Aside0 (w9.heap[gb106]? = some (.cells #[.int .i64 0, .int .i64 0, .int .i64 0, .slice none 0 0] 28 (0, 0))) := ⟨h3_⟩
 have n4_ : Aside0 (w.heap.size ≤ gb106) := ⟨h4_⟩
 have n5_ : Aside0 (w.heap.size ≤ gb106) := ⟨h5_⟩
 have n6_ : Aside0 (g0_ ≠ gb106) := ⟨h6_⟩
 have n7_ : Aside0 (gb106 ≠ g0_) := ⟨h7_⟩
 have n8_ : Aside0 (gb102 ≠ gb106) := ⟨h8_⟩
 have n9_ : Aside0 (gb106 ≠ gb102) := ⟨h9_⟩
 have n10_ : Aside0 (Below w.heap.size w w9) := ⟨h10_⟩
 clear BK101 BK102 HB h0_ h1_ h2_ h3_ h4_ h5_ h6_ h7_ h8_ h9_ h10_
 have HO105 := n0_
 have BK101 := n1_
 have BK102 := n2_
 have BK106 := n3_
 have GW106 := n4_
 have GE106 := n5_
 have NB101_106 := n6_
 have NB106_101 := n7_
 have NB102_106 := n8_
 have NB106_102 := n9_
 have HB := n10_
 clear n0_ n1_ n2_ n3_ n4_ n5_ n6_ n7_ n8_ n9_ n10_
 have hHeld : w9.cell? ⟨g0_, 0, none⟩ = some (.int .i64 a0_0) ∧ w9.cell? ⟨g0_, 1, none⟩ = some (.int .i64 a0_1) ∧ w9.cell? ⟨g0_, 2, none⟩ = some (.int .i64 a0_2) ∧ w9.cell? ⟨g0_, 3, none⟩ = some (.slice A0_3 l0_3.length c0_3) := hS_
 obtain ⟨Ao10, co10, eo10⟩ := Kd.R_slice HO105.out
 (first | subst eo10 | (injection eo10 with f1_ f2_ f3_; have f4_ := f1_.symm; have f5_ := f3_.symm; clear f1_ f2_ f3_; subst f4_; subst f5_))
 refine norm_ (a' := ?_) ?_ ?_
 rotate_left
 ·simp only [putAll, Act.put, List.setIfInBounds_toArray, List.set_cons_zero, List.set_cons_succ]
  rfl
 refine one_ (i := 19) (N := none) (Z57.b 20 1048575) rfl rfl (one_of HT_.out (by kernel_rfl)) (by decide) (fun K hK => ?_)
 have hs11 : w9.cell? ⟨gb106, 0, none⟩ = some (.int .i64 0) := (blk_cell BK106.out 0).trans rfl
 have hfs11 := blk_frozen BK106.out 0
 have hns11_0 := NB101_106.out
 have hns11_1 := NB102_106.out
 have hms11_0 := NB106_101.out
 have hms11_1 := NB106_102.out
 have hs12 : w9.cell? ⟨gb106, 1, none⟩ = some (.int .i64 0) := (blk_cell BK106.out 1).trans rfl
 have hfs12 := blk_frozen BK106.out 1
 have hns12_0 := NB101_106.out
 have hns12_1 := NB102_106.out
 have hms12_0 := NB106_101.out
 have hms12_1 := NB106_102.out
 have hs13 : w9.cell? ⟨gb106, 2, none⟩ = some (.int .i64 0) := (blk_cell BK106.out 2).trans rfl
 have hfs13 := blk_frozen BK106.out 2
 have hns13_0 := NB101_106.out
 have hns13_1 := NB102_106.out
 have hms13_0 := NB106_101.out
 have hms13_1 := NB106_102.out
 have hs14 : w9.cell? ⟨gb106, 3, none⟩ = some (.slice none 0 0) := (blk_cell BK106.out 3).trans rfl
 have hfs14 := blk_frozen BK106.out 3
 have hns14_0 := NB101_106.out
 have hns14_1 := NB102_106.out
 have hms14_0 := NB106_101.out
 have hms14_1 := NB106_102.out
 refine skip_ (w1 := ?_) (by rfl) rfl ?_ ?_
 rotate_left
 ·go_simp
  rfl
 refine hK.out _ _ ⟨((cell_far (p := ⟨gb106, _, none⟩) NB101_106.out _).trans (((cell_far (p := ⟨gb106, _, none⟩) NB101_106.out _).trans (((cell_far (p := ⟨gb106, _, none⟩) NB101_106.out _).trans (((cell_far (p := ⟨gb106, _, none⟩) NB101_106.out _).trans (hHeld.1)))))))), ((cell_far (p := ⟨gb106, _, none⟩) NB101_106.out _).trans (((cell_far (p := ⟨gb106, _, none⟩) NB101_106.out _).trans (((cell_far (p := ⟨gb106, _, none⟩) NB101_106.out _).trans (((cell_far (p := ⟨gb106, _, none⟩) NB101_106.out _).trans (hHeld.2.1)))))))), ((cell_far (p := ⟨gb106, _, none⟩) NB101_106.out _).trans (((cell_far (p := ⟨gb106, _, none⟩) NB101_106.out _).trans (((cell_far (p := ⟨gb106, _, none⟩) NB101_106.out _).trans (((cell_far (p := ⟨gb106, _, none⟩) NB101_106.out _).trans (hHeld.2.2.1)))))))), ((cell_far (p := ⟨gb106, _, none⟩) NB101_106.out _).trans (((cell_far (p := ⟨gb106, _, none⟩) NB101_106.out _).trans (((cell_far (p := ⟨gb106, _, none⟩) NB101_106.out _).trans (((cell_far (p := ⟨gb106, _, none⟩) NB101_106.out _).trans (hHeld.2.2.2))))))))⟩ (fun hHeld => ?_)
 clear hK K
 refine done_ (done_of HT_.out (by kernel_rfl)) ?_
 have hnb15 := NB101_102.out
 have hnc15 := NB102_101.out
 have hnb16 := NB101_106.out
 have hnc16 := NB106_101.out
 obtain ⟨hcz17_0, hcz17_1, hcz17_2, hcz17_3, hfz17_0, hfz17_1, hfz17_2, hfz17_3⟩ := cells4 BK101.out
 try go_wp2_with (first | ((with_reducible refine gate_dst (N := 47) rfl ?_); refine Kd.R_lit (Kd.int .i64) _ 2 ?hg (N := 47) ?hd (xs := ([] : List Int)) (inner := []) (ok := fun _ => True) (okp := fun _ => True) ?hr ?hp (fun _ hk => hk) trivial (Below.refl _ _) (Nat.le_refl _) (by simp) ?_; (case hd => rfl); (case hg => rfl); (case hr => first | (go_simp; done) | (go_simp; rfl)); (case hp => exact (Reps.none _ _)); intro v108 w18 ho19 hb hg_ hnew_; clear hg_ hnew_; (first | rw [← Ny107.out] at ho19 | (simp only [Int.reduceToNat] at ho19; rw [← Ny107.out] at ho19)); have HO109 := Z57.k (Kd.R_lower (Kd.R_new' ho19 (Kd.R_lt Z57.z14)) (below_size Z57.z1)); replace HO105 := Z57.k (Kd.R_elder' Z57.z14 (Kd.R_base ho19) hb); replace BK101 := Z57.k (Z57.bb BK101 (by (repeat (first | (with_reducible first | refine blk_drewN ?_ _ | refine blk_drew ?_ | refine blk_alloc ?_ _) | refine blk_far ?_ NB101_106.out _)); exact BK101.out) hb); replace BK102 := Z57.k (Z57.bb BK102 (by (repeat (first | (with_reducible first | refine blk_drewN ?_ _ | refine blk_drew ?_ | refine blk_alloc ?_ _) | refine blk_far ?_ NB102_106.out _)); exact BK102.out) hb); replace BK106 := Z57.k (blk_below (g := gb106) (o := .cells #[.int .i64 a0_0, .int .i64 a0_1, .int .i64 a0_2, .slice Ao10 t103.length co10] 28 (0, 0)) (by (with_reducible repeat (first | refine blk_drewN ?_ _ | refine blk_drew ?_ | refine blk_alloc ?_ _)); refine blk_put (cs := #[.int .i64 a0_0, .int .i64 a0_1, .int .i64 a0_2, .slice none 0 0]) ?_ 3 _ rfl; (with_reducible repeat (first | refine blk_drewN ?_ _ | refine blk_drew ?_ | refine blk_alloc ?_ _)); refine blk_put (cs := #[.int .i64 a0_0, .int .i64 a0_1, .int .i64 0, .slice none 0 0]) ?_ 2 _ rfl; (with_reducible repeat (first | refine blk_drewN ?_ _ | refine blk_drew ?_ | refine blk_alloc ?_ _)); refine blk_put (cs := #[.int .i64 a0_0, .int .i64 0, .int .i64 0, .slice none 0 0]) ?_ 1 _ rfl; (with_reducible repeat (first | refine blk_drewN ?_ _ | refine blk_drew ?_ | refine blk_alloc ?_ _)); refine blk_put (cs := #[.int .i64 0, .int .i64 0, .int .i64 0, .slice none 0 0]) ?_ 0 _ rfl; (with_reducible repeat (first | refine blk_drewN ?_ _ | refine blk_drew ?_ | refine blk_alloc ?_ _)); exact BK106.out) hb); replace HB := Z57.k (below_step Z57.z1 hb); clear hb ho19))
 go_loopg [8, 9, 10, 11] k (fun kq v8 v9 v10 v11 w' => ∃ (x8_1 : List Int) (x9_1 : Int) (x10_1 : Int) (x11_1 : Int) (x107003_1 : List Int) (u107003 : Value), v9 = .int .i64 x9_1 ∧ v10 = .int .i64 x10_1 ∧ v11 = .int .i64 x11_1 ∧ Aside0 (spec_l03Reduced.l0 kq a0_0 a0_2 x8_1 x9_1 x10_1 x11_1 a0_0 a0_1 a0_2 l0_3 a0_0 a0_1 a0_2 x107003_1 = some (r1, r2, r3, r4, r5, r6)) ∧ Aside0 (kq ≤ k) ∧ Aside0 (Kd.R (Kd.int .i64) 2 w' w.heap.size (fun k_ => some k_ ≠ (u107003 : Value).ownBlock) v8 x8_1) ∧ Aside0 (Kd.R (Kd.int .i64) 2 w' w.heap.size (fun k_ => some k_ ≠ (v8 : Value).ownBlock) u107003 x107003_1) ∧ Aside0 (w'.heap[g0_]? = some (.cells #[.int .i64 a0_0, .int .i64 a0_1, .int .i64 a0_2, (.slice A0_3 l0_3.length c0_3)] 28 (0, 0))) ∧ Aside0 (w'.heap[gb102]? = some (.cells #[.int .i64 0, .int .i64 0, .int .i64 0, (.slice none 0 0)] 28 (0, 0))) ∧ Aside0 (w'.heap[gb106]? = some (.cells #[.int .i64 a0_0, .int .i64 a0_1, .int .i64 a0_2, u107003] 28 (0, 0))) ∧ Aside0 (Below w.heap.size w w'))
 case atStart => exact ⟨(y107), (1), (0), (0), (t103), (.slice Ao10 t103.length co10), Z57.z9, Z57.z9, Z57.z9, H', ⟨Nat.le_refl _⟩, ⟨(by (with_reducible repeat (first | apply Kd.R_alloc | apply Kd.R_drewN | apply Kd.R_drew)); exact Kd.R_mono HO109.out (fun _ hk => hk.2))⟩, ⟨(by (with_reducible repeat (first | apply Kd.R_alloc | apply Kd.R_drewN | apply Kd.R_drew)); exact Kd.R_mono HO105.out (fun _ hk => hk.2))⟩, ⟨Z57.z2⟩, ⟨Z57.z3⟩, ⟨Z57.z4⟩, ⟨Z57.z1⟩⟩
 case round =>
  clear H'
  try clear c1
  try clear p2
  try clear c3
  try clear c5
  try clear c15
  try clear c16
  try clear hcz17_0
  try clear hcz17_1
  try clear hcz17_2
  try clear hcz17_3
  try clear hfz17_0
  try clear hfz17_1
  try clear hfz17_2
  try clear hfz17_3
  obtain ⟨x8_1, x9_1, x10_1, x11_1, x107003_1, u107003, rfl, rfl, rfl, HA, HK1, HO_8, HO_107003, BK101, BK102, BK106, HB⟩ := hrel
  cases gk with
  | zero => exact absurd HA.out (by simp [spec_l03Reduced.l0])
  | succ k1 =>
   have H := HA.out
   clear HA
   simp only [spec_l03Reduced.l0] at H
   have HC20 := Z57.k H
   clear H
   go_upto_region 8 with (fail)
   go_cut [58] (fun v58 wc => ∃ (kq : Nat) (x58_19 : Bool), v58 = .bool x58_19 ∧ Aside0 (spec_l03Reduced.j1 kq a0_0 a0_2 x8_1 x9_1 x10_1 x11_1 x58_19 a0_0 a0_1 a0_2 l0_3 a0_0 a0_1 a0_2 x107003_1 = some (r1, r2, r3, r4, r5, r6)) ∧ Aside0 (kq ≤ k1) ∧ Aside0 (Kd.R (Kd.int .i64) 2 wc w.heap.size (fun k_ => some k_ ≠ (u107003 : Value).ownBlock) u8 x8_1) ∧ Aside0 (Kd.R (Kd.int .i64) 2 wc w.heap.size (fun k_ => some k_ ≠ (u8 : Value).ownBlock) u107003 x107003_1) ∧ Aside0 (wc.heap[g0_]? = some (.cells #[.int .i64 a0_0, .int .i64 a0_1, .int .i64 a0_2, (.slice A0_3 l0_3.length c0_3)] 28 (0, 0))) ∧ Aside0 (wc.heap[gb102]? = some (.cells #[.int .i64 0, .int .i64 0, .int .i64 0, (.slice none 0 0)] 28 (0, 0))) ∧ Aside0 (wc.heap[gb106]? = some (.cells #[.int .i64 a0_0, .int .i64 a0_1, .int .i64 a0_2, u107003] 28 (0, 0))) ∧ Aside0 (Below w.heap.size w wc))
   case first =>
    have H := HC20.out
    clear HC20
    by_cases c21 : x11_1 < a0_2
    ·rw [if_pos c21] at H
     have c21b0 : decide (x11_1 < a0_2) = true := decide_eq_true c21
     clear c21
     (first | rw [c21b1] | rw [c21b0] | (simp only [i64_w, i32_w]; rw [c21b0]) | skip)
     have H' := Z57.k H
     clear H
     have hnb22 := NB101_102.out
     have hnc22 := NB102_101.out
     have hnb23 := NB101_106.out
     have hnc23 := NB106_101.out
     obtain ⟨hcz24_0, hcz24_1, hcz24_2, hcz24_3, hfz24_0, hfz24_1, hfz24_2, hfz24_3⟩ := cells4 BK101.out
     go_wp2
     go_meet
     case rel => exact ⟨_, (decide (x10_1 < a0_1)), Z57.z9, H', ⟨(by have := HK1.out; first | omega | exact Nat.le_refl _)⟩, ⟨Z57.z6⟩, ⟨Z57.z5⟩, ⟨Z57.z2⟩, ⟨Z57.z3⟩, ⟨Z57.z4⟩, ⟨Z57.z1⟩⟩
    rw [if_neg c21] at H
    have c21b0 : decide (x11_1 < a0_2) = false := decide_eq_false c21
    clear c21
    (first | rw [c21b1] | rw [c21b0] | (simp only [i64_w, i32_w]; rw [c21b0]) | skip)
    have H' := Z57.k H
    clear H
    go_wp2
    go_meet
    case rel => exact ⟨_, (false), Z57.z9, H', ⟨(by have := HK1.out; first | omega | exact Nat.le_refl _)⟩, ⟨Z57.z6⟩, ⟨Z57.z5⟩, ⟨Z57.z2⟩, ⟨Z57.z3⟩, ⟨Z57.z4⟩, ⟨Z57.z1⟩⟩
   case rest =>
    clear HC20
    try clear c1
    try clear c2
    try clear p2
    try clear c3
    try clear c5
    try clear c15
    try clear c16
    try clear c21
    try clear c21b0
    try clear c22
    try clear c23
    try clear hcz17_0
    try clear hcz17_1
    try clear hcz17_2
    try clear hcz17_3
    try clear hcz24_0
    try clear hcz24_1
    try clear hcz24_2
    try clear hcz24_3
    try clear hfz17_0
    try clear hfz17_1
    try clear hfz17_2
    try clear hfz17_3
    try clear hfz24_0
    try clear hfz24_1
    try clear hfz24_2
    try clear hfz24_3
    try clear p2
    obtain ⟨kq, x58_19, rfl, HA, HJ19, HO_8, HO_107003, BK101, BK102, BK106, HB⟩ := hcut
    cases kq with
    | zero => exact absurd HA.out (by simp [spec_l03Reduced.j1])
    | succ kj19 =>
     have H := HA.out
     clear HA
     simp only [spec_l03Reduced.j1] at H
     by_cases c25 : x58_19 = true
     ·as_aux_lemma =>
       subst c25; rw [if_pos rfl] at H; have HC26 := Z57.k H; clear H
       go_upto_block 2 with (fail)
       go_cut [12] (fun v12 wc => ∃ (kq : Nat) (x12_25 : Int), v12 = .int .i64 x12_25 ∧ Aside0 (spec_l03Reduced.j3 kq a0_0 a0_2 x8_1 x9_1 x10_1 x11_1 x12_25 a0_0 a0_1 a0_2 l0_3 a0_0 a0_1 a0_2 x107003_1 = some (r1, r2, r3, r4, r5, r6)) ∧ Aside0 (kq ≤ kj19) ∧ Aside0 (Kd.R (Kd.int .i64) 2 wc w.heap.size (fun k_ => some k_ ≠ (u107003 : Value).ownBlock) u8 x8_1) ∧ Aside0 (Kd.R (Kd.int .i64) 2 wc w.heap.size (fun k_ => some k_ ≠ (u8 : Value).ownBlock) u107003 x107003_1) ∧ Aside0 (wc.heap[g0_]? = some (.cells #[.int .i64 a0_0, .int .i64 a0_1, .int .i64 a0_2, (.slice A0_3 l0_3.length c0_3)] 28 (0, 0))) ∧ Aside0 (wc.heap[gb102]? = some (.cells #[.int .i64 0, .int .i64 0, .int .i64 0, (.slice none 0 0)] 28 (0, 0))) ∧ Aside0 (wc.heap[gb106]? = some (.cells #[.int .i64 a0_0, .int .i64 a0_1, .int .i64 a0_2, u107003] 28 (0, 0))) ∧ Aside0 (Below w.heap.size w wc))
       case first =>
        have H := HC26.out
        clear HC26; have H' := Z57.k H; clear H
        go_wp2
        go_loopg [12] kj19 (fun kq v12 w' => ∃ (x12_3 : Int), v12 = .int .i64 x12_3 ∧ Aside0 (spec_l03Reduced.l1 kq a0_0 a0_2 x8_1 x9_1 x10_1 x11_1 x12_3 a0_0 a0_1 a0_2 l0_3 a0_0 a0_1 a0_2 x107003_1 = some (r1, r2, r3, r4, r5, r6)) ∧ Aside0 (kq ≤ kj19) ∧ Aside0 (Kd.R (Kd.int .i64) 2 w' w.heap.size (fun k_ => some k_ ≠ (u107003 : Value).ownBlock) u8 x8_1) ∧ Aside0 (Kd.R (Kd.int .i64) 2 w' w.heap.size (fun k_ => some k_ ≠ (u8 : Value).ownBlock) u107003 x107003_1) ∧ Aside0 (w'.heap[g0_]? = some (.cells #[.int .i64 a0_0, .int .i64 a0_1, .int .i64 a0_2, (.slice A0_3 l0_3.length c0_3)] 28 (0, 0))) ∧ Aside0 (w'.heap[gb102]? = some (.cells #[.int .i64 0, .int .i64 0, .int .i64 0, (.slice none 0 0)] 28 (0, 0))) ∧ Aside0 (w'.heap[gb106]? = some (.cells #[.int .i64 a0_0, .int .i64 a0_1, .int .i64 a0_2, u107003] 28 (0, 0))) ∧ Aside0 (Below w.heap.size w w'))
        case atStart => exact ⟨(x10_1), Z57.z9, H', ⟨Nat.le_refl _⟩, ⟨Z57.z6⟩, ⟨Z57.z5⟩, ⟨Z57.z2⟩, ⟨Z57.z3⟩, ⟨Z57.z4⟩, ⟨Z57.z1⟩⟩
        case round =>
         clear H'; (try clear c1); (try clear c2); (try clear p2); (try clear c3); (try clear c5); (try clear c15); (try clear c16); (try clear c21); (try clear c21b0); (try clear c22); (try clear c23); (try clear c25); (try clear hcz17_0); (try clear hcz17_1); (try clear hcz17_2); (try clear hcz17_3); (try clear hcz24_0); (try clear hcz24_1); (try clear hcz24_2); (try clear hcz24_3); (try clear hfz17_0); (try clear hfz17_1); (try clear hfz17_2); (try clear hfz17_3); (try clear hfz24_0); (try clear hfz24_1); (try clear hfz24_2); (try clear hfz24_3); (try clear p2); obtain ⟨x12_3, rfl, HA, HK3, HO_8, HO_107003, BK101, BK102, BK106, HB⟩ := hrel; cases gk with
         | zero => exact absurd HA.out (by simp [spec_l03Reduced.l1])
         | succ k3 =>
          have H := HA.out
          clear HA; simp only [spec_l03Reduced.l1] at H
          by_cases c27 : x12_3 < a0_1
          ·as_aux_lemma =>
            rw [if_pos c27] at H; have c27b0 : decide (x12_3 < a0_1) = true := decide_eq_true c27; clear c27
            (first | rw [c27b1] | rw [c27b0] | (simp only [i64_w, i32_w]; rw [c27b0]) | skip)
            obtain ⟨ji28, hji28⟩ : ∃ j_ : Int, (wrap64 ((wrap64 (x12_3 * a0_2)) + x11_1)) = j_ := ⟨_, rfl⟩; replace H : (if 0 ≤ (ji28) then (if (ji28) < (x107003_1.length : Int) then (if (rd x107003_1 (ji28)) = 0 then (spec_l03Reduced.l1 k3 a0_0 a0_2 x8_1 x9_1 x10_1 x11_1 (wrap64 (x12_3 + 1)) a0_0 a0_1 a0_2 l0_3 a0_0 a0_1 a0_2 x107003_1) else (spec_l03Reduced.j3 k3 a0_0 a0_2 x8_1 x9_1 x10_1 x11_1 x12_3 a0_0 a0_1 a0_2 l0_3 a0_0 a0_1 a0_2 x107003_1)) else (none)) else (none)) = some (r1, r2, r3, r4, r5, r6) := by first | (rw [hji28] at H; exact H) | (simp only [hji28] at H ⊢; exact H)
            have hji28w : (IntKind.i64.wrap ((wrap64 (x12_3 * a0_2)) + x11_1)) = ji28 := (i64_w _).trans hji28
            by_cases c29 : 0 ≤ (ji28)
            ·as_aux_lemma =>
              rw [if_pos c29] at H; have c29b0 : decide (0 ≤ (ji28)) = true := decide_eq_true c29; clear c29
              by_cases c30 : (ji28) < (x107003_1.length : Int)
              ·as_aux_lemma =>
                rw [if_pos c30] at H; have c30b0 : decide ((ji28) < (x107003_1.length : Int)) = true := decide_eq_true c30; clear c30
                by_cases c31 : (rd x107003_1 (ji28)) = 0
                ·rw [if_pos c31] at H
                 have c31b0 : ((rd x107003_1 (ji28)) == 0) = true := beq_iff_eq.mpr c31; have c31b1 : ((rd x107003_1 (ji28)) != 0) = false := bne_eq_false_iff_eq.mpr c31; clear c31; have H' := Z57.k H; clear H; have hnb32 := NB101_102.out; have hnc32 := NB102_101.out; have hnb33 := NB101_106.out; have hnc33 := NB106_101.out; obtain ⟨hcz34_0, hcz34_1, hcz34_2, hcz34_3, hfz34_0, hfz34_1, hfz34_2, hfz34_3⟩ := cells4 BK101.out; have hnb35 := NB106_102.out; have hnc35 := NB102_106.out; obtain ⟨hcz36_0, hcz36_1, hcz36_2, hcz36_3, hfz36_0, hfz36_1, hfz36_2, hfz36_3⟩ := cells4 BK106.out; obtain ⟨Ao37, co37, eo37⟩ := Kd.R_slice HO_107003.out; subst eo37; have p110 : 0 ≤ ((ji28) : Int) := of_decide_eq_true Z57.z8; have q110 : (ji28) < (x107003_1.length : Int) := of_decide_eq_true Z57.z8; obtain ⟨ad110, e110, hx110_0⟩ := Kd.at_int (Kd.R_reads' HO_107003.out).2.2 (ji28) p110 q110; cases e110; replace p110 := eq_true p110; replace q110 := eq_true q110
                 go_wp2
                 go_roundg k3
                 case measure => have := HK1.out; have := HJ19.out; have := HK3.out; omega
                 case rel => exact ⟨(wrap64 (x12_3 + 1)), Z57.z9, H', ⟨(by have := HK1.out; have := HJ19.out; have := HK3.out; omega)⟩, ⟨Z57.z6⟩, ⟨Z57.z5⟩, ⟨Z57.z2⟩, ⟨Z57.z3⟩, ⟨Z57.z4⟩, ⟨Z57.z1⟩⟩
                rw [if_neg c31] at H; have c31b0 : ((rd x107003_1 (ji28)) == 0) = false := beq_eq_false_iff_ne.mpr c31; have c31b1 : ((rd x107003_1 (ji28)) != 0) = true := bne_iff_ne.mpr c31; have H' := Z57.k H; clear H; have hnb38 := NB101_102.out; have hnc38 := NB102_101.out; have hnb39 := NB101_106.out; have hnc39 := NB106_101.out; obtain ⟨hcz40_0, hcz40_1, hcz40_2, hcz40_3, hfz40_0, hfz40_1, hfz40_2, hfz40_3⟩ := cells4 BK101.out; have hnb41 := NB106_102.out; have hnc41 := NB102_106.out; obtain ⟨hcz42_0, hcz42_1, hcz42_2, hcz42_3, hfz42_0, hfz42_1, hfz42_2, hfz42_3⟩ := cells4 BK106.out; obtain ⟨Ao43, co43, eo43⟩ := Kd.R_slice HO_107003.out; subst eo43; have p110 : 0 ≤ ((ji28) : Int) := of_decide_eq_true Z57.z8; have q110 : (ji28) < (x107003_1.length : Int) := of_decide_eq_true Z57.z8; obtain ⟨ad110, e110, hx110_0⟩ := Kd.at_int (Kd.R_reads' HO_107003.out).2.2 (ji28) p110 q110; cases e110; replace p110 := eq_true p110; replace q110 := eq_true q110
                go_wp2
                go_meet
                case rel => exact ⟨_, (x12_3), Z57.z9, H', ⟨(by have := HK1.out; have := HJ19.out; have := HK3.out; first | omega | exact Nat.le_refl _)⟩, ⟨Z57.z6⟩, ⟨Z57.z5⟩, ⟨Z57.z2⟩, ⟨Z57.z3⟩, ⟨Z57.z4⟩, ⟨Z57.z1⟩⟩
              rw [if_neg c30] at H; exact absurd H (by simp)
            rw [if_neg c29] at H; exact absurd H (by simp)
          rw [if_neg c27] at H; have c27b0 : decide (x12_3 < a0_1) = false := decide_eq_false c27; clear c27
          (first | rw [c27b1] | rw [c27b0] | (simp only [i64_w, i32_w]; rw [c27b0]) | skip)
          have H' := Z57.k H; clear H; have hnb44 := NB101_102.out; have hnc44 := NB102_101.out; have hnb45 := NB101_106.out; have hnc45 := NB106_101.out; obtain ⟨hcz46_0, hcz46_1, hcz46_2, hcz46_3, hfz46_0, hfz46_1, hfz46_2, hfz46_3⟩ := cells4 BK101.out
          go_wp2
          go_meet
          case rel => exact ⟨_, (x12_3), Z57.z9, H', ⟨(by have := HK1.out; have := HJ19.out; have := HK3.out; first | omega | exact Nat.le_refl _)⟩, ⟨Z57.z6⟩, ⟨Z57.z5⟩, ⟨Z57.z2⟩, ⟨Z57.z3⟩, ⟨Z57.z4⟩, ⟨Z57.z1⟩⟩
       case rest =>
        clear HC26; (try clear c1); (try clear p1); (try clear q1); (try clear hx1); (try clear c2); (try clear p2); (try clear c3); (try clear c4); (try clear c5); (try clear p6); (try clear p11); (try clear q11); (try clear hx11); (try clear c15); (try clear c16); (try clear c21); (try clear c21b0); (try clear c22); (try clear c23); (try clear c25); (try clear c27); (try clear c27b0); (try clear c29); (try clear c29b0); (try clear c30); (try clear c30b0); (try clear c31); (try clear c31b0); (try clear c31b1); (try clear c32); (try clear c33); (try clear c34); (try clear c35); (try clear c38); (try clear c39); (try clear c41); (try clear c44); (try clear c45); (try clear hcz17_0); (try clear hcz17_1); (try clear hcz17_2); (try clear hcz17_3); (try clear hcz24_0); (try clear hcz24_1); (try clear hcz24_2); (try clear hcz24_3); (try clear hcz34_0); (try clear hcz34_1); (try clear hcz34_2); (try clear hcz34_3); (try clear hcz36_0); (try clear hcz36_1); (try clear hcz36_2); (try clear hcz36_3); (try clear hcz40_0); (try clear hcz40_1); (try clear hcz40_2); (try clear hcz40_3); (try clear hcz42_0); (try clear hcz42_1); (try clear hcz42_2); (try clear hcz42_3); (try clear hcz46_0); (try clear hcz46_1); (try clear hcz46_2); (try clear hcz46_3); (try clear hfz17_0); (try clear hfz17_1); (try clear hfz17_2); (try clear hfz17_3); (try clear hfz24_0); (try clear hfz24_1); (try clear hfz24_2); (try clear hfz24_3); (try clear hfz34_0); (try clear hfz34_1); (try clear hfz34_2); (try clear hfz34_3); (try clear hfz36_0); (try clear hfz36_1); (try clear hfz36_2); (try clear hfz36_3); (try clear hfz40_0); (try clear hfz40_1); (try clear hfz40_2); (try clear hfz40_3); (try clear hfz42_0); (try clear hfz42_1); (try clear hfz42_2); (try clear hfz42_3); (try clear hfz46_0); (try clear hfz46_1); (try clear hfz46_2); (try clear hfz46_3); (try clear hx110_0); (try clear p110); (try clear p2); (try clear q110); obtain ⟨kq, x12_25, rfl, HA, HJ25, HO_8, HO_107003, BK101, BK102, BK106, HB⟩ := hcut; cases kq with
        | zero => exact absurd HA.out (by simp [spec_l03Reduced.j3])
        | succ kj25 =>
         have H := HA.out
         clear HA; simp only [spec_l03Reduced.j3] at H
         by_cases c47 : x12_25 = a0_1
         ·rw [if_pos c47] at H
          have c47b0 : (x12_25 == a0_1) = true := beq_iff_eq.mpr c47; have c47b1 : (x12_25 != a0_1) = false := bne_eq_false_iff_eq.mpr c47; clear c47; have H' := Z57.k H; clear H; have hnb48 := NB101_102.out; have hnc48 := NB102_101.out; have hnb49 := NB101_106.out; have hnc49 := NB106_101.out; obtain ⟨hcz50_0, hcz50_1, hcz50_2, hcz50_3, hfz50_0, hfz50_1, hfz50_2, hfz50_3⟩ := cells4 BK101.out
          go_wp2
          go_roundg kj25
          case measure => have := HK1.out; have := HJ19.out; have := HJ25.out; omega
          case rel => exact ⟨(x8_1), (x9_1), (x10_1), (wrap64 (x11_1 + 1)), (x107003_1), (u107003), Z57.z9, Z57.z9, Z57.z9, H', ⟨(by have := HK1.out; have := HJ19.out; have := HJ25.out; omega)⟩, ⟨Z57.z6⟩, ⟨Z57.z5⟩, ⟨Z57.z2⟩, ⟨Z57.z3⟩, ⟨Z57.z4⟩, ⟨Z57.z1⟩⟩
         ·as_aux_lemma =>
           rw [if_neg c47] at H; have c47b0 : (x12_25 == a0_1) = false := beq_eq_false_iff_ne.mpr c47; have c47b1 : (x12_25 != a0_1) = true := bne_iff_ne.mpr c47; have HC51 := Z57.k H; clear H; have hnb52 := NB101_102.out; have hnc52 := NB102_101.out; have hnb53 := NB101_106.out; have hnc53 := NB106_101.out; obtain ⟨hcz54_0, hcz54_1, hcz54_2, hcz54_3, hfz54_0, hfz54_1, hfz54_2, hfz54_3⟩ := cells4 BK101.out
           go_upto_if 90 with (fail)
           go_cut [9] (fun v9 wc => ∃ (kq : Nat) (x8_50 : List Int) (x9_50 : Int) (x107003_50 : List Int) (u107003 : Value), v9 = .int .i64 x9_50 ∧ Aside0 (spec_l03Reduced.j5 kq a0_0 a0_2 x8_50 x9_50 x10_1 x11_1 a0_0 a0_1 a0_2 l0_3 a0_0 a0_1 a0_2 x107003_50 = some (r1, r2, r3, r4, r5, r6)) ∧ Aside0 (kq ≤ kj25) ∧ Aside0 (Kd.R (Kd.int .i64) 2 wc w.heap.size (fun k_ => some k_ ≠ (u107003 : Value).ownBlock) u8 x8_50) ∧ Aside0 (Kd.R (Kd.int .i64) 2 wc w.heap.size (fun k_ => some k_ ≠ (u8 : Value).ownBlock) u107003 x107003_50) ∧ Aside0 (wc.heap[g0_]? = some (.cells #[.int .i64 a0_0, .int .i64 a0_1, .int .i64 a0_2, (.slice A0_3 l0_3.length c0_3)] 28 (0, 0))) ∧ Aside0 (wc.heap[gb102]? = some (.cells #[.int .i64 0, .int .i64 0, .int .i64 0, (.slice none 0 0)] 28 (0, 0))) ∧ Aside0 (wc.heap[gb106]? = some (.cells #[.int .i64 a0_0, .int .i64 a0_1, .int .i64 a0_2, u107003] 28 (0, 0))) ∧ Aside0 (Below w.heap.size w wc))
           case first =>
            have H := HC51.out
            clear HC51
            by_cases c55 : x12_25 = x10_1
            ·rw [if_pos c55] at H
             have c55b0 : (x12_25 == x10_1) = true := beq_iff_eq.mpr c55; have c55b1 : (x12_25 != x10_1) = false := bne_eq_false_iff_eq.mpr c55; clear c55
             (first | rw [c55b1] | rw [c55b0] | (simp only [i64_w, i32_w]; rw [c55b0]) | skip)
             have H' := Z57.k H; clear H
             go_wp2
             go_meet
             case rel => exact ⟨_, (x8_1), (x9_1), (x107003_1), (u107003), Z57.z9, H', ⟨(by have := HK1.out; have := HJ19.out; have := HJ25.out; first | omega | exact Nat.le_refl _)⟩, ⟨Z57.z6⟩, ⟨Z57.z5⟩, ⟨Z57.z2⟩, ⟨Z57.z3⟩, ⟨Z57.z4⟩, ⟨Z57.z1⟩⟩
            ·as_aux_lemma =>
              rw [if_neg c55] at H; have c55b0 : (x12_25 == x10_1) = false := beq_eq_false_iff_ne.mpr c55; have c55b1 : (x12_25 != x10_1) = true := bne_iff_ne.mpr c55
              (first | rw [c55b1] | rw [c55b0] | (simp only [i64_w, i32_w]; rw [c55b0]) | skip)
              have H' := Z57.k H; clear H
              go_wp2
              go_loopg [13] kj25 (fun kq v13 w' => ∃ (x8_4 : List Int) (x13_4 : Int) (x107003_4 : List Int) (u107003 : Value), v13 = .int .i64 x13_4 ∧ Aside0 (spec_l03Reduced.l2 kq a0_0 a0_2 x8_4 (wrap64 (a0_0 - x9_1)) x10_1 x11_1 x12_25 x13_4 a0_0 a0_1 a0_2 l0_3 a0_0 a0_1 a0_2 x107003_4 = some (r1, r2, r3, r4, r5, r6)) ∧ Aside0 (kq ≤ kj25) ∧ Aside0 (Kd.R (Kd.int .i64) 2 w' w.heap.size (fun k_ => some k_ ≠ (u107003 : Value).ownBlock) u8 x8_4) ∧ Aside0 (Kd.R (Kd.int .i64) 2 w' w.heap.size (fun k_ => some k_ ≠ (u8 : Value).ownBlock) u107003 x107003_4) ∧ Aside0 (w'.heap[g0_]? = some (.cells #[.int .i64 a0_0, .int .i64 a0_1, .int .i64 a0_2, (.slice A0_3 l0_3.length c0_3)] 28 (0, 0))) ∧ Aside0 (w'.heap[gb102]? = some (.cells #[.int .i64 0, .int .i64 0, .int .i64 0, (.slice none 0 0)] 28 (0, 0))) ∧ Aside0 (w'.heap[gb106]? = some (.cells #[.int .i64 a0_0, .int .i64 a0_1, .int .i64 a0_2, u107003] 28 (0, 0))) ∧ Aside0 (Below w.heap.size w w'))
              case atStart => exact ⟨(x8_1), (0), (x107003_1), (u107003), Z57.z9, H', ⟨Nat.le_refl _⟩, ⟨Z57.z6⟩, ⟨Z57.z5⟩, ⟨Z57.z2⟩, ⟨Z57.z3⟩, ⟨Z57.z4⟩, ⟨Z57.z1⟩⟩
              case round =>
               clear H'; (try clear c1); (try clear p1); (try clear q1); (try clear hx1); (try clear c2); (try clear p2); (try clear c3); (try clear c4); (try clear c5); (try clear p6); (try clear p11); (try clear q11); (try clear hx11); (try clear c15); (try clear c16); (try clear c21); (try clear c21b0); (try clear c22); (try clear c23); (try clear c25); (try clear c27); (try clear c27b0); (try clear c29); (try clear c29b0); (try clear c30); (try clear c30b0); (try clear c31); (try clear c31b0); (try clear c31b1); (try clear c32); (try clear c33); (try clear c34); (try clear c35); (try clear c38); (try clear c39); (try clear c41); (try clear c44); (try clear c45); (try clear c47); (try clear c47b0); (try clear c47b1); (try clear c48); (try clear c49); (try clear c52); (try clear c53); (try clear c55); (try clear c55b0); (try clear c55b1); (try clear hcz17_0); (try clear hcz17_1); (try clear hcz17_2); (try clear hcz17_3); (try clear hcz24_0); (try clear hcz24_1); (try clear hcz24_2); (try clear hcz24_3); (try clear hcz34_0); (try clear hcz34_1); (try clear hcz34_2); (try clear hcz34_3); (try clear hcz36_0); (try clear hcz36_1); (try clear hcz36_2); (try clear hcz36_3); (try clear hcz40_0); (try clear hcz40_1); (try clear hcz40_2); (try clear hcz40_3); (try clear hcz42_0); (try clear hcz42_1); (try clear hcz42_2); (try clear hcz42_3); (try clear hcz46_0); (try clear hcz46_1); (try clear hcz46_2); (try clear hcz46_3); (try clear hcz50_0); (try clear hcz50_1); (try clear hcz50_2); (try clear hcz50_3); (try clear hcz54_0); (try clear hcz54_1); (try clear hcz54_2); (try clear hcz54_3); (try clear hfz17_0); (try clear hfz17_1); (try clear hfz17_2); (try clear hfz17_3); (try clear hfz24_0); (try clear hfz24_1); (try clear hfz24_2); (try clear hfz24_3); (try clear hfz34_0); (try clear hfz34_1); (try clear hfz34_2); (try clear hfz34_3); (try clear hfz36_0); (try clear hfz36_1); (try clear hfz36_2); (try clear hfz36_3); (try clear hfz40_0); (try clear hfz40_1); (try clear hfz40_2); (try clear hfz40_3); (try clear hfz42_0); (try clear hfz42_1); (try clear hfz42_2); (try clear hfz42_3); (try clear hfz46_0); (try clear hfz46_1); (try clear hfz46_2); (try clear hfz46_3); (try clear hfz50_0); (try clear hfz50_1); (try clear hfz50_2); (try clear hfz50_3); (try clear hfz54_0); (try clear hfz54_1); (try clear hfz54_2); (try clear hfz54_3); (try clear hx110_0); (try clear p1); (try clear p11); (try clear p110); (try clear p2); (try clear p6); (try clear q1); (try clear q11); (try clear q110); obtain ⟨x8_4, x13_4, x107003_4, u107003, rfl, HA, HK4, HO_8, HO_107003, BK101, BK102, BK106, HB⟩ := hrel; cases gk with
               | zero => exact absurd HA.out (by simp [spec_l03Reduced.l2])
               | succ k4 =>
                have H := HA.out
                clear HA; simp only [spec_l03Reduced.l2] at H
                by_cases c56 : x13_4 < a0_2
                ·as_aux_lemma =>
                  rw [if_pos c56] at H; have c56b0 : decide (x13_4 < a0_2) = true := decide_eq_true c56; clear c56; obtain ⟨ji57, hji57⟩ : ∃ j_ : Int, (wrap64 ((wrap64 (x12_25 * a0_2)) + x13_4)) = j_ := ⟨_, rfl⟩; replace H : (if 0 ≤ (ji57) then (if (ji57) < (x107003_4.length : Int) then (if 0 ≤ (wrap64 ((wrap64 (x10_1 * a0_2)) + x13_4)) then (if (wrap64 ((wrap64 (x10_1 * a0_2)) + x13_4)) < (x107003_4.length : Int) then (spec_l03Reduced.l2 k4 a0_0 a0_2 x8_4 (wrap64 (a0_0 - x9_1)) x10_1 x11_1 x12_25 (wrap64 (x13_4 + 1)) a0_0 a0_1 a0_2 l0_3 a0_0 a0_1 a0_2 ((x107003_4.set ((ji57) : Int).toNat (rd x107003_4 (wrap64 ((wrap64 (x10_1 * a0_2)) + x13_4)))).set ((wrap64 ((wrap64 (x10_1 * a0_2)) + x13_4)) : Int).toNat (rd x107003_4 (ji57)))) else (none)) else (none)) else (none)) else (none)) = some (r1, r2, r3, r4, r5, r6) := by first | (rw [hji57] at H; exact H) | (simp only [hji57] at H ⊢; exact H)
                  have hji57w : (IntKind.i64.wrap ((wrap64 (x12_25 * a0_2)) + x13_4)) = ji57 := (i64_w _).trans hji57
                  by_cases c58 : 0 ≤ (ji57)
                  ·as_aux_lemma =>
                    rw [if_pos c58] at H; have c58b0 : decide (0 ≤ (ji57)) = true := decide_eq_true c58; clear c58
                    by_cases c59 : (ji57) < (x107003_4.length : Int)
                    ·as_aux_lemma =>
                      rw [if_pos c59] at H; have c59b0 : decide ((ji57) < (x107003_4.length : Int)) = true := decide_eq_true c59; clear c59; obtain ⟨ji60, hji60⟩ : ∃ j_ : Int, (wrap64 ((wrap64 (x10_1 * a0_2)) + x13_4)) = j_ := ⟨_, rfl⟩; replace H : (if 0 ≤ (ji60) then (if (ji60) < (x107003_4.length : Int) then (spec_l03Reduced.l2 k4 a0_0 a0_2 x8_4 (wrap64 (a0_0 - x9_1)) x10_1 x11_1 x12_25 (wrap64 (x13_4 + 1)) a0_0 a0_1 a0_2 l0_3 a0_0 a0_1 a0_2 ((x107003_4.set ((ji57) : Int).toNat (rd x107003_4 (ji60))).set ((ji60) : Int).toNat (rd x107003_4 (ji57)))) else (none)) else (none)) = some (r1, r2, r3, r4, r5, r6) := by first | (rw [hji60] at H; exact H) | (simp only [hji60] at H ⊢; exact H)
                      have hji60w : (IntKind.i64.wrap ((wrap64 (x10_1 * a0_2)) + x13_4)) = ji60 := (i64_w _).trans hji60
                      by_cases c61 : 0 ≤ (ji60)
                      ·as_aux_lemma =>
                        rw [if_pos c61] at H; have c61b0 : decide (0 ≤ (ji60)) = true := decide_eq_true c61; clear c61
                        by_cases c62 : (ji60) < (x107003_4.length : Int)
                        ·as_aux_lemma =>
                          rw [if_pos c62] at H; have c62b0 : decide ((ji60) < (x107003_4.length : Int)) = true := decide_eq_true c62; clear c62; obtain ⟨y113, hy113⟩ : ∃ y_ : List Int, y_ = (x107003_4.set ((ji57) : Int).toNat (rd x107003_4 (ji60))) := ⟨_, rfl⟩; replace H : (spec_l03Reduced.l2 k4 a0_0 a0_2 x8_4 (wrap64 (a0_0 - x9_1)) x10_1 x11_1 x12_25 (wrap64 (x13_4 + 1)) a0_0 a0_1 a0_2 l0_3 a0_0 a0_1 a0_2 (y113.set ((ji60) : Int).toNat (rd x107003_4 (ji57)))) = some (r1, r2, r3, r4, r5, r6) := by first | (rw [hy113]; with_reducible exact H) | (have H2_ := (Option.bind_some _ _).symm.trans H; rw [hy113]; with_reducible exact H2_) | (have H2_ := (Option.bind_some _ _).symm.trans H; with_reducible exact H2_) | with_reducible exact H | (rw [hy113]; exact H) | exact H
                          have Ny113 := Z57.k hy113; clear hy113; obtain ⟨y114, hy114⟩ : ∃ y_ : List Int, y_ = (y113.set ((ji60) : Int).toNat (rd x107003_4 (ji57))) := ⟨_, rfl⟩; replace H : (spec_l03Reduced.l2 k4 a0_0 a0_2 x8_4 (wrap64 (a0_0 - x9_1)) x10_1 x11_1 x12_25 (wrap64 (x13_4 + 1)) a0_0 a0_1 a0_2 l0_3 a0_0 a0_1 a0_2 y114) = some (r1, r2, r3, r4, r5, r6) := by first | (rw [hy114]; with_reducible exact H) | (have H2_ := (Option.bind_some _ _).symm.trans H; rw [hy114]; with_reducible exact H2_) | (have H2_ := (Option.bind_some _ _).symm.trans H; with_reducible exact H2_) | with_reducible exact H | (rw [hy114]; exact H) | exact H
                          have Ny114 := Z57.k hy114; clear hy114; have H' := Z57.k H; clear H; have hnb65 := NB106_101.out; have hnc65 := NB101_106.out; have hnb66 := NB106_102.out; have hnc66 := NB102_106.out; obtain ⟨hcz67_0, hcz67_1, hcz67_2, hcz67_3, hfz67_0, hfz67_1, hfz67_2, hfz67_3⟩ := cells4 BK106.out; obtain ⟨Ao68, co68, eo68⟩ := Kd.R_slice HO_107003.out; subst eo68; have p111 : 0 ≤ ((ji57) : Int) := of_decide_eq_true Z57.z8; have q111 : (ji57) < (x107003_4.length : Int) := of_decide_eq_true Z57.z8; obtain ⟨ad111, e111, hx111_0⟩ := Kd.at_int (Kd.R_reads' HO_107003.out).2.2 (ji57) p111 q111; cases e111; replace p111 := eq_true p111; replace q111 := eq_true q111
                          try go_wp2
                          replace HO_8 := Z57.k (Kd.R_drew HO_8.out); replace HO_107003 := Z57.k (Kd.R_drew HO_107003.out); replace BK101 := Z57.k (blk_drew BK101.out); replace BK102 := Z57.k (blk_drew BK102.out); replace BK106 := Z57.k (blk_drew BK106.out); replace HB := Z57.k (below_drew1 HB.out); have p112 : 0 ≤ ((ji60) : Int) := of_decide_eq_true Z57.z8; have q112 : (ji60) < (x107003_4.length : Int) := of_decide_eq_true Z57.z8; obtain ⟨ad112, e112, hx112_0⟩ := Kd.at_int (Kd.R_reads' HO_107003.out).2.2 (ji60) p112 q112; obtain rfl : ad111 = ad112 := (by injection e112); replace p112 := eq_true p112; replace q112 := eq_true q112; have p63 : 0 ≤ ((ji57) : Int) := of_decide_eq_true Z57.z8; have q63 : ((ji57) : Int) < ((x107003_4.length : Int) : Int) := of_decide_eq_true Z57.z8; obtain ⟨go63, co63, eo63, gb63, gl63, cl63, HG63⟩ := Kd.R_form HO_107003.out (by omega)
                          (first | cases eo63 | (injection eo63 with ea_ en_ ec_; (first | subst ea_ | (injection ea_ with ea_; subst ea_)); subst ec_; clear en_))
                          have GB63 := Z57.k gb63; have GG63 := Z57.k HG63; clear gb63 gl63 HG63
                          (first | simp only [add_plain] at hx111_0 | skip)
                          (first | simp only [add_plain] at hx112_0 | skip)
                          obtain ⟨hx63_0, hf63_0⟩ := Kd.R_celln 0 HO_107003.out ((ji57) : Int) p63 q63; replace p63 := eq_true p63; replace q63 := eq_true q63; have HP70 := Kd.R_putn HO_107003.out ((ji57) : Int) (rd x107003_4 (ji60)); rw [← Ny113.out] at HP70; have HQ70 := Z57.k HP70; clear HP70; refine start_ (n := 18) (S := fun w' => w'.cell? ⟨gb106, 0, none⟩ = some (.int .i64 a0_0) ∧ w'.cell? ⟨gb106, 1, none⟩ = some (.int .i64 a0_1) ∧ w'.cell? ⟨gb106, 2, none⟩ = some (.int .i64 a0_2) ∧ w'.cell? ⟨gb106, 3, none⟩ = some (.slice (some ⟨go63, 0, none⟩) x107003_4.length co68) ∧ w'.cell? ⟨go63, ((ji60)).toNat, none⟩ = some (.int .i64 (rd x107003_4 (ji60)))) (ds := [17]) #[false, false, false, false, false, false, false, false, false, false, false, false, false, false, false, false, false, false] (by kernel_rfl) rfl rfl ⟨(blk_cell BK106.out 0).trans rfl, (blk_cell BK106.out 1).trans rfl, (blk_cell BK106.out 2).trans rfl, (blk_cell BK106.out 3).trans rfl, hx112_0⟩ (fun hHeld => ?_); refine with_tabW spec_l03Reduced.tab20 spec_l03Reduced.bits20 (fun HT_ HW_ => ?_); generalize wr.drew = w69 at HO_8 HO_107003 BK101 BK102 BK106 HB GG63 HQ70 hf63_0 hx111_0 hx112_0 hx63_0 hHeld ⊢
                          refine Z57.pP 0 108 (Z57.b 18 1) (any_of HT_.out (by kernel_rfl)) ?_; refine Z57.pP 2 110 (Z57.b 18 5) (any_of HT_.out (by kernel_rfl)) ?_; refine Z57.pP 3 111 (Z57.b 18 13) (any_of HT_.out (by kernel_rfl)) ?_; refine Z57.pP 4 112 (Z57.b 18 29) (any_of HT_.out (by kernel_rfl)) ?_; refine Z57.pP 5 113 (Z57.b 18 61) (any_of HT_.out (by kernel_rfl)) ?_; refine Z57.pP 6 114 (Z57.b 18 125) (any_of HT_.out (by kernel_rfl)) ?_; refine Z57.pP 7 115 (Z57.b 18 253) (any_of HT_.out (by kernel_rfl)) ?_; refine Z57.pP 9 117 (Z57.b 18 765) (any_of HT_.out (by kernel_rfl)) ?_; refine Z57.pP 10 118 (Z57.b 18 1789) (any_of HT_.out (by kernel_rfl)) ?_; refine Z57.pP 11 119 (Z57.b 18 3837) (any_of HT_.out (by kernel_rfl)) ?_; refine Z57.pP 12 120 (Z57.b 18 7933) (any_of HT_.out (by kernel_rfl)) ?_; refine Z57.pP 13 121 (Z57.b 18 16125) (any_of HT_.out (by kernel_rfl)) ?_; refine Z57.pT5 1 109 (Z57.b 18 16127) (take_ofW HT_.out HW_.out (by kernel_rfl)) hHeld ?_; refine Z57.pT5 8 116 (Z57.b 18 16383) (take_ofW HT_.out HW_.out (by kernel_rfl)) hHeld ?_; refine Z57.pP 14 122 (Z57.b 18 32767) (any_of HT_.out (by kernel_rfl)) ?_; refine Z57.pT5 15 123 (Z57.b 18 65535) (take_ofW HT_.out HW_.out (by kernel_rfl)) hHeld ?_; refine Z57.pP 16 124 (Z57.b 18 131071) (any_of HT_.out (by kernel_rfl)) ?_; refine last_ (i := 17) (N := none) (Z57.b 18 262143) rfl rfl (one_of HT_.out (by kernel_rfl)) (by decide) (fun K hK => ?_); refine skip_ (w1 := ?_) (by rfl) rfl ?_ ?_
                          rotate_left
                          ·go_simp
                           rfl
                          refine hK.out _ _ ?_; clear hK K; refine done_ (done_of HT_.out (by kernel_rfl)) ?_; have n0_ : Aside0 (Kd.R (Kd.int .i64) 2 (w69.setCell ⟨go63, ((ji57) : Int).toNat, none⟩ (.int .i64 (rd x107003_4 (ji60)))) w.heap.size (fun k_ => some k_ ≠ (.slice (some ⟨go63, 0, none⟩) x107003_4.length co68 : Value).ownBlock) u8 x8_4) := ⟨(by (with_reducible repeat (first | apply Kd.R_alloc | apply Kd.R_drewN | apply Kd.R_drew)); exact Kd.R_mono (Kd.R_far (p := ⟨go63, ((ji57) : Int).toNat, none⟩) (Kd.R_mono HO_8.out (fun k_ hk => (⟨hk, fun e_ => hk (by rw [e_]; rfl)⟩ : _ ∧ k_ ≠ go63))) (fun _ hk => hk.2) (.int .i64 (rd x107003_4 (ji60)))) (fun _ hk => hk.1))⟩; have n1_ : Aside0 (Kd.R (Kd.int .i64) 2 (w69.setCell ⟨go63, ((ji57) : Int).toNat, none⟩ (.int .i64 (rd x107003_4 (ji60)))) w.heap.size (fun k_ => some k_ ≠ (u8 : Value).ownBlock) (.slice (some ⟨go63, 0, none⟩) x107003_4.length co68) y113) := ⟨(by (with_reducible repeat (first | apply Kd.R_alloc | apply Kd.R_drewN | apply Kd.R_drew)); exact HQ70.out)⟩; have n2_ : Aside0 ((w69.setCell ⟨go63, ((ji57) : Int).toNat, none⟩ (.int .i64 (rd x107003_4 (ji60)))).heap[g0_]? = some (.cells #[.int .i64 a0_0, .int .i64 a0_1, .int .i64 a0_2, .slice A0_3 l0_3.length c0_3] 28 (0, 0))) := ⟨Z57.z12⟩; have n3_ : Aside0 ((w69.setCell ⟨go63, ((ji57) : Int).toNat, none⟩ (.int .i64 (rd x107003_4 (ji60)))).heap[gb102]? = some (.cells #[.int .i64 0, .int .i64 0, .int .i64 0, .slice none 0 0] 28 (0, 0))) := ⟨Z57.z11⟩; have n4_ : Aside0 ((w69.setCell ⟨go63, ((ji57) : Int).toNat, none⟩ (.int .i64 (rd x107003_4 (ji60)))).heap[gb106]? = some (.cells #[.int .i64 a0_0, .int .i64 a0_1, .int .i64 a0_2, .slice (some ⟨go63, 0, none⟩) x107003_4.length co68] 28 (0, 0))) := ⟨Z57.z10⟩; have n5_ : Aside0 (Below w.heap.size w (w69.setCell ⟨go63, ((ji57) : Int).toNat, none⟩ (.int .i64 (rd x107003_4 (ji60))))) := ⟨(by repeat (first | (with_reducible first | exact HB.out | apply below_alloc | apply pw_below_drewN | apply below_drew1 | refine below_set ?_ GB63.out | refine below_set ?_ GE101.out | refine below_set ?_ GE102.out | refine below_set ?_ GE106.out) | exact HB.out))⟩; (try clear HO_8); (try clear HO_107003); (try clear BK101); (try clear BK102); (try clear BK106); (try clear HB); generalize (w69.setCell ⟨go63, ((ji57) : Int).toNat, none⟩ (.int .i64 (rd x107003_4 (ji60)))) = w71 at n0_ n1_ n2_ n3_ n4_ n5_ ⊢
                          have HO_8 := n0_; have HO_107003 := n1_; have BK101 := n2_; have BK102 := n3_; have BK106 := n4_; have HB := n5_; clear n0_ n1_ n2_ n3_ n4_ n5_; obtain ⟨hcz72_0, hcz72_1, hcz72_2, hcz72_3, hfz72_0, hfz72_1, hfz72_2, hfz72_3⟩ := cells4 BK106.out; have p64 : 0 ≤ ((ji60) : Int) := of_decide_eq_true Z57.z8; have q64 : ((ji60) : Int) < ((x107003_4.length : Int) : Int) := of_decide_eq_true Z57.z8; obtain ⟨hx64_0, hf64_0⟩ := Kd.R_celln 0 HO_107003.out ((ji60) : Int) p64 q64; replace p64 := eq_true p64; replace q64 := eq_true q64; obtain ⟨hy73_, hz73_⟩ := Kd.R_celln 0 HO_107003.out ((ji60) : Int) (of_decide_eq_true Z57.z8) (of_decide_eq_true Z57.z8); have HP73 := Kd.R_putg HO_107003.out ((ji60) : Int) (rd x107003_4 (ji57))
                          try go_wp2_with (first | ((with_reducible refine gate_store (t := 2) (p := 133) rfl ?_); refine store_event (t := 2) (p := 133) (v := ?vo_w74) (w1 := (w71.setCell ⟨go63, ((ji60) : Int).toNat, none⟩ (.int .i64 (rd x107003_4 (ji57))))) ?hg ?ho ?hn ?hr ?_; (case ho => rfl); (case hg => rfl); (case hn => rfl); (case hr => first | (go_simp; done) | (go_simp; rfl)); intro w74 hw; have hg : w71.grownBy w74 (some go63) := (by rw [hw]; exact HP73.2); have hp_ : Kd.R (Kd.int .i64) 2 w74 w.heap.size (fun k_ => some k_ ≠ (u8 : Value).ownBlock) (.slice (some ⟨go63, 0, none⟩) x107003_4.length co68) y114 := (by rw [hw, Ny114.out]; exact HP73.1); clear HP73; replace HO_8 := Z57.k (Kd.R_after (v := (.slice (some ⟨go63, 0, none⟩) x107003_4.length co68)) (v1 := (.slice (some ⟨go63, 0, none⟩) x107003_4.length co68)) (ok := (fun _ => True)) (by (with_reducible repeat (first | apply Kd.R_alloc | apply Kd.R_drewN | apply Kd.R_drew)); exact Kd.R_mono HO_8.out (fun _ hk => ⟨trivial, hk⟩)) hg (.inl rfl)); replace BK101 := Z57.k (blk_grown (g := g0_) (o := .cells #[.int .i64 a0_0, .int .i64 a0_1, .int .i64 a0_2, .slice A0_3 l0_3.length c0_3] 28 (0, 0)) Z57.z2 hg (Kd.R_ne HO_107003.out BK101.out (by decide))); replace BK102 := Z57.k (blk_grown (g := gb102) (o := .cells #[.int .i64 0, .int .i64 0, .int .i64 0, .slice none 0 0] 28 (0, 0)) Z57.z3 hg (Kd.R_ne HO_107003.out BK102.out (by decide))); replace BK106 := Z57.k (blk_grown (g := gb106) (o := .cells #[.int .i64 a0_0, .int .i64 a0_1, .int .i64 a0_2, .slice (some ⟨go63, 0, none⟩) x107003_4.length co68] 28 (0, 0)) Z57.z4 hg (Kd.R_ne HO_107003.out BK106.out (by decide))); replace HO_107003 := Z57.k (hp_); replace HB := Z57.k ((by rw [hw]; exact below_set (HB.out) GB63.out : Below w.heap.size w w74)); clear hg hw hp_))
                          go_roundg k4
                          case measure => have := HK1.out; have := HJ19.out; have := HJ25.out; have := HK4.out; omega
                          case rel => exact ⟨(x8_4), (wrap64 (x13_4 + 1)), (y114), (.slice (some ⟨go63, 0, none⟩) x107003_4.length co68), Z57.z9, H', ⟨(by have := HK1.out; have := HJ19.out; have := HJ25.out; have := HK4.out; omega)⟩, ⟨(by (with_reducible repeat (first | apply Kd.R_alloc | apply Kd.R_drewN | apply Kd.R_drew)); exact Kd.R_mono HO_8.out (fun _ hk => hk.2))⟩, ⟨Z57.z5⟩, ⟨Z57.z2⟩, ⟨Z57.z3⟩, ⟨Z57.z4⟩, ⟨Z57.z1⟩⟩
                        rw [if_neg c62] at H; exact absurd H (by simp)
                      rw [if_neg c61] at H; exact absurd H (by simp)
                    rw [if_neg c59] at H; exact absurd H (by simp)
                  rw [if_neg c58] at H; exact absurd H (by simp)
                rw [if_neg c56] at H; have c56b0 : decide (x13_4 < a0_2) = false := decide_eq_false c56; clear c56; have H' := Z57.k H; clear H
                go_wp2
                go_meet
                case rel => exact ⟨_, (x8_4), ((wrap64 (a0_0 - x9_1))), (x107003_4), (u107003), Z57.z9, H', ⟨(by have := HK1.out; have := HJ19.out; have := HJ25.out; have := HK4.out; first | omega | exact Nat.le_refl _)⟩, ⟨Z57.z6⟩, ⟨Z57.z5⟩, ⟨Z57.z2⟩, ⟨Z57.z3⟩, ⟨Z57.z4⟩, ⟨Z57.z1⟩⟩
           case rest =>
            clear HC51; (try clear c1); (try clear p1); (try clear q1); (try clear hx1); (try clear c2); (try clear p2); (try clear c3); (try clear c4); (try clear c5); (try clear c6); (try clear p6); (try clear q6); (try clear hx6); (try clear hf6); (try clear p11); (try clear q11); (try clear hx11); (try clear c15); (try clear c16); (try clear c21); (try clear c21b0); (try clear c22); (try clear c23); (try clear c25); (try clear c27); (try clear c27b0); (try clear c29); (try clear c29b0); (try clear c30); (try clear c30b0); (try clear c31); (try clear c31b0); (try clear c31b1); (try clear c32); (try clear c33); (try clear c34); (try clear c35); (try clear c38); (try clear c39); (try clear c41); (try clear c44); (try clear c45); (try clear c47); (try clear c47b0); (try clear c47b1); (try clear c48); (try clear c49); (try clear c52); (try clear c53); (try clear c55); (try clear c55b0); (try clear c55b1); (try clear c56); (try clear c56b0); (try clear c58); (try clear c58b0); (try clear c59); (try clear c59b0); (try clear c61); (try clear c61b0); (try clear c62); (try clear c62b0); (try clear p63); (try clear q63); (try clear hx63); (try clear hf63); (try clear p64); (try clear q64); (try clear hx64); (try clear hf64); (try clear c65); (try clear c66); (try clear hcz17_0); (try clear hcz17_1); (try clear hcz17_2); (try clear hcz17_3); (try clear hcz24_0); (try clear hcz24_1); (try clear hcz24_2); (try clear hcz24_3); (try clear hcz34_0); (try clear hcz34_1); (try clear hcz34_2); (try clear hcz34_3); (try clear hcz36_0); (try clear hcz36_1); (try clear hcz36_2); (try clear hcz36_3); (try clear hcz40_0); (try clear hcz40_1); (try clear hcz40_2); (try clear hcz40_3); (try clear hcz42_0); (try clear hcz42_1); (try clear hcz42_2); (try clear hcz42_3); (try clear hcz46_0); (try clear hcz46_1); (try clear hcz46_2); (try clear hcz46_3); (try clear hcz50_0); (try clear hcz50_1); (try clear hcz50_2); (try clear hcz50_3); (try clear hcz54_0); (try clear hcz54_1); (try clear hcz54_2); (try clear hcz54_3); (try clear hcz67_0); (try clear hcz67_1); (try clear hcz67_2); (try clear hcz67_3); (try clear hcz72_0); (try clear hcz72_1); (try clear hcz72_2); (try clear hcz72_3); (try clear hfz17_0); (try clear hfz17_1); (try clear hfz17_2); (try clear hfz17_3); (try clear hfz24_0); (try clear hfz24_1); (try clear hfz24_2); (try clear hfz24_3); (try clear hfz34_0); (try clear hfz34_1); (try clear hfz34_2); (try clear hfz34_3); (try clear hfz36_0); (try clear hfz36_1); (try clear hfz36_2); (try clear hfz36_3); (try clear hfz40_0); (try clear hfz40_1); (try clear hfz40_2); (try clear hfz40_3); (try clear hfz42_0); (try clear hfz42_1); (try clear hfz42_2); (try clear hfz42_3); (try clear hfz46_0); (try clear hfz46_1); (try clear hfz46_2); (try clear hfz46_3); (try clear hfz50_0); (try clear hfz50_1); (try clear hfz50_2); (try clear hfz50_3); (try clear hfz54_0); (try clear hfz54_1); (try clear hfz54_2); (try clear hfz54_3); (try clear hfz67_0); (try clear hfz67_1); (try clear hfz67_2); (try clear hfz67_3); (try clear hfz72_0); (try clear hfz72_1); (try clear hfz72_2); (try clear hfz72_3); (try clear hx110_0); (try clear hx111_0); (try clear hx112_0); (try clear hx63_0); (try clear hx64_0); (try clear p1); (try clear p11); (try clear p110); (try clear p111); (try clear p112); (try clear p2); (try clear p6); (try clear p63); (try clear p64); (try clear q1); (try clear q11); (try clear q110); (try clear q111); (try clear q112); (try clear q63); (try clear q64); obtain ⟨kq, x8_50, x9_50, x107003_50, u107003, rfl, HA, HJ50, HO_8, HO_107003, BK101, BK102, BK106, HB⟩ := hcut; cases kq with
            | zero => exact absurd HA.out (by simp [spec_l03Reduced.j5])
            | succ kj50 =>
             have H := HA.out
             clear HA; simp only [spec_l03Reduced.j5] at H
             obtain ⟨ji75, hji75⟩ : ∃ j_ : Int, (wrap64 ((wrap64 (x10_1 * a0_2)) + x11_1)) = j_ := ⟨_, rfl⟩; replace H : (if 0 ≤ (ji75) then (if (ji75) < (x107003_50.length : Int) then (if a0_0 = 0 then (none) else ((spec_l03Inverse.f kj50 (rd x107003_50 (ji75)) a0_0).bind fun t116 => (spec_l03Reduced.l3 kj50 a0_0 a0_2 x8_50 (Int.tmod (wrap64 (x9_50 * (rd x107003_50 (ji75)))) a0_0) x10_1 x11_1 t116 0 a0_0 a0_1 a0_2 l0_3 a0_0 a0_1 a0_2 x107003_50))) else (none)) else (none)) = some (r1, r2, r3, r4, r5, r6) := by first | (rw [hji75] at H; exact H) | (simp only [hji75] at H ⊢; exact H)
             have hji75w : (IntKind.i64.wrap ((wrap64 (x10_1 * a0_2)) + x11_1)) = ji75 := (i64_w _).trans hji75
             by_cases c76 : 0 ≤ (ji75)
             ·as_aux_lemma =>
               rw [if_pos c76] at H; have c76b0 : decide (0 ≤ (ji75)) = true := decide_eq_true c76; clear c76
               by_cases c77 : (ji75) < (x107003_50.length : Int)
               ·as_aux_lemma =>
                 rw [if_pos c77] at H; have c77b0 : decide ((ji75) < (x107003_50.length : Int)) = true := decide_eq_true c77; clear c77
                 by_cases c78 : a0_0 = 0
                 ·rw [if_pos c78] at H
                  exact absurd H (by simp)
                 ·as_aux_lemma =>
                   rw [if_neg c78] at H; have c78b0 : (a0_0 == 0) = false := beq_eq_false_iff_ne.mpr c78; have c78b1 : (a0_0 != 0) = true := bne_iff_ne.mpr c78; replace H := Option.bind_eq_some_iff.mp H; obtain ⟨t116, A790, H⟩ := H
                   (try dsimp only at H)
                   have A79 := Z57.k A790; clear A790; have H' := Z57.k H; clear H; have hnb80 := NB106_101.out; have hnc80 := NB101_106.out; have hnb81 := NB106_102.out; have hnc81 := NB102_106.out; obtain ⟨hcz82_0, hcz82_1, hcz82_2, hcz82_3, hfz82_0, hfz82_1, hfz82_2, hfz82_3⟩ := cells4 BK106.out; obtain ⟨Ao83, co83, eo83⟩ := Kd.R_slice HO_107003.out; subst eo83; have p115 : 0 ≤ ((ji75) : Int) := of_decide_eq_true Z57.z8; have q115 : (ji75) < (x107003_50.length : Int) := of_decide_eq_true Z57.z8; obtain ⟨ad115, e115, hx115_0⟩ := Kd.at_int (Kd.R_reads' HO_107003.out).2.2 (ji75) p115 q115; cases e115; replace p115 := eq_true p115; replace q115 := eq_true q115
                   go_wp2_with (first | ((with_reducible refine gate_callee (f := 86) rfl ?_); refine goesL_ (some 150) rfl rfl Try.func86 (by kernel_rfl) rfl #[.int .i64 (rd x107003_50 (ji75)), .int .i64 a0_0] rfl (by (try simp only [List.map_toArray, List.map_cons, List.map_nil]); first | done | (simp only [hji75]; rfl) | rfl | (simp only [List.length_drop, List.length_take]; rfl)) ?_; (with_reducible refine (spec_l03Inverse.calls kj50 (rd x107003_50 (ji75)) a0_0 t116 _ A79.out).mono ?_); rintro e w' ⟨rfl, ⟨nd, rfl⟩⟩; refine ⟨_, rfl, ?_⟩))
                   go_loopg [17] kj50 (fun kq v17 w' => ∃ (x8_5 : List Int) (x17_5 : Int) (x107003_5 : List Int) (u107003 : Value), v17 = .int .i64 x17_5 ∧ Aside0 (spec_l03Reduced.l3 kq a0_0 a0_2 x8_5 (Int.tmod (wrap64 (x9_50 * (rd x107003_50 (ji75)))) a0_0) x10_1 x11_1 t116 x17_5 a0_0 a0_1 a0_2 l0_3 a0_0 a0_1 a0_2 x107003_5 = some (r1, r2, r3, r4, r5, r6)) ∧ Aside0 (kq ≤ kj50) ∧ Aside0 (Kd.R (Kd.int .i64) 2 w' w.heap.size (fun k_ => some k_ ≠ (u107003 : Value).ownBlock) u8 x8_5) ∧ Aside0 (Kd.R (Kd.int .i64) 2 w' w.heap.size (fun k_ => some k_ ≠ (u8 : Value).ownBlock) u107003 x107003_5) ∧ Aside0 (w'.heap[g0_]? = some (.cells #[.int .i64 a0_0, .int .i64 a0_1, .int .i64 a0_2, (.slice A0_3 l0_3.length c0_3)] 28 (0, 0))) ∧ Aside0 (w'.heap[gb102]? = some (.cells #[.int .i64 0, .int .i64 0, .int .i64 0, (.slice none 0 0)] 28 (0, 0))) ∧ Aside0 (w'.heap[gb106]? = some (.cells #[.int .i64 a0_0, .int .i64 a0_1, .int .i64 a0_2, u107003] 28 (0, 0))) ∧ Aside0 (Below w.heap.size w w'))
                   case atStart => exact ⟨(x8_50), (0), (x107003_50), (.slice (some ad115) x107003_50.length co83), Z57.z9, H', ⟨Nat.le_refl _⟩, ⟨Z57.z6⟩, ⟨Z57.z5⟩, ⟨Z57.z2⟩, ⟨Z57.z3⟩, ⟨Z57.z4⟩, ⟨Z57.z1⟩⟩
                   case round =>
                    clear H'; (try clear c1); (try clear p1); (try clear q1); (try clear hx1); (try clear c2); (try clear p2); (try clear c3); (try clear c4); (try clear c5); (try clear c6); (try clear p6); (try clear q6); (try clear hx6); (try clear hf6); (try clear c7); (try clear c8); (try clear p11); (try clear q11); (try clear hx11); (try clear c15); (try clear c16); (try clear c21); (try clear c21b0); (try clear c22); (try clear c23); (try clear c25); (try clear c27); (try clear c27b0); (try clear c29); (try clear c29b0); (try clear c30); (try clear c30b0); (try clear c31); (try clear c31b0); (try clear c31b1); (try clear c32); (try clear c33); (try clear c34); (try clear c35); (try clear c38); (try clear c39); (try clear c41); (try clear c44); (try clear c45); (try clear c47); (try clear c47b0); (try clear c47b1); (try clear c48); (try clear c49); (try clear c52); (try clear c53); (try clear c55); (try clear c55b0); (try clear c55b1); (try clear c56); (try clear c56b0); (try clear c58); (try clear c58b0); (try clear c59); (try clear c59b0); (try clear c61); (try clear c61b0); (try clear c62); (try clear c62b0); (try clear p63); (try clear q63); (try clear hx63); (try clear hf63); (try clear p64); (try clear q64); (try clear hx64); (try clear hf64); (try clear c65); (try clear c66); (try clear c76); (try clear c76b0); (try clear c77); (try clear c77b0); (try clear c78); (try clear c78b0); (try clear c78b1); (try clear c80); (try clear c81); (try clear hcz17_0); (try clear hcz17_1); (try clear hcz17_2); (try clear hcz17_3); (try clear hcz24_0); (try clear hcz24_1); (try clear hcz24_2); (try clear hcz24_3); (try clear hcz34_0); (try clear hcz34_1); (try clear hcz34_2); (try clear hcz34_3); (try clear hcz36_0); (try clear hcz36_1); (try clear hcz36_2); (try clear hcz36_3); (try clear hcz40_0); (try clear hcz40_1); (try clear hcz40_2); (try clear hcz40_3); (try clear hcz42_0); (try clear hcz42_1); (try clear hcz42_2); (try clear hcz42_3); (try clear hcz46_0); (try clear hcz46_1); (try clear hcz46_2); (try clear hcz46_3); (try clear hcz50_0); (try clear hcz50_1); (try clear hcz50_2); (try clear hcz50_3); (try clear hcz54_0); (try clear hcz54_1); (try clear hcz54_2); (try clear hcz54_3); (try clear hcz67_0); (try clear hcz67_1); (try clear hcz67_2); (try clear hcz67_3); (try clear hcz72_0); (try clear hcz72_1); (try clear hcz72_2); (try clear hcz72_3); (try clear hcz82_0); (try clear hcz82_1); (try clear hcz82_2); (try clear hcz82_3); (try clear hfz17_0); (try clear hfz17_1); (try clear hfz17_2); (try clear hfz17_3); (try clear hfz24_0); (try clear hfz24_1); (try clear hfz24_2); (try clear hfz24_3); (try clear hfz34_0); (try clear hfz34_1); (try clear hfz34_2); (try clear hfz34_3); (try clear hfz36_0); (try clear hfz36_1); (try clear hfz36_2); (try clear hfz36_3); (try clear hfz40_0); (try clear hfz40_1); (try clear hfz40_2); (try clear hfz40_3); (try clear hfz42_0); (try clear hfz42_1); (try clear hfz42_2); (try clear hfz42_3); (try clear hfz46_0); (try clear hfz46_1); (try clear hfz46_2); (try clear hfz46_3); (try clear hfz50_0); (try clear hfz50_1); (try clear hfz50_2); (try clear hfz50_3); (try clear hfz54_0); (try clear hfz54_1); (try clear hfz54_2); (try clear hfz54_3); (try clear hfz67_0); (try clear hfz67_1); (try clear hfz67_2); (try clear hfz67_3); (try clear hfz72_0); (try clear hfz72_1); (try clear hfz72_2); (try clear hfz72_3); (try clear hfz82_0); (try clear hfz82_1); (try clear hfz82_2); (try clear hfz82_3); (try clear hx110_0); (try clear hx111_0); (try clear hx112_0); (try clear hx115_0); (try clear hx63_0); (try clear hx64_0); (try clear p1); (try clear p11); (try clear p110); (try clear p111); (try clear p112); (try clear p115); (try clear p2); (try clear p6); (try clear p63); (try clear p64); (try clear q1); (try clear q11); (try clear q110); (try clear q111); (try clear q112); (try clear q115); (try clear q6); (try clear q63); (try clear q64); obtain ⟨x8_5, x17_5, x107003_5, u107003, rfl, HA, HK5, HO_8, HO_107003, BK101, BK102, BK106, HB⟩ := hrel; cases gk with
                    | zero => exact absurd HA.out (by simp [spec_l03Reduced.l3])
                    | succ k5 =>
                     have H := HA.out
                     clear HA; simp only [spec_l03Reduced.l3] at H
                     by_cases c84 : x17_5 < a0_2
                     ·as_aux_lemma =>
                       rw [if_pos c84] at H; have c84b0 : decide (x17_5 < a0_2) = true := decide_eq_true c84; clear c84; obtain ⟨ji85, hji85⟩ : ∃ j_ : Int, (wrap64 ((wrap64 (x10_1 * a0_2)) + x17_5)) = j_ := ⟨_, rfl⟩; replace H : (if 0 ≤ (ji85) then (if (ji85) < (x107003_5.length : Int) then (if a0_0 = 0 then (none) else (spec_l03Reduced.l3 k5 a0_0 a0_2 x8_5 (Int.tmod (wrap64 (x9_50 * (rd x107003_50 (ji75)))) a0_0) x10_1 x11_1 t116 (wrap64 (x17_5 + 1)) a0_0 a0_1 a0_2 l0_3 a0_0 a0_1 a0_2 (x107003_5.set ((ji85) : Int).toNat (Int.tmod (wrap64 ((rd x107003_5 (ji85)) * t116)) a0_0)))) else (none)) else (none)) = some (r1, r2, r3, r4, r5, r6) := by first | (rw [hji85] at H; exact H) | (simp only [hji85] at H ⊢; exact H)
                       have hji85w : (IntKind.i64.wrap ((wrap64 (x10_1 * a0_2)) + x17_5)) = ji85 := (i64_w _).trans hji85
                       by_cases c86 : 0 ≤ (ji85)
                       ·as_aux_lemma =>
                         rw [if_pos c86] at H; have c86b0 : decide (0 ≤ (ji85)) = true := decide_eq_true c86; clear c86
                         by_cases c87 : (ji85) < (x107003_5.length : Int)
                         ·as_aux_lemma =>
                           rw [if_pos c87] at H; have c87b0 : decide ((ji85) < (x107003_5.length : Int)) = true := decide_eq_true c87; clear c87
                           by_cases c88 : a0_0 = 0
                           ·rw [if_pos c88] at H
                            exact absurd H (by simp)
                           ·as_aux_lemma =>
                             rw [if_neg c88] at H; have c88b0 : (a0_0 == 0) = false := beq_eq_false_iff_ne.mpr c88; have c88b1 : (a0_0 != 0) = true := bne_iff_ne.mpr c88; obtain ⟨y118, hy118⟩ : ∃ y_ : List Int, y_ = (x107003_5.set ((ji85) : Int).toNat (Int.tmod (wrap64 ((rd x107003_5 (ji85)) * t116)) a0_0)) := ⟨_, rfl⟩; replace H : (spec_l03Reduced.l3 k5 a0_0 a0_2 x8_5 (Int.tmod (wrap64 (x9_50 * (rd x107003_50 (ji75)))) a0_0) x10_1 x11_1 t116 (wrap64 (x17_5 + 1)) a0_0 a0_1 a0_2 l0_3 a0_0 a0_1 a0_2 y118) = some (r1, r2, r3, r4, r5, r6) := by first | (rw [hy118]; with_reducible exact H) | (have H2_ := (Option.bind_some _ _).symm.trans H; rw [hy118]; with_reducible exact H2_) | (have H2_ := (Option.bind_some _ _).symm.trans H; with_reducible exact H2_) | with_reducible exact H | (rw [hy118]; exact H) | exact H
                             have Ny118 := Z57.k hy118; clear hy118; have H' := Z57.k H; clear H
                             try go_wp2
                             replace HO_8 := Z57.k (Kd.R_drew HO_8.out); replace HO_107003 := Z57.k (Kd.R_drew HO_107003.out); replace BK101 := Z57.k (blk_drew BK101.out); replace BK102 := Z57.k (blk_drew BK102.out); replace BK106 := Z57.k (blk_drew BK106.out); replace HB := Z57.k (below_drew1 HB.out); obtain ⟨Ao91, co91, eo91⟩ := Kd.R_slice HO_107003.out
                             (first | subst eo91 | (injection eo91 with f1_ f2_ f3_; have f4_ := f1_.symm; have f5_ := f3_.symm; clear f1_ f2_ f3_; subst f4_; subst f5_))
                             have p117 : 0 ≤ ((ji85) : Int) := of_decide_eq_true Z57.z8; have q117 : (ji85) < (x107003_5.length : Int) := of_decide_eq_true Z57.z8; obtain ⟨ad117, e117, hx117_0⟩ := Kd.at_int (Kd.R_reads' HO_107003.out).2.2 (ji85) p117 q117; cases e117; replace p117 := eq_true p117; replace q117 := eq_true q117; have p89 : 0 ≤ ((ji85) : Int) := of_decide_eq_true Z57.z8; have q89 : ((ji85) : Int) < ((x107003_5.length : Int) : Int) := of_decide_eq_true Z57.z8; obtain ⟨go89, co89, eo89, gb89, gl89, cl89, HG89⟩ := Kd.R_form HO_107003.out (by omega)
                             (first | cases eo89 | (injection eo89 with ea_ en_ ec_; (first | subst ea_ | (injection ea_ with ea_; subst ea_)); subst ec_; clear en_))
                             have GB89 := Z57.k gb89; have GG89 := Z57.k HG89; clear gb89 gl89 HG89
                             (first | simp only [add_plain] at hx117_0 | skip)
                             obtain ⟨hx89_0, hf89_0⟩ := Kd.R_celln 0 HO_107003.out ((ji85) : Int) p89 q89; replace p89 := eq_true p89; replace q89 := eq_true q89; have HP92 := Kd.R_putn HO_107003.out ((ji85) : Int) (Int.tmod (wrap64 ((rd x107003_5 (ji85)) * t116)) a0_0); rw [← Ny118.out] at HP92; have HQ92 := Z57.k HP92; clear HP92; refine start_ (n := 22) (S := fun w' => w'.cell? ⟨gb106, 0, none⟩ = some (.int .i64 a0_0) ∧ w'.cell? ⟨gb106, 1, none⟩ = some (.int .i64 a0_1) ∧ w'.cell? ⟨gb106, 2, none⟩ = some (.int .i64 a0_2) ∧ w'.cell? ⟨gb106, 3, none⟩ = some (.slice (some ⟨go89, 0, none⟩) x107003_5.length co91) ∧ w'.cell? ⟨go89, ((ji85)).toNat, none⟩ = some (.int .i64 (rd x107003_5 (ji85)))) (ds := [21]) #[false, false, false, false, false, false, false, false, false, false, false, false, false, false, false, false, false, false, false, false, false, false] (by kernel_rfl) rfl rfl ⟨(blk_cell BK106.out 0).trans rfl, (blk_cell BK106.out 1).trans rfl, (blk_cell BK106.out 2).trans rfl, (blk_cell BK106.out 3).trans rfl, hx117_0⟩ (fun hHeld => ?_); refine with_tabW spec_l03Reduced.tab28 spec_l03Reduced.bits28 (fun HT_ HW_ => ?_); generalize wr.drew = w90 at HO_8 HO_107003 BK101 BK102 BK106 HB GG89 HQ92 hf89_0 hx117_0 hx89_0 hHeld ⊢
                             refine Z57.pP 0 156 (Z57.b 22 1) (any_of HT_.out (by kernel_rfl)) ?_; refine Z57.pP 2 158 (Z57.b 22 5) (any_of HT_.out (by kernel_rfl)) ?_; refine Z57.pP 3 159 (Z57.b 22 13) (any_of HT_.out (by kernel_rfl)) ?_; refine Z57.pP 4 160 (Z57.b 22 29) (any_of HT_.out (by kernel_rfl)) ?_; refine Z57.pP 5 161 (Z57.b 22 61) (any_of HT_.out (by kernel_rfl)) ?_; refine Z57.pP 6 162 (Z57.b 22 125) (any_of HT_.out (by kernel_rfl)) ?_; refine Z57.pP 7 163 (Z57.b 22 253) (any_of HT_.out (by kernel_rfl)) ?_; refine Z57.pP 9 165 (Z57.b 22 765) (any_of HT_.out (by kernel_rfl)) ?_; refine Z57.pP 10 166 (Z57.b 22 1789) (any_of HT_.out (by kernel_rfl)) ?_; refine Z57.pP 11 167 (Z57.b 22 3837) (any_of HT_.out (by kernel_rfl)) ?_; refine Z57.pP 12 168 (Z57.b 22 7933) (any_of HT_.out (by kernel_rfl)) ?_; refine Z57.pP 13 169 (Z57.b 22 16125) (any_of HT_.out (by kernel_rfl)) ?_; refine Z57.pP 16 172 (Z57.b 22 81661) (any_of HT_.out (by kernel_rfl)) ?_; refine Z57.pP 18 174 (Z57.b 22 343805) (any_of HT_.out (by kernel_rfl)) ?_; refine Z57.pT5 1 157 (Z57.b 22 343807) (take_ofW HT_.out HW_.out (by kernel_rfl)) hHeld ?_; refine Z57.pT5 8 164 (Z57.b 22 344063) (take_ofW HT_.out HW_.out (by kernel_rfl)) hHeld ?_; refine Z57.pP 14 170 (Z57.b 22 360447) (any_of HT_.out (by kernel_rfl)) ?_; refine Z57.pT5 15 171 (Z57.b 22 393215) (take_ofW HT_.out HW_.out (by kernel_rfl)) hHeld ?_; refine Z57.pP 17 173 (Z57.b 22 524287) (any_of HT_.out (by kernel_rfl)) ?_; refine Z57.pP 19 175 (Z57.b 22 1048575) (any_of HT_.out (by kernel_rfl)) ?_; refine Z57.pP 20 176 (Z57.b 22 2097151) (any_of HT_.out (by kernel_rfl)) ?_; refine last_ (i := 21) (N := none) (Z57.b 22 4194303) rfl rfl (one_of HT_.out (by kernel_rfl)) (by decide) (fun K hK => ?_); refine skip_ (w1 := ?_) (by rfl) rfl ?_ ?_
                             rotate_left
                             ·go_simp
                              rfl
                             refine hK.out _ _ ?_; clear hK K; refine done_ (done_of HT_.out (by kernel_rfl)) ?_
                             try go_wp2
                             go_roundg k5
                             case measure => have := HK1.out; have := HJ19.out; have := HJ25.out; have := HJ50.out; have := HK5.out; omega
                             case rel => exact ⟨(x8_5), (wrap64 (x17_5 + 1)), (y118), (.slice (some ⟨go89, 0, none⟩) x107003_5.length co91), Z57.z9, H', ⟨(by have := HK1.out; have := HJ19.out; have := HJ25.out; have := HJ50.out; have := HK5.out; omega)⟩, ⟨(by (with_reducible repeat (first | apply Kd.R_alloc | apply Kd.R_drewN | apply Kd.R_drew)); exact Kd.R_mono (Kd.R_far (p := ⟨go89, ((ji85) : Int).toNat, none⟩) (Kd.R_mono HO_8.out (fun k_ hk => (⟨hk, fun e_ => hk (by rw [e_]; rfl)⟩ : _ ∧ k_ ≠ go89))) (fun _ hk => hk.2) (.int .i64 (Int.tmod (wrap64 ((rd x107003_5 (ji85)) * t116)) a0_0))) (fun _ hk => hk.1))⟩, ⟨(by (with_reducible repeat (first | apply Kd.R_alloc | apply Kd.R_drewN | apply Kd.R_drew)); exact HQ92.out)⟩, ⟨Z57.z12⟩, ⟨Z57.z11⟩, ⟨Z57.z10⟩, ⟨(by repeat (first | (with_reducible first | exact HB.out | apply below_alloc | apply pw_below_drewN | apply below_drew1 | refine below_set ?_ GB89.out | refine below_set ?_ GE101.out | refine below_set ?_ GE102.out | refine below_set ?_ GE106.out) | exact HB.out))⟩⟩
                         rw [if_neg c87] at H; exact absurd H (by simp)
                       rw [if_neg c86] at H; exact absurd H (by simp)
                     ·as_aux_lemma =>
                       rw [if_neg c84] at H; have c84b0 : decide (x17_5 < a0_2) = false := decide_eq_false c84; clear c84; have H' := Z57.k H; clear H
                       go_wp2
                       go_loopg [18] k5 (fun kq v18 w' => ∃ (x8_6 : List Int) (x18_6 : Int) (x107003_6 : List Int) (u107003 : Value), v18 = .int .i64 x18_6 ∧ Aside0 (spec_l03Reduced.l4 kq a0_0 a0_2 x8_6 (Int.tmod (wrap64 (x9_50 * (rd x107003_50 (ji75)))) a0_0) x10_1 x11_1 x18_6 a0_0 a0_1 a0_2 l0_3 a0_0 a0_1 a0_2 x107003_6 = some (r1, r2, r3, r4, r5, r6)) ∧ Aside0 (kq ≤ k5) ∧ Aside0 (Kd.R (Kd.int .i64) 2 w' w.heap.size (fun k_ => some k_ ≠ (u107003 : Value).ownBlock) u8 x8_6) ∧ Aside0 (Kd.R (Kd.int .i64) 2 w' w.heap.size (fun k_ => some k_ ≠ (u8 : Value).ownBlock) u107003 x107003_6) ∧ Aside0 (w'.heap[g0_]? = some (.cells #[.int .i64 a0_0, .int .i64 a0_1, .int .i64 a0_2, (.slice A0_3 l0_3.length c0_3)] 28 (0, 0))) ∧ Aside0 (w'.heap[gb102]? = some (.cells #[.int .i64 0, .int .i64 0, .int .i64 0, (.slice none 0 0)] 28 (0, 0))) ∧ Aside0 (w'.heap[gb106]? = some (.cells #[.int .i64 a0_0, .int .i64 a0_1, .int .i64 a0_2, u107003] 28 (0, 0))) ∧ Aside0 (Below w.heap.size w w'))
                       case atStart => exact ⟨(x8_5), (0), (x107003_5), (u107003), Z57.z9, H', ⟨Nat.le_refl _⟩, ⟨Z57.z6⟩, ⟨Z57.z5⟩, ⟨Z57.z2⟩, ⟨Z57.z3⟩, ⟨Z57.z4⟩, ⟨Z57.z1⟩⟩
                       case round =>
                        clear H'; (try clear c1); (try clear p1); (try clear q1); (try clear hx1); (try clear c2); (try clear p2); (try clear c3); (try clear c4); (try clear c5); (try clear c6); (try clear p6); (try clear q6); (try clear hx6); (try clear hf6); (try clear c7); (try clear c8); (try clear p8); (try clear q8); (try clear hx8); (try clear hf8); (try clear p11); (try clear q11); (try clear hx11); (try clear c15); (try clear c16); (try clear c21); (try clear c21b0); (try clear c22); (try clear c23); (try clear c25); (try clear c27); (try clear c27b0); (try clear c29); (try clear c29b0); (try clear c30); (try clear c30b0); (try clear c31); (try clear c31b0); (try clear c31b1); (try clear c32); (try clear c33); (try clear c34); (try clear c35); (try clear c38); (try clear c39); (try clear c41); (try clear c44); (try clear c45); (try clear c47); (try clear c47b0); (try clear c47b1); (try clear c48); (try clear c49); (try clear c52); (try clear c53); (try clear c55); (try clear c55b0); (try clear c55b1); (try clear c56); (try clear c56b0); (try clear c58); (try clear c58b0); (try clear c59); (try clear c59b0); (try clear c61); (try clear c61b0); (try clear c62); (try clear c62b0); (try clear p63); (try clear q63); (try clear hx63); (try clear hf63); (try clear p64); (try clear q64); (try clear hx64); (try clear hf64); (try clear c65); (try clear c66); (try clear c76); (try clear c76b0); (try clear c77); (try clear c77b0); (try clear c78); (try clear c78b0); (try clear c78b1); (try clear c80); (try clear c81); (try clear c84); (try clear c84b0); (try clear c86); (try clear c86b0); (try clear c87); (try clear c87b0); (try clear c88); (try clear c88b0); (try clear c88b1); (try clear p89); (try clear q89); (try clear hx89); (try clear hf89); (try clear hcz17_0); (try clear hcz17_1); (try clear hcz17_2); (try clear hcz17_3); (try clear hcz24_0); (try clear hcz24_1); (try clear hcz24_2); (try clear hcz24_3); (try clear hcz34_0); (try clear hcz34_1); (try clear hcz34_2); (try clear hcz34_3); (try clear hcz36_0); (try clear hcz36_1); (try clear hcz36_2); (try clear hcz36_3); (try clear hcz40_0); (try clear hcz40_1); (try clear hcz40_2); (try clear hcz40_3); (try clear hcz42_0); (try clear hcz42_1); (try clear hcz42_2); (try clear hcz42_3); (try clear hcz46_0); (try clear hcz46_1); (try clear hcz46_2); (try clear hcz46_3); (try clear hcz50_0); (try clear hcz50_1); (try clear hcz50_2); (try clear hcz50_3); (try clear hcz54_0); (try clear hcz54_1); (try clear hcz54_2); (try clear hcz54_3); (try clear hcz67_0); (try clear hcz67_1); (try clear hcz67_2); (try clear hcz67_3); (try clear hcz72_0); (try clear hcz72_1); (try clear hcz72_2); (try clear hcz72_3); (try clear hcz82_0); (try clear hcz82_1); (try clear hcz82_2); (try clear hcz82_3); (try clear hfz17_0); (try clear hfz17_1); (try clear hfz17_2); (try clear hfz17_3); (try clear hfz24_0); (try clear hfz24_1); (try clear hfz24_2); (try clear hfz24_3); (try clear hfz34_0); (try clear hfz34_1); (try clear hfz34_2); (try clear hfz34_3); (try clear hfz36_0); (try clear hfz36_1); (try clear hfz36_2); (try clear hfz36_3); (try clear hfz40_0); (try clear hfz40_1); (try clear hfz40_2); (try clear hfz40_3); (try clear hfz42_0); (try clear hfz42_1); (try clear hfz42_2); (try clear hfz42_3); (try clear hfz46_0); (try clear hfz46_1); (try clear hfz46_2); (try clear hfz46_3); (try clear hfz50_0); (try clear hfz50_1); (try clear hfz50_2); (try clear hfz50_3); (try clear hfz54_0); (try clear hfz54_1); (try clear hfz54_2); (try clear hfz54_3); (try clear hfz67_0); (try clear hfz67_1); (try clear hfz67_2); (try clear hfz67_3); (try clear hfz72_0); (try clear hfz72_1); (try clear hfz72_2); (try clear hfz72_3); (try clear hfz82_0); (try clear hfz82_1); (try clear hfz82_2); (try clear hfz82_3); (try clear hx110_0); (try clear hx111_0); (try clear hx112_0); (try clear hx115_0); (try clear hx117_0); (try clear hx63_0); (try clear hx64_0); (try clear hx89_0); (try clear p1); (try clear p11); (try clear p110); (try clear p111); (try clear p112); (try clear p115); (try clear p117); (try clear p2); (try clear p6); (try clear p63); (try clear p64); (try clear p89); (try clear q1); (try clear q11); (try clear q110); (try clear q111); (try clear q112); (try clear q115); (try clear q117); (try clear q6); (try clear q63); (try clear q64); (try clear q89); obtain ⟨x8_6, x18_6, x107003_6, u107003, rfl, HA, HK6, HO_8, HO_107003, BK101, BK102, BK106, HB⟩ := hrel; cases gk with
                        | zero => exact absurd HA.out (by simp [spec_l03Reduced.l4])
                        | succ k6 =>
                         have H := HA.out
                         clear HA; simp only [spec_l03Reduced.l4] at H
                         by_cases c93 : x18_6 < a0_1
                         ·as_aux_lemma =>
                           rw [if_pos c93] at H; have c93b0 : decide (x18_6 < a0_1) = true := decide_eq_true c93; clear c93; obtain ⟨ji94, hji94⟩ : ∃ j_ : Int, (wrap64 ((wrap64 (x18_6 * a0_2)) + x11_1)) = j_ := ⟨_, rfl⟩; replace H : (if 0 ≤ (ji94) then (if (ji94) < (x107003_6.length : Int) then (if x18_6 = x10_1 then (spec_l03Reduced.j8 k6 a0_0 a0_2 x8_6 (Int.tmod (wrap64 (x9_50 * (rd x107003_50 (ji75)))) a0_0) x10_1 x11_1 x18_6 (rd x107003_6 (ji94)) true a0_0 a0_1 a0_2 l0_3 a0_0 a0_1 a0_2 x107003_6) else (spec_l03Reduced.j8 k6 a0_0 a0_2 x8_6 (Int.tmod (wrap64 (x9_50 * (rd x107003_50 (ji75)))) a0_0) x10_1 x11_1 x18_6 (rd x107003_6 (ji94)) ((rd x107003_6 (ji94)) == 0) a0_0 a0_1 a0_2 l0_3 a0_0 a0_1 a0_2 x107003_6)) else (none)) else (none)) = some (r1, r2, r3, r4, r5, r6) := by first | (rw [hji94] at H; exact H) | (simp only [hji94] at H ⊢; exact H)
                           have hji94w : (IntKind.i64.wrap ((wrap64 (x18_6 * a0_2)) + x11_1)) = ji94 := (i64_w _).trans hji94
                           by_cases c95 : 0 ≤ (ji94)
                           ·as_aux_lemma =>
                             rw [if_pos c95] at H; have c95b0 : decide (0 ≤ (ji94)) = true := decide_eq_true c95; clear c95
                             by_cases c96 : (ji94) < (x107003_6.length : Int)
                             ·as_aux_lemma =>
                               rw [if_pos c96] at H; have c96b0 : decide ((ji94) < (x107003_6.length : Int)) = true := decide_eq_true c96; clear c96; have HC97 := Z57.k H; clear H; have hnb98 := NB101_102.out; have hnc98 := NB102_101.out; have hnb99 := NB101_106.out; have hnc99 := NB106_101.out; obtain ⟨hcz100_0, hcz100_1, hcz100_2, hcz100_3, hfz100_0, hfz100_1, hfz100_2, hfz100_3⟩ := cells4 BK101.out; have hnb101 := NB106_102.out; have hnc101 := NB102_106.out; obtain ⟨hcz102_0, hcz102_1, hcz102_2, hcz102_3, hfz102_0, hfz102_1, hfz102_2, hfz102_3⟩ := cells4 BK106.out; obtain ⟨Ao103, co103, eo103⟩ := Kd.R_slice HO_107003.out; subst eo103; have p122 : 0 ≤ ((ji94) : Int) := of_decide_eq_true Z57.z8; have q122 : (ji94) < (x107003_6.length : Int) := of_decide_eq_true Z57.z8; obtain ⟨ad122, e122, hx122_0⟩ := Kd.at_int (Kd.R_reads' HO_107003.out).2.2 (ji94) p122 q122; cases e122; replace p122 := eq_true p122; replace q122 := eq_true q122
                               go_upto_region 33 with (fail)
                               go_cut [200] (fun v200 wc => ∃ (kq : Nat) (x200_96 : Bool), v200 = .bool x200_96 ∧ Aside0 (spec_l03Reduced.j8 kq a0_0 a0_2 x8_6 (Int.tmod (wrap64 (x9_50 * (rd x107003_50 (ji75)))) a0_0) x10_1 x11_1 x18_6 (rd x107003_6 (ji94)) x200_96 a0_0 a0_1 a0_2 l0_3 a0_0 a0_1 a0_2 x107003_6 = some (r1, r2, r3, r4, r5, r6)) ∧ Aside0 (kq ≤ k6) ∧ Aside0 (Kd.R (Kd.int .i64) 2 wc w.heap.size (fun k_ => some k_ ≠ ((.slice (some ad122) x107003_6.length co103) : Value).ownBlock) u8 x8_6) ∧ Aside0 (Kd.R (Kd.int .i64) 2 wc w.heap.size (fun k_ => some k_ ≠ (u8 : Value).ownBlock) (.slice (some ad122) x107003_6.length co103) x107003_6) ∧ Aside0 (wc.heap[g0_]? = some (.cells #[.int .i64 a0_0, .int .i64 a0_1, .int .i64 a0_2, (.slice A0_3 l0_3.length c0_3)] 28 (0, 0))) ∧ Aside0 (wc.heap[gb102]? = some (.cells #[.int .i64 0, .int .i64 0, .int .i64 0, (.slice none 0 0)] 28 (0, 0))) ∧ Aside0 (wc.heap[gb106]? = some (.cells #[.int .i64 a0_0, .int .i64 a0_1, .int .i64 a0_2, (.slice (some ad122) x107003_6.length co103)] 28 (0, 0))) ∧ Aside0 (Below w.heap.size w wc))
                               case first =>
                                have H := HC97.out
                                clear HC97
                                by_cases c104 : x18_6 = x10_1
                                ·rw [if_pos c104] at H
                                 have c104b0 : (x18_6 == x10_1) = true := beq_iff_eq.mpr c104; have c104b1 : (x18_6 != x10_1) = false := bne_eq_false_iff_eq.mpr c104; clear c104
                                 (first | rw [c104b1] | rw [c104b0] | (simp only [i64_w, i32_w]; rw [c104b0]) | skip)
                                 have H' := Z57.k H; clear H
                                 go_wp2
                                 go_meet
                                 case rel => exact ⟨_, (true), Z57.z9, H', ⟨Z57.z19⟩, ⟨Z57.z6⟩, ⟨Z57.z5⟩, ⟨Z57.z2⟩, ⟨Z57.z3⟩, ⟨Z57.z4⟩, ⟨Z57.z1⟩⟩
                                rw [if_neg c104] at H; have c104b0 : (x18_6 == x10_1) = false := beq_eq_false_iff_ne.mpr c104; have c104b1 : (x18_6 != x10_1) = true := bne_iff_ne.mpr c104
                                (first | rw [c104b1] | rw [c104b0] | (simp only [i64_w, i32_w]; rw [c104b0]) | skip)
                                have H' := Z57.k H; clear H
                                go_wp2
                                go_meet
                                case rel => exact ⟨_, (((rd x107003_6 (ji94)) == 0)), (by first | rfl | (simp; done) | (simp only [← hji94] <;> (first | rfl | simp)) | (simp [*]; done)), H', ⟨Z57.z19⟩, ⟨Z57.z6⟩, ⟨Z57.z5⟩, ⟨Z57.z2⟩, ⟨Z57.z3⟩, ⟨Z57.z4⟩, ⟨Z57.z1⟩⟩
                               case rest =>
                                clear HC97; (try clear c1); (try clear p1); (try clear q1); (try clear hx1); (try clear c2); (try clear p2); (try clear c3); (try clear c4); (try clear c5); (try clear c6); (try clear p6); (try clear q6); (try clear hx6); (try clear hf6); (try clear c7); (try clear c8); (try clear p8); (try clear q8); (try clear hx8); (try clear hf8); (try clear c9); (try clear c10); (try clear p11); (try clear q11); (try clear hx11); (try clear p12); (try clear q12); (try clear hx12); (try clear c15); (try clear c16); (try clear c21); (try clear c21b0); (try clear c22); (try clear c23); (try clear c25); (try clear c27); (try clear c27b0); (try clear c29); (try clear c29b0); (try clear c30); (try clear c30b0); (try clear c31); (try clear c31b0); (try clear c31b1); (try clear c32); (try clear c33); (try clear c34); (try clear c35); (try clear c38); (try clear c39); (try clear c41); (try clear c44); (try clear c45); (try clear c47); (try clear c47b0); (try clear c47b1); (try clear c48); (try clear c49); (try clear c52); (try clear c53); (try clear c55); (try clear c55b0); (try clear c55b1); (try clear c56); (try clear c56b0); (try clear c58); (try clear c58b0); (try clear c59); (try clear c59b0); (try clear c61); (try clear c61b0); (try clear c62); (try clear c62b0); (try clear p63); (try clear q63); (try clear hx63); (try clear hf63); (try clear p64); (try clear q64); (try clear hx64); (try clear hf64); (try clear c65); (try clear c66); (try clear c76); (try clear c76b0); (try clear c77); (try clear c77b0); (try clear c78); (try clear c78b0); (try clear c78b1); (try clear c80); (try clear c81); (try clear c84); (try clear c84b0); (try clear c86); (try clear c86b0); (try clear c87); (try clear c87b0); (try clear c88); (try clear c88b0); (try clear c88b1); (try clear p89); (try clear q89); (try clear hx89); (try clear hf89); (try clear c93); (try clear c93b0); (try clear c95); (try clear c95b0); (try clear c96); (try clear c96b0); (try clear c98); (try clear c99); (try clear c101); (try clear c104); (try clear c104b0); (try clear c104b1); (try clear hcz100_0); (try clear hcz100_1); (try clear hcz100_2); (try clear hcz100_3); (try clear hcz102_0); (try clear hcz102_1); (try clear hcz102_2); (try clear hcz102_3); (try clear hcz17_0); (try clear hcz17_1); (try clear hcz17_2); (try clear hcz17_3); (try clear hcz24_0); (try clear hcz24_1); (try clear hcz24_2); (try clear hcz24_3); (try clear hcz34_0); (try clear hcz34_1); (try clear hcz34_2); (try clear hcz34_3); (try clear hcz36_0); (try clear hcz36_1); (try clear hcz36_2); (try clear hcz36_3); (try clear hcz40_0); (try clear hcz40_1); (try clear hcz40_2); (try clear hcz40_3); (try clear hcz42_0); (try clear hcz42_1); (try clear hcz42_2); (try clear hcz42_3); (try clear hcz46_0); (try clear hcz46_1); (try clear hcz46_2); (try clear hcz46_3); (try clear hcz50_0); (try clear hcz50_1); (try clear hcz50_2); (try clear hcz50_3); (try clear hcz54_0); (try clear hcz54_1); (try clear hcz54_2); (try clear hcz54_3); (try clear hcz67_0); (try clear hcz67_1); (try clear hcz67_2); (try clear hcz67_3); (try clear hcz72_0); (try clear hcz72_1); (try clear hcz72_2); (try clear hcz72_3); (try clear hcz82_0); (try clear hcz82_1); (try clear hcz82_2); (try clear hcz82_3); (try clear hfz100_0); (try clear hfz100_1); (try clear hfz100_2); (try clear hfz100_3); (try clear hfz102_0); (try clear hfz102_1); (try clear hfz102_2); (try clear hfz102_3); (try clear hfz17_0); (try clear hfz17_1); (try clear hfz17_2); (try clear hfz17_3); (try clear hfz24_0); (try clear hfz24_1); (try clear hfz24_2); (try clear hfz24_3); (try clear hfz34_0); (try clear hfz34_1); (try clear hfz34_2); (try clear hfz34_3); (try clear hfz36_0); (try clear hfz36_1); (try clear hfz36_2); (try clear hfz36_3); (try clear hfz40_0); (try clear hfz40_1); (try clear hfz40_2); (try clear hfz40_3); (try clear hfz42_0); (try clear hfz42_1); (try clear hfz42_2); (try clear hfz42_3); (try clear hfz46_0); (try clear hfz46_1); (try clear hfz46_2); (try clear hfz46_3); (try clear hfz50_0); (try clear hfz50_1); (try clear hfz50_2); (try clear hfz50_3); (try clear hfz54_0); (try clear hfz54_1); (try clear hfz54_2); (try clear hfz54_3); (try clear hfz67_0); (try clear hfz67_1); (try clear hfz67_2); (try clear hfz67_3); (try clear hfz72_0); (try clear hfz72_1); (try clear hfz72_2); (try clear hfz72_3); (try clear hfz82_0); (try clear hfz82_1); (try clear hfz82_2); (try clear hfz82_3); (try clear hx110_0); (try clear hx111_0); (try clear hx112_0); (try clear hx115_0); (try clear hx117_0); (try clear hx122_0); (try clear hx63_0); (try clear hx64_0); (try clear hx89_0); (try clear p1); (try clear p11); (try clear p110); (try clear p111); (try clear p112); (try clear p115); (try clear p117); (try clear p122); (try clear p2); (try clear p6); (try clear p63); (try clear p64); (try clear p8); (try clear p89); (try clear q1); (try clear q11); (try clear q110); (try clear q111); (try clear q112); (try clear q115); (try clear q117); (try clear q122); (try clear q6); (try clear q63); (try clear q64); (try clear q8); (try clear q89); obtain ⟨kq, x200_96, rfl, HA, HJ96, HO_8, HO_107003, BK101, BK102, BK106, HB⟩ := hcut; cases kq with
                                | zero => exact absurd HA.out (by simp [spec_l03Reduced.j8])
                                | succ kj96 =>
                                 have H := HA.out
                                 clear HA; simp only [spec_l03Reduced.j8] at H
                                 by_cases c105 : x200_96 = true
                                 ·subst c105
                                  rw [if_pos rfl] at H; have H' := Z57.k H; clear H
                                  go_wp2
                                  go_roundg kj96
                                  case measure => have := HK1.out; have := HJ19.out; have := HJ25.out; have := HJ50.out; have := HK5.out; have := HK6.out; have := HJ96.out; omega
                                  case rel => exact ⟨(x8_6), (wrap64 (x18_6 + 1)), (x107003_6), (.slice (some ad122) x107003_6.length co103), Z57.z9, H', ⟨(by have := HK1.out; have := HJ19.out; have := HJ25.out; have := HJ50.out; have := HK5.out; have := HK6.out; have := HJ96.out; omega)⟩, ⟨Z57.z6⟩, ⟨Z57.z5⟩, ⟨Z57.z2⟩, ⟨Z57.z3⟩, ⟨Z57.z4⟩, ⟨Z57.z1⟩⟩
                                 ·as_aux_lemma =>
                                   replace c105 := Bool.eq_false_iff.mpr c105; subst c105; rw [if_neg (show ¬ (false = true) by decide)] at H; have H' := Z57.k H; clear H
                                   go_wp2
                                   go_loopg [20] kj96 (fun kq v20 w' => ∃ (x8_8 : List Int) (x20_8 : Int) (x107003_8 : List Int) (u107003 : Value), v20 = .int .i64 x20_8 ∧ Aside0 (spec_l03Reduced.l5 kq a0_0 a0_2 x8_8 (Int.tmod (wrap64 (x9_50 * (rd x107003_50 (ji75)))) a0_0) x10_1 x11_1 x18_6 (rd x107003_6 (ji94)) x20_8 a0_0 a0_1 a0_2 l0_3 a0_0 a0_1 a0_2 x107003_8 = some (r1, r2, r3, r4, r5, r6)) ∧ Aside0 (kq ≤ kj96) ∧ Aside0 (Kd.R (Kd.int .i64) 2 w' w.heap.size (fun k_ => some k_ ≠ (u107003 : Value).ownBlock) u8 x8_8) ∧ Aside0 (Kd.R (Kd.int .i64) 2 w' w.heap.size (fun k_ => some k_ ≠ (u8 : Value).ownBlock) u107003 x107003_8) ∧ Aside0 (w'.heap[g0_]? = some (.cells #[.int .i64 a0_0, .int .i64 a0_1, .int .i64 a0_2, (.slice A0_3 l0_3.length c0_3)] 28 (0, 0))) ∧ Aside0 (w'.heap[gb102]? = some (.cells #[.int .i64 0, .int .i64 0, .int .i64 0, (.slice none 0 0)] 28 (0, 0))) ∧ Aside0 (w'.heap[gb106]? = some (.cells #[.int .i64 a0_0, .int .i64 a0_1, .int .i64 a0_2, u107003] 28 (0, 0))) ∧ Aside0 (Below w.heap.size w w'))
                                   case atStart => exact ⟨(x8_6), (0), (x107003_6), (.slice (some ad122) x107003_6.length co103), Z57.z9, H', ⟨Nat.le_refl _⟩, ⟨Z57.z6⟩, ⟨Z57.z5⟩, ⟨Z57.z2⟩, ⟨Z57.z3⟩, ⟨Z57.z4⟩, ⟨Z57.z1⟩⟩
                                   case round =>
                                    clear H'; (try clear c1); (try clear p1); (try clear q1); (try clear hx1); (try clear c2); (try clear p2); (try clear c3); (try clear c4); (try clear c5); (try clear c6); (try clear p6); (try clear q6); (try clear hx6); (try clear hf6); (try clear c7); (try clear c8); (try clear p8); (try clear q8); (try clear hx8); (try clear hf8); (try clear c9); (try clear c10); (try clear p11); (try clear q11); (try clear hx11); (try clear p12); (try clear q12); (try clear hx12); (try clear c15); (try clear c16); (try clear c21); (try clear c21b0); (try clear c22); (try clear c23); (try clear c25); (try clear c27); (try clear c27b0); (try clear c29); (try clear c29b0); (try clear c30); (try clear c30b0); (try clear c31); (try clear c31b0); (try clear c31b1); (try clear c32); (try clear c33); (try clear c34); (try clear c35); (try clear c38); (try clear c39); (try clear c41); (try clear c44); (try clear c45); (try clear c47); (try clear c47b0); (try clear c47b1); (try clear c48); (try clear c49); (try clear c52); (try clear c53); (try clear c55); (try clear c55b0); (try clear c55b1); (try clear c56); (try clear c56b0); (try clear c58); (try clear c58b0); (try clear c59); (try clear c59b0); (try clear c61); (try clear c61b0); (try clear c62); (try clear c62b0); (try clear p63); (try clear q63); (try clear hx63); (try clear hf63); (try clear p64); (try clear q64); (try clear hx64); (try clear hf64); (try clear c65); (try clear c66); (try clear c76); (try clear c76b0); (try clear c77); (try clear c77b0); (try clear c78); (try clear c78b0); (try clear c78b1); (try clear c80); (try clear c81); (try clear c84); (try clear c84b0); (try clear c86); (try clear c86b0); (try clear c87); (try clear c87b0); (try clear c88); (try clear c88b0); (try clear c88b1); (try clear p89); (try clear q89); (try clear hx89); (try clear hf89); (try clear c93); (try clear c93b0); (try clear c95); (try clear c95b0); (try clear c96); (try clear c96b0); (try clear c98); (try clear c99); (try clear c101); (try clear c104); (try clear c104b0); (try clear c104b1); (try clear c105); (try clear hcz100_0); (try clear hcz100_1); (try clear hcz100_2); (try clear hcz100_3); (try clear hcz102_0); (try clear hcz102_1); (try clear hcz102_2); (try clear hcz102_3); (try clear hcz17_0); (try clear hcz17_1); (try clear hcz17_2); (try clear hcz17_3); (try clear hcz24_0); (try clear hcz24_1); (try clear hcz24_2); (try clear hcz24_3); (try clear hcz34_0); (try clear hcz34_1); (try clear hcz34_2); (try clear hcz34_3); (try clear hcz36_0); (try clear hcz36_1); (try clear hcz36_2); (try clear hcz36_3); (try clear hcz40_0); (try clear hcz40_1); (try clear hcz40_2); (try clear hcz40_3); (try clear hcz42_0); (try clear hcz42_1); (try clear hcz42_2); (try clear hcz42_3); (try clear hcz46_0); (try clear hcz46_1); (try clear hcz46_2); (try clear hcz46_3); (try clear hcz50_0); (try clear hcz50_1); (try clear hcz50_2); (try clear hcz50_3); (try clear hcz54_0); (try clear hcz54_1); (try clear hcz54_2); (try clear hcz54_3); (try clear hcz67_0); (try clear hcz67_1); (try clear hcz67_2); (try clear hcz67_3); (try clear hcz72_0); (try clear hcz72_1); (try clear hcz72_2); (try clear hcz72_3); (try clear hcz82_0); (try clear hcz82_1); (try clear hcz82_2); (try clear hcz82_3); (try clear hfz100_0); (try clear hfz100_1); (try clear hfz100_2); (try clear hfz100_3); (try clear hfz102_0); (try clear hfz102_1); (try clear hfz102_2); (try clear hfz102_3); (try clear hfz17_0); (try clear hfz17_1); (try clear hfz17_2); (try clear hfz17_3); (try clear hfz24_0); (try clear hfz24_1); (try clear hfz24_2); (try clear hfz24_3); (try clear hfz34_0); (try clear hfz34_1); (try clear hfz34_2); (try clear hfz34_3); (try clear hfz36_0); (try clear hfz36_1); (try clear hfz36_2); (try clear hfz36_3); (try clear hfz40_0); (try clear hfz40_1); (try clear hfz40_2); (try clear hfz40_3); (try clear hfz42_0); (try clear hfz42_1); (try clear hfz42_2); (try clear hfz42_3); (try clear hfz46_0); (try clear hfz46_1); (try clear hfz46_2); (try clear hfz46_3); (try clear hfz50_0); (try clear hfz50_1); (try clear hfz50_2); (try clear hfz50_3); (try clear hfz54_0); (try clear hfz54_1); (try clear hfz54_2); (try clear hfz54_3); (try clear hfz67_0); (try clear hfz67_1); (try clear hfz67_2); (try clear hfz67_3); (try clear hfz72_0); (try clear hfz72_1); (try clear hfz72_2); (try clear hfz72_3); (try clear hfz82_0); (try clear hfz82_1); (try clear hfz82_2); (try clear hfz82_3); (try clear hx110_0); (try clear hx111_0); (try clear hx112_0); (try clear hx115_0); (try clear hx117_0); (try clear hx122_0); (try clear hx63_0); (try clear hx64_0); (try clear hx89_0); (try clear p1); (try clear p11); (try clear p110); (try clear p111); (try clear p112); (try clear p115); (try clear p117); (try clear p12); (try clear p122); (try clear p2); (try clear p6); (try clear p63); (try clear p64); (try clear p8); (try clear p89); (try clear q1); (try clear q11); (try clear q110); (try clear q111); (try clear q112); (try clear q115); (try clear q117); (try clear q12); (try clear q122); (try clear q6); (try clear q63); (try clear q64); (try clear q8); (try clear q89); obtain ⟨x8_8, x20_8, x107003_8, u107003, rfl, HA, HK8, HO_8, HO_107003, BK101, BK102, BK106, HB⟩ := hrel; cases gk with
                                    | zero => exact absurd HA.out (by simp [spec_l03Reduced.l5])
                                    | succ k8 =>
                                     have H := HA.out
                                     clear HA; simp only [spec_l03Reduced.l5] at H
                                     by_cases c106 : x20_8 < a0_2
                                     ·as_aux_lemma =>
                                       rw [if_pos c106] at H; have c106b0 : decide (x20_8 < a0_2) = true := decide_eq_true c106; clear c106; obtain ⟨ji107, hji107⟩ : ∃ j_ : Int, (wrap64 ((wrap64 (x18_6 * a0_2)) + x20_8)) = j_ := ⟨_, rfl⟩; replace H : (if 0 ≤ (ji107) then (if (ji107) < (x107003_8.length : Int) then (if 0 ≤ (wrap64 ((wrap64 (x10_1 * a0_2)) + x20_8)) then (if (wrap64 ((wrap64 (x10_1 * a0_2)) + x20_8)) < (x107003_8.length : Int) then ((spec_l03Mod.f (wrap64 ((rd x107003_8 (ji107)) - (wrap64 ((rd x107003_6 (ji94)) * (rd x107003_8 (wrap64 ((wrap64 (x10_1 * a0_2)) + x20_8))))))) a0_0).bind fun t125 => (spec_l03Reduced.l5 k8 a0_0 a0_2 x8_8 (Int.tmod (wrap64 (x9_50 * (rd x107003_50 (ji75)))) a0_0) x10_1 x11_1 x18_6 (rd x107003_6 (ji94)) (wrap64 (x20_8 + 1)) a0_0 a0_1 a0_2 l0_3 a0_0 a0_1 a0_2 (x107003_8.set ((ji107) : Int).toNat t125))) else (none)) else (none)) else (none)) else (none)) = some (r1, r2, r3, r4, r5, r6) := by first | (rw [hji107] at H; exact H) | (simp only [hji107] at H ⊢; exact H)
                                       have hji107w : (IntKind.i64.wrap ((wrap64 (x18_6 * a0_2)) + x20_8)) = ji107 := (i64_w _).trans hji107
                                       by_cases c108 : 0 ≤ (ji107)
                                       ·as_aux_lemma =>
                                         rw [if_pos c108] at H; have c108b0 : decide (0 ≤ (ji107)) = true := decide_eq_true c108; clear c108
                                         by_cases c109 : (ji107) < (x107003_8.length : Int)
                                         ·as_aux_lemma =>
                                           rw [if_pos c109] at H; have c109b0 : decide ((ji107) < (x107003_8.length : Int)) = true := decide_eq_true c109; clear c109; obtain ⟨ji110, hji110⟩ : ∃ j_ : Int, (wrap64 ((wrap64 (x10_1 * a0_2)) + x20_8)) = j_ := ⟨_, rfl⟩; replace H : (if 0 ≤ (ji110) then (if (ji110) < (x107003_8.length : Int) then ((spec_l03Mod.f (wrap64 ((rd x107003_8 (ji107)) - (wrap64 ((rd x107003_6 (ji94)) * (rd x107003_8 (ji110)))))) a0_0).bind fun t125 => (spec_l03Reduced.l5 k8 a0_0 a0_2 x8_8 (Int.tmod (wrap64 (x9_50 * (rd x107003_50 (ji75)))) a0_0) x10_1 x11_1 x18_6 (rd x107003_6 (ji94)) (wrap64 (x20_8 + 1)) a0_0 a0_1 a0_2 l0_3 a0_0 a0_1 a0_2 (x107003_8.set ((ji107) : Int).toNat t125))) else (none)) else (none)) = some (r1, r2, r3, r4, r5, r6) := by first | (rw [hji110] at H; exact H) | (simp only [hji110] at H ⊢; exact H)
                                           have hji110w : (IntKind.i64.wrap ((wrap64 (x10_1 * a0_2)) + x20_8)) = ji110 := (i64_w _).trans hji110
                                           by_cases c111 : 0 ≤ (ji110)
                                           ·as_aux_lemma =>
                                             rw [if_pos c111] at H; have c111b0 : decide (0 ≤ (ji110)) = true := decide_eq_true c111; clear c111
                                             by_cases c112 : (ji110) < (x107003_8.length : Int)
                                             ·as_aux_lemma =>
                                               rw [if_pos c112] at H; have c112b0 : decide ((ji110) < (x107003_8.length : Int)) = true := decide_eq_true c112; clear c112; replace H := Option.bind_eq_some_iff.mp H; obtain ⟨t125, A1130, H⟩ := H
                                               (try dsimp only at H)
                                               have A113 := Z57.k A1130; clear A1130; obtain ⟨y126, hy126⟩ : ∃ y_ : List Int, y_ = (x107003_8.set ((ji107) : Int).toNat t125) := ⟨_, rfl⟩; replace H : (spec_l03Reduced.l5 k8 a0_0 a0_2 x8_8 (Int.tmod (wrap64 (x9_50 * (rd x107003_50 (ji75)))) a0_0) x10_1 x11_1 x18_6 (rd x107003_6 (ji94)) (wrap64 (x20_8 + 1)) a0_0 a0_1 a0_2 l0_3 a0_0 a0_1 a0_2 y126) = some (r1, r2, r3, r4, r5, r6) := by first | (rw [hy126]; with_reducible exact H) | (have H2_ := (Option.bind_some _ _).symm.trans H; rw [hy126]; with_reducible exact H2_) | (have H2_ := (Option.bind_some _ _).symm.trans H; with_reducible exact H2_) | with_reducible exact H | (rw [hy126]; exact H) | exact H
                                               have Ny126 := Z57.k hy126; clear hy126; have H' := Z57.k H; clear H
                                               try go_wp2
                                               replace HO_8 := Z57.k (Kd.R_drew HO_8.out); replace HO_107003 := Z57.k (Kd.R_drew HO_107003.out); replace BK101 := Z57.k (blk_drew BK101.out); replace BK102 := Z57.k (blk_drew BK102.out); replace BK106 := Z57.k (blk_drew BK106.out); replace HB := Z57.k (below_drew1 HB.out); obtain ⟨Ao116, co116, eo116⟩ := Kd.R_slice HO_107003.out
                                               (first | subst eo116 | (injection eo116 with f1_ f2_ f3_; have f4_ := f1_.symm; have f5_ := f3_.symm; clear f1_ f2_ f3_; subst f4_; subst f5_))
                                               have p123 : 0 ≤ ((ji107) : Int) := of_decide_eq_true Z57.z8; have q123 : (ji107) < (x107003_8.length : Int) := of_decide_eq_true Z57.z8; obtain ⟨ad123, e123, hx123_0⟩ := Kd.at_int (Kd.R_reads' HO_107003.out).2.2 (ji107) p123 q123; cases e123; replace p123 := eq_true p123; replace q123 := eq_true q123; have p124 : 0 ≤ ((ji110) : Int) := of_decide_eq_true Z57.z8; have q124 : (ji110) < (x107003_8.length : Int) := of_decide_eq_true Z57.z8; obtain ⟨ad124, e124, hx124_0⟩ := Kd.at_int (Kd.R_reads' HO_107003.out).2.2 (ji110) p124 q124; obtain rfl : ad123 = ad124 := (by injection e124); replace p124 := eq_true p124; replace q124 := eq_true q124; refine start_ (n := 32) (S := fun w' => w'.cell? ⟨gb106, 0, none⟩ = some (.int .i64 a0_0) ∧ w'.cell? ⟨gb106, 1, none⟩ = some (.int .i64 a0_1) ∧ w'.cell? ⟨gb106, 2, none⟩ = some (.int .i64 a0_2) ∧ w'.cell? ⟨gb106, 3, none⟩ = some (.slice (some ad123) x107003_8.length co116) ∧ w'.cell? (ad123.add ((ji107)).toNat) = some (.int .i64 (rd x107003_8 (ji107))) ∧ w'.cell? (ad123.add ((ji110)).toNat) = some (.int .i64 (rd x107003_8 (ji110)))) (ds := [31]) #[false, false, false, false, false, false, false, false, false, false, false, false, false, false, false, false, false, false, false, false, false, false, false, false, false, false, false, false, false, false, false, false] (by kernel_rfl) rfl rfl ⟨(blk_cell BK106.out 0).trans rfl, (blk_cell BK106.out 1).trans rfl, (blk_cell BK106.out 2).trans rfl, (blk_cell BK106.out 3).trans rfl, hx123_0, hx124_0⟩ (fun hHeld => ?_); refine with_tabW spec_l03Reduced.tab37 spec_l03Reduced.bits37 (fun HT_ HW_ => ?_); generalize wr.drew = w115 at HO_8 HO_107003 BK101 BK102 BK106 HB hx123_0 hx124_0 hHeld ⊢
                                               refine Z57.pP 0 206 (Z57.b 32 1) (any_of HT_.out (by kernel_rfl)) ?_; refine Z57.pP 2 208 (Z57.b 32 5) (any_of HT_.out (by kernel_rfl)) ?_; refine Z57.pP 3 209 (Z57.b 32 13) (any_of HT_.out (by kernel_rfl)) ?_; refine Z57.pP 4 210 (Z57.b 32 29) (any_of HT_.out (by kernel_rfl)) ?_; refine Z57.pP 5 211 (Z57.b 32 61) (any_of HT_.out (by kernel_rfl)) ?_; refine Z57.pP 6 212 (Z57.b 32 125) (any_of HT_.out (by kernel_rfl)) ?_; refine Z57.pP 7 213 (Z57.b 32 253) (any_of HT_.out (by kernel_rfl)) ?_; refine Z57.pP 9 215 (Z57.b 32 765) (any_of HT_.out (by kernel_rfl)) ?_; refine Z57.pP 10 216 (Z57.b 32 1789) (any_of HT_.out (by kernel_rfl)) ?_; refine Z57.pP 11 217 (Z57.b 32 3837) (any_of HT_.out (by kernel_rfl)) ?_; refine Z57.pP 12 218 (Z57.b 32 7933) (any_of HT_.out (by kernel_rfl)) ?_; refine Z57.pP 13 219 (Z57.b 32 16125) (any_of HT_.out (by kernel_rfl)) ?_; refine Z57.pP 16 222 (Z57.b 32 81661) (any_of HT_.out (by kernel_rfl)) ?_; refine Z57.pP 17 223 (Z57.b 32 212733) (any_of HT_.out (by kernel_rfl)) ?_; refine Z57.pP 19 225 (Z57.b 32 737021) (any_of HT_.out (by kernel_rfl)) ?_; refine Z57.pP 20 226 (Z57.b 32 1785597) (any_of HT_.out (by kernel_rfl)) ?_; refine Z57.pP 21 227 (Z57.b 32 3882749) (any_of HT_.out (by kernel_rfl)) ?_; refine Z57.pP 22 228 (Z57.b 32 8077053) (any_of HT_.out (by kernel_rfl)) ?_; refine Z57.pP 23 229 (Z57.b 32 16465661) (any_of HT_.out (by kernel_rfl)) ?_; refine Z57.pP 28 234 (Z57.b 32 284901117) (any_of HT_.out (by kernel_rfl)) ?_; refine Z57.pT6 1 207 (Z57.b 32 284901119) (take_ofW HT_.out HW_.out (by kernel_rfl)) hHeld ?_; refine Z57.pT6 8 214 (Z57.b 32 284901375) (take_ofW HT_.out HW_.out (by kernel_rfl)) hHeld ?_; refine Z57.pP 14 220 (Z57.b 32 284917759) (any_of HT_.out (by kernel_rfl)) ?_; refine Z57.pT6 15 221 (Z57.b 32 284950527) (take_ofW HT_.out HW_.out (by kernel_rfl)) hHeld ?_; refine Z57.pT6 18 224 (Z57.b 32 285212671) (take_ofW HT_.out HW_.out (by kernel_rfl)) hHeld ?_; refine Z57.pP 24 230 (Z57.b 32 301989887) (any_of HT_.out (by kernel_rfl)) ?_; refine Z57.pT6 25 231 (Z57.b 32 335544319) (take_ofW HT_.out HW_.out (by kernel_rfl)) hHeld ?_; refine Z57.pP 26 232 (Z57.b 32 402653183) (any_of HT_.out (by kernel_rfl)) ?_; refine Z57.pP 27 233 (Z57.b 32 536870911) (any_of HT_.out (by kernel_rfl)) ?_; refine one_ (i := 29) (N := some 235) (Z57.b 32 1073741823) rfl rfl (one_of HT_.out (by kernel_rfl)) (by decide) (fun K hK => ?_); refine goes_ Try.func87 (by kernel_rfl) rfl #[.int .i64 (wrap64 ((rd x107003_8 (ji107)) - (wrap64 ((rd x107003_6 (ji94)) * (rd x107003_8 (ji110)))))), .int .i64 a0_0] (by rfl) rfl rfl (by (try simp only [List.map_toArray, List.map_cons, List.map_nil]); first | done | (simp only [hji107, hji110, hji94]; rfl) | rfl | (simp only [List.length_drop, List.length_take]; rfl)) ?_
                                               with_reducible refine (spec_l03Mod.calls (wrap64 ((rd x107003_8 (ji107)) - (wrap64 ((rd x107003_6 (ji94)) * (rd x107003_8 (ji110)))))) a0_0 t125 _ A113.out).mono ?_
                                               rintro e w' ⟨rfl, ⟨nd, rfl⟩⟩
                                               refine ⟨_, rfl, ?_⟩; have p114 : 0 ≤ ((ji107) : Int) := of_decide_eq_true Z57.z8; have q114 : ((ji107) : Int) < ((x107003_8.length : Int) : Int) := of_decide_eq_true Z57.z8; obtain ⟨go114, co114, eo114, gb114, gl114, cl114, HG114⟩ := Kd.R_form HO_107003.out (by omega)
                                               (first | cases eo114 | (injection eo114 with ea_ en_ ec_; (first | subst ea_ | (injection ea_ with ea_; subst ea_)); subst ec_; clear en_))
                                               have GB114 := Z57.k gb114; have GG114 := Z57.k HG114; clear gb114 gl114 HG114
                                               (first | simp only [add_plain] at hx123_0 | skip)
                                               (first | simp only [add_plain] at hx124_0 | skip)
                                               obtain ⟨hx114_0, hf114_0⟩ := Kd.R_celln 0 HO_107003.out ((ji107) : Int) p114 q114; replace p114 := eq_true p114; replace q114 := eq_true q114; have HP117 := Kd.R_putn HO_107003.out ((ji107) : Int) t125; rw [← Ny126.out] at HP117; have HQ117 := Z57.k HP117; clear HP117; refine hK.out _ _ ⟨(blk_cell BK106.out 0).trans rfl, (blk_cell BK106.out 1).trans rfl, (blk_cell BK106.out 2).trans rfl, (blk_cell BK106.out 3).trans rfl, hHeld.2.2.2.2.1, hHeld.2.2.2.2.2⟩ (fun hHeld => ?_); clear hK K; refine norm_ (a' := ?_) ?_ ?_
                                               rotate_left
                                               ·show Act.put _ (some 235) _ = _
                                                simp only [Act.put, List.setIfInBounds_toArray, List.set_cons_zero, List.set_cons_succ, i64_w, i32_w]
                                                rfl
                                               refine Z57.pP 30 236 (Z57.b 32 2147483647) (any_of HT_.out (by kernel_rfl)) ?_; refine last_ (i := 31) (N := none) (Z57.b 32 4294967295) rfl rfl (one_of HT_.out (by kernel_rfl)) (by decide) (fun K hK => ?_); refine skip_ (w1 := ?_) (by rfl) rfl ?_ ?_
                                               rotate_left
                                               ·go_simp
                                                rfl
                                               refine hK.out _ _ ?_; clear hK K; refine done_ (done_of HT_.out (by kernel_rfl)) ?_
                                               try go_wp2
                                               go_roundg k8
                                               case measure => have := HK1.out; have := HJ19.out; have := HJ25.out; have := HJ50.out; have := HK5.out; have := HK6.out; have := HJ96.out; have := HK8.out; omega
                                               case rel => exact ⟨(x8_8), (wrap64 (x20_8 + 1)), (y126), (.slice (some ⟨go114, 0, none⟩) x107003_8.length co116), Z57.z9, H', ⟨Z57.z18⟩, ⟨(by (with_reducible repeat (first | apply Kd.R_alloc | apply Kd.R_drewN | apply Kd.R_drew)); exact Kd.R_mono (Kd.R_far (p := ⟨go114, ((ji107) : Int).toNat, none⟩) (Kd.R_mono HO_8.out (fun k_ hk => (⟨hk, fun e_ => hk (by rw [e_]; rfl)⟩ : _ ∧ k_ ≠ go114))) (fun _ hk => hk.2) (.int .i64 t125)) (fun _ hk => hk.1))⟩, ⟨(by (with_reducible repeat (first | apply Kd.R_alloc | apply Kd.R_drewN | apply Kd.R_drew)); exact HQ117.out)⟩, ⟨Z57.z12⟩, ⟨Z57.z11⟩, ⟨Z57.z10⟩, ⟨(by repeat (first | (with_reducible first | exact HB.out | apply below_alloc | apply pw_below_drewN | apply below_drew1 | refine below_set ?_ GB114.out | refine below_set ?_ GE101.out | refine below_set ?_ GE102.out | refine below_set ?_ GE106.out) | exact HB.out))⟩⟩
                                             rw [if_neg c112] at H; exact absurd H (by simp)
                                           rw [if_neg c111] at H; exact absurd H (by simp)
                                         rw [if_neg c109] at H; exact absurd H (by simp)
                                       rw [if_neg c108] at H; exact absurd H (by simp)
                                     rw [if_neg c106] at H; have c106b0 : decide (x20_8 < a0_2) = false := decide_eq_false c106; clear c106; have H' := Z57.k H; clear H
                                     go_wp2
                                     go_roundg k8
                                     case measure => have := HK1.out; have := HJ19.out; have := HJ25.out; have := HJ50.out; have := HK5.out; have := HK6.out; have := HJ96.out; have := HK8.out; omega
                                     case rel => exact ⟨(x8_8), (wrap64 (x18_6 + 1)), (x107003_8), (u107003), Z57.z9, H', ⟨Z57.z18⟩, ⟨Z57.z6⟩, ⟨Z57.z5⟩, ⟨Z57.z2⟩, ⟨Z57.z3⟩, ⟨Z57.z4⟩, ⟨Z57.z1⟩⟩
                             rw [if_neg c96] at H; exact absurd H (by simp)
                           rw [if_neg c95] at H; exact absurd H (by simp)
                         rw [if_neg c93] at H; have c93b0 : decide (x18_6 < a0_1) = false := decide_eq_false c93; clear c93
                         by_cases c118 : x8_6.length < 17592186044416
                         ·rw [if_pos c118] at H
                          have LMc118 := Z57.k c118; clear c118; obtain ⟨y119, hy119⟩ : ∃ y_ : List Int, y_ = (x8_6 ++ [x11_1]) := ⟨_, rfl⟩; replace H : (spec_l03Reduced.l0 k6 a0_0 a0_2 y119 (Int.tmod (wrap64 (x9_50 * (rd x107003_50 (ji75)))) a0_0) (wrap64 (x10_1 + 1)) (wrap64 (x11_1 + 1)) a0_0 a0_1 a0_2 l0_3 a0_0 a0_1 a0_2 x107003_6) = some (r1, r2, r3, r4, r5, r6) := by first | (rw [hy119]; with_reducible exact H) | (have H2_ := (Option.bind_some _ _).symm.trans H; rw [hy119]; with_reducible exact H2_) | (have H2_ := (Option.bind_some _ _).symm.trans H; with_reducible exact H2_) | with_reducible exact H | (rw [hy119]; exact H) | exact H
                          have Ny119 := Z57.k hy119; clear hy119; have H' := Z57.k H; clear H; have hnb119 := NB101_102.out; have hnc119 := NB102_101.out; have hnb120 := NB101_106.out; have hnc120 := NB106_101.out; obtain ⟨hcz121_0, hcz121_1, hcz121_2, hcz121_3, hfz121_0, hfz121_1, hfz121_2, hfz121_3⟩ := cells4 BK101.out
                          go_wp2_with (first | ((with_reducible refine gate_builtin (b := .append) (xs := #[.tmp 237, .tmp 239]) rfl ?_); at_builtin; refine Kd.R_append (Kd.int .i64) (w0 := w) w.heap.size rfl (.tmp 237) (.tmp 239) 22 2 (.int .i64 0) 8 rfl Try.underlying22 info2 rfl (by decide) (by omega) u8 x8_6 x11_1 [.int .i64 x11_1] (fun k_ => some k_ ≠ (u107003 : Value).ownBlock) (fun _ => False) rfl rfl ?aP (fun _ hk => hk.elim) ?aF ?aO ?aB ?aS ?aL ?_; (case aP => exact rfl); (case aB => exact Z57.z1); (case aF => exact (fun k_ hk => Kd.fresh' (Kd.R_lt Z57.z5) k_ hk)); (case aO => exact Z57.z6); (case aS => exact (below_size Z57.z1)); (case aL => have := LMc118.out; omega); intro v120 w122 ho hb hg hat; rw [← Ny119.out] at ho; have HO121 := Z57.k (ho); replace HO_107003 := Z57.k (Kd.R_after (ok := (fun _ => True)) (by (with_reducible repeat (first | apply Kd.R_alloc | apply Kd.R_drewN | apply Kd.R_drew)); exact Kd.R_mono HO_107003.out (fun _ hk => ⟨trivial, hk⟩)) hg hat); replace BK101 := Z57.k (blk_grown (g := g0_) (o := .cells #[.int .i64 a0_0, .int .i64 a0_1, .int .i64 a0_2, .slice A0_3 l0_3.length c0_3] 28 (0, 0)) Z57.z2 hg (Kd.R_ne HO_8.out BK101.out (by decide))); replace BK102 := Z57.k (blk_grown (g := gb102) (o := .cells #[.int .i64 0, .int .i64 0, .int .i64 0, .slice none 0 0] 28 (0, 0)) Z57.z3 hg (Kd.R_ne HO_8.out BK102.out (by decide))); replace BK106 := Z57.k (blk_grown (g := gb106) (o := .cells #[.int .i64 a0_0, .int .i64 a0_1, .int .i64 a0_2, u107003] 28 (0, 0)) Z57.z4 hg (Kd.R_ne HO_8.out BK106.out (by decide))); replace HB := Z57.k (hb); clear HO_8; clear ho hb hg hat))
                          go_roundg k6
                          case measure => have := HK1.out; have := HJ19.out; have := HJ25.out; have := HJ50.out; have := HK5.out; have := HK6.out; omega
                          case rel => exact ⟨(y119), ((Int.tmod (wrap64 (x9_50 * (rd x107003_50 (ji75)))) a0_0)), (wrap64 (x10_1 + 1)), (wrap64 (x11_1 + 1)), (x107003_6), (u107003), (by first | rfl | (simp; done) | (simp only [← hji75] <;> (first | rfl | simp)) | (simp [*]; done)), Z57.z9, Z57.z9, H', ⟨(by have := HK1.out; have := HJ19.out; have := HJ25.out; have := HJ50.out; have := HK5.out; have := HK6.out; omega)⟩, ⟨(by (with_reducible repeat (first | apply Kd.R_alloc | apply Kd.R_drewN | apply Kd.R_drew)); exact HO121.out)⟩, ⟨(by (with_reducible repeat (first | apply Kd.R_alloc | apply Kd.R_drewN | apply Kd.R_drew)); exact Kd.R_mono HO_107003.out (fun _ hk => hk.2))⟩, ⟨Z57.z2⟩, ⟨Z57.z3⟩, ⟨Z57.z4⟩, ⟨Z57.z1⟩⟩
                         rw [if_neg c118] at H; exact absurd H (by simp)
               rw [if_neg c77] at H; exact absurd H (by simp)
             rw [if_neg c76] at H; exact absurd H (by simp)
     replace c25 := Bool.eq_false_iff.mpr c25
     subst c25
     rw [if_neg (show ¬ (false = true) by decide)] at H
     simp only [Option.some.injEq, Prod.mk.injEq] at H
     obtain ⟨rfl, rfl, rfl, rfl, rfl, rfl⟩ := H
     have hnb123 := NB106_101.out
     have hnc123 := NB101_106.out
     have hnb124 := NB106_102.out
     have hnc124 := NB102_106.out
     obtain ⟨hcz125_0, hcz125_1, hcz125_2, hcz125_3, hfz125_0, hfz125_1, hfz125_2, hfz125_3⟩ := cells4 BK106.out
     have hnb126 := NB102_101.out
     have hnc126 := NB101_102.out
     obtain ⟨hcz127_0, hcz127_1, hcz127_2, hcz127_3, hfz127_0, hfz127_1, hfz127_2, hfz127_3⟩ := cells4 BK102.out
     obtain ⟨Ao128, co128, eo128⟩ := Kd.R_slice HO_107003.out
     subst eo128
     go_wp2
     refine bodyPost_ret (results_ctt rfl _ _ gb102 28 #[.int .i64 a0_0, .int .i64 a0_1, .int .i64 a0_2, .slice Ao128 x107003_1.length co128] (0, 0) _ rfl (by (with_reducible repeat (first | refine blk_drewN ?_ _ | refine blk_drew ?_ | refine blk_alloc ?_ _)); refine blk_put (cs := #[.int .i64 a0_0, .int .i64 a0_1, .int .i64 a0_2, .slice none 0 0]) ?_ 3 _ rfl; (with_reducible repeat (first | refine blk_drewN ?_ _ | refine blk_drew ?_ | refine blk_alloc ?_ _)); refine blk_put (cs := #[.int .i64 a0_0, .int .i64 a0_1, .int .i64 0, .slice none 0 0]) ?_ 2 _ rfl; (with_reducible repeat (first | refine blk_drewN ?_ _ | refine blk_drew ?_ | refine blk_alloc ?_ _)); refine blk_put (cs := #[.int .i64 a0_0, .int .i64 0, .int .i64 0, .slice none 0 0]) ?_ 1 _ rfl; (with_reducible repeat (first | refine blk_drewN ?_ _ | refine blk_drew ?_ | refine blk_alloc ?_ _)); refine blk_put (cs := #[.int .i64 0, .int .i64 0, .int .i64 0, .slice none 0 0]) ?_ 0 _ rfl; (with_reducible repeat (first | refine blk_drewN ?_ _ | refine blk_drew ?_ | refine blk_alloc ?_ _)); exact BK102.out) Try.underlying28 rfl (by kernel_rfl)) rfl ?_
     exact ⟨_, _, (by first | rfl | (simp [errW_none, errW_some] <;> rfl) | (simp [*, errW_none, errW_some] <;> rfl)), (by (with_reducible repeat (first | apply Kd.R_alloc | apply Kd.R_drewN | apply Kd.R_drew)); exact Kd.R_mono (Kd.R_far (p := ⟨gb102, 3, none⟩) (Kd.R_far (p := ⟨gb102, 2, none⟩) (Kd.R_far (p := ⟨gb102, 1, none⟩) (Kd.R_far (p := ⟨gb102, 0, none⟩) (Kd.R_types HO_107003.out BK102.out (by decide)) (fun _ hk => hk.2) (.int .i64 a0_0)) (fun _ hk => hk.2) (.int .i64 a0_1)) (fun _ hk => hk.2) (.int .i64 a0_2)) (fun _ hk => hk.2) (.slice Ao128 x107003_1.length co128)) (fun _ hk => hk.1)), (by (with_reducible repeat (first | apply Kd.R_alloc | apply Kd.R_drewN | apply Kd.R_drew)); exact Kd.R_mono (Kd.R_far (p := ⟨gb102, 3, none⟩) (Kd.R_far (p := ⟨gb102, 2, none⟩) (Kd.R_far (p := ⟨gb102, 1, none⟩) (Kd.R_far (p := ⟨gb102, 0, none⟩) (Kd.R_types HO_8.out BK102.out (by decide)) (fun _ hk => hk.2) (.int .i64 a0_0)) (fun _ hk => hk.2) (.int .i64 a0_1)) (fun _ hk => hk.2) (.int .i64 a0_2)) (fun _ hk => hk.2) (.slice Ao128 x107003_1.length co128)) (fun _ hk => hk.1)), Z57.z1⟩
end Go.Proofs.Ytmbbjmkcbpefhaa.F
end
