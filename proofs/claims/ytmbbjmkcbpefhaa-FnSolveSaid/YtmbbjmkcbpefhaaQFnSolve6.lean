-- Texts of this claim, merged by packw.py (a program of this session's).
import Derived.Test.YtmbbjmkcbpefhaaQFnSolve2
import Derived.Test.YtmbbjmkcbpefhaaQFnSolve1
import Derived.Test.YtmbbjmkcbpefhaaQFnSolve5

section
namespace Go.Proofs.Ytmbbjmkcbpefhaa.F
open Go.RowKit Go.Proofs.YtmbbjmkcbpefhaaW.PrintWords Go.Proofs.YtmbbjmkcbpefhaaW.PrintLast Go.Proofs.YtmbbjmkcbpefhaaW.PrintMore
attribute [local go_sem] max2_int min2_int max_two min_two max_three min_three max_four min_four   -- for this text's walks alone
set_option linter.unusedVariables false
set_option linter.unusedSimpArgs false
/-! ### spec_l00In: function 62 -/
def spec_l00In.f (a0 : Int) (a1 : Int) (a2 : Int) : Option (Bool) := if a0 ≥ a1 then (some (decide (a0 ≤ a2))) else (some false)
set_option maxHeartbeats 8000000 in
set_option maxRecDepth 100000 in
theorem spec_l00In.calls (a0 : Int) (a1 : Int) (a2 : Int) (r : Bool) (w : World) (h : spec_l00In.f a0 a1 a2 = some r) :
  Calls Try.prog 62 #[.int .i64 a0, .int .i64 a1, .int .i64 a2] w fun e w' => e = .returned (.bool r) ∧ Drawn0 w w' := by
 have H : (if a0 ≥ a1 then (some (decide (a0 ≤ a2))) else (some false)) = some r := h
 clear h
 by_cases c4 : a0 ≥ a1
 ·rw [if_pos c4] at H
  have c4b0 : decide (a1 ≤ a0) = true := decide_eq_true c4
  clear c4
  obtain rfl := Option.some.inj H
  go_enter Try.func62, Try.ntmps62
  go_wp2
  go_ret
  exact ⟨(by first | rfl | (simp; done) | (simp [*]; done)), (by repeat (first | exact Drawn0.refl _ | apply Drawn0.step))⟩
 rw [if_neg c4] at H
 have c4b0 : decide (a1 ≤ a0) = false := decide_eq_false c4
 clear c4
 obtain rfl := Option.some.inj H
 go_enter Try.func62, Try.ntmps62
 go_wp2
 go_ret
 exact ⟨(by first | rfl | (simp; done) | (simp [*]; done)), (by repeat (first | exact Drawn0.refl _ | apply Drawn0.step))⟩
/-! ### spec_l03Column: function 51 -/
def spec_l03Column.l0 : Nat → List Int → Int → Int → Int → Option (Bool)
  | 0, _, _, _, _ => none
  | k + 1, x0, x1, x2, x7 => if x7 < (x0.length : Int) then (if 0 ≤ x7 then ((spec_l00In.f (rd x0 x7) 0 (wrap64 (x2 - 1))).bind fun t102 => (if t102 = true then (spec_l03Column.l0 k x0 x1 x2 (wrap64 (x7 + 1))) else (some false))) else (none)) else (some ((x0.length : Int) == x1))
def spec_l03Column.f (k : Nat) (l0 : List Int) (a1 : Int) (a2 : Int) : Option (Bool) := spec_l03Column.l0 k l0 a1 a2 0
theorem Z51.z1 {P : Prop} (h : P := by repeat (first | exact Drawn0.refl _ | apply Drawn0.step)) : P := h
theorem Z51.z0 {P : Prop} (h : P := by (try simp only [List.map_toArray, List.map_cons, List.map_nil]); first | done | rfl | (simp only [List.length_drop, List.length_take]; rfl)) : P := h
set_option maxHeartbeats 8000000 in
set_option maxRecDepth 100000 in
theorem spec_l03Column.calls (k : Nat) (A0 : Option Addr) (c0 : Nat) (l0 : List Int) (a1 : Int) (a2 : Int) (r : Bool) (w : World) (hr0 : Kd.C (Kd.int .i64) w A0 l0.length l0) (hc0 : l0.length ≤ c0) (h : spec_l03Column.f k l0 a1 a2 = some r) :
  Calls Try.prog 51 #[.slice A0 l0.length c0, .int .i64 a1, .int .i64 a2] w fun e w' => e = .returned (.bool r) ∧ Drawn0 w w' := by
 have HR0 := Aside0.mk hr0
 have HC0 := Aside0.mk hc0
 clear hr0 hc0
 have H : (spec_l03Column.l0 k l0 a1 a2 0) = some r := h
 clear h
 have H' := Aside0.mk H
 clear H
 go_enter Try.func51, Try.ntmps51
 go_wp2
 go_loopg [7] k (fun kq v7 w' => ∃ (x7_1 : Int), v7 = .int .i64 x7_1 ∧ Aside0 (spec_l03Column.l0 kq l0 a1 a2 x7_1 = some r) ∧ Aside0 (kq ≤ k) ∧ Drawn0 w w')
 case atStart => exact ⟨(0), (by first | rfl | (simp; done) | (simp [*]; done)), H', ⟨Nat.le_refl _⟩, Z51.z1⟩
 case round =>
  clear H'
  try clear p2
  obtain ⟨x7_1, rfl, HA, HK1, ⟨m1, rfl⟩⟩ := hrel
  cases gk with
  | zero => exact absurd HA.out (by simp [spec_l03Column.l0])
  | succ k1 =>
   have H := HA.out
   clear HA
   simp only [spec_l03Column.l0] at H
   by_cases c4 : x7_1 < (l0.length : Int)
   ·rw [if_pos c4] at H
    have c4b0 : decide (x7_1 < (l0.length : Int)) = true := decide_eq_true c4
    clear c4
    by_cases c5 : 0 ≤ x7_1
    ·rw [if_pos c5] at H
     have c5b0 : decide (0 ≤ x7_1) = true := decide_eq_true c5
     clear c5
     replace H := Option.bind_eq_some_iff.mp H
     obtain ⟨t102, A60, H⟩ := H
     replace H : (if t102 = true then (spec_l03Column.l0 k1 l0 a1 a2 (wrap64 (x7_1 + 1))) else (some false)) = some r := H
     have A6 := Aside0.mk A60
     clear A60
     by_cases c7 : t102 = true
     ·subst c7
      rw [if_pos rfl] at H; have H' := Aside0.mk H; clear H; have p101 : 0 ≤ (x7_1 : Int) := of_decide_eq_true (by first | (with_reducible assumption) | assumption); have q101 : x7_1 < (l0.length : Int) := of_decide_eq_true (by first | (with_reducible assumption) | assumption); obtain ⟨ad101, e101, hx101_0⟩ := Kd.at_int HR0.out x7_1 p101 q101; cases e101; replace p101 := eq_true p101; replace q101 := eq_true q101
      go_wp2_with (first | ((with_reducible refine gate_callee (f := 62) rfl ?_); refine goesL_ (some 20) rfl rfl Try.func62 (by kernel_rfl) rfl #[.int .i64 (rd l0 x7_1), .int .i64 0, .int .i64 (wrap64 (a2 - 1))] rfl Z51.z0 ?_; (with_reducible refine (spec_l00In.calls (rd l0 x7_1) 0 (wrap64 (a2 - 1)) true _ A6.out).mono ?_); rintro e w' ⟨rfl, ⟨nd, rfl⟩⟩; refine ⟨_, rfl, ?_⟩))
      go_roundg k1
      case measure => have := HK1.out; omega
      case rel => exact ⟨(wrap64 (x7_1 + 1)), (by first | rfl | (simp; done) | (simp [*]; done)), H', ⟨(by have := HK1.out; omega)⟩, Z51.z1⟩
     replace c7 := Bool.eq_false_iff.mpr c7
     subst c7
     rw [if_neg (show ¬ (false = true) by decide)] at H
     obtain rfl := Option.some.inj H
     have p101 : 0 ≤ (x7_1 : Int) := of_decide_eq_true (by first | (with_reducible assumption) | assumption)
     have q101 : x7_1 < (l0.length : Int) := of_decide_eq_true (by first | (with_reducible assumption) | assumption)
     obtain ⟨ad101, e101, hx101_0⟩ := Kd.at_int HR0.out x7_1 p101 q101
     cases e101
     replace p101 := eq_true p101
     replace q101 := eq_true q101
     go_wp2_with (first | ((with_reducible refine gate_callee (f := 62) rfl ?_); refine goesL_ (some 20) rfl rfl Try.func62 (by kernel_rfl) rfl #[.int .i64 (rd l0 x7_1), .int .i64 0, .int .i64 (wrap64 (a2 - 1))] rfl Z51.z0 ?_; (with_reducible refine (spec_l00In.calls (rd l0 x7_1) 0 (wrap64 (a2 - 1)) false _ A6.out).mono ?_); rintro e w' ⟨rfl, ⟨nd, rfl⟩⟩; refine ⟨_, rfl, ?_⟩))
     go_ret
     exact ⟨(by first | rfl | (simp; done) | (simp [*]; done)), Z51.z1⟩
    rw [if_neg c5] at H
    exact absurd H (by simp)
   rw [if_neg c4] at H
   have c4b0 : decide (x7_1 < (l0.length : Int)) = false := decide_eq_false c4
   clear c4
   obtain rfl := Option.some.inj H
   go_wp2
   go_ret
   exact ⟨(by first | rfl | (simp; done) | (simp [*]; done)), Z51.z1⟩
/-! ### spec_l02Prime: function 61 -/
def spec_l02Prime.l0 : Nat → Int → Int → Option (Bool)
  | 0, _, _ => none
  | k + 1, x0, x3 => if (wrap64 (x3 * x3)) ≤ x0 then (if x3 = 0 then (none) else (if (Int.tmod x0 x3) = 0 then (some false) else (spec_l02Prime.l0 k x0 (wrap64 (x3 + 1))))) else (some true)
def spec_l02Prime.f (k : Nat) (a0 : Int) : Option (Bool) := (spec_l00In.f a0 2 251).bind fun t101 => (if t101 = true then (spec_l02Prime.l0 k a0 2) else (some false))
theorem spec_l02Prime.mono_l : ∀ k, (∀ y0 y1, LeO (spec_l02Prime.l0 k y0 y1) (spec_l02Prime.l0 (k + 1) y0 y1))
  | 0 => fun _ _ r h => by simp [spec_l02Prime.l0] at h
  | k + 1 => by
    have ih0 := spec_l02Prime.mono_l k
    · intro y0 y1
      unfold spec_l02Prime.l0
      repeat' first
      | (with_reducible exact ih0 _ _)
      | (with_reducible exact LeO.refl _)
      | (with_reducible exact LeO.none _)
      | (with_reducible refine LeO.ite ?_ ?_)
      | (with_reducible refine LeO.bind ?_ (fun _ => ?_))
      | exact ih0 _ _
      | exact LeO.none _
      | refine LeO.ite ?_ ?_
      | refine LeO.bind ?_ (fun _ => ?_)
theorem spec_l02Prime.mono : ∀ a0 k, LeO (spec_l02Prime.f k a0) (spec_l02Prime.f (k + 1) a0) := by
  intro a0 k
  have ih0 := spec_l02Prime.mono_l k
  unfold spec_l02Prime.f
  repeat' first
      | (with_reducible exact ih0 _ _)
      | (with_reducible exact LeO.refl _)
      | (with_reducible exact LeO.none _)
      | (with_reducible refine LeO.ite ?_ ?_)
      | (with_reducible refine LeO.bind ?_ (fun _ => ?_))
      | exact ih0 _ _
      | exact LeO.none _
      | refine LeO.ite ?_ ?_
      | refine LeO.bind ?_ (fun _ => ?_)
theorem Z61.z2 {P : Prop} (h : P := by first | rfl | (simp; done) | (simp [*]; done)) : P := h
theorem Z61.z1 {P : Prop} (h : P := by (try simp only [List.map_toArray, List.map_cons, List.map_nil]); first | done | rfl | (simp only [List.length_drop, List.length_take]; rfl)) : P := h
theorem Z61.z0 {P : Prop} (h : P := by repeat (first | exact Drawn0.refl _ | apply Drawn0.step)) : P := h
set_option maxHeartbeats 8000000 in
set_option maxRecDepth 100000 in
theorem spec_l02Prime.calls (k : Nat) (a0 : Int) (r : Bool) (w : World) (h : spec_l02Prime.f k a0 = some r) :
  Calls Try.prog 61 #[.int .i64 a0] w fun e w' => e = .returned (.bool r) ∧ Drawn0 w w' := by
 have H : ((spec_l00In.f a0 2 251).bind fun t101 => (if t101 = true then (spec_l02Prime.l0 k a0 2) else (some false))) = some r := h
 clear h
 replace H := Option.bind_eq_some_iff.mp H
 obtain ⟨t101, A20, H⟩ := H
 replace H : (if t101 = true then (spec_l02Prime.l0 k a0 2) else (some false)) = some r := H
 have A2 := Aside0.mk A20
 clear A20
 by_cases c3 : t101 = true
 ·subst c3
  rw [if_pos rfl] at H
  have H' := Aside0.mk H
  clear H
  go_enter Try.func61, Try.ntmps61
  go_wp2_with (first | ((with_reducible refine gate_callee (f := 62) rfl ?_); refine goesL_ (some 5) rfl rfl Try.func62 (by kernel_rfl) rfl #[.int .i64 a0, .int .i64 2, .int .i64 251] rfl Z61.z1 ?_; (with_reducible refine (spec_l00In.calls a0 2 251 true _ A2.out).mono ?_); rintro e w' ⟨rfl, ⟨nd, rfl⟩⟩; refine ⟨_, rfl, ?_⟩))
  go_loopg [3] k (fun kq v3 w' => ∃ (x3_1 : Int), v3 = .int .i64 x3_1 ∧ Aside0 (spec_l02Prime.l0 kq a0 x3_1 = some r) ∧ Aside0 (kq ≤ k) ∧ Drawn0 w w')
  case atStart => exact ⟨(2), Z61.z2, H', ⟨Nat.le_refl _⟩, Z61.z0⟩
  case round =>
   clear H'
   try clear p2
   try clear c3
   obtain ⟨x3_1, rfl, HA, HK1, ⟨m1, rfl⟩⟩ := hrel
   cases gk with
   | zero => exact absurd HA.out (by simp [spec_l02Prime.l0])
   | succ k1 =>
    have H := HA.out
    clear HA
    simp only [spec_l02Prime.l0] at H
    by_cases c4 : (wrap64 (x3_1 * x3_1)) ≤ a0
    ·rw [if_pos c4] at H
     have c4b0 : decide ((wrap64 (x3_1 * x3_1)) ≤ a0) = true := decide_eq_true c4
     clear c4
     by_cases c5 : x3_1 = 0
     ·rw [if_pos c5] at H
      exact absurd H (by simp)
     rw [if_neg c5] at H
     have c5b0 : (x3_1 == 0) = false := beq_eq_false_iff_ne.mpr c5
     have c5b1 : (x3_1 != 0) = true := bne_iff_ne.mpr c5
     by_cases c6 : (Int.tmod a0 x3_1) = 0
     ·rw [if_pos c6] at H
      have c6b0 : ((Int.tmod a0 x3_1) == 0) = true := beq_iff_eq.mpr c6; have c6b1 : ((Int.tmod a0 x3_1) != 0) = false := bne_eq_false_iff_eq.mpr c6; clear c6; obtain rfl := Option.some.inj H
      go_wp2
      go_ret
      exact ⟨Z61.z2, Z61.z0⟩
     rw [if_neg c6] at H
     have c6b0 : ((Int.tmod a0 x3_1) == 0) = false := beq_eq_false_iff_ne.mpr c6
     have c6b1 : ((Int.tmod a0 x3_1) != 0) = true := bne_iff_ne.mpr c6
     have H' := Aside0.mk H
     clear H
     go_wp2
     go_roundg k1
     case measure => have := HK1.out; omega
     case rel => exact ⟨(wrap64 (x3_1 + 1)), Z61.z2, H', ⟨(by have := HK1.out; omega)⟩, Z61.z0⟩
    rw [if_neg c4] at H
    have c4b0 : decide ((wrap64 (x3_1 * x3_1)) ≤ a0) = false := decide_eq_false c4
    clear c4
    obtain rfl := Option.some.inj H
    go_wp2
    go_ret
    exact ⟨Z61.z2, Z61.z0⟩
 replace c3 := Bool.eq_false_iff.mpr c3
 subst c3
 rw [if_neg (show ¬ (false = true) by decide)] at H
 obtain rfl := Option.some.inj H
 go_enter Try.func61, Try.ntmps61
 go_wp2_with (first | ((with_reducible refine gate_callee (f := 62) rfl ?_); refine goesL_ (some 5) rfl rfl Try.func62 (by kernel_rfl) rfl #[.int .i64 a0, .int .i64 2, .int .i64 251] rfl Z61.z1 ?_; (with_reducible refine (spec_l00In.calls a0 2 251 false _ A2.out).mono ?_); rintro e w' ⟨rfl, ⟨nd, rfl⟩⟩; refine ⟨_, rfl, ?_⟩))
 go_ret
 exact ⟨Z61.z2, Z61.z0⟩
/-! ### spec_ValidPrime: function 84 -/
def spec_ValidPrime.f (k : Nat) (a0 : Int) : Option (Bool) := (spec_l02Prime.f k a0).bind fun t101 => (some t101)
set_option maxHeartbeats 8000000 in
set_option maxRecDepth 100000 in
theorem spec_ValidPrime.calls (k : Nat) (a0 : Int) (r : Bool) (w : World) (h : spec_ValidPrime.f k a0 = some r) :
  Calls Try.prog 84 #[.int .i64 a0] w fun e w' => e = .returned (.bool r) ∧ Drawn0 w w' := by
 have H : ((spec_l02Prime.f k a0).bind fun t101 => (some t101)) = some r := h
 clear h
 replace H := Option.bind_eq_some_iff.mp H
 obtain ⟨t101, A20, H⟩ := H
 replace H : (some t101) = some r := H
 have A2 := Aside0.mk A20
 clear A20
 obtain rfl := Option.some.inj H
 go_enter Try.func84, Try.ntmps84
 go_wp2_with (first | ((with_reducible refine gate_callee (f := 61) rfl ?_); refine goesL_ (some 4) rfl rfl Try.func61 (by kernel_rfl) rfl #[.int .i64 a0] rfl (by (try simp only [List.map_toArray, List.map_cons, List.map_nil]); first | done | rfl | (simp only [List.length_drop, List.length_take]; rfl)) ?_; (with_reducible refine (spec_l02Prime.calls k a0 t101 _ A2.out).mono ?_); rintro e w' ⟨rfl, ⟨nd, rfl⟩⟩; refine ⟨_, rfl, ?_⟩))
 go_ret
 exact ⟨(by first | rfl | (simp; done) | (simp [*]; done)), (by repeat (first | exact Drawn0.refl _ | apply Drawn0.step))⟩
/-! ### spec_l03Ok: function 50 -/
def spec_l03Ok.f (k : Nat) (a0_0 : Int) (a0_1 : Int) (a0_2 : Int) (l0_3 : List Int) : Option (Bool) := (spec_ValidPrime.f k a0_0).bind fun t102 => (if t102 = true then ((spec_l00In.f a0_1 0 32).bind fun t103 => (if t103 = true then ((spec_l00In.f a0_2 0 32).bind fun t104 => (if t104 = true then ((spec_l03Column.f k l0_3 (wrap64 (a0_1 * a0_2)) a0_0).bind fun t105 => (some t105)) else (some false))) else (some false))) else (some false))
def spec_l03Ok.T1 : Bool × List (List Nat × List Nat) := (true, [([], []), ([0], [0]), ([1], [1]), ([2], [2]), ([3], [3]), ([4, 4], [4]), ([5], [5]), ([6, 5], [5, 6]), ([7, 5], [5, 7]), ([8, 5], [5, 8]), ([9, 5, 5], [5, 9]), ([5, 10], [5, 10]), ([11, 10], [11]), ([12], [12]), ([13, 12], [12, 13]), ([14, 12], [12, 14]), ([15, 12], [12, 15]), ([16, 12, 12], [12, 16]), ([12, 17], [12, 17]), ([18, 17], [18]), ([19], [19]), ([20, 19], [19, 20]), ([21, 19], [19, 21]), ([22, 19], [19, 22]), ([19], [19]), ([24, 19], [19, 24]), ([25, 19], [19, 25]), ([26, 19], [19, 26]), ([19], [19]), ([28, 19], [19, 28]), ([29, 19], [19, 29]), ([30, 19], [19, 30]), ([27, 31, 19], [19, 27, 31]), ([19], [19]), ([33, 19], [19, 33]), ([34, 19], [19, 34]), ([35, 19], [19, 35]), ([23, 32, 36, 19, 19], [19, 23, 32, 36]), ([19, 37], [19, 37]), ([38, 37, 0, 1, 2, 3, 4, 5, 6, 7, 8, 9, 10, 11, 12, 13, 14, 15, 16, 17, 18, 19, 20, 21, 22, 23, 24, 25, 26, 27, 28, 29, 30, 31, 32, 33, 34, 35, 36, 37, 38], [38])])
def spec_l03Ok.B1 : List Nat := [0, 1, 3, 7, 15, 31, 63, 127, 255, 511, 1023, 2047, 4095, 8191, 16383, 32767, 65535, 131071, 262143, 524287, 1048575, 2097151, 4194303, 8388607, 1048575, 17825791, 51380223, 118489087, 1048575, 269484031, 806354943, 1880096767, 4279238655, 1048575, 8590983167, 25770852351, 60130590719, 137438953471, 274877906943, 549755813887]
theorem spec_l03Ok.tab1 : rtab .any (opsOf Try.f50 1) = spec_l03Ok.T1 := by kernel_rfl
theorem spec_l03Ok.bits1 : waitsOk spec_l03Ok.T1.2 spec_l03Ok.B1 = true := by kernel_rfl
def Z50.b (n x : Nat) : Array Bool := ((List.range n).map (fun i => x.testBit i)).toArray
theorem Z50.pP {P : Program} {ops : Array Oper} {Q : Exit → Act → World → Prop} {md : Region.Mode} {S : World → Prop} {ds : List Nat} (i N : Nat) {oi : Oper} {v : Value} {fuel : Nat} {l : Array Bool} {a : Act} {w : World} (l' : Array Bool) (hc : anyB md ops l l' i = true) {a' : Act} (h : wpAnyLast P md ops Q S ds fuel l' a' w) (hi : ops[i]? = some oi := by rfl) (hN : oi.dst = some N := by rfl) (hQ : ∀ c a w, Q (.panic c) (a.put oi.dst v) w → Q (.panic c) a w := by exact fun _ _ _ h => h) (hy : Yields P ops oi v a := by exact Or.inl ⟨(by rfl), by intro w'; go_simp; with_reducible rfl⟩) (ha : a.put (some N) v = a' := by simp only [Act.put, List.setIfInBounds_toArray, List.set_cons_zero, List.set_cons_succ, i64_w, i32_w]; rfl) : wpAnyLast P md ops Q S ds (fuel + 1) l a w := pure_ l' hi hN hc hQ hy ha h
theorem Z50.pT4 {P : Program} {ops : Array Oper} {Q : Exit → Act → World → Prop} {md : Region.Mode} {S : World → Prop} {ds : List Nat} (i N : Nat) {oi : Oper} {v : Value} {fuel : Nat} {l : Array Bool} {a : Act} {w : World} (l' : Array Bool) (hc : takeB md ops ds l l' i = true) (hS : S w) {a' : Act} (h : wpAnyLast P md ops Q S ds fuel l' a' w) (hi : ops[i]? = some oi := by rfl) (hN : oi.dst = some N := by rfl) (hQ : ∀ c a w, Q (.panic c) (a.put oi.dst v) w → Q (.panic c) a w := by exact fun _ _ _ h => h) (hy : YieldsIf P ops S oi v a := by exact Or.inl ⟨(by rfl), by rintro w' ⟨s0, s1, s2, s3⟩; go_simp; with_reducible rfl⟩) (ha : a.put (some N) v = a' := by simp only [Act.put, List.setIfInBounds_toArray, List.set_cons_zero, List.set_cons_succ, i64_w, i32_w]; rfl) : wpAnyLast P md ops Q S ds (fuel + 1) l a w := take_ l' hi hN hc hQ hy hS ha h
theorem Z50.z4 {P : Prop} (h : P := by first | rfl | (simp [errW_none, errW_some] <;> rfl) | (simp [*, errW_none, errW_some] <;> rfl)) : P := h
theorem Z50.z3 {P : Prop} (h : P := by repeat (first | (with_reducible first | exact HB.out | apply below_alloc | apply pw_below_drewN | apply below_drew1 | refine below_set ?_ GE101.out) | exact HB.out)) : P := h
theorem Z50.z2 {P : Prop} (h : P := by (try simp only [List.map_toArray, List.map_cons, List.map_nil]); first | done | rfl | (simp only [List.length_drop, List.length_take]; rfl)) : P := h
theorem Z50.z1 {P : Prop} (h : P := by exact ⟨(blk_cell BK101.out 0).trans rfl, (blk_cell BK101.out 1).trans rfl, (blk_cell BK101.out 2).trans rfl, (blk_cell BK101.out 3).trans rfl⟩) : P := h
theorem Z50.z0 {P : Prop} (h : P := by simp only [Act.put, List.setIfInBounds_toArray, List.set_cons_zero, List.set_cons_succ, i64_w, i32_w]; rfl) : P := h
set_option maxHeartbeats 8000000 in
set_option maxRecDepth 100000 in
theorem spec_l03Ok.calls (k : Nat) (a0_0 : Int) (a0_1 : Int) (a0_2 : Int) (A0_3 : Option Addr) (c0_3 : Nat) (l0_3 : List Int) (r : Bool) (w : World) (hr0_3 : Kd.C (Kd.int .i64) w A0_3 l0_3.length l0_3) (hc0_3 : l0_3.length ≤ c0_3) {g0_ : Nat} (hbk0_ : w.heap[g0_]? = some (.cells #[.int .i64 a0_0, .int .i64 a0_1, .int .i64 a0_2, .slice A0_3 l0_3.length c0_3] 28 (0, 0))) (h : spec_l03Ok.f k a0_0 a0_1 a0_2 l0_3 = some r) :
  Calls Try.prog 50 #[.pointer (some ⟨g0_, 0, none⟩)] w fun e w' => e = .returned (.bool r) ∧ Below w.heap.size w w' := by
 have hu28 := Try.underlying28
 have HR0_3 := Aside0.mk hr0_3
 have HC0_3 := Aside0.mk hc0_3
 clear hr0_3 hc0_3
 have HB := Aside0.mk (Below.refl w.heap.size w)
 have H : ((spec_ValidPrime.f k a0_0).bind fun t102 => (if t102 = true then ((spec_l00In.f a0_1 0 32).bind fun t103 => (if t103 = true then ((spec_l00In.f a0_2 0 32).bind fun t104 => (if t104 = true then ((spec_l03Column.f k l0_3 (wrap64 (a0_1 * a0_2)) a0_0).bind fun t105 => (some t105)) else (some false))) else (some false))) else (some false))) = some r := h
 clear h
 replace H := Option.bind_eq_some_iff.mp H
 obtain ⟨t102, A20, H⟩ := H
 replace H : (if t102 = true then ((spec_l00In.f a0_1 0 32).bind fun t103 => (if t103 = true then ((spec_l00In.f a0_2 0 32).bind fun t104 => (if t104 = true then ((spec_l03Column.f k l0_3 (wrap64 (a0_1 * a0_2)) a0_0).bind fun t105 => (some t105)) else (some false))) else (some false))) else (some false)) = some r := H
 have A2 := Aside0.mk A20
 clear A20
 by_cases c3 : t102 = true
 ·subst c3
  rw [if_pos rfl] at H
  replace H := Option.bind_eq_some_iff.mp H
  obtain ⟨t103, A40, H⟩ := H
  (try dsimp only at H)
  have A4 := Aside0.mk A40
  clear A40
  by_cases c5 : t103 = true
  ·subst c5
   rw [if_pos rfl] at H
   replace H := Option.bind_eq_some_iff.mp H
   obtain ⟨t104, A60, H⟩ := H
   (try dsimp only at H)
   have A6 := Aside0.mk A60
   clear A60
   by_cases c7 : t104 = true
   ·subst c7
    rw [if_pos rfl] at H
    replace H := Option.bind_eq_some_iff.mp H
    obtain ⟨t105, A80, H⟩ := H
    (try dsimp only at H)
    have A8 := Aside0.mk A80
    clear A80
    obtain rfl := Option.some.inj H
    go_enter Try.func50, Try.ntmps50
    have BK101 := Aside0.mk hbk0_
    try go_wp2_with (first | fail)
    replace BK101 := Aside0.mk (blk_drew BK101.out)
    replace HB := Aside0.mk (below_drew1 HB.out)
    refine start_ (n := 40) (S := fun w' => w'.cell? ⟨g0_, 0, none⟩ = some (.int .i64 a0_0) ∧ w'.cell? ⟨g0_, 1, none⟩ = some (.int .i64 a0_1) ∧ w'.cell? ⟨g0_, 2, none⟩ = some (.int .i64 a0_2) ∧ w'.cell? ⟨g0_, 3, none⟩ = some (.slice A0_3 l0_3.length c0_3)) (ds := []) #[false, false, false, false, false, false, false, false, false, false, false, false, false, false, false, false, false, false, false, false, false, false, false, false, false, false, false, false, false, false, false, false, false, false, false, false, false, false, false, false] (by kernel_rfl) rfl rfl Z50.z1 (fun hHeld => ?_); refine with_tabW spec_l03Ok.tab1 spec_l03Ok.bits1 (fun HT_ HW_ => ?_)
    generalize w.drew = w10 at BK101 HB hHeld ⊢
    refine Z50.pP 0 3 (Z50.b 40 1) (any_of HT_.out (by kernel_rfl)) ?_
    refine Z50.pP 1 4 (Z50.b 40 3) (any_of HT_.out (by kernel_rfl)) ?_
    refine Z50.pP 2 5 (Z50.b 40 7) (any_of HT_.out (by kernel_rfl)) ?_
    refine Z50.pT4 3 6 (Z50.b 40 15) (take_ofW HT_.out HW_.out (by kernel_rfl)) hHeld ?_
    refine one_ (i := 4) (N := some 7) (Z50.b 40 31) rfl rfl (one_of HT_.out (by kernel_rfl)) (by decide) (fun K hK => ?_)
    refine goes_ Try.func84 (by kernel_rfl) rfl #[.int .i64 a0_0] (by rfl) rfl rfl Z50.z2 ?_
    with_reducible refine (spec_ValidPrime.calls k a0_0 true _ A2.out).mono ?_
    rintro e w' ⟨rfl, ⟨nd, rfl⟩⟩
    refine ⟨_, rfl, ?_⟩
    refine hK.out _ _ Z50.z1 (fun hHeld => ?_)
    clear hK K
    refine norm_ (a' := ?_) ?_ ?_
    rotate_left
    ·show Act.put _ (some 7) _ = _
     simp only [Act.put, List.setIfInBounds_toArray, List.set_cons_zero, List.set_cons_succ, i64_w, i32_w]
     rfl
    refine Z50.pP 5 8 (Z50.b 40 63) (any_of HT_.out (by kernel_rfl)) ?_
    refine Z50.pP 6 9 (Z50.b 40 127) (any_of HT_.out (by kernel_rfl)) ?_
    refine Z50.pP 7 10 (Z50.b 40 255) (any_of HT_.out (by kernel_rfl)) ?_
    refine Z50.pP 8 11 (Z50.b 40 511) (any_of HT_.out (by kernel_rfl)) ?_
    refine Z50.pT4 9 12 (Z50.b 40 1023) (take_ofW HT_.out HW_.out (by kernel_rfl)) hHeld ?_
    refine one_ (i := 10) (N := some 13) (Z50.b 40 2047) rfl rfl (one_of HT_.out (by kernel_rfl)) (by decide) (fun K hK => ?_)
    refine goes_ Try.func62 (by kernel_rfl) rfl #[.int .i64 a0_1, .int .i64 0, .int .i64 32] (by rfl) rfl rfl Z50.z2 ?_
    with_reducible refine (spec_l00In.calls a0_1 0 32 true _ A4.out).mono ?_
    rintro e w' ⟨rfl, ⟨nd, rfl⟩⟩
    refine ⟨_, rfl, ?_⟩
    refine hK.out _ _ Z50.z1 (fun hHeld => ?_)
    clear hK K
    refine norm_ (a' := ?_) ?_ ?_
    rotate_left
    ·show Act.put _ (some 13) _ = _
     simp only [Act.put, List.setIfInBounds_toArray, List.set_cons_zero, List.set_cons_succ, i64_w, i32_w]
     rfl
    refine Z50.pP 11 14 (Z50.b 40 4095) (any_of HT_.out (by kernel_rfl)) ?_
    refine Z50.pP 12 15 (Z50.b 40 8191) (any_of HT_.out (by kernel_rfl)) ?_
    refine Z50.pP 13 16 (Z50.b 40 16383) (any_of HT_.out (by kernel_rfl)) ?_
    refine Z50.pP 14 17 (Z50.b 40 32767) (any_of HT_.out (by kernel_rfl)) ?_
    refine Z50.pP 15 18 (Z50.b 40 65535) (any_of HT_.out (by kernel_rfl)) ?_
    refine Z50.pT4 16 19 (Z50.b 40 131071) (take_ofW HT_.out HW_.out (by kernel_rfl)) hHeld ?_
    refine one_ (i := 17) (N := some 20) (Z50.b 40 262143) rfl rfl (one_of HT_.out (by kernel_rfl)) (by decide) (fun K hK => ?_)
    refine goes_ Try.func62 (by kernel_rfl) rfl #[.int .i64 a0_2, .int .i64 0, .int .i64 32] (by rfl) rfl rfl Z50.z2 ?_
    with_reducible refine (spec_l00In.calls a0_2 0 32 true _ A6.out).mono ?_
    rintro e w' ⟨rfl, ⟨nd, rfl⟩⟩
    refine ⟨_, rfl, ?_⟩
    refine hK.out _ _ Z50.z1 (fun hHeld => ?_)
    clear hK K
    refine norm_ (a' := ?_) ?_ ?_
    rotate_left
    ·show Act.put _ (some 20) _ = _
     simp only [Act.put, List.setIfInBounds_toArray, List.set_cons_zero, List.set_cons_succ, i64_w, i32_w]
     rfl
    refine Z50.pP 18 21 (Z50.b 40 524287) (any_of HT_.out (by kernel_rfl)) ?_
    refine Z50.pP 19 22 (Z50.b 40 1048575) (any_of HT_.out (by kernel_rfl)) ?_
    refine Z50.pP 20 23 (Z50.b 40 2097151) (any_of HT_.out (by kernel_rfl)) ?_
    refine Z50.pP 21 24 (Z50.b 40 4194303) (any_of HT_.out (by kernel_rfl)) ?_
    refine Z50.pP 22 25 (Z50.b 40 8388607) (any_of HT_.out (by kernel_rfl)) ?_
    refine Z50.pP 24 27 (Z50.b 40 25165823) (any_of HT_.out (by kernel_rfl)) ?_
    refine Z50.pP 25 28 (Z50.b 40 58720255) (any_of HT_.out (by kernel_rfl)) ?_
    refine Z50.pP 26 29 (Z50.b 40 125829119) (any_of HT_.out (by kernel_rfl)) ?_
    refine Z50.pP 28 31 (Z50.b 40 394264575) (any_of HT_.out (by kernel_rfl)) ?_
    refine Z50.pP 29 32 (Z50.b 40 931135487) (any_of HT_.out (by kernel_rfl)) ?_
    refine Z50.pP 30 33 (Z50.b 40 2004877311) (any_of HT_.out (by kernel_rfl)) ?_
    refine Z50.pP 33 36 (Z50.b 40 10594811903) (any_of HT_.out (by kernel_rfl)) ?_
    refine Z50.pP 34 37 (Z50.b 40 27774681087) (any_of HT_.out (by kernel_rfl)) ?_
    refine Z50.pP 35 38 (Z50.b 40 62134419455) (any_of HT_.out (by kernel_rfl)) ?_
    refine Z50.pT4 23 26 (Z50.b 40 62142808063) (take_ofW HT_.out HW_.out (by kernel_rfl)) hHeld ?_
    refine Z50.pT4 27 30 (Z50.b 40 62277025791) (take_ofW HT_.out HW_.out (by kernel_rfl)) hHeld ?_
    refine Z50.pT4 31 34 (Z50.b 40 64424509439) (take_ofW HT_.out HW_.out (by kernel_rfl)) hHeld ?_
    refine Z50.pP 32 35 (Z50.b 40 68719476735) (any_of HT_.out (by kernel_rfl)) ?_
    refine Z50.pT4 36 39 (Z50.b 40 137438953471) (take_ofW HT_.out HW_.out (by kernel_rfl)) hHeld ?_
    refine one_ (i := 37) (N := some 40) (Z50.b 40 274877906943) rfl rfl (one_of HT_.out (by kernel_rfl)) (by decide) (fun K hK => ?_)
    refine goes_ Try.func51 (by kernel_rfl) rfl #[.slice A0_3 l0_3.length c0_3, .int .i64 (wrap64 (a0_1 * a0_2)), .int .i64 a0_0] (by rfl) rfl rfl Z50.z2 ?_
    with_reducible refine (spec_l03Column.calls k _ _ l0_3 (wrap64 (a0_1 * a0_2)) a0_0 t105 _ ?side1 ?side2 A8.out).mono ?_
    (case side1 => exact (by repeat (first | exact (Kd.C_below HR0_3.out Z50.z3) | (with_reducible refine Kd.C_alloc ?_ _) | (with_reducible refine Kd.C_drewN ?_ _) | (with_reducible refine Kd.C_drew ?_))))
    (case side2 => exact HC0_3.out)
    rintro e w' ⟨rfl, ⟨nd, rfl⟩⟩
    refine ⟨_, rfl, ?_⟩
    refine hK.out _ _ Z50.z1 (fun hHeld => ?_)
    clear hK K
    refine norm_ (a' := ?_) ?_ ?_
    rotate_left
    ·show Act.put _ (some 40) _ = _
     simp only [Act.put, List.setIfInBounds_toArray, List.set_cons_zero, List.set_cons_succ, i64_w, i32_w]
     rfl
    refine Z50.pP 38 41 (Z50.b 40 549755813887) (any_of HT_.out (by kernel_rfl)) ?_
    refine Z50.pP 39 2 (Z50.b 40 1099511627775) (any_of HT_.out (by kernel_rfl)) ?_
    refine done_ (done_of HT_.out (by kernel_rfl)) ?_
    try go_wp2
    go_ret
    exact ⟨Z50.z4, Z50.z3⟩
   replace c7 := Bool.eq_false_iff.mpr c7
   subst c7
   rw [if_neg (show ¬ (false = true) by decide)] at H
   obtain rfl := Option.some.inj H
   go_enter Try.func50, Try.ntmps50
   have BK101 := Aside0.mk hbk0_
   try go_wp2_with (first | fail)
   replace BK101 := Aside0.mk (blk_drew BK101.out)
   replace HB := Aside0.mk (below_drew1 HB.out)
   refine start_ (n := 40) (S := fun w' => w'.cell? ⟨g0_, 0, none⟩ = some (.int .i64 a0_0) ∧ w'.cell? ⟨g0_, 1, none⟩ = some (.int .i64 a0_1) ∧ w'.cell? ⟨g0_, 2, none⟩ = some (.int .i64 a0_2) ∧ w'.cell? ⟨g0_, 3, none⟩ = some (.slice A0_3 l0_3.length c0_3)) (ds := []) #[false, false, false, false, false, false, false, false, false, false, false, false, false, false, false, false, false, false, false, false, false, false, false, false, false, false, false, false, false, false, false, false, false, false, false, false, false, false, false, false] (by kernel_rfl) rfl rfl Z50.z1 (fun hHeld => ?_); refine with_tabW spec_l03Ok.tab1 spec_l03Ok.bits1 (fun HT_ HW_ => ?_)
   generalize w.drew = w12 at BK101 HB hHeld ⊢
   refine Z50.pP 0 3 (Z50.b 40 1) (any_of HT_.out (by kernel_rfl)) ?_
   refine Z50.pP 1 4 (Z50.b 40 3) (any_of HT_.out (by kernel_rfl)) ?_
   refine Z50.pP 2 5 (Z50.b 40 7) (any_of HT_.out (by kernel_rfl)) ?_
   refine Z50.pT4 3 6 (Z50.b 40 15) (take_ofW HT_.out HW_.out (by kernel_rfl)) hHeld ?_
   refine one_ (i := 4) (N := some 7) (Z50.b 40 31) rfl rfl (one_of HT_.out (by kernel_rfl)) (by decide) (fun K hK => ?_)
   refine goes_ Try.func84 (by kernel_rfl) rfl #[.int .i64 a0_0] (by rfl) rfl rfl Z50.z2 ?_
   with_reducible refine (spec_ValidPrime.calls k a0_0 true _ A2.out).mono ?_
   rintro e w' ⟨rfl, ⟨nd, rfl⟩⟩
   refine ⟨_, rfl, ?_⟩
   refine hK.out _ _ Z50.z1 (fun hHeld => ?_)
   clear hK K
   refine norm_ (a' := ?_) ?_ ?_
   rotate_left
   ·show Act.put _ (some 7) _ = _
    simp only [Act.put, List.setIfInBounds_toArray, List.set_cons_zero, List.set_cons_succ, i64_w, i32_w]
    rfl
   refine Z50.pP 5 8 (Z50.b 40 63) (any_of HT_.out (by kernel_rfl)) ?_
   refine Z50.pP 6 9 (Z50.b 40 127) (any_of HT_.out (by kernel_rfl)) ?_
   refine Z50.pP 7 10 (Z50.b 40 255) (any_of HT_.out (by kernel_rfl)) ?_
   refine Z50.pP 8 11 (Z50.b 40 511) (any_of HT_.out (by kernel_rfl)) ?_
   refine Z50.pT4 9 12 (Z50.b 40 1023) (take_ofW HT_.out HW_.out (by kernel_rfl)) hHeld ?_
   refine one_ (i := 10) (N := some 13) (Z50.b 40 2047) rfl rfl (one_of HT_.out (by kernel_rfl)) (by decide) (fun K hK => ?_)
   refine goes_ Try.func62 (by kernel_rfl) rfl #[.int .i64 a0_1, .int .i64 0, .int .i64 32] (by rfl) rfl rfl Z50.z2 ?_
   with_reducible refine (spec_l00In.calls a0_1 0 32 true _ A4.out).mono ?_
   rintro e w' ⟨rfl, ⟨nd, rfl⟩⟩
   refine ⟨_, rfl, ?_⟩
   refine hK.out _ _ Z50.z1 (fun hHeld => ?_)
   clear hK K
   refine norm_ (a' := ?_) ?_ ?_
   rotate_left
   ·show Act.put _ (some 13) _ = _
    simp only [Act.put, List.setIfInBounds_toArray, List.set_cons_zero, List.set_cons_succ, i64_w, i32_w]
    rfl
   refine Z50.pP 11 14 (Z50.b 40 4095) (any_of HT_.out (by kernel_rfl)) ?_
   refine Z50.pP 12 15 (Z50.b 40 8191) (any_of HT_.out (by kernel_rfl)) ?_
   refine Z50.pP 13 16 (Z50.b 40 16383) (any_of HT_.out (by kernel_rfl)) ?_
   refine Z50.pP 14 17 (Z50.b 40 32767) (any_of HT_.out (by kernel_rfl)) ?_
   refine Z50.pP 15 18 (Z50.b 40 65535) (any_of HT_.out (by kernel_rfl)) ?_
   refine Z50.pT4 16 19 (Z50.b 40 131071) (take_ofW HT_.out HW_.out (by kernel_rfl)) hHeld ?_
   refine one_ (i := 17) (N := some 20) (Z50.b 40 262143) rfl rfl (one_of HT_.out (by kernel_rfl)) (by decide) (fun K hK => ?_)
   refine goes_ Try.func62 (by kernel_rfl) rfl #[.int .i64 a0_2, .int .i64 0, .int .i64 32] (by rfl) rfl rfl Z50.z2 ?_
   with_reducible refine (spec_l00In.calls a0_2 0 32 false _ A6.out).mono ?_
   rintro e w' ⟨rfl, ⟨nd, rfl⟩⟩
   refine ⟨_, rfl, ?_⟩
   refine hK.out _ _ Z50.z1 (fun hHeld => ?_)
   clear hK K
   refine norm_ (a' := ?_) ?_ ?_
   rotate_left
   ·show Act.put _ (some 20) _ = _
    simp only [Act.put, List.setIfInBounds_toArray, List.set_cons_zero, List.set_cons_succ, i64_w, i32_w]
    rfl
   refine Z50.pP 18 21 (Z50.b 40 524287) (any_of HT_.out (by kernel_rfl)) ?_
   refine Z50.pP 19 22 (Z50.b 40 1048575) (any_of HT_.out (by kernel_rfl)) ?_
   refine pure_ (i := 20) (N := some 23) (v := undef) (a' := ?_) (Z50.b 40 2097151) rfl rfl (any_of HT_.out (by kernel_rfl)) (fun _ _ _ h => h) (Or.inr ⟨(by rfl), rfl⟩) ?_ ?_
   rotate_left
   ·exact Z50.z0
   refine pure_ (i := 21) (N := some 24) (v := undef) (a' := ?_) (Z50.b 40 4194303) rfl rfl (any_of HT_.out (by kernel_rfl)) (fun _ _ _ h => h) (Or.inr ⟨(by rfl), rfl⟩) ?_ ?_
   rotate_left
   ·exact Z50.z0
   refine pure_ (i := 22) (N := some 25) (v := undef) (a' := ?_) (Z50.b 40 8388607) rfl rfl (any_of HT_.out (by kernel_rfl)) (fun _ _ _ h => h) (Or.inr ⟨(by rfl), rfl⟩) ?_ ?_
   rotate_left
   ·exact Z50.z0
   refine pure_ (i := 23) (N := some 26) (v := undef) (a' := ?_) (Z50.b 40 16777215) rfl rfl (any_of HT_.out (by kernel_rfl)) (fun _ _ _ h => h) (Or.inr ⟨(by rfl), rfl⟩) ?_ ?_
   rotate_left
   ·exact Z50.z0
   refine pure_ (i := 24) (N := some 27) (v := undef) (a' := ?_) (Z50.b 40 33554431) rfl rfl (any_of HT_.out (by kernel_rfl)) (fun _ _ _ h => h) (Or.inr ⟨(by rfl), rfl⟩) ?_ ?_
   rotate_left
   ·exact Z50.z0
   refine pure_ (i := 25) (N := some 28) (v := undef) (a' := ?_) (Z50.b 40 67108863) rfl rfl (any_of HT_.out (by kernel_rfl)) (fun _ _ _ h => h) (Or.inr ⟨(by rfl), rfl⟩) ?_ ?_
   rotate_left
   ·exact Z50.z0
   refine pure_ (i := 26) (N := some 29) (v := undef) (a' := ?_) (Z50.b 40 134217727) rfl rfl (any_of HT_.out (by kernel_rfl)) (fun _ _ _ h => h) (Or.inr ⟨(by rfl), rfl⟩) ?_ ?_
   rotate_left
   ·exact Z50.z0
   refine pure_ (i := 27) (N := some 30) (v := undef) (a' := ?_) (Z50.b 40 268435455) rfl rfl (any_of HT_.out (by kernel_rfl)) (fun _ _ _ h => h) (Or.inr ⟨(by rfl), rfl⟩) ?_ ?_
   rotate_left
   ·exact Z50.z0
   refine pure_ (i := 28) (N := some 31) (v := undef) (a' := ?_) (Z50.b 40 536870911) rfl rfl (any_of HT_.out (by kernel_rfl)) (fun _ _ _ h => h) (Or.inr ⟨(by rfl), rfl⟩) ?_ ?_
   rotate_left
   ·exact Z50.z0
   refine pure_ (i := 29) (N := some 32) (v := undef) (a' := ?_) (Z50.b 40 1073741823) rfl rfl (any_of HT_.out (by kernel_rfl)) (fun _ _ _ h => h) (Or.inr ⟨(by rfl), rfl⟩) ?_ ?_
   rotate_left
   ·exact Z50.z0
   refine pure_ (i := 30) (N := some 33) (v := undef) (a' := ?_) (Z50.b 40 2147483647) rfl rfl (any_of HT_.out (by kernel_rfl)) (fun _ _ _ h => h) (Or.inr ⟨(by rfl), rfl⟩) ?_ ?_
   rotate_left
   ·exact Z50.z0
   refine pure_ (i := 31) (N := some 34) (v := undef) (a' := ?_) (Z50.b 40 4294967295) rfl rfl (any_of HT_.out (by kernel_rfl)) (fun _ _ _ h => h) (Or.inr ⟨(by rfl), rfl⟩) ?_ ?_
   rotate_left
   ·exact Z50.z0
   refine pure_ (i := 32) (N := some 35) (v := undef) (a' := ?_) (Z50.b 40 8589934591) rfl rfl (any_of HT_.out (by kernel_rfl)) (fun _ _ _ h => h) (Or.inr ⟨(by rfl), rfl⟩) ?_ ?_
   rotate_left
   ·exact Z50.z0
   refine pure_ (i := 33) (N := some 36) (v := undef) (a' := ?_) (Z50.b 40 17179869183) rfl rfl (any_of HT_.out (by kernel_rfl)) (fun _ _ _ h => h) (Or.inr ⟨(by rfl), rfl⟩) ?_ ?_
   rotate_left
   ·exact Z50.z0
   refine pure_ (i := 34) (N := some 37) (v := undef) (a' := ?_) (Z50.b 40 34359738367) rfl rfl (any_of HT_.out (by kernel_rfl)) (fun _ _ _ h => h) (Or.inr ⟨(by rfl), rfl⟩) ?_ ?_
   rotate_left
   ·exact Z50.z0
   refine pure_ (i := 35) (N := some 38) (v := undef) (a' := ?_) (Z50.b 40 68719476735) rfl rfl (any_of HT_.out (by kernel_rfl)) (fun _ _ _ h => h) (Or.inr ⟨(by rfl), rfl⟩) ?_ ?_
   rotate_left
   ·exact Z50.z0
   refine pure_ (i := 36) (N := some 39) (v := undef) (a' := ?_) (Z50.b 40 137438953471) rfl rfl (any_of HT_.out (by kernel_rfl)) (fun _ _ _ h => h) (Or.inr ⟨(by rfl), rfl⟩) ?_ ?_
   rotate_left
   ·exact Z50.z0
   refine pure_ (i := 37) (N := some 40) (v := undef) (a' := ?_) (Z50.b 40 274877906943) rfl rfl (any_of HT_.out (by kernel_rfl)) (fun _ _ _ h => h) (Or.inr ⟨(by rfl), rfl⟩) ?_ ?_
   rotate_left
   ·exact Z50.z0
   refine Z50.pP 38 41 (Z50.b 40 549755813887) (any_of HT_.out (by kernel_rfl)) ?_
   refine Z50.pP 39 2 (Z50.b 40 1099511627775) (any_of HT_.out (by kernel_rfl)) ?_
   refine done_ (done_of HT_.out (by kernel_rfl)) ?_
   try go_wp2
   go_ret
   exact ⟨Z50.z4, Z50.z3⟩
  replace c5 := Bool.eq_false_iff.mpr c5
  subst c5
  rw [if_neg (show ¬ (false = true) by decide)] at H
  obtain rfl := Option.some.inj H
  go_enter Try.func50, Try.ntmps50
  have BK101 := Aside0.mk hbk0_
  try go_wp2_with (first | fail)
  replace BK101 := Aside0.mk (blk_drew BK101.out)
  replace HB := Aside0.mk (below_drew1 HB.out)
  refine start_ (n := 40) (S := fun w' => w'.cell? ⟨g0_, 0, none⟩ = some (.int .i64 a0_0) ∧ w'.cell? ⟨g0_, 1, none⟩ = some (.int .i64 a0_1) ∧ w'.cell? ⟨g0_, 2, none⟩ = some (.int .i64 a0_2) ∧ w'.cell? ⟨g0_, 3, none⟩ = some (.slice A0_3 l0_3.length c0_3)) (ds := []) #[false, false, false, false, false, false, false, false, false, false, false, false, false, false, false, false, false, false, false, false, false, false, false, false, false, false, false, false, false, false, false, false, false, false, false, false, false, false, false, false] (by kernel_rfl) rfl rfl Z50.z1 (fun hHeld => ?_); refine with_tabW spec_l03Ok.tab1 spec_l03Ok.bits1 (fun HT_ HW_ => ?_)
  generalize w.drew = w14 at BK101 HB hHeld ⊢
  refine Z50.pP 0 3 (Z50.b 40 1) (any_of HT_.out (by kernel_rfl)) ?_
  refine Z50.pP 1 4 (Z50.b 40 3) (any_of HT_.out (by kernel_rfl)) ?_
  refine Z50.pP 2 5 (Z50.b 40 7) (any_of HT_.out (by kernel_rfl)) ?_
  refine Z50.pT4 3 6 (Z50.b 40 15) (take_ofW HT_.out HW_.out (by kernel_rfl)) hHeld ?_
  refine one_ (i := 4) (N := some 7) (Z50.b 40 31) rfl rfl (one_of HT_.out (by kernel_rfl)) (by decide) (fun K hK => ?_)
  refine goes_ Try.func84 (by kernel_rfl) rfl #[.int .i64 a0_0] (by rfl) rfl rfl Z50.z2 ?_
  with_reducible refine (spec_ValidPrime.calls k a0_0 true _ A2.out).mono ?_
  rintro e w' ⟨rfl, ⟨nd, rfl⟩⟩
  refine ⟨_, rfl, ?_⟩
  refine hK.out _ _ Z50.z1 (fun hHeld => ?_)
  clear hK K
  refine norm_ (a' := ?_) ?_ ?_
  rotate_left
  ·show Act.put _ (some 7) _ = _
   simp only [Act.put, List.setIfInBounds_toArray, List.set_cons_zero, List.set_cons_succ, i64_w, i32_w]
   rfl
  refine Z50.pP 5 8 (Z50.b 40 63) (any_of HT_.out (by kernel_rfl)) ?_
  refine Z50.pP 6 9 (Z50.b 40 127) (any_of HT_.out (by kernel_rfl)) ?_
  refine Z50.pP 7 10 (Z50.b 40 255) (any_of HT_.out (by kernel_rfl)) ?_
  refine Z50.pP 8 11 (Z50.b 40 511) (any_of HT_.out (by kernel_rfl)) ?_
  refine Z50.pT4 9 12 (Z50.b 40 1023) (take_ofW HT_.out HW_.out (by kernel_rfl)) hHeld ?_
  refine one_ (i := 10) (N := some 13) (Z50.b 40 2047) rfl rfl (one_of HT_.out (by kernel_rfl)) (by decide) (fun K hK => ?_)
  refine goes_ Try.func62 (by kernel_rfl) rfl #[.int .i64 a0_1, .int .i64 0, .int .i64 32] (by rfl) rfl rfl Z50.z2 ?_
  with_reducible refine (spec_l00In.calls a0_1 0 32 false _ A4.out).mono ?_
  rintro e w' ⟨rfl, ⟨nd, rfl⟩⟩
  refine ⟨_, rfl, ?_⟩
  refine hK.out _ _ Z50.z1 (fun hHeld => ?_)
  clear hK K
  refine norm_ (a' := ?_) ?_ ?_
  rotate_left
  ·show Act.put _ (some 13) _ = _
   simp only [Act.put, List.setIfInBounds_toArray, List.set_cons_zero, List.set_cons_succ, i64_w, i32_w]
   rfl
  refine Z50.pP 11 14 (Z50.b 40 4095) (any_of HT_.out (by kernel_rfl)) ?_
  refine Z50.pP 12 15 (Z50.b 40 8191) (any_of HT_.out (by kernel_rfl)) ?_
  refine pure_ (i := 13) (N := some 16) (v := undef) (a' := ?_) (Z50.b 40 16383) rfl rfl (any_of HT_.out (by kernel_rfl)) (fun _ _ _ h => h) (Or.inr ⟨(by rfl), rfl⟩) ?_ ?_
  rotate_left
  ·exact Z50.z0
  refine pure_ (i := 14) (N := some 17) (v := undef) (a' := ?_) (Z50.b 40 32767) rfl rfl (any_of HT_.out (by kernel_rfl)) (fun _ _ _ h => h) (Or.inr ⟨(by rfl), rfl⟩) ?_ ?_
  rotate_left
  ·exact Z50.z0
  refine pure_ (i := 15) (N := some 18) (v := undef) (a' := ?_) (Z50.b 40 65535) rfl rfl (any_of HT_.out (by kernel_rfl)) (fun _ _ _ h => h) (Or.inr ⟨(by rfl), rfl⟩) ?_ ?_
  rotate_left
  ·exact Z50.z0
  refine pure_ (i := 16) (N := some 19) (v := undef) (a' := ?_) (Z50.b 40 131071) rfl rfl (any_of HT_.out (by kernel_rfl)) (fun _ _ _ h => h) (Or.inr ⟨(by rfl), rfl⟩) ?_ ?_
  rotate_left
  ·exact Z50.z0
  refine pure_ (i := 17) (N := some 20) (v := undef) (a' := ?_) (Z50.b 40 262143) rfl rfl (any_of HT_.out (by kernel_rfl)) (fun _ _ _ h => h) (Or.inr ⟨(by rfl), rfl⟩) ?_ ?_
  rotate_left
  ·exact Z50.z0
  refine Z50.pP 18 21 (Z50.b 40 524287) (any_of HT_.out (by kernel_rfl)) ?_
  refine Z50.pP 19 22 (Z50.b 40 1048575) (any_of HT_.out (by kernel_rfl)) ?_
  refine pure_ (i := 20) (N := some 23) (v := undef) (a' := ?_) (Z50.b 40 2097151) rfl rfl (any_of HT_.out (by kernel_rfl)) (fun _ _ _ h => h) (Or.inr ⟨(by rfl), rfl⟩) ?_ ?_
  rotate_left
  ·exact Z50.z0
  refine pure_ (i := 21) (N := some 24) (v := undef) (a' := ?_) (Z50.b 40 4194303) rfl rfl (any_of HT_.out (by kernel_rfl)) (fun _ _ _ h => h) (Or.inr ⟨(by rfl), rfl⟩) ?_ ?_
  rotate_left
  ·exact Z50.z0
  refine pure_ (i := 22) (N := some 25) (v := undef) (a' := ?_) (Z50.b 40 8388607) rfl rfl (any_of HT_.out (by kernel_rfl)) (fun _ _ _ h => h) (Or.inr ⟨(by rfl), rfl⟩) ?_ ?_
  rotate_left
  ·exact Z50.z0
  refine pure_ (i := 23) (N := some 26) (v := undef) (a' := ?_) (Z50.b 40 16777215) rfl rfl (any_of HT_.out (by kernel_rfl)) (fun _ _ _ h => h) (Or.inr ⟨(by rfl), rfl⟩) ?_ ?_
  rotate_left
  ·exact Z50.z0
  refine pure_ (i := 24) (N := some 27) (v := undef) (a' := ?_) (Z50.b 40 33554431) rfl rfl (any_of HT_.out (by kernel_rfl)) (fun _ _ _ h => h) (Or.inr ⟨(by rfl), rfl⟩) ?_ ?_
  rotate_left
  ·exact Z50.z0
  refine pure_ (i := 25) (N := some 28) (v := undef) (a' := ?_) (Z50.b 40 67108863) rfl rfl (any_of HT_.out (by kernel_rfl)) (fun _ _ _ h => h) (Or.inr ⟨(by rfl), rfl⟩) ?_ ?_
  rotate_left
  ·exact Z50.z0
  refine pure_ (i := 26) (N := some 29) (v := undef) (a' := ?_) (Z50.b 40 134217727) rfl rfl (any_of HT_.out (by kernel_rfl)) (fun _ _ _ h => h) (Or.inr ⟨(by rfl), rfl⟩) ?_ ?_
  rotate_left
  ·exact Z50.z0
  refine pure_ (i := 27) (N := some 30) (v := undef) (a' := ?_) (Z50.b 40 268435455) rfl rfl (any_of HT_.out (by kernel_rfl)) (fun _ _ _ h => h) (Or.inr ⟨(by rfl), rfl⟩) ?_ ?_
  rotate_left
  ·exact Z50.z0
  refine pure_ (i := 28) (N := some 31) (v := undef) (a' := ?_) (Z50.b 40 536870911) rfl rfl (any_of HT_.out (by kernel_rfl)) (fun _ _ _ h => h) (Or.inr ⟨(by rfl), rfl⟩) ?_ ?_
  rotate_left
  ·exact Z50.z0
  refine pure_ (i := 29) (N := some 32) (v := undef) (a' := ?_) (Z50.b 40 1073741823) rfl rfl (any_of HT_.out (by kernel_rfl)) (fun _ _ _ h => h) (Or.inr ⟨(by rfl), rfl⟩) ?_ ?_
  rotate_left
  ·exact Z50.z0
  refine pure_ (i := 30) (N := some 33) (v := undef) (a' := ?_) (Z50.b 40 2147483647) rfl rfl (any_of HT_.out (by kernel_rfl)) (fun _ _ _ h => h) (Or.inr ⟨(by rfl), rfl⟩) ?_ ?_
  rotate_left
  ·exact Z50.z0
  refine pure_ (i := 31) (N := some 34) (v := undef) (a' := ?_) (Z50.b 40 4294967295) rfl rfl (any_of HT_.out (by kernel_rfl)) (fun _ _ _ h => h) (Or.inr ⟨(by rfl), rfl⟩) ?_ ?_
  rotate_left
  ·exact Z50.z0
  refine pure_ (i := 32) (N := some 35) (v := undef) (a' := ?_) (Z50.b 40 8589934591) rfl rfl (any_of HT_.out (by kernel_rfl)) (fun _ _ _ h => h) (Or.inr ⟨(by rfl), rfl⟩) ?_ ?_
  rotate_left
  ·exact Z50.z0
  refine pure_ (i := 33) (N := some 36) (v := undef) (a' := ?_) (Z50.b 40 17179869183) rfl rfl (any_of HT_.out (by kernel_rfl)) (fun _ _ _ h => h) (Or.inr ⟨(by rfl), rfl⟩) ?_ ?_
  rotate_left
  ·exact Z50.z0
  refine pure_ (i := 34) (N := some 37) (v := undef) (a' := ?_) (Z50.b 40 34359738367) rfl rfl (any_of HT_.out (by kernel_rfl)) (fun _ _ _ h => h) (Or.inr ⟨(by rfl), rfl⟩) ?_ ?_
  rotate_left
  ·exact Z50.z0
  refine pure_ (i := 35) (N := some 38) (v := undef) (a' := ?_) (Z50.b 40 68719476735) rfl rfl (any_of HT_.out (by kernel_rfl)) (fun _ _ _ h => h) (Or.inr ⟨(by rfl), rfl⟩) ?_ ?_
  rotate_left
  ·exact Z50.z0
  refine pure_ (i := 36) (N := some 39) (v := undef) (a' := ?_) (Z50.b 40 137438953471) rfl rfl (any_of HT_.out (by kernel_rfl)) (fun _ _ _ h => h) (Or.inr ⟨(by rfl), rfl⟩) ?_ ?_
  rotate_left
  ·exact Z50.z0
  refine pure_ (i := 37) (N := some 40) (v := undef) (a' := ?_) (Z50.b 40 274877906943) rfl rfl (any_of HT_.out (by kernel_rfl)) (fun _ _ _ h => h) (Or.inr ⟨(by rfl), rfl⟩) ?_ ?_
  rotate_left
  ·exact Z50.z0
  refine Z50.pP 38 41 (Z50.b 40 549755813887) (any_of HT_.out (by kernel_rfl)) ?_
  refine Z50.pP 39 2 (Z50.b 40 1099511627775) (any_of HT_.out (by kernel_rfl)) ?_
  refine done_ (done_of HT_.out (by kernel_rfl)) ?_
  try go_wp2
  go_ret
  exact ⟨Z50.z4, Z50.z3⟩
 replace c3 := Bool.eq_false_iff.mpr c3
 subst c3
 rw [if_neg (show ¬ (false = true) by decide)] at H
 obtain rfl := Option.some.inj H
 go_enter Try.func50, Try.ntmps50
 have BK101 := Aside0.mk hbk0_
 try go_wp2_with (first | fail)
 replace BK101 := Aside0.mk (blk_drew BK101.out)
 replace HB := Aside0.mk (below_drew1 HB.out)
 refine start_ (n := 40) (S := fun w' => w'.cell? ⟨g0_, 0, none⟩ = some (.int .i64 a0_0) ∧ w'.cell? ⟨g0_, 1, none⟩ = some (.int .i64 a0_1) ∧ w'.cell? ⟨g0_, 2, none⟩ = some (.int .i64 a0_2) ∧ w'.cell? ⟨g0_, 3, none⟩ = some (.slice A0_3 l0_3.length c0_3)) (ds := []) #[false, false, false, false, false, false, false, false, false, false, false, false, false, false, false, false, false, false, false, false, false, false, false, false, false, false, false, false, false, false, false, false, false, false, false, false, false, false, false, false] (by kernel_rfl) rfl rfl Z50.z1 (fun hHeld => ?_); refine with_tabW spec_l03Ok.tab1 spec_l03Ok.bits1 (fun HT_ HW_ => ?_)
 generalize w.drew = w16 at BK101 HB hHeld ⊢
 refine Z50.pP 0 3 (Z50.b 40 1) (any_of HT_.out (by kernel_rfl)) ?_
 refine Z50.pP 1 4 (Z50.b 40 3) (any_of HT_.out (by kernel_rfl)) ?_
 refine Z50.pP 2 5 (Z50.b 40 7) (any_of HT_.out (by kernel_rfl)) ?_
 refine Z50.pT4 3 6 (Z50.b 40 15) (take_ofW HT_.out HW_.out (by kernel_rfl)) hHeld ?_
 refine one_ (i := 4) (N := some 7) (Z50.b 40 31) rfl rfl (one_of HT_.out (by kernel_rfl)) (by decide) (fun K hK => ?_)
 refine goes_ Try.func84 (by kernel_rfl) rfl #[.int .i64 a0_0] (by rfl) rfl rfl Z50.z2 ?_
 with_reducible refine (spec_ValidPrime.calls k a0_0 false _ A2.out).mono ?_
 rintro e w' ⟨rfl, ⟨nd, rfl⟩⟩
 refine ⟨_, rfl, ?_⟩
 refine hK.out _ _ Z50.z1 (fun hHeld => ?_)
 clear hK K
 refine norm_ (a' := ?_) ?_ ?_
 rotate_left
 ·show Act.put _ (some 7) _ = _
  simp only [Act.put, List.setIfInBounds_toArray, List.set_cons_zero, List.set_cons_succ, i64_w, i32_w]
  rfl
 refine Z50.pP 5 8 (Z50.b 40 63) (any_of HT_.out (by kernel_rfl)) ?_
 refine pure_ (i := 6) (N := some 9) (v := undef) (a' := ?_) (Z50.b 40 127) rfl rfl (any_of HT_.out (by kernel_rfl)) (fun _ _ _ h => h) (Or.inr ⟨(by rfl), rfl⟩) ?_ ?_
 rotate_left
 ·exact Z50.z0
 refine pure_ (i := 7) (N := some 10) (v := undef) (a' := ?_) (Z50.b 40 255) rfl rfl (any_of HT_.out (by kernel_rfl)) (fun _ _ _ h => h) (Or.inr ⟨(by rfl), rfl⟩) ?_ ?_
 rotate_left
 ·exact Z50.z0
 refine pure_ (i := 8) (N := some 11) (v := undef) (a' := ?_) (Z50.b 40 511) rfl rfl (any_of HT_.out (by kernel_rfl)) (fun _ _ _ h => h) (Or.inr ⟨(by rfl), rfl⟩) ?_ ?_
 rotate_left
 ·exact Z50.z0
 refine pure_ (i := 9) (N := some 12) (v := undef) (a' := ?_) (Z50.b 40 1023) rfl rfl (any_of HT_.out (by kernel_rfl)) (fun _ _ _ h => h) (Or.inr ⟨(by rfl), rfl⟩) ?_ ?_
 rotate_left
 ·exact Z50.z0
 refine pure_ (i := 10) (N := some 13) (v := undef) (a' := ?_) (Z50.b 40 2047) rfl rfl (any_of HT_.out (by kernel_rfl)) (fun _ _ _ h => h) (Or.inr ⟨(by rfl), rfl⟩) ?_ ?_
 rotate_left
 ·exact Z50.z0
 refine Z50.pP 11 14 (Z50.b 40 4095) (any_of HT_.out (by kernel_rfl)) ?_
 refine Z50.pP 12 15 (Z50.b 40 8191) (any_of HT_.out (by kernel_rfl)) ?_
 refine pure_ (i := 13) (N := some 16) (v := undef) (a' := ?_) (Z50.b 40 16383) rfl rfl (any_of HT_.out (by kernel_rfl)) (fun _ _ _ h => h) (Or.inr ⟨(by rfl), rfl⟩) ?_ ?_
 rotate_left
 ·exact Z50.z0
 refine pure_ (i := 14) (N := some 17) (v := undef) (a' := ?_) (Z50.b 40 32767) rfl rfl (any_of HT_.out (by kernel_rfl)) (fun _ _ _ h => h) (Or.inr ⟨(by rfl), rfl⟩) ?_ ?_
 rotate_left
 ·exact Z50.z0
 refine pure_ (i := 15) (N := some 18) (v := undef) (a' := ?_) (Z50.b 40 65535) rfl rfl (any_of HT_.out (by kernel_rfl)) (fun _ _ _ h => h) (Or.inr ⟨(by rfl), rfl⟩) ?_ ?_
 rotate_left
 ·exact Z50.z0
 refine pure_ (i := 16) (N := some 19) (v := undef) (a' := ?_) (Z50.b 40 131071) rfl rfl (any_of HT_.out (by kernel_rfl)) (fun _ _ _ h => h) (Or.inr ⟨(by rfl), rfl⟩) ?_ ?_
 rotate_left
 ·exact Z50.z0
 refine pure_ (i := 17) (N := some 20) (v := undef) (a' := ?_) (Z50.b 40 262143) rfl rfl (any_of HT_.out (by kernel_rfl)) (fun _ _ _ h => h) (Or.inr ⟨(by rfl), rfl⟩) ?_ ?_
 rotate_left
 ·exact Z50.z0
 refine Z50.pP 18 21 (Z50.b 40 524287) (any_of HT_.out (by kernel_rfl)) ?_
 refine Z50.pP 19 22 (Z50.b 40 1048575) (any_of HT_.out (by kernel_rfl)) ?_
 refine pure_ (i := 20) (N := some 23) (v := undef) (a' := ?_) (Z50.b 40 2097151) rfl rfl (any_of HT_.out (by kernel_rfl)) (fun _ _ _ h => h) (Or.inr ⟨(by rfl), rfl⟩) ?_ ?_
 rotate_left
 ·exact Z50.z0
 refine pure_ (i := 21) (N := some 24) (v := undef) (a' := ?_) (Z50.b 40 4194303) rfl rfl (any_of HT_.out (by kernel_rfl)) (fun _ _ _ h => h) (Or.inr ⟨(by rfl), rfl⟩) ?_ ?_
 rotate_left
 ·exact Z50.z0
 refine pure_ (i := 22) (N := some 25) (v := undef) (a' := ?_) (Z50.b 40 8388607) rfl rfl (any_of HT_.out (by kernel_rfl)) (fun _ _ _ h => h) (Or.inr ⟨(by rfl), rfl⟩) ?_ ?_
 rotate_left
 ·exact Z50.z0
 refine pure_ (i := 23) (N := some 26) (v := undef) (a' := ?_) (Z50.b 40 16777215) rfl rfl (any_of HT_.out (by kernel_rfl)) (fun _ _ _ h => h) (Or.inr ⟨(by rfl), rfl⟩) ?_ ?_
 rotate_left
 ·exact Z50.z0
 refine pure_ (i := 24) (N := some 27) (v := undef) (a' := ?_) (Z50.b 40 33554431) rfl rfl (any_of HT_.out (by kernel_rfl)) (fun _ _ _ h => h) (Or.inr ⟨(by rfl), rfl⟩) ?_ ?_
 rotate_left
 ·exact Z50.z0
 refine pure_ (i := 25) (N := some 28) (v := undef) (a' := ?_) (Z50.b 40 67108863) rfl rfl (any_of HT_.out (by kernel_rfl)) (fun _ _ _ h => h) (Or.inr ⟨(by rfl), rfl⟩) ?_ ?_
 rotate_left
 ·exact Z50.z0
 refine pure_ (i := 26) (N := some 29) (v := undef) (a' := ?_) (Z50.b 40 134217727) rfl rfl (any_of HT_.out (by kernel_rfl)) (fun _ _ _ h => h) (Or.inr ⟨(by rfl), rfl⟩) ?_ ?_
 rotate_left
 ·exact Z50.z0
 refine pure_ (i := 27) (N := some 30) (v := undef) (a' := ?_) (Z50.b 40 268435455) rfl rfl (any_of HT_.out (by kernel_rfl)) (fun _ _ _ h => h) (Or.inr ⟨(by rfl), rfl⟩) ?_ ?_
 rotate_left
 ·exact Z50.z0
 refine pure_ (i := 28) (N := some 31) (v := undef) (a' := ?_) (Z50.b 40 536870911) rfl rfl (any_of HT_.out (by kernel_rfl)) (fun _ _ _ h => h) (Or.inr ⟨(by rfl), rfl⟩) ?_ ?_
 rotate_left
 ·exact Z50.z0
 refine pure_ (i := 29) (N := some 32) (v := undef) (a' := ?_) (Z50.b 40 1073741823) rfl rfl (any_of HT_.out (by kernel_rfl)) (fun _ _ _ h => h) (Or.inr ⟨(by rfl), rfl⟩) ?_ ?_
 rotate_left
 ·exact Z50.z0
 refine pure_ (i := 30) (N := some 33) (v := undef) (a' := ?_) (Z50.b 40 2147483647) rfl rfl (any_of HT_.out (by kernel_rfl)) (fun _ _ _ h => h) (Or.inr ⟨(by rfl), rfl⟩) ?_ ?_
 rotate_left
 ·exact Z50.z0
 refine pure_ (i := 31) (N := some 34) (v := undef) (a' := ?_) (Z50.b 40 4294967295) rfl rfl (any_of HT_.out (by kernel_rfl)) (fun _ _ _ h => h) (Or.inr ⟨(by rfl), rfl⟩) ?_ ?_
 rotate_left
 ·exact Z50.z0
 refine pure_ (i := 32) (N := some 35) (v := undef) (a' := ?_) (Z50.b 40 8589934591) rfl rfl (any_of HT_.out (by kernel_rfl)) (fun _ _ _ h => h) (Or.inr ⟨(by rfl), rfl⟩) ?_ ?_
 rotate_left
 ·exact Z50.z0
 refine pure_ (i := 33) (N := some 36) (v := undef) (a' := ?_) (Z50.b 40 17179869183) rfl rfl (any_of HT_.out (by kernel_rfl)) (fun _ _ _ h => h) (Or.inr ⟨(by rfl), rfl⟩) ?_ ?_
 rotate_left
 ·exact Z50.z0
 refine pure_ (i := 34) (N := some 37) (v := undef) (a' := ?_) (Z50.b 40 34359738367) rfl rfl (any_of HT_.out (by kernel_rfl)) (fun _ _ _ h => h) (Or.inr ⟨(by rfl), rfl⟩) ?_ ?_
 rotate_left
 ·exact Z50.z0
 refine pure_ (i := 35) (N := some 38) (v := undef) (a' := ?_) (Z50.b 40 68719476735) rfl rfl (any_of HT_.out (by kernel_rfl)) (fun _ _ _ h => h) (Or.inr ⟨(by rfl), rfl⟩) ?_ ?_
 rotate_left
 ·exact Z50.z0
 refine pure_ (i := 36) (N := some 39) (v := undef) (a' := ?_) (Z50.b 40 137438953471) rfl rfl (any_of HT_.out (by kernel_rfl)) (fun _ _ _ h => h) (Or.inr ⟨(by rfl), rfl⟩) ?_ ?_
 rotate_left
 ·exact Z50.z0
 refine pure_ (i := 37) (N := some 40) (v := undef) (a' := ?_) (Z50.b 40 274877906943) rfl rfl (any_of HT_.out (by kernel_rfl)) (fun _ _ _ h => h) (Or.inr ⟨(by rfl), rfl⟩) ?_ ?_
 rotate_left
 ·exact Z50.z0
 refine Z50.pP 38 41 (Z50.b 40 549755813887) (any_of HT_.out (by kernel_rfl)) ?_
 refine Z50.pP 39 2 (Z50.b 40 1099511627775) (any_of HT_.out (by kernel_rfl)) ?_
 refine done_ (done_of HT_.out (by kernel_rfl)) ?_
 try go_wp2
 go_ret
 exact ⟨Z50.z4, Z50.z3⟩
/-! ### spec_l04Columns: function 75 -/
mutual
def spec_l04Columns.l0 : Nat → List (List Int) → Int → Int → Int → Int → List Int → Option ((List (List Int)))
  | 0, _, _, _, _, _, _ => none
  | k + 1, x3, x4, x102000, x102001, x102002, x102003 => if x4 < x102002 then (spec_l04Columns.l1 k x3 x4 (([] : List Int)) 0 x102000 x102001 x102002 x102003) else (some x3)
def spec_l04Columns.l1 : Nat → List (List Int) → Int → List Int → Int → Int → Int → Int → List Int → Option ((List (List Int)))
  | 0, _, _, _, _, _, _, _, _ => none
  | k + 1, x3, x4, x5, x6, x102000, x102001, x102002, x102003 => if x6 < x102001 then (if 0 ≤ (wrap64 ((wrap64 (x6 * x102002)) + x4)) then (if (wrap64 ((wrap64 (x6 * x102002)) + x4)) < (x102003.length : Int) then (if x5.length < 17592186044416 then (spec_l04Columns.l1 k x3 x4 (x5 ++ [rd x102003 (wrap64 ((wrap64 (x6 * x102002)) + x4))]) (wrap64 (x6 + 1)) x102000 x102001 x102002 x102003) else (none)) else (none)) else (none)) else (if x3.length < 5864062014805 then (spec_l04Columns.l0 k (x3 ++ [x5]) (wrap64 (x4 + 1)) x102000 x102001 x102002 x102003) else (none))
end
def spec_l04Columns.f (k : Nat) (a0_0 : Int) (a0_1 : Int) (a0_2 : Int) (l0_3 : List Int) : Option ((List (List Int))) := spec_l04Columns.l0 k (([] : List (List Int))) 0 a0_0 a0_1 a0_2 l0_3
def spec_l04Columns.T9 : Bool × List (List Nat × List Nat) := (true, [([], []), ([], []), ([1], [1]), ([2], [2]), ([3], [3]), ([], []), ([], []), ([6], [6]), ([7], [7]), ([8], [8]), ([5, 9], [5, 9]), ([], []), ([10, 11], [10, 11]), ([4, 12], [4, 12]), ([13], [13]), ([14], [14]), ([0, 15], [0, 15]), ([16, 16, 0, 1, 2, 3, 4, 5, 6, 7, 8, 9, 10, 11, 12, 13, 14, 15, 16], [0, 16])])
def spec_l04Columns.B9 : List Nat := [0, 0, 2, 6, 14, 0, 0, 64, 192, 448, 992, 0, 4064, 8190, 16382, 32766, 65535, 131071]
theorem spec_l04Columns.tab9 : rtab .any (opsOf Try.f75 9) = spec_l04Columns.T9 := by kernel_rfl
theorem spec_l04Columns.bits9 : waitsOk spec_l04Columns.T9.2 spec_l04Columns.B9 = true := by kernel_rfl
def Z75.b (n x : Nat) : Array Bool := ((List.range n).map (fun i => x.testBit i)).toArray
theorem Z75.pP {P : Program} {ops : Array Oper} {Q : Exit → Act → World → Prop} {md : Region.Mode} {S : World → Prop} {ds : List Nat} (i N : Nat) {oi : Oper} {v : Value} {fuel : Nat} {l : Array Bool} {a : Act} {w : World} (l' : Array Bool) (hc : anyB md ops l l' i = true) {a' : Act} (h : wpAnyLast P md ops Q S ds fuel l' a' w) (hi : ops[i]? = some oi := by rfl) (hN : oi.dst = some N := by rfl) (hQ : ∀ c a w, Q (.panic c) (a.put oi.dst v) w → Q (.panic c) a w := by exact fun _ _ _ h => h) (hy : Yields P ops oi v a := by exact Or.inl ⟨(by rfl), by intro w'; go_simp; with_reducible rfl⟩) (ha : a.put (some N) v = a' := by simp only [Act.put, List.setIfInBounds_toArray, List.set_cons_zero, List.set_cons_succ, i64_w, i32_w]; rfl) : wpAnyLast P md ops Q S ds (fuel + 1) l a w := pure_ l' hi hN hc hQ hy ha h
theorem Z75.pT5 {P : Program} {ops : Array Oper} {Q : Exit → Act → World → Prop} {md : Region.Mode} {S : World → Prop} {ds : List Nat} (i N : Nat) {oi : Oper} {v : Value} {fuel : Nat} {l : Array Bool} {a : Act} {w : World} (l' : Array Bool) (hc : takeB md ops ds l l' i = true) (hS : S w) {a' : Act} (h : wpAnyLast P md ops Q S ds fuel l' a' w) (hi : ops[i]? = some oi := by rfl) (hN : oi.dst = some N := by rfl) (hQ : ∀ c a w, Q (.panic c) (a.put oi.dst v) w → Q (.panic c) a w := by exact fun _ _ _ h => h) (hy : YieldsIf P ops S oi v a := by exact Or.inl ⟨(by rfl), by rintro w' ⟨s0, s1, s2, s3, s4⟩; go_simp; with_reducible rfl⟩) (ha : a.put (some N) v = a' := by simp only [Act.put, List.setIfInBounds_toArray, List.set_cons_zero, List.set_cons_succ, i64_w, i32_w]; rfl) : wpAnyLast P md ops Q S ds (fuel + 1) l a w := take_ l' hi hN hc hQ hy hS ha h
theorem Z75.bb {w0 w w1 : World} {g : Nat} {o : Obj} (_B : Aside0 (w0.heap[g]? = some o)) (h : w.heap[g]? = some o) (hb : Below w.heap.size w w1) : w1.heap[g]? = some o := blk_below h hb
theorem Z75.bl {w0 w : World} {g : Nat} {o : Obj} (_B : Aside0 (w0.heap[g]? = some o)) (h : w.heap[g]? = some o) : g < w.heap.size := blk_lt h
theorem Z75.k {p : Prop} (h : p) : Aside0 p := ⟨h⟩
theorem Z75.z3 {P : Prop} (h : P := by (with_reducible repeat (first | apply Kd.S_alloc | apply Kd.S_drewN | apply Kd.S_drew)); exact Kd.S_mono HO_3.out (fun _ hk => hk.2)) : P := h
theorem Z75.z2 {P : Prop} (h : P := by (with_reducible repeat (first | refine blk_drewN ?_ _ | refine blk_drew ?_ | refine blk_alloc ?_ _)); exact BK101.out) : P := h
theorem Z75.z1 {P : Prop} (h : P := by simp only [Act.put, List.setIfInBounds_toArray, List.set_cons_zero, List.set_cons_succ, i64_w, i32_w]; rfl) : P := h
theorem Z75.z0 {P : Prop} (h : P := by repeat (first | (with_reducible first | exact HB.out | apply below_alloc | apply pw_below_drewN | apply below_drew1 | refine below_set ?_ GE101.out) | exact HB.out)) : P := h
set_option maxHeartbeats 8000000 in
set_option maxRecDepth 100000 in
theorem spec_l04Columns.calls (k : Nat) (a0_0 : Int) (a0_1 : Int) (a0_2 : Int) (A0_3 : Option Addr) (c0_3 : Nat) (l0_3 : List Int) (r : List (List Int)) (w : World) (hr0_3 : Kd.C (Kd.int .i64) w A0_3 l0_3.length l0_3) (hc0_3 : l0_3.length ≤ c0_3) {g0_ : Nat} (hbk0_ : w.heap[g0_]? = some (.cells #[.int .i64 a0_0, .int .i64 a0_1, .int .i64 a0_2, .slice A0_3 l0_3.length c0_3] 28 (0, 0))) (h : spec_l04Columns.f k a0_0 a0_1 a0_2 l0_3 = some r) :
  Calls Try.prog 75 #[.pointer (some ⟨g0_, 0, none⟩)] w fun e w' => ∃ v0_ : Value, e = .returned (v0_) ∧ Kd.S (Kd.slice 2 (Kd.int .i64)) 22 w' w.heap.size (fun _ => True) v0_ r ∧ Below w.heap.size w w' := by
 have hu28 := Try.underlying28
 have HR0_3 := Z75.k hr0_3
 have HC0_3 := Z75.k hc0_3
 clear hr0_3 hc0_3
 have HB := Z75.k (Below.refl w.heap.size w)
 have H : (spec_l04Columns.l0 k (([] : List (List Int))) 0 a0_0 a0_1 a0_2 l0_3) = some r := h
 clear h
 obtain ⟨y102, hy102⟩ : ∃ y_ : List (List Int), y_ = (([] : List (List Int))) := ⟨_, rfl⟩
 replace H : (spec_l04Columns.l0 k y102 0 a0_0 a0_1 a0_2 l0_3) = some r := by first | (rw [hy102]; with_reducible exact H) | (have H2_ := (Option.bind_some _ _).symm.trans H; rw [hy102]; with_reducible exact H2_) | (have H2_ := (Option.bind_some _ _).symm.trans H; with_reducible exact H2_) | with_reducible exact H | (rw [hy102]; exact H) | exact H
 have Ny102 := Z75.k hy102
 clear hy102
 have H' := Z75.k H
 clear H
 go_enter Try.func75, Try.ntmps75
 have BK101 := Z75.k hbk0_
 go_wp2_with (first | ((with_reducible refine gate_dst (N := 7) rfl ?_); refine Kd.S_lit (Kd.slice 2 (Kd.int .i64)) _ 22 ?hg (N := 7) ?hd (xs := ([] : List (List Int))) (inner := []) (ok := fun _ => True) (okp := fun _ => True) ?hr ?hp (fun _ hk => hk) trivial (Below.refl _ _) (Nat.le_refl _) (by simp) ?_; (case hd => rfl); (case hg => rfl); (case hr => first | (go_simp; done) | (go_simp; rfl)); (case hp => exact (Reps.none _ _)); intro v103 w3 ho4 hb hg_ hnew_; clear hg_ hnew_; (first | rw [← Ny102.out] at ho4 | (simp only [Int.reduceToNat] at ho4; rw [← Ny102.out] at ho4)); have HO104 := Z75.k (Kd.S_lower ho4 (below_size Z75.z0)); replace BK101 := Z75.k (Z75.bb BK101 Z75.z2 hb); replace HB := Z75.k (below_step Z75.z0 hb); clear hb ho4))
 go_loopg [3, 4] k (fun kq v3 v4 w' => ∃ (x3_1 : List (List Int)) (x4_1 : Int), v4 = .int .i64 x4_1 ∧ Aside0 (spec_l04Columns.l0 kq x3_1 x4_1 a0_0 a0_1 a0_2 l0_3 = some r) ∧ Aside0 (kq ≤ k) ∧ Aside0 (Kd.S (Kd.slice 2 (Kd.int .i64)) 22 w' w.heap.size (fun _ => True) v3 x3_1) ∧ Aside0 (w'.heap[g0_]? = some (.cells #[.int .i64 a0_0, .int .i64 a0_1, .int .i64 a0_2, (.slice A0_3 l0_3.length c0_3)] 28 (0, 0))) ∧ Aside0 (Below w.heap.size w w'))
 case atStart => exact ⟨(y102), (0), (by first | rfl | (simp; done) | (simp [*]; done)), H', ⟨Nat.le_refl _⟩, ⟨(by (with_reducible repeat (first | apply Kd.S_alloc | apply Kd.S_drewN | apply Kd.S_drew)); exact HO104.out)⟩, ⟨Z75.z2⟩, ⟨Z75.z0⟩⟩
 case round =>
  clear H'
  try clear p2
  obtain ⟨x3_1, x4_1, rfl, HA, HK1, HO_3, BK101, HB⟩ := hrel
  cases gk with
  | zero => exact absurd HA.out (by simp [spec_l04Columns.l0])
  | succ k1 =>
   have H := HA.out
   clear HA
   simp only [spec_l04Columns.l0] at H
   by_cases c5 : x4_1 < a0_2
   ·rw [if_pos c5] at H
    have c5b0 : decide (x4_1 < a0_2) = true := decide_eq_true c5
    clear c5
    obtain ⟨y105, hy105⟩ : ∃ y_ : List Int, y_ = (([] : List Int)) := ⟨_, rfl⟩
    replace H : (spec_l04Columns.l1 k1 x3_1 x4_1 y105 0 a0_0 a0_1 a0_2 l0_3) = some r := by first | (rw [hy105]; with_reducible exact H) | (have H2_ := (Option.bind_some _ _).symm.trans H; rw [hy105]; with_reducible exact H2_) | (have H2_ := (Option.bind_some _ _).symm.trans H; with_reducible exact H2_) | with_reducible exact H | (rw [hy105]; exact H) | exact H
    have Ny105 := Z75.k hy105
    clear hy105
    have H' := Z75.k H
    clear H
    obtain ⟨hcz6_0, hcz6_1, hcz6_2, hcz6_3, hfz6_0, hfz6_1, hfz6_2, hfz6_3⟩ := cells4 BK101.out
    go_wp2_with (first | ((with_reducible refine gate_dst (N := 16) rfl ?_); refine Kd.R_lit (Kd.int .i64) _ 2 ?hg (N := 16) ?hd (xs := ([] : List Int)) (inner := []) (ok := fun _ => True) (okp := fun _ => True) ?hr ?hp (fun _ hk => hk) trivial (Below.refl _ _) (Nat.le_refl _) (by simp) ?_; (case hd => rfl); (case hg => rfl); (case hr => first | (go_simp; done) | (go_simp; rfl)); (case hp => exact (Reps.none _ _)); intro v106 w7 ho8 hb hg_ hnew_; clear hg_ hnew_; (first | rw [← Ny105.out] at ho8 | (simp only [Int.reduceToNat] at ho8; rw [← Ny105.out] at ho8)); have HO107 := Z75.k (Kd.R_lower ho8 (below_size Z75.z0)); replace HO_3 := Z75.k (Kd.S_elder' (by (with_reducible repeat (first | apply Kd.S_alloc | apply Kd.S_drewN | apply Kd.S_drew)); exact HO_3.out) (Kd.R_base ho8) hb); replace BK101 := Z75.k (Z75.bb BK101 Z75.z2 hb); replace HB := Z75.k (below_step Z75.z0 hb); clear hb ho8))
    go_loopg [5, 6] k1 (fun kq v5 v6 w' => ∃ (x5_2 : List Int) (x6_2 : Int), v6 = .int .i64 x6_2 ∧ Aside0 (spec_l04Columns.l1 kq x3_1 x4_1 x5_2 x6_2 a0_0 a0_1 a0_2 l0_3 = some r) ∧ Aside0 (kq ≤ k1) ∧ Aside0 (Kd.S (Kd.slice 2 (Kd.int .i64)) 22 w' w.heap.size (fun k_ => some k_ ≠ (v5 : Value).ownBlock) u3 x3_1) ∧ Aside0 (Kd.R (Kd.int .i64) 2 w' w.heap.size (fun _ => True) v5 x5_2) ∧ Aside0 (w'.heap[g0_]? = some (.cells #[.int .i64 a0_0, .int .i64 a0_1, .int .i64 a0_2, (.slice A0_3 l0_3.length c0_3)] 28 (0, 0))) ∧ Aside0 (Below w.heap.size w w'))
    case atStart => exact ⟨(y105), (0), (by first | rfl | (simp; done) | (simp [*]; done)), H', ⟨Nat.le_refl _⟩, ⟨Z75.z3⟩, ⟨(by (with_reducible repeat (first | apply Kd.R_alloc | apply Kd.R_drewN | apply Kd.R_drew)); exact HO107.out)⟩, ⟨Z75.z2⟩, ⟨Z75.z0⟩⟩
    case round =>
     clear H'
     try clear p2
     try clear c5
     try clear c5b0
     try clear c7
     try clear hcz6_0
     try clear hcz6_1
     try clear hcz6_2
     try clear hcz6_3
     try clear hfz6_0
     try clear hfz6_1
     try clear hfz6_2
     try clear hfz6_3
     try clear p2
     obtain ⟨x5_2, x6_2, rfl, HA, HK2, HO_3, HO_5, BK101, HB⟩ := hrel
     cases gk with
     | zero => exact absurd HA.out (by simp [spec_l04Columns.l1])
     | succ k2 =>
      have H := HA.out
      clear HA; simp only [spec_l04Columns.l1] at H
      by_cases c9 : x6_2 < a0_1
      ·rw [if_pos c9] at H
       have c9b0 : decide (x6_2 < a0_1) = true := decide_eq_true c9; clear c9; obtain ⟨ji10, hji10⟩ : ∃ j_ : Int, (wrap64 ((wrap64 (x6_2 * a0_2)) + x4_1)) = j_ := ⟨_, rfl⟩; replace H : (if 0 ≤ (ji10) then (if (ji10) < (l0_3.length : Int) then (if x5_2.length < 17592186044416 then (spec_l04Columns.l1 k2 x3_1 x4_1 (x5_2 ++ [rd l0_3 (ji10)]) (wrap64 (x6_2 + 1)) a0_0 a0_1 a0_2 l0_3) else (none)) else (none)) else (none)) = some r := by first | (rw [hji10] at H; exact H) | (simp only [hji10] at H ⊢; exact H)
       have hji10w : (IntKind.i64.wrap ((wrap64 (x6_2 * a0_2)) + x4_1)) = ji10 := (i64_w _).trans hji10
       by_cases c11 : 0 ≤ (ji10)
       ·rw [if_pos c11] at H
        have c11b0 : decide (0 ≤ (ji10)) = true := decide_eq_true c11; clear c11
        by_cases c12 : (ji10) < (l0_3.length : Int)
        ·rw [if_pos c12] at H
         have c12b0 : decide ((ji10) < (l0_3.length : Int)) = true := decide_eq_true c12; clear c12
         by_cases c13 : x5_2.length < 17592186044416
         ·rw [if_pos c13] at H
          have LMc13 := Z75.k c13; clear c13; obtain ⟨y109, hy109⟩ : ∃ y_ : List Int, y_ = (x5_2 ++ [rd l0_3 (ji10)]) := ⟨_, rfl⟩; replace H : (spec_l04Columns.l1 k2 x3_1 x4_1 y109 (wrap64 (x6_2 + 1)) a0_0 a0_1 a0_2 l0_3) = some r := by first | (rw [hy109]; with_reducible exact H) | (have H2_ := (Option.bind_some _ _).symm.trans H; rw [hy109]; with_reducible exact H2_) | (have H2_ := (Option.bind_some _ _).symm.trans H; with_reducible exact H2_) | with_reducible exact H | (rw [hy109]; exact H) | exact H
          have Ny109 := Z75.k hy109; clear hy109; have H' := Z75.k H; clear H; obtain ⟨hcz14_0, hcz14_1, hcz14_2, hcz14_3, hfz14_0, hfz14_1, hfz14_2, hfz14_3⟩ := cells4 BK101.out
          try go_wp2
          replace HO_3 := Z75.k (Kd.S_drew HO_3.out); replace HO_5 := Z75.k (Kd.R_drew HO_5.out); replace BK101 := Z75.k (blk_drew BK101.out); replace HB := Z75.k (below_drew1 HB.out); have p108 : 0 ≤ ((ji10) : Int) := of_decide_eq_true (by first | (with_reducible assumption) | assumption); have q108 : (ji10) < (l0_3.length : Int) := of_decide_eq_true (by first | (with_reducible assumption) | assumption); obtain ⟨ad108, e108, hx108_0⟩ := Kd.at_int HR0_3.out (ji10) p108 q108; have hw108_0 := hx108_0; cases e108; replace hx108_0 := (HB.out.cell (World.block_lt_of_cell? w _ hx108_0)).trans hx108_0; replace p108 := eq_true p108; replace q108 := eq_true q108; refine start_ (n := 18) (S := fun w' => w'.cell? ⟨g0_, 0, none⟩ = some (.int .i64 a0_0) ∧ w'.cell? ⟨g0_, 1, none⟩ = some (.int .i64 a0_1) ∧ w'.cell? ⟨g0_, 2, none⟩ = some (.int .i64 a0_2) ∧ w'.cell? ⟨g0_, 3, none⟩ = some (.slice (some ad108) l0_3.length c0_3) ∧ w'.cell? (ad108.add ((ji10)).toNat) = some (.int .i64 (rd l0_3 (ji10)))) (ds := []) #[false, false, false, false, false, false, false, false, false, false, false, false, false, false, false, false, false, false] (by kernel_rfl) rfl rfl ⟨(blk_cell BK101.out 0).trans rfl, (blk_cell BK101.out 1).trans rfl, (blk_cell BK101.out 2).trans rfl, (blk_cell BK101.out 3).trans rfl, ((HB.out.cell (World.block_lt_of_cell? w _ hw108_0)).trans hw108_0)⟩ (fun hHeld => ?_); refine with_tabW spec_l04Columns.tab9 spec_l04Columns.bits9 (fun HT_ HW_ => ?_); generalize wr.drew = w15 at HO_3 HO_5 BK101 HB hx108_0 hHeld ⊢
          refine Z75.pP 0 25 (Z75.b 18 1) (any_of HT_.out (by kernel_rfl)) ?_; refine Z75.pP 1 26 (Z75.b 18 3) (any_of HT_.out (by kernel_rfl)) ?_; refine Z75.pP 2 27 (Z75.b 18 7) (any_of HT_.out (by kernel_rfl)) ?_; refine Z75.pP 3 28 (Z75.b 18 15) (any_of HT_.out (by kernel_rfl)) ?_; refine Z75.pP 5 30 (Z75.b 18 47) (any_of HT_.out (by kernel_rfl)) ?_; refine Z75.pP 6 31 (Z75.b 18 111) (any_of HT_.out (by kernel_rfl)) ?_; refine Z75.pP 7 32 (Z75.b 18 239) (any_of HT_.out (by kernel_rfl)) ?_; refine Z75.pP 8 33 (Z75.b 18 495) (any_of HT_.out (by kernel_rfl)) ?_; refine Z75.pP 11 36 (Z75.b 18 2543) (any_of HT_.out (by kernel_rfl)) ?_; refine Z75.pT5 4 29 (Z75.b 18 2559) (take_ofW HT_.out HW_.out (by kernel_rfl)) hHeld ?_; refine Z75.pT5 9 34 (Z75.b 18 3071) (take_ofW HT_.out HW_.out (by kernel_rfl)) hHeld ?_; refine Z75.pP 10 35 (Z75.b 18 4095) (any_of HT_.out (by kernel_rfl)) ?_; refine Z75.pP 12 37 (Z75.b 18 8191) (any_of HT_.out (by kernel_rfl)) ?_; refine Z75.pP 13 38 (Z75.b 18 16383) (any_of HT_.out (by kernel_rfl)) ?_; refine Z75.pT5 14 39 (Z75.b 18 32767) (take_ofW HT_.out HW_.out (by kernel_rfl)) hHeld ?_; refine one_ (i := 15) (N := some 40) (Z75.b 18 65535) rfl rfl (one_of HT_.out (by kernel_rfl)) (by decide) (fun K hK => ?_); refine value_ (w1 := ?_) (v := ?_) (by rfl) rfl ?_ ?_
          rotate_left 2
          ·go_simp
           constructor
           ·rfl
           rfl
          refine hK.out _ _ ⟨(blk_cell (blk_alloc BK101.out _) 0).trans rfl, (blk_cell (blk_alloc BK101.out _) 1).trans rfl, (blk_cell (blk_alloc BK101.out _) 2).trans rfl, (blk_cell (blk_alloc BK101.out _) 3).trans rfl, (World.cell?_alloc_lt _ _ _ (World.block_lt_of_cell? _ _ (((HB.out.cell (World.block_lt_of_cell? w _ hw108_0)).trans hw108_0)))).trans (((HB.out.cell (World.block_lt_of_cell? w _ hw108_0)).trans hw108_0))⟩ (fun hHeld => ?_); clear hK K; refine norm_ (a' := ?_) ?_ ?_
          rotate_left
          ·show Act.put _ (some 40) _ = _
           simp only [Act.put, List.setIfInBounds_toArray, List.set_cons_zero, List.set_cons_succ, i64_w, i32_w]
           rfl
          refine one_ (i := 16) (N := some 41) (Z75.b 18 131071) rfl rfl (one_of HT_.out (by kernel_rfl)) (by decide) (fun K hK => ?_); refine Kd.R_append_step (Kd.int .i64) (w0 := w) w.heap.size (by rfl) (.tmp 25) (.tmp 40) 22 2 (.int .i64 0) 8 rfl Try.underlying22 info2 rfl (by decide) (by omega) u5 x5_2 (rd l0_3 (ji10)) [.int .i64 (rd l0_3 (ji10))] (fun _ => True) (fun _ => False) rfl rfl ?aP (fun _ hk => hk.elim) ?aF ?aO ?aB ?aS ?aL ?_
          (case aP => exact rfl)
          (case aB => exact Z75.z0)
          (case aF => exact (fun _ _ => trivial))
          (case aO => exact (by (with_reducible repeat (first | apply Kd.R_alloc | apply Kd.R_drewN | apply Kd.R_drew)); exact HO_5.out))
          (case aS => exact (below_size Z75.z0))
          (case aL => have := LMc13.out; omega)
          intro v110 w16 ho hb hg hat
          rw [← Ny109.out] at ho; have n0_ := Z75.k (Kd.S_after (ok := (fun _ => True)) (by (with_reducible repeat (first | apply Kd.S_alloc | apply Kd.S_drewN | apply Kd.S_drew)); exact Kd.S_mono HO_3.out (fun _ hk => ⟨trivial, hk⟩)) hg hat); have n1_ := Z75.k (blk_grown (g := g0_) (o := .cells #[.int .i64 a0_0, .int .i64 a0_1, .int .i64 a0_2, .slice (some ad108) l0_3.length c0_3] 28 (0, 0)) Z75.z2 hg (Kd.R_ne HO_5.out BK101.out (by decide))); have n2_ := Z75.k (hb); have n3_ := Z75.k (ho); clear HO_3 BK101 HB HO_5; have HO_3 := n0_; have BK101 := n1_; have HB := n2_; have HO111 := n3_; clear n0_ n1_ n2_ n3_ ho hb hg hat; refine hK.out _ _ ⟨(blk_cell BK101.out 0).trans rfl, (blk_cell BK101.out 1).trans rfl, (blk_cell BK101.out 2).trans rfl, (blk_cell BK101.out 3).trans rfl, ((HB.out.cell (World.block_lt_of_cell? w _ hw108_0)).trans hw108_0)⟩ (fun hHeld => ?_); clear hK K; refine norm_ (a' := ?_) ?_ ?_
          rotate_left
          ·show Act.put _ (some 41) _ = _
           simp only [Act.put, List.setIfInBounds_toArray, List.set_cons_zero, List.set_cons_succ, i64_w, i32_w]
           rfl
          refine Z75.pP 17 5 (Z75.b 18 262143) (any_of HT_.out (by kernel_rfl)) ?_; refine done_ (done_of HT_.out (by kernel_rfl)) ?_
          try go_wp2
          go_roundg k2
          case measure => have := HK1.out; have := HK2.out; omega
          case rel => exact ⟨(y109), (wrap64 (x6_2 + 1)), (by first | rfl | (simp; done) | (simp [*]; done)), H', ⟨(by have := HK1.out; have := HK2.out; omega)⟩, ⟨Z75.z3⟩, ⟨(by (with_reducible repeat (first | apply Kd.R_alloc | apply Kd.R_drewN | apply Kd.R_drew)); exact HO111.out)⟩, ⟨Z75.z2⟩, ⟨Z75.z0⟩⟩
         rw [if_neg c13] at H; exact absurd H (by simp)
        rw [if_neg c12] at H; exact absurd H (by simp)
       rw [if_neg c11] at H; exact absurd H (by simp)
      rw [if_neg c9] at H; have c9b0 : decide (x6_2 < a0_1) = false := decide_eq_false c9; clear c9
      by_cases c17 : x3_1.length < 5864062014805
      ·rw [if_pos c17] at H
       have LMc17 := Z75.k c17; clear c17; obtain ⟨y112, hy112⟩ : ∃ y_ : List (List Int), y_ = (x3_1 ++ [x5_2]) := ⟨_, rfl⟩; replace H : (spec_l04Columns.l0 k2 y112 (wrap64 (x4_1 + 1)) a0_0 a0_1 a0_2 l0_3) = some r := by first | (rw [hy112]; with_reducible exact H) | (have H2_ := (Option.bind_some _ _).symm.trans H; rw [hy112]; with_reducible exact H2_) | (have H2_ := (Option.bind_some _ _).symm.trans H; with_reducible exact H2_) | with_reducible exact H | (rw [hy112]; exact H) | exact H
       have Ny112 := Z75.k hy112; clear hy112; have H' := Z75.k H; clear H; obtain ⟨hcz18_0, hcz18_1, hcz18_2, hcz18_3, hfz18_0, hfz18_1, hfz18_2, hfz18_3⟩ := cells4 BK101.out; obtain ⟨Ao20, co20, eo20⟩ := Kd.R_slice HO_5.out; subst eo20
       go_wp2_with (first | ((with_reducible refine gate_builtin (b := .append) (xs := #[.tmp 42, .tmp 44]) rfl ?_); at_builtin; refine Kd.S_append (Kd.slice 2 (Kd.int .i64)) (w0 := w) w.heap.size rfl (.tmp 42) (.tmp 44) 36 22 (.slice none 0 0) 24 rfl Try.underlying36 info22 rfl (by decide) (by omega) u3 x3_1 x5_2 [.slice Ao20 x5_2.length co20] (fun _ => True) (fun k_ => some k_ = (.slice Ao20 x5_2.length co20 : Value).ownBlock) rfl rfl ?aP (fun k_ hk_ => ((Kd.R_mono (ok' := fun k_ => ((fun _ => True)) k_ ∧ some k_ ≠ (u3 : Value).ownBlock) (Kd.R_apart' (HO_5.out) (Kd.S_typed HO_3.out) (by decide)) (fun k_ hk => ⟨trivial, hk.2⟩))).1 k_ hk_.symm) ?aF ?aO ?aB ?aS ?aL ?_; (case aP => exact Kd.M_row (Kd.R_mono (Kd.R_tight rfl (Kd.R_mono (ok' := fun k_ => ((fun _ => True)) k_ ∧ some k_ ≠ (u3 : Value).ownBlock) (Kd.R_apart' (HO_5.out) (Kd.S_typed HO_3.out) (by decide)) (fun k_ hk => ⟨trivial, hk.2⟩))) (fun _ h_ => h_))); (case aB => exact Z75.z0); (case aF => exact (fun _ _ => trivial)); (case aO => exact (by (with_reducible repeat (first | apply Kd.S_alloc | apply Kd.S_drewN | apply Kd.S_drew)); exact Kd.S_mono HO_3.out (fun k_ hk => ⟨trivial, fun e_ => hk e_⟩))); (case aS => exact (below_size Z75.z0)); (case aL => have := LMc17.out; omega); intro v113 w19 ho hb hg hat; rw [← Ny112.out] at ho; have HO114 := Z75.k (ho); replace BK101 := Z75.k (blk_grown (g := g0_) (o := .cells #[.int .i64 a0_0, .int .i64 a0_1, .int .i64 a0_2, .slice A0_3 l0_3.length c0_3] 28 (0, 0)) Z75.z2 hg (Kd.S_ne HO_3.out BK101.out (by decide))); replace HB := Z75.k (hb); clear HO_3 HO_5; clear ho hb hg hat))
       go_roundg k2
       case measure => have := HK1.out; have := HK2.out; omega
       case rel => exact ⟨(y112), (wrap64 (x4_1 + 1)), (by first | rfl | (simp; done) | (simp [*]; done)), H', ⟨(by have := HK1.out; have := HK2.out; omega)⟩, ⟨(by (with_reducible repeat (first | apply Kd.S_alloc | apply Kd.S_drewN | apply Kd.S_drew)); exact HO114.out)⟩, ⟨Z75.z2⟩, ⟨Z75.z0⟩⟩
      rw [if_neg c17] at H; exact absurd H (by simp)
   rw [if_neg c5] at H
   have c5b0 : decide (x4_1 < a0_2) = false := decide_eq_false c5
   clear c5
   obtain rfl := Option.some.inj H
   obtain ⟨hcz21_0, hcz21_1, hcz21_2, hcz21_3, hfz21_0, hfz21_1, hfz21_2, hfz21_3⟩ := cells4 BK101.out
   go_wp2
   go_ret
   exact ⟨_, (by first | rfl | (simp [errW_none, errW_some] <;> rfl) | (simp [*, errW_none, errW_some] <;> rfl)), (by (with_reducible repeat (first | apply Kd.S_alloc | apply Kd.S_drewN | apply Kd.S_drew)); exact HO_3.out), Z75.z0⟩
/-! ### spec_l00Src_next: function 113 -/
def spec_l00Src_next.f (s0_0 : List Int) (s0_1 : Int) (s0_2 : Int) : Option (Int × Int × Int) := if s0_1 < (s0_0.length : Int) then (if 0 ≤ s0_1 then (if (wrap64 (s0_1 + 1)) ≤ (s0_0.length : Int) then (some (wrap64 (rd s0_0 s0_1), wrap64 (s0_1 + 1), IntKind.u64.wrap ((IntKind.u64.wrap ((IntKind.u64.wrap (s0_2 * 6364136223846793005)) + (IntKind.u64.wrap (wrap64 (rd s0_0 s0_1))))) + 1442695040888963407))) else (some (wrap64 (Go.bits .and .u64 ((IntKind.u64.wrap ((IntKind.u64.wrap ((IntKind.u64.wrap (s0_2 * 6364136223846793005)) + (IntKind.u64.wrap (wrap64 (rd s0_0 s0_1))))) + 1442695040888963407)) / 1099511627776) 255), wrap64 (s0_1 + 1), IntKind.u64.wrap ((IntKind.u64.wrap ((IntKind.u64.wrap (s0_2 * 6364136223846793005)) + (IntKind.u64.wrap (wrap64 (rd s0_0 s0_1))))) + 1442695040888963407)))) else (none)) else (if (wrap64 (s0_1 + 1)) ≤ (s0_0.length : Int) then (some (0, wrap64 (s0_1 + 1), IntKind.u64.wrap ((IntKind.u64.wrap ((IntKind.u64.wrap (s0_2 * 6364136223846793005)))) + 1442695040888963407))) else (some (wrap64 (Go.bits .and .u64 ((IntKind.u64.wrap ((IntKind.u64.wrap ((IntKind.u64.wrap (s0_2 * 6364136223846793005)))) + 1442695040888963407)) / 1099511627776) 255), wrap64 (s0_1 + 1), IntKind.u64.wrap ((IntKind.u64.wrap ((IntKind.u64.wrap (s0_2 * 6364136223846793005)))) + 1442695040888963407))))
theorem Z113.z3 {P : Prop} (h : P := by first | rfl | (simp [errW_none, errW_some] <;> rfl) | (simp [*, errW_none, errW_some] <;> rfl)) : P := h
theorem Z113.z2 {P : Prop} (h : P := by repeat (first | (with_reducible first | exact HK.out | apply KeepBut.set_ | apply keep_drewN | apply keep_drew | apply keep_alloc) | exact HK.out)) : P := h
theorem Z113.z1 {P : Prop} (h : P := by repeat (first | (with_reducible first | exact HI0.out | apply IsS95.alloc | apply IsS95.drewN | apply IsS95.drew | apply IsS95.set_1 | apply IsS95.set_2) | exact HI0.out)) : P := h
theorem Z113.z0 {P : Prop} (h : P := by repeat (first | (with_reducible first | exact HB.out | apply below_alloc | apply pw_below_drewN | apply below_drew1 | refine below_set ?_ (IsS95.ge HI0.out)) | exact HB.out)) : P := h
set_option maxHeartbeats 8000000 in
set_option maxRecDepth 100000 in
theorem spec_l00Src_next.calls (g : Nat) (s0_0 : List Int) (s0_1 : Int) (s0_2 : Int) (r1 : Int) (r2 : Int) (r3 : Int) (w0 w : World) (hI : IsS95 w0 w g s0_0 s0_1 s0_2) (hB : Below w0.heap.size w0 w) (h : spec_l00Src_next.f s0_0 s0_1 s0_2 = some (r1, r2, r3)) :
  Calls Try.prog 113 #[.pointer (some ⟨g, 0, none⟩)] w fun e w' => e = .returned (.int .i64 r1) ∧ IsS95 w0 w' g s0_0 r2 r3 ∧ Below w0.heap.size w0 w' ∧ KeepBut w w' g none := by
 have HI0 := Aside0.mk hI
 have HK := Aside0.mk (KeepBut.refl w g none)
 have HL := Aside0.mk hB.size
 clear hI
 have HW0 := Aside0.mk hB.size
 have HB := Aside0.mk hB
 clear hB
 have H : (if s0_1 < (s0_0.length : Int) then (if 0 ≤ s0_1 then (if (wrap64 (s0_1 + 1)) ≤ (s0_0.length : Int) then (some (wrap64 (rd s0_0 s0_1), wrap64 (s0_1 + 1), IntKind.u64.wrap ((IntKind.u64.wrap ((IntKind.u64.wrap (s0_2 * 6364136223846793005)) + (IntKind.u64.wrap (wrap64 (rd s0_0 s0_1))))) + 1442695040888963407))) else (some (wrap64 (Go.bits .and .u64 ((IntKind.u64.wrap ((IntKind.u64.wrap ((IntKind.u64.wrap (s0_2 * 6364136223846793005)) + (IntKind.u64.wrap (wrap64 (rd s0_0 s0_1))))) + 1442695040888963407)) / 1099511627776) 255), wrap64 (s0_1 + 1), IntKind.u64.wrap ((IntKind.u64.wrap ((IntKind.u64.wrap (s0_2 * 6364136223846793005)) + (IntKind.u64.wrap (wrap64 (rd s0_0 s0_1))))) + 1442695040888963407)))) else (none)) else (if (wrap64 (s0_1 + 1)) ≤ (s0_0.length : Int) then (some (0, wrap64 (s0_1 + 1), IntKind.u64.wrap ((IntKind.u64.wrap ((IntKind.u64.wrap (s0_2 * 6364136223846793005)))) + 1442695040888963407))) else (some (wrap64 (Go.bits .and .u64 ((IntKind.u64.wrap ((IntKind.u64.wrap ((IntKind.u64.wrap (s0_2 * 6364136223846793005)))) + 1442695040888963407)) / 1099511627776) 255), wrap64 (s0_1 + 1), IntKind.u64.wrap ((IntKind.u64.wrap ((IntKind.u64.wrap (s0_2 * 6364136223846793005)))) + 1442695040888963407))))) = some (r1, r2, r3) := h
 clear h
 by_cases c2 : s0_1 < (s0_0.length : Int)
 ·rw [if_pos c2] at H
  have c2b0 : decide (s0_1 < (s0_0.length : Int)) = true := decide_eq_true c2
  clear c2
  by_cases c3 : 0 ≤ s0_1
  ·rw [if_pos c3] at H
   have c3b0 : decide (0 ≤ s0_1) = true := decide_eq_true c3
   clear c3
   by_cases c4 : (wrap64 (s0_1 + 1)) ≤ (s0_0.length : Int)
   ·rw [if_pos c4] at H
    have c4b0 : decide ((wrap64 (s0_1 + 1)) ≤ (s0_0.length : Int)) = true := decide_eq_true c4
    clear c4
    simp only [Option.some.injEq, Prod.mk.injEq] at H
    obtain ⟨rfl, rfl, rfl⟩ := H
    obtain ⟨ASz5_0, cSz5_0, HGz5, hgz5, HSz5_0⟩ := HI0.out
    have hcz5_0 := cellS95_0 HGz5
    have hcz5_1 := cellS95_1 HGz5
    have hcz5_2 := cellS95_2 HGz5
    have hfz5_1 := blk_frozen HGz5 1
    have hfz5_2 := blk_frozen HGz5 2
    clear HGz5 hgz5
    have p101 : 0 ≤ (s0_1 : Int) := of_decide_eq_true (by first | (with_reducible assumption) | assumption)
    have q101 : s0_1 < (s0_0.length : Int) := of_decide_eq_true (by first | (with_reducible assumption) | assumption)
    obtain ⟨ad101, e101, hx101_0⟩ := Kd.at_int HSz5_0 s0_1 p101 q101
    cases e101
    replace hx101_0 := pw_cell_below HB.out hx101_0
    replace p101 := eq_true p101
    replace q101 := eq_true q101
    go_enter Try.func113, Try.ntmps113
    go_wp2
    repeat (go_quiet (fail); try go_wp2)
    go_ret
    exact ⟨Z113.z3, Z113.z1, Z113.z0, Z113.z2⟩
   rw [if_neg c4] at H
   have c4b0 : decide ((wrap64 (s0_1 + 1)) ≤ (s0_0.length : Int)) = false := decide_eq_false c4
   clear c4
   simp only [Option.some.injEq, Prod.mk.injEq] at H
   obtain ⟨rfl, rfl, rfl⟩ := H
   obtain ⟨ASz6_0, cSz6_0, HGz6, hgz6, HSz6_0⟩ := HI0.out
   have hcz6_0 := cellS95_0 HGz6
   have hcz6_1 := cellS95_1 HGz6
   have hcz6_2 := cellS95_2 HGz6
   have hfz6_1 := blk_frozen HGz6 1
   have hfz6_2 := blk_frozen HGz6 2
   clear HGz6 hgz6
   have p101 : 0 ≤ (s0_1 : Int) := of_decide_eq_true (by first | (with_reducible assumption) | assumption)
   have q101 : s0_1 < (s0_0.length : Int) := of_decide_eq_true (by first | (with_reducible assumption) | assumption)
   obtain ⟨ad101, e101, hx101_0⟩ := Kd.at_int HSz6_0 s0_1 p101 q101
   cases e101
   replace hx101_0 := pw_cell_below HB.out hx101_0
   replace p101 := eq_true p101
   replace q101 := eq_true q101
   go_enter Try.func113, Try.ntmps113
   go_wp2
   repeat (go_quiet (fail); try go_wp2)
   go_ret
   exact ⟨Z113.z3, Z113.z1, Z113.z0, Z113.z2⟩
  rw [if_neg c3] at H
  exact absurd H (by simp)
 rw [if_neg c2] at H
 have c2b0 : decide (s0_1 < (s0_0.length : Int)) = false := decide_eq_false c2
 clear c2
 by_cases c7 : (wrap64 (s0_1 + 1)) ≤ (s0_0.length : Int)
 ·rw [if_pos c7] at H
  have c7b0 : decide ((wrap64 (s0_1 + 1)) ≤ (s0_0.length : Int)) = true := decide_eq_true c7
  clear c7
  simp only [Option.some.injEq, Prod.mk.injEq] at H
  obtain ⟨rfl, rfl, rfl⟩ := H
  obtain ⟨ASz8_0, cSz8_0, HGz8, hgz8, HSz8_0⟩ := HI0.out
  have hcz8_0 := cellS95_0 HGz8
  have hcz8_1 := cellS95_1 HGz8
  have hcz8_2 := cellS95_2 HGz8
  have hfz8_1 := blk_frozen HGz8 1
  have hfz8_2 := blk_frozen HGz8 2
  clear HGz8 hgz8
  go_enter Try.func113, Try.ntmps113
  go_wp2
  repeat (go_quiet (fail); try go_wp2)
  go_ret
  exact ⟨Z113.z3, Z113.z1, Z113.z0, Z113.z2⟩
 rw [if_neg c7] at H
 have c7b0 : decide ((wrap64 (s0_1 + 1)) ≤ (s0_0.length : Int)) = false := decide_eq_false c7
 clear c7
 simp only [Option.some.injEq, Prod.mk.injEq] at H
 obtain ⟨rfl, rfl, rfl⟩ := H
 obtain ⟨ASz9_0, cSz9_0, HGz9, hgz9, HSz9_0⟩ := HI0.out
 have hcz9_0 := cellS95_0 HGz9
 have hcz9_1 := cellS95_1 HGz9
 have hcz9_2 := cellS95_2 HGz9
 have hfz9_1 := blk_frozen HGz9 1
 have hfz9_2 := blk_frozen HGz9 2
 clear HGz9 hgz9
 go_enter Try.func113, Try.ntmps113
 go_wp2
 repeat (go_quiet (fail); try go_wp2)
 go_ret
 exact ⟨Z113.z3, Z113.z1, Z113.z0, Z113.z2⟩
end Go.Proofs.Ytmbbjmkcbpefhaa.F
end
