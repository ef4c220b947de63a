-- Texts of this claim, merged by pack.py (a program of this session's).
import Derived.Test.YtepdfefgkhodlaaDoorQFnExactReadList1
import Derived.Test.YtepdfefgkhodlaaDoorQFnExactReadList9
import Derived.Test.YtepdfefgkhodlaaDoorQFnExactReadList7
import Derived.Test.YtepdfefgkhodlaaDoorQFnExactReadList8
import Derived.KernelRfl

section
namespace Go.Proofs.YtepdfefgkhodlaaDoor.F
open Go.RowKit Go.Proofs.YtepdfefgkhodlaaDoorW.PrintWords Go.Proofs.YtepdfefgkhodlaaDoorW.PrintLast Go.Proofs.YtepdfefgkhodlaaDoorW.PrintMore
attribute [local go_sem] max2_int min2_int max_two min_two max_three min_three max_four min_four   -- for this text's walks alone
set_option linter.unusedVariables false
set_option linter.unusedSimpArgs false

/-! ### spec_l01List: function 34 -/
def spec_l01List.l0 : Nat → List Int → ByteArray → Int → Option (ByteArray)
  | 0, _, _, _ => none
  | k + 1, x0, x3, x4 => if x4 < (x0.length : Int) then (if x4 > 0 then (if x3.size + 1 ≤ 9223372036854775807 then (if 0 ≤ x4 then ((spec_l01Dec.f k (rd x0 x4)).bind fun t102 => (if (x3 ++ (⟨#[44]⟩ : ByteArray)).size + t102.size ≤ 9223372036854775807 then (spec_l01List.l0 k x0 ((x3 ++ (⟨#[44]⟩ : ByteArray)) ++ t102) (wrap64 (x4 + 1))) else (none))) else (none)) else (none)) else (if 0 ≤ x4 then ((spec_l01Dec.f k (rd x0 x4)).bind fun t104 => (if x3.size + t104.size ≤ 9223372036854775807 then (spec_l01List.l0 k x0 (x3 ++ t104) (wrap64 (x4 + 1))) else (none))) else (none))) else (some x3)
def spec_l01List.f (k : Nat) (l0 : List Int) : Option (ByteArray) := if (l0.length : Int) = 0 then (some (⟨#[45]⟩ : ByteArray)) else (spec_l01List.l0 k l0 (⟨#[]⟩ : ByteArray) 0)
theorem spec_l01List.mono_l : ∀ k, (∀ y0 y1 y2, LeO (spec_l01List.l0 k y0 y1 y2) (spec_l01List.l0 (k + 1) y0 y1 y2))
  | 0 => fun _ _ _ r h => by simp [spec_l01List.l0] at h
  | k + 1 => by
    have ih0 := spec_l01List.mono_l k
    · intro y0 y1 y2
      unfold spec_l01List.l0
      repeat' first
      | (with_reducible exact ih0 _ _ _)
      | (with_reducible exact spec_l01Dec.mono _ _)
      | (with_reducible exact LeO.refl _)
      | (with_reducible exact LeO.none _)
      | (with_reducible refine LeO.ite ?_ ?_)
      | (with_reducible refine LeO.bind ?_ (fun _ => ?_))
      | exact ih0 _ _ _
      | exact spec_l01Dec.mono _ _
      | exact LeO.none _
      | refine LeO.ite ?_ ?_
      | refine LeO.bind ?_ (fun _ => ?_)
theorem spec_l01List.mono : ∀ a0 k, LeO (spec_l01List.f k a0) (spec_l01List.f (k + 1) a0) := by
  intro a0 k
  have ih0 := spec_l01List.mono_l k
  unfold spec_l01List.f
  repeat' first
      | (with_reducible exact ih0 _ _ _)
      | (with_reducible exact spec_l01Dec.mono _ _)
      | (with_reducible exact LeO.refl _)
      | (with_reducible exact LeO.none _)
      | (with_reducible refine LeO.ite ?_ ?_)
      | (with_reducible refine LeO.bind ?_ (fun _ => ?_))
      | exact ih0 _ _ _
      | exact spec_l01Dec.mono _ _
      | exact LeO.none _
      | refine LeO.ite ?_ ?_
      | refine LeO.bind ?_ (fun _ => ?_)
theorem Z34.z2 {P : Prop} (h : P := by (try simp only [List.map_toArray, List.map_cons, List.map_nil]); first | done | rfl | (simp only [List.length_drop, List.length_take]; rfl)) : P := h
theorem Z34.z1 {P : Prop} (h : P := by first | rfl | (simp; done) | (simp [*]; done)) : P := h
theorem Z34.z0 {P : Prop} (h : P := by repeat (first | (with_reducible first | exact HB.out | apply below_alloc | apply pw_below_drewN | apply below_drew1) | exact HB.out)) : P := h
set_option maxHeartbeats 8000000 in
set_option maxRecDepth 100000 in
theorem spec_l01List.calls (k : Nat) (A0 : Option Addr) (c0 : Nat) (l0 : List Int) (r : ByteArray) (w : World) (hr0 : Kd.C (Kd.int .i64) w A0 l0.length l0) (hc0 : l0.length ≤ c0) (h : spec_l01List.f k l0 = some r) :
  Calls Tryd.prog 34 #[.slice A0 l0.length c0] w fun e w' => e = .returned (.string r) ∧ Below w.heap.size w w' := by
 have HR0 := Aside0.mk hr0
 have HC0 := Aside0.mk hc0
 clear hr0 hc0
 have HB := Aside0.mk (Below.refl w.heap.size w)
 have H : (if (l0.length : Int) = 0 then (some (⟨#[45]⟩ : ByteArray)) else (spec_l01List.l0 k l0 (⟨#[]⟩ : ByteArray) 0)) = some r := h
 clear h
 by_cases c2 : (l0.length : Int) = 0
 ·rw [if_pos c2] at H
  have c2b0 : ((l0.length : Int) == 0) = true := beq_iff_eq.mpr c2
  have c2b1 : ((l0.length : Int) != 0) = false := bne_eq_false_iff_eq.mpr c2
  clear c2
  obtain rfl := Option.some.inj H
  go_enter Tryd.func34, Tryd.ntmps34
  go_wp2
  go_ret
  exact ⟨(by first | rfl | (simp [errW_none, errW_some] <;> rfl) | (simp [*, errW_none, errW_some] <;> rfl)), Z34.z0⟩
 rw [if_neg c2] at H
 have c2b0 : ((l0.length : Int) == 0) = false := beq_eq_false_iff_ne.mpr c2
 have c2b1 : ((l0.length : Int) != 0) = true := bne_iff_ne.mpr c2
 have c2b2 : ¬ (l0 = []) := fun h_ => c2 (by rw [h_]; rfl)
 have H' := Aside0.mk H
 clear H
 go_enter Tryd.func34, Tryd.ntmps34
 go_wp2
 go_loopg [3, 4] k (fun kq v3 v4 w' => ∃ (x3_1 : ByteArray) (x4_1 : Int), v3 = .string x3_1 ∧ v4 = .int .i64 x4_1 ∧ Aside0 (spec_l01List.l0 kq l0 x3_1 x4_1 = some r) ∧ Aside0 (kq ≤ k) ∧ Aside0 (Below w.heap.size w w'))
 case atStart => exact ⟨((⟨#[]⟩ : ByteArray)), (0), Z34.z1, Z34.z1, H', ⟨Nat.le_refl _⟩, ⟨Z34.z0⟩⟩
 case round =>
  clear H'
  try clear c2
  try clear c2b0
  try clear c2b1
  try clear c2b2
  try clear p2
  obtain ⟨x3_1, x4_1, rfl, rfl, HA, HK1, HB⟩ := hrel
  cases gk with
  | zero => exact absurd HA.out (by simp [spec_l01List.l0])
  | succ k1 =>
   have H := HA.out
   clear HA
   simp only [spec_l01List.l0] at H
   by_cases c3 : x4_1 < (l0.length : Int)
   ·rw [if_pos c3] at H
    have c3b0 : decide (x4_1 < (l0.length : Int)) = true := decide_eq_true c3
    clear c3
    by_cases c4 : x4_1 > 0
    ·rw [if_pos c4] at H
     have c4b0 : decide (0 < x4_1) = true := decide_eq_true c4
     clear c4
     by_cases c5 : x3_1.size + 1 ≤ 9223372036854775807
     ·rw [if_pos c5] at H
      have c5b0 := eq_true c5
      have c5b1 : decide (x3_1.size + 1 ≤ 9223372036854775807) = true := decide_eq_true c5
      try have c5b2 : (9223372036854775807 < x3_1.size + 1) = False := eq_false (Nat.not_lt.2 c5)
      by_cases c6 : 0 ≤ x4_1
      ·rw [if_pos c6] at H
       have c6b0 : decide (0 ≤ x4_1) = true := decide_eq_true c6
       clear c6
       replace H := Option.bind_eq_some_iff.mp H
       obtain ⟨t102, A70, H⟩ := H
       replace H : (if (x3_1 ++ (⟨#[44]⟩ : ByteArray)).size + t102.size ≤ 9223372036854775807 then (spec_l01List.l0 k1 l0 ((x3_1 ++ (⟨#[44]⟩ : ByteArray)) ++ t102) (wrap64 (x4_1 + 1))) else (none)) = some r := H
       have A7 := Aside0.mk A70
       clear A70
       by_cases c8 : (x3_1 ++ (⟨#[44]⟩ : ByteArray)).size + t102.size ≤ 9223372036854775807
       ·rw [if_pos c8] at H
        have c8b0 := eq_true c8
        have c8b1 : decide ((x3_1 ++ (⟨#[44]⟩ : ByteArray)).size + t102.size ≤ 9223372036854775807) = true := decide_eq_true c8
        try have c8b2 : (9223372036854775807 < (x3_1 ++ (⟨#[44]⟩ : ByteArray)).size + t102.size) = False := eq_false (Nat.not_lt.2 c8)
        clear c8b0
        have c8s : x3_1.size + 1 + t102.size ≤ 9223372036854775807 := by have e_ := c8; simp only [ByteArray.size_append] at e_; exact e_
        have c8t := eq_true c8s
        try have c8u := eq_false (Nat.not_lt.2 c8s)
        clear c8s
        have H' := Aside0.mk H
        clear H
        have p101 : 0 ≤ (x4_1 : Int) := of_decide_eq_true (by first | (with_reducible assumption) | assumption)
        have q101 : x4_1 < (l0.length : Int) := of_decide_eq_true (by first | (with_reducible assumption) | assumption)
        obtain ⟨ad101, e101, hx101_0⟩ := Kd.at_int HR0.out x4_1 p101 q101
        cases e101
        replace hx101_0 := (HB.out.cell (World.block_lt_of_cell? w _ hx101_0)).trans hx101_0
        replace p101 := eq_true p101
        replace q101 := eq_true q101
        go_wp2_with (first | ((with_reducible refine gate_callee (f := 25) rfl ?_); refine goesL_ (some 23) rfl rfl Tryd.func25 (by kernel_rfl) rfl #[.int .i64 (rd l0 x4_1)] rfl Z34.z2 ?_; (with_reducible refine (spec_l01Dec.calls k1 (rd l0 x4_1) t102 _ A7.out).mono ?_); rintro e w9 ⟨rfl, hb⟩; refine ⟨_, rfl, ?_⟩; have n0_ := Aside0.mk (below_step Z34.z0 hb); clear HB; have HB := n0_; clear n0_; (try clear hb); (try clear hb2); (try clear hk); (try clear hi)))
        go_roundg k1
        case measure => have := HK1.out; omega
        case rel => exact ⟨((x3_1 ++ (⟨#[44]⟩ : ByteArray)) ++ t102), (wrap64 (x4_1 + 1)), Z34.z1, Z34.z1, H', ⟨(by have := HK1.out; omega)⟩, ⟨Z34.z0⟩⟩
       rw [if_neg c8] at H
       exact absurd H (by simp)
      rw [if_neg c6] at H
      exact absurd H (by simp)
     rw [if_neg c5] at H
     exact absurd H (by simp)
    rw [if_neg c4] at H
    have c4b0 : decide (0 < x4_1) = false := decide_eq_false c4
    clear c4
    by_cases c10 : 0 ≤ x4_1
    ·rw [if_pos c10] at H
     have c10b0 : decide (0 ≤ x4_1) = true := decide_eq_true c10
     clear c10
     replace H := Option.bind_eq_some_iff.mp H
     obtain ⟨t104, A110, H⟩ := H
     replace H : (if x3_1.size + t104.size ≤ 9223372036854775807 then (spec_l01List.l0 k1 l0 (x3_1 ++ t104) (wrap64 (x4_1 + 1))) else (none)) = some r := H
     have A11 := Aside0.mk A110
     clear A110
     by_cases c12 : x3_1.size + t104.size ≤ 9223372036854775807
     ·rw [if_pos c12] at H
      have c12b0 := eq_true c12
      have c12b1 : decide (x3_1.size + t104.size ≤ 9223372036854775807) = true := decide_eq_true c12
      try have c12b2 : (9223372036854775807 < x3_1.size + t104.size) = False := eq_false (Nat.not_lt.2 c12)
      have H' := Aside0.mk H
      clear H
      have p103 : 0 ≤ (x4_1 : Int) := of_decide_eq_true (by first | (with_reducible assumption) | assumption)
      have q103 : x4_1 < (l0.length : Int) := of_decide_eq_true (by first | (with_reducible assumption) | assumption)
      obtain ⟨ad103, e103, hx103_0⟩ := Kd.at_int HR0.out x4_1 p103 q103
      cases e103
      replace hx103_0 := (HB.out.cell (World.block_lt_of_cell? w _ hx103_0)).trans hx103_0
      replace p103 := eq_true p103
      replace q103 := eq_true q103
      go_wp2_with (first | ((with_reducible refine gate_callee (f := 25) rfl ?_); refine goesL_ (some 23) rfl rfl Tryd.func25 (by kernel_rfl) rfl #[.int .i64 (rd l0 x4_1)] rfl Z34.z2 ?_; (with_reducible refine (spec_l01Dec.calls k1 (rd l0 x4_1) t104 _ A11.out).mono ?_); rintro e w13 ⟨rfl, hb⟩; refine ⟨_, rfl, ?_⟩; have n0_ := Aside0.mk (below_step Z34.z0 hb); clear HB; have HB := n0_; clear n0_; (try clear hb); (try clear hb2); (try clear hk); (try clear hi)))
      go_roundg k1
      case measure => have := HK1.out; omega
      case rel => exact ⟨(x3_1 ++ t104), (wrap64 (x4_1 + 1)), Z34.z1, Z34.z1, H', ⟨(by have := HK1.out; omega)⟩, ⟨Z34.z0⟩⟩
     rw [if_neg c12] at H
     exact absurd H (by simp)
    rw [if_neg c10] at H
    exact absurd H (by simp)
   rw [if_neg c3] at H
   have c3b0 : decide (x4_1 < (l0.length : Int)) = false := decide_eq_false c3
   clear c3
   obtain rfl := Option.some.inj H
   go_wp2
   go_ret
   exact ⟨(by first | rfl | (simp [errW_none, errW_some] <;> rfl) | (simp [*, errW_none, errW_some] <;> rfl)), Z34.z0⟩


/-! ### spec_ListText: function 17 -/
def spec_ListText.f (k : Nat) (l0 : List Int) : Option (ByteArray) := (spec_l01Fits.f k l0).bind fun t101 => (if t101 = true then ((spec_l01List.f k l0).bind fun t102 => (some t102)) else (some (⟨#[]⟩ : ByteArray)))
theorem spec_ListText.mono : ∀ a0 k, LeO (spec_ListText.f k a0) (spec_ListText.f (k + 1) a0) := by
  intro a0 k
  unfold spec_ListText.f
  repeat' first
      | (with_reducible exact spec_l01Fits.mono _ _)
      | (with_reducible exact spec_l01List.mono _ _)
      | (with_reducible exact LeO.refl _)
      | (with_reducible exact LeO.none _)
      | (with_reducible refine LeO.ite ?_ ?_)
      | (with_reducible refine LeO.bind ?_ (fun _ => ?_))
      | exact spec_l01Fits.mono _ _
      | exact spec_l01List.mono _ _
      | exact LeO.none _
      | refine LeO.ite ?_ ?_
      | refine LeO.bind ?_ (fun _ => ?_)
theorem Z17.z2 {P : Prop} (h : P := by repeat (first | (with_reducible first | exact HB.out | apply below_alloc | apply pw_below_drewN | apply below_drew1) | exact HB.out)) : P := h
theorem Z17.z1 {P : Prop} (h : P := by (try simp only [List.map_toArray, List.map_cons, List.map_nil]); first | done | rfl | (simp only [List.length_drop, List.length_take]; rfl)) : P := h
theorem Z17.z0 {P : Prop} (h : P := by repeat (first | exact HR0.out | (with_reducible refine Kd.C_alloc ?_ _) | (with_reducible refine Kd.C_drewN ?_ _) | (with_reducible refine Kd.C_drew ?_))) : P := h
set_option maxHeartbeats 8000000 in
set_option maxRecDepth 100000 in
theorem spec_ListText.calls (k : Nat) (A0 : Option Addr) (c0 : Nat) (l0 : List Int) (r : ByteArray) (w : World) (hr0 : Kd.C (Kd.int .i64) w A0 l0.length l0) (hc0 : l0.length ≤ c0) (h : spec_ListText.f k l0 = some r) :
  Calls Tryd.prog 17 #[.slice A0 l0.length c0] w fun e w' => e = .returned (.string r) ∧ Below w.heap.size w w' := by
 have HR0 := Aside0.mk hr0
 have HC0 := Aside0.mk hc0
 clear hr0 hc0
 have HB := Aside0.mk (Below.refl w.heap.size w)
 have H : ((spec_l01Fits.f k l0).bind fun t101 => (if t101 = true then ((spec_l01List.f k l0).bind fun t102 => (some t102)) else (some (⟨#[]⟩ : ByteArray)))) = some r := h
 clear h
 replace H := Option.bind_eq_some_iff.mp H
 obtain ⟨t101, A20, H⟩ := H
 replace H : (if t101 = true then ((spec_l01List.f k l0).bind fun t102 => (some t102)) else (some (⟨#[]⟩ : ByteArray))) = some r := H
 have A2 := Aside0.mk A20
 clear A20
 by_cases c3 : t101 = true
 ·subst c3
  have H1 : ((spec_l01List.f k l0).bind fun t102 => (some t102)) = some r := by rw [if_pos rfl] at H; exact H
  clear H
  have H := H1
  clear H1
  replace H := Option.bind_eq_some_iff.mp H
  obtain ⟨t102, A40, H⟩ := H
  replace H : (some t102) = some r := H
  have A4 := Aside0.mk A40
  clear A40
  obtain rfl := Option.some.inj H
  go_enter Tryd.func17, Tryd.ntmps17
  go_wp2_with (first | ((with_reducible refine gate_callee (f := 33) rfl ?_); refine goesL_ (some 4) rfl rfl Tryd.func33 (by kernel_rfl) rfl #[.slice A0 l0.length c0] rfl Z17.z1 ?_; (with_reducible refine (spec_l01Fits.calls k _ _ l0 true _ ?side1 ?side2 A2.out).mono ?_); (case side1 => exact Z17.z0); (case side2 => exact HC0.out); rintro e w' ⟨rfl, ⟨nd, rfl⟩⟩; refine ⟨_, rfl, ?_⟩) | ((with_reducible refine gate_callee (f := 34) rfl ?_); refine goesL_ (some 7) rfl rfl Tryd.func34 (by kernel_rfl) rfl #[.slice A0 l0.length c0] rfl Z17.z1 ?_; (with_reducible refine (spec_l01List.calls k _ _ l0 t102 _ ?side1 ?side2 A4.out).mono ?_); (case side1 => exact Z17.z0); (case side2 => exact HC0.out); rintro e w5 ⟨rfl, hb⟩; refine ⟨_, rfl, ?_⟩; have n0_ := Aside0.mk (below_step Z17.z2 hb); clear HB; have HB := n0_; clear n0_; (try clear hb); (try clear hb2); (try clear hk); (try clear hi)))
  go_ret
  exact ⟨(by first | rfl | (simp [errW_none, errW_some] <;> rfl) | (simp [*, errW_none, errW_some] <;> rfl)), Z17.z2⟩
 replace c3 := Bool.eq_false_iff.mpr c3
 subst c3
 have H1 : (some (⟨#[]⟩ : ByteArray)) = some r := by rw [if_neg (show ¬ (false = true) by decide)] at H; exact H
 clear H
 have H := H1
 clear H1
 obtain rfl := Option.some.inj H
 go_enter Tryd.func17, Tryd.ntmps17
 go_wp2_with (first | ((with_reducible refine gate_callee (f := 33) rfl ?_); refine goesL_ (some 4) rfl rfl Tryd.func33 (by kernel_rfl) rfl #[.slice A0 l0.length c0] rfl Z17.z1 ?_; (with_reducible refine (spec_l01Fits.calls k _ _ l0 false _ ?side1 ?side2 A2.out).mono ?_); (case side1 => exact Z17.z0); (case side2 => exact HC0.out); rintro e w' ⟨rfl, ⟨nd, rfl⟩⟩; refine ⟨_, rfl, ?_⟩))
 go_ret
 exact ⟨(by first | rfl | (simp [errW_none, errW_some] <;> rfl) | (simp [*, errW_none, errW_some] <;> rfl)), Z17.z2⟩

end Go.Proofs.YtepdfefgkhodlaaDoor.F
end

section
set_option linter.unusedVariables false
set_option linter.unusedSimpArgs false
set_option linter.unusedSectionVars false
namespace Go.Proofs.YtepdfefgkhodlaaDoor.F
open Go.RowKit Go.Proofs.YtepdfefgkhodlaaDoorW.PrintWords Go.Proofs.YtepdfefgkhodlaaDoorW.PrintLast Go.Proofs.YtepdfefgkhodlaaDoor.Lin

open Go.Lib
/-- Digits as numbers, the last ahead. -/
def revDig (u : Nat) : List Int := (decDigits u).reverse.map (fun b => (b.toNat : Int))
theorem revDig_small {u : Nat} (h : u < 10) : revDig u = [(48 : Int) + u] := by
  unfold revDig
  rw [decDigits, dif_pos h]
  simp only [List.reverse_cons, List.reverse_nil, List.nil_append, List.map_cons, List.map_nil]
  rw [ofNat_dig h]; simp
theorem revDig_big {u : Nat} (h : ¬ u < 10) : revDig u = ((48 : Int) + (u % 10 : Nat)) :: revDig (u / 10) := by
  unfold revDig
  rw [decDigits, dif_neg h]
  simp only [List.reverse_append, List.reverse_cons, List.reverse_nil, List.nil_append, List.singleton_append, List.map_cons]
  rw [ofNat_dig (by omega)]; simp
theorem dec_loop (x0 : Int) (K : Nat) (r : ByteArray) : ∀ (j : Nat) (m : Int) (acc : List Int) (k : Nat), m.natAbs < 10 ^ j → m ≠ 0 → -9223372036854775808 ≤ m → m ≤ 9223372036854775807 → K + j ≤ k → acc.length + j ≤ 100 →
    (∀ k', K ≤ k' → spec_l01Dec.l0 k' x0 (acc ++ revDig m.natAbs) 0 = some r) → spec_l01Dec.l0 k x0 acc m = some r := by
  intro j
  induction j with
  | zero => intro m acc k h hm; exfalso; rw [Nat.pow_zero] at h; omega
  | succ j ih =>
    intro m acc k h hm h0 h1 hk ha H
    obtain ⟨k, rfl⟩ : ∃ q, k = q + 1 := ⟨k - 1, by omega⟩
    rw [Nat.pow_succ] at h
    simp only [spec_l01Dec.l0]
    rw [if_neg hm]
    obtain ⟨d, hd⟩ : ∃ d : Nat, d = m.natAbs % 10 := ⟨_, rfl⟩
    have hd10 : d < 10 := by omega
    have hlen : acc.length < 140737488355328 := by omega
    have hq : (Int.tdiv m 10).natAbs = m.natAbs / 10 := Int.natAbs_tdiv m 10
    have hqr : -9223372036854775808 ≤ Int.tdiv m 10 ∧ Int.tdiv m 10 ≤ 9223372036854775807 := by
      have : (Int.tdiv m 10).natAbs ≤ 922337203685477581 := by rw [hq]; omega
      omega
    have next : spec_l01Dec.l0 k x0 (acc ++ [(48 : Int) + d]) (Int.tdiv m 10) = some r := by
      by_cases hs : m.natAbs < 10
      · have hz : Int.tdiv m 10 = 0 := by have : m.natAbs / 10 = 0 := by omega
                                          omega
        rw [hz]
        have := H k (by omega)
        rw [revDig_small hs] at this
        rw [show d = m.natAbs by omega]
        exact this
      · refine ih _ _ k (by rw [hq]; omega) (by omega) hqr.1 hqr.2 (by omega) (by simp; omega) (fun k' hk' => ?_)
        have := H k' hk'
        rw [revDig_big hs] at this
        rw [hq, List.append_assoc, hd]
        exact this
    rw [w64_idV hqr.1 hqr.2]
    by_cases hneg : m < 0
    · obtain ⟨u, rfl⟩ : ∃ u : Nat, m = -(u : Int) := ⟨m.natAbs, by omega⟩
      have e1 : Int.tmod (-(u : Int)) 10 = -((u % 10 : Nat) : Int) := by rw [Int.neg_tmod]; rfl
      have e2 : d = u % 10 := by rw [hd]; simp
      rw [e1, ← e2]
      by_cases hz : -(d : Int) < 0
      · rw [if_pos hz, if_pos hlen, w64_idV (x := -(-(d : Int))) (by omega) (by omega), Int.neg_neg, w64_idV (x := 48 + (d : Int)) (by omega) (by omega), Int.emod_eq_of_lt (by omega) (by omega)]
        exact next
      · rw [if_neg hz, if_pos hlen, show -(d : Int) = (d : Int) by omega, w64_idV (x := 48 + (d : Int)) (by omega) (by omega), Int.emod_eq_of_lt (by omega) (by omega)]
        exact next
    · obtain ⟨u, rfl⟩ := Int.eq_ofNat_of_zero_le (show 0 ≤ m by omega)
      have e1 : Int.tmod (u : Int) 10 = ((u % 10 : Nat) : Int) := rfl
      have e2 : d = u % 10 := by rw [hd]; simp
      rw [e1, ← e2, if_neg (by omega), if_pos hlen, w64_idV (x := 48 + (d : Int)) (by omega) (by omega), Int.emod_eq_of_lt (by omega) (by omega)]
      exact next
theorem rev_loop (l : List Int) (hl : l.length ≤ 100) : ∀ (i k : Nat), i ≤ l.length → i < k → spec_l01Dec.l1 k l (l.drop i).reverse ((i : Int) - 1) = some (strOfNums l.reverse) := by
  intro i
  induction i with
  | zero =>
    intro k _ hk
    obtain ⟨k, rfl⟩ : ∃ q, k = q + 1 := ⟨k - 1, by omega⟩
    simp only [spec_l01Dec.l1]
    rw [if_neg (by omega)]; rfl
  | succ i ih =>
    intro k hi hk
    obtain ⟨k, rfl⟩ : ∃ q, k = q + 1 := ⟨k - 1, by omega⟩
    have e : ((i + 1 : Nat) : Int) - 1 = (i : Int) := by omega
    simp only [spec_l01Dec.l1, e]
    rw [if_pos (by omega), if_pos (by omega), if_pos (by omega), if_pos (by rw [List.length_reverse, List.length_drop]; omega), w64_idV (x := (i : Int) - 1) (by omega) (by omega), rd_nat, getD_at (show i < l.length by omega)]
    have e2 : (l.drop (i + 1)).reverse ++ [l[i]'(by omega)] = (l.drop i).reverse := by
      rw [List.drop_eq_getElem_cons (show i < l.length by omega), List.reverse_cons]
    rw [e2]
    exact ih k (by omega) (by omega)
theorem str_dig (l : List UInt8) : strOfNums (l.map (fun b => (b.toNat : Int))) = ⟨l.toArray⟩ := by
  unfold strOfNums
  congr 2
  rw [List.map_map]
  conv => rhs; rw [← List.map_id l]
  refine List.map_congr_left (fun b _ => ?_)
  simp
theorem revDig_length (u : Nat) (h : u < 10 ^ 20) : (revDig u).length ≤ 20 := by
  have nd : ∀ k u, u < 10 ^ (k + 1) → (decDigits u).length ≤ k + 1 := fun k => by
    induction k with
    | zero => intro u hu; rw [decDigits, dif_pos (by simpa using hu)]; simp
    | succ k ih =>
      intro u hu
      rw [decDigits]
      split
      · simp
      · rw [List.length_append]
        have := ih (u / 10) (by rw [Nat.pow_succ] at hu; omega)
        simp; omega
  unfold revDig
  rw [List.length_map, List.length_reverse]
  exact nd 19 u h
theorem l01Dec_tells {n : Int} (h0 : -9223372036854775808 ≤ n) (h1 : n ≤ 9223372036854775807) {k : Nat} (hk : 200 ≤ k) : spec_l01Dec.f k n = some ⟨(itoa n).toArray⟩ := by
  unfold spec_l01Dec.f
  by_cases hz : n = 0
  · rw [if_pos hz, hz]
    unfold itoa
    rw [if_neg (by omega), decDigits, dif_pos (by decide)]
    rfl
  · rw [if_neg hz]
    have hu : n.natAbs < 10 ^ 20 := Nat.lt_of_lt_of_le (show n.natAbs < 10000000000000000000 by omega) (by decide)
    have hlen := revDig_length n.natAbs hu
    have er : (revDig n.natAbs).reverse = (decDigits n.natAbs).map (fun b => (b.toNat : Int)) := by unfold revDig; rw [← List.map_reverse, List.reverse_reverse]
    have rl : ∀ (l : List Int) (k : Nat), l.length ≤ 50 → 60 ≤ k → spec_l01Dec.j1 k l = some (strOfNums l.reverse) := fun l k hl hk => by
      obtain ⟨k, rfl⟩ : ∃ q, k = q + 1 := ⟨k - 1, by omega⟩
      simp only [spec_l01Dec.j1]
      rw [w64_idV (x := (l.length : Int) - 1) (by omega) (by omega)]
      have := rev_loop l (by omega) l.length k (Nat.le_refl _) (by omega)
      rw [List.drop_length] at this
      exact this
    refine dec_loop n 100 _ 20 n [] k hu hz h0 h1 (by omega) (by simp) (fun k' hk' => ?_)
    obtain ⟨k', rfl⟩ : ∃ q, k' = q + 1 := ⟨k' - 1, by omega⟩
    simp only [spec_l01Dec.l0, List.nil_append]
    rw [if_pos trivial]
    by_cases hneg : n < 0
    · rw [if_pos hneg, if_pos (by omega), rl _ k' (by simp; omega) (by omega), List.reverse_append, er]
      unfold itoa
      rw [if_pos hneg]
      exact congrArg some (str_dig (45 :: decDigits n.natAbs))
    · rw [if_neg hneg, rl _ k' (by omega) (by omega), er, str_dig]
      unfold itoa
      rw [if_neg hneg, show n.natAbs = n.toNat by omega]
theorem decimal_tells {n : Int} (h0 : -9223372036854775808 ≤ n) (h1 : n ≤ 9223372036854775807) : impl_Decimal.f n = some ⟨(itoa n).toArray⟩ := by
  unfold impl_Decimal.f
  rw [if_pos ⟨h0, h1⟩]
theorem wf_bounds {x : Int} (h : (Lit.int .i64 x).wf = true) : -9223372036854775808 ≤ x ∧ x ≤ 9223372036854775807 := by
  have e1 : IntKind.i64.min = -9223372036854775808 := rfl
  have e2 : IntKind.i64.max = 9223372036854775807 := rfl
  simp [Lit.wf, e1, e2] at h
  omega
end Go.Proofs.YtepdfefgkhodlaaDoor.F
end
