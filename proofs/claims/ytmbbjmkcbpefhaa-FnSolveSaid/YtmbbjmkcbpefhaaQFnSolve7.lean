-- Texts of this claim, merged by packw.py (a program of this session's).
import Derived.Test.YtmbbjmkcbpefhaaQFnSolve2
import Derived.Test.YtmbbjmkcbpefhaaQFnSolve5
import Derived.Test.YtmbbjmkcbpefhaaQFnSolve6
import Derived.Test.YtmbbjmkcbpefhaaQFnSolve1

section
namespace Go.Proofs.Ytmbbjmkcbpefhaa.F
open Go.RowKit Go.Proofs.YtmbbjmkcbpefhaaW.PrintWords Go.Proofs.YtmbbjmkcbpefhaaW.PrintLast Go.Proofs.YtmbbjmkcbpefhaaW.PrintMore
attribute [local go_sem] max2_int min2_int max_two min_two max_three min_three max_four min_four   -- for this text's walks alone
set_option linter.unusedVariables false
set_option linter.unusedSimpArgs false
/-! ### spec_l00Src_pick: function 83 -/
def spec_l00Src_pick.f (s0_0 : List Int) (s0_1 : Int) (s0_2 : Int) (a1 : Int) : Option (Int × Int × Int) := if a1 ≤ 1 then (some (0, s0_1, s0_2)) else ((spec_l00Src_next.f s0_0 s0_1 s0_2).bind fun bt101 => (if a1 > 200 then ((spec_l00Src_next.f s0_0 bt101.2.1 bt101.2.2).bind fun bt104 => (if a1 = 0 then (none) else (some (Int.tmod (wrap64 ((wrap64 (bt101.1 * 256)) + bt104.1)) a1, bt104.2.1, bt104.2.2)))) else (if a1 = 0 then (none) else (some (Int.tmod bt101.1 a1, bt101.2.1, bt101.2.2)))))
theorem Z83.z4 {P : Prop} (h : P := by first | rfl | (simp [errW_none, errW_some] <;> rfl) | (simp [*, errW_none, errW_some] <;> rfl)) : P := h
theorem Z83.z3 {P : Prop} (h : P := by (try simp only [List.map_toArray, List.map_cons, List.map_nil]); first | done | rfl | (simp only [List.length_drop, List.length_take]; rfl)) : P := h
theorem Z83.z2 {P : Prop} (h : P := by repeat (first | (with_reducible first | exact HK.out | apply KeepBut.set_ | apply keep_drewN | apply keep_drew | apply keep_alloc) | exact HK.out)) : P := h
theorem Z83.z1 {P : Prop} (h : P := by repeat (first | (with_reducible first | exact HI0.out | apply IsS95.alloc | apply IsS95.drewN | apply IsS95.drew | apply IsS95.set_1 | apply IsS95.set_2) | exact HI0.out)) : P := h
theorem Z83.z0 {P : Prop} (h : P := by repeat (first | (with_reducible first | exact HB.out | apply below_alloc | apply pw_below_drewN | apply below_drew1 | refine below_set ?_ (IsS95.ge HI0.out)) | exact HB.out)) : P := h
set_option maxHeartbeats 8000000 in
set_option maxRecDepth 100000 in
theorem spec_l00Src_pick.calls (g : Nat) (s0_0 : List Int) (s0_1 : Int) (s0_2 : Int) (a1 : Int) (r1 : Int) (r2 : Int) (r3 : Int) (w0 w : World) (hI : IsS95 w0 w g s0_0 s0_1 s0_2) (hB : Below w0.heap.size w0 w) (h : spec_l00Src_pick.f s0_0 s0_1 s0_2 a1 = some (r1, r2, r3)) :
  Calls Try.prog 83 #[.pointer (some ⟨g, 0, none⟩), .int .i64 a1] w fun e w' => e = .returned (.int .i64 r1) ∧ IsS95 w0 w' g s0_0 r2 r3 ∧ Below w0.heap.size w0 w' ∧ KeepBut w w' g none := by
 have HI0 := Aside0.mk hI
 have HK := Aside0.mk (KeepBut.refl w g none)
 have HL := Aside0.mk hB.size
 clear hI
 have HW0 := Aside0.mk hB.size
 have HB := Aside0.mk hB
 clear hB
 have H : (if a1 ≤ 1 then (some (0, s0_1, s0_2)) else ((spec_l00Src_next.f s0_0 s0_1 s0_2).bind fun bt101 => (if a1 > 200 then ((spec_l00Src_next.f s0_0 bt101.2.1 bt101.2.2).bind fun bt104 => (if a1 = 0 then (none) else (some (Int.tmod (wrap64 ((wrap64 (bt101.1 * 256)) + bt104.1)) a1, bt104.2.1, bt104.2.2)))) else (if a1 = 0 then (none) else (some (Int.tmod bt101.1 a1, bt101.2.1, bt101.2.2)))))) = some (r1, r2, r3) := h
 clear h
 by_cases c3 : a1 ≤ 1
 ·rw [if_pos c3] at H
  have c3b0 : decide (a1 ≤ 1) = true := decide_eq_true c3
  clear c3
  simp only [Option.some.injEq, Prod.mk.injEq] at H
  obtain ⟨rfl, rfl, rfl⟩ := H
  go_enter Try.func83, Try.ntmps83
  go_wp2
  go_ret
  exact ⟨Z83.z4, Z83.z1, Z83.z0, Z83.z2⟩
 rw [if_neg c3] at H
 have c3b0 : decide (a1 ≤ 1) = false := decide_eq_false c3
 clear c3
 replace H := Option.bind_eq_some_iff.mp H
 obtain ⟨⟨t101, t102, t103⟩, A40, H⟩ := H
 replace H : (if a1 > 200 then ((spec_l00Src_next.f s0_0 t102 t103).bind fun bt104 => (if a1 = 0 then (none) else (some (Int.tmod (wrap64 ((wrap64 (t101 * 256)) + bt104.1)) a1, bt104.2.1, bt104.2.2)))) else (if a1 = 0 then (none) else (some (Int.tmod t101 a1, t102, t103)))) = some (r1, r2, r3) := H
 have A4 := Aside0.mk A40
 clear A40
 by_cases c5 : a1 > 200
 ·rw [if_pos c5] at H
  have c5b0 : decide (200 < a1) = true := decide_eq_true c5
  clear c5
  replace H := Option.bind_eq_some_iff.mp H
  obtain ⟨⟨t104, t105, t106⟩, A60, H⟩ := H
  (try dsimp only at H)
  have A6 := Aside0.mk A60
  clear A60
  by_cases c7 : a1 = 0
  ·rw [if_pos c7] at H
   exact absurd H (by simp)
  rw [if_neg c7] at H
  have c7b0 : (a1 == 0) = false := beq_eq_false_iff_ne.mpr c7
  have c7b1 : (a1 != 0) = true := bne_iff_ne.mpr c7
  simp only [Option.some.injEq, Prod.mk.injEq] at H
  obtain ⟨rfl, rfl, rfl⟩ := H
  go_enter Try.func83, Try.ntmps83
  go_wp2_with (first | ((with_reducible refine gate_callee (f := 113) rfl ?_); refine goesL_ (some 9) rfl rfl Try.func113 (by kernel_rfl) rfl #[.pointer (some ⟨g, 0, none⟩)] rfl Z83.z3 ?_; (with_reducible refine (spec_l00Src_next.calls g s0_0 s0_1 s0_2 t101 t102 t103 w0 _ ?side1 ?side2 A4.out).mono ?_); (case side1 => exact Z83.z1); (case side2 => exact Z83.z0); rintro e w8 ⟨rfl, hi, hb, hk⟩; refine ⟨_, rfl, ?_⟩; replace HK := Aside0.mk (KeepBut.trans Z83.z2 hk (.inl rfl)); replace HB := Aside0.mk (hb); replace HI0 := Aside0.mk (hi); (try clear hb); (try clear hb2); (try clear hk); (try clear hi)) | ((with_reducible refine gate_callee (f := 113) rfl ?_); refine goesL_ (some 15) rfl rfl Try.func113 (by kernel_rfl) rfl #[.pointer (some ⟨g, 0, none⟩)] rfl Z83.z3 ?_; (with_reducible refine (spec_l00Src_next.calls g s0_0 t102 t103 t104 t105 t106 w0 _ ?side1 ?side2 A6.out).mono ?_); (case side1 => exact Z83.z1); (case side2 => exact Z83.z0); rintro e w9 ⟨rfl, hi, hb, hk⟩; refine ⟨_, rfl, ?_⟩; replace HK := Aside0.mk (KeepBut.trans Z83.z2 hk (.inl rfl)); replace HB := Aside0.mk (hb); replace HI0 := Aside0.mk (hi); (try clear hb); (try clear hb2); (try clear hk); (try clear hi)))
  go_ret
  exact ⟨Z83.z4, Z83.z1, Z83.z0, Z83.z2⟩
 rw [if_neg c5] at H
 have c5b0 : decide (200 < a1) = false := decide_eq_false c5
 clear c5
 by_cases c10 : a1 = 0
 ·rw [if_pos c10] at H
  exact absurd H (by simp)
 rw [if_neg c10] at H
 have c10b0 : (a1 == 0) = false := beq_eq_false_iff_ne.mpr c10
 have c10b1 : (a1 != 0) = true := bne_iff_ne.mpr c10
 simp only [Option.some.injEq, Prod.mk.injEq] at H
 obtain ⟨rfl, rfl, rfl⟩ := H
 go_enter Try.func83, Try.ntmps83
 go_wp2_with (first | ((with_reducible refine gate_callee (f := 113) rfl ?_); refine goesL_ (some 9) rfl rfl Try.func113 (by kernel_rfl) rfl #[.pointer (some ⟨g, 0, none⟩)] rfl Z83.z3 ?_; (with_reducible refine (spec_l00Src_next.calls g s0_0 s0_1 s0_2 t101 t102 t103 w0 _ ?side1 ?side2 A4.out).mono ?_); (case side1 => exact Z83.z1); (case side2 => exact Z83.z0); rintro e w11 ⟨rfl, hi, hb, hk⟩; refine ⟨_, rfl, ?_⟩; replace HK := Aside0.mk (KeepBut.trans Z83.z2 hk (.inl rfl)); replace HB := Aside0.mk (hb); replace HI0 := Aside0.mk (hi); (try clear hb); (try clear hb2); (try clear hk); (try clear hi)))
 go_ret
 exact ⟨Z83.z4, Z83.z1, Z83.z0, Z83.z2⟩
/-! ### spec_l00Src_one: function 81 -/
def spec_l00Src_one.f (s0_0 : List Int) (s0_1 : Int) (s0_2 : Int) (a1 : Int) : Option (Bool × Int × Int) := (spec_l00Src_pick.f s0_0 s0_1 s0_2 a1).bind fun bt101 => (some ((bt101.1 == 0), bt101.2.1, bt101.2.2))
theorem Z81.z2 {P : Prop} (h : P := by repeat (first | (with_reducible first | exact HK.out | apply KeepBut.set_ | apply keep_drewN | apply keep_drew | apply keep_alloc) | exact HK.out)) : P := h
theorem Z81.z1 {P : Prop} (h : P := by repeat (first | (with_reducible first | exact HI0.out | apply IsS95.alloc | apply IsS95.drewN | apply IsS95.drew | apply IsS95.set_1 | apply IsS95.set_2) | exact HI0.out)) : P := h
theorem Z81.z0 {P : Prop} (h : P := by repeat (first | (with_reducible first | exact HB.out | apply below_alloc | apply pw_below_drewN | apply below_drew1 | refine below_set ?_ (IsS95.ge HI0.out)) | exact HB.out)) : P := h
set_option maxHeartbeats 8000000 in
set_option maxRecDepth 100000 in
theorem spec_l00Src_one.calls (g : Nat) (s0_0 : List Int) (s0_1 : Int) (s0_2 : Int) (a1 : Int) (r1 : Bool) (r2 : Int) (r3 : Int) (w0 w : World) (hI : IsS95 w0 w g s0_0 s0_1 s0_2) (hB : Below w0.heap.size w0 w) (h : spec_l00Src_one.f s0_0 s0_1 s0_2 a1 = some (r1, r2, r3)) :
  Calls Try.prog 81 #[.pointer (some ⟨g, 0, none⟩), .int .i64 a1] w fun e w' => e = .returned (.bool r1) ∧ IsS95 w0 w' g s0_0 r2 r3 ∧ Below w0.heap.size w0 w' ∧ KeepBut w w' g none := by
 have HI0 := Aside0.mk hI
 have HK := Aside0.mk (KeepBut.refl w g none)
 have HL := Aside0.mk hB.size
 clear hI
 have HW0 := Aside0.mk hB.size
 have HB := Aside0.mk hB
 clear hB
 have H : ((spec_l00Src_pick.f s0_0 s0_1 s0_2 a1).bind fun bt101 => (some ((bt101.1 == 0), bt101.2.1, bt101.2.2))) = some (r1, r2, r3) := h
 clear h
 replace H := Option.bind_eq_some_iff.mp H
 obtain ⟨⟨t101, t102, t103⟩, A30, H⟩ := H
 replace H : (some ((t101 == 0), t102, t103)) = some (r1, r2, r3) := H
 have A3 := Aside0.mk A30
 clear A30
 simp only [Option.some.injEq, Prod.mk.injEq] at H
 obtain ⟨rfl, rfl, rfl⟩ := H
 go_enter Try.func81, Try.ntmps81
 go_wp2_with (first | ((with_reducible refine gate_callee (f := 83) rfl ?_); refine goesL_ (some 7) rfl rfl Try.func83 (by kernel_rfl) rfl #[.pointer (some ⟨g, 0, none⟩), .int .i64 a1] rfl (by (try simp only [List.map_toArray, List.map_cons, List.map_nil]); first | done | rfl | (simp only [List.length_drop, List.length_take]; rfl)) ?_; (with_reducible refine (spec_l00Src_pick.calls g s0_0 s0_1 s0_2 a1 t101 t102 t103 w0 _ ?side1 ?side2 A3.out).mono ?_); (case side1 => exact Z81.z1); (case side2 => exact Z81.z0); rintro e w4 ⟨rfl, hi, hb, hk⟩; refine ⟨_, rfl, ?_⟩; replace HK := Aside0.mk (KeepBut.trans Z81.z2 hk (.inl rfl)); replace HB := Aside0.mk (hb); replace HI0 := Aside0.mk (hi); (try clear hb); (try clear hb2); (try clear hk); (try clear hi)))
 go_ret
 exact ⟨(by first | rfl | (simp [errW_none, errW_some] <;> rfl) | (simp [*, errW_none, errW_some] <;> rfl)), Z81.z1, Z81.z0, Z81.z2⟩
/-! ### spec_l00Src_among: function 111 -/
def spec_l00Src_among.f (s0_0 : List Int) (s0_1 : Int) (s0_2 : Int) (l1 : List Int) : Option (Int × Int × Int) := (spec_l00Src_pick.f s0_0 s0_1 s0_2 (l1.length : Int)).bind fun bt101 => (if 0 ≤ bt101.1 then (if bt101.1 < (l1.length : Int) then (some (rd l1 bt101.1, bt101.2.1, bt101.2.2)) else (none)) else (none))
theorem Z111.z2 {P : Prop} (h : P := by repeat (first | (with_reducible first | exact HK.out | apply KeepBut.set_ | apply keep_drewN | apply keep_drew | apply keep_alloc) | exact HK.out)) : P := h
theorem Z111.z1 {P : Prop} (h : P := by repeat (first | (with_reducible first | exact HI0.out | apply IsS95.alloc | apply IsS95.drewN | apply IsS95.drew | apply IsS95.set_1 | apply IsS95.set_2) | exact HI0.out)) : P := h
theorem Z111.z0 {P : Prop} (h : P := by repeat (first | (with_reducible first | exact HB.out | apply below_alloc | apply pw_below_drewN | apply below_drew1 | refine below_set ?_ (IsS95.ge HI0.out)) | exact HB.out)) : P := h
set_option maxHeartbeats 8000000 in
set_option maxRecDepth 100000 in
theorem spec_l00Src_among.calls (g : Nat) (s0_0 : List Int) (s0_1 : Int) (s0_2 : Int) (A1 : Option Addr) (c1 : Nat) (l1 : List Int) (r1 : Int) (r2 : Int) (r3 : Int) (w0 w : World) (hI : IsS95 w0 w g s0_0 s0_1 s0_2) (hB : Below w0.heap.size w0 w) (hr1 : Kd.C (Kd.int .i64) w A1 l1.length l1) (hc1 : l1.length ≤ c1) (hf1 : ∀ ad, A1 = some ad → 0 < l1.length → ad.block ≠ g) (h : spec_l00Src_among.f s0_0 s0_1 s0_2 l1 = some (r1, r2, r3)) :
  Calls Try.prog 111 #[.pointer (some ⟨g, 0, none⟩), .slice A1 l1.length c1] w fun e w' => e = .returned (.int .i64 r1) ∧ IsS95 w0 w' g s0_0 r2 r3 ∧ Below w0.heap.size w0 w' ∧ KeepBut w w' g none := by
 have HR1 := Aside0.mk hr1
 have HC1 := Aside0.mk hc1
 clear hr1 hc1
 have HI0 := Aside0.mk hI
 have HK := Aside0.mk (KeepBut.refl w g none)
 have HL := Aside0.mk hB.size
 clear hI
 have HW0 := Aside0.mk hB.size
 have HB := Aside0.mk hB
 clear hB
 have H : ((spec_l00Src_pick.f s0_0 s0_1 s0_2 (l1.length : Int)).bind fun bt101 => (if 0 ≤ bt101.1 then (if bt101.1 < (l1.length : Int) then (some (rd l1 bt101.1, bt101.2.1, bt101.2.2)) else (none)) else (none))) = some (r1, r2, r3) := h
 clear h
 replace H := Option.bind_eq_some_iff.mp H
 obtain ⟨⟨t101, t102, t103⟩, A30, H⟩ := H
 replace H : (if 0 ≤ t101 then (if t101 < (l1.length : Int) then (some (rd l1 t101, t102, t103)) else (none)) else (none)) = some (r1, r2, r3) := H
 have A3 := Aside0.mk A30
 clear A30
 by_cases c4 : 0 ≤ t101
 ·rw [if_pos c4] at H
  have c4b0 : decide (0 ≤ t101) = true := decide_eq_true c4
  clear c4
  by_cases c5 : t101 < (l1.length : Int)
  ·rw [if_pos c5] at H
   have c5b0 : decide (t101 < (l1.length : Int)) = true := decide_eq_true c5
   clear c5
   simp only [Option.some.injEq, Prod.mk.injEq] at H
   obtain ⟨rfl, rfl, rfl⟩ := H
   go_enter Try.func111, Try.ntmps111
   go_wp2_with (first | ((with_reducible refine gate_callee (f := 83) rfl ?_); refine goesL_ (some 9) rfl rfl Try.func83 (by kernel_rfl) rfl #[.pointer (some ⟨g, 0, none⟩), .int .i64 (l1.length : Int)] rfl (by (try simp only [List.map_toArray, List.map_cons, List.map_nil]); first | done | rfl | (simp only [List.length_drop, List.length_take]; rfl)) ?_; (with_reducible refine (spec_l00Src_pick.calls g s0_0 s0_1 s0_2 (l1.length : Int) t101 t102 t103 w0 _ ?side1 ?side2 A3.out).mono ?_); (case side1 => exact Z111.z1); (case side2 => exact Z111.z0); rintro e w6 ⟨rfl, hi, hb, hk⟩; refine ⟨_, rfl, ?_⟩; replace HK := Aside0.mk (KeepBut.trans Z111.z2 hk (.inl rfl)); replace HB := Aside0.mk (hb); replace HI0 := Aside0.mk (hi); (try clear hb); (try clear hb2); (try clear hk); (try clear hi); have p104 : 0 ≤ (t101 : Int) := of_decide_eq_true (by first | (with_reducible assumption) | assumption); have q104 : t101 < (l1.length : Int) := of_decide_eq_true (by first | (with_reducible assumption) | assumption); obtain ⟨ad104, e104, hx104_0⟩ := Kd.at_int HR1.out t101 p104 q104; cases e104; replace hx104_0 := keep_cell HK.out hx104_0 (by first | (rw [add_block]; exact hf1 _ rfl (by omega)) | exact hf1 _ rfl (by omega) | exact hf1 ad104 rfl (by omega)); replace p104 := eq_true p104; replace q104 := eq_true q104))
   go_ret
   exact ⟨(by first | rfl | (simp [errW_none, errW_some] <;> rfl) | (simp [*, errW_none, errW_some] <;> rfl)), Z111.z1, Z111.z0, Z111.z2⟩
  rw [if_neg c5] at H
  exact absurd H (by simp)
 rw [if_neg c4] at H
 exact absurd H (by simp)
/-! ### spec_l03DrawPrime: function 122 -/
def spec_l03DrawPrime.f (s0_0 : List Int) (s0_1 : Int) (s0_2 : Int) : Option (Int × Int × Int) := (spec_l00Src_among.f s0_0 s0_1 s0_2 (([2, 2, 3, 5, 7, 31, 251] : List Int))).bind fun bt104 => (some (bt104.1, bt104.2.1, bt104.2.2))
theorem Z122.z2 {P : Prop} (h : P := by repeat (first | (with_reducible first | exact HI0.out | apply IsS95.alloc | apply IsS95.drewN | apply IsS95.drew | apply IsS95.set_1 | apply IsS95.set_2) | exact HI0.out)) : P := h
theorem Z122.z1 {P : Prop} (h : P := by repeat (first | (with_reducible first | exact HB.out | apply below_alloc | apply pw_below_drewN | apply below_drew1 | refine below_set ?_ (IsS95.ge HI0.out)) | exact HB.out)) : P := h
theorem Z122.z0 {P : Prop} (h : P := by repeat (first | (with_reducible first | exact HK.out | apply KeepBut.set_ | apply keep_drewN | apply keep_drew | apply keep_alloc) | exact HK.out)) : P := h
set_option maxHeartbeats 8000000 in
set_option maxRecDepth 100000 in
theorem spec_l03DrawPrime.calls (g : Nat) (s0_0 : List Int) (s0_1 : Int) (s0_2 : Int) (r1 : Int) (r2 : Int) (r3 : Int) (w0 w : World) (hI : IsS95 w0 w g s0_0 s0_1 s0_2) (hB : Below w0.heap.size w0 w) (h : spec_l03DrawPrime.f s0_0 s0_1 s0_2 = some (r1, r2, r3)) :
  Calls Try.prog 122 #[.pointer (some ⟨g, 0, none⟩)] w fun e w' => e = .returned (.int .i64 r1) ∧ IsS95 w0 w' g s0_0 r2 r3 ∧ Below w0.heap.size w0 w' ∧ KeepBut w w' g none := by
 have HI0 := Aside0.mk hI
 have HK := Aside0.mk (KeepBut.refl w g none)
 have HL := Aside0.mk hB.size
 clear hI
 have HW0 := Aside0.mk hB.size
 have HB := Aside0.mk hB
 clear hB
 have H : ((spec_l00Src_among.f s0_0 s0_1 s0_2 (([2, 2, 3, 5, 7, 31, 251] : List Int))).bind fun bt104 => (some (bt104.1, bt104.2.1, bt104.2.2))) = some (r1, r2, r3) := h
 clear h
 obtain ⟨y101, hy101⟩ : ∃ y_ : List Int, y_ = (([2, 2, 3, 5, 7, 31, 251] : List Int)) := ⟨_, rfl⟩
 replace H : ((spec_l00Src_among.f s0_0 s0_1 s0_2 y101).bind fun bt104 => (some (bt104.1, bt104.2.1, bt104.2.2))) = some (r1, r2, r3) := by first | (rw [hy101]; with_reducible exact H) | (have H2_ := (Option.bind_some _ _).symm.trans H; rw [hy101]; with_reducible exact H2_) | (have H2_ := (Option.bind_some _ _).symm.trans H; with_reducible exact H2_) | with_reducible exact H | (rw [hy101]; exact H) | exact H
 have Ny101 := Aside0.mk hy101
 clear hy101
 replace H := Option.bind_eq_some_iff.mp H
 obtain ⟨⟨t104, t105, t106⟩, A20, H⟩ := H
 replace H : (some (t104, t105, t106)) = some (r1, r2, r3) := H
 have A2 := Aside0.mk A20
 clear A20
 simp only [Option.some.injEq, Prod.mk.injEq] at H
 obtain ⟨rfl, rfl, rfl⟩ := H
 go_enter Try.func122, Try.ntmps122
 go_wp2_with (first | ((with_reducible refine gate_dst (N := 4) rfl ?_); refine Kd.R_lit (Kd.int .i64) _ 2 ?hg (N := 4) ?hd (xs := ([2, 2, 3, 5, 7, 31, 251] : List Int)) (inner := [.int .i64 2, .int .i64 2, .int .i64 3, .int .i64 5, .int .i64 7, .int .i64 31, .int .i64 251]) (ok := fun _ => True) (okp := fun _ => True) ?hr ?hp (fun _ hk => hk) trivial (Below.refl _ _) (Nat.le_refl _) (by simp) ?_; (case hd => rfl); (case hg => rfl); (case hr => first | (go_simp; done) | (go_simp; rfl)); (case hp => exact (Reps.one (show Kd.M (Kd.int .i64) _ _ _ 2 [.int .i64 2] from rfl) (Reps.one (show Kd.M (Kd.int .i64) _ _ _ 2 [.int .i64 2] from rfl) (Reps.one (show Kd.M (Kd.int .i64) _ _ _ 3 [.int .i64 3] from rfl) (Reps.one (show Kd.M (Kd.int .i64) _ _ _ 5 [.int .i64 5] from rfl) (Reps.one (show Kd.M (Kd.int .i64) _ _ _ 7 [.int .i64 7] from rfl) (Reps.one (show Kd.M (Kd.int .i64) _ _ _ 31 [.int .i64 31] from rfl) (Reps.one (show Kd.M (Kd.int .i64) _ _ _ 251 [.int .i64 251] from rfl) (Reps.none _ _))))))))); intro v102 w3 ho4 hb hg_ hnew_; clear hg_ hnew_; (first | rw [← Ny101.out] at ho4 | (simp only [Int.reduceToNat] at ho4; rw [← Ny101.out] at ho4)); have HO103 := Aside0.mk (Kd.R_lower ho4 (keep_size (w := w) (g := g) (row := none) Z122.z0)); replace HK := Aside0.mk (KeepBut.trans Z122.z0 (KeepBut.of_below hb g none) (.inl rfl)); replace HB := Aside0.mk (below_step Z122.z1 hb); replace HI0 := Aside0.mk (IsS95.below Z122.z2 hb); clear hb ho4; obtain ⟨Ao5, co5, eo5⟩ := Kd.R_slice HO103.out; subst eo5) | ((with_reducible refine gate_callee (f := 111) rfl ?_); refine goesL_ (some 5) rfl rfl Try.func111 (by kernel_rfl) rfl #[.pointer (some ⟨g, 0, none⟩), .slice Ao5 y101.length co5] rfl (by (try simp only [List.map_toArray, List.map_cons, List.map_nil]); first | done | rfl | (simp only [List.length_drop, List.length_take]; rfl)) ?_; (with_reducible refine (spec_l00Src_among.calls g s0_0 s0_1 s0_2 _ _ y101 t104 t105 t106 w0 _ ?side1 ?side2 ?side3 ?side4 ?side5 A2.out).mono ?_); (case side1 => exact Z122.z2); (case side2 => exact Z122.z1); (case side3 => exact (by repeat (first | exact (Kd.R_reads' HO103.out).2.2 | (with_reducible refine Kd.C_alloc ?_ _) | (with_reducible refine Kd.C_drewN ?_ _) | (with_reducible refine Kd.C_drew ?_)))); (case side4 => exact (Kd.R_reads' HO103.out).2.1); (case side5 => exact far_slice (IsS95.own_ne HI0.out HO103.out (by decide))); rintro e w6 ⟨rfl, hi, hb, hk⟩; refine ⟨_, rfl, ?_⟩; replace HO103 := Aside0.mk (Kd.R_mono (Kd.R_keep (IsS95.apart (show IsS95 w0 _ g s0_0 s0_1 s0_2 from by repeat (first | (with_reducible first | exact HI0.out | apply IsS95.alloc | apply IsS95.drewN | apply IsS95.drew | apply IsS95.set_1 | apply IsS95.set_2) | exact HI0.out)) (by (with_reducible repeat (first | apply Kd.R_alloc | apply Kd.R_drewN | apply Kd.R_drew)); exact HO103.out) (by decide)) hk (fun _ h => h.2)) (fun _ h => h.1)); replace HK := Aside0.mk (KeepBut.trans Z122.z0 hk (.inl rfl)); replace HB := Aside0.mk (hb); replace HI0 := Aside0.mk (hi); (try clear hb); (try clear hb2); (try clear hk); (try clear hi)))
 go_ret
 exact ⟨(by first | rfl | (simp [errW_none, errW_some] <;> rfl) | (simp [*, errW_none, errW_some] <;> rfl)), Z122.z2, Z122.z1, Z122.z0⟩
/-! ### spec_l03Zero: function 85 -/
def spec_l03Zero.f (a0 : Int) (a1 : Int) (a2 : Int) : Option (Int × Int × Int × List Int) := if 0 ≤ (wrap64 (a1 * a2)) then (if (wrap64 (a1 * a2) : Int).toNat ≤ 35184372088832 then (some (a0, a1, a2, (List.replicate (wrap64 (a1 * a2) : Int).toNat 0))) else (none)) else (none)
theorem Z85.bb {w0 w w1 : World} {g : Nat} {o : Obj} (_B : Aside0 (w0.heap[g]? = some o)) (h : w.heap[g]? = some o) (hb : Below w.heap.size w w1) : w1.heap[g]? = some o := blk_below h hb
theorem Z85.bl {w0 w : World} {g : Nat} {o : Obj} (_B : Aside0 (w0.heap[g]? = some o)) (h : w.heap[g]? = some o) : g < w.heap.size := blk_lt h
theorem Z85.z1 {P : Prop} (h : P := by repeat (first | (with_reducible first | exact HB.out | apply below_alloc | apply pw_below_drewN | apply below_drew1) | exact HB.out)) : P := h
theorem Z85.z0 {P : Prop} (h : P := by repeat (first | (with_reducible first | exact HB.out | apply below_alloc | apply pw_below_drewN | apply below_drew1 | refine below_set ?_ GE101.out) | exact HB.out)) : P := h
set_option maxHeartbeats 8000000 in
set_option maxRecDepth 100000 in
theorem spec_l03Zero.calls (a0 : Int) (a1 : Int) (a2 : Int) (r1 : Int) (r2 : Int) (r3 : Int) (r4 : List Int) (w : World) (h : spec_l03Zero.f a0 a1 a2 = some (r1, r2, r3, r4)) :
  Calls Try.prog 85 #[.int .i64 a0, .int .i64 a1, .int .i64 a2] w fun e w' => ∃ v3_ : Value, e = .returned (.agg #[.int .i64 r1, .int .i64 r2, .int .i64 r3, v3_]) ∧ Kd.R (Kd.int .i64) 2 w' w.heap.size (fun _ => True) v3_ r4 ∧ Below w.heap.size w w' := by
 have hu28 := Try.underlying28
 have HB := Aside0.mk (Below.refl w.heap.size w)
 have H : (if 0 ≤ (wrap64 (a1 * a2)) then (if (wrap64 (a1 * a2) : Int).toNat ≤ 35184372088832 then (some (a0, a1, a2, (List.replicate (wrap64 (a1 * a2) : Int).toNat 0))) else (none)) else (none)) = some (r1, r2, r3, r4) := h
 clear h
 obtain ⟨ji4, hji4⟩ : ∃ j_ : Int, (wrap64 (a1 * a2)) = j_ := ⟨_, rfl⟩
 replace H : (if 0 ≤ (ji4) then (if (ji4 : Int).toNat ≤ 35184372088832 then (some (a0, a1, a2, (List.replicate (ji4 : Int).toNat 0))) else (none)) else (none)) = some (r1, r2, r3, r4) := by first | (rw [hji4] at H; exact H) | (simp only [hji4] at H ⊢; exact H)
 have hji4w : (IntKind.i64.wrap (a1 * a2)) = ji4 := (i64_w _).trans hji4
 by_cases c5 : 0 ≤ (ji4)
 ·rw [if_pos c5] at H
  have c5b0 := eq_true c5
  have c5b1 : decide (0 ≤ (ji4)) = true := decide_eq_true c5
  clear c5
  by_cases c6 : (ji4 : Int).toNat ≤ 35184372088832
  ·rw [if_pos c6] at H
   have c6b0 := eq_true c6
   have c6b1 : decide ((ji4 : Int).toNat ≤ 35184372088832) = true := decide_eq_true c6
   clear c6
   obtain ⟨y102, hy102⟩ : ∃ y_ : List Int, y_ = (List.replicate (ji4 : Int).toNat 0) := ⟨_, rfl⟩
   replace H : (some (a0, a1, a2, y102)) = some (r1, r2, r3, r4) := by first | (rw [hy102]; with_reducible exact H) | (have H2_ := (Option.bind_some _ _).symm.trans H; rw [hy102]; with_reducible exact H2_) | (have H2_ := (Option.bind_some _ _).symm.trans H; with_reducible exact H2_) | with_reducible exact H | (rw [hy102]; exact H) | exact H
   have Ny102 := Aside0.mk hy102
   clear hy102
   simp only [Option.some.injEq, Prod.mk.injEq] at H
   obtain ⟨rfl, rfl, rfl, rfl⟩ := H
   go_enter Try.func85, Try.ntmps85
   go_wp2_with (first | ((with_reducible refine gate_dst (N := 6) rfl ?_); refine box_event ?hg (N := 6) ?hd (cs := #[.int .i64 0, .int .i64 0, .int .i64 0, .slice none 0 0]) (t := 28) ?hr ?_; (case hd => rfl); (case hg => rfl); (case hr => first | (go_simp; done) | (go_simp; rfl)); intro gb101 hg w7 hbox hb; have BK101 := Aside0.mk (hbox); have GW101 := Aside0.mk (show w.heap.size ≤ gb101 from (by rw [hg]; exact (below_size Z85.z1))); have GE101 := Aside0.mk (show w.heap.size ≤ gb101 from (by rw [hg]; exact (below_size Z85.z1))); replace HB := Aside0.mk (below_step Z85.z1 hb); clear hb hbox hg) | ((with_reducible refine gate_dst (N := 13) rfl ?_); refine Kd.R_make (Kd.int .i64) _ 2 rfl (N := 13) rfl 22 _ _ rfl ji4 rfl rfl Try.underlying22 (.int .i64 0) 8 info2 rfl (by decide) (by omega) 0 (ok := fun _ => True) (okp := fun _ => True) rfl (fun _ hk => hk) trivial (of_decide_eq_true (by first | (with_reducible assumption) | assumption)) (Nat.le_trans (Nat.mul_le_mul_right _ (of_decide_eq_true (by first | (with_reducible assumption) | assumption) : ji4.toNat ≤ 35184372088832)) (by omega)) (Below.refl _ _) (Nat.le_refl _) ?_; intro v103 w8 ho9 hb hg_ hnew_; clear hg_ hnew_; (first | rw [← Ny102.out] at ho9 | (simp only [Int.reduceToNat] at ho9; rw [← Ny102.out] at ho9)); have HO104 := Aside0.mk (Kd.R_lower ho9 (below_size Z85.z0)); replace BK101 := Aside0.mk (Z85.bb BK101 (by (with_reducible repeat (first | refine blk_drewN ?_ _ | refine blk_drew ?_ | refine blk_alloc ?_ _)); exact BK101.out) hb); replace HB := Aside0.mk (below_step Z85.z0 hb); clear hb ho9; obtain ⟨Ao10, co10, eo10⟩ := Kd.R_slice HO104.out; subst eo10; obtain ⟨hcz11_0, hcz11_1, hcz11_2, hcz11_3, hfz11_0, hfz11_1, hfz11_2, hfz11_3⟩ := cells4 BK101.out))
   refine bodyPost_ret (results_cell_row rfl _ _ gb101 28 #[.int .i64 a0, .int .i64 a1, .int .i64 a2, .slice Ao10 y102.length co10] (0, 0) _ rfl (by (with_reducible repeat (first | refine blk_drewN ?_ _ | refine blk_drew ?_ | refine blk_alloc ?_ _)); refine blk_put (cs := #[.int .i64 a0, .int .i64 a1, .int .i64 a2, .slice none 0 0]) ?_ 3 _ rfl; (with_reducible repeat (first | refine blk_drewN ?_ _ | refine blk_drew ?_ | refine blk_alloc ?_ _)); refine blk_put (cs := #[.int .i64 a0, .int .i64 a1, .int .i64 0, .slice none 0 0]) ?_ 2 _ rfl; (with_reducible repeat (first | refine blk_drewN ?_ _ | refine blk_drew ?_ | refine blk_alloc ?_ _)); refine blk_put (cs := #[.int .i64 a0, .int .i64 0, .int .i64 0, .slice none 0 0]) ?_ 1 _ rfl; (with_reducible repeat (first | refine blk_drewN ?_ _ | refine blk_drew ?_ | refine blk_alloc ?_ _)); refine blk_put (cs := #[.int .i64 0, .int .i64 0, .int .i64 0, .slice none 0 0]) ?_ 0 _ rfl; (with_reducible repeat (first | refine blk_drewN ?_ _ | refine blk_drew ?_ | refine blk_alloc ?_ _)); exact BK101.out) Try.underlying28 rfl (by kernel_rfl)) rfl ?_
   exact ⟨_, (by first | rfl | (simp [errW_none, errW_some] <;> rfl) | (simp only [← hji4]; first | rfl | (simp [errW_none, errW_some] <;> rfl)) | (simp [*, errW_none, errW_some] <;> rfl)), (by (with_reducible repeat (first | apply Kd.R_alloc | apply Kd.R_drewN | apply Kd.R_drew)); exact Kd.R_mono (Kd.R_far (p := ⟨gb101, 3, none⟩) (Kd.R_far (p := ⟨gb101, 2, none⟩) (Kd.R_far (p := ⟨gb101, 1, none⟩) (Kd.R_far (p := ⟨gb101, 0, none⟩) (Kd.R_types HO104.out BK101.out (by decide)) (fun _ hk => hk.2) (.int .i64 a0)) (fun _ hk => hk.2) (.int .i64 a1)) (fun _ hk => hk.2) (.int .i64 a2)) (fun _ hk => hk.2) (.slice Ao10 y102.length co10)) (fun _ hk => trivial)), Z85.z0⟩
  rw [if_neg c6] at H
  exact absurd H (by simp)
 rw [if_neg c5] at H
 exact absurd H (by simp)
/-! ### spec_l03Fill: function 123 -/
mutual
def spec_l03Fill.l0 : Nat → Int → Int → Int → Int → List Int → Int → Int → Int → Int → Int → List Int → Option (Int × Int × Int × List Int × Int × Int)
  | 0, _, _, _, _, _, _, _, _, _, _, _ => none
  | k + 1, x1, x2, x3, x10, x1000, x1001, x1002, x109000, x109001, x109002, x109003 => if x10 < (x109003.length : Int) then ((spec_l00Src_pick.f x1000 x1001 x1002 3).bind fun bt109 => (if bt109.1 > 0 then ((spec_l00Src_pick.f x1000 bt109.2.1 bt109.2.2 x1).bind fun bt112 => (if 0 ≤ x10 then (spec_l03Fill.l0 k x1 x2 x3 (wrap64 (x10 + 1)) x1000 bt112.2.1 bt112.2.2 x109000 x109001 x109002 (x109003.set (x10 : Int).toNat bt112.1)) else (none))) else (spec_l03Fill.l0 k x1 x2 x3 (wrap64 (x10 + 1)) x1000 bt109.2.1 bt109.2.2 x109000 x109001 x109002 x109003))) else (if x2 > 1 then ((spec_l00Src_one.f x1000 x1001 x1002 3).bind fun bt116 => (spec_l03Fill.j1 k x1 x2 x3 bt116.1 x1000 bt116.2.1 bt116.2.2 x109000 x109001 x109002 x109003)) else (spec_l03Fill.j1 k x1 x2 x3 false x1000 x1001 x1002 x109000 x109001 x109002 x109003))
def spec_l03Fill.j1 : Nat → Int → Int → Int → Bool → List Int → Int → Int → Int → Int → Int → List Int → Option (Int × Int × Int × List Int × Int × Int)
  | 0, _, _, _, _, _, _, _, _, _, _, _ => none
  | k + 1, x1, x2, x3, x38, x1000, x1001, x1002, x109000, x109001, x109002, x109003 => if x38 = true then (spec_l03Fill.l1 k x1 x2 x3 0 x1000 x1001 x1002 x109000 x109001 x109002 x109003) else (some (x109000, x109001, x109002, x109003, x1001, x1002))
def spec_l03Fill.l1 : Nat → Int → Int → Int → Int → List Int → Int → Int → Int → Int → Int → List Int → Option (Int × Int × Int × List Int × Int × Int)
  | 0, _, _, _, _, _, _, _, _, _, _, _ => none
  | k + 1, x1, x2, x3, x11, x1000, x1001, x1002, x109000, x109001, x109002, x109003 => if x11 < x3 then (if 0 ≤ x11 then (if x11 < (x109003.length : Int) then (if x1 = 0 then (none) else (if 0 ≤ (wrap64 ((wrap64 ((wrap64 (x2 - 1)) * x3)) + x11)) then (if (wrap64 ((wrap64 ((wrap64 (x2 - 1)) * x3)) + x11)) < (x109003.length : Int) then (spec_l03Fill.l1 k x1 x2 x3 (wrap64 (x11 + 1)) x1000 x1001 x1002 x109000 x109001 x109002 (x109003.set ((wrap64 ((wrap64 ((wrap64 (x2 - 1)) * x3)) + x11)) : Int).toNat (Int.tmod (wrap64 ((rd x109003 x11) * 2)) x1))) else (none)) else (none))) else (none)) else (none)) else (some (x109000, x109001, x109002, x109003, x1001, x1002))
end
def spec_l03Fill.f (k : Nat) (s0_0 : List Int) (s0_1 : Int) (s0_2 : Int) (a1 : Int) (a2 : Int) (a3 : Int) : Option (Int × Int × Int × List Int × Int × Int) := (spec_l03Zero.f a1 a2 a3).bind fun bt102 => (spec_l03Fill.l0 k a1 a2 a3 0 s0_0 s0_1 s0_2 bt102.1 bt102.2.1 bt102.2.2.1 bt102.2.2.2)
def spec_l03Fill.T6 : Bool × List (List Nat × List Nat) := (true, [([], []), ([0], [0]), ([], []), ([], []), ([], []), ([3, 4], [3, 4]), ([1, 2, 0, 1, 2, 3, 4, 5], [1, 2]), ([6, 5, 5, 0, 1, 2, 3, 4, 5], [5, 6])])
def spec_l03Fill.B6 : List Nat := [0, 1, 0, 0, 0, 24, 63, 127]
theorem spec_l03Fill.tab6 : rtab .any (opsOf Try.f123 6) = spec_l03Fill.T6 := by kernel_rfl
theorem spec_l03Fill.bits6 : waitsOk spec_l03Fill.T6.2 spec_l03Fill.B6 = true := by kernel_rfl
def spec_l03Fill.T11 : Bool × List (List Nat × List Nat) := (true, [([], []), ([0], [0]), ([], []), ([2], [2]), ([], []), ([3, 4], [3, 4]), ([], []), ([5, 6], [5, 6]), ([], []), ([8], [8]), ([], []), ([9, 10], [9, 10]), ([11], [11]), ([12], [12]), ([], []), ([13, 14], [13, 14]), ([1, 7, 0, 1, 2, 3, 4, 5, 6, 7, 8, 9, 10, 11, 12, 13, 14, 15], [1, 7]), ([16, 15, 0, 1, 2, 3, 4, 5, 6, 7, 8, 9, 10, 11, 12, 13, 14, 15], [15, 16])])
def spec_l03Fill.B11 : List Nat := [0, 1, 0, 4, 0, 28, 0, 124, 0, 256, 0, 1792, 3840, 7936, 0, 32512, 65535, 131071]
theorem spec_l03Fill.tab11 : rtab .any (opsOf Try.f123 11) = spec_l03Fill.T11 := by kernel_rfl
theorem spec_l03Fill.bits11 : waitsOk spec_l03Fill.T11.2 spec_l03Fill.B11 = true := by kernel_rfl
def Z123.b (n x : Nat) : Array Bool := ((List.range n).map (fun i => x.testBit i)).toArray
theorem Z123.pP {P : Program} {ops : Array Oper} {Q : Exit → Act → World → Prop} {md : Region.Mode} {S : World → Prop} {ds : List Nat} (i N : Nat) {oi : Oper} {v : Value} {fuel : Nat} {l : Array Bool} {a : Act} {w : World} (l' : Array Bool) (hc : anyB md ops l l' i = true) {a' : Act} (h : wpAnyLast P md ops Q S ds fuel l' a' w) (hi : ops[i]? = some oi := by rfl) (hN : oi.dst = some N := by rfl) (hQ : ∀ c a w, Q (.panic c) (a.put oi.dst v) w → Q (.panic c) a w := by exact fun _ _ _ h => h) (hy : Yields P ops oi v a := by exact Or.inl ⟨(by rfl), by intro w'; go_simp; with_reducible rfl⟩) (ha : a.put (some N) v = a' := by simp only [Act.put, List.setIfInBounds_toArray, List.set_cons_zero, List.set_cons_succ, i64_w, i32_w]; rfl) : wpAnyLast P md ops Q S ds (fuel + 1) l a w := pure_ l' hi hN hc hQ hy ha h
theorem Z123.pT4 {P : Program} {ops : Array Oper} {Q : Exit → Act → World → Prop} {md : Region.Mode} {S : World → Prop} {ds : List Nat} (i N : Nat) {oi : Oper} {v : Value} {fuel : Nat} {l : Array Bool} {a : Act} {w : World} (l' : Array Bool) (hc : takeB md ops ds l l' i = true) (hS : S w) {a' : Act} (h : wpAnyLast P md ops Q S ds fuel l' a' w) (hi : ops[i]? = some oi := by rfl) (hN : oi.dst = some N := by rfl) (hQ : ∀ c a w, Q (.panic c) (a.put oi.dst v) w → Q (.panic c) a w := by exact fun _ _ _ h => h) (hy : YieldsIf P ops S oi v a := by exact Or.inl ⟨(by rfl), by rintro w' ⟨s0, s1, s2, s3⟩; go_simp; with_reducible rfl⟩) (ha : a.put (some N) v = a' := by simp only [Act.put, List.setIfInBounds_toArray, List.set_cons_zero, List.set_cons_succ, i64_w, i32_w]; rfl) : wpAnyLast P md ops Q S ds (fuel + 1) l a w := take_ l' hi hN hc hQ hy hS ha h
theorem Z123.pT5 {P : Program} {ops : Array Oper} {Q : Exit → Act → World → Prop} {md : Region.Mode} {S : World → Prop} {ds : List Nat} (i N : Nat) {oi : Oper} {v : Value} {fuel : Nat} {l : Array Bool} {a : Act} {w : World} (l' : Array Bool) (hc : takeB md ops ds l l' i = true) (hS : S w) {a' : Act} (h : wpAnyLast P md ops Q S ds fuel l' a' w) (hi : ops[i]? = some oi := by rfl) (hN : oi.dst = some N := by rfl) (hQ : ∀ c a w, Q (.panic c) (a.put oi.dst v) w → Q (.panic c) a w := by exact fun _ _ _ h => h) (hy : YieldsIf P ops S oi v a := by exact Or.inl ⟨(by rfl), by rintro w' ⟨s0, s1, s2, s3, s4⟩; go_simp; with_reducible rfl⟩) (ha : a.put (some N) v = a' := by simp only [Act.put, List.setIfInBounds_toArray, List.set_cons_zero, List.set_cons_succ, i64_w, i32_w]; rfl) : wpAnyLast P md ops Q S ds (fuel + 1) l a w := take_ l' hi hN hc hQ hy hS ha h
theorem Z123.bb {w0 w w1 : World} {g : Nat} {o : Obj} (_B : Aside0 (w0.heap[g]? = some o)) (h : w.heap[g]? = some o) (hb : Below w.heap.size w w1) : w1.heap[g]? = some o := blk_below h hb
theorem Z123.bl {w0 w : World} {g : Nat} {o : Obj} (_B : Aside0 (w0.heap[g]? = some o)) (h : w.heap[g]? = some o) : g < w.heap.size := blk_lt h
theorem Z123.k {p : Prop} (h : p) : Aside0 p := ⟨h⟩
theorem Z123.z17 {P : Prop} (h : P := by exact ⟨(blk_cell BK108.out 0).trans rfl, (blk_cell BK108.out 1).trans rfl, (blk_cell BK108.out 2).trans rfl, (blk_cell BK108.out 3).trans rfl⟩) : P := h
theorem Z123.z16 {P : Prop} (h : P := by first | (with_reducible assumption) | assumption) : P := h
theorem Z123.z15 {P : Prop} (h : P := by first | rfl | (simp; done) | (simp [*]; done)) : P := h
theorem Z123.z14 {P : Prop} (h : P := by repeat (first | (with_reducible first | exact HB.out | apply below_alloc | apply pw_below_drewN | apply below_drew1 | refine below_set ?_ (IsS95.ge HI0.out) | refine below_set ?_ GE101.out) | exact HB.out)) : P := h
theorem Z123.z13 {P : Prop} (h : P := by repeat (first | (with_reducible first | exact HI0.out | apply IsS95.alloc | apply IsS95.drewN | apply IsS95.drew | apply IsS95.set_1 | apply IsS95.set_2 | refine IsS95.far ?_ NB0_101.out _) | exact HI0.out)) : P := h
theorem Z123.z12 {P : Prop} (h : P := by repeat (first | (with_reducible first | exact HK.out | apply KeepBut.set_ | apply keep_drewN | apply keep_drew | apply keep_alloc) | exact HK.out)) : P := h
theorem Z123.z11 {P : Prop} (h : P := by (with_reducible repeat (first | refine blk_drewN ?_ _ | refine blk_drew ?_ | refine blk_alloc ?_ _)); refine blk_far ?_ (by have h_ := Kd.R_ne HO_109003.out BK101.out (by decide); intro e_; exact h_ (by rw [e_]; rfl)) _; (with_reducible repeat (first | refine blk_drewN ?_ _ | refine blk_drew ?_ | refine blk_alloc ?_ _)); exact BK101.out) : P := h
theorem Z123.z10 {P : Prop} (h : P := by (with_reducible repeat (first | refine blk_drewN ?_ _ | refine blk_drew ?_ | refine blk_alloc ?_ _)); refine blk_far ?_ (by have h_ := Kd.R_ne HO_109003.out BK108.out (by decide); intro e_; exact h_ (by rw [e_]; rfl)) _; (with_reducible repeat (first | refine blk_drewN ?_ _ | refine blk_drew ?_ | refine blk_alloc ?_ _)); exact BK108.out) : P := h
theorem Z123.z9 {P : Prop} (h : P := by (try simp only [List.map_toArray, List.map_cons, List.map_nil]); first | done | rfl | (simp only [List.length_drop, List.length_take]; rfl)) : P := h
theorem Z123.z8 {P : Prop} (h : P := by repeat (first | (with_reducible first | exact HK.out | apply KeepBut.set_ | apply keep_drewN | apply keep_drew | apply keep_alloc | refine keep_far ?_ GW101.out _) | exact HK.out)) : P := h
theorem Z123.z7 {P : Prop} (h : P := by (with_reducible repeat (first | apply Kd.R_alloc | apply Kd.R_drewN | apply Kd.R_drew)); exact HO_109003.out) : P := h
theorem Z123.z6 {P : Prop} (h : P := by (with_reducible repeat (first | refine blk_drewN ?_ _ | refine blk_drew ?_ | refine blk_alloc ?_ _)); exact BK108.out) : P := h
theorem Z123.z5 {P : Prop} (h : P := by (with_reducible repeat (first | refine blk_drewN ?_ _ | refine blk_drew ?_ | refine blk_alloc ?_ _)); refine blk_put (cs := #[.int .i64 t102, .int .i64 t103, .int .i64 t104, .slice none 0 0]) ?_ 3 _ rfl; (with_reducible repeat (first | refine blk_drewN ?_ _ | refine blk_drew ?_ | refine blk_alloc ?_ _)); refine blk_put (cs := #[.int .i64 t102, .int .i64 t103, .int .i64 0, .slice none 0 0]) ?_ 2 _ rfl; (with_reducible repeat (first | refine blk_drewN ?_ _ | refine blk_drew ?_ | refine blk_alloc ?_ _)); refine blk_put (cs := #[.int .i64 t102, .int .i64 0, .int .i64 0, .slice none 0 0]) ?_ 1 _ rfl; (with_reducible repeat (first | refine blk_drewN ?_ _ | refine blk_drew ?_ | refine blk_alloc ?_ _)); refine blk_put (cs := #[.int .i64 0, .int .i64 0, .int .i64 0, .slice none 0 0]) ?_ 0 _ rfl; (with_reducible repeat (first | refine blk_drewN ?_ _ | refine blk_drew ?_ | refine blk_alloc ?_ _)); exact BK101.out) : P := h
theorem Z123.z4 {P : Prop} (h : P := by (with_reducible repeat (first | refine blk_drewN ?_ _ | refine blk_drew ?_ | refine blk_alloc ?_ _)); exact BK101.out) : P := h
theorem Z123.z3 {P : Prop} (h : P := by repeat (first | (with_reducible first | exact HK.out | apply KeepBut.set_ | apply keep_drewN | apply keep_drew | apply keep_alloc | refine keep_far ?_ GW101.out _ | refine keep_far ?_ GW108.out _) | exact HK.out)) : P := h
theorem Z123.z2 {P : Prop} (h : P := by simp only [Act.put, List.setIfInBounds_toArray, List.set_cons_zero, List.set_cons_succ, i64_w, i32_w]; rfl) : P := h
theorem Z123.z1 {P : Prop} (h : P := by repeat (first | (with_reducible first | exact HB.out | apply below_alloc | apply pw_below_drewN | apply below_drew1 | refine below_set ?_ (IsS95.ge HI0.out) | refine below_set ?_ GE101.out | refine below_set ?_ GE108.out) | exact HB.out)) : P := h
theorem Z123.z0 {P : Prop} (h : P := by repeat (first | (with_reducible first | exact HI0.out | apply IsS95.alloc | apply IsS95.drewN | apply IsS95.drew | apply IsS95.set_1 | apply IsS95.set_2 | refine IsS95.far ?_ NB0_101.out _ | refine IsS95.far ?_ NB0_108.out _) | exact HI0.out)) : P := h
set_option maxHeartbeats 8000000 in
set_option maxRecDepth 100000 in
theorem spec_l03Fill.calls (k : Nat) (g : Nat) (s0_0 : List Int) (s0_1 : Int) (s0_2 : Int) (a1 : Int) (a2 : Int) (a3 : Int) (r1 : Int) (r2 : Int) (r3 : Int) (r4 : List Int) (r5 : Int) (r6 : Int) (w0 w : World) (hI : IsS95 w0 w g s0_0 s0_1 s0_2) (hB : Below w0.heap.size w0 w) (h : spec_l03Fill.f k s0_0 s0_1 s0_2 a1 a2 a3 = some (r1, r2, r3, r4, r5, r6)) :
  Calls Try.prog 123 #[.pointer (some ⟨g, 0, none⟩), .int .i64 a1, .int .i64 a2, .int .i64 a3] w fun e w' => ∃ v3_ : Value, e = .returned (.agg #[.int .i64 r1, .int .i64 r2, .int .i64 r3, v3_]) ∧ Kd.R (Kd.int .i64) 2 w' w.heap.size (fun _ => True) v3_ r4 ∧ IsS95 w0 w' g s0_0 r5 r6 ∧ Below w0.heap.size w0 w' ∧ KeepBut w w' g none := by
 have hu28 := Try.underlying28
 have HI0 := Z123.k hI
 have HK := Z123.k (KeepBut.refl w g none)
 have HL := Z123.k hB.size
 clear hI
 have HW0 := Z123.k hB.size
 have HB := Z123.k hB
 clear hB
 have H : ((spec_l03Zero.f a1 a2 a3).bind fun bt102 => (spec_l03Fill.l0 k a1 a2 a3 0 s0_0 s0_1 s0_2 bt102.1 bt102.2.1 bt102.2.2.1 bt102.2.2.2)) = some (r1, r2, r3, r4, r5, r6) := h
 clear h
 replace H := Option.bind_eq_some_iff.mp H
 obtain ⟨⟨t102, t103, t104, t105⟩, A50, H⟩ := H
 replace H : (spec_l03Fill.l0 k a1 a2 a3 0 s0_0 s0_1 s0_2 t102 t103 t104 t105) = some (r1, r2, r3, r4, r5, r6) := H
 have A5 := Z123.k A50
 clear A50
 have H' := Z123.k H
 clear H
 go_enter Try.func123, Try.ntmps123
 go_wp2_with (first | ((with_reducible refine gate_dst (N := 8) rfl ?_); refine box_event ?hg (N := 8) ?hd (cs := #[.int .i64 0, .int .i64 0, .int .i64 0, .slice none 0 0]) (t := 28) ?hr ?_; (case hd => rfl); (case hg => rfl); (case hr => first | (go_simp; done) | (go_simp; rfl)); intro gb101 hg w6 hbox hb; have BK101 := Z123.k (hbox); have GW101 := Z123.k (show w.heap.size ≤ gb101 from (by rw [hg]; exact (keep_size (w := w) (g := g) (row := none) Z123.z12))); have GE101 := Z123.k ((Nat.le_trans HW0.out (by rw [hg]; exact (keep_size (w := w) (g := g) (row := none) Z123.z12) : w.heap.size ≤ gb101) : w0.heap.size ≤ gb101)); have NB0_101 := Z123.k ((by rw [hg]; exact Nat.ne_of_lt (IsS95.lt (show IsS95 w0 _ g s0_0 s0_1 s0_2 from by repeat (first | (with_reducible first | exact HI0.out | apply IsS95.alloc | apply IsS95.drewN | apply IsS95.drew | apply IsS95.set_1 | apply IsS95.set_2) | exact HI0.out))) : g ≠ gb101)); have NB101_0 := Z123.k ((by rw [hg]; exact Nat.ne_of_gt (IsS95.lt (show IsS95 w0 _ g s0_0 s0_1 s0_2 from by repeat (first | (with_reducible first | exact HI0.out | apply IsS95.alloc | apply IsS95.drewN | apply IsS95.drew | apply IsS95.set_1 | apply IsS95.set_2) | exact HI0.out))) : gb101 ≠ g)); replace HK := Z123.k (KeepBut.trans Z123.z12 (KeepBut.of_below hb g none) (.inl rfl)); replace HB := Z123.k (below_step (by repeat (first | (with_reducible first | exact HB.out | apply below_alloc | apply pw_below_drewN | apply below_drew1 | refine below_set ?_ (IsS95.ge HI0.out)) | exact HB.out)) hb); replace HI0 := Z123.k (IsS95.below (by repeat (first | (with_reducible first | exact HI0.out | apply IsS95.alloc | apply IsS95.drewN | apply IsS95.drew | apply IsS95.set_1 | apply IsS95.set_2) | exact HI0.out)) hb); clear hb hbox hg) | ((with_reducible refine gate_callee (f := 85) rfl ?_); refine goesL_ (some 15) rfl rfl Try.func85 (by kernel_rfl) rfl #[.int .i64 a1, .int .i64 a2, .int .i64 a3] rfl Z123.z9 ?_; (with_reducible refine (spec_l03Zero.calls a1 a2 a3 t102 t103 t104 t105 _ A5.out).mono ?_); rintro e w7 ⟨v106, rfl, ho0, hb⟩; refine ⟨_, rfl, ?_⟩; have HO107 := Z123.k (Kd.R_lower ho0 (keep_size (w := w) (g := g) (row := none) Z123.z8)); replace BK101 := Z123.k (Z123.bb BK101 Z123.z4 hb); replace HK := Z123.k (KeepBut.trans Z123.z8 (KeepBut.of_below hb g none) (.inl rfl)); replace HB := Z123.k (below_step Z123.z14 hb); replace HI0 := Z123.k (IsS95.below Z123.z13 hb); (try clear hb); (try clear hb2); (try clear hk); (try clear hi); (try clear ho0)) | ((with_reducible refine gate_dst (N := 9) rfl ?_); refine box_event ?hg (N := 9) ?hd (cs := #[.int .i64 0, .int .i64 0, .int .i64 0, .slice none 0 0]) (t := 28) ?hr ?_; (case hd => rfl); (case hg => rfl); (case hr => first | (go_simp; done) | (go_simp; rfl)); intro gb108 hg w8 hbox hb; have BK108 := Z123.k (hbox); have GW108 := Z123.k (show w.heap.size ≤ gb108 from (by rw [hg]; exact (keep_size (w := w) (g := g) (row := none) Z123.z8))); have GE108 := Z123.k ((Nat.le_trans HW0.out (by rw [hg]; exact (keep_size (w := w) (g := g) (row := none) Z123.z8) : w.heap.size ≤ gb108) : w0.heap.size ≤ gb108)); have NB101_108 := Z123.k (show gb101 ≠ gb108 from (by rw [hg]; exact Nat.ne_of_lt (Z123.bl BK101 Z123.z4))); have NB108_101 := Z123.k (show gb108 ≠ gb101 from (by rw [hg]; exact Nat.ne_of_gt (Z123.bl BK101 Z123.z4))); have NB0_108 := Z123.k ((by rw [hg]; exact Nat.ne_of_lt (IsS95.lt (show IsS95 w0 _ g s0_0 s0_1 s0_2 from by repeat (first | (with_reducible first | exact HI0.out | apply IsS95.alloc | apply IsS95.drewN | apply IsS95.drew | apply IsS95.set_1 | apply IsS95.set_2 | refine IsS95.far ?_ NB0_101.out _) | exact HI0.out))) : g ≠ gb108)); have NB108_0 := Z123.k ((by rw [hg]; exact Nat.ne_of_gt (IsS95.lt (show IsS95 w0 _ g s0_0 s0_1 s0_2 from by repeat (first | (with_reducible first | exact HI0.out | apply IsS95.alloc | apply IsS95.drewN | apply IsS95.drew | apply IsS95.set_1 | apply IsS95.set_2 | refine IsS95.far ?_ NB0_101.out _) | exact HI0.out))) : gb108 ≠ g)); replace HO107 := Z123.k (Kd.R_below (by (with_reducible repeat (first | apply Kd.R_alloc | apply Kd.R_drewN | apply Kd.R_drew)); exact HO107.out) hb); replace BK101 := Z123.k (Z123.bb BK101 Z123.z4 hb); replace HK := Z123.k (KeepBut.trans Z123.z8 (KeepBut.of_below hb g none) (.inl rfl)); replace HB := Z123.k (below_step Z123.z14 hb); replace HI0 := Z123.k (IsS95.below Z123.z13 hb); clear hb hbox hg; have hnb9 := NB108_101.out; have hnc9 := NB101_108.out; have hnb10 := NB108_0.out; have hnc10 := NB0_108.out; obtain ⟨hcz11_0, hcz11_1, hcz11_2, hcz11_3, hfz11_0, hfz11_1, hfz11_2, hfz11_3⟩ := cells4 BK108.out; obtain ⟨Ao12, co12, eo12⟩ := Kd.R_slice HO107.out; subst eo12))
 go_loopg [10] k (fun kq v10 w' => ∃ (x10_1 : Int) (x1001_1 : Int) (x1002_1 : Int) (x109003_1 : List Int) (u109003 : Value), v10 = .int .i64 x10_1 ∧ Aside0 (spec_l03Fill.l0 kq a1 a2 a3 x10_1 s0_0 x1001_1 x1002_1 t102 t103 t104 x109003_1 = some (r1, r2, r3, r4, r5, r6)) ∧ Aside0 (kq ≤ k) ∧ Aside0 (Kd.R (Kd.int .i64) 2 w' w.heap.size (fun _ => True) u109003 x109003_1) ∧ Aside0 (w'.heap[gb101]? = some (.cells #[.int .i64 0, .int .i64 0, .int .i64 0, (.slice none 0 0)] 28 (0, 0))) ∧ Aside0 (w'.heap[gb108]? = some (.cells #[.int .i64 t102, .int .i64 t103, .int .i64 t104, u109003] 28 (0, 0))) ∧ Aside0 (IsS95 w0 w' g s0_0 x1001_1 x1002_1) ∧ Aside0 (KeepBut w w' g none) ∧ Aside0 (Below w0.heap.size w0 w'))
 case atStart => exact ⟨(0), (s0_1), (s0_2), (t105), (.slice Ao12 t105.length co12), Z123.z15, H', ⟨Nat.le_refl _⟩, ⟨(by (with_reducible repeat (first | apply Kd.R_alloc | apply Kd.R_drewN | apply Kd.R_drew)); exact Kd.R_mono (Kd.R_far (p := ⟨gb108, 3, none⟩) (Kd.R_far (p := ⟨gb108, 2, none⟩) (Kd.R_far (p := ⟨gb108, 1, none⟩) (Kd.R_far (p := ⟨gb108, 0, none⟩) (Kd.R_types HO107.out BK108.out (by decide)) (fun _ hk => hk.2) (.int .i64 t102)) (fun _ hk => hk.2) (.int .i64 t103)) (fun _ hk => hk.2) (.int .i64 t104)) (fun _ hk => hk.2) (.slice Ao12 t105.length co12)) (fun _ hk => trivial))⟩, ⟨(by (repeat (first | (with_reducible first | refine blk_drewN ?_ _ | refine blk_drew ?_ | refine blk_alloc ?_ _) | refine blk_far ?_ NB101_108.out _)); exact BK101.out)⟩, ⟨(by (with_reducible repeat (first | refine blk_drewN ?_ _ | refine blk_drew ?_ | refine blk_alloc ?_ _)); refine blk_put (cs := #[.int .i64 t102, .int .i64 t103, .int .i64 t104, .slice none 0 0]) ?_ 3 _ rfl; (with_reducible repeat (first | refine blk_drewN ?_ _ | refine blk_drew ?_ | refine blk_alloc ?_ _)); refine blk_put (cs := #[.int .i64 t102, .int .i64 t103, .int .i64 0, .slice none 0 0]) ?_ 2 _ rfl; (with_reducible repeat (first | refine blk_drewN ?_ _ | refine blk_drew ?_ | refine blk_alloc ?_ _)); refine blk_put (cs := #[.int .i64 t102, .int .i64 0, .int .i64 0, .slice none 0 0]) ?_ 1 _ rfl; (with_reducible repeat (first | refine blk_drewN ?_ _ | refine blk_drew ?_ | refine blk_alloc ?_ _)); refine blk_put (cs := #[.int .i64 0, .int .i64 0, .int .i64 0, .slice none 0 0]) ?_ 0 _ rfl; (with_reducible repeat (first | refine blk_drewN ?_ _ | refine blk_drew ?_ | refine blk_alloc ?_ _)); exact BK108.out)⟩, ⟨Z123.z0⟩, ⟨Z123.z3⟩, ⟨Z123.z1⟩⟩
 case round =>
  clear H'
  try clear c1
  try clear p2
  try clear c8
  try clear c9
  try clear c10
  try clear c12
  try clear hcz11_0
  try clear hcz11_1
  try clear hcz11_2
  try clear hcz11_3
  try clear hfz11_0
  try clear hfz11_1
  try clear hfz11_2
  try clear hfz11_3
  obtain ⟨x10_1, x1001_1, x1002_1, x109003_1, u109003, rfl, HA, HK1, HO_109003, BK101, BK108, HI0, HK, HB⟩ := hrel
  cases gk with
  | zero => exact absurd HA.out (by simp [spec_l03Fill.l0])
  | succ k1 =>
   have H := HA.out
   clear HA
   simp only [spec_l03Fill.l0] at H
   by_cases c13 : x10_1 < (x109003_1.length : Int)
   ·rw [if_pos c13] at H
    have c13b0 : decide (x10_1 < (x109003_1.length : Int)) = true := decide_eq_true c13
    clear c13
    replace H := Option.bind_eq_some_iff.mp H
    obtain ⟨⟨t109, t110, t111⟩, A140, H⟩ := H
    (try dsimp only at H)
    have A14 := Z123.k A140
    clear A140
    by_cases c15 : t109 > 0
    ·rw [if_pos c15] at H
     have c15b0 : decide (0 < t109) = true := decide_eq_true c15
     clear c15
     replace H := Option.bind_eq_some_iff.mp H
     obtain ⟨⟨t112, t113, t114⟩, A160, H⟩ := H
     (try dsimp only at H)
     have A16 := Z123.k A160
     clear A160
     by_cases c17 : 0 ≤ x10_1
     ·rw [if_pos c17] at H
      have c17b0 : decide (0 ≤ x10_1) = true := decide_eq_true c17; clear c17; obtain ⟨y115, hy115⟩ : ∃ y_ : List Int, y_ = (x109003_1.set (x10_1 : Int).toNat t112) := ⟨_, rfl⟩; replace H : (spec_l03Fill.l0 k1 a1 a2 a3 (wrap64 (x10_1 + 1)) s0_0 t113 t114 t102 t103 t104 y115) = some (r1, r2, r3, r4, r5, r6) := by first | (rw [hy115]; with_reducible exact H) | (have H2_ := (Option.bind_some _ _).symm.trans H; rw [hy115]; with_reducible exact H2_) | (have H2_ := (Option.bind_some _ _).symm.trans H; with_reducible exact H2_) | with_reducible exact H | (rw [hy115]; exact H) | exact H
      have Ny115 := Z123.k hy115; clear hy115; have H' := Z123.k H; clear H; have hnb19 := NB108_101.out; have hnc19 := NB101_108.out; have hnb20 := NB108_0.out; have hnc20 := NB0_108.out; obtain ⟨hcz21_0, hcz21_1, hcz21_2, hcz21_3, hfz21_0, hfz21_1, hfz21_2, hfz21_3⟩ := cells4 BK108.out; obtain ⟨Ao22, co22, eo22⟩ := Kd.R_slice HO_109003.out; subst eo22
      try go_wp2_with (first | ((with_reducible refine gate_callee (f := 83) rfl ?_); refine goesL_ (some 24) rfl rfl Try.func83 (by kernel_rfl) rfl #[.pointer (some ⟨g, 0, none⟩), .int .i64 3] rfl Z123.z9 ?_; (with_reducible refine (spec_l00Src_pick.calls g s0_0 x1001_1 x1002_1 3 t109 t110 t111 w0 _ ?side1 ?side2 A14.out).mono ?_); (case side1 => exact Z123.z0); (case side2 => exact Z123.z1); rintro e w23 ⟨rfl, hi, hb, hk⟩; refine ⟨_, rfl, ?_⟩; replace HO_109003 := Z123.k (Kd.R_mono (Kd.R_keep (IsS95.apart (show IsS95 w0 _ g s0_0 x1001_1 x1002_1 from by repeat (first | (with_reducible first | exact HI0.out | apply IsS95.alloc | apply IsS95.drewN | apply IsS95.drew | apply IsS95.set_1 | apply IsS95.set_2 | refine IsS95.far ?_ NB0_101.out _ | refine IsS95.far ?_ NB0_108.out _) | exact HI0.out)) Z123.z7 (by decide)) hk (fun _ h => h.2)) (fun _ h => h.1)); replace BK101 := Z123.k (KeepBut.blk hk (g' := gb101) (o := .cells #[.int .i64 0, .int .i64 0, .int .i64 0, .slice none 0 0] 28 (0, 0)) Z123.z4 NB101_0.out (by simp)); replace BK108 := Z123.k (KeepBut.blk hk (g' := gb108) (o := .cells #[.int .i64 t102, .int .i64 t103, .int .i64 t104, .slice Ao22 x109003_1.length co22] 28 (0, 0)) Z123.z6 NB108_0.out (by simp)); replace HK := Z123.k (KeepBut.trans Z123.z3 hk (.inl rfl)); replace HB := Z123.k (hb); replace HI0 := Z123.k (hi); (try clear hb); (try clear hb2); (try clear hk); (try clear hi)))
      replace HO_109003 := Z123.k (Kd.R_drew HO_109003.out); replace BK101 := Z123.k (blk_drew BK101.out); replace BK108 := Z123.k (blk_drew BK108.out); replace HI0 := Z123.k (IsS95.drew HI0.out); replace HK := Z123.k (keep_drew HK.out); replace HB := Z123.k (below_drew1 HB.out); refine start_ (n := 8) (S := fun w' => w'.cell? ⟨gb108, 0, none⟩ = some (.int .i64 t102) ∧ w'.cell? ⟨gb108, 1, none⟩ = some (.int .i64 t103) ∧ w'.cell? ⟨gb108, 2, none⟩ = some (.int .i64 t104) ∧ w'.cell? ⟨gb108, 3, none⟩ = some (.slice Ao22 x109003_1.length co22)) (ds := [7]) #[false, false, false, false, false, false, false, false] (by kernel_rfl) rfl rfl Z123.z17 (fun hHeld => ?_); refine with_tabW spec_l03Fill.tab6 spec_l03Fill.bits6 (fun HT_ HW_ => ?_); generalize w23.drew = w24 at HO_109003 BK101 BK108 HI0 HK HB hHeld ⊢
      refine Z123.pP 0 26 (Z123.b 8 1) (any_of HT_.out (by kernel_rfl)) ?_; refine Z123.pP 2 28 (Z123.b 8 5) (any_of HT_.out (by kernel_rfl)) ?_; refine Z123.pP 3 29 (Z123.b 8 13) (any_of HT_.out (by kernel_rfl)) ?_; refine Z123.pP 4 30 (Z123.b 8 29) (any_of HT_.out (by kernel_rfl)) ?_; refine Z123.pT4 1 27 (Z123.b 8 31) (take_ofW HT_.out HW_.out (by kernel_rfl)) hHeld ?_; refine one_ (i := 5) (N := some 31) (Z123.b 8 63) rfl rfl (one_of HT_.out (by kernel_rfl)) (by decide) (fun K hK => ?_); refine goes_ Try.func83 (by kernel_rfl) rfl #[.pointer (some ⟨g, 0, none⟩), .int .i64 a1] (by rfl) rfl rfl Z123.z9 ?_
      with_reducible refine (spec_l00Src_pick.calls g s0_0 t110 t111 a1 t112 t113 t114 w0 _ ?side1 ?side2 A16.out).mono ?_
      (case side1 => exact Z123.z0)
      (case side2 => exact Z123.z1)
      rintro e w25 ⟨rfl, hi, hb, hk⟩
      refine ⟨_, rfl, ?_⟩; replace HO_109003 := Z123.k (Kd.R_mono (Kd.R_keep (IsS95.apart (show IsS95 w0 _ g s0_0 t110 t111 from by repeat (first | (with_reducible first | exact HI0.out | apply IsS95.alloc | apply IsS95.drewN | apply IsS95.drew | apply IsS95.set_1 | apply IsS95.set_2 | refine IsS95.far ?_ NB0_101.out _ | refine IsS95.far ?_ NB0_108.out _) | exact HI0.out)) Z123.z7 (by decide)) hk (fun _ h => h.2)) (fun _ h => h.1)); replace BK101 := Z123.k (KeepBut.blk hk (g' := gb101) (o := .cells #[.int .i64 0, .int .i64 0, .int .i64 0, .slice none 0 0] 28 (0, 0)) Z123.z4 NB101_0.out (by simp)); replace BK108 := Z123.k (KeepBut.blk hk (g' := gb108) (o := .cells #[.int .i64 t102, .int .i64 t103, .int .i64 t104, .slice Ao22 x109003_1.length co22] 28 (0, 0)) Z123.z6 NB108_0.out (by simp)); replace HK := Z123.k (KeepBut.trans Z123.z3 hk (.inl rfl)); replace HB := Z123.k (hb); replace HI0 := Z123.k (hi); (try clear hb); (try clear hb2); (try clear hk); (try clear hi); have p18 : 0 ≤ (x10_1 : Int) := of_decide_eq_true Z123.z16; have q18 : (x10_1 : Int) < ((x109003_1.length : Int) : Int) := of_decide_eq_true Z123.z16; obtain ⟨go18, co18, eo18, gb18, gl18, cl18, HG18⟩ := Kd.R_form HO_109003.out (by omega)
      (first | cases eo18 | (injection eo18 with ea_ en_ ec_; (first | subst ea_ | (injection ea_ with ea_; subst ea_)); subst ec_; clear en_))
      have GB18 := Z123.k gb18; have GG18 := Z123.k HG18; clear gb18 gl18 HG18; obtain ⟨hx18_0, hf18_0⟩ := Kd.R_celln 0 HO_109003.out (x10_1 : Int) p18 q18; replace p18 := eq_true p18; replace q18 := eq_true q18; have HN0_go18 := Z123.k (show g ≠ go18 from by have h_ := IsS95.own_ne HI0.out HO_109003.out (by decide); intro e_; exact h_ (by rw [e_]; rfl)); have HP26 := Kd.R_putn HO_109003.out (x10_1 : Int) t112; rw [← Ny115.out] at HP26; have HQ26 := Z123.k HP26; clear HP26; refine hK.out _ _ Z123.z17 (fun hHeld => ?_); clear hK K; refine norm_ (a' := ?_) ?_ ?_
      rotate_left
      ·show Act.put _ (some 31) _ = _
       simp only [Act.put, List.setIfInBounds_toArray, List.set_cons_zero, List.set_cons_succ, i64_w, i32_w]
       rfl
      refine Z123.pP 6 32 (Z123.b 8 127) (any_of HT_.out (by kernel_rfl)) ?_; refine last_ (i := 7) (N := none) (Z123.b 8 255) rfl rfl (one_of HT_.out (by kernel_rfl)) (by decide) (fun K hK => ?_); refine skip_ (w1 := ?_) (by rfl) rfl ?_ ?_
      rotate_left
      ·go_simp
       rfl
      refine hK.out _ _ ?_; clear hK K; refine done_ (done_of HT_.out (by kernel_rfl)) ?_
      try go_wp2
      go_roundg k1
      case measure => have := HK1.out; omega
      case rel => exact ⟨(wrap64 (x10_1 + 1)), (t113), (t114), (y115), (.slice (some ⟨go18, 0, none⟩) x109003_1.length co22), Z123.z15, H', ⟨(by have := HK1.out; omega)⟩, ⟨(by (with_reducible repeat (first | apply Kd.R_alloc | apply Kd.R_drewN | apply Kd.R_drew)); exact HQ26.out)⟩, ⟨Z123.z11⟩, ⟨Z123.z10⟩, ⟨(by repeat (first | (with_reducible first | exact HI0.out | apply IsS95.alloc | apply IsS95.drewN | apply IsS95.drew | apply IsS95.set_1 | apply IsS95.set_2 | refine IsS95.far ?_ HN0_go18.out _ | refine IsS95.far ?_ NB0_101.out _ | refine IsS95.far ?_ NB0_108.out _) | exact HI0.out))⟩, ⟨(by repeat (first | (with_reducible first | exact HK.out | apply KeepBut.set_ | apply keep_drewN | apply keep_drew | apply keep_alloc | refine keep_far ?_ GB18.out _ | refine keep_far ?_ GW101.out _ | refine keep_far ?_ GW108.out _) | exact HK.out))⟩, ⟨(by repeat (first | (with_reducible first | exact HB.out | apply below_alloc | apply pw_below_drewN | apply below_drew1 | refine below_set ?_ (Nat.le_trans HL.out GB18.out) | refine below_set ?_ (IsS95.ge HI0.out) | refine below_set ?_ GE101.out | refine below_set ?_ GE108.out) | exact HB.out))⟩⟩
     rw [if_neg c17] at H
     exact absurd H (by simp)
    rw [if_neg c15] at H
    have c15b0 : decide (0 < t109) = false := decide_eq_false c15
    clear c15
    have H' := Z123.k H
    clear H
    have hnb27 := NB108_101.out
    have hnc27 := NB101_108.out
    have hnb28 := NB108_0.out
    have hnc28 := NB0_108.out
    obtain ⟨hcz29_0, hcz29_1, hcz29_2, hcz29_3, hfz29_0, hfz29_1, hfz29_2, hfz29_3⟩ := cells4 BK108.out
    obtain ⟨Ao30, co30, eo30⟩ := Kd.R_slice HO_109003.out
    subst eo30
    go_wp2_with (first | ((with_reducible refine gate_callee (f := 83) rfl ?_); refine goesL_ (some 24) rfl rfl Try.func83 (by kernel_rfl) rfl #[.pointer (some ⟨g, 0, none⟩), .int .i64 3] rfl Z123.z9 ?_; (with_reducible refine (spec_l00Src_pick.calls g s0_0 x1001_1 x1002_1 3 t109 t110 t111 w0 _ ?side1 ?side2 A14.out).mono ?_); (case side1 => exact Z123.z0); (case side2 => exact Z123.z1); rintro e w31 ⟨rfl, hi, hb, hk⟩; refine ⟨_, rfl, ?_⟩; replace HO_109003 := Z123.k (Kd.R_mono (Kd.R_keep (IsS95.apart (show IsS95 w0 _ g s0_0 x1001_1 x1002_1 from by repeat (first | (with_reducible first | exact HI0.out | apply IsS95.alloc | apply IsS95.drewN | apply IsS95.drew | apply IsS95.set_1 | apply IsS95.set_2 | refine IsS95.far ?_ NB0_101.out _ | refine IsS95.far ?_ NB0_108.out _) | exact HI0.out)) Z123.z7 (by decide)) hk (fun _ h => h.2)) (fun _ h => h.1)); replace BK101 := Z123.k (KeepBut.blk hk (g' := gb101) (o := .cells #[.int .i64 0, .int .i64 0, .int .i64 0, .slice none 0 0] 28 (0, 0)) Z123.z4 NB101_0.out (by simp)); replace BK108 := Z123.k (KeepBut.blk hk (g' := gb108) (o := .cells #[.int .i64 t102, .int .i64 t103, .int .i64 t104, .slice Ao30 x109003_1.length co30] 28 (0, 0)) Z123.z6 NB108_0.out (by simp)); replace HK := Z123.k (KeepBut.trans Z123.z3 hk (.inl rfl)); replace HB := Z123.k (hb); replace HI0 := Z123.k (hi); (try clear hb); (try clear hb2); (try clear hk); (try clear hi)))
    go_roundg k1
    case measure => have := HK1.out; omega
    case rel => exact ⟨(wrap64 (x10_1 + 1)), (t110), (t111), (x109003_1), (.slice Ao30 x109003_1.length co30), Z123.z15, H', ⟨(by have := HK1.out; omega)⟩, ⟨Z123.z7⟩, ⟨Z123.z4⟩, ⟨Z123.z6⟩, ⟨Z123.z0⟩, ⟨Z123.z3⟩, ⟨Z123.z1⟩⟩
   rw [if_neg c13] at H
   have c13b0 : decide (x10_1 < (x109003_1.length : Int)) = false := decide_eq_false c13
   clear c13
   have HC32 := Z123.k H
   clear H
   have hnb33 := NB108_101.out
   have hnc33 := NB101_108.out
   have hnb34 := NB108_0.out
   have hnc34 := NB0_108.out
   obtain ⟨hcz35_0, hcz35_1, hcz35_2, hcz35_3, hfz35_0, hfz35_1, hfz35_2, hfz35_3⟩ := cells4 BK108.out
   obtain ⟨Ao36, co36, eo36⟩ := Kd.R_slice HO_109003.out
   subst eo36
   go_upto_region 7 with (fail)
   go_cut [38] (fun v38 wc => ∃ (kq : Nat) (x38_31 : Bool) (x1001_31 : Int) (x1002_31 : Int), v38 = .bool x38_31 ∧ Aside0 (spec_l03Fill.j1 kq a1 a2 a3 x38_31 s0_0 x1001_31 x1002_31 t102 t103 t104 x109003_1 = some (r1, r2, r3, r4, r5, r6)) ∧ Aside0 (kq ≤ k1) ∧ Aside0 (Kd.R (Kd.int .i64) 2 wc w.heap.size (fun _ => True) (.slice Ao36 x109003_1.length co36) x109003_1) ∧ Aside0 (wc.heap[gb101]? = some (.cells #[.int .i64 0, .int .i64 0, .int .i64 0, (.slice none 0 0)] 28 (0, 0))) ∧ Aside0 (wc.heap[gb108]? = some (.cells #[.int .i64 t102, .int .i64 t103, .int .i64 t104, (.slice Ao36 x109003_1.length co36)] 28 (0, 0))) ∧ Aside0 (IsS95 w0 wc g s0_0 x1001_31 x1002_31) ∧ Aside0 (KeepBut w wc g none) ∧ Aside0 (Below w0.heap.size w0 wc))
   case first =>
    have H := HC32.out
    clear HC32
    by_cases c37 : a2 > 1
    ·rw [if_pos c37] at H
     have c37b0 : decide (1 < a2) = true := decide_eq_true c37
     clear c37
     (first | rw [c37b0] | (simp only [i64_w, i32_w]; rw [c37b0]) | skip)
     replace H := Option.bind_eq_some_iff.mp H
     obtain ⟨⟨t116, t117, t118⟩, A380, H⟩ := H
     (try dsimp only at H)
     have A38 := Z123.k A380
     clear A380
     have H' := Z123.k H
     clear H
     go_wp2_with (first | (go_at_call 81; (with_reducible refine (spec_l00Src_one.calls g s0_0 x1001_1 x1002_1 3 t116 t117 t118 w0 _ ?side1 ?side2 A38.out).mono ?_); (case side1 => exact Z123.z0); (case side2 => exact Z123.z1); rintro e w39 ⟨rfl, hi, hb, hk⟩; replace HO_109003 := Z123.k (Kd.R_mono (Kd.R_keep (IsS95.apart (show IsS95 w0 _ g s0_0 x1001_1 x1002_1 from by repeat (first | (with_reducible first | exact HI0.out | apply IsS95.alloc | apply IsS95.drewN | apply IsS95.drew | apply IsS95.set_1 | apply IsS95.set_2 | refine IsS95.far ?_ NB0_101.out _ | refine IsS95.far ?_ NB0_108.out _) | exact HI0.out)) Z123.z7 (by decide)) hk (fun _ h => h.2)) (fun _ h => h.1)); replace BK101 := Z123.k (KeepBut.blk hk (g' := gb101) (o := .cells #[.int .i64 0, .int .i64 0, .int .i64 0, .slice none 0 0] 28 (0, 0)) Z123.z4 NB101_0.out (by simp)); replace BK108 := Z123.k (KeepBut.blk hk (g' := gb108) (o := .cells #[.int .i64 t102, .int .i64 t103, .int .i64 t104, .slice Ao36 x109003_1.length co36] 28 (0, 0)) Z123.z6 NB108_0.out (by simp)); replace HK := Z123.k (KeepBut.trans Z123.z3 hk (.inl rfl)); replace HB := Z123.k (hb); replace HI0 := Z123.k (hi); (try clear hb); (try clear hb2); (try clear hk); (try clear hi)))
     go_meet
     case rel => exact ⟨_, (t116), (t117), (t118), Z123.z15, H', ⟨(by have := HK1.out; first | omega | exact Nat.le_refl _)⟩, ⟨Z123.z7⟩, ⟨Z123.z4⟩, ⟨Z123.z6⟩, ⟨Z123.z0⟩, ⟨Z123.z3⟩, ⟨Z123.z1⟩⟩
    rw [if_neg c37] at H
    have c37b0 : decide (1 < a2) = false := decide_eq_false c37
    clear c37
    (first | rw [c37b0] | (simp only [i64_w, i32_w]; rw [c37b0]) | skip)
    have H' := Z123.k H
    clear H
    go_wp2
    go_meet
    case rel => exact ⟨_, (false), (x1001_1), (x1002_1), Z123.z15, H', ⟨(by have := HK1.out; first | omega | exact Nat.le_refl _)⟩, ⟨Z123.z7⟩, ⟨Z123.z4⟩, ⟨Z123.z6⟩, ⟨Z123.z0⟩, ⟨Z123.z3⟩, ⟨Z123.z1⟩⟩
   case rest =>
    clear HC32
    try clear c1
    try clear p1
    try clear q1
    try clear hx1
    try clear c2
    try clear p2
    try clear c3
    try clear p6
    try clear c8
    try clear c9
    try clear c10
    try clear c12
    try clear c13
    try clear c13b0
    try clear c15
    try clear c15b0
    try clear c17
    try clear c17b0
    try clear p18
    try clear q18
    try clear hx18
    try clear hf18
    try clear c19
    try clear c20
    try clear c27
    try clear c28
    try clear c33
    try clear c34
    try clear c37
    try clear c37b0
    try clear hcz11_0
    try clear hcz11_1
    try clear hcz11_2
    try clear hcz11_3
    try clear hcz21_0
    try clear hcz21_1
    try clear hcz21_2
    try clear hcz21_3
    try clear hcz29_0
    try clear hcz29_1
    try clear hcz29_2
    try clear hcz29_3
    try clear hcz35_0
    try clear hcz35_1
    try clear hcz35_2
    try clear hcz35_3
    try clear hfz11_0
    try clear hfz11_1
    try clear hfz11_2
    try clear hfz11_3
    try clear hfz21_0
    try clear hfz21_1
    try clear hfz21_2
    try clear hfz21_3
    try clear hfz29_0
    try clear hfz29_1
    try clear hfz29_2
    try clear hfz29_3
    try clear hfz35_0
    try clear hfz35_1
    try clear hfz35_2
    try clear hfz35_3
    try clear hx18_0
    try clear p18
    try clear p2
    try clear q18
    obtain ⟨kq, x38_31, x1001_31, x1002_31, rfl, HA, HJ31, HO_109003, BK101, BK108, HI0, HK, HB⟩ := hcut
    cases kq with
    | zero => exact absurd HA.out (by simp [spec_l03Fill.j1])
    | succ kj31 =>
     have H := HA.out
     clear HA
     simp only [spec_l03Fill.j1] at H
     by_cases c40 : x38_31 = true
     ·subst c40
      rw [if_pos rfl] at H; have H' := Z123.k H; clear H
      go_wp2
      go_loopg [11] kj31 (fun kq v11 w' => ∃ (x11_3 : Int) (x109003_3 : List Int) (u109003 : Value), v11 = .int .i64 x11_3 ∧ Aside0 (spec_l03Fill.l1 kq a1 a2 a3 x11_3 s0_0 x1001_31 x1002_31 t102 t103 t104 x109003_3 = some (r1, r2, r3, r4, r5, r6)) ∧ Aside0 (kq ≤ kj31) ∧ Aside0 (Kd.R (Kd.int .i64) 2 w' w.heap.size (fun _ => True) u109003 x109003_3) ∧ Aside0 (w'.heap[gb101]? = some (.cells #[.int .i64 0, .int .i64 0, .int .i64 0, (.slice none 0 0)] 28 (0, 0))) ∧ Aside0 (w'.heap[gb108]? = some (.cells #[.int .i64 t102, .int .i64 t103, .int .i64 t104, u109003] 28 (0, 0))) ∧ Aside0 (IsS95 w0 w' g s0_0 x1001_31 x1002_31) ∧ Aside0 (KeepBut w w' g none) ∧ Aside0 (Below w0.heap.size w0 w'))
      case atStart => exact ⟨(0), (x109003_1), (.slice Ao36 x109003_1.length co36), Z123.z15, H', ⟨Nat.le_refl _⟩, ⟨Z123.z7⟩, ⟨Z123.z4⟩, ⟨Z123.z6⟩, ⟨Z123.z0⟩, ⟨Z123.z3⟩, ⟨Z123.z1⟩⟩
      case round =>
       clear H'; (try clear c1); (try clear p1); (try clear q1); (try clear hx1); (try clear c2); (try clear p2); (try clear c3); (try clear c4); (try clear p6); (try clear c8); (try clear c9); (try clear c10); (try clear c12); (try clear c13); (try clear c13b0); (try clear c15); (try clear c15b0); (try clear c17); (try clear c17b0); (try clear p18); (try clear q18); (try clear hx18); (try clear hf18); (try clear c19); (try clear c20); (try clear c27); (try clear c28); (try clear c33); (try clear c34); (try clear c37); (try clear c37b0); (try clear c40); (try clear hcz11_0); (try clear hcz11_1); (try clear hcz11_2); (try clear hcz11_3); (try clear hcz21_0); (try clear hcz21_1); (try clear hcz21_2); (try clear hcz21_3); (try clear hcz29_0); (try clear hcz29_1); (try clear hcz29_2); (try clear hcz29_3); (try clear hcz35_0); (try clear hcz35_1); (try clear hcz35_2); (try clear hcz35_3); (try clear hfz11_0); (try clear hfz11_1); (try clear hfz11_2); (try clear hfz11_3); (try clear hfz21_0); (try clear hfz21_1); (try clear hfz21_2); (try clear hfz21_3); (try clear hfz29_0); (try clear hfz29_1); (try clear hfz29_2); (try clear hfz29_3); (try clear hfz35_0); (try clear hfz35_1); (try clear hfz35_2); (try clear hfz35_3); (try clear hx18_0); (try clear p1); (try clear p18); (try clear p2); (try clear p6); (try clear q1); (try clear q18); obtain ⟨x11_3, x109003_3, u109003, rfl, HA, HK3, HO_109003, BK101, BK108, HI0, HK, HB⟩ := hrel; cases gk with
       | zero => exact absurd HA.out (by simp [spec_l03Fill.l1])
       | succ k3 =>
        have H := HA.out
        clear HA; simp only [spec_l03Fill.l1] at H
        by_cases c41 : x11_3 < a3
        ·rw [if_pos c41] at H
         have c41b0 : decide (x11_3 < a3) = true := decide_eq_true c41; clear c41
         by_cases c42 : 0 ≤ x11_3
         ·rw [if_pos c42] at H
          have c42b0 : decide (0 ≤ x11_3) = true := decide_eq_true c42; clear c42
          by_cases c43 : x11_3 < (x109003_3.length : Int)
          ·rw [if_pos c43] at H
           have c43b0 : decide (x11_3 < (x109003_3.length : Int)) = true := decide_eq_true c43; clear c43
           by_cases c44 : a1 = 0
           ·rw [if_pos c44] at H
            exact absurd H (by simp)
           rw [if_neg c44] at H; have c44b0 : (a1 == 0) = false := beq_eq_false_iff_ne.mpr c44; have c44b1 : (a1 != 0) = true := bne_iff_ne.mpr c44; obtain ⟨ji45, hji45⟩ : ∃ j_ : Int, (wrap64 ((wrap64 ((wrap64 (a2 - 1)) * a3)) + x11_3)) = j_ := ⟨_, rfl⟩; replace H : (if 0 ≤ (ji45) then (if (ji45) < (x109003_3.length : Int) then (spec_l03Fill.l1 k3 a1 a2 a3 (wrap64 (x11_3 + 1)) s0_0 x1001_31 x1002_31 t102 t103 t104 (x109003_3.set ((ji45) : Int).toNat (Int.tmod (wrap64 ((rd x109003_3 x11_3) * 2)) a1))) else (none)) else (none)) = some (r1, r2, r3, r4, r5, r6) := by first | (rw [hji45] at H; exact H) | (simp only [hji45] at H ⊢; exact H)
           have hji45w : (IntKind.i64.wrap ((wrap64 ((wrap64 (a2 - 1)) * a3)) + x11_3)) = ji45 := (i64_w _).trans hji45
           by_cases c46 : 0 ≤ (ji45)
           ·rw [if_pos c46] at H
            have c46b0 : decide (0 ≤ (ji45)) = true := decide_eq_true c46; clear c46
            by_cases c47 : (ji45) < (x109003_3.length : Int)
            ·rw [if_pos c47] at H
             have c47b0 : decide ((ji45) < (x109003_3.length : Int)) = true := decide_eq_true c47; clear c47; obtain ⟨y120, hy120⟩ : ∃ y_ : List Int, y_ = (x109003_3.set ((ji45) : Int).toNat (Int.tmod (wrap64 ((rd x109003_3 x11_3) * 2)) a1)) := ⟨_, rfl⟩; replace H : (spec_l03Fill.l1 k3 a1 a2 a3 (wrap64 (x11_3 + 1)) s0_0 x1001_31 x1002_31 t102 t103 t104 y120) = some (r1, r2, r3, r4, r5, r6) := by first | (rw [hy120]; with_reducible exact H) | (have H2_ := (Option.bind_some _ _).symm.trans H; rw [hy120]; with_reducible exact H2_) | (have H2_ := (Option.bind_some _ _).symm.trans H; with_reducible exact H2_) | with_reducible exact H | (rw [hy120]; exact H) | exact H
             have Ny120 := Z123.k hy120; clear hy120; have H' := Z123.k H; clear H
             try go_wp2
             replace HO_109003 := Z123.k (Kd.R_drew HO_109003.out); replace BK101 := Z123.k (blk_drew BK101.out); replace BK108 := Z123.k (blk_drew BK108.out); replace HI0 := Z123.k (IsS95.drew HI0.out); replace HK := Z123.k (keep_drew HK.out); replace HB := Z123.k (below_drew1 HB.out); obtain ⟨Ao50, co50, eo50⟩ := Kd.R_slice HO_109003.out
             (first | subst eo50 | (injection eo50 with f1_ f2_ f3_; have f4_ := f1_.symm; have f5_ := f3_.symm; clear f1_ f2_ f3_; subst f4_; subst f5_))
             have p119 : 0 ≤ (x11_3 : Int) := of_decide_eq_true Z123.z16; have q119 : x11_3 < (x109003_3.length : Int) := of_decide_eq_true Z123.z16; obtain ⟨ad119, e119, hx119_0⟩ := Kd.at_int (Kd.R_reads' HO_109003.out).2.2 x11_3 p119 q119; cases e119; replace p119 := eq_true p119; replace q119 := eq_true q119; have p48 : 0 ≤ ((ji45) : Int) := of_decide_eq_true Z123.z16; have q48 : ((ji45) : Int) < ((x109003_3.length : Int) : Int) := of_decide_eq_true Z123.z16; obtain ⟨go48, co48, eo48, gb48, gl48, cl48, HG48⟩ := Kd.R_form HO_109003.out (by omega)
             (first | cases eo48 | (injection eo48 with ea_ en_ ec_; (first | subst ea_ | (injection ea_ with ea_; subst ea_)); subst ec_; clear en_))
             have GB48 := Z123.k gb48; have GG48 := Z123.k HG48; clear gb48 gl48 HG48
             (first | simp only [add_plain] at hx119_0 | skip)
             obtain ⟨hx48_0, hf48_0⟩ := Kd.R_celln 0 HO_109003.out ((ji45) : Int) p48 q48; replace p48 := eq_true p48; replace q48 := eq_true q48; have HN0_go48 := Z123.k (show g ≠ go48 from by have h_ := IsS95.own_ne HI0.out HO_109003.out (by decide); intro e_; exact h_ (by rw [e_]; rfl)); have HP51 := Kd.R_putn HO_109003.out ((ji45) : Int) (Int.tmod (wrap64 ((rd x109003_3 x11_3) * 2)) a1); rw [← Ny120.out] at HP51; have HQ51 := Z123.k HP51; clear HP51; refine start_ (n := 18) (S := fun w' => w'.cell? ⟨gb108, 0, none⟩ = some (.int .i64 t102) ∧ w'.cell? ⟨gb108, 1, none⟩ = some (.int .i64 t103) ∧ w'.cell? ⟨gb108, 2, none⟩ = some (.int .i64 t104) ∧ w'.cell? ⟨gb108, 3, none⟩ = some (.slice (some ⟨go48, 0, none⟩) x109003_3.length co50) ∧ w'.cell? ⟨go48, (x11_3).toNat, none⟩ = some (.int .i64 (rd x109003_3 x11_3))) (ds := [17]) #[false, false, false, false, false, false, false, false, false, false, false, false, false, false, false, false, false, false] (by kernel_rfl) rfl rfl ⟨(blk_cell BK108.out 0).trans rfl, (blk_cell BK108.out 1).trans rfl, (blk_cell BK108.out 2).trans rfl, (blk_cell BK108.out 3).trans rfl, hx119_0⟩ (fun hHeld => ?_); refine with_tabW spec_l03Fill.tab11 spec_l03Fill.bits11 (fun HT_ HW_ => ?_); generalize wr.drew = w49 at HO_109003 BK101 BK108 HI0 HK HB GG48 HQ51 hf48_0 hx119_0 hx48_0 hHeld ⊢
             refine Z123.pP 0 44 (Z123.b 18 1) (any_of HT_.out (by kernel_rfl)) ?_; refine Z123.pP 2 46 (Z123.b 18 5) (any_of HT_.out (by kernel_rfl)) ?_; refine Z123.pP 3 47 (Z123.b 18 13) (any_of HT_.out (by kernel_rfl)) ?_; refine Z123.pP 4 48 (Z123.b 18 29) (any_of HT_.out (by kernel_rfl)) ?_; refine Z123.pP 5 49 (Z123.b 18 61) (any_of HT_.out (by kernel_rfl)) ?_; refine Z123.pP 6 50 (Z123.b 18 125) (any_of HT_.out (by kernel_rfl)) ?_; refine Z123.pP 7 51 (Z123.b 18 253) (any_of HT_.out (by kernel_rfl)) ?_; refine Z123.pP 8 52 (Z123.b 18 509) (any_of HT_.out (by kernel_rfl)) ?_; refine Z123.pP 10 54 (Z123.b 18 1533) (any_of HT_.out (by kernel_rfl)) ?_; refine Z123.pP 14 58 (Z123.b 18 17917) (any_of HT_.out (by kernel_rfl)) ?_; refine Z123.pT5 1 45 (Z123.b 18 17919) (take_ofW HT_.out HW_.out (by kernel_rfl)) hHeld ?_; refine Z123.pT5 9 53 (Z123.b 18 18431) (take_ofW HT_.out HW_.out (by kernel_rfl)) hHeld ?_; refine Z123.pP 11 55 (Z123.b 18 20479) (any_of HT_.out (by kernel_rfl)) ?_; refine Z123.pT5 12 56 (Z123.b 18 24575) (take_ofW HT_.out HW_.out (by kernel_rfl)) hHeld ?_; refine Z123.pP 13 57 (Z123.b 18 32767) (any_of HT_.out (by kernel_rfl)) ?_; refine Z123.pP 15 59 (Z123.b 18 65535) (any_of HT_.out (by kernel_rfl)) ?_; refine Z123.pP 16 60 (Z123.b 18 131071) (any_of HT_.out (by kernel_rfl)) ?_; refine last_ (i := 17) (N := none) (Z123.b 18 262143) rfl rfl (one_of HT_.out (by kernel_rfl)) (by decide) (fun K hK => ?_); refine skip_ (w1 := ?_) (by rfl) rfl ?_ ?_
             rotate_left
             ·go_simp
              rfl
             refine hK.out _ _ ?_; clear hK K; refine done_ (done_of HT_.out (by kernel_rfl)) ?_
             try go_wp2
             go_roundg k3
             case measure => have := HK1.out; have := HJ31.out; have := HK3.out; omega
             case rel => exact ⟨(wrap64 (x11_3 + 1)), (y120), (.slice (some ⟨go48, 0, none⟩) x109003_3.length co50), Z123.z15, H', ⟨(by have := HK1.out; have := HJ31.out; have := HK3.out; omega)⟩, ⟨(by (with_reducible repeat (first | apply Kd.R_alloc | apply Kd.R_drewN | apply Kd.R_drew)); exact HQ51.out)⟩, ⟨Z123.z11⟩, ⟨Z123.z10⟩, ⟨(by repeat (first | (with_reducible first | exact HI0.out | apply IsS95.alloc | apply IsS95.drewN | apply IsS95.drew | apply IsS95.set_1 | apply IsS95.set_2 | refine IsS95.far ?_ HN0_go48.out _ | refine IsS95.far ?_ NB0_101.out _ | refine IsS95.far ?_ NB0_108.out _) | exact HI0.out))⟩, ⟨(by repeat (first | (with_reducible first | exact HK.out | apply KeepBut.set_ | apply keep_drewN | apply keep_drew | apply keep_alloc | refine keep_far ?_ GB48.out _ | refine keep_far ?_ GW101.out _ | refine keep_far ?_ GW108.out _) | exact HK.out))⟩, ⟨(by repeat (first | (with_reducible first | exact HB.out | apply below_alloc | apply pw_below_drewN | apply below_drew1 | refine below_set ?_ (Nat.le_trans HL.out GB48.out) | refine below_set ?_ (IsS95.ge HI0.out) | refine below_set ?_ GE101.out | refine below_set ?_ GE108.out) | exact HB.out))⟩⟩
            rw [if_neg c47] at H; exact absurd H (by simp)
           rw [if_neg c46] at H; exact absurd H (by simp)
          rw [if_neg c43] at H; exact absurd H (by simp)
         rw [if_neg c42] at H; exact absurd H (by simp)
        rw [if_neg c41] at H; have c41b0 : decide (x11_3 < a3) = false := decide_eq_false c41; clear c41; simp only [Option.some.injEq, Prod.mk.injEq] at H
        obtain ⟨rfl, rfl, rfl, rfl, rfl, rfl⟩ := H; have hnb52 := NB108_101.out; have hnc52 := NB101_108.out; have hnb53 := NB108_0.out; have hnc53 := NB0_108.out; obtain ⟨hcz54_0, hcz54_1, hcz54_2, hcz54_3, hfz54_0, hfz54_1, hfz54_2, hfz54_3⟩ := cells4 BK108.out; have hnb55 := NB101_0.out; have hnc55 := NB0_101.out; obtain ⟨hcz56_0, hcz56_1, hcz56_2, hcz56_3, hfz56_0, hfz56_1, hfz56_2, hfz56_3⟩ := cells4 BK101.out; obtain ⟨Ao57, co57, eo57⟩ := Kd.R_slice HO_109003.out; subst eo57
        go_wp2
        refine bodyPost_ret (results_cell_row rfl _ _ gb101 28 #[.int .i64 t102, .int .i64 t103, .int .i64 t104, .slice Ao57 x109003_3.length co57] (0, 0) _ rfl Z123.z5 Try.underlying28 rfl (by kernel_rfl)) rfl ?_; exact ⟨_, (by first | rfl | (simp [errW_none, errW_some] <;> rfl) | (simp [*, errW_none, errW_some] <;> rfl)), (by (with_reducible repeat (first | apply Kd.R_alloc | apply Kd.R_drewN | apply Kd.R_drew)); exact Kd.R_mono (Kd.R_far (p := ⟨gb101, 3, none⟩) (Kd.R_far (p := ⟨gb101, 2, none⟩) (Kd.R_far (p := ⟨gb101, 1, none⟩) (Kd.R_far (p := ⟨gb101, 0, none⟩) (Kd.R_types HO_109003.out BK101.out (by decide)) (fun _ hk => hk.2) (.int .i64 t102)) (fun _ hk => hk.2) (.int .i64 t103)) (fun _ hk => hk.2) (.int .i64 t104)) (fun _ hk => hk.2) (.slice Ao57 x109003_3.length co57)) (fun _ hk => trivial)), Z123.z0, Z123.z1, Z123.z3⟩
     replace c40 := Bool.eq_false_iff.mpr c40
     subst c40
     rw [if_neg (show ¬ (false = true) by decide)] at H
     simp only [Option.some.injEq, Prod.mk.injEq] at H
     obtain ⟨rfl, rfl, rfl, rfl, rfl, rfl⟩ := H
     have hnb58 := NB108_101.out
     have hnc58 := NB101_108.out
     have hnb59 := NB108_0.out
     have hnc59 := NB0_108.out
     obtain ⟨hcz60_0, hcz60_1, hcz60_2, hcz60_3, hfz60_0, hfz60_1, hfz60_2, hfz60_3⟩ := cells4 BK108.out
     have hnb61 := NB101_0.out
     have hnc61 := NB0_101.out
     obtain ⟨hcz62_0, hcz62_1, hcz62_2, hcz62_3, hfz62_0, hfz62_1, hfz62_2, hfz62_3⟩ := cells4 BK101.out
     go_wp2
     refine bodyPost_ret (results_cell_row rfl _ _ gb101 28 #[.int .i64 t102, .int .i64 t103, .int .i64 t104, .slice Ao36 x109003_1.length co36] (0, 0) _ rfl Z123.z5 Try.underlying28 rfl (by kernel_rfl)) rfl ?_
     exact ⟨_, (by first | rfl | (simp [errW_none, errW_some] <;> rfl) | (simp [*, errW_none, errW_some] <;> rfl)), (by (with_reducible repeat (first | apply Kd.R_alloc | apply Kd.R_drewN | apply Kd.R_drew)); exact Kd.R_mono (Kd.R_far (p := ⟨gb101, 3, none⟩) (Kd.R_far (p := ⟨gb101, 2, none⟩) (Kd.R_far (p := ⟨gb101, 1, none⟩) (Kd.R_far (p := ⟨gb101, 0, none⟩) (Kd.R_types HO_109003.out BK101.out (by decide)) (fun _ hk => hk.2) (.int .i64 t102)) (fun _ hk => hk.2) (.int .i64 t103)) (fun _ hk => hk.2) (.int .i64 t104)) (fun _ hk => hk.2) (.slice Ao36 x109003_1.length co36)) (fun _ hk => trivial)), Z123.z0, Z123.z1, Z123.z3⟩
/-! ### spec_l03Draw: function 110 -/
def spec_l03Draw.f (k : Nat) (s0_0 : List Int) (s0_1 : Int) (s0_2 : Int) : Option (Int × Int × Int × List Int × Int × Int) := (spec_l03DrawPrime.f s0_0 s0_1 s0_2).bind fun bt102 => ((spec_l00Src_pick.f s0_0 bt102.2.1 bt102.2.2 5).bind fun bt105 => ((spec_l00Src_pick.f s0_0 bt105.2.1 bt105.2.2 5).bind fun bt108 => ((spec_l03Fill.f k s0_0 bt108.2.1 bt108.2.2 bt102.1 bt105.1 bt108.1).bind fun bt111 => (some (bt111.1, bt111.2.1, bt111.2.2.1, bt111.2.2.2.1, bt111.2.2.2.2.1, bt111.2.2.2.2.2)))))
theorem Z110.k {p : Prop} (h : p) : Aside0 p := ⟨h⟩
theorem Z110.z5 {P : Prop} (h : P := by repeat (first | (with_reducible first | exact HK.out | apply KeepBut.set_ | apply keep_drewN | apply keep_drew | apply keep_alloc) | exact HK.out)) : P := h
theorem Z110.z4 {P : Prop} (h : P := by (with_reducible repeat (first | refine blk_drewN ?_ _ | refine blk_drew ?_ | refine blk_alloc ?_ _)); exact BK101.out) : P := h
theorem Z110.z3 {P : Prop} (h : P := by (try simp only [List.map_toArray, List.map_cons, List.map_nil]); first | done | rfl | (simp only [List.length_drop, List.length_take]; rfl)) : P := h
theorem Z110.z2 {P : Prop} (h : P := by repeat (first | (with_reducible first | exact HB.out | apply below_alloc | apply pw_below_drewN | apply below_drew1 | refine below_set ?_ (IsS95.ge HI0.out) | refine below_set ?_ GE101.out) | exact HB.out)) : P := h
theorem Z110.z1 {P : Prop} (h : P := by repeat (first | (with_reducible first | exact HI0.out | apply IsS95.alloc | apply IsS95.drewN | apply IsS95.drew | apply IsS95.set_1 | apply IsS95.set_2 | refine IsS95.far ?_ NB0_101.out _) | exact HI0.out)) : P := h
theorem Z110.z0 {P : Prop} (h : P := by repeat (first | (with_reducible first | exact HK.out | apply KeepBut.set_ | apply keep_drewN | apply keep_drew | apply keep_alloc | refine keep_far ?_ GW101.out _) | exact HK.out)) : P := h
set_option maxHeartbeats 8000000 in
set_option maxRecDepth 100000 in
theorem spec_l03Draw.calls (k : Nat) (g : Nat) (s0_0 : List Int) (s0_1 : Int) (s0_2 : Int) (r1 : Int) (r2 : Int) (r3 : Int) (r4 : List Int) (r5 : Int) (r6 : Int) (w0 w : World) (hI : IsS95 w0 w g s0_0 s0_1 s0_2) (hB : Below w0.heap.size w0 w) (h : spec_l03Draw.f k s0_0 s0_1 s0_2 = some (r1, r2, r3, r4, r5, r6)) :
  Calls Try.prog 110 #[.pointer (some ⟨g, 0, none⟩)] w fun e w' => ∃ v3_ : Value, e = .returned (.agg #[.int .i64 r1, .int .i64 r2, .int .i64 r3, v3_]) ∧ Kd.R (Kd.int .i64) 2 w' w.heap.size (fun _ => True) v3_ r4 ∧ IsS95 w0 w' g s0_0 r5 r6 ∧ Below w0.heap.size w0 w' ∧ KeepBut w w' g none := by
 have hu28 := Try.underlying28
 have HI0 := Z110.k hI
 have HK := Z110.k (KeepBut.refl w g none)
 have HL := Z110.k hB.size
 clear hI
 have HW0 := Z110.k hB.size
 have HB := Z110.k hB
 clear hB
 have H : ((spec_l03DrawPrime.f s0_0 s0_1 s0_2).bind fun bt102 => ((spec_l00Src_pick.f s0_0 bt102.2.1 bt102.2.2 5).bind fun bt105 => ((spec_l00Src_pick.f s0_0 bt105.2.1 bt105.2.2 5).bind fun bt108 => ((spec_l03Fill.f k s0_0 bt108.2.1 bt108.2.2 bt102.1 bt105.1 bt108.1).bind fun bt111 => (some (bt111.1, bt111.2.1, bt111.2.2.1, bt111.2.2.2.1, bt111.2.2.2.2.1, bt111.2.2.2.2.2)))))) = some (r1, r2, r3, r4, r5, r6) := h
 clear h
 replace H := Option.bind_eq_some_iff.mp H
 obtain ⟨⟨t102, t103, t104⟩, A20, H⟩ := H
 replace H : ((spec_l00Src_pick.f s0_0 t103 t104 5).bind fun bt105 => ((spec_l00Src_pick.f s0_0 bt105.2.1 bt105.2.2 5).bind fun bt108 => ((spec_l03Fill.f k s0_0 bt108.2.1 bt108.2.2 t102 bt105.1 bt108.1).bind fun bt111 => (some (bt111.1, bt111.2.1, bt111.2.2.1, bt111.2.2.2.1, bt111.2.2.2.2.1, bt111.2.2.2.2.2))))) = some (r1, r2, r3, r4, r5, r6) := H
 have A2 := Z110.k A20
 clear A20
 replace H := Option.bind_eq_some_iff.mp H
 obtain ⟨⟨t105, t106, t107⟩, A30, H⟩ := H
 (try dsimp only at H)
 have A3 := Z110.k A30
 clear A30
 replace H := Option.bind_eq_some_iff.mp H
 obtain ⟨⟨t108, t109, t110⟩, A40, H⟩ := H
 (try dsimp only at H)
 have A4 := Z110.k A40
 clear A40
 replace H := Option.bind_eq_some_iff.mp H
 obtain ⟨⟨t111, t112, t113, t114, t117, t118⟩, A50, H⟩ := H
 (try dsimp only at H)
 have A5 := Z110.k A50
 clear A50
 simp only [Option.some.injEq, Prod.mk.injEq] at H
 obtain ⟨rfl, rfl, rfl, rfl, rfl, rfl⟩ := H
 go_enter Try.func110, Try.ntmps110
 go_wp2_with (first | ((with_reducible refine gate_dst (N := 2) rfl ?_); refine box_event ?hg (N := 2) ?hd (cs := #[.int .i64 0, .int .i64 0, .int .i64 0, .slice none 0 0]) (t := 28) ?hr ?_; (case hd => rfl); (case hg => rfl); (case hr => first | (go_simp; done) | (go_simp; rfl)); intro gb101 hg w6 hbox hb; have BK101 := Z110.k (hbox); have GW101 := Z110.k (show w.heap.size ≤ gb101 from (by rw [hg]; exact (keep_size (w := w) (g := g) (row := none) Z110.z5))); have GE101 := Z110.k ((Nat.le_trans HW0.out (by rw [hg]; exact (keep_size (w := w) (g := g) (row := none) Z110.z5) : w.heap.size ≤ gb101) : w0.heap.size ≤ gb101)); have NB0_101 := Z110.k ((by rw [hg]; exact Nat.ne_of_lt (IsS95.lt (show IsS95 w0 _ g s0_0 s0_1 s0_2 from by repeat (first | (with_reducible first | exact HI0.out | apply IsS95.alloc | apply IsS95.drewN | apply IsS95.drew | apply IsS95.set_1 | apply IsS95.set_2) | exact HI0.out))) : g ≠ gb101)); have NB101_0 := Z110.k ((by rw [hg]; exact Nat.ne_of_gt (IsS95.lt (show IsS95 w0 _ g s0_0 s0_1 s0_2 from by repeat (first | (with_reducible first | exact HI0.out | apply IsS95.alloc | apply IsS95.drewN | apply IsS95.drew | apply IsS95.set_1 | apply IsS95.set_2) | exact HI0.out))) : gb101 ≠ g)); replace HK := Z110.k (KeepBut.trans Z110.z5 (KeepBut.of_below hb g none) (.inl rfl)); replace HB := Z110.k (below_step (by repeat (first | (with_reducible first | exact HB.out | apply below_alloc | apply pw_below_drewN | apply below_drew1 | refine below_set ?_ (IsS95.ge HI0.out)) | exact HB.out)) hb); replace HI0 := Z110.k (IsS95.below (by repeat (first | (with_reducible first | exact HI0.out | apply IsS95.alloc | apply IsS95.drewN | apply IsS95.drew | apply IsS95.set_1 | apply IsS95.set_2) | exact HI0.out)) hb); clear hb hbox hg) | ((with_reducible refine gate_callee (f := 122) rfl ?_); refine goesL_ (some 6) rfl rfl Try.func122 (by kernel_rfl) rfl #[.pointer (some ⟨g, 0, none⟩)] rfl Z110.z3 ?_; (with_reducible refine (spec_l03DrawPrime.calls g s0_0 s0_1 s0_2 t102 t103 t104 w0 _ ?side1 ?side2 A2.out).mono ?_); (case side1 => exact Z110.z1); (case side2 => exact Z110.z2); rintro e w7 ⟨rfl, hi, hb, hk⟩; refine ⟨_, rfl, ?_⟩; replace BK101 := Z110.k (KeepBut.blk hk (g' := gb101) (o := .cells #[.int .i64 0, .int .i64 0, .int .i64 0, .slice none 0 0] 28 (0, 0)) Z110.z4 NB101_0.out (by simp)); replace HK := Z110.k (KeepBut.trans Z110.z0 hk (.inl rfl)); replace HB := Z110.k (hb); replace HI0 := Z110.k (hi); (try clear hb); (try clear hb2); (try clear hk); (try clear hi)) | ((with_reducible refine gate_callee (f := 83) rfl ?_); refine goesL_ (some 8) rfl rfl Try.func83 (by kernel_rfl) rfl #[.pointer (some ⟨g, 0, none⟩), .int .i64 5] rfl Z110.z3 ?_; (with_reducible refine (spec_l00Src_pick.calls g s0_0 t103 t104 5 t105 t106 t107 w0 _ ?side1 ?side2 A3.out).mono ?_); (case side1 => exact Z110.z1); (case side2 => exact Z110.z2); rintro e w8 ⟨rfl, hi, hb, hk⟩; refine ⟨_, rfl, ?_⟩; replace BK101 := Z110.k (KeepBut.blk hk (g' := gb101) (o := .cells #[.int .i64 0, .int .i64 0, .int .i64 0, .slice none 0 0] 28 (0, 0)) Z110.z4 NB101_0.out (by simp)); replace HK := Z110.k (KeepBut.trans Z110.z0 hk (.inl rfl)); replace HB := Z110.k (hb); replace HI0 := Z110.k (hi); (try clear hb); (try clear hb2); (try clear hk); (try clear hi)) | ((with_reducible refine gate_callee (f := 83) rfl ?_); refine goesL_ (some 13) rfl rfl Try.func83 (by kernel_rfl) rfl #[.pointer (some ⟨g, 0, none⟩), .int .i64 5] rfl Z110.z3 ?_; (with_reducible refine (spec_l00Src_pick.calls g s0_0 t106 t107 5 t108 t109 t110 w0 _ ?side1 ?side2 A4.out).mono ?_); (case side1 => exact Z110.z1); (case side2 => exact Z110.z2); rintro e w9 ⟨rfl, hi, hb, hk⟩; refine ⟨_, rfl, ?_⟩; replace BK101 := Z110.k (KeepBut.blk hk (g' := gb101) (o := .cells #[.int .i64 0, .int .i64 0, .int .i64 0, .slice none 0 0] 28 (0, 0)) Z110.z4 NB101_0.out (by simp)); replace HK := Z110.k (KeepBut.trans Z110.z0 hk (.inl rfl)); replace HB := Z110.k (hb); replace HI0 := Z110.k (hi); (try clear hb); (try clear hb2); (try clear hk); (try clear hi)) | ((with_reducible refine gate_callee (f := 123) rfl ?_); refine goesL_ (some 14) rfl rfl Try.func123 (by kernel_rfl) rfl #[.pointer (some ⟨g, 0, none⟩), .int .i64 t102, .int .i64 t105, .int .i64 t108] rfl Z110.z3 ?_; (with_reducible refine (spec_l03Fill.calls k g s0_0 t109 t110 t102 t105 t108 t111 t112 t113 t114 t117 t118 w0 _ ?side1 ?side2 A5.out).mono ?_); (case side1 => exact Z110.z1); (case side2 => exact Z110.z2); rintro e w10 ⟨v115, rfl, ho0, hi, hb, hk⟩; refine ⟨_, rfl, ?_⟩; have HO116 := Z110.k (Kd.R_lower ho0 (keep_size (w := w) (g := g) (row := none) Z110.z0)); replace BK101 := Z110.k (KeepBut.blk hk (g' := gb101) (o := .cells #[.int .i64 0, .int .i64 0, .int .i64 0, .slice none 0 0] 28 (0, 0)) Z110.z4 NB101_0.out (by simp)); replace HK := Z110.k (KeepBut.trans Z110.z0 hk (.inl rfl)); replace HB := Z110.k (hb); replace HI0 := Z110.k (hi); (try clear hb); (try clear hb2); (try clear hk); (try clear hi); (try clear ho0); have hnb11 := NB101_0.out; have hnc11 := NB0_101.out; obtain ⟨hcz12_0, hcz12_1, hcz12_2, hcz12_3, hfz12_0, hfz12_1, hfz12_2, hfz12_3⟩ := cells4 BK101.out; obtain ⟨Ao13, co13, eo13⟩ := Kd.R_slice HO116.out; subst eo13))
 refine bodyPost_ret (results_cell_row rfl _ _ gb101 28 #[.int .i64 t111, .int .i64 t112, .int .i64 t113, .slice Ao13 t114.length co13] (0, 0) _ rfl (by (with_reducible repeat (first | refine blk_drewN ?_ _ | refine blk_drew ?_ | refine blk_alloc ?_ _)); refine blk_put (cs := #[.int .i64 t111, .int .i64 t112, .int .i64 t113, .slice none 0 0]) ?_ 3 _ rfl; (with_reducible repeat (first | refine blk_drewN ?_ _ | refine blk_drew ?_ | refine blk_alloc ?_ _)); refine blk_put (cs := #[.int .i64 t111, .int .i64 t112, .int .i64 0, .slice none 0 0]) ?_ 2 _ rfl; (with_reducible repeat (first | refine blk_drewN ?_ _ | refine blk_drew ?_ | refine blk_alloc ?_ _)); refine blk_put (cs := #[.int .i64 t111, .int .i64 0, .int .i64 0, .slice none 0 0]) ?_ 1 _ rfl; (with_reducible repeat (first | refine blk_drewN ?_ _ | refine blk_drew ?_ | refine blk_alloc ?_ _)); refine blk_put (cs := #[.int .i64 0, .int .i64 0, .int .i64 0, .slice none 0 0]) ?_ 0 _ rfl; (with_reducible repeat (first | refine blk_drewN ?_ _ | refine blk_drew ?_ | refine blk_alloc ?_ _)); exact BK101.out) Try.underlying28 rfl (by kernel_rfl)) rfl ?_
 exact ⟨_, (by first | rfl | (simp [errW_none, errW_some] <;> rfl) | (simp [*, errW_none, errW_some] <;> rfl)), (by (with_reducible repeat (first | apply Kd.R_alloc | apply Kd.R_drewN | apply Kd.R_drew)); exact Kd.R_mono (Kd.R_far (p := ⟨gb101, 3, none⟩) (Kd.R_far (p := ⟨gb101, 2, none⟩) (Kd.R_far (p := ⟨gb101, 1, none⟩) (Kd.R_far (p := ⟨gb101, 0, none⟩) (Kd.R_types HO116.out BK101.out (by decide)) (fun _ hk => hk.2) (.int .i64 t111)) (fun _ hk => hk.2) (.int .i64 t112)) (fun _ hk => hk.2) (.int .i64 t113)) (fun _ hk => hk.2) (.slice Ao13 t114.length co13)) (fun _ hk => trivial)), Z110.z1, Z110.z2, Z110.z0⟩
end Go.Proofs.Ytmbbjmkcbpefhaa.F
end
