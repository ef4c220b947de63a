-- Texts of this claim, merged by pack.py (a program of this session's).
import Derived.Test.YtioooobmfcmefaaQFnExactApplyMatrix0
import Derived.Test.YtioooobmfcmefaaQFnExactApplyMatrix1
import Derived.Test.YtioooobmfcmefaaQFnExactApplyMatrix2
import Derived.Test.YtioooobmfcmefaaQFnExactApplyMatrix4
import Derived.KernelRfl

section
namespace Go.Proofs.Ytioooobmfcmefaa.F
open Go.RowKit Go.Proofs.YtioooobmfcmefaaW.PrintWords Go.Proofs.YtioooobmfcmefaaW.PrintLast Go.Proofs.YtioooobmfcmefaaW.PrintMore
attribute [local go_sem] max2_int min2_int max_two min_two max_three min_three max_four min_four   -- for this text's walks alone
set_option linter.unusedVariables false
set_option linter.unusedSimpArgs false

/-! ### laws_heldMatrix: function 19 -/
def laws_heldMatrix.f (k : Nat) (a0_0 : Int) (a0_1 : Int) (a0_2 : Int) (l0_3 : List Int) (a1 : Int) : Option (Int) := (laws_heldInt64S.f k l0_3 a1).bind fun t102 => (if t102 < 0 then (some (-1)) else (some t102))
theorem laws_heldMatrix.mono : ∀ a0 a1 a2 a3 a4 k, LeO (laws_heldMatrix.f k a0 a1 a2 a3 a4) (laws_heldMatrix.f (k + 1) a0 a1 a2 a3 a4) := by
  intro a0 a1 a2 a3 a4 k
  unfold laws_heldMatrix.f
  repeat' first
      | (with_reducible exact laws_heldInt64S.mono _ _ _)
      | (with_reducible exact LeO.refl _)
      | (with_reducible exact LeO.none _)
      | (with_reducible refine LeO.ite ?_ ?_)
      | (with_reducible refine LeO.bind ?_ (fun _ => ?_))
      | exact laws_heldInt64S.mono _ _ _
      | exact LeO.none _
      | refine LeO.ite ?_ ?_
      | refine LeO.bind ?_ (fun _ => ?_)
theorem Z19.z3 {P : Prop} (h : P := by (try simp only [List.map_toArray, List.map_cons, List.map_nil]); first | done | rfl | (simp only [List.length_drop, List.length_take]; rfl)) : P := h
theorem Z19.z2 {P : Prop} (h : P := by repeat (first | (with_reducible first | exact HB.out | apply below_alloc | apply pw_below_drewN | apply below_drew1 | refine below_set ?_ GE101.out) | exact HB.out)) : P := h
theorem Z19.z1 {P : Prop} (h : P := by repeat (first | exact (Kd.C_below HR0_3.out HB.out) | (with_reducible refine Kd.C_alloc ?_ _) | (with_reducible refine Kd.C_drewN ?_ _) | (with_reducible refine Kd.C_drew ?_))) : P := h
theorem Z19.z0 {P : Prop} (h : P := by repeat (first | (with_reducible first | exact HB.out | apply below_alloc | apply pw_below_drewN | apply below_drew1) | exact HB.out)) : P := h
set_option maxHeartbeats 8000000 in
set_option maxRecDepth 100000 in
theorem laws_heldMatrix.calls (k : Nat) (a0_0 : Int) (a0_1 : Int) (a0_2 : Int) (A0_3 : Option Addr) (c0_3 : Nat) (l0_3 : List Int) (a1 : Int) (r : Int) (w : World) (hr0_3 : Kd.C (Kd.int .i64) w A0_3 l0_3.length l0_3) (hc0_3 : l0_3.length ≤ c0_3) (h : laws_heldMatrix.f k a0_0 a0_1 a0_2 l0_3 a1 = some r) :
  Calls Try.prog 19 #[.agg #[.int .i64 a0_0, .int .i64 a0_1, .int .i64 a0_2, .slice A0_3 l0_3.length c0_3], .int .i64 a1] w fun e w' => e = .returned (.int .i64 r) ∧ Below w.heap.size w w' := by
 have hu24 := Try.underlying24
 have HR0_3 := Aside0.mk hr0_3
 have HC0_3 := Aside0.mk hc0_3
 clear hr0_3 hc0_3
 have HB := Aside0.mk (Below.refl w.heap.size w)
 have H : ((laws_heldInt64S.f k l0_3 a1).bind fun t102 => (if t102 < 0 then (some (-1)) else (some t102))) = some r := h
 clear h
 replace H := Option.bind_eq_some_iff.mp H
 obtain ⟨t102, A30, H⟩ := H
 replace H : (if t102 < 0 then (some (-1)) else (some t102)) = some r := H
 have A3 := Aside0.mk A30
 clear A30
 by_cases c4 : t102 < 0
 ·rw [if_pos c4] at H
  have c4b0 : decide (t102 < 0) = true := decide_eq_true c4
  clear c4
  obtain rfl := Option.some.inj H
  go_enter Try.func19, Try.ntmps19
  go_wp2_with (first | ((with_reducible refine gate_dst (N := 2) rfl ?_); refine box_event ?hg (N := 2) ?hd (cs := #[.int .i64 a0_0, .int .i64 a0_1, .int .i64 a0_2, .slice A0_3 l0_3.length c0_3]) (t := 24) ?hr ?_; (case hd => rfl); (case hg => rfl); (case hr => first | (go_simp; done) | (go_simp; rfl)); intro gb101 hg w5 hbox hb; have n0_ := Aside0.mk (below_step Z19.z0 hb); have n1_ := Aside0.mk (hbox); have n2_ := Aside0.mk (show w.heap.size ≤ gb101 from (by rw [hg]; exact (below_size Z19.z0))); have n3_ := Aside0.mk (show w.heap.size ≤ gb101 from (by rw [hg]; exact (below_size Z19.z0))); clear HB; have HB := n0_; have BK101 := n1_; have GW101 := n2_; have GE101 := n3_; clear n0_ n1_ n2_ n3_; clear hb hbox hg; have hcz6_0 : w5.cell? ⟨gb101, 0, none⟩ = some (.int .i64 a0_0) := (blk_cell BK101.out 0).trans rfl; have hcz6_1 : w5.cell? ⟨gb101, 1, none⟩ = some (.int .i64 a0_1) := (blk_cell BK101.out 1).trans rfl; have hcz6_2 : w5.cell? ⟨gb101, 2, none⟩ = some (.int .i64 a0_2) := (blk_cell BK101.out 2).trans rfl; have hcz6_3 : w5.cell? ⟨gb101, 3, none⟩ = some (.slice A0_3 l0_3.length c0_3) := (blk_cell BK101.out 3).trans rfl; have hfz6_0 := blk_frozen BK101.out 0; have hfz6_1 := blk_frozen BK101.out 1; have hfz6_2 := blk_frozen BK101.out 2; have hfz6_3 := blk_frozen BK101.out 3) | ((with_reducible refine gate_callee (f := 31) rfl ?_); refine goesL_ (some 8) rfl rfl Try.func31 (by kernel_rfl) rfl #[.slice A0_3 l0_3.length c0_3, .int .i64 a1] rfl Z19.z3 ?_; (with_reducible refine (laws_heldInt64S.calls k _ _ l0_3 a1 t102 _ ?side1 ?side2 A3.out).mono ?_); (case side1 => exact Z19.z1); (case side2 => exact HC0_3.out); rintro e w' ⟨rfl, ⟨nd, rfl⟩⟩; refine ⟨_, rfl, ?_⟩))
  go_ret
  exact ⟨(by first | rfl | (simp [errW_none, errW_some] <;> rfl) | (simp [*, errW_none, errW_some] <;> rfl)), Z19.z2⟩
 rw [if_neg c4] at H
 have c4b0 : decide (t102 < 0) = false := decide_eq_false c4
 clear c4
 obtain rfl := Option.some.inj H
 go_enter Try.func19, Try.ntmps19
 go_wp2_with (first | ((with_reducible refine gate_dst (N := 2) rfl ?_); refine box_event ?hg (N := 2) ?hd (cs := #[.int .i64 a0_0, .int .i64 a0_1, .int .i64 a0_2, .slice A0_3 l0_3.length c0_3]) (t := 24) ?hr ?_; (case hd => rfl); (case hg => rfl); (case hr => first | (go_simp; done) | (go_simp; rfl)); intro gb101 hg w7 hbox hb; have n0_ := Aside0.mk (below_step Z19.z0 hb); have n1_ := Aside0.mk (hbox); have n2_ := Aside0.mk (show w.heap.size ≤ gb101 from (by rw [hg]; exact (below_size Z19.z0))); have n3_ := Aside0.mk (show w.heap.size ≤ gb101 from (by rw [hg]; exact (below_size Z19.z0))); clear HB; have HB := n0_; have BK101 := n1_; have GW101 := n2_; have GE101 := n3_; clear n0_ n1_ n2_ n3_; clear hb hbox hg; have hcz8_0 : w7.cell? ⟨gb101, 0, none⟩ = some (.int .i64 a0_0) := (blk_cell BK101.out 0).trans rfl; have hcz8_1 : w7.cell? ⟨gb101, 1, none⟩ = some (.int .i64 a0_1) := (blk_cell BK101.out 1).trans rfl; have hcz8_2 : w7.cell? ⟨gb101, 2, none⟩ = some (.int .i64 a0_2) := (blk_cell BK101.out 2).trans rfl; have hcz8_3 : w7.cell? ⟨gb101, 3, none⟩ = some (.slice A0_3 l0_3.length c0_3) := (blk_cell BK101.out 3).trans rfl; have hfz8_0 := blk_frozen BK101.out 0; have hfz8_1 := blk_frozen BK101.out 1; have hfz8_2 := blk_frozen BK101.out 2; have hfz8_3 := blk_frozen BK101.out 3) | ((with_reducible refine gate_callee (f := 31) rfl ?_); refine goesL_ (some 8) rfl rfl Try.func31 (by kernel_rfl) rfl #[.slice A0_3 l0_3.length c0_3, .int .i64 a1] rfl Z19.z3 ?_; (with_reducible refine (laws_heldInt64S.calls k _ _ l0_3 a1 t102 _ ?side1 ?side2 A3.out).mono ?_); (case side1 => exact Z19.z1); (case side2 => exact HC0_3.out); rintro e w' ⟨rfl, ⟨nd, rfl⟩⟩; refine ⟨_, rfl, ?_⟩))
 go_ret
 exact ⟨(by first | rfl | (simp [errW_none, errW_some] <;> rfl) | (simp [*, errW_none, errW_some] <;> rfl)), Z19.z2⟩

end Go.Proofs.Ytioooobmfcmefaa.F
end

section
namespace Go.Proofs.Ytioooobmfcmefaa.F
open Go.RowKit Go.Proofs.YtioooobmfcmefaaW.PrintWords Go.Proofs.YtioooobmfcmefaaW.PrintLast Go.Proofs.YtioooobmfcmefaaW.PrintMore
attribute [local go_sem] max2_int min2_int max_two min_two max_three min_three max_four min_four   -- for this text's walks alone
set_option linter.unusedVariables false
set_option linter.unusedSimpArgs false

/-! ### spec_l03Both: function 65 -/
def spec_l03Both.f (k : Nat) (a0_0 : Int) (a0_1 : Int) (a0_2 : Int) (l0_3 : List Int) (a1_0 : Int) (a1_1 : Int) (a1_2 : Int) (l1_3 : List Int) : Option (Bool) := (spec_l03Ok.f k a0_0 a0_1 a0_2 l0_3).bind fun t103 => (if t103 = true then ((spec_l03Ok.f k a1_0 a1_1 a1_2 l1_3).bind fun t104 => (some t104)) else (some false))
theorem spec_l03Both.mono : ∀ a0 a1 a2 a3 a4 a5 a6 a7 k, LeO (spec_l03Both.f k a0 a1 a2 a3 a4 a5 a6 a7) (spec_l03Both.f (k + 1) a0 a1 a2 a3 a4 a5 a6 a7) := by
  intro a0 a1 a2 a3 a4 a5 a6 a7 k
  unfold spec_l03Both.f
  repeat' first
      | (with_reducible exact spec_l03Ok.mono _ _ _ _ _)
      | (with_reducible exact LeO.refl _)
      | (with_reducible exact LeO.none _)
      | (with_reducible refine LeO.ite ?_ ?_)
      | (with_reducible refine LeO.bind ?_ (fun _ => ?_))
      | exact spec_l03Ok.mono _ _ _ _ _
      | exact LeO.none _
      | refine LeO.ite ?_ ?_
      | refine LeO.bind ?_ (fun _ => ?_)
theorem Z65.bb {w0 w w1 : World} {g : Nat} {o : Obj} (_B : Aside0 (w0.heap[g]? = some o)) (h : w.heap[g]? = some o) (hb : Below w.heap.size w w1) : w1.heap[g]? = some o := blk_below h hb
theorem Z65.bl {w0 w : World} {g : Nat} {o : Obj} (_B : Aside0 (w0.heap[g]? = some o)) (h : w.heap[g]? = some o) : g < w.heap.size := blk_lt h
theorem Z65.z4 {P : Prop} (h : P := by (try simp only [List.map_toArray, List.map_cons, List.map_nil]); first | done | rfl | (simp only [List.length_drop, List.length_take]; rfl)) : P := h
theorem Z65.z3 {P : Prop} (h : P := by repeat (first | exact (Kd.C_below HR0_3.out HB.out) | (with_reducible refine Kd.C_alloc ?_ _) | (with_reducible refine Kd.C_drewN ?_ _) | (with_reducible refine Kd.C_drew ?_))) : P := h
theorem Z65.z2 {P : Prop} (h : P := by (with_reducible repeat (first | refine blk_drewN ?_ _ | refine blk_drew ?_ | refine blk_alloc ?_ _)); exact BK102.out) : P := h
theorem Z65.z1 {P : Prop} (h : P := by (with_reducible repeat (first | refine blk_drewN ?_ _ | refine blk_drew ?_ | refine blk_alloc ?_ _)); exact BK101.out) : P := h
theorem Z65.z0 {P : Prop} (h : P := by repeat (first | (with_reducible first | exact HB.out | apply below_alloc | apply pw_below_drewN | apply below_drew1 | refine below_set ?_ GE101.out | refine below_set ?_ GE102.out) | exact HB.out)) : P := h
set_option maxHeartbeats 8000000 in
set_option maxRecDepth 100000 in
theorem spec_l03Both.calls (k : Nat) (a0_0 : Int) (a0_1 : Int) (a0_2 : Int) (A0_3 : Option Addr) (c0_3 : Nat) (l0_3 : List Int) (a1_0 : Int) (a1_1 : Int) (a1_2 : Int) (A1_3 : Option Addr) (c1_3 : Nat) (l1_3 : List Int) (r : Bool) (w : World) (hr0_3 : Kd.C (Kd.int .i64) w A0_3 l0_3.length l0_3) (hc0_3 : l0_3.length ≤ c0_3) (hr1_3 : Kd.C (Kd.int .i64) w A1_3 l1_3.length l1_3) (hc1_3 : l1_3.length ≤ c1_3) {g0_ : Nat} (hbk0_ : w.heap[g0_]? = some (.cells #[.int .i64 a0_0, .int .i64 a0_1, .int .i64 a0_2, .slice A0_3 l0_3.length c0_3] 24 (0, 0))) {g1_ : Nat} (hbk1_ : w.heap[g1_]? = some (.cells #[.int .i64 a1_0, .int .i64 a1_1, .int .i64 a1_2, .slice A1_3 l1_3.length c1_3] 24 (0, 0))) (h : spec_l03Both.f k a0_0 a0_1 a0_2 l0_3 a1_0 a1_1 a1_2 l1_3 = some r) :
  Calls Try.prog 65 #[.pointer (some ⟨g0_, 0, none⟩), .pointer (some ⟨g1_, 0, none⟩)] w fun e w' => e = .returned (.bool r) ∧ Below w.heap.size w w' := by
 have hu24 := Try.underlying24
 have HR0_3 := Aside0.mk hr0_3
 have HC0_3 := Aside0.mk hc0_3
 clear hr0_3 hc0_3
 have HR1_3 := Aside0.mk hr1_3
 have HC1_3 := Aside0.mk hc1_3
 clear hr1_3 hc1_3
 have HB := Aside0.mk (Below.refl w.heap.size w)
 have H : ((spec_l03Ok.f k a0_0 a0_1 a0_2 l0_3).bind fun t103 => (if t103 = true then ((spec_l03Ok.f k a1_0 a1_1 a1_2 l1_3).bind fun t104 => (some t104)) else (some false))) = some r := h
 clear h
 replace H := Option.bind_eq_some_iff.mp H
 obtain ⟨t103, A30, H⟩ := H
 replace H : (if t103 = true then ((spec_l03Ok.f k a1_0 a1_1 a1_2 l1_3).bind fun t104 => (some t104)) else (some false)) = some r := H
 have A3 := Aside0.mk A30
 clear A30
 by_cases c4 : t103 = true
 ·subst c4
  have H1 : ((spec_l03Ok.f k a1_0 a1_1 a1_2 l1_3).bind fun t104 => (some t104)) = some r := by rw [if_pos rfl] at H; exact H
  clear H
  have H := H1
  clear H1
  replace H := Option.bind_eq_some_iff.mp H
  obtain ⟨t104, A50, H⟩ := H
  replace H : (some t104) = some r := H
  have A5 := Aside0.mk A50
  clear A50
  obtain rfl := Option.some.inj H
  go_enter Try.func65, Try.ntmps65
  have BK101 := Aside0.mk hbk0_
  have BK102 := Aside0.mk hbk1_
  go_wp2_with (first | ((with_reducible refine gate_callee (f := 57) rfl ?_); refine goesL_ (some 6) rfl rfl Try.func57 (by kernel_rfl) rfl #[.pointer (some ⟨g0_, 0, none⟩)] rfl Z65.z4 ?_; (with_reducible refine (spec_l03Ok.calls k a0_0 a0_1 a0_2 A0_3 c0_3 l0_3 true _ ?side1 ?side2 ?side3 A3.out).mono ?_); (case side1 => exact Z65.z3); (case side2 => exact HC0_3.out); (case side3 => exact Z65.z1); rintro e w8 ⟨rfl, hb⟩; refine ⟨_, rfl, ?_⟩; have n0_ := Aside0.mk (Z65.bb BK101 Z65.z1 hb); have n1_ := Aside0.mk (Z65.bb BK102 Z65.z2 hb); have n2_ := Aside0.mk (below_step Z65.z0 hb); clear BK101 BK102 HB; have BK101 := n0_; have BK102 := n1_; have HB := n2_; clear n0_ n1_ n2_; (try clear hb); (try clear hb2); (try clear hk); (try clear hi)) | (go_at_call 57; (with_reducible refine (spec_l03Ok.calls k a1_0 a1_1 a1_2 A1_3 c1_3 l1_3 t104 _ ?side1 ?side2 ?side3 A5.out).mono ?_); (case side1 => exact (by repeat (first | exact (Kd.C_below HR1_3.out HB.out) | (with_reducible refine Kd.C_alloc ?_ _) | (with_reducible refine Kd.C_drewN ?_ _) | (with_reducible refine Kd.C_drew ?_)))); (case side2 => exact HC1_3.out); (case side3 => exact Z65.z2); rintro e w9 ⟨rfl, hb⟩; have n0_ := Aside0.mk (Z65.bb BK101 Z65.z1 hb); have n1_ := Aside0.mk (Z65.bb BK102 Z65.z2 hb); have n2_ := Aside0.mk (below_step Z65.z0 hb); clear BK101 BK102 HB; have BK101 := n0_; have BK102 := n1_; have HB := n2_; clear n0_ n1_ n2_; (try clear hb); (try clear hb2); (try clear hk); (try clear hi)))
  go_ret
  exact ⟨(by first | rfl | (simp [errW_none, errW_some] <;> rfl) | (simp [*, errW_none, errW_some] <;> rfl)), Z65.z0⟩
 replace c4 := Bool.eq_false_iff.mpr c4
 subst c4
 have H1 : (some false) = some r := by rw [if_neg (show ¬ (false = true) by decide)] at H; exact H
 clear H
 have H := H1
 clear H1
 obtain rfl := Option.some.inj H
 go_enter Try.func65, Try.ntmps65
 have BK101 := Aside0.mk hbk0_
 have BK102 := Aside0.mk hbk1_
 go_wp2_with (first | ((with_reducible refine gate_callee (f := 57) rfl ?_); refine goesL_ (some 6) rfl rfl Try.func57 (by kernel_rfl) rfl #[.pointer (some ⟨g0_, 0, none⟩)] rfl Z65.z4 ?_; (with_reducible refine (spec_l03Ok.calls k a0_0 a0_1 a0_2 A0_3 c0_3 l0_3 false _ ?side1 ?side2 ?side3 A3.out).mono ?_); (case side1 => exact Z65.z3); (case side2 => exact HC0_3.out); (case side3 => exact Z65.z1); rintro e w12 ⟨rfl, hb⟩; refine ⟨_, rfl, ?_⟩; have n0_ := Aside0.mk (Z65.bb BK101 Z65.z1 hb); have n1_ := Aside0.mk (Z65.bb BK102 Z65.z2 hb); have n2_ := Aside0.mk (below_step Z65.z0 hb); clear BK101 BK102 HB; have BK101 := n0_; have BK102 := n1_; have HB := n2_; clear n0_ n1_ n2_; (try clear hb); (try clear hb2); (try clear hk); (try clear hi)))
 go_ret
 exact ⟨(by first | rfl | (simp [errW_none, errW_some] <;> rfl) | (simp [*, errW_none, errW_some] <;> rfl)), Z65.z0⟩

end Go.Proofs.Ytioooobmfcmefaa.F
end

section
namespace Go.Proofs.Ytioooobmfcmefaa.F
open Go.RowKit Go.Proofs.YtioooobmfcmefaaW.PrintWords Go.Proofs.YtioooobmfcmefaaW.PrintLast Go.Proofs.YtioooobmfcmefaaW.PrintMore
attribute [local go_sem] max2_int min2_int max_two min_two max_three min_three max_four min_four   -- for this text's walks alone
set_option linter.unusedVariables false
set_option linter.unusedSimpArgs false

/-! ### spec_l03Zero: function 50 -/
def spec_l03Zero.f (a0 : Int) (a1 : Int) (a2 : Int) : Option (Int × Int × Int × List Int) := if 0 ≤ (wrap64 (a1 * a2)) then (if (wrap64 (a1 * a2) : Int).toNat ≤ 35184372088832 then (some (a0, a1, a2, (List.replicate (wrap64 (a1 * a2) : Int).toNat 0))) else (none)) else (none)
theorem Z50.bb {w0 w w1 : World} {g : Nat} {o : Obj} (_B : Aside0 (w0.heap[g]? = some o)) (h : w.heap[g]? = some o) (hb : Below w.heap.size w w1) : w1.heap[g]? = some o := blk_below h hb
theorem Z50.bl {w0 w : World} {g : Nat} {o : Obj} (_B : Aside0 (w0.heap[g]? = some o)) (h : w.heap[g]? = some o) : g < w.heap.size := blk_lt h
theorem Z50.z1 {P : Prop} (h : P := by repeat (first | (with_reducible first | exact HB.out | apply below_alloc | apply pw_below_drewN | apply below_drew1) | exact HB.out)) : P := h
theorem Z50.z0 {P : Prop} (h : P := by repeat (first | (with_reducible first | exact HB.out | apply below_alloc | apply pw_below_drewN | apply below_drew1 | refine below_set ?_ GE101.out) | exact HB.out)) : P := h
set_option maxHeartbeats 8000000 in
set_option maxRecDepth 100000 in
theorem spec_l03Zero.calls (a0 : Int) (a1 : Int) (a2 : Int) (r1 : Int) (r2 : Int) (r3 : Int) (r4 : List Int) (w : World) (h : spec_l03Zero.f a0 a1 a2 = some (r1, r2, r3, r4)) :
  Calls Try.prog 50 #[.int .i64 a0, .int .i64 a1, .int .i64 a2] w fun e w' => ∃ v3_ : Value, e = .returned (.agg #[.int .i64 r1, .int .i64 r2, .int .i64 r3, v3_]) ∧ Kd.R (Kd.int .i64) 2 w' w.heap.size (fun _ => True) v3_ r4 ∧ Below w.heap.size w w' := by
 have hu24 := Try.underlying24
 have HB := Aside0.mk (Below.refl w.heap.size w)
 have H : (if 0 ≤ (wrap64 (a1 * a2)) then (if (wrap64 (a1 * a2) : Int).toNat ≤ 35184372088832 then (some (a0, a1, a2, (List.replicate (wrap64 (a1 * a2) : Int).toNat 0))) else (none)) else (none)) = some (r1, r2, r3, r4) := h
 clear h
 obtain ⟨ji4, hji4⟩ : ∃ j_ : Int, (wrap64 (a1 * a2)) = j_ := ⟨_, rfl⟩
 replace H : (if 0 ≤ (ji4) then (if (ji4 : Int).toNat ≤ 35184372088832 then (some (a0, a1, a2, (List.replicate (ji4 : Int).toNat 0))) else (none)) else (none)) = some (r1, r2, r3, r4) := by first | (rw [hji4] at H; exact H) | (simp only [hji4] at H ⊢; exact H)
 have hji4w : (IntKind.i64.wrap (a1 * a2)) = ji4 := (i64_w _).trans hji4
 by_cases c5 : 0 ≤ (ji4)
 ·rw [if_pos c5] at H
  have c5b0 := eq_true c5
  have c5b1 : decide (0 ≤ (ji4)) = true := decide_eq_true c5
  clear c5
  by_cases c6 : (ji4 : Int).toNat ≤ 35184372088832
  ·rw [if_pos c6] at H
   have c6b0 := eq_true c6
   have c6b1 : decide ((ji4 : Int).toNat ≤ 35184372088832) = true := decide_eq_true c6
   clear c6
   obtain ⟨y102, hy102⟩ : ∃ y_ : List Int, y_ = (List.replicate (ji4 : Int).toNat 0) := ⟨_, rfl⟩
   replace H : (some (a0, a1, a2, y102)) = some (r1, r2, r3, r4) := by first | (rw [hy102]; with_reducible exact H) | (have H2_ := (Option.bind_some _ _).symm.trans H; rw [hy102]; with_reducible exact H2_) | (have H2_ := (Option.bind_some _ _).symm.trans H; with_reducible exact H2_) | with_reducible exact H | (rw [hy102]; exact H) | exact H
   have Ny102 := Aside0.mk hy102
   clear hy102
   simp only [Option.some.injEq, Prod.mk.injEq] at H
   obtain ⟨rfl, rfl, rfl, rfl⟩ := H
   go_enter Try.func50, Try.ntmps50
   go_wp2_with (first | ((with_reducible refine gate_dst (N := 6) rfl ?_); refine box_event ?hg (N := 6) ?hd (cs := #[.int .i64 0, .int .i64 0, .int .i64 0, .slice none 0 0]) (t := 24) ?hr ?_; (case hd => rfl); (case hg => rfl); (case hr => first | (go_simp; done) | (go_simp; rfl)); intro gb101 hg w7 hbox hb; have n0_ := Aside0.mk (below_step Z50.z1 hb); have n1_ := Aside0.mk (hbox); have n2_ := Aside0.mk (show w.heap.size ≤ gb101 from (by rw [hg]; exact (below_size Z50.z1))); have n3_ := Aside0.mk (show w.heap.size ≤ gb101 from (by rw [hg]; exact (below_size Z50.z1))); clear HB; have HB := n0_; have BK101 := n1_; have GW101 := n2_; have GE101 := n3_; clear n0_ n1_ n2_ n3_; clear hb hbox hg) | ((with_reducible refine gate_dst (N := 13) rfl ?_); refine Kd.R_make (Kd.int .i64) _ 2 rfl (N := 13) rfl 22 _ _ rfl ji4 rfl rfl Try.underlying22 (.int .i64 0) 8 info2 rfl (by decide) (by omega) 0 (ok := fun _ => True) (okp := fun _ => True) rfl (fun _ hk => hk) trivial (of_decide_eq_true (by first | (with_reducible assumption) | assumption)) (Nat.le_trans (Nat.mul_le_mul_right _ (of_decide_eq_true (by first | (with_reducible assumption) | assumption) : ji4.toNat ≤ 35184372088832)) (by omega)) (Below.refl _ _) (Nat.le_refl _) ?_; intro v103 w8 ho9 hb hg_ hnew_; clear hg_ hnew_; (first | rw [← Ny102.out] at ho9 | (simp only [Int.reduceToNat] at ho9; rw [← Ny102.out] at ho9)); have n0_ := Aside0.mk (Kd.R_lower ho9 (below_size Z50.z0)); have n1_ := Aside0.mk (Z50.bb BK101 (by (with_reducible repeat (first | refine blk_drewN ?_ _ | refine blk_drew ?_ | refine blk_alloc ?_ _)); exact BK101.out) hb); have n2_ := Aside0.mk (below_step Z50.z0 hb); clear BK101 HB; have HO104 := n0_; have BK101 := n1_; have HB := n2_; clear n0_ n1_ n2_; clear hb ho9; obtain ⟨Ao10, co10, eo10⟩ := Kd.R_slice HO104.out; subst eo10; have hcz11_0 : w8.cell? ⟨gb101, 0, none⟩ = some (.int .i64 0) := (blk_cell BK101.out 0).trans rfl; have hcz11_1 : w8.cell? ⟨gb101, 1, none⟩ = some (.int .i64 0) := (blk_cell BK101.out 1).trans rfl; have hcz11_2 : w8.cell? ⟨gb101, 2, none⟩ = some (.int .i64 0) := (blk_cell BK101.out 2).trans rfl; have hcz11_3 : w8.cell? ⟨gb101, 3, none⟩ = some (.slice none 0 0) := (blk_cell BK101.out 3).trans rfl; have hfz11_0 := blk_frozen BK101.out 0; have hfz11_1 := blk_frozen BK101.out 1; have hfz11_2 := blk_frozen BK101.out 2; have hfz11_3 := blk_frozen BK101.out 3))
   refine bodyPost_ret (results_cell_row rfl _ _ gb101 24 #[.int .i64 a0, .int .i64 a1, .int .i64 a2, .slice Ao10 y102.length co10] (0, 0) _ rfl (by (with_reducible repeat (first | refine blk_drewN ?_ _ | refine blk_drew ?_ | refine blk_alloc ?_ _)); refine blk_put (cs := #[.int .i64 a0, .int .i64 a1, .int .i64 a2, .slice none 0 0]) ?_ 3 _ rfl; (with_reducible repeat (first | refine blk_drewN ?_ _ | refine blk_drew ?_ | refine blk_alloc ?_ _)); refine blk_put (cs := #[.int .i64 a0, .int .i64 a1, .int .i64 0, .slice none 0 0]) ?_ 2 _ rfl; (with_reducible repeat (first | refine blk_drewN ?_ _ | refine blk_drew ?_ | refine blk_alloc ?_ _)); refine blk_put (cs := #[.int .i64 a0, .int .i64 0, .int .i64 0, .slice none 0 0]) ?_ 1 _ rfl; (with_reducible repeat (first | refine blk_drewN ?_ _ | refine blk_drew ?_ | refine blk_alloc ?_ _)); refine blk_put (cs := #[.int .i64 0, .int .i64 0, .int .i64 0, .slice none 0 0]) ?_ 0 _ rfl; (with_reducible repeat (first | refine blk_drewN ?_ _ | refine blk_drew ?_ | refine blk_alloc ?_ _)); exact BK101.out) Try.underlying24 rfl (by kernel_rfl)) rfl ?_
   exact ⟨_, (by first | rfl | (simp [errW_none, errW_some] <;> rfl) | (simp only [← hji4]; first | rfl | (simp [errW_none, errW_some] <;> rfl)) | (simp [*, errW_none, errW_some] <;> rfl)), (by (with_reducible repeat (first | apply Kd.R_alloc | apply Kd.R_drewN | apply Kd.R_drew)); exact Kd.R_mono (Kd.R_far (p := ⟨gb101, 3, none⟩) (Kd.R_far (p := ⟨gb101, 2, none⟩) (Kd.R_far (p := ⟨gb101, 1, none⟩) (Kd.R_far (p := ⟨gb101, 0, none⟩) (Kd.R_types HO104.out BK101.out (by decide)) (fun _ hk => hk.2) (.int .i64 a0)) (fun _ hk => hk.2) (.int .i64 a1)) (fun _ hk => hk.2) (.int .i64 a2)) (fun _ hk => hk.2) (.slice Ao10 y102.length co10)) (fun _ hk => trivial)), Z50.z0⟩
  rw [if_neg c6] at H
  exact absurd H (by simp)
 rw [if_neg c5] at H
 exact absurd H (by simp)

end Go.Proofs.Ytioooobmfcmefaa.F
end

section
set_option linter.unusedVariables false
set_option linter.unusedSimpArgs false
set_option linter.unusedSectionVars false
namespace Go.Proofs.Ytioooobmfcmefaa.Lin

def primes251 : List Nat := [2,3,5,7,11,13,17,19,23,29,31,37,41,43,47,53,59,61,67,71,73,79,83,89,97,101,103,107,109,113,127,131,137,139,149,151,157,163,167,173,179,181,191,193,197,199,211,223,227,229,233,239,241,251]
/-- A prime up to 251. -/
def isP (p : Int) : Bool := decide (2 ≤ p) && decide (p ≤ 251) && decide (p.toNat ∈ primes251)
theorem isP_ge {p : Int} (h : isP p = true) : 2 ≤ p ∧ p ≤ 251 := by unfold isP at h; simp at h; omega
/-- One row gets a multiple of another one. -/
def addRow (p : Int) (a b : List Int) (c : Int) : List Int := List.zipWith (fun x y => (x + c * y) % p) a b
theorem getD_set {α : Type} (l : List α) (k : Nat) (v d : α) (hk : k < l.length) (i : Nat) : (l.set k v).getD i d = if i = k then v else l.getD i d := by
  simp only [List.getD_eq_getElem?_getD, List.getElem?_set]
  by_cases h : k = i
  · subst h; simp [hk]
  · simp [h, Ne.symm h]
theorem addRow_getD {p : Int} {a b : List Int} {c : Int} {j : Nat} (ha : j < a.length) (hb : j < b.length) : (addRow p a b c).getD j 0 = (a.getD j 0 + c * b.getD j 0) % p := by
  unfold addRow
  simp [List.getD_eq_getElem?_getD, List.getElem?_zipWith, List.getElem?_eq_getElem ha, List.getElem?_eq_getElem hb]
end Go.Proofs.Ytioooobmfcmefaa.Lin
end

section
set_option linter.unusedVariables false
set_option linter.unusedSimpArgs false
set_option linter.unusedSectionVars false
namespace Go.Proofs.Ytioooobmfcmefaa.F
open Go.RowKit Go.Proofs.YtioooobmfcmefaaW.PrintWords Go.Proofs.YtioooobmfcmefaaW.PrintLast Go.Proofs.Ytioooobmfcmefaa.Lin

theorem w64_id {x : Int} (h0 : -9223372036854775808 ≤ x) (h1 : x ≤ 9223372036854775807) : wrap64 x = x := by unfold wrap64; omega
theorem same_in : impl_within.f = spec_l00In.f := rfl
theorem in_tells (n lo hi : Int) : spec_l00In.f n lo hi = some (decide (lo ≤ n ∧ n ≤ hi)) := by
  unfold spec_l00In.f
  by_cases h : n ≥ lo
  · have : lo ≤ n := h
    simp [this]
  · have : ¬ lo ≤ n := h
    simp [this]
theorem ask_prime : impl_ValidPrime.f = spec_l02Prime.f := by kernel_rfl
theorem prime_small : ∀ n, n < 252 → spec_l02Prime.f 20 (n : Nat) = some (isP n) := by decide +kernel
theorem prime_at (p : Int) : spec_l02Prime.f 20 p = some (isP p) := by
  by_cases h : 2 ≤ p ∧ p ≤ 251
  · obtain ⟨n, rfl⟩ := Int.eq_ofNat_of_zero_le (show 0 ≤ p by omega)
    exact prime_small n (by omega)
  · have : isP p = false := by unfold isP; simp; omega
    rw [this]
    unfold spec_l02Prime.f spec_l00In.f
    by_cases h1 : p ≥ 2
    · have : ¬ p ≤ 251 := by omega
      simp [h1, this]
    · simp [h1]
theorem prime_tells (p : Int) {k : Nat} (hk : 20 ≤ k) : spec_l02Prime.f k p = some (isP p) := at_rounds (spec_l02Prime.mono p) hk (prime_at p)
end Go.Proofs.Ytioooobmfcmefaa.F
end

section
set_option linter.unusedVariables false
set_option linter.unusedSimpArgs false
set_option linter.unusedSectionVars false
namespace Go.Proofs.Ytioooobmfcmefaa.F
open Go.RowKit Go.Proofs.YtioooobmfcmefaaW.PrintWords Go.Proofs.YtioooobmfcmefaaW.PrintLast Go.Proofs.Ytioooobmfcmefaa.Lin

theorem w64_succ {i n : Nat} (h : i < n) (hn : n ≤ 35184372088832) : wrap64 ((i : Int) + 1) = ((i + 1 : Nat) : Int) := by
  rw [w64_id (x := (i : Int) + 1) (by omega) (by omega)]; omega
theorem rd_nat (l : List Int) (i : Nat) : rd l (i : Int) = l.getD i 0 := by unfold rd; rw [Int.toNat_natCast]
theorem getD_at {α : Type} {l : List α} {i : Nat} {d : α} (h : i < l.length) : l.getD i d = l[i] := by simp [List.getD_eq_getElem?_getD, h]
theorem ext_getD {l m : List Int} (hl : l.length = m.length) (h : ∀ j, j < l.length → l.getD j 0 = m.getD j 0) : l = m := by
  refine List.ext_getElem hl (fun j h1 h2 => ?_)
  have := h j h1
  rwa [getD_at h1, getD_at h2] at this
theorem copy_loop {l : List Int} (hl : l.length ≤ 35184372088832) (d : Nat) : ∀ (k i : Nat) (acc : List Int), l.length - i = d → i ≤ l.length → d < k → acc.length = l.length → (∀ j, j < i → acc.getD j 0 = l.getD j 0) →
    laws_toInt64S.l0 k l acc i = some l := by
  induction d with
  | zero =>
    intro k i acc hd hi hk ha h
    obtain ⟨k, rfl⟩ : ∃ m, k = m + 1 := ⟨k - 1, by omega⟩
    simp only [laws_toInt64S.l0]
    rw [if_neg (by omega), ext_getD ha (fun j hj => h j (by omega))]
  | succ d ih =>
    intro k i acc hd hi hk ha h
    obtain ⟨k, rfl⟩ : ∃ m, k = m + 1 := ⟨k - 1, by omega⟩
    simp only [laws_toInt64S.l0]
    rw [if_pos (by omega), if_pos (by omega), if_pos (by omega), w64_succ (n := l.length) (by omega) hl, Int.toNat_natCast, rd_nat]
    refine ih k (i + 1) _ (by omega) (by omega) (by omega) (by simp [ha]) (fun j hj => ?_)
    rw [getD_set _ _ _ _ (by omega)]
    by_cases e : j = i
    · rw [if_pos e, e]
    · rw [if_neg e]; exact h j (by omega)
/-- A copy is what is copied. -/
theorem copy_tells {l : List Int} (hl : l.length ≤ 35184372088832) {k : Nat} (hk : l.length < k) : laws_toInt64S.f k l = some l := by
  unfold laws_toInt64S.f
  rw [if_pos (by omega), if_pos (by omega), Int.toNat_natCast]
  exact copy_loop hl l.length k 0 _ (by omega) (by omega) hk (by simp) (fun j hj => by omega)
theorem eq_loop {a b : List Int} (ha : a.length ≤ 35184372088832) (hab : a.length = b.length) (d : Nat) : ∀ (k i : Nat), a.length - i = d → i ≤ a.length → d < k → (∀ j, j < i → a.getD j 0 = b.getD j 0) →
    laws_eqInt64S.l0 k a b i = some (decide (a = b)) := by
  induction d with
  | zero =>
    intro k i hd hi hk h
    obtain ⟨k, rfl⟩ : ∃ m, k = m + 1 := ⟨k - 1, by omega⟩
    simp only [laws_eqInt64S.l0]
    rw [if_neg (by omega), decide_eq_true (ext_getD hab (fun j hj => h j (by omega)))]
  | succ d ih =>
    intro k i hd hi hk h
    obtain ⟨k, rfl⟩ : ∃ m, k = m + 1 := ⟨k - 1, by omega⟩
    simp only [laws_eqInt64S.l0]
    rw [if_pos (by omega), if_pos (by omega), if_pos (by omega), w64_succ (n := a.length) (by omega) ha, rd_nat, rd_nat]
    by_cases e : a.getD i 0 = b.getD i 0
    · rw [if_pos e]
      refine ih k (i + 1) (by omega) (by omega) (by omega) (fun j hj => ?_)
      by_cases e2 : j = i
      · rw [e2]; exact e
      · exact h j (by omega)
    · rw [if_neg e, decide_eq_false (fun h => e (by rw [h]))]
theorem eq_tells {a b : List Int} (ha : a.length ≤ 35184372088832) {k : Nat} (hk : a.length < k) : laws_eqInt64S.f k a b = some (decide (a = b)) := by
  unfold laws_eqInt64S.f
  by_cases h : a.length = b.length
  · rw [if_pos (by omega)]
    exact eq_loop ha h a.length k 0 (by omega) (by omega) hk (fun j hj => by omega)
  · rw [if_neg (by omega), decide_eq_false (fun e => h (by rw [e]))]
/-- The marks: m, m + 1, .. -/
def iota (m : Int) (n : Nat) : List Int := (List.range n).map (fun j : Nat => m + (j : Int))
theorem iota_length (m : Int) (n : Nat) : (iota m n).length = n := by unfold iota; simp
theorem iota_getD (m : Int) {n j : Nat} (h : j < n) : (iota m n).getD j 0 = m + j := by unfold iota; simp [List.getD_eq_getElem?_getD, h]
theorem mark_loop {m0 : Int} {n : Nat} (hm : 0 ≤ m0) (hm' : m0 + n ≤ 4611686018427387904) (hn : n ≤ 35184372088832) (d : Nat) : ∀ (k i : Nat) (acc : List Int) (m : Int), n - i = d → i ≤ n → d < k → acc.length = n → m = m0 + i → (∀ j, j < i → acc.getD j 0 = m0 + j) →
    laws_markInt64S.l0 k acc m i = some (m0 + n, iota m0 n) := by
  induction d with
  | zero =>
    intro k i acc m hd hi hk ha he h
    obtain ⟨k, rfl⟩ : ∃ m, k = m + 1 := ⟨k - 1, by omega⟩
    simp only [laws_markInt64S.l0]
    rw [if_neg (by omega)]
    have e1 : m = m0 + n := by omega
    have e2 : acc = iota m0 n := ext_getD (by rw [iota_length, ha]) (fun j hj => by rw [h j (by omega), iota_getD m0 (by omega)])
    rw [e1, e2]
  | succ d ih =>
    intro k i acc m hd hi hk ha he h
    obtain ⟨k, rfl⟩ : ∃ m, k = m + 1 := ⟨k - 1, by omega⟩
    simp only [laws_markInt64S.l0]
    rw [if_pos (by omega), if_pos (by omega), w64_succ (n := n) (by omega) hn, Int.toNat_natCast, w64_id (x := m + 1) (by omega) (by omega)]
    refine ih k (i + 1) _ (m + 1) (by omega) (by omega) (by omega) (by simp [ha]) (by omega) (fun j hj => ?_)
    rw [getD_set _ _ _ _ (by omega)]
    by_cases e : j = i
    · rw [if_pos e, e]; exact he
    · rw [if_neg e]; exact h j (by omega)
theorem mark_tells {l : List Int} {m : Int} (hm : 0 ≤ m) (hm' : m + l.length ≤ 4611686018427387904) (hl : l.length ≤ 35184372088832) {k : Nat} (hk : l.length < k) : laws_markInt64S.f k l m = some (m + l.length, iota m l.length) := by
  unfold laws_markInt64S.f
  exact mark_loop hm hm' hl l.length k 0 l m (by omega) (by omega) hk rfl (by omega) (fun j hj => by omega)
theorem held_loop {m0 : Int} {n : Nat} (hm : 0 ≤ m0) (hm' : m0 + n ≤ 4611686018427387904) (hn : n ≤ 35184372088832) (d : Nat) : ∀ (k i : Nat) (m : Int), n - i = d → i ≤ n → d < k → m = m0 + i →
    laws_heldInt64S.l0 k (iota m0 n) m i = some (m0 + n) := by
  induction d with
  | zero =>
    intro k i m hd hi hk he
    obtain ⟨k, rfl⟩ : ∃ m, k = m + 1 := ⟨k - 1, by omega⟩
    simp only [laws_heldInt64S.l0, iota_length]
    rw [if_neg (by omega)]
    have e1 : m = m0 + n := by omega
    rw [e1]
  | succ d ih =>
    intro k i m hd hi hk he
    obtain ⟨k, rfl⟩ : ∃ m, k = m + 1 := ⟨k - 1, by omega⟩
    simp only [laws_heldInt64S.l0, iota_length]
    rw [if_pos (by omega), if_pos (by omega), rd_nat, iota_getD m0 (by omega), if_pos he.symm, w64_succ (n := n) (by omega) hn, w64_id (x := m + 1) (by omega) (by omega)]
    exact ih k (i + 1) (m + 1) (by omega) (by omega) (by omega) (by omega)
theorem held_tells {m : Int} {n : Nat} (hm : 0 ≤ m) (hm' : m + n ≤ 4611686018427387904) (hn : n ≤ 35184372088832) {k : Nat} (hk : n < k) : laws_heldInt64S.f k (iota m n) m = some (m + n) := by
  unfold laws_heldInt64S.f
  exact held_loop hm hm' hn n k 0 m (by omega) (by omega) hk (by omega)
end Go.Proofs.Ytioooobmfcmefaa.F
end

section
set_option linter.unusedVariables false
set_option linter.unusedSimpArgs false
set_option linter.unusedSectionVars false
namespace Go.Proofs.Ytioooobmfcmefaa.F
open Go.RowKit Go.Proofs.YtioooobmfcmefaaW.PrintWords Go.Proofs.YtioooobmfcmefaaW.PrintLast Go.Proofs.Ytioooobmfcmefaa.Lin

/-- A matrix as the list of its numbers. -/
def tab (r c : Nat) (f : Nat → Nat → Int) : List Int := (List.range (r * c)).map fun x => f (x / c) (x % c)
theorem tab_length (r c : Nat) (f) : (tab r c f).length = r * c := by unfold tab; simp
theorem at_div {c i j : Nat} (h : j < c) : (i * c + j) / c = i ∧ (i * c + j) % c = j := by
  rw [Nat.mul_comm]
  exact ⟨by rw [Nat.mul_add_div (by omega), Nat.div_eq_of_lt h]; omega, by rw [Nat.mul_add_mod, Nat.mod_eq_of_lt h]⟩
theorem at_lt {r c i j : Nat} (hi : i < r) (hj : j < c) : i * c + j < r * c := by
  have : (i + 1) * c ≤ r * c := Nat.mul_le_mul_right _ hi
  rw [Nat.succ_mul] at this
  omega
theorem tab_getD {r c : Nat} (f) {x : Nat} (h : x < r * c) : (tab r c f).getD x 0 = f (x / c) (x % c) := by
  unfold tab; simp [List.getD_eq_getElem?_getD, h]
theorem tab_at {r c i j : Nat} (f) (hi : i < r) (hj : j < c) : (tab r c f).getD (i * c + j) 0 = f i j := by
  rw [tab_getD f (at_lt hi hj), (at_div hj).1, (at_div hj).2]
theorem split_at {r c x : Nat} (h : x < r * c) : x / c < r ∧ x % c < c ∧ x / c * c + x % c = x := by
  have hc : 0 < c := by rcases Nat.eq_zero_or_pos c with e | e; · subst e; simp at h
                        · exact e
  exact ⟨Nat.div_lt_of_lt_mul (by rw [Nat.mul_comm]; exact h), Nat.mod_lt _ hc, Nat.div_add_mod' x c⟩
theorem tab_ext {r c : Nat} {f} {l : List Int} (hl : l.length = r * c) (h : ∀ i j, i < r → j < c → l.getD (i * c + j) 0 = f i j) : l = tab r c f := by
  refine ext_getD (by rw [hl, tab_length]) (fun x hx => ?_)
  rw [hl] at hx
  obtain ⟨h1, h2, h3⟩ := split_at hx
  have := h _ _ h1 h2
  rw [h3] at this
  rw [this, tab_getD f hx]
theorem tab_congr {r c : Nat} {f g : Nat → Nat → Int} (h : ∀ i j, i < r → j < c → f i j = g i j) : tab r c f = tab r c g :=
  tab_ext (tab_length r c f) (fun i j hi hj => by rw [tab_at f hi hj, h i j hi hj])
theorem tab_self {r c : Nat} {l : List Int} (hl : l.length = r * c) : tab r c (fun i j => l.getD (i * c + j) 0) = l :=
  (tab_ext hl (fun _ _ _ _ => rfl)).symm
theorem side_mul {r c : Nat} (hr : r ≤ 128) (hc : c ≤ 128) : r * c ≤ 16384 := Nat.mul_le_mul hr hc
theorem w64_at {r c i j : Nat} (hr : r ≤ 128) (hc : c ≤ 128) (hi : i ≤ r) (hj : j ≤ c) : wrap64 (wrap64 ((i : Int) * (c : Int)) + (j : Int)) = ((i * c + j : Nat) : Int) := by
  have h := side_mul (Nat.le_trans hi hr) hc
  have e : (i : Int) * (c : Int) = ((i * c : Nat) : Int) := by push_cast; rfl
  rw [e, w64_id (x := ((i * c : Nat) : Int)) (by omega) (by omega), w64_id (x := ((i * c : Nat) : Int) + (j : Int)) (by omega) (by omega)]
  push_cast; rfl
theorem w64_mulN {r c : Nat} (hr : r ≤ 128) (hc : c ≤ 128) : wrap64 ((r : Int) * (c : Int)) = ((r * c : Nat) : Int) := by
  have h := side_mul hr hc
  have e : (r : Int) * (c : Int) = ((r * c : Nat) : Int) := by push_cast; rfl
  rw [e, w64_id (x := ((r * c : Nat) : Int)) (by omega) (by omega)]
/-- The spec's matrix of zeros. -/
theorem zero_tells {r c : Nat} (hr : r ≤ 128) (hc : c ≤ 128) (p : Int) : spec_l03Zero.f p r c = some (p, (r : Int), (c : Int), tab r c (fun _ _ => 0)) := by
  unfold spec_l03Zero.f
  have h := side_mul hr hc
  rw [w64_mulN hr hc, if_pos (by omega), if_pos (by omega), Int.toNat_natCast]
  congr 4
  refine tab_ext (by simp) (fun i j hi hj => ?_)
  simp [List.getD_eq_getElem?_getD, at_lt hi hj]
theorem side_tells (n : Int) : impl_isSide.f n = some (decide (0 ≤ n ∧ n ≤ 32)) := by
  unfold impl_isSide.f
  rw [same_in, in_tells]; rfl
theorem specPrime_tells (p : Int) {k : Nat} (hk : 20 ≤ k) : spec_ValidPrime.f k p = some (isP p) := by
  unfold spec_ValidPrime.f
  rw [prime_tells p hk]; rfl
/-- A matrix in memory: what is compared, marked and held. -/
theorem eqMatrix_tells {p r c : Int} {l : List Int} (hl : l.length ≤ 35184372088832) {k : Nat} (hk : l.length < k) : laws_eqMatrix.f k p r c l p r c l = some true := by
  unfold laws_eqMatrix.f
  rw [eq_tells hl hk]
  simp
theorem markMatrix_tells {p r c : Int} {l : List Int} (hl : l.length ≤ 35184372088832) {k : Nat} (hk : l.length < k) : laws_markMatrix.f k p r c l 1 = some (1 + (l.length : Int), iota 1 l.length) := by
  unfold laws_markMatrix.f
  rw [mark_tells (by omega) (by omega) hl hk]; rfl
theorem heldMatrix_tells {p r c : Int} {n : Nat} (hl : n ≤ 35184372088832) {k : Nat} (hk : n < k) : laws_heldMatrix.f k p r c (iota 1 n) 1 = some (1 + (n : Int)) := by
  unfold laws_heldMatrix.f
  rw [held_tells (by omega) (by omega) hl hk]
  simp only [Option.bind_some]
  rw [if_neg (by omega)]
end Go.Proofs.Ytioooobmfcmefaa.F
end
