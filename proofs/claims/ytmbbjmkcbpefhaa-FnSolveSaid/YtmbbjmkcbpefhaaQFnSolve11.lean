-- Texts of this claim, merged by packw.py (a program of this session's).
import Derived.Test.YtmbbjmkcbpefhaaQFnSolve1
import Derived.Test.YtmbbjmkcbpefhaaQFnSolve2
import Derived.Test.YtmbbjmkcbpefhaaQFnSolve6
import Derived.Test.YtmbbjmkcbpefhaaQFnSolve10
import Derived.Test.YtmbbjmkcbpefhaaQFnSolve4
import Derived.Test.YtmbbjmkcbpefhaaQFnSolve5

section
namespace Go.Proofs.Ytmbbjmkcbpefhaa.F
open Go.RowKit Go.Proofs.YtmbbjmkcbpefhaaW.PrintWords Go.Proofs.YtmbbjmkcbpefhaaW.PrintLast Go.Proofs.YtmbbjmkcbpefhaaW.PrintMore
attribute [local go_sem] max2_int min2_int max_two min_two max_three min_three max_four min_four   -- for this text's walks alone
set_option linter.unusedVariables false
set_option linter.unusedSimpArgs false
/-! ### spec_Transpose: function 28 -/
def spec_Transpose.f (k : Nat) (a0_0 : Int) (a0_1 : Int) (a0_2 : Int) (l0_3 : List Int) : Option (Int × Int × Int × List Int × Int) := (spec_l03Ok.f k a0_0 a0_1 a0_2 l0_3).bind fun t103 => (if t103 = true then ((spec_l03Turned.f k a0_0 a0_1 a0_2 l0_3).bind fun bt104 => (some (bt104.1, bt104.2.1, bt104.2.2.1, bt104.2.2.2, 0))) else (some (0, 0, 0, ([] : List Int), 1)))
theorem Z28.bb {w0 w w1 : World} {g : Nat} {o : Obj} (_B : Aside0 (w0.heap[g]? = some o)) (h : w.heap[g]? = some o) (hb : Below w.heap.size w w1) : w1.heap[g]? = some o := blk_below h hb
theorem Z28.bl {w0 w : World} {g : Nat} {o : Obj} (_B : Aside0 (w0.heap[g]? = some o)) (h : w.heap[g]? = some o) : g < w.heap.size := blk_lt h
theorem Z28.k {p : Prop} (h : p) : Aside0 p := ⟨h⟩
theorem Z28.z6 {P : Prop} (h : P := by (with_reducible repeat (first | refine blk_drewN ?_ _ | refine blk_drew ?_ | refine blk_alloc ?_ _)); exact BK102.out) : P := h
theorem Z28.z5 {P : Prop} (h : P := by (try simp only [List.map_toArray, List.map_cons, List.map_nil]); first | done | rfl | (simp only [List.length_drop, List.length_take]; rfl)) : P := h
theorem Z28.z4 {P : Prop} (h : P := by repeat (first | exact (Kd.C_below HR0_3.out HB.out) | (with_reducible refine Kd.C_alloc ?_ _) | (with_reducible refine Kd.C_drewN ?_ _) | (with_reducible refine Kd.C_drew ?_))) : P := h
theorem Z28.z3 {P : Prop} (h : P := by repeat (first | (with_reducible first | exact HB.out | apply below_alloc | apply pw_below_drewN | apply below_drew1) | exact HB.out)) : P := h
theorem Z28.z2 {P : Prop} (h : P := by repeat (first | (with_reducible first | exact HB.out | apply below_alloc | apply pw_below_drewN | apply below_drew1 | refine below_set ?_ GE101.out) | exact HB.out)) : P := h
theorem Z28.z1 {P : Prop} (h : P := by repeat (first | (with_reducible first | exact HB.out | apply below_alloc | apply pw_below_drewN | apply below_drew1 | refine below_set ?_ GE101.out | refine below_set ?_ GE102.out) | exact HB.out)) : P := h
theorem Z28.z0 {P : Prop} (h : P := by (with_reducible repeat (first | refine blk_drewN ?_ _ | refine blk_drew ?_ | refine blk_alloc ?_ _)); exact BK101.out) : P := h
set_option maxHeartbeats 8000000 in
set_option maxRecDepth 100000 in
theorem spec_Transpose.calls (k : Nat) (a0_0 : Int) (a0_1 : Int) (a0_2 : Int) (A0_3 : Option Addr) (c0_3 : Nat) (l0_3 : List Int) (r1 : Int) (r2 : Int) (r3 : Int) (r4 : List Int) (r5 : Int) (w : World) (hr0_3 : Kd.C (Kd.int .i64) w A0_3 l0_3.length l0_3) (hc0_3 : l0_3.length ≤ c0_3) (h : spec_Transpose.f k a0_0 a0_1 a0_2 l0_3 = some (r1, r2, r3, r4, r5)) :
  Calls Try.prog 28 #[.agg #[.int .i64 a0_0, .int .i64 a0_1, .int .i64 a0_2, .slice A0_3 l0_3.length c0_3]] w fun e w' => ∃ v3_ : Value, e = .returned (.tuple #[.agg #[.int .i64 r1, .int .i64 r2, .int .i64 r3, v3_], .int .i64 r5]) ∧ Kd.R (Kd.int .i64) 2 w' w.heap.size (fun _ => True) v3_ r4 ∧ Below w.heap.size w w' := by
 have hu28 := Try.underlying28
 have HR0_3 := Z28.k hr0_3
 have HC0_3 := Z28.k hc0_3
 clear hr0_3 hc0_3
 have HB := Z28.k (Below.refl w.heap.size w)
 have H : ((spec_l03Ok.f k a0_0 a0_1 a0_2 l0_3).bind fun t103 => (if t103 = true then ((spec_l03Turned.f k a0_0 a0_1 a0_2 l0_3).bind fun bt104 => (some (bt104.1, bt104.2.1, bt104.2.2.1, bt104.2.2.2, 0))) else (some (0, 0, 0, ([] : List Int), 1)))) = some (r1, r2, r3, r4, r5) := h
 clear h
 replace H := Option.bind_eq_some_iff.mp H
 obtain ⟨t103, A20, H⟩ := H
 replace H : (if t103 = true then ((spec_l03Turned.f k a0_0 a0_1 a0_2 l0_3).bind fun bt104 => (some (bt104.1, bt104.2.1, bt104.2.2.1, bt104.2.2.2, 0))) else (some (0, 0, 0, ([] : List Int), 1))) = some (r1, r2, r3, r4, r5) := H
 have A2 := Z28.k A20
 clear A20
 by_cases c3 : t103 = true
 ·subst c3
  rw [if_pos rfl] at H
  replace H := Option.bind_eq_some_iff.mp H
  obtain ⟨⟨t104, t105, t106, t107⟩, A40, H⟩ := H
  (try dsimp only at H)
  have A4 := Z28.k A40
  clear A40
  simp only [Option.some.injEq, Prod.mk.injEq] at H
  obtain ⟨rfl, rfl, rfl, rfl, rfl⟩ := H
  go_enter Try.func28, Try.ntmps28
  go_wp2_with (first | ((with_reducible refine gate_dst (N := 1) rfl ?_); refine box_event ?hg (N := 1) ?hd (cs := #[.int .i64 a0_0, .int .i64 a0_1, .int .i64 a0_2, .slice A0_3 l0_3.length c0_3]) (t := 28) ?hr ?_; (case hd => rfl); (case hg => rfl); (case hr => first | (go_simp; done) | (go_simp; rfl)); intro gb101 hg w5 hbox hb; have BK101 := Z28.k (hbox); have GW101 := Z28.k (show w.heap.size ≤ gb101 from (by rw [hg]; exact (below_size Z28.z3))); have GE101 := Z28.k (show w.heap.size ≤ gb101 from (by rw [hg]; exact (below_size Z28.z3))); replace HB := Z28.k (below_step Z28.z3 hb); clear hb hbox hg) | ((with_reducible refine gate_dst (N := 2) rfl ?_); refine box_event ?hg (N := 2) ?hd (cs := #[.int .i64 0, .int .i64 0, .int .i64 0, .slice none 0 0]) (t := 28) ?hr ?_; (case hd => rfl); (case hg => rfl); (case hr => first | (go_simp; done) | (go_simp; rfl)); intro gb102 hg w6 hbox hb; have BK102 := Z28.k (hbox); have GW102 := Z28.k (show w.heap.size ≤ gb102 from (by rw [hg]; exact (below_size Z28.z2))); have GE102 := Z28.k (show w.heap.size ≤ gb102 from (by rw [hg]; exact (below_size Z28.z2))); have NB101_102 := Z28.k (show gb101 ≠ gb102 from (by rw [hg]; exact Nat.ne_of_lt (Z28.bl BK101 Z28.z0))); have NB102_101 := Z28.k (show gb102 ≠ gb101 from (by rw [hg]; exact Nat.ne_of_gt (Z28.bl BK101 Z28.z0))); replace BK101 := Z28.k (Z28.bb BK101 Z28.z0 hb); replace HB := Z28.k (below_step Z28.z2 hb); clear hb hbox hg) | ((with_reducible refine gate_callee (f := 50) rfl ?_); refine goesL_ (some 4) rfl rfl Try.func50 (by kernel_rfl) rfl #[.pointer (some ⟨gb101, 0, none⟩)] rfl Z28.z5 ?_; (with_reducible refine (spec_l03Ok.calls k a0_0 a0_1 a0_2 A0_3 c0_3 l0_3 true _ ?side1 ?side2 ?side3 A2.out).mono ?_); (case side1 => exact Z28.z4); (case side2 => exact HC0_3.out); (case side3 => exact Z28.z0); rintro e w7 ⟨rfl, hb⟩; refine ⟨_, rfl, ?_⟩; replace BK101 := Z28.k (Z28.bb BK101 Z28.z0 hb); replace BK102 := Z28.k (Z28.bb BK102 Z28.z6 hb); replace HB := Z28.k (below_step Z28.z1 hb); (try clear hb); (try clear hb2); (try clear hk); (try clear hi)) | ((with_reducible refine gate_callee (f := 53) rfl ?_); refine goesL_ (some 7) rfl rfl Try.func53 (by kernel_rfl) rfl #[.pointer (some ⟨gb101, 0, none⟩)] rfl Z28.z5 ?_; (with_reducible refine (spec_l03Turned.calls k a0_0 a0_1 a0_2 A0_3 c0_3 l0_3 t104 t105 t106 t107 _ ?side1 ?side2 ?side3 A4.out).mono ?_); (case side1 => exact Z28.z4); (case side2 => exact HC0_3.out); (case side3 => exact Z28.z0); rintro e w8 ⟨v108, rfl, ho0, hb⟩; refine ⟨_, rfl, ?_⟩; have HO109 := Z28.k (Kd.R_lower ho0 (below_size Z28.z1)); replace BK101 := Z28.k (Z28.bb BK101 Z28.z0 hb); replace BK102 := Z28.k (Z28.bb BK102 Z28.z6 hb); replace HB := Z28.k (below_step Z28.z1 hb); (try clear hb); (try clear hb2); (try clear hk); (try clear hi); (try clear ho0); have hnb9 := NB102_101.out; have hnc9 := NB101_102.out; obtain ⟨hcz10_0, hcz10_1, hcz10_2, hcz10_3, hfz10_0, hfz10_1, hfz10_2, hfz10_3⟩ := cells4 BK102.out; obtain ⟨Ao11, co11, eo11⟩ := Kd.R_slice HO109.out; subst eo11))
  refine bodyPost_ret (results_ct rfl _ _ gb102 28 #[.int .i64 t104, .int .i64 t105, .int .i64 t106, .slice Ao11 t107.length co11] (0, 0) _ rfl (by (with_reducible repeat (first | refine blk_drewN ?_ _ | refine blk_drew ?_ | refine blk_alloc ?_ _)); refine blk_put (cs := #[.int .i64 t104, .int .i64 t105, .int .i64 t106, .slice none 0 0]) ?_ 3 _ rfl; (with_reducible repeat (first | refine blk_drewN ?_ _ | refine blk_drew ?_ | refine blk_alloc ?_ _)); refine blk_put (cs := #[.int .i64 t104, .int .i64 t105, .int .i64 0, .slice none 0 0]) ?_ 2 _ rfl; (with_reducible repeat (first | refine blk_drewN ?_ _ | refine blk_drew ?_ | refine blk_alloc ?_ _)); refine blk_put (cs := #[.int .i64 t104, .int .i64 0, .int .i64 0, .slice none 0 0]) ?_ 1 _ rfl; (with_reducible repeat (first | refine blk_drewN ?_ _ | refine blk_drew ?_ | refine blk_alloc ?_ _)); refine blk_put (cs := #[.int .i64 0, .int .i64 0, .int .i64 0, .slice none 0 0]) ?_ 0 _ rfl; (with_reducible repeat (first | refine blk_drewN ?_ _ | refine blk_drew ?_ | refine blk_alloc ?_ _)); exact BK102.out) Try.underlying28 rfl (by kernel_rfl)) rfl ?_
  exact ⟨_, (by first | rfl | (simp [errW_none, errW_some] <;> rfl) | (simp [*, errW_none, errW_some] <;> rfl)), (by (with_reducible repeat (first | apply Kd.R_alloc | apply Kd.R_drewN | apply Kd.R_drew)); exact Kd.R_mono (Kd.R_far (p := ⟨gb102, 3, none⟩) (Kd.R_far (p := ⟨gb102, 2, none⟩) (Kd.R_far (p := ⟨gb102, 1, none⟩) (Kd.R_far (p := ⟨gb102, 0, none⟩) (Kd.R_types HO109.out BK102.out (by decide)) (fun _ hk => hk.2) (.int .i64 t104)) (fun _ hk => hk.2) (.int .i64 t105)) (fun _ hk => hk.2) (.int .i64 t106)) (fun _ hk => hk.2) (.slice Ao11 t107.length co11)) (fun _ hk => trivial)), Z28.z1⟩
 replace c3 := Bool.eq_false_iff.mpr c3
 subst c3
 rw [if_neg (show ¬ (false = true) by decide)] at H
 simp only [Option.some.injEq, Prod.mk.injEq] at H
 obtain ⟨rfl, rfl, rfl, rfl, rfl⟩ := H
 go_enter Try.func28, Try.ntmps28
 go_wp2_with (first | ((with_reducible refine gate_dst (N := 1) rfl ?_); refine box_event ?hg (N := 1) ?hd (cs := #[.int .i64 a0_0, .int .i64 a0_1, .int .i64 a0_2, .slice A0_3 l0_3.length c0_3]) (t := 28) ?hr ?_; (case hd => rfl); (case hg => rfl); (case hr => first | (go_simp; done) | (go_simp; rfl)); intro gb101 hg w12 hbox hb; have BK101 := Z28.k (hbox); have GW101 := Z28.k (show w.heap.size ≤ gb101 from (by rw [hg]; exact (below_size Z28.z3))); have GE101 := Z28.k (show w.heap.size ≤ gb101 from (by rw [hg]; exact (below_size Z28.z3))); replace HB := Z28.k (below_step Z28.z3 hb); clear hb hbox hg) | ((with_reducible refine gate_dst (N := 2) rfl ?_); refine box_event ?hg (N := 2) ?hd (cs := #[.int .i64 0, .int .i64 0, .int .i64 0, .slice none 0 0]) (t := 28) ?hr ?_; (case hd => rfl); (case hg => rfl); (case hr => first | (go_simp; done) | (go_simp; rfl)); intro gb102 hg w13 hbox hb; have BK102 := Z28.k (hbox); have GW102 := Z28.k (show w.heap.size ≤ gb102 from (by rw [hg]; exact (below_size Z28.z2))); have GE102 := Z28.k (show w.heap.size ≤ gb102 from (by rw [hg]; exact (below_size Z28.z2))); have NB101_102 := Z28.k (show gb101 ≠ gb102 from (by rw [hg]; exact Nat.ne_of_lt (Z28.bl BK101 Z28.z0))); have NB102_101 := Z28.k (show gb102 ≠ gb101 from (by rw [hg]; exact Nat.ne_of_gt (Z28.bl BK101 Z28.z0))); replace BK101 := Z28.k (Z28.bb BK101 Z28.z0 hb); replace HB := Z28.k (below_step Z28.z2 hb); clear hb hbox hg) | ((with_reducible refine gate_callee (f := 50) rfl ?_); refine goesL_ (some 4) rfl rfl Try.func50 (by kernel_rfl) rfl #[.pointer (some ⟨gb101, 0, none⟩)] rfl Z28.z5 ?_; (with_reducible refine (spec_l03Ok.calls k a0_0 a0_1 a0_2 A0_3 c0_3 l0_3 false _ ?side1 ?side2 ?side3 A2.out).mono ?_); (case side1 => exact Z28.z4); (case side2 => exact HC0_3.out); (case side3 => exact Z28.z0); rintro e w14 ⟨rfl, hb⟩; refine ⟨_, rfl, ?_⟩; replace BK101 := Z28.k (Z28.bb BK101 Z28.z0 hb); replace BK102 := Z28.k (Z28.bb BK102 Z28.z6 hb); replace HB := Z28.k (below_step Z28.z1 hb); (try clear hb); (try clear hb2); (try clear hk); (try clear hi); have hnb15 := NB102_101.out; have hnc15 := NB101_102.out; obtain ⟨hcz16_0, hcz16_1, hcz16_2, hcz16_3, hfz16_0, hfz16_1, hfz16_2, hfz16_3⟩ := cells4 BK102.out))
 refine bodyPost_ret (results_ct rfl _ _ gb102 28 #[.int .i64 0, .int .i64 0, .int .i64 0, .slice none 0 0] (0, 0) _ rfl (by (with_reducible repeat (first | refine blk_drewN ?_ _ | refine blk_drew ?_ | refine blk_alloc ?_ _)); refine blk_put (cs := #[.int .i64 0, .int .i64 0, .int .i64 0, .slice none 0 0]) ?_ 3 _ rfl; (with_reducible repeat (first | refine blk_drewN ?_ _ | refine blk_drew ?_ | refine blk_alloc ?_ _)); refine blk_put (cs := #[.int .i64 0, .int .i64 0, .int .i64 0, .slice none 0 0]) ?_ 2 _ rfl; (with_reducible repeat (first | refine blk_drewN ?_ _ | refine blk_drew ?_ | refine blk_alloc ?_ _)); refine blk_put (cs := #[.int .i64 0, .int .i64 0, .int .i64 0, .slice none 0 0]) ?_ 1 _ rfl; (with_reducible repeat (first | refine blk_drewN ?_ _ | refine blk_drew ?_ | refine blk_alloc ?_ _)); refine blk_put (cs := #[.int .i64 0, .int .i64 0, .int .i64 0, .slice none 0 0]) ?_ 0 _ rfl; (with_reducible repeat (first | refine blk_drewN ?_ _ | refine blk_drew ?_ | refine blk_alloc ?_ _)); exact BK102.out) Try.underlying28 rfl (by kernel_rfl)) rfl ?_
 exact ⟨_, (by first | rfl | (simp [errW_none, errW_some] <;> rfl) | (simp [*, errW_none, errW_some] <;> rfl)), (by first | exact Kd.R_nil _ _ _ _ _ | exact Kd.N_nil _ _ _ _ _ | exact Kd.V_nil _ _ _ _ _ | exact Kd.Q_nil _ _ _ _ _ | exact Kd.S_nil _ _ _ _ _), Z28.z1⟩
/-! ### spec_l02Numbers: function 66 -/
def spec_l02Numbers.l0 : Nat → List Int → Int → Int → Option (Bool)
  | 0, _, _, _ => none
  | k + 1, x0, x1, x5 => if x5 < (x0.length : Int) then (if 0 ≤ x5 then ((spec_l00In.f (rd x0 x5) 0 (wrap64 (x1 - 1))).bind fun t102 => (if t102 = true then (spec_l02Numbers.l0 k x0 x1 (wrap64 (x5 + 1))) else (some false))) else (none)) else (some (decide ((x0.length : Int) ≤ 64)))
def spec_l02Numbers.f (k : Nat) (l0 : List Int) (a1 : Int) : Option (Bool) := spec_l02Numbers.l0 k l0 a1 0
theorem Z66.z1 {P : Prop} (h : P := by repeat (first | exact Drawn0.refl _ | apply Drawn0.step)) : P := h
theorem Z66.z0 {P : Prop} (h : P := by (try simp only [List.map_toArray, List.map_cons, List.map_nil]); first | done | rfl | (simp only [List.length_drop, List.length_take]; rfl)) : P := h
set_option maxHeartbeats 8000000 in
set_option maxRecDepth 100000 in
theorem spec_l02Numbers.calls (k : Nat) (A0 : Option Addr) (c0 : Nat) (l0 : List Int) (a1 : Int) (r : Bool) (w : World) (hr0 : Kd.C (Kd.int .i64) w A0 l0.length l0) (hc0 : l0.length ≤ c0) (h : spec_l02Numbers.f k l0 a1 = some r) :
  Calls Try.prog 66 #[.slice A0 l0.length c0, .int .i64 a1] w fun e w' => e = .returned (.bool r) ∧ Drawn0 w w' := by
 have HR0 := Aside0.mk hr0
 have HC0 := Aside0.mk hc0
 clear hr0 hc0
 have H : (spec_l02Numbers.l0 k l0 a1 0) = some r := h
 clear h
 have H' := Aside0.mk H
 clear H
 go_enter Try.func66, Try.ntmps66
 go_wp2
 go_loopg [5] k (fun kq v5 w' => ∃ (x5_1 : Int), v5 = .int .i64 x5_1 ∧ Aside0 (spec_l02Numbers.l0 kq l0 a1 x5_1 = some r) ∧ Aside0 (kq ≤ k) ∧ Drawn0 w w')
 case atStart => exact ⟨(0), (by first | rfl | (simp; done) | (simp [*]; done)), H', ⟨Nat.le_refl _⟩, Z66.z1⟩
 case round =>
  clear H'
  try clear p2
  obtain ⟨x5_1, rfl, HA, HK1, ⟨m1, rfl⟩⟩ := hrel
  cases gk with
  | zero => exact absurd HA.out (by simp [spec_l02Numbers.l0])
  | succ k1 =>
   have H := HA.out
   clear HA
   simp only [spec_l02Numbers.l0] at H
   by_cases c3 : x5_1 < (l0.length : Int)
   ·rw [if_pos c3] at H
    have c3b0 : decide (x5_1 < (l0.length : Int)) = true := decide_eq_true c3
    clear c3
    by_cases c4 : 0 ≤ x5_1
    ·rw [if_pos c4] at H
     have c4b0 : decide (0 ≤ x5_1) = true := decide_eq_true c4
     clear c4
     replace H := Option.bind_eq_some_iff.mp H
     obtain ⟨t102, A50, H⟩ := H
     replace H : (if t102 = true then (spec_l02Numbers.l0 k1 l0 a1 (wrap64 (x5_1 + 1))) else (some false)) = some r := H
     have A5 := Aside0.mk A50
     clear A50
     by_cases c6 : t102 = true
     ·subst c6
      rw [if_pos rfl] at H; have H' := Aside0.mk H; clear H; have p101 : 0 ≤ (x5_1 : Int) := of_decide_eq_true (by first | (with_reducible assumption) | assumption); have q101 : x5_1 < (l0.length : Int) := of_decide_eq_true (by first | (with_reducible assumption) | assumption); obtain ⟨ad101, e101, hx101_0⟩ := Kd.at_int HR0.out x5_1 p101 q101; cases e101; replace p101 := eq_true p101; replace q101 := eq_true q101
      go_wp2_with (first | ((with_reducible refine gate_callee (f := 62) rfl ?_); refine goesL_ (some 18) rfl rfl Try.func62 (by kernel_rfl) rfl #[.int .i64 (rd l0 x5_1), .int .i64 0, .int .i64 (wrap64 (a1 - 1))] rfl Z66.z0 ?_; (with_reducible refine (spec_l00In.calls (rd l0 x5_1) 0 (wrap64 (a1 - 1)) true _ A5.out).mono ?_); rintro e w' ⟨rfl, ⟨nd, rfl⟩⟩; refine ⟨_, rfl, ?_⟩))
      go_roundg k1
      case measure => have := HK1.out; omega
      case rel => exact ⟨(wrap64 (x5_1 + 1)), (by first | rfl | (simp; done) | (simp [*]; done)), H', ⟨(by have := HK1.out; omega)⟩, Z66.z1⟩
     replace c6 := Bool.eq_false_iff.mpr c6
     subst c6
     rw [if_neg (show ¬ (false = true) by decide)] at H
     obtain rfl := Option.some.inj H
     have p101 : 0 ≤ (x5_1 : Int) := of_decide_eq_true (by first | (with_reducible assumption) | assumption)
     have q101 : x5_1 < (l0.length : Int) := of_decide_eq_true (by first | (with_reducible assumption) | assumption)
     obtain ⟨ad101, e101, hx101_0⟩ := Kd.at_int HR0.out x5_1 p101 q101
     cases e101
     replace p101 := eq_true p101
     replace q101 := eq_true q101
     go_wp2_with (first | ((with_reducible refine gate_callee (f := 62) rfl ?_); refine goesL_ (some 18) rfl rfl Try.func62 (by kernel_rfl) rfl #[.int .i64 (rd l0 x5_1), .int .i64 0, .int .i64 (wrap64 (a1 - 1))] rfl Z66.z0 ?_; (with_reducible refine (spec_l00In.calls (rd l0 x5_1) 0 (wrap64 (a1 - 1)) false _ A5.out).mono ?_); rintro e w' ⟨rfl, ⟨nd, rfl⟩⟩; refine ⟨_, rfl, ?_⟩))
     go_ret
     exact ⟨(by first | rfl | (simp; done) | (simp [*]; done)), Z66.z1⟩
    rw [if_neg c4] at H
    exact absurd H (by simp)
   rw [if_neg c3] at H
   have c3b0 : decide (x5_1 < (l0.length : Int)) = false := decide_eq_false c3
   clear c3
   obtain rfl := Option.some.inj H
   go_wp2
   go_ret
   exact ⟨(by first | rfl | (simp; done) | (simp [*]; done)), Z66.z1⟩
/-! ### spec_l02Two: function 54 -/
def spec_l02Two.j0 : Nat → List Int → List Int → Bool → Option (Int)
  | 0, _, _, _ => none
  | k + 1, x0, x1, x21 => if x21 = true then (some 1) else (if (x0.length : Int) = (x1.length : Int) then (some 0) else (some 6))
def spec_l02Two.f (k : Nat) (l0 : List Int) (l1 : List Int) (a2 : Int) : Option (Int) := (spec_l02Prime.f k a2).bind fun t101 => (if t101 = true then ((spec_l02Numbers.f k l0 a2).bind fun t102 => (if t102 = true then ((spec_l02Numbers.f k l1 a2).bind fun t103 => (spec_l02Two.j0 k l0 l1 (!t103))) else (spec_l02Two.j0 k l0 l1 true))) else (spec_l02Two.j0 k l0 l1 true))
theorem Z54.z3 {P : Prop} (h : P := by repeat (first | exact HR0.out | (with_reducible refine Kd.C_alloc ?_ _) | (with_reducible refine Kd.C_drewN ?_ _) | (with_reducible refine Kd.C_drew ?_))) : P := h
theorem Z54.z2 {P : Prop} (h : P := by first | rfl | (simp; done) | (simp [*]; done)) : P := h
theorem Z54.z1 {P : Prop} (h : P := by repeat (first | exact Drawn0.refl _ | apply Drawn0.step)) : P := h
theorem Z54.z0 {P : Prop} (h : P := by (try simp only [List.map_toArray, List.map_cons, List.map_nil]); first | done | rfl | (simp only [List.length_drop, List.length_take]; rfl)) : P := h
set_option maxHeartbeats 8000000 in
set_option maxRecDepth 100000 in
theorem spec_l02Two.calls (k : Nat) (A0 : Option Addr) (c0 : Nat) (l0 : List Int) (A1 : Option Addr) (c1 : Nat) (l1 : List Int) (a2 : Int) (r : Int) (w : World) (hr0 : Kd.C (Kd.int .i64) w A0 l0.length l0) (hc0 : l0.length ≤ c0) (hr1 : Kd.C (Kd.int .i64) w A1 l1.length l1) (hc1 : l1.length ≤ c1) (h : spec_l02Two.f k l0 l1 a2 = some r) :
  Calls Try.prog 54 #[.slice A0 l0.length c0, .slice A1 l1.length c1, .int .i64 a2] w fun e w' => e = .returned (.int .i64 r) ∧ Drawn0 w w' := by
 have HR0 := Aside0.mk hr0
 have HC0 := Aside0.mk hc0
 clear hr0 hc0
 have HR1 := Aside0.mk hr1
 have HC1 := Aside0.mk hc1
 clear hr1 hc1
 have H : ((spec_l02Prime.f k a2).bind fun t101 => (if t101 = true then ((spec_l02Numbers.f k l0 a2).bind fun t102 => (if t102 = true then ((spec_l02Numbers.f k l1 a2).bind fun t103 => (spec_l02Two.j0 k l0 l1 (!t103))) else (spec_l02Two.j0 k l0 l1 true))) else (spec_l02Two.j0 k l0 l1 true))) = some r := h
 clear h
 have HC4 := Aside0.mk H
 clear H
 go_enter Try.func54, Try.ntmps54
 go_upto_region 1 with (fail)
 go_cut [21] (fun v21 wc => ∃ (kq : Nat) (x21_3 : Bool), v21 = .bool x21_3 ∧ Aside0 (spec_l02Two.j0 kq l0 l1 x21_3 = some r) ∧ Aside0 (kq ≤ k) ∧ Drawn0 w wc)
 case first =>
  have H := HC4.out
  clear HC4
  replace H := Option.bind_eq_some_iff.mp H
  obtain ⟨t101, A50, H⟩ := H
  replace H : (if t101 = true then ((spec_l02Numbers.f k l0 a2).bind fun t102 => (if t102 = true then ((spec_l02Numbers.f k l1 a2).bind fun t103 => (spec_l02Two.j0 k l0 l1 (!t103))) else (spec_l02Two.j0 k l0 l1 true))) else (spec_l02Two.j0 k l0 l1 true)) = some r := H
  have A5 := Aside0.mk A50
  clear A50
  by_cases c6 : t101 = true
  ·subst c6
   rw [if_pos rfl] at H
   replace H := Option.bind_eq_some_iff.mp H
   obtain ⟨t102, A70, H⟩ := H
   (try dsimp only at H)
   have A7 := Aside0.mk A70
   clear A70
   by_cases c8 : t102 = true
   ·subst c8
    rw [if_pos rfl] at H
    replace H := Option.bind_eq_some_iff.mp H
    obtain ⟨t103, A90, H⟩ := H
    (try dsimp only at H)
    have A9 := Aside0.mk A90
    clear A90
    have H' := Aside0.mk H
    clear H
    go_wp2_with (first | ((with_reducible refine gate_callee (f := 61) rfl ?_); refine goesL_ (some 8) rfl rfl Try.func61 (by kernel_rfl) rfl #[.int .i64 a2] rfl Z54.z0 ?_; (with_reducible refine (spec_l02Prime.calls k a2 true _ A5.out).mono ?_); rintro e w' ⟨rfl, ⟨nd, rfl⟩⟩; refine ⟨_, rfl, ?_⟩) | (go_at_call 66; (with_reducible refine (spec_l02Numbers.calls k _ _ l0 a2 true _ ?side1 ?side2 A7.out).mono ?_); (case side1 => exact Z54.z3); (case side2 => exact HC0.out); rintro e w' ⟨rfl, ⟨nd, rfl⟩⟩) | (go_at_call 66; (with_reducible refine (spec_l02Numbers.calls k _ _ l1 a2 t103 _ ?side1 ?side2 A9.out).mono ?_); (case side1 => exact (by repeat (first | exact HR1.out | (with_reducible refine Kd.C_alloc ?_ _) | (with_reducible refine Kd.C_drewN ?_ _) | (with_reducible refine Kd.C_drew ?_)))); (case side2 => exact HC1.out); rintro e w' ⟨rfl, ⟨nd, rfl⟩⟩))
    go_meet
    case rel => exact ⟨_, (!t103), Z54.z2, H', ⟨(by first | omega | exact Nat.le_refl _)⟩, Z54.z1⟩
   replace c8 := Bool.eq_false_iff.mpr c8
   subst c8
   rw [if_neg (show ¬ (false = true) by decide)] at H
   have H' := Aside0.mk H
   clear H
   go_wp2_with (first | ((with_reducible refine gate_callee (f := 61) rfl ?_); refine goesL_ (some 8) rfl rfl Try.func61 (by kernel_rfl) rfl #[.int .i64 a2] rfl Z54.z0 ?_; (with_reducible refine (spec_l02Prime.calls k a2 true _ A5.out).mono ?_); rintro e w' ⟨rfl, ⟨nd, rfl⟩⟩; refine ⟨_, rfl, ?_⟩) | (go_at_call 66; (with_reducible refine (spec_l02Numbers.calls k _ _ l0 a2 false _ ?side1 ?side2 A7.out).mono ?_); (case side1 => exact Z54.z3); (case side2 => exact HC0.out); rintro e w' ⟨rfl, ⟨nd, rfl⟩⟩))
   go_meet
   case rel => exact ⟨_, (true), Z54.z2, H', ⟨(by first | omega | exact Nat.le_refl _)⟩, Z54.z1⟩
  replace c6 := Bool.eq_false_iff.mpr c6
  subst c6
  rw [if_neg (show ¬ (false = true) by decide)] at H
  have H' := Aside0.mk H
  clear H
  go_wp2_with (first | ((with_reducible refine gate_callee (f := 61) rfl ?_); refine goesL_ (some 8) rfl rfl Try.func61 (by kernel_rfl) rfl #[.int .i64 a2] rfl Z54.z0 ?_; (with_reducible refine (spec_l02Prime.calls k a2 false _ A5.out).mono ?_); rintro e w' ⟨rfl, ⟨nd, rfl⟩⟩; refine ⟨_, rfl, ?_⟩))
  go_meet
  case rel => exact ⟨_, (true), Z54.z2, H', ⟨(by first | omega | exact Nat.le_refl _)⟩, Z54.z1⟩
 case rest =>
  clear HC4
  try clear c1
  try clear p2
  try clear c5
  try clear c6
  try clear c8
  obtain ⟨kq, x21_3, rfl, HA, HJ3, ⟨mc3, rfl⟩⟩ := hcut
  cases kq with
  | zero => exact absurd HA.out (by simp [spec_l02Two.j0])
  | succ kj3 =>
   have H := HA.out
   clear HA
   simp only [spec_l02Two.j0] at H
   by_cases c10 : x21_3 = true
   ·subst c10
    rw [if_pos rfl] at H
    obtain rfl := Option.some.inj H
    go_wp2
    go_ret
    exact ⟨Z54.z2, Z54.z1⟩
   replace c10 := Bool.eq_false_iff.mpr c10
   subst c10
   rw [if_neg (show ¬ (false = true) by decide)] at H
   by_cases c11 : (l0.length : Int) = (l1.length : Int)
   ·rw [if_pos c11] at H
    have c11b0 : ((l0.length : Int) == (l1.length : Int)) = true := beq_iff_eq.mpr c11
    have c11b1 : ((l0.length : Int) != (l1.length : Int)) = false := bne_eq_false_iff_eq.mpr c11
    have c11b2 : (l0.length == l1.length) = true := by first | simpa using c11 | (simp at c11 ⊢; omega)
    clear c11
    obtain rfl := Option.some.inj H
    go_wp2
    go_ret
    exact ⟨Z54.z2, Z54.z1⟩
   rw [if_neg c11] at H
   have c11b0 : ((l0.length : Int) == (l1.length : Int)) = false := beq_eq_false_iff_ne.mpr c11
   have c11b1 : ((l0.length : Int) != (l1.length : Int)) = true := bne_iff_ne.mpr c11
   have c11b2 : (l0.length == l1.length) = false := by first | simpa using c11 | (simp at c11 ⊢; omega)
   obtain rfl := Option.some.inj H
   go_wp2
   go_ret
   exact ⟨Z54.z2, Z54.z1⟩
/-! ### spec_l02Dot: function 55 -/
def spec_l02Dot.l0 : Nat → List Int → List Int → Int → Int → Int → Option (Int)
  | 0, _, _, _, _, _ => none
  | k + 1, x0, x1, x2, x7, x8 => if x8 < (x0.length : Int) then (if 0 ≤ x8 then (if x8 < (x1.length : Int) then (if x2 = 0 then (none) else (spec_l02Dot.l0 k x0 x1 x2 (Int.tmod (wrap64 (x7 + (wrap64 ((rd x0 x8) * (rd x1 x8))))) x2) (wrap64 (x8 + 1)))) else (none)) else (none)) else (some x7)
def spec_l02Dot.f (k : Nat) (l0 : List Int) (l1 : List Int) (a2 : Int) : Option (Int) := spec_l02Dot.l0 k l0 l1 a2 0 0
theorem Z55.z0 {P : Prop} (h : P := by first | rfl | (simp; done) | (simp [*]; done)) : P := h
set_option maxHeartbeats 8000000 in
set_option maxRecDepth 100000 in
theorem spec_l02Dot.calls (k : Nat) (A0 : Option Addr) (c0 : Nat) (l0 : List Int) (A1 : Option Addr) (c1 : Nat) (l1 : List Int) (a2 : Int) (r : Int) (w : World) (hr0 : Kd.C (Kd.int .i64) w A0 l0.length l0) (hc0 : l0.length ≤ c0) (hr1 : Kd.C (Kd.int .i64) w A1 l1.length l1) (hc1 : l1.length ≤ c1) (h : spec_l02Dot.f k l0 l1 a2 = some r) :
  Calls Try.prog 55 #[.slice A0 l0.length c0, .slice A1 l1.length c1, .int .i64 a2] w fun e w' => e = .returned (.int .i64 r) ∧ Drawn0 w w' := by
 have HR0 := Aside0.mk hr0
 have HC0 := Aside0.mk hc0
 clear hr0 hc0
 have HR1 := Aside0.mk hr1
 have HC1 := Aside0.mk hc1
 clear hr1 hc1
 have H : (spec_l02Dot.l0 k l0 l1 a2 0 0) = some r := h
 clear h
 have H' := Aside0.mk H
 clear H
 go_enter Try.func55, Try.ntmps55
 go_wp2
 repeat (go_quiet (fail); try go_wp2)
 go_loopg [7, 8] k (fun kq v7 v8 w' => ∃ (x7_1 : Int) (x8_1 : Int), v7 = .int .i64 x7_1 ∧ v8 = .int .i64 x8_1 ∧ Aside0 (spec_l02Dot.l0 kq l0 l1 a2 x7_1 x8_1 = some r) ∧ Aside0 (kq ≤ k) ∧ Drawn0 w w')
 case atStart => exact ⟨(0), (0), Z55.z0, Z55.z0, H', ⟨Nat.le_refl _⟩, (by repeat (first | exact Drawn0.refl _ | apply Drawn0.step))⟩
 case round =>
  clear H'
  try clear c1
  try clear p2
  obtain ⟨x7_1, x8_1, rfl, rfl, HA, HK1, ⟨m1, rfl⟩⟩ := hrel
  cases gk with
  | zero => exact absurd HA.out (by simp [spec_l02Dot.l0])
  | succ k1 =>
   have H := HA.out
   clear HA
   simp only [spec_l02Dot.l0] at H
   by_cases c4 : x8_1 < (l0.length : Int)
   ·rw [if_pos c4] at H
    have c4b0 : decide (x8_1 < (l0.length : Int)) = true := decide_eq_true c4
    clear c4
    by_cases c5 : 0 ≤ x8_1
    ·rw [if_pos c5] at H
     have c5b0 : decide (0 ≤ x8_1) = true := decide_eq_true c5
     clear c5
     by_cases c6 : x8_1 < (l1.length : Int)
     ·rw [if_pos c6] at H
      have c6b0 : decide (x8_1 < (l1.length : Int)) = true := decide_eq_true c6; clear c6
      by_cases c7 : a2 = 0
      ·rw [if_pos c7] at H
       exact absurd H (by simp)
      rw [if_neg c7] at H; have c7b0 : (a2 == 0) = false := beq_eq_false_iff_ne.mpr c7; have c7b1 : (a2 != 0) = true := bne_iff_ne.mpr c7; have H' := Aside0.mk H; clear H; have p101 : 0 ≤ (x8_1 : Int) := of_decide_eq_true (by first | (with_reducible assumption) | assumption); have q101 : x8_1 < (l0.length : Int) := of_decide_eq_true (by first | (with_reducible assumption) | assumption); obtain ⟨ad101, e101, hx101_0⟩ := Kd.at_int HR0.out x8_1 p101 q101; cases e101; replace p101 := eq_true p101; replace q101 := eq_true q101; have p102 : 0 ≤ (x8_1 : Int) := of_decide_eq_true (by first | (with_reducible assumption) | assumption); have q102 : x8_1 < (l1.length : Int) := of_decide_eq_true (by first | (with_reducible assumption) | assumption); obtain ⟨ad102, e102, hx102_0⟩ := Kd.at_int HR1.out x8_1 p102 q102; cases e102; replace p102 := eq_true p102; replace q102 := eq_true q102
      go_wp2
      repeat (go_quiet (fail); try go_wp2)
      go_roundg k1
      case measure => have := HK1.out; omega
      case rel => exact ⟨(Int.tmod (wrap64 (x7_1 + (wrap64 ((rd l0 x8_1) * (rd l1 x8_1))))) a2), (wrap64 (x8_1 + 1)), Z55.z0, Z55.z0, H', ⟨(by have := HK1.out; omega)⟩, (by repeat (first | exact Drawn0.refl _ | apply Drawn0.step))⟩
     rw [if_neg c6] at H
     exact absurd H (by simp)
    rw [if_neg c5] at H
    exact absurd H (by simp)
   rw [if_neg c4] at H
   have c4b0 : decide (x8_1 < (l0.length : Int)) = false := decide_eq_false c4
   clear c4
   obtain rfl := Option.some.inj H
   go_wp2
   repeat (go_quiet (fail); try go_wp2)
   go_ret
   exact ⟨Z55.z0, (by repeat (first | exact Drawn0.refl _ | apply Drawn0.step))⟩
/-! ### spec_DotOf: function 29 -/
def spec_DotOf.f (k : Nat) (l0 : List Int) (l1 : List Int) (a2 : Int) : Option (Int × Int) := (spec_l02Two.f k l0 l1 a2).bind fun t101 => (if t101 = 0 then ((spec_l02Dot.f k l0 l1 a2).bind fun t102 => (some (t102, 0))) else (some (0, t101)))
theorem Z29.z2 {P : Prop} (h : P := by (try simp only [List.map_toArray, List.map_cons, List.map_nil]); first | done | rfl | (simp only [List.length_drop, List.length_take]; rfl)) : P := h
theorem Z29.z1 {P : Prop} (h : P := by repeat (first | exact HR0.out | (with_reducible refine Kd.C_alloc ?_ _) | (with_reducible refine Kd.C_drewN ?_ _) | (with_reducible refine Kd.C_drew ?_))) : P := h
theorem Z29.z0 {P : Prop} (h : P := by repeat (first | exact HR1.out | (with_reducible refine Kd.C_alloc ?_ _) | (with_reducible refine Kd.C_drewN ?_ _) | (with_reducible refine Kd.C_drew ?_))) : P := h
set_option maxHeartbeats 8000000 in
set_option maxRecDepth 100000 in
theorem spec_DotOf.calls (k : Nat) (A0 : Option Addr) (c0 : Nat) (l0 : List Int) (A1 : Option Addr) (c1 : Nat) (l1 : List Int) (a2 : Int) (r1 : Int) (r2 : Int) (w : World) (hr0 : Kd.C (Kd.int .i64) w A0 l0.length l0) (hc0 : l0.length ≤ c0) (hr1 : Kd.C (Kd.int .i64) w A1 l1.length l1) (hc1 : l1.length ≤ c1) (h : spec_DotOf.f k l0 l1 a2 = some (r1, r2)) :
  Calls Try.prog 29 #[.slice A0 l0.length c0, .slice A1 l1.length c1, .int .i64 a2] w fun e w' => e = .returned (.tuple #[.int .i64 r1, .int .i64 r2]) ∧ Drawn0 w w' := by
 have HR0 := Aside0.mk hr0
 have HC0 := Aside0.mk hc0
 clear hr0 hc0
 have HR1 := Aside0.mk hr1
 have HC1 := Aside0.mk hc1
 clear hr1 hc1
 have H : ((spec_l02Two.f k l0 l1 a2).bind fun t101 => (if t101 = 0 then ((spec_l02Dot.f k l0 l1 a2).bind fun t102 => (some (t102, 0))) else (some (0, t101)))) = some (r1, r2) := h
 clear h
 replace H := Option.bind_eq_some_iff.mp H
 obtain ⟨t101, A40, H⟩ := H
 replace H : (if t101 = 0 then ((spec_l02Dot.f k l0 l1 a2).bind fun t102 => (some (t102, 0))) else (some (0, t101))) = some (r1, r2) := H
 have A4 := Aside0.mk A40
 clear A40
 by_cases c5 : t101 = 0
 ·rw [if_pos c5] at H
  have c5b0 : (t101 == 0) = true := beq_iff_eq.mpr c5
  have c5b1 : (t101 != 0) = false := bne_eq_false_iff_eq.mpr c5
  clear c5
  replace H := Option.bind_eq_some_iff.mp H
  obtain ⟨t102, A60, H⟩ := H
  (try dsimp only at H)
  have A6 := Aside0.mk A60
  clear A60
  simp only [Option.some.injEq, Prod.mk.injEq] at H
  obtain ⟨rfl, rfl⟩ := H
  go_enter Try.func29, Try.ntmps29
  go_wp2_with (first | ((with_reducible refine gate_callee (f := 54) rfl ?_); refine goesL_ (some 12) rfl rfl Try.func54 (by kernel_rfl) rfl #[.slice A0 l0.length c0, .slice A1 l1.length c1, .int .i64 a2] rfl Z29.z2 ?_; (with_reducible refine (spec_l02Two.calls k _ _ l0 _ _ l1 a2 t101 _ ?side1 ?side2 ?side3 ?side4 A4.out).mono ?_); (case side1 => exact Z29.z1); (case side2 => exact HC0.out); (case side3 => exact Z29.z0); (case side4 => exact HC1.out); rintro e w' ⟨rfl, ⟨nd, rfl⟩⟩; refine ⟨_, rfl, ?_⟩) | ((with_reducible refine gate_callee (f := 55) rfl ?_); refine goesL_ (some 19) rfl rfl Try.func55 (by kernel_rfl) rfl #[.slice A0 l0.length c0, .slice A1 l1.length c1, .int .i64 a2] rfl Z29.z2 ?_; (with_reducible refine (spec_l02Dot.calls k _ _ l0 _ _ l1 a2 t102 _ ?side1 ?side2 ?side3 ?side4 A6.out).mono ?_); (case side1 => exact Z29.z1); (case side2 => exact HC0.out); (case side3 => exact Z29.z0); (case side4 => exact HC1.out); rintro e w' ⟨rfl, ⟨nd, rfl⟩⟩; refine ⟨_, rfl, ?_⟩))
  go_ret2
  exact ⟨(by first | rfl | (simp; done) | (simp [*]; done)), (by repeat (first | exact Drawn0.refl _ | apply Drawn0.step))⟩
 rw [if_neg c5] at H
 have c5b0 : (t101 == 0) = false := beq_eq_false_iff_ne.mpr c5
 have c5b1 : (t101 != 0) = true := bne_iff_ne.mpr c5
 simp only [Option.some.injEq, Prod.mk.injEq] at H
 obtain ⟨rfl, rfl⟩ := H
 go_enter Try.func29, Try.ntmps29
 go_wp2_with (first | ((with_reducible refine gate_callee (f := 54) rfl ?_); refine goesL_ (some 12) rfl rfl Try.func54 (by kernel_rfl) rfl #[.slice A0 l0.length c0, .slice A1 l1.length c1, .int .i64 a2] rfl Z29.z2 ?_; (with_reducible refine (spec_l02Two.calls k _ _ l0 _ _ l1 a2 t101 _ ?side1 ?side2 ?side3 ?side4 A4.out).mono ?_); (case side1 => exact Z29.z1); (case side2 => exact HC0.out); (case side3 => exact Z29.z0); (case side4 => exact HC1.out); rintro e w' ⟨rfl, ⟨nd, rfl⟩⟩; refine ⟨_, rfl, ?_⟩))
 go_ret2
 exact ⟨(by first | rfl | (simp; done) | (simp [*]; done)), (by repeat (first | exact Drawn0.refl _ | apply Drawn0.step))⟩
/-! ### laws_b10Zero: function 30 -/
def laws_b10Zero.l0 : Nat → List Int → Int → Option (Bool)
  | 0, _, _ => none
  | k + 1, x0, x3 => if x3 < (x0.length : Int) then (if 0 ≤ x3 then (if (rd x0 x3) = 0 then (laws_b10Zero.l0 k x0 (wrap64 (x3 + 1))) else (some false)) else (none)) else (some true)
def laws_b10Zero.f (k : Nat) (l0 : List Int) : Option (Bool) := laws_b10Zero.l0 k l0 0
theorem Z30.z0 {P : Prop} (h : P := by repeat (first | exact Drawn0.refl _ | apply Drawn0.step)) : P := h
set_option maxHeartbeats 8000000 in
set_option maxRecDepth 100000 in
theorem laws_b10Zero.calls (k : Nat) (A0 : Option Addr) (c0 : Nat) (l0 : List Int) (r : Bool) (w : World) (hr0 : Kd.C (Kd.int .i64) w A0 l0.length l0) (hc0 : l0.length ≤ c0) (h : laws_b10Zero.f k l0 = some r) :
  Calls Try.prog 30 #[.slice A0 l0.length c0] w fun e w' => e = .returned (.bool r) ∧ Drawn0 w w' := by
 have HR0 := Aside0.mk hr0
 have HC0 := Aside0.mk hc0
 clear hr0 hc0
 have H : (laws_b10Zero.l0 k l0 0) = some r := h
 clear h
 have H' := Aside0.mk H
 clear H
 go_enter Try.func30, Try.ntmps30
 go_wp2
 go_loopg [3] k (fun kq v3 w' => ∃ (x3_1 : Int), v3 = .int .i64 x3_1 ∧ Aside0 (laws_b10Zero.l0 kq l0 x3_1 = some r) ∧ Aside0 (kq ≤ k) ∧ Drawn0 w w')
 case atStart => exact ⟨(0), (by first | rfl | (simp; done) | (simp [*]; done)), H', ⟨Nat.le_refl _⟩, Z30.z0⟩
 case round =>
  clear H'
  obtain ⟨x3_1, rfl, HA, HK1, ⟨m1, rfl⟩⟩ := hrel
  cases gk with
  | zero => exact absurd HA.out (by simp [laws_b10Zero.l0])
  | succ k1 =>
   have H := HA.out
   clear HA
   simp only [laws_b10Zero.l0] at H
   by_cases c2 : x3_1 < (l0.length : Int)
   ·rw [if_pos c2] at H
    have c2b0 : decide (x3_1 < (l0.length : Int)) = true := decide_eq_true c2
    clear c2
    by_cases c3 : 0 ≤ x3_1
    ·rw [if_pos c3] at H
     have c3b0 : decide (0 ≤ x3_1) = true := decide_eq_true c3
     clear c3
     by_cases c4 : (rd l0 x3_1) = 0
     ·rw [if_pos c4] at H
      have c4b0 : ((rd l0 x3_1) == 0) = true := beq_iff_eq.mpr c4; have c4b1 : ((rd l0 x3_1) != 0) = false := bne_eq_false_iff_eq.mpr c4; clear c4; have H' := Aside0.mk H; clear H; have p101 : 0 ≤ (x3_1 : Int) := of_decide_eq_true (by first | (with_reducible assumption) | assumption); have q101 : x3_1 < (l0.length : Int) := of_decide_eq_true (by first | (with_reducible assumption) | assumption); obtain ⟨ad101, e101, hx101_0⟩ := Kd.at_int HR0.out x3_1 p101 q101; cases e101; replace p101 := eq_true p101; replace q101 := eq_true q101
      go_wp2
      go_roundg k1
      case measure => have := HK1.out; omega
      case rel => exact ⟨(wrap64 (x3_1 + 1)), (by first | rfl | (simp; done) | (simp [*]; done)), H', ⟨(by have := HK1.out; omega)⟩, Z30.z0⟩
     rw [if_neg c4] at H
     have c4b0 : ((rd l0 x3_1) == 0) = false := beq_eq_false_iff_ne.mpr c4
     have c4b1 : ((rd l0 x3_1) != 0) = true := bne_iff_ne.mpr c4
     obtain rfl := Option.some.inj H
     have p101 : 0 ≤ (x3_1 : Int) := of_decide_eq_true (by first | (with_reducible assumption) | assumption)
     have q101 : x3_1 < (l0.length : Int) := of_decide_eq_true (by first | (with_reducible assumption) | assumption)
     obtain ⟨ad101, e101, hx101_0⟩ := Kd.at_int HR0.out x3_1 p101 q101
     cases e101
     replace p101 := eq_true p101
     replace q101 := eq_true q101
     go_wp2
     go_ret
     exact ⟨(by first | rfl | (simp; done) | (simp [*]; done)), Z30.z0⟩
    rw [if_neg c3] at H
    exact absurd H (by simp)
   rw [if_neg c2] at H
   have c2b0 : decide (x3_1 < (l0.length : Int)) = false := decide_eq_false c2
   clear c2
   obtain rfl := Option.some.inj H
   go_wp2
   go_ret
   exact ⟨(by first | rfl | (simp; done) | (simp [*]; done)), Z30.z0⟩
/-! ### laws_FnSolve: function 6 -/
def laws_FnSolve.j0 : Nat → List Int → List Int → Int → List Int → Int → Bool → Int → Int → Int → List Int → Option (Bool)
  | 0, _, _, _, _, _, _, _, _, _, _ => none
  | k + 1, x4, x5, x6, x7, x8, x41, x112000, x112001, x112002, x112003 => if x41 = true then (if x8 = x6 then (if (x5.length : Int) = 0 then (some ((x7.length : Int) == 0)) else (some false)) else (some false)) else (if ((x6 == 0) == (x8 == 0)) = true then (some false) else (if x6 = 0 then ((spec_ApplyMatrix.f k x112000 x112001 x112002 x112003 x5).bind fun bt120 => (if x8 = 3 then (if bt120.2 = 0 then ((laws_b10Nums.f k bt120.1 x4).bind fun t124 => (some t124)) else (some false)) else (some false))) else ((spec_Transpose.f k x112000 x112001 x112002 x112003).bind fun bt125 => ((spec_ApplyMatrix.f k bt125.1 bt125.2.1 bt125.2.2.1 bt125.2.2.2.1 x7).bind fun bt133 => ((spec_DotOf.f k x7 x4 x112000).bind fun bt137 => (if bt125.2.2.2.2 = 0 then (if bt133.2 = 0 then ((laws_b10Zero.f k bt133.1).bind fun t139 => (if t139 = true then (if bt137.2 = 0 then (some (bt137.1 == 1)) else (some false)) else (some false))) else (some false)) else (some false)))))))
def laws_FnSolve.f (k : Nat) (l0 : List Int) : Option (Bool) := (laws_b10Long.f l0).bind fun t101 => (if t101 = true then (some true) else ((spec_DrawSolve.f k l0).bind fun bt102 => ((impl_Solve.f k bt102.1 bt102.2.1 bt102.2.2.1 bt102.2.2.2.1 bt102.2.2.2.2).bind fun bt112 => ((impl_Certificate.f k bt102.1 bt102.2.1 bt102.2.2.1 bt102.2.2.2.1 bt102.2.2.2.2).bind fun bt116 => (if bt112.2 = 0 then (laws_FnSolve.j0 k bt102.2.2.2.2 bt112.1 bt112.2 bt116.1 bt116.2 false bt102.1 bt102.2.1 bt102.2.2.1 bt102.2.2.2.1) else (laws_FnSolve.j0 k bt102.2.2.2.2 bt112.1 bt112.2 bt116.1 bt116.2 (bt112.2 != 3) bt102.1 bt102.2.1 bt102.2.2.1 bt102.2.2.2.1))))))
theorem Z6.bb {w0 w w1 : World} {g : Nat} {o : Obj} (_B : Aside0 (w0.heap[g]? = some o)) (h : w.heap[g]? = some o) (hb : Below w.heap.size w w1) : w1.heap[g]? = some o := blk_below h hb
theorem Z6.bl {w0 w : World} {g : Nat} {o : Obj} (_B : Aside0 (w0.heap[g]? = some o)) (h : w.heap[g]? = some o) : g < w.heap.size := blk_lt h
theorem Z6.k {p : Prop} (h : p) : Aside0 p := ⟨h⟩
theorem Z6.z25 {P : Prop} (h : P := by (with_reducible repeat (first | apply Kd.R_alloc | apply Kd.R_drewN | apply Kd.R_drew)); exact Kd.R_mono HO107.out (fun _ hk => ⟨hk.1.1, ⟨hk.1.2, hk.2⟩⟩)) : P := h
theorem Z6.z24 {P : Prop} (h : P := by (with_reducible repeat (first | apply Kd.R_alloc | apply Kd.R_drewN | apply Kd.R_drew)); exact Kd.R_mono HO110.out (fun _ hk => ⟨hk.1.2, ⟨hk.2, hk.1.1⟩⟩)) : P := h
theorem Z6.z23 {P : Prop} (h : P := by (with_reducible repeat (first | apply Kd.R_alloc | apply Kd.R_drewN | apply Kd.R_drew)); exact Kd.R_mono HO114.out (fun _ hk => ⟨hk.1.2, ⟨hk.2, hk.1.1.2⟩⟩)) : P := h
theorem Z6.z22 {P : Prop} (h : P := by (with_reducible repeat (first | apply Kd.R_alloc | apply Kd.R_drewN | apply Kd.R_drew)); exact Kd.R_mono HO118.out (fun _ hk => ⟨hk.1.2, ⟨hk.2, hk.1.1.2⟩⟩)) : P := h
theorem Z6.z21 {P : Prop} (h : P := by repeat (first | exact (Kd.R_reads' HO_4.out).2.2 | (with_reducible refine Kd.C_alloc ?_ _) | (with_reducible refine Kd.C_drewN ?_ _) | (with_reducible refine Kd.C_drew ?_))) : P := h
theorem Z6.z20 {P : Prop} (h : P := by repeat (first | exact (Kd.R_reads' HO_112003.out).2.2 | (with_reducible refine Kd.C_alloc ?_ _) | (with_reducible refine Kd.C_drewN ?_ _) | (with_reducible refine Kd.C_drew ?_))) : P := h
theorem Z6.z19 {P : Prop} (h : P := by (with_reducible repeat (first | apply Kd.R_alloc | apply Kd.R_drewN | apply Kd.R_drew)); exact HO107.out) : P := h
theorem Z6.z18 {P : Prop} (h : P := by (with_reducible repeat (first | apply Kd.R_alloc | apply Kd.R_drewN | apply Kd.R_drew)); exact HO110.out) : P := h
theorem Z6.z17 {P : Prop} (h : P := by repeat (first | exact HR0.out | (with_reducible refine Kd.C_alloc ?_ _) | (with_reducible refine Kd.C_drewN ?_ _) | (with_reducible refine Kd.C_drew ?_))) : P := h
theorem Z6.z16 {P : Prop} (h : P := by (with_reducible repeat (first | apply Kd.R_alloc | apply Kd.R_drewN | apply Kd.R_drew)); exact HO_4.out) : P := h
theorem Z6.z15 {P : Prop} (h : P := by (with_reducible repeat (first | apply Kd.R_alloc | apply Kd.R_drewN | apply Kd.R_drew)); exact HO_5.out) : P := h
theorem Z6.z14 {P : Prop} (h : P := by (with_reducible repeat (first | apply Kd.R_alloc | apply Kd.R_drewN | apply Kd.R_drew)); exact HO_7.out) : P := h
theorem Z6.z13 {P : Prop} (h : P := by repeat (first | (with_reducible first | exact HB.out | apply below_alloc | apply pw_below_drewN | apply below_drew1 | refine below_set ?_ GE111.out | refine below_set ?_ GE132.out) | exact HB.out)) : P := h
theorem Z6.z12 {P : Prop} (h : P := by (with_reducible repeat (first | apply Kd.R_alloc | apply Kd.R_drewN | apply Kd.R_drew)); exact HO_112003.out) : P := h
theorem Z6.z11 {P : Prop} (h : P := by (with_reducible repeat (first | apply Kd.R_alloc | apply Kd.R_drewN | apply Kd.R_drew)); exact (Kd.R_mono (Kd.R_far (p := ⟨gb132, 3, none⟩) (Kd.R_far (p := ⟨gb132, 2, none⟩) (Kd.R_far (p := ⟨gb132, 1, none⟩) (Kd.R_far (p := ⟨gb132, 0, none⟩) (Kd.R_types HO_4.out BK132.out (by decide)) (fun _ hk => hk.2) (.int .i64 t125)) (fun _ hk => hk.2) (.int .i64 t126)) (fun _ hk => hk.2) (.int .i64 t127)) (fun _ hk => hk.2) (.slice Ao52 t128.length co52)) (fun _ h_ => h_.1))) : P := h
theorem Z6.z10 {P : Prop} (h : P := by (with_reducible repeat (first | apply Kd.R_alloc | apply Kd.R_drewN | apply Kd.R_drew)); exact (Kd.R_mono (Kd.R_far (p := ⟨gb132, 3, none⟩) (Kd.R_far (p := ⟨gb132, 2, none⟩) (Kd.R_far (p := ⟨gb132, 1, none⟩) (Kd.R_far (p := ⟨gb132, 0, none⟩) (Kd.R_types HO_5.out BK132.out (by decide)) (fun _ hk => hk.2) (.int .i64 t125)) (fun _ hk => hk.2) (.int .i64 t126)) (fun _ hk => hk.2) (.int .i64 t127)) (fun _ hk => hk.2) (.slice Ao52 t128.length co52)) (fun _ h_ => h_.1))) : P := h
theorem Z6.z9 {P : Prop} (h : P := by (with_reducible repeat (first | apply Kd.R_alloc | apply Kd.R_drewN | apply Kd.R_drew)); exact (Kd.R_mono (Kd.R_far (p := ⟨gb132, 3, none⟩) (Kd.R_far (p := ⟨gb132, 2, none⟩) (Kd.R_far (p := ⟨gb132, 1, none⟩) (Kd.R_far (p := ⟨gb132, 0, none⟩) (Kd.R_types HO_112003.out BK132.out (by decide)) (fun _ hk => hk.2) (.int .i64 t125)) (fun _ hk => hk.2) (.int .i64 t126)) (fun _ hk => hk.2) (.int .i64 t127)) (fun _ hk => hk.2) (.slice Ao52 t128.length co52)) (fun _ h_ => h_.1))) : P := h
theorem Z6.z8 {P : Prop} (h : P := by repeat (first | (with_reducible first | exact HB.out | apply below_alloc | apply pw_below_drewN | apply below_drew1) | exact HB.out)) : P := h
theorem Z6.z7 {P : Prop} (h : P := by (with_reducible repeat (first | refine blk_drewN ?_ _ | refine blk_drew ?_ | refine blk_alloc ?_ _)); exact BK111.out) : P := h
theorem Z6.z6 {P : Prop} (h : P := by first | rfl | (rw [Int.tmod_eq_emod_of_nonneg (a := 1) (by decide), hd_]; rfl) | (simp only [Int.tmod_eq_emod_of_nonneg (show (0 : Int) ≤ 1 from by decide)]; simp [hd_]; done) | (simp [errW_none, errW_some] <;> rfl) | (simp [*, errW_none, errW_some] <;> rfl)) : P := h
theorem Z6.z5 {P : Prop} (h : P := by (with_reducible repeat (first | apply Kd.R_alloc | apply Kd.R_drewN | apply Kd.R_drew)); exact (Kd.R_mono (Kd.R_far (p := ⟨gb132, 3, none⟩) (Kd.R_far (p := ⟨gb132, 2, none⟩) (Kd.R_far (p := ⟨gb132, 1, none⟩) (Kd.R_far (p := ⟨gb132, 0, none⟩) (Kd.R_types HO_7.out BK132.out (by decide)) (fun _ hk => hk.2) (.int .i64 t125)) (fun _ hk => hk.2) (.int .i64 t126)) (fun _ hk => hk.2) (.int .i64 t127)) (fun _ hk => hk.2) (.slice Ao52 t128.length co52)) (fun _ h_ => h_.1))) : P := h
theorem Z6.z4 {P : Prop} (h : P := by (with_reducible repeat (first | apply Kd.R_alloc | apply Kd.R_drewN | apply Kd.R_drew)); exact (Kd.R_mono (Kd.R_far (p := ⟨gb111, 3, none⟩) (Kd.R_far (p := ⟨gb111, 2, none⟩) (Kd.R_far (p := ⟨gb111, 1, none⟩) (Kd.R_far (p := ⟨gb111, 0, none⟩) (Kd.R_types HO107.out BK111.out (by decide)) (fun _ hk => hk.2) (.int .i64 t102)) (fun _ hk => hk.2) (.int .i64 t103)) (fun _ hk => hk.2) (.int .i64 t104)) (fun _ hk => hk.2) (.slice Ao11 t105.length co11)) (fun _ h_ => h_.1))) : P := h
theorem Z6.z3 {P : Prop} (h : P := by (with_reducible repeat (first | apply Kd.R_alloc | apply Kd.R_drewN | apply Kd.R_drew)); exact (Kd.R_mono (Kd.R_far (p := ⟨gb111, 3, none⟩) (Kd.R_far (p := ⟨gb111, 2, none⟩) (Kd.R_far (p := ⟨gb111, 1, none⟩) (Kd.R_far (p := ⟨gb111, 0, none⟩) (Kd.R_types HO110.out BK111.out (by decide)) (fun _ hk => hk.2) (.int .i64 t102)) (fun _ hk => hk.2) (.int .i64 t103)) (fun _ hk => hk.2) (.int .i64 t104)) (fun _ hk => hk.2) (.slice Ao11 t105.length co11)) (fun _ h_ => h_.1))) : P := h
theorem Z6.z2 {P : Prop} (h : P := by (with_reducible repeat (first | apply Kd.R_alloc | apply Kd.R_drewN | apply Kd.R_drew)); exact (Kd.R_mono (Kd.R_far (p := ⟨gb132, 3, none⟩) (Kd.R_far (p := ⟨gb132, 2, none⟩) (Kd.R_far (p := ⟨gb132, 1, none⟩) (Kd.R_far (p := ⟨gb132, 0, none⟩) (Kd.R_types HO130.out BK132.out (by decide)) (fun _ hk => hk.2) (.int .i64 t125)) (fun _ hk => hk.2) (.int .i64 t126)) (fun _ hk => hk.2) (.int .i64 t127)) (fun _ hk => hk.2) (.slice Ao52 t128.length co52)) (fun _ h_ => h_.1))) : P := h
theorem Z6.z1 {P : Prop} (h : P := by (try simp only [List.map_toArray, List.map_cons, List.map_nil]); first | done | rfl | (simp only [List.length_drop, List.length_take]; rfl)) : P := h
theorem Z6.z0 {P : Prop} (h : P := by repeat (first | (with_reducible first | exact HB.out | apply below_alloc | apply pw_below_drewN | apply below_drew1 | refine below_set ?_ GE111.out) | exact HB.out)) : P := h
set_option maxHeartbeats 8000000 in
set_option maxRecDepth 100000 in
theorem laws_FnSolve.calls (k : Nat) (A0 : Option Addr) (c0 : Nat) (l0 : List Int) (_r : Bool) (w : World) (hr0 : Kd.C (Kd.int .u8) w A0 l0.length l0) (hc0 : l0.length ≤ c0) (h : laws_FnSolve.f k l0 = some true) :
  Calls Try.prog 6 #[.slice A0 l0.length c0] w fun e w' => e = .returned (.bool true) ∧ Below w.heap.size w w' := by
 have hu28 := Try.underlying28
 have HR0 := Z6.k hr0
 have HC0 := Z6.k hc0
 clear hr0 hc0
 have HB := Z6.k (Below.refl w.heap.size w)
 have H : ((laws_b10Long.f l0).bind fun t101 => (if t101 = true then (some true) else ((spec_DrawSolve.f k l0).bind fun bt102 => ((impl_Solve.f k bt102.1 bt102.2.1 bt102.2.2.1 bt102.2.2.2.1 bt102.2.2.2.2).bind fun bt112 => ((impl_Certificate.f k bt102.1 bt102.2.1 bt102.2.2.1 bt102.2.2.2.1 bt102.2.2.2.2).bind fun bt116 => (if bt112.2 = 0 then (laws_FnSolve.j0 k bt102.2.2.2.2 bt112.1 bt112.2 bt116.1 bt116.2 false bt102.1 bt102.2.1 bt102.2.2.1 bt102.2.2.2.1) else (laws_FnSolve.j0 k bt102.2.2.2.2 bt112.1 bt112.2 bt116.1 bt116.2 (bt112.2 != 3) bt102.1 bt102.2.1 bt102.2.2.1 bt102.2.2.2.1))))))) = some true := h
 clear h
 replace H := Option.bind_eq_some_iff.mp H
 obtain ⟨t101, A20, H⟩ := H
 replace H : (if t101 = true then (some true) else ((spec_DrawSolve.f k l0).bind fun bt102 => ((impl_Solve.f k bt102.1 bt102.2.1 bt102.2.2.1 bt102.2.2.2.1 bt102.2.2.2.2).bind fun bt112 => ((impl_Certificate.f k bt102.1 bt102.2.1 bt102.2.2.1 bt102.2.2.2.1 bt102.2.2.2.2).bind fun bt116 => (if bt112.2 = 0 then (laws_FnSolve.j0 k bt102.2.2.2.2 bt112.1 bt112.2 bt116.1 bt116.2 false bt102.1 bt102.2.1 bt102.2.2.1 bt102.2.2.2.1) else (laws_FnSolve.j0 k bt102.2.2.2.2 bt112.1 bt112.2 bt116.1 bt116.2 (bt112.2 != 3) bt102.1 bt102.2.1 bt102.2.2.1 bt102.2.2.2.1)))))) = some true := H
 have A2 := Z6.k A20
 clear A20
 by_cases c3 : t101 = true
 ·subst c3
  have H1 : (some true) = some true := rfl
  clear H
  have H := H1
  clear H1
  first | exact absurd H (by decide) | obtain rfl := Option.some.inj H | have hd_ := Option.some.inj H
  all_goals
   go_enter Try.func6, Try.ntmps6
   go_wp2_with (first | ((with_reducible refine gate_callee (f := 24) rfl ?_); refine goesL_ (some 18) rfl rfl Try.func24 (by kernel_rfl) rfl #[.slice A0 l0.length c0] rfl Z6.z1 ?_; (with_reducible refine (laws_b10Long.calls _ _ l0 true _ ?side1 ?side2 A2.out).mono ?_); (case side1 => exact Z6.z17); (case side2 => exact HC0.out); rintro e w' ⟨rfl, ⟨nd, rfl⟩⟩; refine ⟨_, rfl, ?_⟩))
   go_ret
   exact ⟨Z6.z6, Z6.z8⟩
 ·as_aux_lemma =>
   replace c3 := Bool.eq_false_iff.mpr c3
   subst c3
   rw [if_neg (show ¬ (false = true) by decide)] at H
   replace H := Option.bind_eq_some_iff.mp H
   obtain ⟨⟨t102, t103, t104, t105, t108⟩, A40, H⟩ := H
   (try dsimp only at H)
   have A4 := Z6.k A40
   clear A40
   replace H := Option.bind_eq_some_iff.mp H
   obtain ⟨⟨t112, t115⟩, A50, H⟩ := H
   (try dsimp only at H)
   have A5 := Z6.k A50
   clear A50
   replace H := Option.bind_eq_some_iff.mp H
   obtain ⟨⟨t116, t119⟩, A60, H⟩ := H
   (try dsimp only at H)
   have A6 := Z6.k A60
   clear A60
   have HC7 := Z6.k H
   clear H
   go_enter Try.func6, Try.ntmps6
   go_upto_region 6 with (first | ((with_reducible refine gate_callee (f := 24) rfl ?_); refine goesL_ (some 18) rfl rfl Try.func24 (by kernel_rfl) rfl #[.slice A0 l0.length c0] rfl Z6.z1 ?_; (with_reducible refine (laws_b10Long.calls _ _ l0 false _ ?side1 ?side2 A2.out).mono ?_); (case side1 => exact Z6.z17); (case side2 => exact HC0.out); rintro e w' ⟨rfl, ⟨nd, rfl⟩⟩; refine ⟨_, rfl, ?_⟩) | ((with_reducible refine gate_callee (f := 25) rfl ?_); refine goesL_ (some 21) rfl rfl Try.func25 (by kernel_rfl) rfl #[.slice A0 l0.length c0] rfl Z6.z1 ?_; (with_reducible refine (spec_DrawSolve.calls k _ _ l0 t102 t103 t104 t105 t108 _ ?side1 ?side2 A4.out).mono ?_); (case side1 => exact Z6.z17); (case side2 => exact HC0.out); rintro e w8 ⟨v106, v109, rfl, ho0, ho1, hb⟩; refine ⟨_, rfl, ?_⟩; have HO107 := Z6.k (Kd.R_lower ho0 (below_size Z6.z8)); have HO110 := Z6.k (Kd.R_lower ho1 (below_size Z6.z8)); replace HB := Z6.k (below_step Z6.z8 hb); (try clear hb); (try clear hb2); (try clear hk); (try clear hi); (try clear ho0); (try clear ho1)) | ((with_reducible refine gate_dst (N := 3) rfl ?_); (try (refine gate_guard (by rfl) ?_; dsimp only)); refine box_event ?hg (N := 3) ?hd (cs := #[.int .i64 0, .int .i64 0, .int .i64 0, .slice none 0 0]) (t := 28) ?hr ?_; (case hd => rfl); (case hg => rfl); (case hr => first | (go_simp; done) | (go_simp; rfl)); intro gb111 hg w9 hbox hb; have BK111 := Z6.k (hbox); have GW111 := Z6.k (show w.heap.size ≤ gb111 from (by rw [hg]; exact (below_size Z6.z8))); have GE111 := Z6.k (show w.heap.size ≤ gb111 from (by rw [hg]; exact (below_size Z6.z8))); replace HO107 := Z6.k (Kd.R_below Z6.z19 hb); replace HO110 := Z6.k (Kd.R_below Z6.z18 hb); replace HB := Z6.k (below_step Z6.z8 hb); clear hb hbox hg; obtain ⟨hcz10_0, hcz10_1, hcz10_2, hcz10_3, hfz10_0, hfz10_1, hfz10_2, hfz10_3⟩ := cells4 BK111.out; obtain ⟨Ao11, co11, eo11⟩ := Kd.R_slice HO107.out; subst eo11; obtain ⟨Ao12, co12, eo12⟩ := Kd.R_slice HO110.out; subst eo12) | ((with_reducible refine gate_callee (f := 11) rfl ?_); refine goesL_ (some 27) rfl rfl Try.func11 (by kernel_rfl) rfl #[.agg #[.int .i64 t102, .int .i64 t103, .int .i64 t104, .slice Ao11 t105.length co11], .slice Ao12 t108.length co12] rfl Z6.z1 ?_; (with_reducible refine (impl_Solve.calls k t102 t103 t104 _ _ t105 _ _ t108 t112 t115 _ ?side1 ?side2 ?side3 ?side4 A5.out).mono ?_); (case side1 => exact (by refine (Kd.R_reads' (e := 2) (base := w.heap.size) (ok := fun k_ => some k_ ≠ (.slice Ao12 t108.length co12 : Value).ownBlock) (n := t105.length) (c := co11) ?_).2.2; exact Z6.z4)); (case side2 => exact (Kd.R_reads' HO107.out).2.1); (case side3 => exact (by refine (Kd.R_reads' (e := 2) (base := w.heap.size) (ok := fun k_ => some k_ ≠ (.slice Ao11 t105.length co11 : Value).ownBlock) (n := t108.length) (c := co12) ?_).2.2; exact Z6.z3)); (case side4 => exact (Kd.R_reads' HO110.out).2.1); rintro e w13 ⟨v113, rfl, ho0, hb⟩; refine ⟨_, rfl, ?_⟩; have HO114 := Z6.k (Kd.R_lower (Kd.R_new' (Kd.R_new' ho0 (Kd.R_lt Z6.z4)) (Kd.R_lt Z6.z3)) (below_size Z6.z0)); replace HO107 := Z6.k (Kd.R_elder' Z6.z4 (Kd.R_base ho0) hb); replace HO110 := Z6.k (Kd.R_elder' Z6.z3 (Kd.R_base ho0) hb); replace BK111 := Z6.k (blk_below (g := gb111) (o := .cells #[.int .i64 t102, .int .i64 t103, .int .i64 t104, .slice Ao11 t105.length co11] 28 (0, 0)) (by (with_reducible repeat (first | refine blk_drewN ?_ _ | refine blk_drew ?_ | refine blk_alloc ?_ _)); refine blk_put (cs := #[.int .i64 t102, .int .i64 t103, .int .i64 t104, .slice none 0 0]) ?_ 3 _ rfl; (with_reducible repeat (first | refine blk_drewN ?_ _ | refine blk_drew ?_ | refine blk_alloc ?_ _)); refine blk_put (cs := #[.int .i64 t102, .int .i64 t103, .int .i64 0, .slice none 0 0]) ?_ 2 _ rfl; (with_reducible repeat (first | refine blk_drewN ?_ _ | refine blk_drew ?_ | refine blk_alloc ?_ _)); refine blk_put (cs := #[.int .i64 t102, .int .i64 0, .int .i64 0, .slice none 0 0]) ?_ 1 _ rfl; (with_reducible repeat (first | refine blk_drewN ?_ _ | refine blk_drew ?_ | refine blk_alloc ?_ _)); refine blk_put (cs := #[.int .i64 0, .int .i64 0, .int .i64 0, .slice none 0 0]) ?_ 0 _ rfl; (with_reducible repeat (first | refine blk_drewN ?_ _ | refine blk_drew ?_ | refine blk_alloc ?_ _)); exact BK111.out) hb); replace HB := Z6.k (below_step Z6.z0 hb); (try clear hb); (try clear hb2); (try clear hk); (try clear hi); (try clear ho0); obtain ⟨hcz14_0, hcz14_1, hcz14_2, hcz14_3, hfz14_0, hfz14_1, hfz14_2, hfz14_3⟩ := cells4 BK111.out) | ((with_reducible refine gate_callee (f := 23) rfl ?_); refine goesL_ (some 33) rfl rfl Try.func23 (by kernel_rfl) rfl #[.agg #[.int .i64 t102, .int .i64 t103, .int .i64 t104, .slice Ao11 t105.length co11], .slice Ao12 t108.length co12] rfl Z6.z1 ?_; (with_reducible refine (impl_Certificate.calls k t102 t103 t104 _ _ t105 _ _ t108 t116 t119 _ ?side1 ?side2 ?side3 ?side4 A6.out).mono ?_); (case side1 => exact (by repeat (first | exact (Kd.R_reads' HO107.out).2.2 | (with_reducible refine Kd.C_alloc ?_ _) | (with_reducible refine Kd.C_drewN ?_ _) | (with_reducible refine Kd.C_drew ?_)))); (case side2 => exact (Kd.R_reads' HO107.out).2.1); (case side3 => exact (by repeat (first | exact (Kd.R_reads' HO110.out).2.2 | (with_reducible refine Kd.C_alloc ?_ _) | (with_reducible refine Kd.C_drewN ?_ _) | (with_reducible refine Kd.C_drew ?_)))); (case side4 => exact (Kd.R_reads' HO110.out).2.1); rintro e w15 ⟨v117, rfl, ho0, hb⟩; refine ⟨_, rfl, ?_⟩; have HO118 := Z6.k (Kd.R_lower (Kd.R_new' (Kd.R_new' (Kd.R_new' ho0 (Kd.R_lt Z6.z19)) (Kd.R_lt Z6.z18)) (Kd.R_lt (by (with_reducible repeat (first | apply Kd.R_alloc | apply Kd.R_drewN | apply Kd.R_drew)); exact HO114.out))) (below_size Z6.z0)); replace HO107 := Z6.k (Kd.R_elder' Z6.z19 (Kd.R_base ho0) hb); replace HO110 := Z6.k (Kd.R_elder' Z6.z18 (Kd.R_base ho0) hb); replace HO114 := Z6.k (Kd.R_elder' (by (with_reducible repeat (first | apply Kd.R_alloc | apply Kd.R_drewN | apply Kd.R_drew)); exact HO114.out) (Kd.R_base ho0) hb); replace BK111 := Z6.k (Z6.bb BK111 Z6.z7 hb); replace HB := Z6.k (below_step Z6.z0 hb); (try clear hb); (try clear hb2); (try clear hk); (try clear hi); (try clear ho0)))
   (try simp only [Act.put, List.setIfInBounds_toArray, List.set_cons_zero, List.set_cons_succ])
   go_cut [41] (fun v41 wc => ∃ (kq : Nat) (x41_6 : Bool), v41 = .bool x41_6 ∧ Aside0 (laws_FnSolve.j0 kq t108 t112 t115 t116 t119 x41_6 t102 t103 t104 t105 = some true) ∧ Aside0 (kq ≤ k) ∧ Aside0 (Kd.R (Kd.int .i64) 2 wc w.heap.size (fun k_ => some k_ ≠ (v113 : Value).ownBlock ∧ some k_ ≠ (v117 : Value).ownBlock ∧ some k_ ≠ ((.slice Ao11 t105.length co11) : Value).ownBlock) (.slice Ao12 t108.length co12) t108) ∧ Aside0 (Kd.R (Kd.int .i64) 2 wc w.heap.size (fun k_ => some k_ ≠ ((.slice Ao12 t108.length co12) : Value).ownBlock ∧ some k_ ≠ (v117 : Value).ownBlock ∧ some k_ ≠ ((.slice Ao11 t105.length co11) : Value).ownBlock) v113 t112) ∧ Aside0 (Kd.R (Kd.int .i64) 2 wc w.heap.size (fun k_ => some k_ ≠ ((.slice Ao12 t108.length co12) : Value).ownBlock ∧ some k_ ≠ (v113 : Value).ownBlock ∧ some k_ ≠ ((.slice Ao11 t105.length co11) : Value).ownBlock) v117 t116) ∧ Aside0 (Kd.R (Kd.int .i64) 2 wc w.heap.size (fun k_ => some k_ ≠ ((.slice Ao12 t108.length co12) : Value).ownBlock ∧ some k_ ≠ (v113 : Value).ownBlock ∧ some k_ ≠ (v117 : Value).ownBlock) (.slice Ao11 t105.length co11) t105) ∧ Aside0 (wc.heap[gb111]? = some (.cells #[.int .i64 t102, .int .i64 t103, .int .i64 t104, (.slice Ao11 t105.length co11)] 28 (0, 0))) ∧ Aside0 (Below w.heap.size w wc))
   case first =>
    have H := HC7.out
    clear HC7
    by_cases c16 : t115 = 0
    ·rw [if_pos c16] at H
     have c16b0 : (t115 == 0) = true := beq_iff_eq.mpr c16
     have c16b1 : (t115 != 0) = false := bne_eq_false_iff_eq.mpr c16
     clear c16
     (first | rw [c16b0] | (simp only [i64_w, i32_w]; rw [c16b0]) | skip)
     have H' := Z6.k H
     clear H
     go_wp2
     go_meet
     case rel => exact ⟨_, (false), (by first | rfl | (simp; done) | (simp [*]; done)), H', ⟨(by first | omega | exact Nat.le_refl _)⟩, ⟨Z6.z24⟩, ⟨Z6.z23⟩, ⟨Z6.z22⟩, ⟨Z6.z25⟩, ⟨Z6.z7⟩, ⟨Z6.z0⟩⟩
    rw [if_neg c16] at H
    have c16b0 : (t115 == 0) = false := beq_eq_false_iff_ne.mpr c16
    have c16b1 : (t115 != 0) = true := bne_iff_ne.mpr c16
    (first | rw [c16b0] | (simp only [i64_w, i32_w]; rw [c16b0]) | skip)
    have H' := Z6.k H
    clear H
    go_wp2
    go_meet
    case rel => exact ⟨_, ((t115 != 3)), (by first | rfl | (simp; done) | (simp [*]; done)), H', ⟨(by first | omega | exact Nat.le_refl _)⟩, ⟨Z6.z24⟩, ⟨Z6.z23⟩, ⟨Z6.z22⟩, ⟨Z6.z25⟩, ⟨Z6.z7⟩, ⟨Z6.z0⟩⟩
   case rest =>
    clear HC7
    try clear c1
    try clear c2
    try clear p2
    try clear c3
    try clear c6
    try clear c11
    try clear c16
    try clear c16b0
    try clear c16b1
    try clear hcz10_0
    try clear hcz10_1
    try clear hcz10_2
    try clear hcz10_3
    try clear hcz14_0
    try clear hcz14_1
    try clear hcz14_2
    try clear hcz14_3
    try clear hfz10_0
    try clear hfz10_1
    try clear hfz10_2
    try clear hfz10_3
    try clear hfz14_0
    try clear hfz14_1
    try clear hfz14_2
    try clear hfz14_3
    obtain ⟨kq, x41_6, rfl, HA, HJ6, HO_4, HO_5, HO_7, HO_112003, BK111, HB⟩ := hcut
    cases kq with
    | zero => exact absurd HA.out (by simp [laws_FnSolve.j0])
    | succ kj6 =>
     have H := HA.out
     clear HA
     simp only [laws_FnSolve.j0] at H
     by_cases c17 : x41_6 = true
     ·subst c17
      rw [if_pos rfl] at H
      by_cases c18 : t119 = t115
      ·rw [if_pos c18] at H
       have c18b0 : (t119 == t115) = true := beq_iff_eq.mpr c18; have c18b1 : (t119 != t115) = false := bne_eq_false_iff_eq.mpr c18; clear c18
       by_cases c19 : (t112.length : Int) = 0
       ·rw [if_pos c19] at H
        have c19b0 : ((t112.length : Int) == 0) = true := beq_iff_eq.mpr c19; have c19b1 : ((t112.length : Int) != 0) = false := bne_eq_false_iff_eq.mpr c19; clear c19
        first | exact absurd H (by decide) | obtain rfl := Option.some.inj H | have hd_ := Option.some.inj H
        all_goals
         obtain ⟨Ao20, co20, eo20⟩ := Kd.R_slice HO_5.out; subst eo20; obtain ⟨Ao21, co21, eo21⟩ := Kd.R_slice HO_7.out; subst eo21
         go_wp2
         go_ret
         exact ⟨Z6.z6, Z6.z0⟩
       rw [if_neg c19] at H; have c19b0 : ((t112.length : Int) == 0) = false := beq_eq_false_iff_ne.mpr c19; have c19b1 : ((t112.length : Int) != 0) = true := bne_iff_ne.mpr c19; have c19b2 : ¬ (t112 = []) := fun h_ => c19 (by rw [h_]; rfl)
       exact absurd H (by simp)
      rw [if_neg c18] at H; have c18b0 : (t119 == t115) = false := beq_eq_false_iff_ne.mpr c18; have c18b1 : (t119 != t115) = true := bne_iff_ne.mpr c18; exact absurd H (by simp)
     ·as_aux_lemma =>
       replace c17 := Bool.eq_false_iff.mpr c17; subst c17; rw [if_neg (show ¬ (false = true) by decide)] at H
       by_cases c23 : ((t115 == 0) == (t119 == 0)) = true
       ·rw [if_pos c23] at H
        have c23b0 : ((t115 == 0) == (t119 == 0)) = true := c23
        (try (have c23b1 : decide ((t115 == 0) = (t119 == 0)) = true := by simpa using c23))
        (try (have c23b2 : ((t115 == 0) == (t119 == 0)) = true := by simpa using c23))
        clear c23; exact absurd H (by simp)
       ·as_aux_lemma =>
         rw [if_neg c23] at H; have c23b0 : ((t115 == 0) == (t119 == 0)) = false := by simpa using c23
         (try (have c23b1 : decide ((t115 == 0) = (t119 == 0)) = false := by simpa using c23))
         (try (have c23b2 : ((t115 == 0) == (t119 == 0)) = false := by simpa using c23))
         (try (have c23b3 : ¬ ((t115 == 0) = (t119 == 0)) := by simpa using c23))
         clear c23
         by_cases c24 : t115 = 0
         ·rw [if_pos c24] at H
          have c24b0 : (t115 == 0) = true := beq_iff_eq.mpr c24; have c24b1 : (t115 != 0) = false := bne_eq_false_iff_eq.mpr c24; have cx1_ : (t119 == 0) = false := by have h_ := c23b0; rw [c24b0] at h_; simpa using h_
          clear c24; replace H := Option.bind_eq_some_iff.mp H; obtain ⟨⟨t120, t123⟩, A250, H⟩ := H
          (try dsimp only at H)
          have A25 := Z6.k A250; clear A250
          by_cases c26 : t119 = 3
          ·rw [if_pos c26] at H
           have c26b0 : (t119 == 3) = true := beq_iff_eq.mpr c26; have c26b1 : (t119 != 3) = false := bne_eq_false_iff_eq.mpr c26; clear c26
           by_cases c27 : t123 = 0
           ·rw [if_pos c27] at H
            have c27b0 : (t123 == 0) = true := beq_iff_eq.mpr c27; have c27b1 : (t123 != 0) = false := bne_eq_false_iff_eq.mpr c27; clear c27; replace H := Option.bind_eq_some_iff.mp H; obtain ⟨t124, A280, H⟩ := H
            (try dsimp only at H)
            have A28 := Z6.k A280; clear A280
            first | exact absurd H (by decide) | have hd_ := Option.some.inj H
            all_goals
             obtain ⟨hcz29_0, hcz29_1, hcz29_2, hcz29_3, hfz29_0, hfz29_1, hfz29_2, hfz29_3⟩ := cells4 BK111.out; obtain ⟨Ao30, co30, eo30⟩ := Kd.R_slice HO_5.out; subst eo30
             go_wp2_with (first | ((with_reducible refine gate_callee (f := 26) rfl ?_); refine goesL_ (some 65) rfl rfl Try.func26 (by kernel_rfl) rfl #[.agg #[.int .i64 t102, .int .i64 t103, .int .i64 t104, .slice Ao11 t105.length co11], .slice Ao30 t112.length co30] rfl Z6.z1 ?_; (with_reducible refine (spec_ApplyMatrix.calls kj6 t102 t103 t104 _ _ t105 _ _ t112 t120 t123 _ ?side1 ?side2 ?side3 ?side4 A25.out).mono ?_); (case side1 => exact Z6.z20); (case side2 => exact (Kd.R_reads' HO_112003.out).2.1); (case side3 => exact (by repeat (first | exact (Kd.R_reads' HO_5.out).2.2 | (with_reducible refine Kd.C_alloc ?_ _) | (with_reducible refine Kd.C_drewN ?_ _) | (with_reducible refine Kd.C_drew ?_)))); (case side4 => exact (Kd.R_reads' HO_5.out).2.1); rintro e w31 ⟨v121, rfl, ho0, hb⟩; refine ⟨_, rfl, ?_⟩; have HO122 := Z6.k (Kd.R_lower (Kd.R_new' (Kd.R_new' (Kd.R_new' (Kd.R_new' ho0 (Kd.R_lt Z6.z16)) (Kd.R_lt Z6.z15)) (Kd.R_lt Z6.z14)) (Kd.R_lt Z6.z12)) (below_size Z6.z0)); replace HO_4 := Z6.k (Kd.R_elder' Z6.z16 (Kd.R_base ho0) hb); replace HO_5 := Z6.k (Kd.R_elder' Z6.z15 (Kd.R_base ho0) hb); replace HO_7 := Z6.k (Kd.R_elder' Z6.z14 (Kd.R_base ho0) hb); replace HO_112003 := Z6.k (Kd.R_elder' Z6.z12 (Kd.R_base ho0) hb); replace BK111 := Z6.k (Z6.bb BK111 Z6.z7 hb); replace HB := Z6.k (below_step Z6.z0 hb); (try clear hb); (try clear hb2); (try clear hk); (try clear hi); (try clear ho0); obtain ⟨Ao32, co32, eo32⟩ := Kd.R_slice HO122.out; subst eo32) | (go_at_call 27; (with_reducible refine (laws_b10Nums.calls kj6 _ _ t120 _ _ t108 t124 _ ?side1 ?side2 ?side3 ?side4 A28.out).mono ?_); (case side1 => exact (by repeat (first | exact (Kd.R_reads' HO122.out).2.2 | (with_reducible refine Kd.C_alloc ?_ _) | (with_reducible refine Kd.C_drewN ?_ _) | (with_reducible refine Kd.C_drew ?_)))); (case side2 => exact (Kd.R_reads' HO122.out).2.1); (case side3 => exact Z6.z21); (case side4 => exact (Kd.R_reads' HO_4.out).2.1); rintro e w' ⟨rfl, ⟨nd, rfl⟩⟩))
             go_ret
             exact ⟨Z6.z6, Z6.z0⟩
           rw [if_neg c27] at H; have c27b0 : (t123 == 0) = false := beq_eq_false_iff_ne.mpr c27; have c27b1 : (t123 != 0) = true := bne_iff_ne.mpr c27; exact absurd H (by simp)
          rw [if_neg c26] at H; have c26b0 : (t119 == 3) = false := beq_eq_false_iff_ne.mpr c26; have c26b1 : (t119 != 3) = true := bne_iff_ne.mpr c26; exact absurd H (by simp)
         rw [if_neg c24] at H; have c24b0 : (t115 == 0) = false := beq_eq_false_iff_ne.mpr c24; have c24b1 : (t115 != 0) = true := bne_iff_ne.mpr c24; have cx1_ : (t119 == 0) = true := by have h_ := c23b0; rw [c24b0] at h_; simpa using h_
         have cx2_ : (!(t119 == 0)) = false := by rw [cx1_]; rfl
         replace H := Option.bind_eq_some_iff.mp H; obtain ⟨⟨t125, t126, t127, t128, t131⟩, A390, H⟩ := H
         (try dsimp only at H)
         have A39 := Z6.k A390; clear A390; replace H := Option.bind_eq_some_iff.mp H; obtain ⟨⟨t133, t136⟩, A400, H⟩ := H
         (try dsimp only at H)
         have A40 := Z6.k A400; clear A400; replace H := Option.bind_eq_some_iff.mp H; obtain ⟨⟨t137, t138⟩, A410, H⟩ := H
         (try dsimp only at H)
         have A41 := Z6.k A410; clear A410
         by_cases c42 : t131 = 0
         ·rw [if_pos c42] at H
          have c42b0 : (t131 == 0) = true := beq_iff_eq.mpr c42; have c42b1 : (t131 != 0) = false := bne_eq_false_iff_eq.mpr c42; clear c42
          by_cases c43 : t136 = 0
          ·rw [if_pos c43] at H
           have c43b0 : (t136 == 0) = true := beq_iff_eq.mpr c43; have c43b1 : (t136 != 0) = false := bne_eq_false_iff_eq.mpr c43; clear c43; replace H := Option.bind_eq_some_iff.mp H; obtain ⟨t139, A440, H⟩ := H
           (try dsimp only at H)
           have A44 := Z6.k A440; clear A440
           by_cases c45 : t139 = true
           ·subst c45
            rw [if_pos rfl] at H
            by_cases c46 : t138 = 0
            ·rw [if_pos c46] at H
             have c46b0 : (t138 == 0) = true := beq_iff_eq.mpr c46; have c46b1 : (t138 != 0) = false := bne_eq_false_iff_eq.mpr c46; clear c46
             first | exact absurd H (by decide) | obtain rfl := Option.some.inj H | have hd_ := Option.some.inj H
             all_goals
              obtain ⟨hcz47_0, hcz47_1, hcz47_2, hcz47_3, hfz47_0, hfz47_1, hfz47_2, hfz47_3⟩ := cells4 BK111.out
              go_wp2_with (first | ((with_reducible refine gate_callee (f := 28) rfl ?_); refine goesL_ (some 81) rfl rfl Try.func28 (by kernel_rfl) rfl #[.agg #[.int .i64 t102, .int .i64 t103, .int .i64 t104, .slice Ao11 t105.length co11]] rfl Z6.z1 ?_; (with_reducible refine (spec_Transpose.calls kj6 t102 t103 t104 _ _ t105 t125 t126 t127 t128 t131 _ ?side1 ?side2 A39.out).mono ?_); (case side1 => exact Z6.z20); (case side2 => exact (Kd.R_reads' HO_112003.out).2.1); rintro e w48 ⟨v129, rfl, ho0, hb⟩; refine ⟨_, rfl, ?_⟩; have HO130 := Z6.k (Kd.R_lower (Kd.R_new' (Kd.R_new' (Kd.R_new' (Kd.R_new' ho0 (Kd.R_lt Z6.z16)) (Kd.R_lt Z6.z15)) (Kd.R_lt Z6.z14)) (Kd.R_lt Z6.z12)) (below_size Z6.z0)); replace HO_4 := Z6.k (Kd.R_elder' Z6.z16 (Kd.R_base ho0) hb); replace HO_5 := Z6.k (Kd.R_elder' Z6.z15 (Kd.R_base ho0) hb); replace HO_7 := Z6.k (Kd.R_elder' Z6.z14 (Kd.R_base ho0) hb); replace HO_112003 := Z6.k (Kd.R_elder' Z6.z12 (Kd.R_base ho0) hb); replace BK111 := Z6.k (Z6.bb BK111 Z6.z7 hb); replace HB := Z6.k (below_step Z6.z0 hb); (try clear hb); (try clear hb2); (try clear hk); (try clear hi); (try clear ho0)) | ((with_reducible refine gate_dst (N := 11) rfl ?_); (try (refine gate_guard (by rfl) ?_; dsimp only)); refine box_event ?hg (N := 11) ?hd (cs := #[.int .i64 0, .int .i64 0, .int .i64 0, .slice none 0 0]) (t := 28) ?hr ?_; (case hd => rfl); (case hg => rfl); (case hr => first | (go_simp; done) | (go_simp; rfl)); intro gb132 hg w49 hbox hb; have BK132 := Z6.k (hbox); have GW132 := Z6.k (show w.heap.size ≤ gb132 from (by rw [hg]; exact (below_size Z6.z0))); have GE132 := Z6.k (show w.heap.size ≤ gb132 from (by rw [hg]; exact (below_size Z6.z0))); have NB111_132 := Z6.k (show gb111 ≠ gb132 from (by rw [hg]; exact Nat.ne_of_lt (Z6.bl BK111 Z6.z7))); have NB132_111 := Z6.k (show gb132 ≠ gb111 from (by rw [hg]; exact Nat.ne_of_gt (Z6.bl BK111 Z6.z7))); replace HO_4 := Z6.k (Kd.R_below Z6.z16 hb); replace HO_5 := Z6.k (Kd.R_below Z6.z15 hb); replace HO_7 := Z6.k (Kd.R_below Z6.z14 hb); replace HO_112003 := Z6.k (Kd.R_below Z6.z12 hb); replace HO130 := Z6.k (Kd.R_below (by (with_reducible repeat (first | apply Kd.R_alloc | apply Kd.R_drewN | apply Kd.R_drew)); exact HO130.out) hb); replace BK111 := Z6.k (Z6.bb BK111 Z6.z7 hb); replace HB := Z6.k (below_step Z6.z0 hb); clear hb hbox hg; have hnb50 := NB132_111.out; have hnc50 := NB111_132.out; obtain ⟨hcz51_0, hcz51_1, hcz51_2, hcz51_3, hfz51_0, hfz51_1, hfz51_2, hfz51_3⟩ := cells4 BK132.out; obtain ⟨Ao52, co52, eo52⟩ := Kd.R_slice HO130.out; subst eo52; obtain ⟨Ao53, co53, eo53⟩ := Kd.R_slice HO_7.out; subst eo53) | ((with_reducible refine gate_callee (f := 26) rfl ?_); refine goesL_ (some 87) rfl rfl Try.func26 (by kernel_rfl) rfl #[.agg #[.int .i64 t125, .int .i64 t126, .int .i64 t127, .slice Ao52 t128.length co52], .slice Ao53 t116.length co53] rfl Z6.z1 ?_; (with_reducible refine (spec_ApplyMatrix.calls kj6 t125 t126 t127 _ _ t128 _ _ t116 t133 t136 _ ?side1 ?side2 ?side3 ?side4 A40.out).mono ?_); (case side1 => exact (by refine (Kd.R_reads' (e := 2) (base := w.heap.size) (ok := fun k_ => ((((True ∧ some k_ ≠ (.slice Ao12 t108.length co12 : Value).ownBlock) ∧ some k_ ≠ (v113 : Value).ownBlock) ∧ some k_ ≠ (.slice Ao53 t116.length co53 : Value).ownBlock) ∧ some k_ ≠ (.slice Ao11 t105.length co11 : Value).ownBlock)) (n := t128.length) (c := co52) ?_).2.2; exact Z6.z2)); (case side2 => exact (Kd.R_reads' HO130.out).2.1); (case side3 => exact (by refine (Kd.R_reads' (e := 2) (base := w.heap.size) (ok := fun k_ => ((some k_ ≠ (.slice Ao12 t108.length co12 : Value).ownBlock ∧ (some k_ ≠ (v113 : Value).ownBlock ∧ some k_ ≠ (.slice Ao11 t105.length co11 : Value).ownBlock)) ∧ some k_ ≠ (.slice Ao52 t128.length co52 : Value).ownBlock)) (n := t116.length) (c := co53) ?_).2.2; exact Z6.z5)); (case side4 => exact (Kd.R_reads' HO_7.out).2.1); rintro e w54 ⟨v134, rfl, ho0, hb⟩; refine ⟨_, rfl, ?_⟩; have HO135 := Z6.k (Kd.R_lower (Kd.R_new' (Kd.R_new' (Kd.R_new' (Kd.R_new' (Kd.R_new' ho0 (Kd.R_lt Z6.z11)) (Kd.R_lt Z6.z10)) (Kd.R_lt Z6.z5)) (Kd.R_lt Z6.z9)) (Kd.R_lt Z6.z2)) (below_size Z6.z13)); replace HO_4 := Z6.k (Kd.R_elder' Z6.z11 (Kd.R_base ho0) hb); replace HO_5 := Z6.k (Kd.R_elder' Z6.z10 (Kd.R_base ho0) hb); replace HO_7 := Z6.k (Kd.R_elder' Z6.z5 (Kd.R_base ho0) hb); replace HO_112003 := Z6.k (Kd.R_elder' Z6.z9 (Kd.R_base ho0) hb); replace HO130 := Z6.k (Kd.R_elder' Z6.z2 (Kd.R_base ho0) hb); replace BK111 := Z6.k (Z6.bb BK111 (by (repeat (first | (with_reducible first | refine blk_drewN ?_ _ | refine blk_drew ?_ | refine blk_alloc ?_ _) | refine blk_far ?_ NB111_132.out _)); exact BK111.out) hb); replace BK132 := Z6.k (blk_below (g := gb132) (o := .cells #[.int .i64 t125, .int .i64 t126, .int .i64 t127, .slice Ao52 t128.length co52] 28 (0, 0)) (by (with_reducible repeat (first | refine blk_drewN ?_ _ | refine blk_drew ?_ | refine blk_alloc ?_ _)); refine blk_put (cs := #[.int .i64 t125, .int .i64 t126, .int .i64 t127, .slice none 0 0]) ?_ 3 _ rfl; (with_reducible repeat (first | refine blk_drewN ?_ _ | refine blk_drew ?_ | refine blk_alloc ?_ _)); refine blk_put (cs := #[.int .i64 t125, .int .i64 t126, .int .i64 0, .slice none 0 0]) ?_ 2 _ rfl; (with_reducible repeat (first | refine blk_drewN ?_ _ | refine blk_drew ?_ | refine blk_alloc ?_ _)); refine blk_put (cs := #[.int .i64 t125, .int .i64 0, .int .i64 0, .slice none 0 0]) ?_ 1 _ rfl; (with_reducible repeat (first | refine blk_drewN ?_ _ | refine blk_drew ?_ | refine blk_alloc ?_ _)); refine blk_put (cs := #[.int .i64 0, .int .i64 0, .int .i64 0, .slice none 0 0]) ?_ 0 _ rfl; (with_reducible repeat (first | refine blk_drewN ?_ _ | refine blk_drew ?_ | refine blk_alloc ?_ _)); exact BK132.out) hb); replace HB := Z6.k (below_step Z6.z13 hb); (try clear hb); (try clear hb2); (try clear hk); (try clear hi); (try clear ho0); obtain ⟨hcz55_0, hcz55_1, hcz55_2, hcz55_3, hfz55_0, hfz55_1, hfz55_2, hfz55_3⟩ := cells4 BK111.out) | ((with_reducible refine gate_callee (f := 29) rfl ?_); refine goesL_ (some 95) rfl rfl Try.func29 (by kernel_rfl) rfl #[.slice Ao53 t116.length co53, .slice Ao12 t108.length co12, .int .i64 t102] rfl Z6.z1 ?_; (with_reducible refine (spec_DotOf.calls kj6 _ _ t116 _ _ t108 t102 t137 t138 _ ?side1 ?side2 ?side3 ?side4 A41.out).mono ?_); (case side1 => exact (by repeat (first | exact (Kd.R_reads' HO_7.out).2.2 | (with_reducible refine Kd.C_alloc ?_ _) | (with_reducible refine Kd.C_drewN ?_ _) | (with_reducible refine Kd.C_drew ?_)))); (case side2 => exact (Kd.R_reads' HO_7.out).2.1); (case side3 => exact Z6.z21); (case side4 => exact (Kd.R_reads' HO_4.out).2.1); rintro e w' ⟨rfl, ⟨nd, rfl⟩⟩; refine ⟨_, rfl, ?_⟩; obtain ⟨Ao56, co56, eo56⟩ := Kd.R_slice HO135.out; subst eo56) | (go_at_call 30; (with_reducible refine (laws_b10Zero.calls kj6 _ _ t133 true _ ?side1 ?side2 A44.out).mono ?_); (case side1 => exact (by repeat (first | exact (Kd.R_reads' HO135.out).2.2 | (with_reducible refine Kd.C_alloc ?_ _) | (with_reducible refine Kd.C_drewN ?_ _) | (with_reducible refine Kd.C_drew ?_)))); (case side2 => exact (Kd.R_reads' HO135.out).2.1); rintro e w' ⟨rfl, ⟨nd, rfl⟩⟩))
              go_ret
              exact ⟨Z6.z6, Z6.z13⟩
            rw [if_neg c46] at H; have c46b0 : (t138 == 0) = false := beq_eq_false_iff_ne.mpr c46; have c46b1 : (t138 != 0) = true := bne_iff_ne.mpr c46; exact absurd H (by simp)
           replace c45 := Bool.eq_false_iff.mpr c45; subst c45; have H1 : (some false) = some true := by rw [if_neg (show ¬ (false = true) by decide)] at H; exact H
           exact absurd H1 (by simp)
          rw [if_neg c43] at H; have c43b0 : (t136 == 0) = false := beq_eq_false_iff_ne.mpr c43; have c43b1 : (t136 != 0) = true := bne_iff_ne.mpr c43; exact absurd H (by simp)
         rw [if_neg c42] at H; have c42b0 : (t131 == 0) = false := beq_eq_false_iff_ne.mpr c42; have c42b1 : (t131 != 0) = true := bne_iff_ne.mpr c42; exact absurd H (by simp)
   /-- THE ONE PURE STATEMENT of laws_FnSolve: yours. -/
def laws_FnSolve.Pure : Prop := ∀ (l0 : List Int), l0.length ≤ maxLen → l0.length * 1 ≤ 140737488351232 → (∀ x ∈ l0, (Lit.int .u8 x).wf = true) → ∃ k, laws_FnSolve.f k l0 = some true
theorem laws_FnSolve.walk (P : laws_FnSolve.Pure) (a0 : Option Addr) (len0 cap0 : Nat) (z0 : List Int) (w : World) (w0 : (a0 = none ∧ len0 = 0 ∧ cap0 = 0 ∧ z0 = []) ∨ ∃ x, a0 = some x ∧ len0 ≤ cap0 ∧ cap0 ≤ maxLen ∧ z0.length = cap0 ∧ (∀ i, i < z0.length → w.cell? (x.add i) = some (.int .u8 (z0.getD i 0))) ∧ ∀ n ∈ z0, (Lit.int .u8 n).wf = true) (y0 : len0 * 1 ≤ 140737488351232) :
    Calls Try.prog 6 #[.slice a0 len0 cap0] w fun e w' => e = .returned (.bool true) ∧ Below w.heap.size w w' := by
  obtain ⟨l0, rfl, hr0, hm0, hw0, hc0⟩ := ReadsInt.ofRowC w0
  obtain ⟨k, h⟩ := P l0 hm0 y0 hw0
  refine (laws_FnSolve.calls k _ _ l0 true w (Kd.C_of_reads (d := (0 : Int)) (h1 := fun _ => rfl) hr0) hc0 h).mono ?_
  rintro e w' ⟨rfl, hd⟩
  exact ⟨rfl, hd⟩
end Go.Proofs.Ytmbbjmkcbpefhaa.F
end

section
set_option linter.unusedVariables false
set_option linter.unusedSimpArgs false
set_option linter.unusedSectionVars false
namespace Go.Proofs.Ytmbbjmkcbpefhaa.Lin
def primes251 : List Nat := [2,3,5,7,11,13,17,19,23,29,31,37,41,43,47,53,59,61,67,71,73,79,83,89,97,101,103,107,109,113,127,131,137,139,149,151,157,163,167,173,179,181,191,193,197,199,211,223,227,229,233,239,241,251]
def isP (p : Int) : Bool := decide (2 ≤ p) && decide (p ≤ 251) && decide (p.toNat ∈ primes251)
theorem isP_ge {p : Int} (h : isP p = true) : 2 ≤ p ∧ p ≤ 251 := by unfold isP at h; simp at h; omega
def addRow (p : Int) (a b : List Int) (c : Int) : List Int := List.zipWith (fun x y => (x + c * y) % p) a b
theorem getD_set {α : Type} (l : List α) (k : Nat) (v d : α) (hk : k < l.length) (i : Nat) : (l.set k v).getD i d = if i = k then v else l.getD i d := by
  simp only [List.getD_eq_getElem?_getD, List.getElem?_set]
  by_cases h : k = i
  · subst h; simp [hk]
  · simp [h, Ne.symm h]
theorem addRow_getD {p : Int} {a b : List Int} {c : Int} {j : Nat} (ha : j < a.length) (hb : j < b.length) : (addRow p a b c).getD j 0 = (a.getD j 0 + c * b.getD j 0) % p := by
  unfold addRow
  simp [List.getD_eq_getElem?_getD, List.getElem?_zipWith, List.getElem?_eq_getElem ha, List.getElem?_eq_getElem hb]
end Go.Proofs.Ytmbbjmkcbpefhaa.Lin
end
