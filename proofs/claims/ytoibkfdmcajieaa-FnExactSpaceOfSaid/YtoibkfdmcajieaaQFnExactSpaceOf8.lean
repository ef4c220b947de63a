-- Texts of this claim, merged by pack.py (a program of this session's).
import Derived.Test.YtoibkfdmcajieaaQFnExactSpaceOf0
import Derived.Test.YtoibkfdmcajieaaQFnExactSpaceOf7
import Derived.Test.YtoibkfdmcajieaaQFnExactSpaceOf1
import Derived.Test.YtoibkfdmcajieaaQFnExactSpaceOf4

section
namespace Go.Proofs.Ytoibkfdmcajieaa.F
open Go.RowKit Go.Proofs.YtoibkfdmcajieaaW.PrintWords Go.Proofs.YtoibkfdmcajieaaW.PrintLast Go.Proofs.YtoibkfdmcajieaaW.PrintMore
attribute [local go_sem] max2_int min2_int max_two min_two max_three min_three max_four min_four   -- for this text's walks alone
set_option linter.unusedVariables false
set_option linter.unusedSimpArgs false

/-! ### laws_heldInt64SS: function 28 -/
def laws_heldInt64SS.l0 : Nat → List (List Int) → Int → Int → Option (Int)
  | 0, _, _, _ => none
  | k + 1, x0, x1, x5 => if x5 < (x0.length : Int) then (if 0 ≤ x5 then ((laws_heldInt64S.f k (rd_L1 x0 x5) x1).bind fun t102 => (if t102 < 0 then (some (-1)) else (laws_heldInt64SS.l0 k x0 t102 (wrap64 (x5 + 1))))) else (none)) else (some x1)
def laws_heldInt64SS.f (k : Nat) (l0 : List (List Int)) (a1 : Int) : Option (Int) := laws_heldInt64SS.l0 k l0 a1 0
theorem laws_heldInt64SS.mono_l : ∀ k, (∀ y0 y1 y2, LeO (laws_heldInt64SS.l0 k y0 y1 y2) (laws_heldInt64SS.l0 (k + 1) y0 y1 y2))
  | 0 => fun _ _ _ r h => by simp [laws_heldInt64SS.l0] at h
  | k + 1 => by
    have ih0 := laws_heldInt64SS.mono_l k
    · intro y0 y1 y2
      unfold laws_heldInt64SS.l0
      repeat' first
      | (with_reducible exact ih0 _ _ _)
      | (with_reducible exact laws_heldInt64S.mono _ _ _)
      | (with_reducible exact LeO.refl _)
      | (with_reducible exact LeO.none _)
      | (with_reducible refine LeO.ite ?_ ?_)
      | (with_reducible refine LeO.bind ?_ (fun _ => ?_))
      | exact ih0 _ _ _
      | exact laws_heldInt64S.mono _ _ _
      | exact LeO.none _
      | refine LeO.ite ?_ ?_
      | refine LeO.bind ?_ (fun _ => ?_)
theorem laws_heldInt64SS.mono : ∀ a0 a1 k, LeO (laws_heldInt64SS.f k a0 a1) (laws_heldInt64SS.f (k + 1) a0 a1) := by
  intro a0 a1 k
  have ih0 := laws_heldInt64SS.mono_l k
  unfold laws_heldInt64SS.f
  repeat' first
      | (with_reducible exact ih0 _ _ _)
      | (with_reducible exact laws_heldInt64S.mono _ _ _)
      | (with_reducible exact LeO.refl _)
      | (with_reducible exact LeO.none _)
      | (with_reducible refine LeO.ite ?_ ?_)
      | (with_reducible refine LeO.bind ?_ (fun _ => ?_))
      | exact ih0 _ _ _
      | exact laws_heldInt64S.mono _ _ _
      | exact LeO.none _
      | refine LeO.ite ?_ ?_
      | refine LeO.bind ?_ (fun _ => ?_)
theorem Z28.z3 {P : Prop} (h : P := by repeat (first | exact Drawn0.refl _ | apply Drawn0.step)) : P := h
theorem Z28.z2 {P : Prop} (h : P := by (try simp only [List.map_toArray, List.map_cons, List.map_nil]); first | done | rfl | (simp only [List.length_drop, List.length_take]; rfl)) : P := h
theorem Z28.z1 {P : Prop} (h : P := by first | rfl | (simp; done) | (simp [*]; done)) : P := h
theorem Z28.z0 {P : Prop} (h : P := by repeat (first | exact HR101_0.out | (with_reducible refine Kd.C_alloc ?_ _) | (with_reducible refine Kd.C_drewN ?_ _) | (with_reducible refine Kd.C_drew ?_))) : P := h
set_option maxHeartbeats 8000000 in
set_option maxRecDepth 100000 in
theorem laws_heldInt64SS.calls (k : Nat) (A0 : Option Addr) (c0 : Nat) (l0 : List (List Int)) (a1 : Int) (r : Int) (w : World) (hr0 : Kd.C (Kd.slice 2 (Kd.int .i64)) w A0 l0.length l0) (hc0 : l0.length ≤ c0) (h : laws_heldInt64SS.f k l0 a1 = some r) :
  Calls Try.prog 28 #[.slice A0 l0.length c0, .int .i64 a1] w fun e w' => e = .returned (.int .i64 r) ∧ Drawn0 w w' := by
 have HR0 := Aside0.mk hr0
 have HC0 := Aside0.mk hc0
 clear hr0 hc0
 have H : (laws_heldInt64SS.l0 k l0 a1 0) = some r := h
 clear h
 have H' := Aside0.mk H
 clear H
 go_enter Try.func28, Try.ntmps28
 go_wp2
 go_loopg [1, 5] k (fun kq v1 v5 w' => ∃ (x1_1 : Int) (x5_1 : Int), v1 = .int .i64 x1_1 ∧ v5 = .int .i64 x5_1 ∧ Aside0 (laws_heldInt64SS.l0 kq l0 x1_1 x5_1 = some r) ∧ Aside0 (kq ≤ k) ∧ Drawn0 w w')
 case atStart => exact ⟨(a1), (0), Z28.z1, Z28.z1, H', ⟨Nat.le_refl _⟩, Z28.z3⟩
 case round =>
  clear H'
  try clear c2
  try clear p2
  obtain ⟨x1_1, x5_1, rfl, rfl, HA, HK1, ⟨m1, rfl⟩⟩ := hrel
  cases gk with
  | zero => exact absurd HA.out (by simp [laws_heldInt64SS.l0])
  | succ k1 =>
   have H := HA.out
   clear HA
   simp only [laws_heldInt64SS.l0] at H
   by_cases c3 : x5_1 < (l0.length : Int)
   ·rw [if_pos c3] at H
    have c3b0 : decide (x5_1 < (l0.length : Int)) = true := decide_eq_true c3
    clear c3
    by_cases c4 : 0 ≤ x5_1
    ·rw [if_pos c4] at H
     have c4b0 : decide (0 ≤ x5_1) = true := decide_eq_true c4
     clear c4
     replace H := Option.bind_eq_some_iff.mp H
     obtain ⟨t102, A50, H⟩ := H
     replace H : (if t102 < 0 then (some (-1)) else (laws_heldInt64SS.l0 k1 l0 t102 (wrap64 (x5_1 + 1)))) = some r := H
     have A5 := Aside0.mk A50
     clear A50
     by_cases c6 : t102 < 0
     ·rw [if_pos c6] at H
      have c6b0 : decide (t102 < 0) = true := decide_eq_true c6
      clear c6
      obtain rfl := Option.some.inj H
      have p101 : 0 ≤ (x5_1 : Int) := of_decide_eq_true (by first | (with_reducible assumption) | assumption)
      have q101 : x5_1 < (l0.length : Int) := of_decide_eq_true (by first | (with_reducible assumption) | assumption)
      obtain ⟨ad101, A101_0, c101_0, e101, hx101_0, hl101_0, hi101_0⟩ := at_L1 HR0.out x5_1 p101 q101
      cases e101
      have HR101_0 := Aside0.mk hi101_0
      have HC101_0 := Aside0.mk hl101_0
      clear hi101_0 hl101_0
      replace p101 := eq_true p101
      replace q101 := eq_true q101
      go_wp2_with (first | ((with_reducible refine gate_callee (f := 49) rfl ?_); refine goesL_ (some 17) rfl rfl Try.func49 (by kernel_rfl) rfl #[.slice A101_0 (rd_L1 l0 x5_1).length c101_0, .int .i64 x1_1] rfl Z28.z2 ?_; (with_reducible refine (laws_heldInt64S.calls k1 _ _ (rd_L1 l0 x5_1) x1_1 t102 _ ?side1 ?side2 A5.out).mono ?_); (case side1 => exact Z28.z0); (case side2 => exact HC101_0.out); rintro e w' ⟨rfl, ⟨nd, rfl⟩⟩; refine ⟨_, rfl, ?_⟩))
      go_ret
      exact ⟨Z28.z1, Z28.z3⟩
     rw [if_neg c6] at H
     have c6b0 : decide (t102 < 0) = false := decide_eq_false c6
     clear c6
     have H' := Aside0.mk H
     clear H
     have p101 : 0 ≤ (x5_1 : Int) := of_decide_eq_true (by first | (with_reducible assumption) | assumption)
     have q101 : x5_1 < (l0.length : Int) := of_decide_eq_true (by first | (with_reducible assumption) | assumption)
     obtain ⟨ad101, A101_0, c101_0, e101, hx101_0, hl101_0, hi101_0⟩ := at_L1 HR0.out x5_1 p101 q101
     cases e101
     have HR101_0 := Aside0.mk hi101_0
     have HC101_0 := Aside0.mk hl101_0
     clear hi101_0 hl101_0
     replace p101 := eq_true p101
     replace q101 := eq_true q101
     go_wp2_with (first | ((with_reducible refine gate_callee (f := 49) rfl ?_); refine goesL_ (some 17) rfl rfl Try.func49 (by kernel_rfl) rfl #[.slice A101_0 (rd_L1 l0 x5_1).length c101_0, .int .i64 x1_1] rfl Z28.z2 ?_; (with_reducible refine (laws_heldInt64S.calls k1 _ _ (rd_L1 l0 x5_1) x1_1 t102 _ ?side1 ?side2 A5.out).mono ?_); (case side1 => exact Z28.z0); (case side2 => exact HC101_0.out); rintro e w' ⟨rfl, ⟨nd, rfl⟩⟩; refine ⟨_, rfl, ?_⟩))
     go_roundg k1
     case measure => have := HK1.out; omega
     case rel => exact ⟨(t102), (wrap64 (x5_1 + 1)), Z28.z1, Z28.z1, H', ⟨(by have := HK1.out; omega)⟩, Z28.z3⟩
    rw [if_neg c4] at H
    exact absurd H (by simp)
   rw [if_neg c3] at H
   have c3b0 : decide (x5_1 < (l0.length : Int)) = false := decide_eq_false c3
   clear c3
   obtain rfl := Option.some.inj H
   go_wp2
   go_ret
   exact ⟨Z28.z1, Z28.z3⟩


/-! ### laws_heldSpace: function 19 -/
def laws_heldSpace.f (k : Nat) (a0_0 : Int) (a0_1 : Int) (l0_2 : List (List Int)) (a1 : Int) : Option (Int) := (laws_heldInt64SS.f k l0_2 a1).bind fun t102 => (if t102 < 0 then (some (-1)) else (some t102))
theorem laws_heldSpace.mono : ∀ a0 a1 a2 a3 k, LeO (laws_heldSpace.f k a0 a1 a2 a3) (laws_heldSpace.f (k + 1) a0 a1 a2 a3) := by
  intro a0 a1 a2 a3 k
  unfold laws_heldSpace.f
  repeat' first
      | (with_reducible exact laws_heldInt64SS.mono _ _ _)
      | (with_reducible exact LeO.refl _)
      | (with_reducible exact LeO.none _)
      | (with_reducible refine LeO.ite ?_ ?_)
      | (with_reducible refine LeO.bind ?_ (fun _ => ?_))
      | exact laws_heldInt64SS.mono _ _ _
      | exact LeO.none _
      | refine LeO.ite ?_ ?_
      | refine LeO.bind ?_ (fun _ => ?_)
theorem Z19.z3 {P : Prop} (h : P := by (try simp only [List.map_toArray, List.map_cons, List.map_nil]); first | done | rfl | (simp only [List.length_drop, List.length_take]; rfl)) : P := h
theorem Z19.z2 {P : Prop} (h : P := by repeat (first | (with_reducible first | exact HB.out | apply below_alloc | apply pw_below_drewN | apply below_drew1 | refine below_set ?_ GE101.out) | exact HB.out)) : P := h
theorem Z19.z1 {P : Prop} (h : P := by repeat (first | exact (Kd.C_below HR0_2.out HB.out) | (with_reducible refine Kd.C_alloc ?_ _) | (with_reducible refine Kd.C_drewN ?_ _) | (with_reducible refine Kd.C_drew ?_))) : P := h
theorem Z19.z0 {P : Prop} (h : P := by repeat (first | (with_reducible first | exact HB.out | apply below_alloc | apply pw_below_drewN | apply below_drew1) | exact HB.out)) : P := h
set_option maxHeartbeats 8000000 in
set_option maxRecDepth 100000 in
theorem laws_heldSpace.calls (k : Nat) (a0_0 : Int) (a0_1 : Int) (A0_2 : Option Addr) (c0_2 : Nat) (l0_2 : List (List Int)) (a1 : Int) (r : Int) (w : World) (hr0_2 : Kd.C (Kd.slice 2 (Kd.int .i64)) w A0_2 l0_2.length l0_2) (hc0_2 : l0_2.length ≤ c0_2) (h : laws_heldSpace.f k a0_0 a0_1 l0_2 a1 = some r) :
  Calls Try.prog 19 #[.agg #[.int .i64 a0_0, .int .i64 a0_1, .slice A0_2 l0_2.length c0_2], .int .i64 a1] w fun e w' => e = .returned (.int .i64 r) ∧ Below w.heap.size w w' := by
 have hu27 := Try.underlying27
 have HR0_2 := Aside0.mk hr0_2
 have HC0_2 := Aside0.mk hc0_2
 clear hr0_2 hc0_2
 have HB := Aside0.mk (Below.refl w.heap.size w)
 have H : ((laws_heldInt64SS.f k l0_2 a1).bind fun t102 => (if t102 < 0 then (some (-1)) else (some t102))) = some r := h
 clear h
 replace H := Option.bind_eq_some_iff.mp H
 obtain ⟨t102, A30, H⟩ := H
 replace H : (if t102 < 0 then (some (-1)) else (some t102)) = some r := H
 have A3 := Aside0.mk A30
 clear A30
 by_cases c4 : t102 < 0
 ·rw [if_pos c4] at H
  have c4b0 : decide (t102 < 0) = true := decide_eq_true c4
  clear c4
  obtain rfl := Option.some.inj H
  go_enter Try.func19, Try.ntmps19
  go_wp2_with (first | ((with_reducible refine gate_dst (N := 2) rfl ?_); refine box_event ?hg (N := 2) ?hd (cs := #[.int .i64 a0_0, .int .i64 a0_1, .slice A0_2 l0_2.length c0_2]) (t := 27) ?hr ?_; (case hd => rfl); (case hg => rfl); (case hr => first | (go_simp; done) | (go_simp; rfl)); intro gb101 hg w5 hbox hb; have n0_ := Aside0.mk (below_step Z19.z0 hb); have n1_ := Aside0.mk (hbox); have n2_ := Aside0.mk (show w.heap.size ≤ gb101 from (by rw [hg]; exact (below_size Z19.z0))); have n3_ := Aside0.mk (show w.heap.size ≤ gb101 from (by rw [hg]; exact (below_size Z19.z0))); clear HB; have HB := n0_; have BK101 := n1_; have GW101 := n2_; have GE101 := n3_; clear n0_ n1_ n2_ n3_; clear hb hbox hg; have hcz6_0 : w5.cell? ⟨gb101, 0, none⟩ = some (.int .i64 a0_0) := (blk_cell BK101.out 0).trans rfl; have hcz6_1 : w5.cell? ⟨gb101, 1, none⟩ = some (.int .i64 a0_1) := (blk_cell BK101.out 1).trans rfl; have hcz6_2 : w5.cell? ⟨gb101, 2, none⟩ = some (.slice A0_2 l0_2.length c0_2) := (blk_cell BK101.out 2).trans rfl; have hfz6_0 := blk_frozen BK101.out 0; have hfz6_1 := blk_frozen BK101.out 1; have hfz6_2 := blk_frozen BK101.out 2) | ((with_reducible refine gate_callee (f := 28) rfl ?_); refine goesL_ (some 8) rfl rfl Try.func28 (by kernel_rfl) rfl #[.slice A0_2 l0_2.length c0_2, .int .i64 a1] rfl Z19.z3 ?_; (with_reducible refine (laws_heldInt64SS.calls k _ _ l0_2 a1 t102 _ ?side1 ?side2 A3.out).mono ?_); (case side1 => exact Z19.z1); (case side2 => exact HC0_2.out); rintro e w' ⟨rfl, ⟨nd, rfl⟩⟩; refine ⟨_, rfl, ?_⟩))
  go_ret
  exact ⟨(by first | rfl | (simp [errW_none, errW_some] <;> rfl) | (simp [*, errW_none, errW_some] <;> rfl)), Z19.z2⟩
 rw [if_neg c4] at H
 have c4b0 : decide (t102 < 0) = false := decide_eq_false c4
 clear c4
 obtain rfl := Option.some.inj H
 go_enter Try.func19, Try.ntmps19
 go_wp2_with (first | ((with_reducible refine gate_dst (N := 2) rfl ?_); refine box_event ?hg (N := 2) ?hd (cs := #[.int .i64 a0_0, .int .i64 a0_1, .slice A0_2 l0_2.length c0_2]) (t := 27) ?hr ?_; (case hd => rfl); (case hg => rfl); (case hr => first | (go_simp; done) | (go_simp; rfl)); intro gb101 hg w7 hbox hb; have n0_ := Aside0.mk (below_step Z19.z0 hb); have n1_ := Aside0.mk (hbox); have n2_ := Aside0.mk (show w.heap.size ≤ gb101 from (by rw [hg]; exact (below_size Z19.z0))); have n3_ := Aside0.mk (show w.heap.size ≤ gb101 from (by rw [hg]; exact (below_size Z19.z0))); clear HB; have HB := n0_; have BK101 := n1_; have GW101 := n2_; have GE101 := n3_; clear n0_ n1_ n2_ n3_; clear hb hbox hg; have hcz8_0 : w7.cell? ⟨gb101, 0, none⟩ = some (.int .i64 a0_0) := (blk_cell BK101.out 0).trans rfl; have hcz8_1 : w7.cell? ⟨gb101, 1, none⟩ = some (.int .i64 a0_1) := (blk_cell BK101.out 1).trans rfl; have hcz8_2 : w7.cell? ⟨gb101, 2, none⟩ = some (.slice A0_2 l0_2.length c0_2) := (blk_cell BK101.out 2).trans rfl; have hfz8_0 := blk_frozen BK101.out 0; have hfz8_1 := blk_frozen BK101.out 1; have hfz8_2 := blk_frozen BK101.out 2) | ((with_reducible refine gate_callee (f := 28) rfl ?_); refine goesL_ (some 8) rfl rfl Try.func28 (by kernel_rfl) rfl #[.slice A0_2 l0_2.length c0_2, .int .i64 a1] rfl Z19.z3 ?_; (with_reducible refine (laws_heldInt64SS.calls k _ _ l0_2 a1 t102 _ ?side1 ?side2 A3.out).mono ?_); (case side1 => exact Z19.z1); (case side2 => exact HC0_2.out); rintro e w' ⟨rfl, ⟨nd, rfl⟩⟩; refine ⟨_, rfl, ?_⟩))
 go_ret
 exact ⟨(by first | rfl | (simp [errW_none, errW_some] <;> rfl) | (simp [*, errW_none, errW_some] <;> rfl)), Z19.z2⟩


/-! ### laws_FnExactSpaceOf: function 4: ours -/
def laws_FnExactSpaceOf.f (k : Nat) (a0 : Int) (a1 : Int) (l2 : List (List Int)) : Option (Bool) := (laws_szInt64SS.f k l2 1048576).bind fun t => (if t < 0 then (some true) else ((laws_toInt64SS.f k l2).bind fun D => ((spec_SpaceOf.f k a0 a1 D).bind fun W => ((impl_SpaceOf.f k a0 a1 D).bind fun G => ((laws_eqSpace.f k G.1 G.2.1 G.2.2.1 W.1 W.2.1 W.2.2.1).bind fun b => (if b = true then (if G.2.2.2 = W.2.2.2 then ((laws_eqInt64SS.f k D D).bind fun b2 => (if b2 = true then ((laws_markInt64SS.f k D 1).bind fun M => (if M.1 < 0 then (none) else ((laws_markSpace.f k G.1 G.2.1 G.2.2.1 1).bind fun M2 => ((laws_heldSpace.f k G.1 G.2.1 M2.2 1).bind fun q => (if q < 0 then (none) else (if q = M2.1 then (some true) else (none))))))) else (none))) else (none)) else (none)))))))
theorem laws_FnExactSpaceOf.mono : ∀ a0 a1 a2 k, LeO (laws_FnExactSpaceOf.f k a0 a1 a2) (laws_FnExactSpaceOf.f (k + 1) a0 a1 a2) := by
  intro a0 a1 a2 k
  unfold laws_FnExactSpaceOf.f
  repeat' first
      | (with_reducible exact laws_szInt64SS.mono _ _ _)
      | (with_reducible exact laws_toInt64SS.mono _ _)
      | (with_reducible exact spec_SpaceOf.mono _ _ _ _)
      | (with_reducible exact impl_SpaceOf.mono _ _ _ _)
      | (with_reducible exact laws_eqSpace.mono _ _ _ _ _ _ _)
      | (with_reducible exact laws_eqInt64SS.mono _ _ _)
      | (with_reducible exact laws_markInt64SS.mono _ _ _)
      | (with_reducible exact laws_markSpace.mono _ _ _ _ _)
      | (with_reducible exact laws_heldSpace.mono _ _ _ _ _)
      | (with_reducible exact LeO.refl _)
      | (with_reducible exact LeO.none _)
      | (with_reducible refine LeO.ite ?_ ?_)
      | (with_reducible refine LeO.bind ?_ (fun _ => ?_))
theorem Z4.k {p : Prop} (h : p) : Aside0 p := ⟨h⟩
theorem Z4.z10 {P : Prop} (h : P := by repeat (first | exact (Kd.S_reads' HD2.out).2.2 | (with_reducible refine Kd.C_alloc ?_ _) | (with_reducible refine Kd.C_drewN ?_ _) | (with_reducible refine Kd.C_drew ?_))) : P := h
theorem Z4.z9 {P : Prop} (h : P := by (with_reducible repeat (first | apply Kd.S_alloc | apply Kd.S_drewN | apply Kd.S_drew)); exact HH.out) : P := h
theorem Z4.z8 {P : Prop} (h : P := by repeat (first | exact (Kd.S_reads' HS.out).2.2 | (with_reducible refine Kd.C_alloc ?_ _) | (with_reducible refine Kd.C_drewN ?_ _) | (with_reducible refine Kd.C_drew ?_))) : P := h
theorem Z4.z7 {P : Prop} (h : P := by (with_reducible repeat (first | apply Kd.S_alloc | apply Kd.S_drewN | apply Kd.S_drew)); exact HD2.out) : P := h
theorem Z4.z6 {P : Prop} (h : P := by repeat (first | exact (Kd.S_reads' HG.out).2.2 | (with_reducible refine Kd.C_alloc ?_ _) | (with_reducible refine Kd.C_drewN ?_ _) | (with_reducible refine Kd.C_drew ?_))) : P := h
theorem Z4.z5 {P : Prop} (h : P := by repeat (first | exact (Kd.C_below HR.out HB.out) | (with_reducible refine Kd.C_alloc ?_ _) | (with_reducible refine Kd.C_drewN ?_ _) | (with_reducible refine Kd.C_drew ?_))) : P := h
theorem Z4.z4 {P : Prop} (h : P := by (with_reducible repeat (first | apply Kd.S_alloc | apply Kd.S_drewN | apply Kd.S_drew)); exact HG.out) : P := h
theorem Z4.z3 {P : Prop} (h : P := by (with_reducible repeat (first | refine blk_drewN ?_ _ | refine blk_drew ?_ | refine blk_alloc ?_ _)); exact BKG.out) : P := h
theorem Z4.z2 {P : Prop} (h : P := by (with_reducible repeat (first | apply Kd.S_alloc | apply Kd.S_drewN | apply Kd.S_drew)); exact HS.out) : P := h
theorem Z4.z1 {P : Prop} (h : P := by (with_reducible repeat (first | refine blk_drewN ?_ _ | refine blk_drew ?_ | refine blk_alloc ?_ _)); exact BKW.out) : P := h
theorem Z4.z0 {P : Prop} (h : P := by repeat (first | (with_reducible first | exact HB.out | apply below_alloc | apply pw_below_drewN | apply below_drew1) | exact HB.out)) : P := h
set_option maxHeartbeats 8000000 in
set_option maxRecDepth 100000 in
theorem laws_FnExactSpaceOf.calls (k : Nat) (a0 : Int) (a1 : Int) (A2 : Option Addr) (c2 : Nat) (l2 : List (List Int)) (r : Bool) (w : World) (hr : Kd.C (Kd.slice 2 (Kd.int .i64)) w A2 l2.length l2) (hc : l2.length ≤ c2) (h : laws_FnExactSpaceOf.f k a0 a1 l2 = some r) :
  Calls Try.prog 4 #[.int .i64 a0, .int .i64 a1, .slice A2 l2.length c2] w fun e w' => e = .returned (.bool r) ∧ Below w.heap.size w w' := by
 have hu := Try.underlying27
 have HR := Z4.k hr
 have HC := Z4.k hc
 clear hr hc
 have HB := Z4.k (Below.refl w.heap.size w)
 unfold laws_FnExactSpaceOf.f at h
 replace h := Option.bind_eq_some_iff.mp h
 obtain ⟨t, At0, h⟩ := h
 have At := Z4.k At0
 clear At0
 by_cases c : t < 0
 ·rw [if_pos c] at h
  have hcb : decide (t < 0) = true := decide_eq_true c
  clear c
  obtain rfl := Option.some.inj h
  clear h
  go_enter Try.func4, Try.ntmps4
  go_wp2_with (first | (go_at_call 12; (refine (laws_szInt64SS.calls k _ _ l2 1048576 t _ ?side1 ?side2 At.out).mono ?_); (case side1 => exact Z4.z5); (case side2 => exact HC.out); rintro e wn1 ⟨rfl, hd⟩; have hb := hd.below; clear hd; have nB_ := Z4.k (below_step Z4.z0 hb); have hz_ := hb.size; clear hb; have HZ1 := Z4.k (show w.heap.size ≤ wn1.heap.size from hz_); clear hz_ HB; have HB := nB_; clear nB_))
  go_ret
  exact ⟨rfl, Z4.z0⟩
 rw [if_neg c] at h
 have hcb : decide (t < 0) = false := decide_eq_false c
 clear c
 replace h := Option.bind_eq_some_iff.mp h
 obtain ⟨D, AD0, h⟩ := h
 have AD := Z4.k AD0
 clear AD0
 replace h := Option.bind_eq_some_iff.mp h
 obtain ⟨⟨sp1, sp2, spl, spe⟩, AW0, h⟩ := h
 have AW := Z4.k AW0
 clear AW0
 replace h := Option.bind_eq_some_iff.mp h
 obtain ⟨⟨g1, g2, gl, ge⟩, AG0, h⟩ := h
 have AG := Z4.k AG0
 clear AG0
 replace h := Option.bind_eq_some_iff.mp h
 obtain ⟨b, AE0, h⟩ := h
 by_cases cb : b = true
 rotate_left
 ·rw [if_neg cb] at h; exact absurd h (by simp)
 subst cb
 rw [if_pos rfl] at h
 have AE := Z4.k (show laws_eqSpace.f k g1 g2 gl sp1 sp2 spl = some true from AE0)
 clear AE0
 by_cases ce : ge = spe
 rotate_left
 ·rw [if_neg ce] at h; exact absurd h (by simp)
 subst ce
 rw [if_pos rfl] at h
 replace h := Option.bind_eq_some_iff.mp h
 obtain ⟨b2, AF0, h⟩ := h
 by_cases cb : b2 = true
 rotate_left
 ·rw [if_neg cb] at h; exact absurd h (by simp)
 subst cb
 rw [if_pos rfl] at h
 have AF := Z4.k AF0
 clear AF0
 replace h := Option.bind_eq_some_iff.mp h
 obtain ⟨⟨m1, D'⟩, AM0, h⟩ := h
 have AM := Z4.k AM0
 clear AM0
 by_cases cm : m1 < 0
 ·rw [if_pos cm] at h; exact absurd h (by simp)
 rw [if_neg cm] at h
 have hcm1 : decide (m1 < 0) = false := decide_eq_false cm
 clear cm
 replace h := Option.bind_eq_some_iff.mp h
 obtain ⟨⟨m2, gl'⟩, AN0, h⟩ := h
 have AN := Z4.k (show laws_markSpace.f k g1 g2 gl 1 = some (m2, gl') from AN0)
 clear AN0
 replace h := Option.bind_eq_some_iff.mp h
 obtain ⟨q, AQ0, h⟩ := h
 have AQ := Z4.k (show laws_heldSpace.f k g1 g2 gl' 1 = some q from AQ0)
 clear AQ0
 by_cases cm : q < 0
 ·rw [if_pos cm] at h; exact absurd h (by simp)
 rw [if_neg cm] at h
 have hcq : decide (q < 0) = false := decide_eq_false cm
 clear cm
 by_cases ce : q = m2
 rotate_left
 ·rw [if_neg ce] at h; exact absurd h (by simp)
 subst ce
 rw [if_pos rfl] at h
 obtain rfl := Option.some.inj h
 clear h
 go_enter Try.func4, Try.ntmps4
 go_upto_region 5 with (first | (go_at_call 12; (refine (laws_szInt64SS.calls k _ _ l2 1048576 t _ ?side1 ?side2 At.out).mono ?_); (case side1 => exact Z4.z5); (case side2 => exact HC.out); rintro e wn1 ⟨rfl, hd⟩; have hb := hd.below; clear hd; have nB_ := Z4.k (below_step Z4.z0 hb); have hz_ := hb.size; clear hb; have HZ1 := Z4.k (show w.heap.size ≤ wn1.heap.size from hz_); clear hz_ HB; have HB := nB_; clear nB_))
 go_upto_region 6 with (first | (go_at_call 14; (refine (laws_toInt64SS.calls k _ _ l2 D _ ?side1 ?side2 AD.out).mono ?_); (case side1 => exact Z4.z5); (case side2 => exact HC.out); rintro e wn2 ⟨vD1, rfl, ho, hb⟩; obtain ⟨MD1, cD1, ev_⟩ := Kd.S_slice ho; subst ev_; have m_ : Aside0 (Kd.S (Kd.slice 2 (Kd.int .i64)) 38 wn2 w.heap.size (fun k_ => wn1.heap.size ≤ k_ ∧ k_ < wn2.heap.size) (.slice MD1 D.length cD1) D) := ⟨Kd.S_lower (Kd.S_mono (Kd.S_bound ho) (fun k_ hk_ => ⟨hk_.2.1, hk_.2.2.1⟩)) (below_size Z4.z0)⟩; clear ho; have nB_ := Z4.k (below_step Z4.z0 hb); have hz_ := hb.size; clear hb; have HZ2 := Z4.k (show wn1.heap.size ≤ wn2.heap.size from hz_); clear hz_ HB; have HB := nB_; clear nB_; have HD1 := m_; clear m_) | (go_at_call 13; (refine (spec_SpaceOf.calls k a0 a1 _ _ D sp1 sp2 spl ge _ ?side1 ?side2 AW.out).mono ?_); (case side1 => exact (by repeat (first | exact (Kd.S_reads' HD1.out).2.2 | (with_reducible refine Kd.C_alloc ?_ _) | (with_reducible refine Kd.C_drewN ?_ _) | (with_reducible refine Kd.C_drew ?_)))); (case side2 => exact (Kd.S_reads' HD1.out).2.1); rintro e wn3 ⟨vS, rfl, ho, hb⟩; obtain ⟨MS, cS, ev_⟩ := Kd.S_slice ho; subst ev_; have m_ : Aside0 (Kd.S (Kd.slice 2 (Kd.int .i64)) 38 wn3 w.heap.size (fun k_ => wn2.heap.size ≤ k_ ∧ k_ < wn3.heap.size) (.slice MS spl.length cS) spl) := ⟨Kd.S_lower (Kd.S_mono (Kd.S_bound ho) (fun k_ hk_ => ⟨hk_.2.1, hk_.2.2.1⟩)) (below_size Z4.z0)⟩; clear ho; have nB_ := Z4.k (below_step Z4.z0 hb); have hz_ := hb.size; have nHD1_ : Aside0 (Kd.S (Kd.slice 2 (Kd.int .i64)) 38 wn3 w.heap.size (fun k_ => wn1.heap.size ≤ k_ ∧ k_ < wn2.heap.size) (.slice MD1 D.length cD1) D) := ⟨Kd.S_below (by (with_reducible repeat (first | apply Kd.S_alloc | apply Kd.S_drewN | apply Kd.S_drew)); exact HD1.out) hb⟩; clear hb; have HZ3 := Z4.k (show wn2.heap.size ≤ wn3.heap.size from hz_); clear hz_ HB HD1; have HB := nB_; have HD1 := nHD1_; clear nHD1_ nB_; have HS := m_; clear m_))
 clear HD1
 obtain ⟨wn4, hw_⟩ : ∃ w_ : World, w_ = wn3.alloc (.cells #[.int .i64 sp1, .int .i64 sp2, .slice MS spl.length cS] 27 (0, 0)) := ⟨_, rfl⟩
 rw [← hw_]
 have hb : Below wn3.heap.size wn3 wn4 := by rw [hw_]; exact (Below.refl _ _).alloc (Nat.le_refl _) _
 have m_ : Aside0 (wn4.heap[wn3.heap.size]? = some (.cells #[.int .i64 sp1, .int .i64 sp2, .slice MS spl.length cS] 27 (0, 0))) := ⟨(by rw [hw_]; exact blk_new _ _)⟩
 obtain ⟨gbW, hg⟩ : ∃ g_ : Nat, g_ = wn3.heap.size := ⟨_, rfl⟩
 rw [← hg] at m_ ⊢
 have HGBKW := Z4.k hg
 have HMBKW := Z4.k (show gbW < wn4.heap.size from blk_lt m_.out)
 clear hg hw_
 have nB_ := Z4.k (below_step Z4.z0 hb)
 have hz_ := hb.size
 have nHS_ : Aside0 (Kd.S (Kd.slice 2 (Kd.int .i64)) 38 wn4 w.heap.size (fun k_ => wn2.heap.size ≤ k_ ∧ k_ < wn3.heap.size) (.slice MS spl.length cS) spl) := ⟨Kd.S_below Z4.z2 hb⟩
 clear hb
 have HZ4 := Z4.k (show wn3.heap.size ≤ wn4.heap.size from hz_)
 clear hz_ HB HS
 have HB := nB_
 have HS := nHS_
 clear nHS_ nB_
 have BKW := m_
 clear m_
 go_upto_region 7 with (first | (go_at_call 14; (refine (laws_toInt64SS.calls k _ _ l2 D _ ?side1 ?side2 AD.out).mono ?_); (case side1 => exact Z4.z5); (case side2 => exact HC.out); rintro e wn5 ⟨vD2, rfl, ho, hb⟩; obtain ⟨MD2, cD2, ev_⟩ := Kd.S_slice ho; subst ev_; have m_ : Aside0 (Kd.S (Kd.slice 2 (Kd.int .i64)) 38 wn5 w.heap.size (fun k_ => wn4.heap.size ≤ k_ ∧ k_ < wn5.heap.size) (.slice MD2 D.length cD2) D) := ⟨Kd.S_lower (Kd.S_mono (Kd.S_bound ho) (fun k_ hk_ => ⟨hk_.2.1, hk_.2.2.1⟩)) (below_size Z4.z0)⟩; clear ho; have nB_ := Z4.k (below_step Z4.z0 hb); have hz_ := hb.size; have nHS_ : Aside0 (Kd.S (Kd.slice 2 (Kd.int .i64)) 38 wn5 w.heap.size (fun k_ => wn2.heap.size ≤ k_ ∧ k_ < wn3.heap.size) (.slice MS spl.length cS) spl) := ⟨Kd.S_below Z4.z2 hb⟩; have nBKW_ : Aside0 (wn5.heap[gbW]? = some (.cells #[.int .i64 sp1, .int .i64 sp2, .slice MS spl.length cS] 27 (0, 0))) := ⟨blk_below Z4.z1 hb⟩; clear hb; have HZ5 := Z4.k (show wn4.heap.size ≤ wn5.heap.size from hz_); clear hz_ HB HS BKW; have HB := nB_; have HS := nHS_; have BKW := nBKW_; clear nHS_ nBKW_ nB_; have HD2 := m_; clear m_))
 go_upto_region 8 with (first | (go_at_call 15; (refine (impl_SpaceOf.calls k a0 a1 _ _ D g1 g2 gl ge _ ?side1 ?side2 AG.out).mono ?_); (case side1 => exact Z4.z10); (case side2 => exact (Kd.S_reads' HD2.out).2.1); rintro e wn6 ⟨vG, rfl, ho, hb⟩; obtain ⟨MG, cG, ev_⟩ := Kd.S_slice ho; subst ev_; have m_ : Aside0 (Kd.S (Kd.slice 2 (Kd.int .i64)) 38 wn6 w.heap.size (fun k_ => wn5.heap.size ≤ k_ ∧ k_ < wn6.heap.size) (.slice MG gl.length cG) gl) := ⟨Kd.S_lower (Kd.S_mono (Kd.S_bound ho) (fun k_ hk_ => ⟨hk_.2.1, hk_.2.2.1⟩)) (below_size Z4.z0)⟩; clear ho; have nB_ := Z4.k (below_step Z4.z0 hb); have hz_ := hb.size; have nHS_ : Aside0 (Kd.S (Kd.slice 2 (Kd.int .i64)) 38 wn6 w.heap.size (fun k_ => wn2.heap.size ≤ k_ ∧ k_ < wn3.heap.size) (.slice MS spl.length cS) spl) := ⟨Kd.S_below Z4.z2 hb⟩; have nHD2_ : Aside0 (Kd.S (Kd.slice 2 (Kd.int .i64)) 38 wn6 w.heap.size (fun k_ => wn4.heap.size ≤ k_ ∧ k_ < wn5.heap.size) (.slice MD2 D.length cD2) D) := ⟨Kd.S_below Z4.z7 hb⟩; have nBKW_ : Aside0 (wn6.heap[gbW]? = some (.cells #[.int .i64 sp1, .int .i64 sp2, .slice MS spl.length cS] 27 (0, 0))) := ⟨blk_below Z4.z1 hb⟩; clear hb; have HZ6 := Z4.k (show wn5.heap.size ≤ wn6.heap.size from hz_); clear hz_ HB HS HD2 BKW; have HB := nB_; have HS := nHS_; have HD2 := nHD2_; have BKW := nBKW_; clear nHS_ nHD2_ nBKW_ nB_; have HG := m_; clear m_))
 obtain ⟨wn7, hw_⟩ : ∃ w_ : World, w_ = wn6.alloc (.cells #[.int .i64 g1, .int .i64 g2, .slice MG gl.length cG] 27 (0, 0)) := ⟨_, rfl⟩
 rw [← hw_]
 have hb : Below wn6.heap.size wn6 wn7 := by rw [hw_]; exact (Below.refl _ _).alloc (Nat.le_refl _) _
 have m_ : Aside0 (wn7.heap[wn6.heap.size]? = some (.cells #[.int .i64 g1, .int .i64 g2, .slice MG gl.length cG] 27 (0, 0))) := ⟨(by rw [hw_]; exact blk_new _ _)⟩
 obtain ⟨gbG, hg⟩ : ∃ g_ : Nat, g_ = wn6.heap.size := ⟨_, rfl⟩
 rw [← hg] at m_ ⊢
 have HGBKG := Z4.k hg
 have HMBKG := Z4.k (show gbG < wn7.heap.size from blk_lt m_.out)
 clear hg hw_
 have nB_ := Z4.k (below_step Z4.z0 hb)
 have hz_ := hb.size
 have nHS_ : Aside0 (Kd.S (Kd.slice 2 (Kd.int .i64)) 38 wn7 w.heap.size (fun k_ => wn2.heap.size ≤ k_ ∧ k_ < wn3.heap.size) (.slice MS spl.length cS) spl) := ⟨Kd.S_below Z4.z2 hb⟩
 have nHD2_ : Aside0 (Kd.S (Kd.slice 2 (Kd.int .i64)) 38 wn7 w.heap.size (fun k_ => wn4.heap.size ≤ k_ ∧ k_ < wn5.heap.size) (.slice MD2 D.length cD2) D) := ⟨Kd.S_below Z4.z7 hb⟩
 have nHG_ : Aside0 (Kd.S (Kd.slice 2 (Kd.int .i64)) 38 wn7 w.heap.size (fun k_ => wn5.heap.size ≤ k_ ∧ k_ < wn6.heap.size) (.slice MG gl.length cG) gl) := ⟨Kd.S_below Z4.z4 hb⟩
 have nBKW_ : Aside0 (wn7.heap[gbW]? = some (.cells #[.int .i64 sp1, .int .i64 sp2, .slice MS spl.length cS] 27 (0, 0))) := ⟨blk_below Z4.z1 hb⟩
 clear hb
 have HZ7 := Z4.k (show wn6.heap.size ≤ wn7.heap.size from hz_)
 clear hz_ HB HS HD2 HG BKW
 have HB := nB_
 have HS := nHS_
 have HD2 := nHD2_
 have HG := nHG_
 have BKW := nBKW_
 clear nHS_ nHD2_ nHG_ nBKW_ nB_
 have BKG := m_
 clear m_
 have hcBKG_0_7 : wn7.cell? ⟨gbG, 0, none⟩ = some (.int .i64 g1) := (blk_cell BKG.out 0).trans rfl
 have hfBKG_0_7 := blk_frozen BKG.out 0
 have hcBKG_1_7 : wn7.cell? ⟨gbG, 1, none⟩ = some (.int .i64 g2) := (blk_cell BKG.out 1).trans rfl
 have hfBKG_1_7 := blk_frozen BKG.out 1
 have hcBKG_2_7 : wn7.cell? ⟨gbG, 2, none⟩ = some (.slice MG gl.length cG) := (blk_cell BKG.out 2).trans rfl
 have hfBKG_2_7 := blk_frozen BKG.out 2
 have hcBKW_0_7 : wn7.cell? ⟨gbW, 0, none⟩ = some (.int .i64 sp1) := (blk_cell BKW.out 0).trans rfl
 have hfBKW_0_7 := blk_frozen BKW.out 0
 have hcBKW_1_7 : wn7.cell? ⟨gbW, 1, none⟩ = some (.int .i64 sp2) := (blk_cell BKW.out 1).trans rfl
 have hfBKW_1_7 := blk_frozen BKW.out 1
 have hcBKW_2_7 : wn7.cell? ⟨gbW, 2, none⟩ = some (.slice MS spl.length cS) := (blk_cell BKW.out 2).trans rfl
 have hfBKW_2_7 := blk_frozen BKW.out 2
 go_upto_region 10 with (first | (go_at_call 11; (refine (laws_eqSpace.calls k g1 g2 _ _ gl sp1 sp2 _ _ spl true _ ?side1 ?side2 ?side3 ?side4 AE.out).mono ?_); (case side1 => exact Z4.z6); (case side2 => exact (Kd.S_reads' HG.out).2.1); (case side3 => exact Z4.z8); (case side4 => exact (Kd.S_reads' HS.out).2.1); rintro e wn8 ⟨rfl, hb⟩; have nB_ := Z4.k (below_step Z4.z0 hb); have hz_ := hb.size; have nHS_ : Aside0 (Kd.S (Kd.slice 2 (Kd.int .i64)) 38 wn8 w.heap.size (fun k_ => wn2.heap.size ≤ k_ ∧ k_ < wn3.heap.size) (.slice MS spl.length cS) spl) := ⟨Kd.S_below Z4.z2 hb⟩; have nHD2_ : Aside0 (Kd.S (Kd.slice 2 (Kd.int .i64)) 38 wn8 w.heap.size (fun k_ => wn4.heap.size ≤ k_ ∧ k_ < wn5.heap.size) (.slice MD2 D.length cD2) D) := ⟨Kd.S_below Z4.z7 hb⟩; have nHG_ : Aside0 (Kd.S (Kd.slice 2 (Kd.int .i64)) 38 wn8 w.heap.size (fun k_ => wn5.heap.size ≤ k_ ∧ k_ < wn6.heap.size) (.slice MG gl.length cG) gl) := ⟨Kd.S_below Z4.z4 hb⟩; have nBKW_ : Aside0 (wn8.heap[gbW]? = some (.cells #[.int .i64 sp1, .int .i64 sp2, .slice MS spl.length cS] 27 (0, 0))) := ⟨blk_below Z4.z1 hb⟩; have nBKG_ : Aside0 (wn8.heap[gbG]? = some (.cells #[.int .i64 g1, .int .i64 g2, .slice MG gl.length cG] 27 (0, 0))) := ⟨blk_below Z4.z3 hb⟩; clear hb; have HZ8 := Z4.k (show wn7.heap.size ≤ wn8.heap.size from hz_); clear hz_ HB HS HD2 HG BKW BKG; have HB := nB_; have HS := nHS_; have HD2 := nHD2_; have HG := nHG_; have BKW := nBKW_; have BKG := nBKG_; clear nHS_ nHD2_ nHG_ nBKW_ nBKG_; clear nB_))
 go_upto_region 12 with (first | (go_at_call 14; (refine (laws_toInt64SS.calls k _ _ l2 D _ ?side1 ?side2 AD.out).mono ?_); (case side1 => exact Z4.z5); (case side2 => exact HC.out); rintro e wn9 ⟨vD3, rfl, ho, hb⟩; obtain ⟨MD3, cD3, ev_⟩ := Kd.S_slice ho; subst ev_; have m_ : Aside0 (Kd.S (Kd.slice 2 (Kd.int .i64)) 38 wn9 w.heap.size (fun k_ => wn8.heap.size ≤ k_ ∧ k_ < wn9.heap.size) (.slice MD3 D.length cD3) D) := ⟨Kd.S_lower (Kd.S_mono (Kd.S_bound ho) (fun k_ hk_ => ⟨hk_.2.1, hk_.2.2.1⟩)) (below_size Z4.z0)⟩; clear ho; have nB_ := Z4.k (below_step Z4.z0 hb); have hz_ := hb.size; have nHS_ : Aside0 (Kd.S (Kd.slice 2 (Kd.int .i64)) 38 wn9 w.heap.size (fun k_ => wn2.heap.size ≤ k_ ∧ k_ < wn3.heap.size) (.slice MS spl.length cS) spl) := ⟨Kd.S_below Z4.z2 hb⟩; have nHD2_ : Aside0 (Kd.S (Kd.slice 2 (Kd.int .i64)) 38 wn9 w.heap.size (fun k_ => wn4.heap.size ≤ k_ ∧ k_ < wn5.heap.size) (.slice MD2 D.length cD2) D) := ⟨Kd.S_below Z4.z7 hb⟩; have nHG_ : Aside0 (Kd.S (Kd.slice 2 (Kd.int .i64)) 38 wn9 w.heap.size (fun k_ => wn5.heap.size ≤ k_ ∧ k_ < wn6.heap.size) (.slice MG gl.length cG) gl) := ⟨Kd.S_below Z4.z4 hb⟩; have nBKW_ : Aside0 (wn9.heap[gbW]? = some (.cells #[.int .i64 sp1, .int .i64 sp2, .slice MS spl.length cS] 27 (0, 0))) := ⟨blk_below Z4.z1 hb⟩; have nBKG_ : Aside0 (wn9.heap[gbG]? = some (.cells #[.int .i64 g1, .int .i64 g2, .slice MG gl.length cG] 27 (0, 0))) := ⟨blk_below Z4.z3 hb⟩; clear hb; have HZ9 := Z4.k (show wn8.heap.size ≤ wn9.heap.size from hz_); clear hz_ HB HS HD2 HG BKW BKG; have HB := nB_; have HS := nHS_; have HD2 := nHD2_; have HG := nHG_; have BKW := nBKW_; have BKG := nBKG_; clear nHS_ nHD2_ nHG_ nBKW_ nBKG_ nB_; have HD3 := m_; clear m_) | (go_at_call 16; (refine (laws_eqInt64SS.calls k _ _ D _ _ D true _ ?side1 ?side2 ?side3 ?side4 AF.out).mono ?_); (case side1 => exact Z4.z10); (case side2 => exact (Kd.S_reads' HD2.out).2.1); (case side3 => exact (by repeat (first | exact (Kd.S_reads' HD3.out).2.2 | (with_reducible refine Kd.C_alloc ?_ _) | (with_reducible refine Kd.C_drewN ?_ _) | (with_reducible refine Kd.C_drew ?_)))); (case side4 => exact (Kd.S_reads' HD3.out).2.1); rintro e wn10 ⟨rfl, hd⟩; have hb := hd.below; clear hd; have nB_ := Z4.k (below_step Z4.z0 hb); have hz_ := hb.size; have nHS_ : Aside0 (Kd.S (Kd.slice 2 (Kd.int .i64)) 38 wn10 w.heap.size (fun k_ => wn2.heap.size ≤ k_ ∧ k_ < wn3.heap.size) (.slice MS spl.length cS) spl) := ⟨Kd.S_below Z4.z2 hb⟩; have nHD2_ : Aside0 (Kd.S (Kd.slice 2 (Kd.int .i64)) 38 wn10 w.heap.size (fun k_ => wn4.heap.size ≤ k_ ∧ k_ < wn5.heap.size) (.slice MD2 D.length cD2) D) := ⟨Kd.S_below Z4.z7 hb⟩; have nHG_ : Aside0 (Kd.S (Kd.slice 2 (Kd.int .i64)) 38 wn10 w.heap.size (fun k_ => wn5.heap.size ≤ k_ ∧ k_ < wn6.heap.size) (.slice MG gl.length cG) gl) := ⟨Kd.S_below Z4.z4 hb⟩; have nHD3_ : Aside0 (Kd.S (Kd.slice 2 (Kd.int .i64)) 38 wn10 w.heap.size (fun k_ => wn8.heap.size ≤ k_ ∧ k_ < wn9.heap.size) (.slice MD3 D.length cD3) D) := ⟨Kd.S_below (by (with_reducible repeat (first | apply Kd.S_alloc | apply Kd.S_drewN | apply Kd.S_drew)); exact HD3.out) hb⟩; have nBKW_ : Aside0 (wn10.heap[gbW]? = some (.cells #[.int .i64 sp1, .int .i64 sp2, .slice MS spl.length cS] 27 (0, 0))) := ⟨blk_below Z4.z1 hb⟩; have nBKG_ : Aside0 (wn10.heap[gbG]? = some (.cells #[.int .i64 g1, .int .i64 g2, .slice MG gl.length cG] 27 (0, 0))) := ⟨blk_below Z4.z3 hb⟩; clear hb; have HZ10 := Z4.k (show wn9.heap.size ≤ wn10.heap.size from hz_); clear hz_ HB HS HD2 HG HD3 BKW BKG; have HB := nB_; have HS := nHS_; have HD2 := nHD2_; have HG := nHG_; have HD3 := nHD3_; have BKW := nBKW_; have BKG := nBKG_; clear nHS_ nHD2_ nHG_ nHD3_ nBKW_ nBKG_; clear nB_))
 clear HD3
 go_upto_region 14 with (first | (go_at_call 17; (refine (laws_markInt64SS.calls k (fun k_ => wn4.heap.size ≤ k_ ∧ k_ < wn5.heap.size) (.slice MD2 D.length cD2) D 1 m1 D' w _ ?side1 ?side2 AM.out).mono ?_); (case side1 => exact (by exact Z4.z0)); (case side2 => exact (by exact Z4.z7)); rintro e wn11 ⟨rfl, hS_, hb, hk⟩; have m_ := Z4.k hS_; clear hS_ HD2; have nB_ := Z4.k hb; have hz_ := hk.1; have nHS_ : Aside0 (Kd.S (Kd.slice 2 (Kd.int .i64)) 38 wn11 w.heap.size (fun k_ => wn2.heap.size ≤ k_ ∧ k_ < wn3.heap.size) (.slice MS spl.length cS) spl) := ⟨Kd.S_kept Z4.z2 hk (fun k_ h1_ h2_ => by have h3_ : wn2.heap.size ≤ k_ := h1_.1; have h4_ : k_ < wn3.heap.size := h1_.2; have h5_ : wn4.heap.size ≤ k_ := h2_.1; have h6_ : k_ < wn5.heap.size := h2_.2; have := HZ1.out; have := HZ2.out; have := HZ3.out; have := HZ4.out; have := HZ5.out; have := HZ6.out; have := HZ7.out; have := HZ8.out; have := HZ9.out; have := HZ10.out; omega)⟩; have nHG_ : Aside0 (Kd.S (Kd.slice 2 (Kd.int .i64)) 38 wn11 w.heap.size (fun k_ => wn5.heap.size ≤ k_ ∧ k_ < wn6.heap.size) (.slice MG gl.length cG) gl) := ⟨Kd.S_kept Z4.z4 hk (fun k_ h1_ h2_ => by have h3_ : wn5.heap.size ≤ k_ := h1_.1; have h4_ : k_ < wn6.heap.size := h1_.2; have h5_ : wn4.heap.size ≤ k_ := h2_.1; have h6_ : k_ < wn5.heap.size := h2_.2; have := HZ1.out; have := HZ2.out; have := HZ3.out; have := HZ4.out; have := HZ5.out; have := HZ6.out; have := HZ7.out; have := HZ8.out; have := HZ9.out; have := HZ10.out; omega)⟩; have nBKW_ : Aside0 (wn11.heap[gbW]? = some (.cells #[.int .i64 sp1, .int .i64 sp2, .slice MS spl.length cS] 27 (0, 0))) := ⟨blk_kept Z4.z1 hk (fun h2_ => by have h5_ : wn4.heap.size ≤ gbW := h2_.1; have h6_ : gbW < wn5.heap.size := h2_.2; have := HGBKW.out; have := HMBKW.out; have := HZ1.out; have := HZ2.out; have := HZ3.out; have := HZ4.out; have := HZ5.out; have := HZ6.out; have := HZ7.out; have := HZ8.out; have := HZ9.out; have := HZ10.out; omega)⟩; have nBKG_ : Aside0 (wn11.heap[gbG]? = some (.cells #[.int .i64 g1, .int .i64 g2, .slice MG gl.length cG] 27 (0, 0))) := ⟨blk_kept Z4.z3 hk (fun h2_ => by have h5_ : wn4.heap.size ≤ gbG := h2_.1; have h6_ : gbG < wn5.heap.size := h2_.2; have := HGBKG.out; have := HMBKG.out; have := HZ1.out; have := HZ2.out; have := HZ3.out; have := HZ4.out; have := HZ5.out; have := HZ6.out; have := HZ7.out; have := HZ8.out; have := HZ9.out; have := HZ10.out; omega)⟩; clear hb hk; have HZ11 := Z4.k (show wn10.heap.size ≤ wn11.heap.size from hz_); clear hz_ HB HS HG BKW BKG; have HB := nB_; have HS := nHS_; have HG := nHG_; have BKW := nBKW_; have BKG := nBKG_; clear nHS_ nHG_ nBKW_ nBKG_ nB_; clear m_))
 have hcBKG_0_11 : wn11.cell? ⟨gbG, 0, none⟩ = some (.int .i64 g1) := (blk_cell BKG.out 0).trans rfl
 have hfBKG_0_11 := blk_frozen BKG.out 0
 have hcBKG_1_11 : wn11.cell? ⟨gbG, 1, none⟩ = some (.int .i64 g2) := (blk_cell BKG.out 1).trans rfl
 have hfBKG_1_11 := blk_frozen BKG.out 1
 have hcBKG_2_11 : wn11.cell? ⟨gbG, 2, none⟩ = some (.slice MG gl.length cG) := (blk_cell BKG.out 2).trans rfl
 have hfBKG_2_11 := blk_frozen BKG.out 2
 have hcBKW_0_11 : wn11.cell? ⟨gbW, 0, none⟩ = some (.int .i64 sp1) := (blk_cell BKW.out 0).trans rfl
 have hfBKW_0_11 := blk_frozen BKW.out 0
 have hcBKW_1_11 : wn11.cell? ⟨gbW, 1, none⟩ = some (.int .i64 sp2) := (blk_cell BKW.out 1).trans rfl
 have hfBKW_1_11 := blk_frozen BKW.out 1
 have hcBKW_2_11 : wn11.cell? ⟨gbW, 2, none⟩ = some (.slice MS spl.length cS) := (blk_cell BKW.out 2).trans rfl
 have hfBKW_2_11 := blk_frozen BKW.out 2
 go_upto_region 16 with (first | (go_at_call 11; (refine (laws_eqSpace.calls k g1 g2 _ _ gl sp1 sp2 _ _ spl true _ ?side1 ?side2 ?side3 ?side4 AE.out).mono ?_); (case side1 => exact Z4.z6); (case side2 => exact (Kd.S_reads' HG.out).2.1); (case side3 => exact Z4.z8); (case side4 => exact (Kd.S_reads' HS.out).2.1); rintro e wn12 ⟨rfl, hb⟩; have nB_ := Z4.k (below_step Z4.z0 hb); have hz_ := hb.size; have nHS_ : Aside0 (Kd.S (Kd.slice 2 (Kd.int .i64)) 38 wn12 w.heap.size (fun k_ => wn2.heap.size ≤ k_ ∧ k_ < wn3.heap.size) (.slice MS spl.length cS) spl) := ⟨Kd.S_below Z4.z2 hb⟩; have nHG_ : Aside0 (Kd.S (Kd.slice 2 (Kd.int .i64)) 38 wn12 w.heap.size (fun k_ => wn5.heap.size ≤ k_ ∧ k_ < wn6.heap.size) (.slice MG gl.length cG) gl) := ⟨Kd.S_below Z4.z4 hb⟩; have nBKW_ : Aside0 (wn12.heap[gbW]? = some (.cells #[.int .i64 sp1, .int .i64 sp2, .slice MS spl.length cS] 27 (0, 0))) := ⟨blk_below Z4.z1 hb⟩; have nBKG_ : Aside0 (wn12.heap[gbG]? = some (.cells #[.int .i64 g1, .int .i64 g2, .slice MG gl.length cG] 27 (0, 0))) := ⟨blk_below Z4.z3 hb⟩; clear hb; have HZ12 := Z4.k (show wn11.heap.size ≤ wn12.heap.size from hz_); clear hz_ HB HS HG BKW BKG; have HB := nB_; have HS := nHS_; have HG := nHG_; have BKW := nBKW_; have BKG := nBKG_; clear nHS_ nHG_ nBKW_ nBKG_; clear nB_))
 have hcBKG_0_12 : wn12.cell? ⟨gbG, 0, none⟩ = some (.int .i64 g1) := (blk_cell BKG.out 0).trans rfl
 have hfBKG_0_12 := blk_frozen BKG.out 0
 have hcBKG_1_12 : wn12.cell? ⟨gbG, 1, none⟩ = some (.int .i64 g2) := (blk_cell BKG.out 1).trans rfl
 have hfBKG_1_12 := blk_frozen BKG.out 1
 have hcBKG_2_12 : wn12.cell? ⟨gbG, 2, none⟩ = some (.slice MG gl.length cG) := (blk_cell BKG.out 2).trans rfl
 have hfBKG_2_12 := blk_frozen BKG.out 2
 go_upto_region 18 with (first | (go_at_call 18; (refine (laws_markSpace.calls k g1 g2 (fun k_ => wn5.heap.size ≤ k_ ∧ k_ < wn6.heap.size) (.slice MG gl.length cG) gl 1 q gl' w _ ?side1 ?side2 AN.out).mono ?_); (case side1 => exact (by exact Z4.z0)); (case side2 => exact (by exact Z4.z4)); rintro e wn13 ⟨rfl, hS_, hb, hk⟩; have m_ := Z4.k hS_; clear hS_ HG; have nB_ := Z4.k hb; have hz_ := hk.1; have nHS_ : Aside0 (Kd.S (Kd.slice 2 (Kd.int .i64)) 38 wn13 w.heap.size (fun k_ => wn2.heap.size ≤ k_ ∧ k_ < wn3.heap.size) (.slice MS spl.length cS) spl) := ⟨Kd.S_kept Z4.z2 hk (fun k_ h1_ h2_ => by have h3_ : wn2.heap.size ≤ k_ := h1_.1; have h4_ : k_ < wn3.heap.size := h1_.2; have h5_ : wn5.heap.size ≤ k_ := h2_.1; have h6_ : k_ < wn6.heap.size := h2_.2; have := HZ1.out; have := HZ2.out; have := HZ3.out; have := HZ4.out; have := HZ5.out; have := HZ6.out; have := HZ7.out; have := HZ8.out; have := HZ9.out; have := HZ10.out; have := HZ11.out; have := HZ12.out; omega)⟩; have nBKW_ : Aside0 (wn13.heap[gbW]? = some (.cells #[.int .i64 sp1, .int .i64 sp2, .slice MS spl.length cS] 27 (0, 0))) := ⟨blk_kept Z4.z1 hk (fun h2_ => by have h5_ : wn5.heap.size ≤ gbW := h2_.1; have h6_ : gbW < wn6.heap.size := h2_.2; have := HGBKW.out; have := HMBKW.out; have := HZ1.out; have := HZ2.out; have := HZ3.out; have := HZ4.out; have := HZ5.out; have := HZ6.out; have := HZ7.out; have := HZ8.out; have := HZ9.out; have := HZ10.out; have := HZ11.out; have := HZ12.out; omega)⟩; have nBKG_ : Aside0 (wn13.heap[gbG]? = some (.cells #[.int .i64 g1, .int .i64 g2, .slice MG gl.length cG] 27 (0, 0))) := ⟨blk_kept Z4.z3 hk (fun h2_ => by have h5_ : wn5.heap.size ≤ gbG := h2_.1; have h6_ : gbG < wn6.heap.size := h2_.2; have := HGBKG.out; have := HMBKG.out; have := HZ1.out; have := HZ2.out; have := HZ3.out; have := HZ4.out; have := HZ5.out; have := HZ6.out; have := HZ7.out; have := HZ8.out; have := HZ9.out; have := HZ10.out; have := HZ11.out; have := HZ12.out; omega)⟩; clear hb hk; have HZ13 := Z4.k (show wn12.heap.size ≤ wn13.heap.size from hz_); clear hz_ HB HS BKW BKG; have HB := nB_; have HS := nHS_; have BKW := nBKW_; have BKG := nBKG_; clear nHS_ nBKW_ nBKG_ nB_; have HG := m_; have HL := Z4.k (show gl.length = gl'.length from (Kd.S_reads' HG.out).1); clear m_))
 have hcBKG_0_13 : wn13.cell? ⟨gbG, 0, none⟩ = some (.int .i64 g1) := (blk_cell BKG.out 0).trans rfl
 have hfBKG_0_13 := blk_frozen BKG.out 0
 have hcBKG_1_13 : wn13.cell? ⟨gbG, 1, none⟩ = some (.int .i64 g2) := (blk_cell BKG.out 1).trans rfl
 have hfBKG_1_13 := blk_frozen BKG.out 1
 have hcBKG_2_13 : wn13.cell? ⟨gbG, 2, none⟩ = some (.slice MG gl.length cG) := (blk_cell BKG.out 2).trans rfl
 have hfBKG_2_13 := blk_frozen BKG.out 2
 go_upto_region 20 with (first | (go_at_call 19; refine calls_of_args (args' := #[.agg #[.int .i64 g1, .int .i64 g2, .slice MG gl'.length cG], .int .i64 1]) (by simp only [HL.out]) ?_; (refine (laws_heldSpace.calls k g1 g2 _ _ gl' 1 q _ ?side1 ?side2 AQ.out).mono ?_); (case side1 => exact Z4.z6); (case side2 => exact HL.out ▸ (Kd.S_reads' HG.out).2.1); rintro e wn14 ⟨rfl, hb⟩; have nB_ := Z4.k (below_step Z4.z0 hb); have hz_ := hb.size; have nHS_ : Aside0 (Kd.S (Kd.slice 2 (Kd.int .i64)) 38 wn14 w.heap.size (fun k_ => wn2.heap.size ≤ k_ ∧ k_ < wn3.heap.size) (.slice MS spl.length cS) spl) := ⟨Kd.S_below Z4.z2 hb⟩; have nHG_ : Aside0 (Kd.S (Kd.slice 2 (Kd.int .i64)) 38 wn14 w.heap.size (fun k_ => ((fun k_ => wn5.heap.size ≤ k_ ∧ k_ < wn6.heap.size) k_ ∨ wn12.heap.size ≤ k_)) (.slice MG gl.length cG) gl') := ⟨Kd.S_below Z4.z4 hb⟩; have nBKW_ : Aside0 (wn14.heap[gbW]? = some (.cells #[.int .i64 sp1, .int .i64 sp2, .slice MS spl.length cS] 27 (0, 0))) := ⟨blk_below Z4.z1 hb⟩; have nBKG_ : Aside0 (wn14.heap[gbG]? = some (.cells #[.int .i64 g1, .int .i64 g2, .slice MG gl.length cG] 27 (0, 0))) := ⟨blk_below Z4.z3 hb⟩; clear hb; have HZ14 := Z4.k (show wn13.heap.size ≤ wn14.heap.size from hz_); clear hz_ HB HS HG BKW BKG; have HB := nB_; have HS := nHS_; have HG := nHG_; have BKW := nBKW_; have BKG := nBKG_; clear nHS_ nHG_ nBKW_ nBKG_; clear nB_))
 go_upto_region 24 with (fail)
 go_upto_region 25 with (first | (go_at_call 14; (refine (laws_toInt64SS.calls k _ _ l2 D _ ?side1 ?side2 AD.out).mono ?_); (case side1 => exact Z4.z5); (case side2 => exact HC.out); rintro e wn15 ⟨vD4, rfl, ho, hb⟩; obtain ⟨MD4, cD4, ev_⟩ := Kd.S_slice ho; subst ev_; have m_ : Aside0 (Kd.S (Kd.slice 2 (Kd.int .i64)) 38 wn15 w.heap.size (fun k_ => wn14.heap.size ≤ k_ ∧ k_ < wn15.heap.size) (.slice MD4 D.length cD4) D) := ⟨Kd.S_lower (Kd.S_mono (Kd.S_bound ho) (fun k_ hk_ => ⟨hk_.2.1, hk_.2.2.1⟩)) (below_size Z4.z0)⟩; clear ho; have nB_ := Z4.k (below_step Z4.z0 hb); have hz_ := hb.size; have nHS_ : Aside0 (Kd.S (Kd.slice 2 (Kd.int .i64)) 38 wn15 w.heap.size (fun k_ => wn2.heap.size ≤ k_ ∧ k_ < wn3.heap.size) (.slice MS spl.length cS) spl) := ⟨Kd.S_below Z4.z2 hb⟩; have nHG_ : Aside0 (Kd.S (Kd.slice 2 (Kd.int .i64)) 38 wn15 w.heap.size (fun k_ => ((fun k_ => wn5.heap.size ≤ k_ ∧ k_ < wn6.heap.size) k_ ∨ wn12.heap.size ≤ k_)) (.slice MG gl.length cG) gl') := ⟨Kd.S_below Z4.z4 hb⟩; have nBKW_ : Aside0 (wn15.heap[gbW]? = some (.cells #[.int .i64 sp1, .int .i64 sp2, .slice MS spl.length cS] 27 (0, 0))) := ⟨blk_below Z4.z1 hb⟩; have nBKG_ : Aside0 (wn15.heap[gbG]? = some (.cells #[.int .i64 g1, .int .i64 g2, .slice MG gl.length cG] 27 (0, 0))) := ⟨blk_below Z4.z3 hb⟩; clear hb; have HZ15 := Z4.k (show wn14.heap.size ≤ wn15.heap.size from hz_); clear hz_ HB HS HG BKW BKG; have HB := nB_; have HS := nHS_; have HG := nHG_; have BKW := nBKW_; have BKG := nBKG_; clear nHS_ nHG_ nBKW_ nBKG_ nB_; have HD4 := m_; clear m_) | (go_at_call 15; (refine (impl_SpaceOf.calls k a0 a1 _ _ D g1 g2 gl ge _ ?side1 ?side2 AG.out).mono ?_); (case side1 => exact (by repeat (first | exact (Kd.S_reads' HD4.out).2.2 | (with_reducible refine Kd.C_alloc ?_ _) | (with_reducible refine Kd.C_drewN ?_ _) | (with_reducible refine Kd.C_drew ?_)))); (case side2 => exact (Kd.S_reads' HD4.out).2.1); rintro e wn16 ⟨vH, rfl, ho, hb⟩; obtain ⟨MH, cH, ev_⟩ := Kd.S_slice ho; subst ev_; have m_ : Aside0 (Kd.S (Kd.slice 2 (Kd.int .i64)) 38 wn16 w.heap.size (fun k_ => wn15.heap.size ≤ k_ ∧ k_ < wn16.heap.size) (.slice MH gl.length cH) gl) := ⟨Kd.S_lower (Kd.S_mono (Kd.S_bound ho) (fun k_ hk_ => ⟨hk_.2.1, hk_.2.2.1⟩)) (below_size Z4.z0)⟩; clear ho; have nB_ := Z4.k (below_step Z4.z0 hb); have hz_ := hb.size; have nHS_ : Aside0 (Kd.S (Kd.slice 2 (Kd.int .i64)) 38 wn16 w.heap.size (fun k_ => wn2.heap.size ≤ k_ ∧ k_ < wn3.heap.size) (.slice MS spl.length cS) spl) := ⟨Kd.S_below Z4.z2 hb⟩; have nHG_ : Aside0 (Kd.S (Kd.slice 2 (Kd.int .i64)) 38 wn16 w.heap.size (fun k_ => ((fun k_ => wn5.heap.size ≤ k_ ∧ k_ < wn6.heap.size) k_ ∨ wn12.heap.size ≤ k_)) (.slice MG gl.length cG) gl') := ⟨Kd.S_below Z4.z4 hb⟩; have nHD4_ : Aside0 (Kd.S (Kd.slice 2 (Kd.int .i64)) 38 wn16 w.heap.size (fun k_ => wn14.heap.size ≤ k_ ∧ k_ < wn15.heap.size) (.slice MD4 D.length cD4) D) := ⟨Kd.S_below (by (with_reducible repeat (first | apply Kd.S_alloc | apply Kd.S_drewN | apply Kd.S_drew)); exact HD4.out) hb⟩; have nBKW_ : Aside0 (wn16.heap[gbW]? = some (.cells #[.int .i64 sp1, .int .i64 sp2, .slice MS spl.length cS] 27 (0, 0))) := ⟨blk_below Z4.z1 hb⟩; have nBKG_ : Aside0 (wn16.heap[gbG]? = some (.cells #[.int .i64 g1, .int .i64 g2, .slice MG gl.length cG] 27 (0, 0))) := ⟨blk_below Z4.z3 hb⟩; clear hb; have HZ16 := Z4.k (show wn15.heap.size ≤ wn16.heap.size from hz_); clear hz_ HB HS HG HD4 BKW BKG; have HB := nB_; have HS := nHS_; have HG := nHG_; have HD4 := nHD4_; have BKW := nBKW_; have BKG := nBKG_; clear nHS_ nHG_ nHD4_ nBKW_ nBKG_ nB_; have HH := m_; clear m_))
 clear HD4
 obtain ⟨wn17, hw_⟩ : ∃ w_ : World, w_ = wn16.alloc (.cells #[.int .i64 g1, .int .i64 g2, .slice MH gl.length cH] 27 (0, 0)) := ⟨_, rfl⟩
 rw [← hw_]
 have hb : Below wn16.heap.size wn16 wn17 := by rw [hw_]; exact (Below.refl _ _).alloc (Nat.le_refl _) _
 have m_ : Aside0 (wn17.heap[wn16.heap.size]? = some (.cells #[.int .i64 g1, .int .i64 g2, .slice MH gl.length cH] 27 (0, 0))) := ⟨(by rw [hw_]; exact blk_new _ _)⟩
 obtain ⟨gbH, hg⟩ : ∃ g_ : Nat, g_ = wn16.heap.size := ⟨_, rfl⟩
 rw [← hg] at m_ ⊢
 have HGBKH := Z4.k hg
 have HMBKH := Z4.k (show gbH < wn17.heap.size from blk_lt m_.out)
 clear hg hw_
 have nB_ := Z4.k (below_step Z4.z0 hb)
 have hz_ := hb.size
 have nHS_ : Aside0 (Kd.S (Kd.slice 2 (Kd.int .i64)) 38 wn17 w.heap.size (fun k_ => wn2.heap.size ≤ k_ ∧ k_ < wn3.heap.size) (.slice MS spl.length cS) spl) := ⟨Kd.S_below Z4.z2 hb⟩
 have nHG_ : Aside0 (Kd.S (Kd.slice 2 (Kd.int .i64)) 38 wn17 w.heap.size (fun k_ => ((fun k_ => wn5.heap.size ≤ k_ ∧ k_ < wn6.heap.size) k_ ∨ wn12.heap.size ≤ k_)) (.slice MG gl.length cG) gl') := ⟨Kd.S_below Z4.z4 hb⟩
 have nHH_ : Aside0 (Kd.S (Kd.slice 2 (Kd.int .i64)) 38 wn17 w.heap.size (fun k_ => wn15.heap.size ≤ k_ ∧ k_ < wn16.heap.size) (.slice MH gl.length cH) gl) := ⟨Kd.S_below Z4.z9 hb⟩
 have nBKW_ : Aside0 (wn17.heap[gbW]? = some (.cells #[.int .i64 sp1, .int .i64 sp2, .slice MS spl.length cS] 27 (0, 0))) := ⟨blk_below Z4.z1 hb⟩
 have nBKG_ : Aside0 (wn17.heap[gbG]? = some (.cells #[.int .i64 g1, .int .i64 g2, .slice MG gl.length cG] 27 (0, 0))) := ⟨blk_below Z4.z3 hb⟩
 clear hb
 have HZ17 := Z4.k (show wn16.heap.size ≤ wn17.heap.size from hz_)
 clear hz_ HB HS HG HH BKW BKG
 have HB := nB_
 have HS := nHS_
 have HG := nHG_
 have HH := nHH_
 have BKW := nBKW_
 have BKG := nBKG_
 clear nHS_ nHG_ nHH_ nBKW_ nBKG_ nB_
 have BKH := m_
 clear m_
 have hcBKH_0_17 : wn17.cell? ⟨gbH, 0, none⟩ = some (.int .i64 g1) := (blk_cell BKH.out 0).trans rfl
 have hfBKH_0_17 := blk_frozen BKH.out 0
 have hcBKH_1_17 : wn17.cell? ⟨gbH, 1, none⟩ = some (.int .i64 g2) := (blk_cell BKH.out 1).trans rfl
 have hfBKH_1_17 := blk_frozen BKH.out 1
 have hcBKH_2_17 : wn17.cell? ⟨gbH, 2, none⟩ = some (.slice MH gl.length cH) := (blk_cell BKH.out 2).trans rfl
 have hfBKH_2_17 := blk_frozen BKH.out 2
 have hcBKW_0_17 : wn17.cell? ⟨gbW, 0, none⟩ = some (.int .i64 sp1) := (blk_cell BKW.out 0).trans rfl
 have hfBKW_0_17 := blk_frozen BKW.out 0
 have hcBKW_1_17 : wn17.cell? ⟨gbW, 1, none⟩ = some (.int .i64 sp2) := (blk_cell BKW.out 1).trans rfl
 have hfBKW_1_17 := blk_frozen BKW.out 1
 have hcBKW_2_17 : wn17.cell? ⟨gbW, 2, none⟩ = some (.slice MS spl.length cS) := (blk_cell BKW.out 2).trans rfl
 have hfBKW_2_17 := blk_frozen BKW.out 2
 go_upto_region 27 with (first | (go_at_call 11; (refine (laws_eqSpace.calls k g1 g2 _ _ gl sp1 sp2 _ _ spl true _ ?side1 ?side2 ?side3 ?side4 AE.out).mono ?_); (case side1 => exact (by repeat (first | exact (Kd.S_reads' HH.out).2.2 | (with_reducible refine Kd.C_alloc ?_ _) | (with_reducible refine Kd.C_drewN ?_ _) | (with_reducible refine Kd.C_drew ?_)))); (case side2 => exact (Kd.S_reads' HH.out).2.1); (case side3 => exact Z4.z8); (case side4 => exact (Kd.S_reads' HS.out).2.1); rintro e wn18 ⟨rfl, hb⟩; have nB_ := Z4.k (below_step Z4.z0 hb); have hz_ := hb.size; have nHS_ : Aside0 (Kd.S (Kd.slice 2 (Kd.int .i64)) 38 wn18 w.heap.size (fun k_ => wn2.heap.size ≤ k_ ∧ k_ < wn3.heap.size) (.slice MS spl.length cS) spl) := ⟨Kd.S_below Z4.z2 hb⟩; have nHG_ : Aside0 (Kd.S (Kd.slice 2 (Kd.int .i64)) 38 wn18 w.heap.size (fun k_ => ((fun k_ => wn5.heap.size ≤ k_ ∧ k_ < wn6.heap.size) k_ ∨ wn12.heap.size ≤ k_)) (.slice MG gl.length cG) gl') := ⟨Kd.S_below Z4.z4 hb⟩; have nHH_ : Aside0 (Kd.S (Kd.slice 2 (Kd.int .i64)) 38 wn18 w.heap.size (fun k_ => wn15.heap.size ≤ k_ ∧ k_ < wn16.heap.size) (.slice MH gl.length cH) gl) := ⟨Kd.S_below Z4.z9 hb⟩; have nBKW_ : Aside0 (wn18.heap[gbW]? = some (.cells #[.int .i64 sp1, .int .i64 sp2, .slice MS spl.length cS] 27 (0, 0))) := ⟨blk_below Z4.z1 hb⟩; have nBKG_ : Aside0 (wn18.heap[gbG]? = some (.cells #[.int .i64 g1, .int .i64 g2, .slice MG gl.length cG] 27 (0, 0))) := ⟨blk_below Z4.z3 hb⟩; have nBKH_ : Aside0 (wn18.heap[gbH]? = some (.cells #[.int .i64 g1, .int .i64 g2, .slice MH gl.length cH] 27 (0, 0))) := ⟨blk_below (by (with_reducible repeat (first | refine blk_drewN ?_ _ | refine blk_drew ?_ | refine blk_alloc ?_ _)); exact BKH.out) hb⟩; clear hb; have HZ18 := Z4.k (show wn17.heap.size ≤ wn18.heap.size from hz_); clear hz_ HB HS HG HH BKW BKG BKH; have HB := nB_; have HS := nHS_; have HG := nHG_; have HH := nHH_; have BKW := nBKW_; have BKG := nBKG_; have BKH := nBKH_; clear nHS_ nHG_ nHH_ nBKW_ nBKG_ nBKH_; clear nB_))
 have hcBKG_0_18 : wn18.cell? ⟨gbG, 0, none⟩ = some (.int .i64 g1) := (blk_cell BKG.out 0).trans rfl
 have hfBKG_0_18 := blk_frozen BKG.out 0
 have hcBKG_1_18 : wn18.cell? ⟨gbG, 1, none⟩ = some (.int .i64 g2) := (blk_cell BKG.out 1).trans rfl
 have hfBKG_1_18 := blk_frozen BKG.out 1
 have hcBKG_2_18 : wn18.cell? ⟨gbG, 2, none⟩ = some (.slice MG gl.length cG) := (blk_cell BKG.out 2).trans rfl
 have hfBKG_2_18 := blk_frozen BKG.out 2
 go_wp2_with (first | (go_at_call 19; refine calls_of_args (args' := #[.agg #[.int .i64 g1, .int .i64 g2, .slice MG gl'.length cG], .int .i64 1]) (by simp only [HL.out]) ?_; (refine (laws_heldSpace.calls k g1 g2 _ _ gl' 1 q _ ?side1 ?side2 AQ.out).mono ?_); (case side1 => exact Z4.z6); (case side2 => exact HL.out ▸ (Kd.S_reads' HG.out).2.1); rintro e wn19 ⟨rfl, hb⟩; have nB_ := Z4.k (below_step Z4.z0 hb); have hz_ := hb.size; have nHS_ : Aside0 (Kd.S (Kd.slice 2 (Kd.int .i64)) 38 wn19 w.heap.size (fun k_ => wn2.heap.size ≤ k_ ∧ k_ < wn3.heap.size) (.slice MS spl.length cS) spl) := ⟨Kd.S_below Z4.z2 hb⟩; have nHG_ : Aside0 (Kd.S (Kd.slice 2 (Kd.int .i64)) 38 wn19 w.heap.size (fun k_ => ((fun k_ => wn5.heap.size ≤ k_ ∧ k_ < wn6.heap.size) k_ ∨ wn12.heap.size ≤ k_)) (.slice MG gl.length cG) gl') := ⟨Kd.S_below Z4.z4 hb⟩; have nHH_ : Aside0 (Kd.S (Kd.slice 2 (Kd.int .i64)) 38 wn19 w.heap.size (fun k_ => wn15.heap.size ≤ k_ ∧ k_ < wn16.heap.size) (.slice MH gl.length cH) gl) := ⟨Kd.S_below Z4.z9 hb⟩; have nBKW_ : Aside0 (wn19.heap[gbW]? = some (.cells #[.int .i64 sp1, .int .i64 sp2, .slice MS spl.length cS] 27 (0, 0))) := ⟨blk_below Z4.z1 hb⟩; have nBKG_ : Aside0 (wn19.heap[gbG]? = some (.cells #[.int .i64 g1, .int .i64 g2, .slice MG gl.length cG] 27 (0, 0))) := ⟨blk_below Z4.z3 hb⟩; have nBKH_ : Aside0 (wn19.heap[gbH]? = some (.cells #[.int .i64 g1, .int .i64 g2, .slice MH gl.length cH] 27 (0, 0))) := ⟨blk_below (by (with_reducible repeat (first | refine blk_drewN ?_ _ | refine blk_drew ?_ | refine blk_alloc ?_ _)); exact BKH.out) hb⟩; clear hb; have HZ19 := Z4.k (show wn18.heap.size ≤ wn19.heap.size from hz_); clear hz_ HB HS HG HH BKW BKG BKH; have HB := nB_; have HS := nHS_; have HG := nHG_; have HH := nHH_; have BKW := nBKW_; have BKG := nBKG_; have BKH := nBKH_; clear nHS_ nHG_ nHH_ nBKW_ nBKG_ nBKH_; clear nB_))
 go_ret
 exact ⟨rfl, Z4.z0⟩


/-- THE ONE PURE STATEMENT of laws_FnExactSpaceOf: yours. -/
def laws_FnExactSpaceOf.Pure : Prop := ∀ (a0 : Int) (a1 : Int) (l2 : List (List Int)), (Lit.int .i64 a0).wf = true → (Lit.int .i64 a1).wf = true → l2.length ≤ maxLen → (∀ r ∈ l2, r.length ≤ maxLen ∧ ∀ x ∈ r, (Lit.int .i64 x).wf = true) → ∃ k, laws_FnExactSpaceOf.f k a0 a1 l2 = some true
theorem laws_FnExactSpaceOf.walk (P : laws_FnExactSpaceOf.Pure) (a0 : Int) (a1 : Int) (a2 : Option Addr) (cap2 : Nat) (l2 : List (List Int)) (w : World) (w0 : (Lit.int .i64 a0).wf = true) (w1 : (Lit.int .i64 a1).wf = true) (hr2 : Kd.C (Kd.slice 2 (Kd.int .i64)) w a2 l2.length l2) (hc2 : l2.length ≤ cap2) (hm2 : l2.length ≤ maxLen) (hw2 : ∀ r ∈ l2, r.length ≤ maxLen ∧ ∀ x ∈ r, (Lit.int .i64 x).wf = true) :
    Calls Try.prog 4 #[.int .i64 a0, .int .i64 a1, .slice a2 l2.length cap2] w fun e w' => e = .returned (.bool true) ∧ Below w.heap.size w w' := by
  obtain ⟨k, h⟩ := P a0 a1 l2 w0 w1 hm2 hw2
  refine (laws_FnExactSpaceOf.calls k a0 a1 _ _ l2 true w hr2 hc2 h).mono ?_
  rintro e w' ⟨rfl, hd⟩
  exact ⟨rfl, hd⟩
end Go.Proofs.Ytoibkfdmcajieaa.F
end

section
set_option linter.unusedVariables false
set_option linter.unusedSimpArgs false
set_option linter.unusedSectionVars false
namespace Go.Proofs.Ytoibkfdmcajieaa.Lin

def primes251 : List Nat := [2,3,5,7,11,13,17,19,23,29,31,37,41,43,47,53,59,61,67,71,73,79,83,89,97,101,103,107,109,113,127,131,137,139,149,151,157,163,167,173,179,181,191,193,197,199,211,223,227,229,233,239,241,251]
/-- A prime up to 251. -/
def isP (p : Int) : Bool := decide (2 ≤ p) && decide (p ≤ 251) && decide (p.toNat ∈ primes251)
theorem isP_ge {p : Int} (h : isP p = true) : 2 ≤ p ∧ p ≤ 251 := by unfold isP at h; simp at h; omega
/-- One row gets a multiple of another one. -/
def addRow (p : Int) (a b : List Int) (c : Int) : List Int := List.zipWith (fun x y => (x + c * y) % p) a b
theorem getD_set {α : Type} (l : List α) (k : Nat) (v d : α) (hk : k < l.length) (i : Nat) : (l.set k v).getD i d = if i = k then v else l.getD i d := by
  simp only [List.getD_eq_getElem?_getD, List.getElem?_set]
  by_cases h : k = i
  · subst h; simp [hk]
  · simp [h, Ne.symm h]
theorem addRow_getD {p : Int} {a b : List Int} {c : Int} {j : Nat} (ha : j < a.length) (hb : j < b.length) : (addRow p a b c).getD j 0 = (a.getD j 0 + c * b.getD j 0) % p := by
  unfold addRow
  simp [List.getD_eq_getElem?_getD, List.getElem?_zipWith, List.getElem?_eq_getElem ha, List.getElem?_eq_getElem hb]
end Go.Proofs.Ytoibkfdmcajieaa.Lin
end
