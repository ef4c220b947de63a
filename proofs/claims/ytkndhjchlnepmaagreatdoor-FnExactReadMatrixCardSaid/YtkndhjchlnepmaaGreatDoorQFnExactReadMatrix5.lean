-- Texts of this claim, merged by packw.py (a program of this session's).
import Derived.Test.YtkndhjchlnepmaaGreatDoorQFnExactReadMatrix2
import Derived.Test.YtkndhjchlnepmaaGreatDoorQFnExactReadMatrix3
import Derived.Test.YtkndhjchlnepmaaGreatDoorQFnExactReadMatrix4

section
namespace Go.Proofs.YtkndhjchlnepmaaGreatDoor.F
open Go.RowKit Go.Proofs.YtkndhjchlnepmaaGreatDoorW.PrintWords Go.Proofs.YtkndhjchlnepmaaGreatDoorW.PrintLast Go.Proofs.YtkndhjchlnepmaaGreatDoorW.PrintMore
attribute [local go_sem] max2_int min2_int max_two min_two max_three min_three max_four min_four   -- for this text's walks alone
set_option linter.unusedVariables false
set_option linter.unusedSimpArgs false
/-! ### spec_l03Read: function 24 -/
mutual
def spec_l03Read.j0 : Nat → List ByteArray → Int → Int → Int → Bool → Option (Int × Int × Int × List Int × Bool)
  | 0, _, _, _, _, _ => none
  | k + 1, x4, x5, x6, x7, x32 => if x32 = true then (some (0, 0, 0, ([] : List Int), false)) else (spec_l03Read.l0 k x4 x7 1 x5 x6 x7 (([] : List Int)))
def spec_l03Read.l0 : Nat → List ByteArray → Int → Int → Int → Int → Int → List Int → Option (Int × Int × Int × List Int × Bool)
  | 0, _, _, _, _, _, _, _ => none
  | k + 1, x4, x7, x10, x114000, x114001, x114002, x114003 => if x10 < (x4.length : Int) then (if 0 ≤ x10 then ((spec_ReadList.f k (rdOf ByteArray.empty x4 x10)).bind fun bt115 => (if bt115.2 = true then (if (bt115.1.length : Int) = x7 then (if x114003.length + bt115.1.length < 17592186044416 then (spec_l03Read.l0 k x4 x7 (wrap64 (x10 + 1)) x114000 x114001 x114002 (x114003 ++ bt115.1)) else (none)) else (some (0, 0, 0, ([] : List Int), false))) else (some (0, 0, 0, ([] : List Int), false)))) else (none)) else ((spec_l03Ok.f k x114000 x114001 x114002 x114003).bind fun t122 => (if t122 = true then (some (x114000, x114001, x114002, x114003, true)) else (some (0, 0, 0, ([] : List Int), false))))
end
def spec_l03Read.f (k : Nat) (a0 : ByteArray) : Option (Int × Int × Int × List Int × Bool) := (spec_l01Split.f k a0 47).bind fun t102 => (if 0 < (t102.length : Int) then ((spec_l03Head.f k (rdOf ByteArray.empty t102 0)).bind fun bt106 => (if bt106.2.2.2 = true then (spec_l03Read.j0 k t102 bt106.1 bt106.2.1 bt106.2.2.1 ((t102.length : Int) != (wrap64 (bt106.2.1 + 1)))) else (spec_l03Read.j0 k t102 bt106.1 bt106.2.1 bt106.2.2.1 true))) else (none))
theorem Z24.bb {w0 w w1 : World} {g : Nat} {o : Obj} (_B : Aside0 (w0.heap[g]? = some o)) (h : w.heap[g]? = some o) (hb : Below w.heap.size w w1) : w1.heap[g]? = some o := blk_below h hb
theorem Z24.bl {w0 w : World} {g : Nat} {o : Obj} (_B : Aside0 (w0.heap[g]? = some o)) (h : w.heap[g]? = some o) : g < w.heap.size := blk_lt h
theorem Z24.k {p : Prop} (h : p) : Aside0 p := ⟨h⟩
theorem Z24.z14 {P : Prop} (h : P := by (repeat (first | (with_reducible first | refine blk_drewN ?_ _ | refine blk_drew ?_ | refine blk_alloc ?_ _) | refine blk_far ?_ NB101_113.out _)); exact BK101.out) : P := h
theorem Z24.z13 {P : Prop} (h : P := by repeat (first | exact (Kd.R_reads' HO_114003.out).2.2 | (with_reducible refine Kd.C_alloc ?_ _) | (with_reducible refine Kd.C_drewN ?_ _) | (with_reducible refine Kd.C_drew ?_))) : P := h
theorem Z24.z12 {P : Prop} (h : P := by (with_reducible repeat (first | apply Kd.R_alloc | apply Kd.R_drewN | apply Kd.R_drew)); exact HO104.out) : P := h
theorem Z24.z11 {P : Prop} (h : P := by first | (with_reducible assumption) | assumption) : P := h
theorem Z24.z10 {P : Prop} (h : P := by repeat (first | (with_reducible first | exact HB.out | apply below_alloc | apply pw_below_drewN | apply below_drew1) | exact HB.out)) : P := h
theorem Z24.z9 {P : Prop} (h : P := by first | rfl | (simp [errW_none, errW_some] <;> rfl) | (simp [*, errW_none, errW_some] <;> rfl)) : P := h
theorem Z24.z8 {P : Prop} (h : P := by first | exact Kd.R_nil _ _ _ _ _ | exact Kd.N_nil _ _ _ _ _ | exact Kd.V_nil _ _ _ _ _ | exact Kd.Q_nil _ _ _ _ _ | exact Kd.S_nil _ _ _ _ _) : P := h
theorem Z24.z7 {P : Prop} (h : P := by (with_reducible repeat (first | apply Kd.R_alloc | apply Kd.R_drewN | apply Kd.R_drew)); exact HO_4.out) : P := h
theorem Z24.z6 {P : Prop} (h : P := by (with_reducible repeat (first | refine blk_drewN ?_ _ | refine blk_drew ?_ | refine blk_alloc ?_ _)); exact BK113.out) : P := h
theorem Z24.z5 {P : Prop} (h : P := by (try simp only [List.map_toArray, List.map_cons, List.map_nil]); first | done | rfl | (simp only [List.length_drop, List.length_take]; rfl)) : P := h
theorem Z24.z4 {P : Prop} (h : P := by (with_reducible repeat (first | apply Kd.R_alloc | apply Kd.R_drewN | apply Kd.R_drew)); exact HO_114003.out) : P := h
theorem Z24.z3 {P : Prop} (h : P := by (with_reducible repeat (first | refine blk_drewN ?_ _ | refine blk_drew ?_ | refine blk_alloc ?_ _)); exact BK101.out) : P := h
theorem Z24.z2 {P : Prop} (h : P := by repeat (first | (with_reducible first | exact HB.out | apply below_alloc | apply pw_below_drewN | apply below_drew1 | refine below_set ?_ GE101.out) | exact HB.out)) : P := h
theorem Z24.z1 {P : Prop} (h : P := by (with_reducible repeat (first | refine blk_drewN ?_ _ | refine blk_drew ?_ | refine blk_alloc ?_ _)); refine blk_put (cs := #[.int .i64 0, .int .i64 0, .int .i64 0, .slice none 0 0]) ?_ 3 _ rfl; (with_reducible repeat (first | refine blk_drewN ?_ _ | refine blk_drew ?_ | refine blk_alloc ?_ _)); refine blk_put (cs := #[.int .i64 0, .int .i64 0, .int .i64 x102002_2, .slice none 0 0]) ?_ 2 _ rfl; (with_reducible repeat (first | refine blk_drewN ?_ _ | refine blk_drew ?_ | refine blk_alloc ?_ _)); refine blk_put (cs := #[.int .i64 0, .int .i64 x102001_2, .int .i64 x102002_2, .slice none 0 0]) ?_ 1 _ rfl; (with_reducible repeat (first | refine blk_drewN ?_ _ | refine blk_drew ?_ | refine blk_alloc ?_ _)); refine blk_put (cs := #[.int .i64 x102000_2, .int .i64 x102001_2, .int .i64 x102002_2, .slice none 0 0]) ?_ 0 _ rfl; (with_reducible repeat (first | refine blk_drewN ?_ _ | refine blk_drew ?_ | refine blk_alloc ?_ _)); exact BK101.out) : P := h
theorem Z24.z0 {P : Prop} (h : P := by repeat (first | (with_reducible first | exact HB.out | apply below_alloc | apply pw_below_drewN | apply below_drew1 | refine below_set ?_ GE101.out | refine below_set ?_ GE113.out) | exact HB.out)) : P := h
set_option maxHeartbeats 8000000 in
set_option maxRecDepth 100000 in
theorem spec_l03Read.calls (k : Nat) (a0 : ByteArray) (r1 : Int) (r2 : Int) (r3 : Int) (r4 : List Int) (r5 : Bool) (w : World) (h : spec_l03Read.f k a0 = some (r1, r2, r3, r4, r5)) :
  Calls Tryz.prog 24 #[.string a0] w fun e w' => ∃ v3_ : Value, e = .returned (.tuple #[.agg #[.int .i64 r1, .int .i64 r2, .int .i64 r3, v3_], .bool r5]) ∧ Kd.R (Kd.int .i64) 2 w' w.heap.size (fun _ => True) v3_ r4 ∧ Below w.heap.size w w' := by
 have hu24 := Tryz.underlying24
 have HB := Z24.k (Below.refl w.heap.size w)
 have H : ((spec_l01Split.f k a0 47).bind fun t102 => (if 0 < (t102.length : Int) then ((spec_l03Head.f k (rdOf ByteArray.empty t102 0)).bind fun bt106 => (if bt106.2.2.2 = true then (spec_l03Read.j0 k t102 bt106.1 bt106.2.1 bt106.2.2.1 ((t102.length : Int) != (wrap64 (bt106.2.1 + 1)))) else (spec_l03Read.j0 k t102 bt106.1 bt106.2.1 bt106.2.2.1 true))) else (none))) = some (r1, r2, r3, r4, r5) := h
 clear h
 replace H := Option.bind_eq_some_iff.mp H
 obtain ⟨t102, A20, H⟩ := H
 replace H : (if 0 < (t102.length : Int) then ((spec_l03Head.f k (rdOf ByteArray.empty t102 0)).bind fun bt106 => (if bt106.2.2.2 = true then (spec_l03Read.j0 k t102 bt106.1 bt106.2.1 bt106.2.2.1 ((t102.length : Int) != (wrap64 (bt106.2.1 + 1)))) else (spec_l03Read.j0 k t102 bt106.1 bt106.2.1 bt106.2.2.1 true))) else (none)) = some (r1, r2, r3, r4, r5) := H
 have A2 := Z24.k A20
 clear A20
 by_cases c3 : 0 < (t102.length : Int)
 ·rw [if_pos c3] at H
  have c3b0 : decide (0 < (t102.length : Int)) = true := decide_eq_true c3
  have c3b1 : decide (0 < t102.length) = true := decide_eq_true (by omega)
  clear c3
  replace H := Option.bind_eq_some_iff.mp H
  obtain ⟨⟨t106, t107, t108, t109⟩, A40, H⟩ := H
  replace H : (if t109 = true then (spec_l03Read.j0 k t102 t106 t107 t108 ((t102.length : Int) != (wrap64 (t107 + 1)))) else (spec_l03Read.j0 k t102 t106 t107 t108 true)) = some (r1, r2, r3, r4, r5) := H
  have A4 := Z24.k A40
  clear A40
  have HC5 := Z24.k H
  clear H
  go_enter Tryz.func24, Tryz.ntmps24
  go_upto_region 3 with (first | ((with_reducible refine gate_dst (N := 2) rfl ?_); (try (refine gate_guard (by rfl) ?_; dsimp only)); refine box_event ?hg (N := 2) ?hd (cs := #[.int .i64 0, .int .i64 0, .int .i64 0, .slice none 0 0]) (t := 24) ?hr ?_; (case hd => rfl); (case hg => rfl); (case hr => first | (go_simp; done) | (go_simp; rfl)); intro gb101 hg w6 hbox hb; have n0_ := Z24.k (below_step Z24.z10 hb); have n1_ := Z24.k (hbox); have n2_ := Z24.k (show w.heap.size ≤ gb101 from (by rw [hg]; exact (below_size Z24.z10))); have n3_ := Z24.k (show w.heap.size ≤ gb101 from (by rw [hg]; exact (below_size Z24.z10))); clear HB; have HB := n0_; have BK101 := n1_; have GW101 := n2_; have GE101 := n3_; clear n0_ n1_ n2_ n3_; clear hb hbox hg) | ((with_reducible refine gate_callee (f := 51) rfl ?_); refine goesL_ (some 14) rfl rfl Tryz.func51 (by kernel_rfl) rfl #[.string a0, .int .u8 47] rfl Z24.z5 ?_; (with_reducible refine (spec_l01Split.calls k a0 47 t102 _ A2.out).mono ?_); rintro e w7 ⟨v103, rfl, ho0, hb⟩; refine ⟨_, rfl, ?_⟩; have n0_ := Z24.k (Kd.R_lower ho0 (below_size Z24.z2)); have n1_ := Z24.k (Z24.bb BK101 Z24.z3 hb); have n2_ := Z24.k (below_step Z24.z2 hb); clear BK101 HB; have HO104 := n0_; have BK101 := n1_; have HB := n2_; clear n0_ n1_ n2_; (try clear hb); (try clear hb2); (try clear hk); (try clear hi); (try clear ho0); obtain ⟨Ao8, co8, eo8⟩ := Kd.R_slice HO104.out; subst eo8; have p105 : 0 ≤ (0 : Int) := (by omega); have q105 : 0 < (t102.length : Int) := of_decide_eq_true Z24.z11; obtain ⟨ad105, e105, hx105_0⟩ := Kd.at_string (Kd.R_reads' HO104.out).2.2 0 p105 q105; cases e105; have qi105 : (0 < t102.length) = True := eq_true (by omega); (try rw [show ((0 : Int)).toNat = 0 from rfl] at hx105_0); (try rw [Addr.add_zero'] at hx105_0); replace p105 := eq_true p105; replace q105 := eq_true q105) | ((with_reducible refine gate_callee (f := 52) rfl ?_); refine goesL_ (some 19) rfl rfl Tryz.func52 (by kernel_rfl) rfl #[.string (rdOf ByteArray.empty t102 0)] rfl Z24.z5 ?_; (with_reducible refine (spec_l03Head.calls k (rdOf ByteArray.empty t102 0) t106 t107 t108 t109 _ A4.out).mono ?_); rintro e w9 ⟨rfl, hb⟩; refine ⟨_, rfl, ?_⟩; have n0_ := Z24.k (Kd.R_below Z24.z12 hb); have n1_ := Z24.k (Z24.bb BK101 Z24.z3 hb); have n2_ := Z24.k (below_step Z24.z2 hb); clear HO104 BK101 HB; have HO104 := n0_; have BK101 := n1_; have HB := n2_; clear n0_ n1_ n2_; (try clear hb); (try clear hb2); (try clear hk); (try clear hi)))
  (try simp only [Act.put, List.setIfInBounds_toArray, List.set_cons_zero, List.set_cons_succ])
  go_cut [32] (fun v32 wc => ∃ (kq : Nat) (x32_4 : Bool), v32 = .bool x32_4 ∧ Aside0 (spec_l03Read.j0 kq t102 t106 t107 t108 x32_4 = some (r1, r2, r3, r4, r5)) ∧ Aside0 (kq ≤ k) ∧ Aside0 (Kd.R Kd.string 9 wc w.heap.size (fun _ => True) (.slice (some ad105) t102.length co8) t102) ∧ Aside0 (wc.heap[gb101]? = some (.cells #[.int .i64 0, .int .i64 0, .int .i64 0, (.slice none 0 0)] 24 (0, 0))) ∧ Aside0 (Below w.heap.size w wc))
  case first =>
   have H := HC5.out
   clear HC5
   by_cases c10 : t109 = true
   ·subst c10
    have H1 : (spec_l03Read.j0 k t102 t106 t107 t108 ((t102.length : Int) != (wrap64 (t107 + 1)))) = some (r1, r2, r3, r4, r5) := by rw [if_pos rfl] at H; exact H
    clear H
    have H := H1
    clear H1
    have H' := Z24.k H
    clear H
    go_wp2
    go_meet
    case rel => exact ⟨_, (((t102.length : Int) != (wrap64 (t107 + 1)))), (by first | rfl | (simp; done) | (simp [*]; done)), H', ⟨(by first | omega | exact Nat.le_refl _)⟩, ⟨Z24.z12⟩, ⟨Z24.z3⟩, ⟨Z24.z2⟩⟩
   replace c10 := Bool.eq_false_iff.mpr c10
   subst c10
   have H1 : (spec_l03Read.j0 k t102 t106 t107 t108 true) = some (r1, r2, r3, r4, r5) := by rw [if_neg (show ¬ (false = true) by decide)] at H; exact H
   clear H
   have H := H1
   clear H1
   have H' := Z24.k H
   clear H
   go_wp2
   go_meet
   case rel => exact ⟨_, (true), (by first | rfl | (simp; done) | (simp [*]; done)), H', ⟨(by first | omega | exact Nat.le_refl _)⟩, ⟨Z24.z12⟩, ⟨Z24.z3⟩, ⟨Z24.z2⟩⟩
  case rest =>
   clear HC5
   try clear c1
   try clear p1
   try clear q1
   try clear hx1
   try clear qi1
   try clear c2
   try clear p2
   try clear c3
   try clear c3b0
   try clear c3b1
   try clear c5
   try clear p6
   try clear c10
   try clear p10
   try clear q10
   try clear hx10
   try clear qi10
   try clear hx105_0
   try clear p105
   try clear q105
   obtain ⟨kq, x32_4, rfl, HA, HJ4, HO_4, BK101, HB⟩ := hcut
   cases kq with
   | zero => exact absurd HA.out (by simp [spec_l03Read.j0])
   | succ kj4 =>
    have H := HA.out
    clear HA
    simp only [spec_l03Read.j0] at H
    by_cases c11 : x32_4 = true
    ·subst c11
     have H1 : (some (0, 0, 0, ([] : List Int), false)) = some (r1, r2, r3, r4, r5) := by rw [if_pos rfl] at H; exact H
     clear H
     have H := H1
     clear H1
     simp only [Option.some.injEq, Prod.mk.injEq] at H
     obtain ⟨rfl, rfl, rfl, rfl, rfl⟩ := H
     have hcz12_0 : wc.cell? ⟨gb101, 0, none⟩ = some (.int .i64 0) := (blk_cell BK101.out 0).trans rfl
     have hcz12_1 : wc.cell? ⟨gb101, 1, none⟩ = some (.int .i64 0) := (blk_cell BK101.out 1).trans rfl
     have hcz12_2 : wc.cell? ⟨gb101, 2, none⟩ = some (.int .i64 0) := (blk_cell BK101.out 2).trans rfl
     have hcz12_3 : wc.cell? ⟨gb101, 3, none⟩ = some (.slice none 0 0) := (blk_cell BK101.out 3).trans rfl
     have hfz12_0 := blk_frozen BK101.out 0
     have hfz12_1 := blk_frozen BK101.out 1
     have hfz12_2 := blk_frozen BK101.out 2
     have hfz12_3 := blk_frozen BK101.out 3
     go_wp2
     refine bodyPost_ret (results_ct rfl _ _ gb101 24 #[.int .i64 0, .int .i64 0, .int .i64 0, .slice none 0 0] (0, 0) _ rfl (by (with_reducible repeat (first | refine blk_drewN ?_ _ | refine blk_drew ?_ | refine blk_alloc ?_ _)); refine blk_put (cs := #[.int .i64 0, .int .i64 0, .int .i64 0, .slice none 0 0]) ?_ 3 _ rfl; (with_reducible repeat (first | refine blk_drewN ?_ _ | refine blk_drew ?_ | refine blk_alloc ?_ _)); refine blk_put (cs := #[.int .i64 0, .int .i64 0, .int .i64 0, .slice none 0 0]) ?_ 2 _ rfl; (with_reducible repeat (first | refine blk_drewN ?_ _ | refine blk_drew ?_ | refine blk_alloc ?_ _)); refine blk_put (cs := #[.int .i64 0, .int .i64 0, .int .i64 0, .slice none 0 0]) ?_ 1 _ rfl; (with_reducible repeat (first | refine blk_drewN ?_ _ | refine blk_drew ?_ | refine blk_alloc ?_ _)); refine blk_put (cs := #[.int .i64 0, .int .i64 0, .int .i64 0, .slice none 0 0]) ?_ 0 _ rfl; (with_reducible repeat (first | refine blk_drewN ?_ _ | refine blk_drew ?_ | refine blk_alloc ?_ _)); exact BK101.out) Tryz.underlying24 rfl (by kernel_rfl)) rfl ?_
     exact ⟨_, Z24.z9, Z24.z8, Z24.z2⟩
    replace c11 := Bool.eq_false_iff.mpr c11
    subst c11
    have H1 : (spec_l03Read.l0 kj4 t102 t108 1 t106 t107 t108 (([] : List Int))) = some (r1, r2, r3, r4, r5) := by rw [if_neg (show ¬ (false = true) by decide)] at H; exact H
    clear H
    have H := H1
    clear H1
    obtain ⟨y110, hy110⟩ : ∃ y_ : List Int, y_ = (([] : List Int)) := ⟨_, rfl⟩
    replace H : (spec_l03Read.l0 kj4 t102 t108 1 t106 t107 t108 y110) = some (r1, r2, r3, r4, r5) := by first | (rw [hy110]; with_reducible exact H) | (have H2_ := (Option.bind_some _ _).symm.trans H; rw [hy110]; with_reducible exact H2_) | (have H2_ := (Option.bind_some _ _).symm.trans H; with_reducible exact H2_) | with_reducible exact H | (rw [hy110]; exact H) | exact H
    have Ny110 := Z24.k hy110
    clear hy110
    have H' := Z24.k H
    clear H
    go_wp2_with (first | ((with_reducible refine gate_dst (N := 37) rfl ?_); (try (refine gate_guard (by rfl) ?_; dsimp only)); refine Kd.R_lit (Kd.int .i64) _ 2 ?hg (N := 37) ?hd (xs := ([] : List Int)) (inner := []) (ok := fun _ => True) (okp := fun _ => True) ?hr ?hp (fun _ hk => hk) trivial (Below.refl _ _) (Nat.le_refl _) (by simp) ?_; (case hd => rfl); (case hg => rfl); (case hr => first | (go_simp; done) | (go_simp; rfl)); (case hp => exact (Reps.none _ _)); intro v111 w13 ho14 hb hg_ hnew_; clear hg_ hnew_; (first | rw [← Ny110.out] at ho14 | (simp only [Int.reduceToNat] at ho14; rw [← Ny110.out] at ho14)); have n0_ := Z24.k (Kd.R_below Z24.z7 hb); have n1_ := Z24.k (Kd.R_lower ho14 (below_size Z24.z2)); have n2_ := Z24.k (Z24.bb BK101 Z24.z3 hb); have n3_ := Z24.k (below_step Z24.z2 hb); clear HO_4 BK101 HB; have HO_4 := n0_; have HO112 := n1_; have BK101 := n2_; have HB := n3_; clear n0_ n1_ n2_ n3_; clear hb ho14; obtain ⟨Ao15, co15, eo15⟩ := Kd.R_slice HO112.out; subst eo15) | ((with_reducible refine gate_dst (N := 9) rfl ?_); (try (refine gate_guard (by rfl) ?_; dsimp only)); refine box_event ?hg (N := 9) ?hd (cs := #[.int .i64 0, .int .i64 0, .int .i64 0, .slice none 0 0]) (t := 24) ?hr ?_; (case hd => rfl); (case hg => rfl); (case hr => first | (go_simp; done) | (go_simp; rfl)); intro gb113 hg w16 hbox hb; have n0_ := Z24.k (Kd.R_below Z24.z7 hb); have n1_ := Z24.k (Kd.R_below (by (with_reducible repeat (first | apply Kd.R_alloc | apply Kd.R_drewN | apply Kd.R_drew)); exact HO112.out) hb); have n2_ := Z24.k (Z24.bb BK101 Z24.z3 hb); have n3_ := Z24.k (below_step Z24.z2 hb); have n4_ := Z24.k (hbox); have n5_ := Z24.k (show w.heap.size ≤ gb113 from (by rw [hg]; exact (below_size Z24.z2))); have n6_ := Z24.k (show w.heap.size ≤ gb113 from (by rw [hg]; exact (below_size Z24.z2))); have n7_ := Z24.k (show gb101 ≠ gb113 from (by rw [hg]; exact Nat.ne_of_lt (Z24.bl BK101 Z24.z3))); have n8_ := Z24.k (show gb113 ≠ gb101 from (by rw [hg]; exact Nat.ne_of_gt (Z24.bl BK101 Z24.z3))); clear HO_4 HO112 BK101 HB; have HO_4 := n0_; have HO112 := n1_; have BK101 := n2_; have HB := n3_; have BK113 := n4_; have GW113 := n5_; have GE113 := n6_; have NB101_113 := n7_; have NB113_101 := n8_; clear n0_ n1_ n2_ n3_ n4_ n5_ n6_ n7_ n8_; clear hb hbox hg; have hnb17 := NB113_101.out; have hnc17 := NB101_113.out; have hcz18_0 : w16.cell? ⟨gb113, 0, none⟩ = some (.int .i64 0) := (blk_cell BK113.out 0).trans rfl; have hcz18_1 : w16.cell? ⟨gb113, 1, none⟩ = some (.int .i64 0) := (blk_cell BK113.out 1).trans rfl; have hcz18_2 : w16.cell? ⟨gb113, 2, none⟩ = some (.int .i64 0) := (blk_cell BK113.out 2).trans rfl; have hcz18_3 : w16.cell? ⟨gb113, 3, none⟩ = some (.slice none 0 0) := (blk_cell BK113.out 3).trans rfl; have hfz18_0 := blk_frozen BK113.out 0; have hfz18_1 := blk_frozen BK113.out 1; have hfz18_2 := blk_frozen BK113.out 2; have hfz18_3 := blk_frozen BK113.out 3))
    go_loopg [10] kj4 (fun kq v10 w' => ∃ (x10_2 : Int) (x102000_2 : Int) (x102001_2 : Int) (x102002_2 : Int) (x114003_2 : List Int) (u114003 : Value), v10 = .int .i64 x10_2 ∧ Aside0 (spec_l03Read.l0 kq t102 t108 x10_2 t106 t107 t108 x114003_2 = some (r1, r2, r3, r4, r5)) ∧ Aside0 (kq ≤ kj4) ∧ Aside0 (Kd.R Kd.string 9 w' w.heap.size (fun _ => True) (.slice (some ad105) t102.length co8) t102) ∧ Aside0 (Kd.R (Kd.int .i64) 2 w' w.heap.size (fun _ => True) u114003 x114003_2) ∧ Aside0 (w'.heap[gb101]? = some (.cells #[.int .i64 x102000_2, .int .i64 x102001_2, .int .i64 x102002_2, (.slice none 0 0)] 24 (0, 0))) ∧ Aside0 (w'.heap[gb113]? = some (.cells #[.int .i64 t106, .int .i64 t107, .int .i64 t108, u114003] 24 (0, 0))) ∧ Aside0 (Below w.heap.size w w'))
    case atStart => exact ⟨(1), (0), (0), (0), (y110), (.slice Ao15 y110.length co15), (by first | rfl | (simp; done) | (simp [*]; done)), H', ⟨Nat.le_refl _⟩, ⟨(by (with_reducible repeat (first | apply Kd.R_alloc | apply Kd.R_drewN | apply Kd.R_drew)); exact Kd.R_mono (Kd.R_far (p := ⟨gb113, 3, none⟩) (Kd.R_far (p := ⟨gb113, 2, none⟩) (Kd.R_far (p := ⟨gb113, 1, none⟩) (Kd.R_far (p := ⟨gb113, 0, none⟩) (Kd.R_types HO_4.out BK113.out (by decide)) (fun _ hk => hk.2) (.int .i64 t106)) (fun _ hk => hk.2) (.int .i64 t107)) (fun _ hk => hk.2) (.int .i64 t108)) (fun _ hk => hk.2) (.slice Ao15 y110.length co15)) (fun _ hk => trivial))⟩, ⟨(by (with_reducible repeat (first | apply Kd.R_alloc | apply Kd.R_drewN | apply Kd.R_drew)); exact Kd.R_mono (Kd.R_far (p := ⟨gb113, 3, none⟩) (Kd.R_far (p := ⟨gb113, 2, none⟩) (Kd.R_far (p := ⟨gb113, 1, none⟩) (Kd.R_far (p := ⟨gb113, 0, none⟩) (Kd.R_types HO112.out BK113.out (by decide)) (fun _ hk => hk.2) (.int .i64 t106)) (fun _ hk => hk.2) (.int .i64 t107)) (fun _ hk => hk.2) (.int .i64 t108)) (fun _ hk => hk.2) (.slice Ao15 y110.length co15)) (fun _ hk => trivial))⟩, ⟨Z24.z14⟩, ⟨(by (with_reducible repeat (first | refine blk_drewN ?_ _ | refine blk_drew ?_ | refine blk_alloc ?_ _)); refine blk_put (cs := #[.int .i64 t106, .int .i64 t107, .int .i64 t108, .slice none 0 0]) ?_ 3 _ rfl; (with_reducible repeat (first | refine blk_drewN ?_ _ | refine blk_drew ?_ | refine blk_alloc ?_ _)); refine blk_put (cs := #[.int .i64 t106, .int .i64 t107, .int .i64 0, .slice none 0 0]) ?_ 2 _ rfl; (with_reducible repeat (first | refine blk_drewN ?_ _ | refine blk_drew ?_ | refine blk_alloc ?_ _)); refine blk_put (cs := #[.int .i64 t106, .int .i64 0, .int .i64 0, .slice none 0 0]) ?_ 1 _ rfl; (with_reducible repeat (first | refine blk_drewN ?_ _ | refine blk_drew ?_ | refine blk_alloc ?_ _)); refine blk_put (cs := #[.int .i64 0, .int .i64 0, .int .i64 0, .slice none 0 0]) ?_ 0 _ rfl; (with_reducible repeat (first | refine blk_drewN ?_ _ | refine blk_drew ?_ | refine blk_alloc ?_ _)); exact BK113.out)⟩, ⟨Z24.z0⟩⟩
    case round =>
     clear H'
     try clear c1
     try clear p1
     try clear q1
     try clear hx1
     try clear qi1
     try clear c2
     try clear p2
     try clear c3
     try clear c3b0
     try clear c3b1
     try clear c5
     try clear p6
     try clear c10
     try clear p10
     try clear q10
     try clear hx10
     try clear qi10
     try clear c11
     try clear c17
     try clear hcz12_0
     try clear hcz12_1
     try clear hcz12_2
     try clear hcz12_3
     try clear hcz18_0
     try clear hcz18_1
     try clear hcz18_2
     try clear hcz18_3
     try clear hfz12_0
     try clear hfz12_1
     try clear hfz12_2
     try clear hfz12_3
     try clear hfz18_0
     try clear hfz18_1
     try clear hfz18_2
     try clear hfz18_3
     try clear hx105_0
     try clear p1
     try clear p10
     try clear p105
     try clear p2
     try clear p6
     try clear q1
     try clear q10
     try clear q105
     obtain ⟨x10_2, x102000_2, x102001_2, x102002_2, x114003_2, u114003, rfl, HA, HK2, HO_4, HO_114003, BK101, BK113, HB⟩ := hrel
     cases gk with
     | zero => exact absurd HA.out (by simp [spec_l03Read.l0])
     | succ k2 =>
      have H := HA.out
      clear HA
      simp only [spec_l03Read.l0] at H
      by_cases c19 : x10_2 < (t102.length : Int)
      ·rw [if_pos c19] at H
       have c19b0 : decide (x10_2 < (t102.length : Int)) = true := decide_eq_true c19
       clear c19
       by_cases c20 : 0 ≤ x10_2
       ·rw [if_pos c20] at H
        have c20b0 : decide (0 ≤ x10_2) = true := decide_eq_true c20
        clear c20
        replace H := Option.bind_eq_some_iff.mp H
        obtain ⟨⟨t115, t116⟩, A210, H⟩ := H
        replace H : (if t116 = true then (if (t115.length : Int) = t108 then (if x114003_2.length + t115.length < 17592186044416 then (spec_l03Read.l0 k2 t102 t108 (wrap64 (x10_2 + 1)) t106 t107 t108 (x114003_2 ++ t115)) else (none)) else (some (0, 0, 0, ([] : List Int), false))) else (some (0, 0, 0, ([] : List Int), false))) = some (r1, r2, r3, r4, r5) := H
        have A21 := Z24.k A210
        clear A210
        by_cases c22 : t116 = true
        ·subst c22
         have H1 : (if (t115.length : Int) = t108 then (if x114003_2.length + t115.length < 17592186044416 then (spec_l03Read.l0 k2 t102 t108 (wrap64 (x10_2 + 1)) t106 t107 t108 (x114003_2 ++ t115)) else (none)) else (some (0, 0, 0, ([] : List Int), false))) = some (r1, r2, r3, r4, r5) := by rw [if_pos rfl] at H; exact H
         clear H
         have H := H1
         clear H1
         by_cases c23 : (t115.length : Int) = t108
         ·rw [if_pos c23] at H
          have c23b0 : ((t115.length : Int) == t108) = true := beq_iff_eq.mpr c23
          have c23b1 : ((t115.length : Int) != t108) = false := bne_eq_false_iff_eq.mpr c23
          clear c23
          by_cases c24 : x114003_2.length + t115.length < 17592186044416
          ·rw [if_pos c24] at H
           have LMc24 := Z24.k c24
           clear c24
           obtain ⟨y119, hy119⟩ : ∃ y_ : List Int, y_ = (x114003_2 ++ t115) := ⟨_, rfl⟩
           replace H : (spec_l03Read.l0 k2 t102 t108 (wrap64 (x10_2 + 1)) t106 t107 t108 y119) = some (r1, r2, r3, r4, r5) := by first | (rw [hy119]; with_reducible exact H) | (have H2_ := (Option.bind_some _ _).symm.trans H; rw [hy119]; with_reducible exact H2_) | (have H2_ := (Option.bind_some _ _).symm.trans H; with_reducible exact H2_) | with_reducible exact H | (rw [hy119]; exact H) | exact H
           have Ny119 := Z24.k hy119
           clear hy119
           have H' := Z24.k H
           clear H
           have p114 : 0 ≤ (x10_2 : Int) := of_decide_eq_true Z24.z11
           have q114 : x10_2 < (t102.length : Int) := of_decide_eq_true Z24.z11
           obtain ⟨ad114, e114, hx114_0⟩ := Kd.at_string (Kd.R_reads' HO_4.out).2.2 x10_2 p114 q114
           obtain rfl : ad105 = ad114 := (by injection e114)
           replace p114 := eq_true p114
           replace q114 := eq_true q114
           go_wp2_with (first | ((with_reducible refine gate_callee (f := 53) rfl ?_); refine goesL_ (some 50) rfl rfl Tryz.func53 (by kernel_rfl) rfl #[.string (rdOf ByteArray.empty t102 x10_2)] rfl Z24.z5 ?_; (with_reducible refine (spec_ReadList.calls k2 (rdOf ByteArray.empty t102 x10_2) t115 true _ A21.out).mono ?_); rintro e w25 ⟨v117, rfl, ho0, hb⟩; refine ⟨_, rfl, ?_⟩; have n0_ := Z24.k (Kd.R_below Z24.z7 hb); have n1_ := Z24.k (Kd.R_elder' Z24.z4 (Kd.R_base ho0) hb); have n2_ := Z24.k (Kd.R_lower (Kd.R_new' ho0 (Kd.R_lt Z24.z4)) (below_size Z24.z0)); have n3_ := Z24.k (Z24.bb BK101 Z24.z3 hb); have n4_ := Z24.k (Z24.bb BK113 Z24.z6 hb); have n5_ := Z24.k (below_step Z24.z0 hb); clear HO_4 HO_114003 BK101 BK113 HB; have HO_4 := n0_; have HO_114003 := n1_; have HO118 := n2_; have BK101 := n3_; have BK113 := n4_; have HB := n5_; clear n0_ n1_ n2_ n3_ n4_ n5_; (try clear hb); (try clear hb2); (try clear hk); (try clear hi); (try clear ho0); obtain ⟨Ao26, co26, eo26⟩ := Kd.R_slice HO118.out; subst eo26; have hnb27 := NB113_101.out; have hnc27 := NB101_113.out; have hcz28_0 : w25.cell? ⟨gb113, 0, none⟩ = some (.int .i64 t106) := (blk_cell BK113.out 0).trans rfl; have hcz28_1 : w25.cell? ⟨gb113, 1, none⟩ = some (.int .i64 t107) := (blk_cell BK113.out 1).trans rfl; have hcz28_2 : w25.cell? ⟨gb113, 2, none⟩ = some (.int .i64 t108) := (blk_cell BK113.out 2).trans rfl; have hcz28_3 : w25.cell? ⟨gb113, 3, none⟩ = some (u114003) := (blk_cell BK113.out 3).trans rfl; have hfz28_0 := blk_frozen BK113.out 0; have hfz28_1 := blk_frozen BK113.out 1; have hfz28_2 := blk_frozen BK113.out 2; have hfz28_3 := blk_frozen BK113.out 3) | ((with_reducible refine gate_builtin (b := .append) (xs := #[.tmp 63, .tmp 64]) rfl ?_); (try (refine gate_guard (by rfl) ?_; dsimp only)); at_builtin; refine Kd.R_append_rows (Kd.int .i64) (w0 := w) w.heap.size rfl (.tmp 63) (.tmp 64) 22 2 (.int .i64 0) 8 rfl Tryz.underlying22 info2 rfl (by decide) (by omega) u114003 x114003_2 t115 _ _ _ (fun k_ => some k_ ≠ (.slice Ao26 t115.length co26 : Value).ownBlock) (fun _ => False) rfl rfl ?aO ?aR (fun _ _ h => h) (fun _ h => h.elim) ?aF ?aB ?aS ?aL ?_; (case aR => repeat (first | exact (Kd.R_reads' HO118.out).2.2 | (with_reducible refine Kd.C_alloc ?_ _) | (with_reducible refine Kd.C_drewN ?_ _) | (with_reducible refine Kd.C_drew ?_))); (case aB => exact Z24.z0); (case aF => exact (fun k_ hk => Kd.fresh' (Kd.R_lt (by (with_reducible repeat (first | apply Kd.R_alloc | apply Kd.R_drewN | apply Kd.R_drew)); exact HO118.out)) k_ hk)); (case aO => exact (by (with_reducible repeat (first | apply Kd.R_alloc | apply Kd.R_drewN | apply Kd.R_drew)); exact Kd.R_mono HO_114003.out (fun _ hk => hk.2))); (case aS => exact (below_size Z24.z0)); (case aL => have := LMc24.out; omega); intro v120 w29 ho hb hg hat; rw [← Ny119.out] at ho; have n0_ := Z24.k (Kd.R_over' Z24.z7 (Kd.R_typed Z24.z4) (by decide) hg); have n1_ := Z24.k (blk_grown (g := gb101) (o := .cells #[.int .i64 x102000_2, .int .i64 x102001_2, .int .i64 x102002_2, .slice none 0 0] 24 (0, 0)) Z24.z3 hg (Kd.R_ne HO_114003.out BK101.out (by decide))); have n2_ := Z24.k (blk_grown (g := gb113) (o := .cells #[.int .i64 t106, .int .i64 t107, .int .i64 t108, u114003] 24 (0, 0)) Z24.z6 hg (Kd.R_ne HO_114003.out BK113.out (by decide))); have n3_ := Z24.k (Kd.R_after (ok := (fun _ => True)) (by (with_reducible repeat (first | apply Kd.R_alloc | apply Kd.R_drewN | apply Kd.R_drew)); exact HO118.out) hg hat); have n4_ := Z24.k (hb); have n5_ := Z24.k (ho); clear HO_4 BK101 BK113 HO118 HB HO_114003; have HO_4 := n0_; have BK101 := n1_; have BK113 := n2_; have HO118 := n3_; have HB := n4_; have HO121 := n5_; clear n0_ n1_ n2_ n3_ n4_ n5_; clear ho hb hg hat; obtain ⟨Ao30, co30, eo30⟩ := Kd.R_slice HO121.out; subst eo30; have hcz31_0 : w29.cell? ⟨gb113, 0, none⟩ = some (.int .i64 t106) := (blk_cell BK113.out 0).trans rfl; have hcz31_1 : w29.cell? ⟨gb113, 1, none⟩ = some (.int .i64 t107) := (blk_cell BK113.out 1).trans rfl; have hcz31_2 : w29.cell? ⟨gb113, 2, none⟩ = some (.int .i64 t108) := (blk_cell BK113.out 2).trans rfl; have hcz31_3 : w29.cell? ⟨gb113, 3, none⟩ = some (u114003) := (blk_cell BK113.out 3).trans rfl; have hfz31_0 := blk_frozen BK113.out 0; have hfz31_1 := blk_frozen BK113.out 1; have hfz31_2 := blk_frozen BK113.out 2; have hfz31_3 := blk_frozen BK113.out 3))
           go_roundg k2
           case measure => have := HJ4.out; have := HK2.out; omega
           case rel => exact ⟨(wrap64 (x10_2 + 1)), (x102000_2), (x102001_2), (x102002_2), (y119), (.slice Ao30 y119.length co30), (by first | rfl | (simp; done) | (simp [*]; done)), H', ⟨(by have := HJ4.out; have := HK2.out; omega)⟩, ⟨(by (with_reducible repeat (first | apply Kd.R_alloc | apply Kd.R_drewN | apply Kd.R_drew)); exact Kd.R_mono (Kd.R_far (p := ⟨gb113, 3, none⟩) (Kd.R_types HO_4.out BK113.out (by decide)) (fun _ hk => hk.2) (.slice Ao30 y119.length co30)) (fun _ hk => trivial))⟩, ⟨(by (with_reducible repeat (first | apply Kd.R_alloc | apply Kd.R_drewN | apply Kd.R_drew)); exact Kd.R_mono (Kd.R_far (p := ⟨gb113, 3, none⟩) (Kd.R_types HO121.out BK113.out (by decide)) (fun _ hk => hk.2) (.slice Ao30 y119.length co30)) (fun _ hk => trivial))⟩, ⟨Z24.z14⟩, ⟨(by (with_reducible repeat (first | refine blk_drewN ?_ _ | refine blk_drew ?_ | refine blk_alloc ?_ _)); refine blk_put (cs := #[.int .i64 t106, .int .i64 t107, .int .i64 t108, u114003]) ?_ 3 _ rfl; (with_reducible repeat (first | refine blk_drewN ?_ _ | refine blk_drew ?_ | refine blk_alloc ?_ _)); exact BK113.out)⟩, ⟨Z24.z0⟩⟩
          rw [if_neg c24] at H
          exact absurd H (by simp)
         rw [if_neg c23] at H
         have c23b0 : ((t115.length : Int) == t108) = false := beq_eq_false_iff_ne.mpr c23
         have c23b1 : ((t115.length : Int) != t108) = true := bne_iff_ne.mpr c23
         simp only [Option.some.injEq, Prod.mk.injEq] at H
         obtain ⟨rfl, rfl, rfl, rfl, rfl⟩ := H
         have p114 : 0 ≤ (x10_2 : Int) := of_decide_eq_true Z24.z11
         have q114 : x10_2 < (t102.length : Int) := of_decide_eq_true Z24.z11
         obtain ⟨ad114, e114, hx114_0⟩ := Kd.at_string (Kd.R_reads' HO_4.out).2.2 x10_2 p114 q114
         obtain rfl : ad105 = ad114 := (by injection e114)
         replace p114 := eq_true p114
         replace q114 := eq_true q114
         go_wp2_with (first | ((with_reducible refine gate_callee (f := 53) rfl ?_); refine goesL_ (some 50) rfl rfl Tryz.func53 (by kernel_rfl) rfl #[.string (rdOf ByteArray.empty t102 x10_2)] rfl Z24.z5 ?_; (with_reducible refine (spec_ReadList.calls k2 (rdOf ByteArray.empty t102 x10_2) t115 true _ A21.out).mono ?_); rintro e w32 ⟨v117, rfl, ho0, hb⟩; refine ⟨_, rfl, ?_⟩; have n0_ := Z24.k (Kd.R_below Z24.z7 hb); have n1_ := Z24.k (Kd.R_elder' Z24.z4 (Kd.R_base ho0) hb); have n2_ := Z24.k (Kd.R_lower (Kd.R_new' ho0 (Kd.R_lt Z24.z4)) (below_size Z24.z0)); have n3_ := Z24.k (Z24.bb BK101 Z24.z3 hb); have n4_ := Z24.k (Z24.bb BK113 Z24.z6 hb); have n5_ := Z24.k (below_step Z24.z0 hb); clear HO_4 HO_114003 BK101 BK113 HB; have HO_4 := n0_; have HO_114003 := n1_; have HO118 := n2_; have BK101 := n3_; have BK113 := n4_; have HB := n5_; clear n0_ n1_ n2_ n3_ n4_ n5_; (try clear hb); (try clear hb2); (try clear hk); (try clear hi); (try clear ho0); obtain ⟨Ao33, co33, eo33⟩ := Kd.R_slice HO118.out; subst eo33; have hnb34 := NB101_113.out; have hnc34 := NB113_101.out; have hcz35_0 : w32.cell? ⟨gb101, 0, none⟩ = some (.int .i64 x102000_2) := (blk_cell BK101.out 0).trans rfl; have hcz35_1 : w32.cell? ⟨gb101, 1, none⟩ = some (.int .i64 x102001_2) := (blk_cell BK101.out 1).trans rfl; have hcz35_2 : w32.cell? ⟨gb101, 2, none⟩ = some (.int .i64 x102002_2) := (blk_cell BK101.out 2).trans rfl; have hcz35_3 : w32.cell? ⟨gb101, 3, none⟩ = some (.slice none 0 0) := (blk_cell BK101.out 3).trans rfl; have hfz35_0 := blk_frozen BK101.out 0; have hfz35_1 := blk_frozen BK101.out 1; have hfz35_2 := blk_frozen BK101.out 2; have hfz35_3 := blk_frozen BK101.out 3))
         refine bodyPost_ret (results_ct rfl _ _ gb101 24 #[.int .i64 0, .int .i64 0, .int .i64 0, .slice none 0 0] (0, 0) _ rfl Z24.z1 Tryz.underlying24 rfl (by kernel_rfl)) rfl ?_
         exact ⟨_, Z24.z9, Z24.z8, Z24.z0⟩
        replace c22 := Bool.eq_false_iff.mpr c22
        subst c22
        have H1 : (some (0, 0, 0, ([] : List Int), false)) = some (r1, r2, r3, r4, r5) := by rw [if_neg (show ¬ (false = true) by decide)] at H; exact H
        clear H
        have H := H1
        clear H1
        simp only [Option.some.injEq, Prod.mk.injEq] at H
        obtain ⟨rfl, rfl, rfl, rfl, rfl⟩ := H
        have p114 : 0 ≤ (x10_2 : Int) := of_decide_eq_true Z24.z11
        have q114 : x10_2 < (t102.length : Int) := of_decide_eq_true Z24.z11
        obtain ⟨ad114, e114, hx114_0⟩ := Kd.at_string (Kd.R_reads' HO_4.out).2.2 x10_2 p114 q114
        obtain rfl : ad105 = ad114 := (by injection e114)
        replace p114 := eq_true p114
        replace q114 := eq_true q114
        go_wp2_with (first | ((with_reducible refine gate_callee (f := 53) rfl ?_); refine goesL_ (some 50) rfl rfl Tryz.func53 (by kernel_rfl) rfl #[.string (rdOf ByteArray.empty t102 x10_2)] rfl Z24.z5 ?_; (with_reducible refine (spec_ReadList.calls k2 (rdOf ByteArray.empty t102 x10_2) t115 false _ A21.out).mono ?_); rintro e w36 ⟨v117, rfl, ho0, hb⟩; refine ⟨_, rfl, ?_⟩; have n0_ := Z24.k (Kd.R_below Z24.z7 hb); have n1_ := Z24.k (Kd.R_elder' Z24.z4 (Kd.R_base ho0) hb); have n2_ := Z24.k (Kd.R_lower (Kd.R_new' ho0 (Kd.R_lt Z24.z4)) (below_size Z24.z0)); have n3_ := Z24.k (Z24.bb BK101 Z24.z3 hb); have n4_ := Z24.k (Z24.bb BK113 Z24.z6 hb); have n5_ := Z24.k (below_step Z24.z0 hb); clear HO_4 HO_114003 BK101 BK113 HB; have HO_4 := n0_; have HO_114003 := n1_; have HO118 := n2_; have BK101 := n3_; have BK113 := n4_; have HB := n5_; clear n0_ n1_ n2_ n3_ n4_ n5_; (try clear hb); (try clear hb2); (try clear hk); (try clear hi); (try clear ho0); have hnb37 := NB101_113.out; have hnc37 := NB113_101.out; have hcz38_0 : w36.cell? ⟨gb101, 0, none⟩ = some (.int .i64 x102000_2) := (blk_cell BK101.out 0).trans rfl; have hcz38_1 : w36.cell? ⟨gb101, 1, none⟩ = some (.int .i64 x102001_2) := (blk_cell BK101.out 1).trans rfl; have hcz38_2 : w36.cell? ⟨gb101, 2, none⟩ = some (.int .i64 x102002_2) := (blk_cell BK101.out 2).trans rfl; have hcz38_3 : w36.cell? ⟨gb101, 3, none⟩ = some (.slice none 0 0) := (blk_cell BK101.out 3).trans rfl; have hfz38_0 := blk_frozen BK101.out 0; have hfz38_1 := blk_frozen BK101.out 1; have hfz38_2 := blk_frozen BK101.out 2; have hfz38_3 := blk_frozen BK101.out 3))
        refine bodyPost_ret (results_ct rfl _ _ gb101 24 #[.int .i64 0, .int .i64 0, .int .i64 0, .slice none 0 0] (0, 0) _ rfl Z24.z1 Tryz.underlying24 rfl (by kernel_rfl)) rfl ?_
        exact ⟨_, Z24.z9, Z24.z8, Z24.z0⟩
       rw [if_neg c20] at H
       exact absurd H (by simp)
      rw [if_neg c19] at H
      have c19b0 : decide (x10_2 < (t102.length : Int)) = false := decide_eq_false c19
      clear c19
      replace H := Option.bind_eq_some_iff.mp H
      obtain ⟨t122, A390, H⟩ := H
      replace H : (if t122 = true then (some (t106, t107, t108, x114003_2, true)) else (some (0, 0, 0, ([] : List Int), false))) = some (r1, r2, r3, r4, r5) := H
      have A39 := Z24.k A390
      clear A390
      by_cases c40 : t122 = true
      ·subst c40
       have H1 : (some (t106, t107, t108, x114003_2, true)) = some (r1, r2, r3, r4, r5) := by rw [if_pos rfl] at H; exact H
       clear H
       have H := H1
       clear H1
       simp only [Option.some.injEq, Prod.mk.injEq] at H
       obtain ⟨rfl, rfl, rfl, rfl, rfl⟩ := H
       obtain ⟨Ao41, co41, eo41⟩ := Kd.R_slice HO_114003.out
       subst eo41
       go_wp2_with (first | ((with_reducible refine gate_callee (f := 54) rfl ?_); refine goesL_ (some 67) rfl rfl Tryz.func54 (by kernel_rfl) rfl #[.pointer (some ⟨gb113, 0, none⟩)] rfl Z24.z5 ?_; (with_reducible refine (spec_l03Ok.calls k2 t106 t107 t108 Ao41 co41 x114003_2 true _ ?side1 ?side2 ?side3 A39.out).mono ?_); (case side1 => exact Z24.z13); (case side2 => exact (Kd.R_reads' HO_114003.out).2.1); (case side3 => exact Z24.z6); rintro e w42 ⟨rfl, hb⟩; refine ⟨_, rfl, ?_⟩; have n0_ := Z24.k (Kd.R_below Z24.z7 hb); have n1_ := Z24.k (Kd.R_below Z24.z4 hb); have n2_ := Z24.k (Z24.bb BK101 Z24.z3 hb); have n3_ := Z24.k (Z24.bb BK113 Z24.z6 hb); have n4_ := Z24.k (below_step Z24.z0 hb); clear HO_4 HO_114003 BK101 BK113 HB; have HO_4 := n0_; have HO_114003 := n1_; have BK101 := n2_; have BK113 := n3_; have HB := n4_; clear n0_ n1_ n2_ n3_ n4_; (try clear hb); (try clear hb2); (try clear hk); (try clear hi); have hnb43 := NB113_101.out; have hnc43 := NB101_113.out; have hcz44_0 : w42.cell? ⟨gb113, 0, none⟩ = some (.int .i64 t106) := (blk_cell BK113.out 0).trans rfl; have hcz44_1 : w42.cell? ⟨gb113, 1, none⟩ = some (.int .i64 t107) := (blk_cell BK113.out 1).trans rfl; have hcz44_2 : w42.cell? ⟨gb113, 2, none⟩ = some (.int .i64 t108) := (blk_cell BK113.out 2).trans rfl; have hcz44_3 : w42.cell? ⟨gb113, 3, none⟩ = some (.slice Ao41 x114003_2.length co41) := (blk_cell BK113.out 3).trans rfl; have hfz44_0 := blk_frozen BK113.out 0; have hfz44_1 := blk_frozen BK113.out 1; have hfz44_2 := blk_frozen BK113.out 2; have hfz44_3 := blk_frozen BK113.out 3; have hcz45_0 : w42.cell? ⟨gb101, 0, none⟩ = some (.int .i64 x102000_2) := (blk_cell BK101.out 0).trans rfl; have hcz45_1 : w42.cell? ⟨gb101, 1, none⟩ = some (.int .i64 x102001_2) := (blk_cell BK101.out 1).trans rfl; have hcz45_2 : w42.cell? ⟨gb101, 2, none⟩ = some (.int .i64 x102002_2) := (blk_cell BK101.out 2).trans rfl; have hcz45_3 : w42.cell? ⟨gb101, 3, none⟩ = some (.slice none 0 0) := (blk_cell BK101.out 3).trans rfl; have hfz45_0 := blk_frozen BK101.out 0; have hfz45_1 := blk_frozen BK101.out 1; have hfz45_2 := blk_frozen BK101.out 2; have hfz45_3 := blk_frozen BK101.out 3))
       refine bodyPost_ret (results_ct rfl _ _ gb101 24 #[.int .i64 t106, .int .i64 t107, .int .i64 t108, .slice Ao41 x114003_2.length co41] (0, 0) _ rfl (by (with_reducible repeat (first | refine blk_drewN ?_ _ | refine blk_drew ?_ | refine blk_alloc ?_ _)); refine blk_put (cs := #[.int .i64 t106, .int .i64 t107, .int .i64 t108, .slice none 0 0]) ?_ 3 _ rfl; (with_reducible repeat (first | refine blk_drewN ?_ _ | refine blk_drew ?_ | refine blk_alloc ?_ _)); refine blk_put (cs := #[.int .i64 t106, .int .i64 t107, .int .i64 x102002_2, .slice none 0 0]) ?_ 2 _ rfl; (with_reducible repeat (first | refine blk_drewN ?_ _ | refine blk_drew ?_ | refine blk_alloc ?_ _)); refine blk_put (cs := #[.int .i64 t106, .int .i64 x102001_2, .int .i64 x102002_2, .slice none 0 0]) ?_ 1 _ rfl; (with_reducible repeat (first | refine blk_drewN ?_ _ | refine blk_drew ?_ | refine blk_alloc ?_ _)); refine blk_put (cs := #[.int .i64 x102000_2, .int .i64 x102001_2, .int .i64 x102002_2, .slice none 0 0]) ?_ 0 _ rfl; (with_reducible repeat (first | refine blk_drewN ?_ _ | refine blk_drew ?_ | refine blk_alloc ?_ _)); exact BK101.out) Tryz.underlying24 rfl (by kernel_rfl)) rfl ?_
       exact ⟨_, Z24.z9, (by (with_reducible repeat (first | apply Kd.R_alloc | apply Kd.R_drewN | apply Kd.R_drew)); exact Kd.R_mono (Kd.R_far (p := ⟨gb101, 3, none⟩) (Kd.R_far (p := ⟨gb101, 2, none⟩) (Kd.R_far (p := ⟨gb101, 1, none⟩) (Kd.R_far (p := ⟨gb101, 0, none⟩) (Kd.R_types HO_114003.out BK101.out (by decide)) (fun _ hk => hk.2) (.int .i64 t106)) (fun _ hk => hk.2) (.int .i64 t107)) (fun _ hk => hk.2) (.int .i64 t108)) (fun _ hk => hk.2) (.slice Ao41 x114003_2.length co41)) (fun _ hk => trivial)), Z24.z0⟩
      replace c40 := Bool.eq_false_iff.mpr c40
      subst c40
      have H1 : (some (0, 0, 0, ([] : List Int), false)) = some (r1, r2, r3, r4, r5) := by rw [if_neg (show ¬ (false = true) by decide)] at H; exact H
      clear H
      have H := H1
      clear H1
      simp only [Option.some.injEq, Prod.mk.injEq] at H
      obtain ⟨rfl, rfl, rfl, rfl, rfl⟩ := H
      obtain ⟨Ao46, co46, eo46⟩ := Kd.R_slice HO_114003.out
      subst eo46
      go_wp2_with (first | ((with_reducible refine gate_callee (f := 54) rfl ?_); refine goesL_ (some 67) rfl rfl Tryz.func54 (by kernel_rfl) rfl #[.pointer (some ⟨gb113, 0, none⟩)] rfl Z24.z5 ?_; (with_reducible refine (spec_l03Ok.calls k2 t106 t107 t108 Ao46 co46 x114003_2 false _ ?side1 ?side2 ?side3 A39.out).mono ?_); (case side1 => exact Z24.z13); (case side2 => exact (Kd.R_reads' HO_114003.out).2.1); (case side3 => exact Z24.z6); rintro e w47 ⟨rfl, hb⟩; refine ⟨_, rfl, ?_⟩; have n0_ := Z24.k (Kd.R_below Z24.z7 hb); have n1_ := Z24.k (Kd.R_below Z24.z4 hb); have n2_ := Z24.k (Z24.bb BK101 Z24.z3 hb); have n3_ := Z24.k (Z24.bb BK113 Z24.z6 hb); have n4_ := Z24.k (below_step Z24.z0 hb); clear HO_4 HO_114003 BK101 BK113 HB; have HO_4 := n0_; have HO_114003 := n1_; have BK101 := n2_; have BK113 := n3_; have HB := n4_; clear n0_ n1_ n2_ n3_ n4_; (try clear hb); (try clear hb2); (try clear hk); (try clear hi); have hnb48 := NB101_113.out; have hnc48 := NB113_101.out; have hcz49_0 : w47.cell? ⟨gb101, 0, none⟩ = some (.int .i64 x102000_2) := (blk_cell BK101.out 0).trans rfl; have hcz49_1 : w47.cell? ⟨gb101, 1, none⟩ = some (.int .i64 x102001_2) := (blk_cell BK101.out 1).trans rfl; have hcz49_2 : w47.cell? ⟨gb101, 2, none⟩ = some (.int .i64 x102002_2) := (blk_cell BK101.out 2).trans rfl; have hcz49_3 : w47.cell? ⟨gb101, 3, none⟩ = some (.slice none 0 0) := (blk_cell BK101.out 3).trans rfl; have hfz49_0 := blk_frozen BK101.out 0; have hfz49_1 := blk_frozen BK101.out 1; have hfz49_2 := blk_frozen BK101.out 2; have hfz49_3 := blk_frozen BK101.out 3))
      refine bodyPost_ret (results_ct rfl _ _ gb101 24 #[.int .i64 0, .int .i64 0, .int .i64 0, .slice none 0 0] (0, 0) _ rfl Z24.z1 Tryz.underlying24 rfl (by kernel_rfl)) rfl ?_
      exact ⟨_, Z24.z9, Z24.z8, Z24.z0⟩
 rw [if_neg c3] at H
 exact absurd H (by simp)
/-! ### spec_ReadMatrix: function 5 -/
def spec_ReadMatrix.f (k : Nat) (a0 : ByteArray) : Option (Int × Int × Int × List Int × Bool) := (spec_l03Read.f k a0).bind fun bt102 => (some (bt102.1, bt102.2.1, bt102.2.2.1, bt102.2.2.2.1, bt102.2.2.2.2))
theorem Z5.bb {w0 w w1 : World} {g : Nat} {o : Obj} (_B : Aside0 (w0.heap[g]? = some o)) (h : w.heap[g]? = some o) (hb : Below w.heap.size w w1) : w1.heap[g]? = some o := blk_below h hb
theorem Z5.bl {w0 w : World} {g : Nat} {o : Obj} (_B : Aside0 (w0.heap[g]? = some o)) (h : w.heap[g]? = some o) : g < w.heap.size := blk_lt h
theorem Z5.z1 {P : Prop} (h : P := by repeat (first | (with_reducible first | exact HB.out | apply below_alloc | apply pw_below_drewN | apply below_drew1) | exact HB.out)) : P := h
theorem Z5.z0 {P : Prop} (h : P := by repeat (first | (with_reducible first | exact HB.out | apply below_alloc | apply pw_below_drewN | apply below_drew1 | refine below_set ?_ GE101.out) | exact HB.out)) : P := h
set_option maxHeartbeats 8000000 in
set_option maxRecDepth 100000 in
theorem spec_ReadMatrix.calls (k : Nat) (a0 : ByteArray) (r1 : Int) (r2 : Int) (r3 : Int) (r4 : List Int) (r5 : Bool) (w : World) (h : spec_ReadMatrix.f k a0 = some (r1, r2, r3, r4, r5)) :
  Calls Tryz.prog 5 #[.string a0] w fun e w' => ∃ v3_ : Value, e = .returned (.tuple #[.agg #[.int .i64 r1, .int .i64 r2, .int .i64 r3, v3_], .bool r5]) ∧ Kd.R (Kd.int .i64) 2 w' w.heap.size (fun _ => True) v3_ r4 ∧ Below w.heap.size w w' := by
 have hu24 := Tryz.underlying24
 have HB := Aside0.mk (Below.refl w.heap.size w)
 have H : ((spec_l03Read.f k a0).bind fun bt102 => (some (bt102.1, bt102.2.1, bt102.2.2.1, bt102.2.2.2.1, bt102.2.2.2.2))) = some (r1, r2, r3, r4, r5) := h
 clear h
 replace H := Option.bind_eq_some_iff.mp H
 obtain ⟨⟨t102, t103, t104, t105, t108⟩, A20, H⟩ := H
 replace H : (some (t102, t103, t104, t105, t108)) = some (r1, r2, r3, r4, r5) := H
 have A2 := Aside0.mk A20
 clear A20
 simp only [Option.some.injEq, Prod.mk.injEq] at H
 obtain ⟨rfl, rfl, rfl, rfl, rfl⟩ := H
 go_enter Tryz.func5, Tryz.ntmps5
 go_wp2_with (first | ((with_reducible refine gate_dst (N := 2) rfl ?_); refine box_event ?hg (N := 2) ?hd (cs := #[.int .i64 0, .int .i64 0, .int .i64 0, .slice none 0 0]) (t := 24) ?hr ?_; (case hd => rfl); (case hg => rfl); (case hr => first | (go_simp; done) | (go_simp; rfl)); intro gb101 hg w3 hbox hb; have n0_ := Aside0.mk (below_step Z5.z1 hb); have n1_ := Aside0.mk (hbox); have n2_ := Aside0.mk (show w.heap.size ≤ gb101 from (by rw [hg]; exact (below_size Z5.z1))); have n3_ := Aside0.mk (show w.heap.size ≤ gb101 from (by rw [hg]; exact (below_size Z5.z1))); clear HB; have HB := n0_; have BK101 := n1_; have GW101 := n2_; have GE101 := n3_; clear n0_ n1_ n2_ n3_; clear hb hbox hg) | ((with_reducible refine gate_callee (f := 24) rfl ?_); refine goesL_ (some 5) rfl rfl Tryz.func24 (by kernel_rfl) rfl #[.string a0] rfl (by (try simp only [List.map_toArray, List.map_cons, List.map_nil]); first | done | rfl | (simp only [List.length_drop, List.length_take]; rfl)) ?_; (with_reducible refine (spec_l03Read.calls k a0 t102 t103 t104 t105 t108 _ A2.out).mono ?_); rintro e w4 ⟨v106, rfl, ho0, hb⟩; refine ⟨_, rfl, ?_⟩; have n0_ := Aside0.mk (Kd.R_lower ho0 (below_size Z5.z0)); have n1_ := Aside0.mk (Z5.bb BK101 (by (with_reducible repeat (first | refine blk_drewN ?_ _ | refine blk_drew ?_ | refine blk_alloc ?_ _)); exact BK101.out) hb); have n2_ := Aside0.mk (below_step Z5.z0 hb); clear BK101 HB; have HO107 := n0_; have BK101 := n1_; have HB := n2_; clear n0_ n1_ n2_; (try clear hb); (try clear hb2); (try clear hk); (try clear hi); (try clear ho0); have hcz5_0 : w4.cell? ⟨gb101, 0, none⟩ = some (.int .i64 0) := (blk_cell BK101.out 0).trans rfl; have hcz5_1 : w4.cell? ⟨gb101, 1, none⟩ = some (.int .i64 0) := (blk_cell BK101.out 1).trans rfl; have hcz5_2 : w4.cell? ⟨gb101, 2, none⟩ = some (.int .i64 0) := (blk_cell BK101.out 2).trans rfl; have hcz5_3 : w4.cell? ⟨gb101, 3, none⟩ = some (.slice none 0 0) := (blk_cell BK101.out 3).trans rfl; have hfz5_0 := blk_frozen BK101.out 0; have hfz5_1 := blk_frozen BK101.out 1; have hfz5_2 := blk_frozen BK101.out 2; have hfz5_3 := blk_frozen BK101.out 3; obtain ⟨Ao6, co6, eo6⟩ := Kd.R_slice HO107.out; subst eo6))
 refine bodyPost_ret (results_ct rfl _ _ gb101 24 #[.int .i64 t102, .int .i64 t103, .int .i64 t104, .slice Ao6 t105.length co6] (0, 0) _ rfl (by (with_reducible repeat (first | refine blk_drewN ?_ _ | refine blk_drew ?_ | refine blk_alloc ?_ _)); refine blk_put (cs := #[.int .i64 t102, .int .i64 t103, .int .i64 t104, .slice none 0 0]) ?_ 3 _ rfl; (with_reducible repeat (first | refine blk_drewN ?_ _ | refine blk_drew ?_ | refine blk_alloc ?_ _)); refine blk_put (cs := #[.int .i64 t102, .int .i64 t103, .int .i64 0, .slice none 0 0]) ?_ 2 _ rfl; (with_reducible repeat (first | refine blk_drewN ?_ _ | refine blk_drew ?_ | refine blk_alloc ?_ _)); refine blk_put (cs := #[.int .i64 t102, .int .i64 0, .int .i64 0, .slice none 0 0]) ?_ 1 _ rfl; (with_reducible repeat (first | refine blk_drewN ?_ _ | refine blk_drew ?_ | refine blk_alloc ?_ _)); refine blk_put (cs := #[.int .i64 0, .int .i64 0, .int .i64 0, .slice none 0 0]) ?_ 0 _ rfl; (with_reducible repeat (first | refine blk_drewN ?_ _ | refine blk_drew ?_ | refine blk_alloc ?_ _)); exact BK101.out) Tryz.underlying24 rfl (by kernel_rfl)) rfl ?_
 exact ⟨_, (by first | rfl | (simp [errW_none, errW_some] <;> rfl) | (simp [*, errW_none, errW_some] <;> rfl)), (by (with_reducible repeat (first | apply Kd.R_alloc | apply Kd.R_drewN | apply Kd.R_drew)); exact Kd.R_mono (Kd.R_far (p := ⟨gb101, 3, none⟩) (Kd.R_far (p := ⟨gb101, 2, none⟩) (Kd.R_far (p := ⟨gb101, 1, none⟩) (Kd.R_far (p := ⟨gb101, 0, none⟩) (Kd.R_types HO107.out BK101.out (by decide)) (fun _ hk => hk.2) (.int .i64 t102)) (fun _ hk => hk.2) (.int .i64 t103)) (fun _ hk => hk.2) (.int .i64 t104)) (fun _ hk => hk.2) (.slice Ao6 t105.length co6)) (fun _ hk => trivial)), Z5.z0⟩
/-! ### impl_Decimal: function 38: ours -/
theorem var_below {P : Program} {n : String} {cs : Array Value} {w w' : World} (h : w.var? P n = some cs) (hb : Below w.heap.size w w') : w'.var? P n = some cs := by
  unfold World.var? at h ⊢
  obtain ⟨g, hg, h⟩ := Option.bind_eq_some_iff.mp h
  rw [hg, Option.bind_some]
  cases hc : w.heap[g]? with
  | none => rw [hc] at h; cases h
  | some o =>
    have hlt : g < w.heap.size := (Array.getElem?_eq_some_iff.mp hc).1
    rw [hb.block g hlt]
    exact h
def LaidP (w : World) : Prop := Lib.TabIs Tryz.prog w "internal/strconv.uint64pow10" .u64 Lib.pow10Tab
theorem LaidP.below {w w' : World} (h : LaidP w) (hb : Below w.heap.size w w') : LaidP w' := var_below h hb
theorem grow_below (w : World) (k : Nat) (os : Array Obj) : Below w.heap.size w (Sort.grow (w.drewN k) os) :=
  ⟨rfl, rfl, rfl, by simp [Sort.grow, World.drewN], fun i hi => by simp only [Sort.grow, World.drewN]; rw [Array.getElem?_append_left hi]⟩
def impl_Decimal.f (a0 : Int) : Option ByteArray := if -9223372036854775808 ≤ a0 ∧ a0 ≤ 9223372036854775807 then some ⟨(Lib.itoa a0).toArray⟩ else none
set_option maxHeartbeats 4000000 in
set_option maxRecDepth 100000 in
theorem impl_Decimal.calls (a0 : Int) (r : ByteArray) (w : World) (hlP_ : LaidP w) (h : impl_Decimal.f a0 = some r) :
  Calls Tryz.prog 38 #[.int .i64 a0] w fun e w' => e = .returned (.string r) ∧ Below w.heap.size w w' := by
 unfold impl_Decimal.f at h
 by_cases hb : -9223372036854775808 ≤ a0 ∧ a0 ≤ 9223372036854775807
 ·rw [if_pos hb] at h
  have hR := Aside0.mk (Option.some.inj h)
  have hC := Tryz.strconv_FormatInt_10 a0 hb.1 hb.2 w hlP_
  clear h hb
  go_enter Tryz.func38, Tryz.ntmps38
  go_wp2_with (go_at_call 73; refine hC.mono ?_; rintro e w' ⟨rfl, k, os, rfl⟩)
  go_ret
  obtain rfl := hR.out
  exact ⟨rfl, grow_below w k os⟩
 rw [if_neg hb] at h; cases h
/-! ### strings_Split: function 55: ours -/
def LaidM (w : World) : Prop := ∃ m, w.cell? ⟨0, 0, none⟩ = some (.int .i64 m)
theorem LaidM.below {w w' : World} (h : LaidM w) (hb : Below w.heap.size w w') : LaidM w' := by
  obtain ⟨m, hm⟩ := h
  exact ⟨m, (hb.cell (p := ⟨0, 0, none⟩) (World.block_lt_of_cell? w _ hm)).trans hm⟩
theorem new_strs (w : World) (e : Nat) (l : List ByteArray) (hl : l.length ≤ maxLen) : Kd.R Kd.string e (w.alloc (.cells (l.map Value.string).toArray e)) w.heap.size (fun _ => True) (.slice (some ⟨w.heap.size, 0, none⟩) l.length l.length) l := by
  refine ⟨fun _ _ => trivial, l.map Value.string, ⟨by simp [Kd.string, Kd.scalar], .inr ⟨w.heap.size, l.length, (l.map Value.string).toArray, rfl, Nat.le_refl _, ?_, Nat.le_refl _, hl, by simp [Kd.string, Kd.scalar], by simp only [Kd.string, Kd.scalar, Nat.mul_one]; exact List.take_of_length_le (by simp)⟩⟩, by simp [Kd.string, Kd.scalar], fun j p hj => ?_⟩
  · show (w.heap.push _)[w.heap.size]? = _
    simp
  · show (l.map Value.string |>.drop (j * 1)).take 1 = [Value.string p]
    rw [Nat.mul_one]
    obtain ⟨hj', rfl⟩ := List.getElem?_eq_some_iff.mp hj
    rw [List.drop_eq_getElem_cons (by simpa using hj')]
    simp
def strings_Split.f (a0 a1 : ByteArray) : Option (List ByteArray) := if a0.size < 4294967281 ∧ 1 ≤ a1.size then some (Lib.splitB a1 0 (Lib.countB a0 a1) a0) else none
theorem strings_Split.calls (a0 a1 : ByteArray) (r : List ByteArray) (w : World) (hlM_ : LaidM w) (h : strings_Split.f a0 a1 = some r) :
  Calls Tryz.prog 55 #[.string a0, .string a1] w fun e w' => ∃ v0_ : Value, e = .returned v0_ ∧ Kd.R Kd.string 9 w' w.heap.size (fun _ => True) v0_ r ∧ Below w.heap.size w w' := by
 unfold strings_Split.f at h
 by_cases hb : a0.size < 4294967281 ∧ 1 ≤ a1.size
 ·rw [if_pos hb] at h
  obtain rfl := Option.some.inj h
  obtain ⟨m, hm⟩ := hlM_
  have hle := Lib.countB_le a1 hb.2 a0.size a0 (Nat.le_refl _)
  have hlen := Lib.splitB_all a1 hb.2 0 _ a0 rfl
  have hmax : (Lib.splitB a1 0 (Lib.countB a0 a1) a0).length ≤ maxLen := by rw [hlen]; unfold maxLen; omega
  refine (Tryz.strings_Split a0 a1 m w hb.1 hm hb.2).mono ?_
  rintro e w' ⟨rfl, rfl⟩
  have hr := new_strs w 9 _ hmax
  rw [hlen] at hr
  exact ⟨_, rfl, hr, (Below.refl _ w).alloc (Nat.le_refl _) _⟩
 rw [if_neg hb] at h; cases h
end Go.Proofs.YtkndhjchlnepmaaGreatDoor.F
end
