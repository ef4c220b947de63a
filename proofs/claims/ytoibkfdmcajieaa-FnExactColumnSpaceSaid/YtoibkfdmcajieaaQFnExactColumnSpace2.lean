-- Texts of this claim, merged by pack.py (a program of this session's).
import Derived.Test.YtoibkfdmcajieaaQFnExactColumnSpace0
import Derived.Test.YtoibkfdmcajieaaQFnExactColumnSpace1

section
namespace Go.Proofs.Ytoibkfdmcajieaa.F
open Go.RowKit Go.Proofs.YtoibkfdmcajieaaW.PrintWords Go.Proofs.YtoibkfdmcajieaaW.PrintLast Go.Proofs.YtoibkfdmcajieaaW.PrintMore
attribute [local go_sem] max2_int min2_int max_two min_two max_three min_three max_four min_four   -- for this text's walks alone
set_option linter.unusedVariables false
set_option linter.unusedSimpArgs false

/-! ### spec_l04Rows: function 73 -/
def spec_l04Rows.l0 : Nat → List (List Int) → Int → Int → Int → Int → List Int → Option (Int × Int × Int × List Int)
  | 0, _, _, _, _, _, _ => none
  | k + 1, x2, x8, x106000, x106001, x106002, x106003 => if x8 < (x2.length : Int) then (if 0 ≤ x8 then (if x106003.length + (rd_L1 x2 x8).length < 17592186044416 then (spec_l04Rows.l0 k x2 (wrap64 (x8 + 1)) x106000 x106001 x106002 (x106003 ++ (rd_L1 x2 x8))) else (none)) else (none)) else (some (x106000, x106001, x106002, x106003))
def spec_l04Rows.f (k : Nat) (a0 : Int) (a1 : Int) (l2 : List (List Int)) : Option (Int × Int × Int × List Int) := spec_l04Rows.l0 k l2 0 a0 (l2.length : Int) a1 (([] : List Int))
theorem spec_l04Rows.mono_l : ∀ k, (∀ y0 y1 y2 y3 y4 y5, LeO (spec_l04Rows.l0 k y0 y1 y2 y3 y4 y5) (spec_l04Rows.l0 (k + 1) y0 y1 y2 y3 y4 y5))
  | 0 => fun _ _ _ _ _ _ r h => by simp [spec_l04Rows.l0] at h
  | k + 1 => by
    have ih0 := spec_l04Rows.mono_l k
    · intro y0 y1 y2 y3 y4 y5
      unfold spec_l04Rows.l0
      repeat' first
      | (with_reducible exact ih0 _ _ _ _ _ _)
      | (with_reducible exact LeO.refl _)
      | (with_reducible exact LeO.none _)
      | (with_reducible refine LeO.ite ?_ ?_)
      | (with_reducible refine LeO.bind ?_ (fun _ => ?_))
      | exact ih0 _ _ _ _ _ _
      | exact LeO.none _
      | refine LeO.ite ?_ ?_
      | refine LeO.bind ?_ (fun _ => ?_)
theorem spec_l04Rows.mono : ∀ a0 a1 a2 k, LeO (spec_l04Rows.f k a0 a1 a2) (spec_l04Rows.f (k + 1) a0 a1 a2) := by
  intro a0 a1 a2 k
  have ih0 := spec_l04Rows.mono_l k
  unfold spec_l04Rows.f
  repeat' first
      | (with_reducible exact ih0 _ _ _ _ _ _)
      | (with_reducible exact LeO.refl _)
      | (with_reducible exact LeO.none _)
      | (with_reducible refine LeO.ite ?_ ?_)
      | (with_reducible refine LeO.bind ?_ (fun _ => ?_))
      | exact ih0 _ _ _ _ _ _
      | exact LeO.none _
      | refine LeO.ite ?_ ?_
      | refine LeO.bind ?_ (fun _ => ?_)
def spec_l04Rows.T5 : Bool × List (List Nat × List Nat) := (true, [([], []), ([0], [0]), ([], []), ([], []), ([2, 3], [2, 3]), ([4], [4]), ([1, 5], [1, 5]), ([0, 1, 2, 3, 4, 5, 6], []), ([7, 6, 6, 0, 1, 2, 3, 4, 5, 6], [6, 7])])
def spec_l04Rows.B5 : List Nat := [0, 1, 0, 0, 12, 28, 63, 127, 255]
theorem spec_l04Rows.tab5 : rtab .any (opsOf Try.f73 5) = spec_l04Rows.T5 := by kernel_rfl
theorem spec_l04Rows.bits5 : waitsOk spec_l04Rows.T5.2 spec_l04Rows.B5 = true := by kernel_rfl
theorem Z73.bb {w0 w w1 : World} {g : Nat} {o : Obj} (_B : Aside0 (w0.heap[g]? = some o)) (h : w.heap[g]? = some o) (hb : Below w.heap.size w w1) : w1.heap[g]? = some o := blk_below h hb
theorem Z73.bl {w0 w : World} {g : Nat} {o : Obj} (_B : Aside0 (w0.heap[g]? = some o)) (h : w.heap[g]? = some o) : g < w.heap.size := blk_lt h
theorem Z73.k {p : Prop} (h : p) : Aside0 p := ⟨h⟩
theorem Z73.z5 {P : Prop} (h : P := by (repeat (first | (with_reducible first | refine blk_drewN ?_ _ | refine blk_drew ?_ | refine blk_alloc ?_ _) | refine blk_far ?_ NB101_105.out _)); exact BK101.out) : P := h
theorem Z73.z4 {P : Prop} (h : P := by repeat (first | (with_reducible first | exact HB.out | apply below_alloc | apply pw_below_drewN | apply below_drew1) | exact HB.out)) : P := h
theorem Z73.z3 {P : Prop} (h : P := by (with_reducible repeat (first | refine blk_drewN ?_ _ | refine blk_drew ?_ | refine blk_alloc ?_ _)); exact BK101.out) : P := h
theorem Z73.z2 {P : Prop} (h : P := by simp only [Act.put, List.setIfInBounds_toArray, List.set_cons_zero, List.set_cons_succ, i64_w, i32_w]; rfl) : P := h
theorem Z73.z1 {P : Prop} (h : P := by repeat (first | (with_reducible first | exact HB.out | apply below_alloc | apply pw_below_drewN | apply below_drew1 | refine below_set ?_ GE101.out) | exact HB.out)) : P := h
theorem Z73.z0 {P : Prop} (h : P := by repeat (first | (with_reducible first | exact HB.out | apply below_alloc | apply pw_below_drewN | apply below_drew1 | refine below_set ?_ GE101.out | refine below_set ?_ GE105.out) | exact HB.out)) : P := h
set_option maxHeartbeats 8000000 in
set_option maxRecDepth 100000 in
theorem spec_l04Rows.calls (k : Nat) (a0 : Int) (a1 : Int) (A2 : Option Addr) (c2 : Nat) (l2 : List (List Int)) (r1 : Int) (r2 : Int) (r3 : Int) (r4 : List Int) (w : World) (hr2 : Kd.C (Kd.slice 2 (Kd.int .i64)) w A2 l2.length l2) (hc2 : l2.length ≤ c2) (h : spec_l04Rows.f k a0 a1 l2 = some (r1, r2, r3, r4)) :
  Calls Try.prog 73 #[.int .i64 a0, .int .i64 a1, .slice A2 l2.length c2] w fun e w' => ∃ v3_ : Value, e = .returned (.agg #[.int .i64 r1, .int .i64 r2, .int .i64 r3, v3_]) ∧ Kd.R (Kd.int .i64) 2 w' w.heap.size (fun _ => True) v3_ r4 ∧ Below w.heap.size w w' := by
 have hu43 := Try.underlying43
 have HR2 := Z73.k hr2
 have HC2 := Z73.k hc2
 clear hr2 hc2
 have HB := Z73.k (Below.refl w.heap.size w)
 have H : (spec_l04Rows.l0 k l2 0 a0 (l2.length : Int) a1 (([] : List Int))) = some (r1, r2, r3, r4) := h
 clear h
 obtain ⟨y102, hy102⟩ : ∃ y_ : List Int, y_ = (([] : List Int)) := ⟨_, rfl⟩
 replace H : (spec_l04Rows.l0 k l2 0 a0 (l2.length : Int) a1 y102) = some (r1, r2, r3, r4) := by first | (rw [hy102]; with_reducible exact H) | (have H2_ := (Option.bind_some _ _).symm.trans H; rw [hy102]; with_reducible exact H2_) | (have H2_ := (Option.bind_some _ _).symm.trans H; with_reducible exact H2_) | with_reducible exact H | (rw [hy102]; exact H) | exact H
 have Ny102 := Z73.k hy102
 clear hy102
 have H' := Z73.k H
 clear H
 go_enter Try.func73, Try.ntmps73
 go_wp2_with (first | ((with_reducible refine gate_dst (N := 6) rfl ?_); refine box_event ?hg (N := 6) ?hd (cs := #[.int .i64 0, .int .i64 0, .int .i64 0, .slice none 0 0]) (t := 43) ?hr ?_; (case hd => rfl); (case hg => rfl); (case hr => first | (go_simp; done) | (go_simp; rfl)); intro gb101 hg w4 hbox hb; have n0_ := Z73.k (below_step Z73.z4 hb); have n1_ := Z73.k (hbox); have n2_ := Z73.k (show w.heap.size ≤ gb101 from (by rw [hg]; exact (below_size Z73.z4))); have n3_ := Z73.k (show w.heap.size ≤ gb101 from (by rw [hg]; exact (below_size Z73.z4))); clear HB; have HB := n0_; have BK101 := n1_; have GW101 := n2_; have GE101 := n3_; clear n0_ n1_ n2_ n3_; clear hb hbox hg) | ((with_reducible refine gate_dst (N := 13) rfl ?_); refine Kd.R_lit (Kd.int .i64) _ 2 ?hg (N := 13) ?hd (xs := ([] : List Int)) (inner := []) (ok := fun _ => True) (okp := fun _ => True) ?hr ?hp (fun _ hk => hk) trivial (Below.refl _ _) (Nat.le_refl _) (by simp) ?_; (case hd => rfl); (case hg => rfl); (case hr => first | (go_simp; done) | (go_simp; rfl)); (case hp => exact (Reps.none _ _)); intro v103 w5 ho6 hb hg_ hnew_; clear hg_ hnew_; (first | rw [← Ny102.out] at ho6 | (simp only [Int.reduceToNat] at ho6; rw [← Ny102.out] at ho6)); have n0_ := Z73.k (Kd.R_lower ho6 (below_size Z73.z1)); have n1_ := Z73.k (Z73.bb BK101 Z73.z3 hb); have n2_ := Z73.k (below_step Z73.z1 hb); clear BK101 HB; have HO104 := n0_; have BK101 := n1_; have HB := n2_; clear n0_ n1_ n2_; clear hb ho6; obtain ⟨Ao7, co7, eo7⟩ := Kd.R_slice HO104.out; subst eo7) | ((with_reducible refine gate_dst (N := 7) rfl ?_); refine box_event ?hg (N := 7) ?hd (cs := #[.int .i64 0, .int .i64 0, .int .i64 0, .slice none 0 0]) (t := 43) ?hr ?_; (case hd => rfl); (case hg => rfl); (case hr => first | (go_simp; done) | (go_simp; rfl)); intro gb105 hg w8 hbox hb; have n0_ := Z73.k (Kd.R_below (by (with_reducible repeat (first | apply Kd.R_alloc | apply Kd.R_drewN | apply Kd.R_drew)); exact HO104.out) hb); have n1_ := Z73.k (Z73.bb BK101 Z73.z3 hb); have n2_ := Z73.k (below_step Z73.z1 hb); have n3_ := Z73.k (hbox); have n4_ := Z73.k (show w.heap.size ≤ gb105 from (by rw [hg]; exact (below_size Z73.z1))); have n5_ := Z73.k (show w.heap.size ≤ gb105 from (by rw [hg]; exact (below_size Z73.z1))); have n6_ := Z73.k (show gb101 ≠ gb105 from (by rw [hg]; exact Nat.ne_of_lt (Z73.bl BK101 Z73.z3))); have n7_ := Z73.k (show gb105 ≠ gb101 from (by rw [hg]; exact Nat.ne_of_gt (Z73.bl BK101 Z73.z3))); clear HO104 BK101 HB; have HO104 := n0_; have BK101 := n1_; have HB := n2_; have BK105 := n3_; have GW105 := n4_; have GE105 := n5_; have NB101_105 := n6_; have NB105_101 := n7_; clear n0_ n1_ n2_ n3_ n4_ n5_ n6_ n7_; clear hb hbox hg; have hnb9 := NB105_101.out; have hnc9 := NB101_105.out; have hcz10_0 : w8.cell? ⟨gb105, 0, none⟩ = some (.int .i64 0) := (blk_cell BK105.out 0).trans rfl; have hcz10_1 : w8.cell? ⟨gb105, 1, none⟩ = some (.int .i64 0) := (blk_cell BK105.out 1).trans rfl; have hcz10_2 : w8.cell? ⟨gb105, 2, none⟩ = some (.int .i64 0) := (blk_cell BK105.out 2).trans rfl; have hcz10_3 : w8.cell? ⟨gb105, 3, none⟩ = some (.slice none 0 0) := (blk_cell BK105.out 3).trans rfl; have hfz10_0 := blk_frozen BK105.out 0; have hfz10_1 := blk_frozen BK105.out 1; have hfz10_2 := blk_frozen BK105.out 2; have hfz10_3 := blk_frozen BK105.out 3))
 go_loopg [8] k (fun kq v8 w' => ∃ (x8_1 : Int) (x106003_1 : List Int) (u106003 : Value), v8 = .int .i64 x8_1 ∧ Aside0 (spec_l04Rows.l0 kq l2 x8_1 a0 (l2.length : Int) a1 x106003_1 = some (r1, r2, r3, r4)) ∧ Aside0 (kq ≤ k) ∧ Aside0 (Kd.R (Kd.int .i64) 2 w' w.heap.size (fun _ => True) u106003 x106003_1) ∧ Aside0 (w'.heap[gb101]? = some (.cells #[.int .i64 0, .int .i64 0, .int .i64 0, (.slice none 0 0)] 43 (0, 0))) ∧ Aside0 (w'.heap[gb105]? = some (.cells #[.int .i64 a0, .int .i64 (l2.length : Int), .int .i64 a1, u106003] 43 (0, 0))) ∧ Aside0 (Below w.heap.size w w'))
 case atStart => exact ⟨(0), (y102), (.slice Ao7 y102.length co7), (by first | rfl | (simp; done) | (simp [*]; done)), H', ⟨Nat.le_refl _⟩, ⟨(by (with_reducible repeat (first | apply Kd.R_alloc | apply Kd.R_drewN | apply Kd.R_drew)); exact Kd.R_mono (Kd.R_far (p := ⟨gb105, 3, none⟩) (Kd.R_far (p := ⟨gb105, 2, none⟩) (Kd.R_far (p := ⟨gb105, 1, none⟩) (Kd.R_far (p := ⟨gb105, 0, none⟩) (Kd.R_types HO104.out BK105.out (by decide)) (fun _ hk => hk.2) (.int .i64 a0)) (fun _ hk => hk.2) (.int .i64 (l2.length : Int))) (fun _ hk => hk.2) (.int .i64 a1)) (fun _ hk => hk.2) (.slice Ao7 y102.length co7)) (fun _ hk => trivial))⟩, ⟨Z73.z5⟩, ⟨(by (with_reducible repeat (first | refine blk_drewN ?_ _ | refine blk_drew ?_ | refine blk_alloc ?_ _)); refine blk_put (cs := #[.int .i64 a0, .int .i64 (l2.length : Int), .int .i64 a1, .slice none 0 0]) ?_ 3 _ rfl; (with_reducible repeat (first | refine blk_drewN ?_ _ | refine blk_drew ?_ | refine blk_alloc ?_ _)); refine blk_put (cs := #[.int .i64 a0, .int .i64 (l2.length : Int), .int .i64 0, .slice none 0 0]) ?_ 2 _ rfl; (with_reducible repeat (first | refine blk_drewN ?_ _ | refine blk_drew ?_ | refine blk_alloc ?_ _)); refine blk_put (cs := #[.int .i64 a0, .int .i64 0, .int .i64 0, .slice none 0 0]) ?_ 1 _ rfl; (with_reducible repeat (first | refine blk_drewN ?_ _ | refine blk_drew ?_ | refine blk_alloc ?_ _)); refine blk_put (cs := #[.int .i64 0, .int .i64 0, .int .i64 0, .slice none 0 0]) ?_ 0 _ rfl; (with_reducible repeat (first | refine blk_drewN ?_ _ | refine blk_drew ?_ | refine blk_alloc ?_ _)); exact BK105.out)⟩, ⟨Z73.z0⟩⟩
 case round =>
  clear H'
  try clear c2
  try clear p2
  try clear c7
  try clear c9
  try clear hcz10_0
  try clear hcz10_1
  try clear hcz10_2
  try clear hcz10_3
  try clear hfz10_0
  try clear hfz10_1
  try clear hfz10_2
  try clear hfz10_3
  obtain ⟨x8_1, x106003_1, u106003, rfl, HA, HK1, HO_106003, BK101, BK105, HB⟩ := hrel
  cases gk with
  | zero => exact absurd HA.out (by simp [spec_l04Rows.l0])
  | succ k1 =>
   have H := HA.out
   clear HA
   simp only [spec_l04Rows.l0] at H
   by_cases c11 : x8_1 < (l2.length : Int)
   ·rw [if_pos c11] at H
    have c11b0 : decide (x8_1 < (l2.length : Int)) = true := decide_eq_true c11
    clear c11
    by_cases c12 : 0 ≤ x8_1
    ·rw [if_pos c12] at H
     have c12b0 : decide (0 ≤ x8_1) = true := decide_eq_true c12
     clear c12
     by_cases c13 : x106003_1.length + (rd_L1 l2 x8_1).length < 17592186044416
     ·rw [if_pos c13] at H
      have LMc13 := Z73.k c13
      clear c13
      obtain ⟨y107, hy107⟩ : ∃ y_ : List Int, y_ = (x106003_1 ++ (rd_L1 l2 x8_1)) := ⟨_, rfl⟩
      replace H : (spec_l04Rows.l0 k1 l2 (wrap64 (x8_1 + 1)) a0 (l2.length : Int) a1 y107) = some (r1, r2, r3, r4) := by first | (rw [hy107]; with_reducible exact H) | (have H2_ := (Option.bind_some _ _).symm.trans H; rw [hy107]; with_reducible exact H2_) | (have H2_ := (Option.bind_some _ _).symm.trans H; with_reducible exact H2_) | with_reducible exact H | (rw [hy107]; exact H) | exact H
      have Ny107 := Z73.k hy107
      clear hy107
      have H' := Z73.k H
      clear H
      try go_wp2
      have n0_ := Z73.k (Kd.R_drew HO_106003.out)
      have n1_ := Z73.k (blk_drew BK101.out)
      have n2_ := Z73.k (blk_drew BK105.out)
      have n3_ := Z73.k (below_drew1 HB.out)
      clear HO_106003 BK101 BK105 HB
      have HO_106003 := n0_
      have BK101 := n1_
      have BK105 := n2_
      have HB := n3_
      clear n0_ n1_ n2_ n3_
      have p106 : 0 ≤ (x8_1 : Int) := of_decide_eq_true (by first | (with_reducible assumption) | assumption)
      have q106 : x8_1 < (l2.length : Int) := of_decide_eq_true (by first | (with_reducible assumption) | assumption)
      obtain ⟨ad106, A106_0, c106_0, e106, hx106_0, hl106_0, hi106_0⟩ := at_L1 HR2.out x8_1 p106 q106
      have hw106_0 := hx106_0
      cases e106
      replace hx106_0 := (HB.out.cell (World.block_lt_of_cell? w _ hx106_0)).trans hx106_0
      have HR106_0 := Z73.k hi106_0
      have HC106_0 := Z73.k hl106_0
      clear hi106_0 hl106_0
      replace p106 := eq_true p106
      replace q106 := eq_true q106
      refine start_ (n := 9) (S := fun w' => w'.cell? ⟨gb105, 0, none⟩ = some (.int .i64 a0) ∧ w'.cell? ⟨gb105, 1, none⟩ = some (.int .i64 (l2.length : Int)) ∧ w'.cell? ⟨gb105, 2, none⟩ = some (.int .i64 a1) ∧ w'.cell? ⟨gb105, 3, none⟩ = some (u106003) ∧ w'.cell? (ad106.add (x8_1).toNat) = some (.slice A106_0 (rd_L1 l2 x8_1).length c106_0)) (ds := [8]) #[false, false, false, false, false, false, false, false, false] (by kernel_rfl) rfl rfl ⟨(blk_cell BK105.out 0).trans rfl, (blk_cell BK105.out 1).trans rfl, (blk_cell BK105.out 2).trans rfl, (blk_cell BK105.out 3).trans rfl, ((HB.out.cell (World.block_lt_of_cell? w _ hw106_0)).trans hw106_0)⟩ (fun hHeld => ?_); refine with_tabW spec_l04Rows.tab5 spec_l04Rows.bits5 (fun HT_ HW_ => ?_)
      generalize wr.drew = w14 at HO_106003 BK101 BK105 HB HR106_0 hx106_0 hHeld ⊢
      refine pure_ (i := 0) (N := some 21) (v := ?_) (a' := ?_) #[true, false, false, false, false, false, false, false, false] rfl rfl (any_of HT_.out (by kernel_rfl)) (fun _ _ _ h => h) (Or.inl ⟨(by rfl), ?_⟩) ?_ ?_
      rotate_left
      ·intro w'
       go_simp
       with_reducible rfl
      rotate_left
      ·exact Z73.z2
      refine pure_ (i := 2) (N := some 23) (v := ?_) (a' := ?_) #[true, false, true, false, false, false, false, false, false] rfl rfl (any_of HT_.out (by kernel_rfl)) (fun _ _ _ h => h) (Or.inl ⟨(by rfl), ?_⟩) ?_ ?_
      rotate_left
      ·intro w'
       go_simp
       with_reducible rfl
      rotate_left
      ·exact Z73.z2
      refine pure_ (i := 3) (N := some 24) (v := ?_) (a' := ?_) #[true, false, true, true, false, false, false, false, false] rfl rfl (any_of HT_.out (by kernel_rfl)) (fun _ _ _ h => h) (Or.inl ⟨(by rfl), ?_⟩) ?_ ?_
      rotate_left
      ·intro w'
       go_simp
       with_reducible rfl
      rotate_left
      ·exact Z73.z2
      refine pure_ (i := 4) (N := some 25) (v := ?_) (a' := ?_) #[true, false, true, true, true, false, false, false, false] rfl rfl (any_of HT_.out (by kernel_rfl)) (fun _ _ _ h => h) (Or.inl ⟨(by rfl), ?_⟩) ?_ ?_
      rotate_left
      ·intro w'
       go_simp
       with_reducible rfl
      rotate_left
      ·exact Z73.z2
      refine take_ (i := 1) (N := some 22) (v := ?_) (a' := ?_) #[true, true, true, true, true, false, false, false, false] rfl rfl (take_ofW HT_.out HW_.out (by kernel_rfl)) (fun _ _ _ h => h) (Or.inl ⟨(by rfl), ?_⟩) hHeld ?_ ?_
      rotate_left
      ·rintro w' ⟨s0, s1, s2, s3, s4⟩
       go_simp
       with_reducible rfl
      rotate_left
      ·exact Z73.z2
      refine take_ (i := 5) (N := some 26) (v := ?_) (a' := ?_) #[true, true, true, true, true, true, false, false, false] rfl rfl (take_ofW HT_.out HW_.out (by kernel_rfl)) (fun _ _ _ h => h) (Or.inl ⟨(by rfl), ?_⟩) hHeld ?_ ?_
      rotate_left
      ·rintro w' ⟨s0, s1, s2, s3, s4⟩
       go_simp
       with_reducible rfl
      rotate_left
      ·exact Z73.z2
      refine one_ (i := 6) (N := some 27) #[true, true, true, true, true, true, true, false, false] rfl rfl (one_of HT_.out (by kernel_rfl)) (by decide) (fun K hK => ?_)
      refine Kd.R_append_rows_step (Kd.int .i64) (w0 := w) w.heap.size (by rfl) (.tmp 22) (.tmp 26) 38 2 (.int .i64 0) 8 rfl Try.underlying38 info2 rfl (by decide) (by omega) u106003 x106003_1 (rd_L1 l2 x8_1) _ _ _ (fun _ => True) (fun _ => False) rfl rfl ?aO ?aR (fun _ _ h => h) (fun _ h => h.elim) ?aF ?aB ?aS ?aL ?_
      (case aR => repeat (first | exact (Kd.C_below HR106_0.out HB.out) | (with_reducible refine Kd.C_alloc ?_ _) | (with_reducible refine Kd.C_drewN ?_ _) | (with_reducible refine Kd.C_drew ?_)))
      (case aB => exact Z73.z0)
      (case aF => exact (fun _ _ => trivial))
      (case aO => exact (by (with_reducible repeat (first | apply Kd.R_alloc | apply Kd.R_drewN | apply Kd.R_drew)); exact HO_106003.out))
      (case aS => exact (below_size Z73.z0))
      (case aL => have := LMc13.out; omega)
      intro v108 w15 ho hb hg hat
      rw [← Ny107.out] at ho
      have n0_ := Z73.k (blk_grown (g := gb101) (o := .cells #[.int .i64 0, .int .i64 0, .int .i64 0, .slice none 0 0] 43 (0, 0)) Z73.z3 hg (Kd.R_ne HO_106003.out BK101.out (by decide)))
      have n1_ := Z73.k (blk_grown (g := gb105) (o := .cells #[.int .i64 a0, .int .i64 (l2.length : Int), .int .i64 a1, u106003] 43 (0, 0)) (by (with_reducible repeat (first | refine blk_drewN ?_ _ | refine blk_drew ?_ | refine blk_alloc ?_ _)); exact BK105.out) hg (Kd.R_ne HO_106003.out BK105.out (by decide)))
      have n2_ := Z73.k (hb)
      have n3_ := Z73.k (ho)
      clear BK101 BK105 HB HO_106003
      have BK101 := n0_
      have BK105 := n1_
      have HB := n2_
      have HO109 := n3_
      clear n0_ n1_ n2_ n3_ ho hb hg hat
      obtain ⟨Ao16, co16, eo16⟩ := Kd.R_slice HO109.out
      (first | subst eo16 | (injection eo16 with f1_ f2_ f3_; have f4_ := f1_.symm; have f5_ := f3_.symm; clear f1_ f2_ f3_; subst f4_; subst f5_))
      refine hK.out _ _ ⟨(blk_cell BK105.out 0).trans rfl, (blk_cell BK105.out 1).trans rfl, (blk_cell BK105.out 2).trans rfl, (blk_cell BK105.out 3).trans rfl, ((HB.out.cell (World.block_lt_of_cell? w _ hw106_0)).trans hw106_0)⟩ (fun hHeld => ?_)
      clear hK K
      refine norm_ (a' := ?_) ?_ ?_
      rotate_left
      ·show Act.put _ (some 27) _ = _
       simp only [Act.put, List.setIfInBounds_toArray, List.set_cons_zero, List.set_cons_succ, i64_w, i32_w]
       rfl
      refine pure_ (i := 7) (N := some 28) (v := ?_) (a' := ?_) #[true, true, true, true, true, true, true, true, false] rfl rfl (any_of HT_.out (by kernel_rfl)) (fun _ _ _ h => h) (Or.inl ⟨(by rfl), ?_⟩) ?_ ?_
      rotate_left
      ·intro w'
       go_simp
       with_reducible rfl
      rotate_left
      ·exact Z73.z2
      refine last_ (i := 8) (N := none) #[true, true, true, true, true, true, true, true, true] rfl rfl (one_of HT_.out (by kernel_rfl)) (by decide) (fun K hK => ?_)
      have hs17 : w15.cell? ⟨gb105, 3, none⟩ = some (u106003) := (blk_cell BK105.out 3).trans rfl
      have hfs17 := blk_frozen BK105.out 3
      have hns17_0 := NB101_105.out
      have hms17_0 := NB105_101.out
      refine skip_ (w1 := ?_) (by rfl) rfl ?_ ?_
      rotate_left
      ·go_simp
       rfl
      refine hK.out _ _ ?_
      clear hK K
      refine done_ (done_of HT_.out (by kernel_rfl)) ?_
      try go_wp2
      go_roundg k1
      case measure => have := HK1.out; omega
      case rel => exact ⟨(wrap64 (x8_1 + 1)), (y107), (.slice Ao16 y107.length co16), (by first | rfl | (simp; done) | (simp [*]; done)), H', ⟨(by have := HK1.out; omega)⟩, ⟨(by (with_reducible repeat (first | apply Kd.R_alloc | apply Kd.R_drewN | apply Kd.R_drew)); exact Kd.R_mono (Kd.R_far (p := ⟨gb105, 3, none⟩) (Kd.R_types HO109.out BK105.out (by decide)) (fun _ hk => hk.2) (.slice Ao16 y107.length co16)) (fun _ hk => trivial))⟩, ⟨Z73.z5⟩, ⟨(by (with_reducible repeat (first | refine blk_drewN ?_ _ | refine blk_drew ?_ | refine blk_alloc ?_ _)); refine blk_put (cs := #[.int .i64 a0, .int .i64 (l2.length : Int), .int .i64 a1, u106003]) ?_ 3 _ rfl; (with_reducible repeat (first | refine blk_drewN ?_ _ | refine blk_drew ?_ | refine blk_alloc ?_ _)); exact BK105.out)⟩, ⟨Z73.z0⟩⟩
     rw [if_neg c13] at H
     exact absurd H (by simp)
    rw [if_neg c12] at H
    exact absurd H (by simp)
   rw [if_neg c11] at H
   have c11b0 : decide (x8_1 < (l2.length : Int)) = false := decide_eq_false c11
   clear c11
   simp only [Option.some.injEq, Prod.mk.injEq] at H
   obtain ⟨rfl, rfl, rfl, rfl⟩ := H
   have hnb18 := NB105_101.out
   have hnc18 := NB101_105.out
   have hcz19_0 : wr.cell? ⟨gb105, 0, none⟩ = some (.int .i64 a0) := (blk_cell BK105.out 0).trans rfl
   have hcz19_1 : wr.cell? ⟨gb105, 1, none⟩ = some (.int .i64 (l2.length : Int)) := (blk_cell BK105.out 1).trans rfl
   have hcz19_2 : wr.cell? ⟨gb105, 2, none⟩ = some (.int .i64 a1) := (blk_cell BK105.out 2).trans rfl
   have hcz19_3 : wr.cell? ⟨gb105, 3, none⟩ = some (u106003) := (blk_cell BK105.out 3).trans rfl
   have hfz19_0 := blk_frozen BK105.out 0
   have hfz19_1 := blk_frozen BK105.out 1
   have hfz19_2 := blk_frozen BK105.out 2
   have hfz19_3 := blk_frozen BK105.out 3
   have hcz20_0 : wr.cell? ⟨gb101, 0, none⟩ = some (.int .i64 0) := (blk_cell BK101.out 0).trans rfl
   have hcz20_1 : wr.cell? ⟨gb101, 1, none⟩ = some (.int .i64 0) := (blk_cell BK101.out 1).trans rfl
   have hcz20_2 : wr.cell? ⟨gb101, 2, none⟩ = some (.int .i64 0) := (blk_cell BK101.out 2).trans rfl
   have hcz20_3 : wr.cell? ⟨gb101, 3, none⟩ = some (.slice none 0 0) := (blk_cell BK101.out 3).trans rfl
   have hfz20_0 := blk_frozen BK101.out 0
   have hfz20_1 := blk_frozen BK101.out 1
   have hfz20_2 := blk_frozen BK101.out 2
   have hfz20_3 := blk_frozen BK101.out 3
   obtain ⟨Ao21, co21, eo21⟩ := Kd.R_slice HO_106003.out
   subst eo21
   go_wp2
   refine bodyPost_ret (results_cell_row rfl _ _ gb101 43 #[.int .i64 a0, .int .i64 (l2.length : Int), .int .i64 a1, .slice Ao21 x106003_1.length co21] (0, 0) _ rfl (by (with_reducible repeat (first | refine blk_drewN ?_ _ | refine blk_drew ?_ | refine blk_alloc ?_ _)); refine blk_put (cs := #[.int .i64 a0, .int .i64 (l2.length : Int), .int .i64 a1, .slice none 0 0]) ?_ 3 _ rfl; (with_reducible repeat (first | refine blk_drewN ?_ _ | refine blk_drew ?_ | refine blk_alloc ?_ _)); refine blk_put (cs := #[.int .i64 a0, .int .i64 (l2.length : Int), .int .i64 0, .slice none 0 0]) ?_ 2 _ rfl; (with_reducible repeat (first | refine blk_drewN ?_ _ | refine blk_drew ?_ | refine blk_alloc ?_ _)); refine blk_put (cs := #[.int .i64 a0, .int .i64 0, .int .i64 0, .slice none 0 0]) ?_ 1 _ rfl; (with_reducible repeat (first | refine blk_drewN ?_ _ | refine blk_drew ?_ | refine blk_alloc ?_ _)); refine blk_put (cs := #[.int .i64 0, .int .i64 0, .int .i64 0, .slice none 0 0]) ?_ 0 _ rfl; (with_reducible repeat (first | refine blk_drewN ?_ _ | refine blk_drew ?_ | refine blk_alloc ?_ _)); exact BK101.out) Try.underlying43 rfl (by kernel_rfl)) rfl ?_
   exact ⟨_, (by first | rfl | (simp [errW_none, errW_some] <;> rfl) | (simp [*, errW_none, errW_some] <;> rfl)), (by (with_reducible repeat (first | apply Kd.R_alloc | apply Kd.R_drewN | apply Kd.R_drew)); exact Kd.R_mono (Kd.R_far (p := ⟨gb101, 3, none⟩) (Kd.R_far (p := ⟨gb101, 2, none⟩) (Kd.R_far (p := ⟨gb101, 1, none⟩) (Kd.R_far (p := ⟨gb101, 0, none⟩) (Kd.R_types HO_106003.out BK101.out (by decide)) (fun _ hk => hk.2) (.int .i64 a0)) (fun _ hk => hk.2) (.int .i64 (l2.length : Int))) (fun _ hk => hk.2) (.int .i64 a1)) (fun _ hk => hk.2) (.slice Ao21 x106003_1.length co21)) (fun _ hk => trivial)), Z73.z0⟩


/-! ### spec_l04Basis: function 51 -/
def spec_l04Basis.l0 : Nat → Int → List Int → List (List Int) → Int → Int → Int → Int → List Int → Option ((List (List Int)))
  | 0, _, _, _, _, _, _, _, _ => none
  | k + 1, x1, x9, x11, x12, x119000, x119001, x119002, x119003 => if x12 < (x9.length : Int) then (if 0 ≤ (wrap64 (x12 * x1)) then (if (wrap64 (x12 * x1)) ≤ (wrap64 ((wrap64 (x12 + 1)) * x1)) then (if (wrap64 ((wrap64 (x12 + 1)) * x1)) ≤ (x119003.length : Int) then ((spec_l00Own.f ((x119003.take ((wrap64 ((wrap64 (x12 + 1)) * x1)) : Int).toNat).drop ((wrap64 (x12 * x1)) : Int).toNat)).bind fun t126 => (if x11.length < 5864062014805 then (spec_l04Basis.l0 k x1 x9 (x11 ++ [t126]) (wrap64 (x12 + 1)) x119000 x119001 x119002 x119003) else (none))) else (none)) else (none)) else (none)) else (some x11)
def spec_l04Basis.f (k : Nat) (a0 : Int) (a1 : Int) (l2 : List (List Int)) : Option ((List (List Int))) := (spec_l04Rows.f k a0 a1 l2).bind fun bt101 => ((spec_l03Reduced.f k bt101.1 bt101.2.1 bt101.2.2.1 bt101.2.2.2).bind fun bt108 => (spec_l04Basis.l0 k a1 bt108.2.2.2.2.1 (([] : List (List Int))) 0 bt108.1 bt108.2.1 bt108.2.2.1 bt108.2.2.2.1))
theorem spec_l04Basis.mono_l : ∀ k, (∀ y0 y1 y2 y3 y4 y5 y6 y7, LeO (spec_l04Basis.l0 k y0 y1 y2 y3 y4 y5 y6 y7) (spec_l04Basis.l0 (k + 1) y0 y1 y2 y3 y4 y5 y6 y7))
  | 0 => fun _ _ _ _ _ _ _ _ r h => by simp [spec_l04Basis.l0] at h
  | k + 1 => by
    have ih0 := spec_l04Basis.mono_l k
    · intro y0 y1 y2 y3 y4 y5 y6 y7
      unfold spec_l04Basis.l0
      repeat' first
      | (with_reducible exact ih0 _ _ _ _ _ _ _ _)
      | (with_reducible exact spec_l03Reduced.mono _ _ _ _ _)
      | (with_reducible exact spec_l04Rows.mono _ _ _ _)
      | (with_reducible exact LeO.refl _)
      | (with_reducible exact LeO.none _)
      | (with_reducible refine LeO.ite ?_ ?_)
      | (with_reducible refine LeO.bind ?_ (fun _ => ?_))
      | exact ih0 _ _ _ _ _ _ _ _
      | exact spec_l03Reduced.mono _ _ _ _ _
      | exact spec_l04Rows.mono _ _ _ _
      | exact LeO.none _
      | refine LeO.ite ?_ ?_
      | refine LeO.bind ?_ (fun _ => ?_)
theorem spec_l04Basis.mono : ∀ a0 a1 a2 k, LeO (spec_l04Basis.f k a0 a1 a2) (spec_l04Basis.f (k + 1) a0 a1 a2) := by
  intro a0 a1 a2 k
  have ih0 := spec_l04Basis.mono_l k
  unfold spec_l04Basis.f
  repeat' first
      | (with_reducible exact ih0 _ _ _ _ _ _ _ _)
      | (with_reducible exact spec_l03Reduced.mono _ _ _ _ _)
      | (with_reducible exact spec_l04Rows.mono _ _ _ _)
      | (with_reducible exact LeO.refl _)
      | (with_reducible exact LeO.none _)
      | (with_reducible refine LeO.ite ?_ ?_)
      | (with_reducible refine LeO.bind ?_ (fun _ => ?_))
      | exact ih0 _ _ _ _ _ _ _ _
      | exact spec_l03Reduced.mono _ _ _ _ _
      | exact spec_l04Rows.mono _ _ _ _
      | exact LeO.none _
      | refine LeO.ite ?_ ?_
      | refine LeO.bind ?_ (fun _ => ?_)
theorem Z51.bb {w0 w w1 : World} {g : Nat} {o : Obj} (_B : Aside0 (w0.heap[g]? = some o)) (h : w.heap[g]? = some o) (hb : Below w.heap.size w w1) : w1.heap[g]? = some o := blk_below h hb
theorem Z51.bl {w0 w : World} {g : Nat} {o : Obj} (_B : Aside0 (w0.heap[g]? = some o)) (h : w.heap[g]? = some o) : g < w.heap.size := blk_lt h
theorem Z51.k {p : Prop} (h : p) : Aside0 p := ⟨h⟩
theorem Z51.z15 {P : Prop} (h : P := by repeat (first | (with_reducible exact HR125.out) | (with_reducible refine Kd.C_alloc ?_ _) | (with_reducible refine Kd.C_drewN ?_ _) | (with_reducible refine Kd.C_drew ?_) | exact HR125.out)) : P := h
theorem Z51.z14 {P : Prop} (h : P := by (try simp only [List.map_toArray, List.map_cons, List.map_nil]); first | done | rfl | (simp only [List.length_drop, List.length_take]; rfl)) : P := h
theorem Z51.z13 {P : Prop} (h : P := by (with_reducible repeat (first | apply Kd.R_alloc | apply Kd.R_drewN | apply Kd.R_drew)); exact HO_9.out) : P := h
theorem Z51.z12 {P : Prop} (h : P := by (with_reducible repeat (first | apply Kd.R_alloc | apply Kd.R_drewN | apply Kd.R_drew)); exact HO_108003.out) : P := h
theorem Z51.z11 {P : Prop} (h : P := by (with_reducible repeat (first | refine blk_drewN ?_ _ | refine blk_drew ?_ | refine blk_alloc ?_ _)); exact BK118.out) : P := h
theorem Z51.z10 {P : Prop} (h : P := by (with_reducible repeat (first | apply Kd.S_alloc | apply Kd.S_drewN | apply Kd.S_drew)); exact HO_11.out) : P := h
theorem Z51.z9 {P : Prop} (h : P := by (with_reducible repeat (first | apply Kd.R_alloc | apply Kd.R_drewN | apply Kd.R_drew)); exact (Kd.R_mono (Kd.R_far (p := ⟨gb118, 3, none⟩) (Kd.R_far (p := ⟨gb118, 2, none⟩) (Kd.R_far (p := ⟨gb118, 1, none⟩) (Kd.R_far (p := ⟨gb118, 0, none⟩) (Kd.R_types HO106.out BK118.out (by decide)) (fun _ hk => hk.2) (.int .i64 t108)) (fun _ hk => hk.2) (.int .i64 t109)) (fun _ hk => hk.2) (.int .i64 t110)) (fun _ hk => hk.2) (.slice Ao14 t111.length co14)) (fun _ h_ => h_.1))) : P := h
theorem Z51.z8 {P : Prop} (h : P := by (with_reducible repeat (first | apply Kd.R_alloc | apply Kd.R_drewN | apply Kd.R_drew)); exact (Kd.R_mono (Kd.R_far (p := ⟨gb118, 3, none⟩) (Kd.R_far (p := ⟨gb118, 2, none⟩) (Kd.R_far (p := ⟨gb118, 1, none⟩) (Kd.R_far (p := ⟨gb118, 0, none⟩) (Kd.R_types HO113.out BK118.out (by decide)) (fun _ hk => hk.2) (.int .i64 t108)) (fun _ hk => hk.2) (.int .i64 t109)) (fun _ hk => hk.2) (.int .i64 t110)) (fun _ hk => hk.2) (.slice Ao14 t111.length co14)) (fun _ h_ => h_.1))) : P := h
theorem Z51.z7 {P : Prop} (h : P := by (with_reducible repeat (first | apply Kd.R_alloc | apply Kd.R_drewN | apply Kd.R_drew)); exact (Kd.R_mono (Kd.R_far (p := ⟨gb118, 3, none⟩) (Kd.R_far (p := ⟨gb118, 2, none⟩) (Kd.R_far (p := ⟨gb118, 1, none⟩) (Kd.R_far (p := ⟨gb118, 0, none⟩) (Kd.R_types HO116.out BK118.out (by decide)) (fun _ hk => hk.2) (.int .i64 t108)) (fun _ hk => hk.2) (.int .i64 t109)) (fun _ hk => hk.2) (.int .i64 t110)) (fun _ hk => hk.2) (.slice Ao14 t111.length co14)) (fun _ h_ => h_.1))) : P := h
theorem Z51.z6 {P : Prop} (h : P := by (with_reducible repeat (first | apply Kd.R_alloc | apply Kd.R_drewN | apply Kd.R_drew)); exact HO_119003.out) : P := h
theorem Z51.z5 {P : Prop} (h : P := by repeat (first | (with_reducible first | exact HB.out | apply below_alloc | apply pw_below_drewN | apply below_drew1) | exact HB.out)) : P := h
theorem Z51.z4 {P : Prop} (h : P := by (with_reducible repeat (first | refine blk_drewN ?_ _ | refine blk_drew ?_ | refine blk_alloc ?_ _)); exact BK107.out) : P := h
theorem Z51.z3 {P : Prop} (h : P := by repeat (first | (with_reducible first | exact HB.out | apply below_alloc | apply pw_below_drewN | apply below_drew1 | refine below_set ?_ GE107.out) | exact HB.out)) : P := h
theorem Z51.z2 {P : Prop} (h : P := by (with_reducible repeat (first | refine blk_drewN ?_ _ | refine blk_drew ?_ | refine blk_alloc ?_ _)); refine blk_put (cs := #[.int .i64 t101, .int .i64 t102, .int .i64 t103, .slice none 0 0]) ?_ 3 _ rfl; (with_reducible repeat (first | refine blk_drewN ?_ _ | refine blk_drew ?_ | refine blk_alloc ?_ _)); refine blk_put (cs := #[.int .i64 t101, .int .i64 t102, .int .i64 0, .slice none 0 0]) ?_ 2 _ rfl; (with_reducible repeat (first | refine blk_drewN ?_ _ | refine blk_drew ?_ | refine blk_alloc ?_ _)); refine blk_put (cs := #[.int .i64 t101, .int .i64 0, .int .i64 0, .slice none 0 0]) ?_ 1 _ rfl; (with_reducible repeat (first | refine blk_drewN ?_ _ | refine blk_drew ?_ | refine blk_alloc ?_ _)); refine blk_put (cs := #[.int .i64 0, .int .i64 0, .int .i64 0, .slice none 0 0]) ?_ 0 _ rfl; (with_reducible repeat (first | refine blk_drewN ?_ _ | refine blk_drew ?_ | refine blk_alloc ?_ _)); exact BK107.out) : P := h
theorem Z51.z1 {P : Prop} (h : P := by (with_reducible repeat (first | apply Kd.R_alloc | apply Kd.R_drewN | apply Kd.R_drew)); exact (Kd.R_mono (Kd.R_far (p := ⟨gb107, 3, none⟩) (Kd.R_far (p := ⟨gb107, 2, none⟩) (Kd.R_far (p := ⟨gb107, 1, none⟩) (Kd.R_far (p := ⟨gb107, 0, none⟩) (Kd.R_types HO106.out BK107.out (by decide)) (fun _ hk => hk.2) (.int .i64 t101)) (fun _ hk => hk.2) (.int .i64 t102)) (fun _ hk => hk.2) (.int .i64 t103)) (fun _ hk => hk.2) (.slice Ao9 t104.length co9)) (fun _ h_ => h_.1))) : P := h
theorem Z51.z0 {P : Prop} (h : P := by repeat (first | (with_reducible first | exact HB.out | apply below_alloc | apply pw_below_drewN | apply below_drew1 | refine below_set ?_ GE107.out | refine below_set ?_ GE118.out) | exact HB.out)) : P := h
set_option maxHeartbeats 8000000 in
set_option maxRecDepth 100000 in
theorem spec_l04Basis.calls (k : Nat) (a0 : Int) (a1 : Int) (A2 : Option Addr) (c2 : Nat) (l2 : List (List Int)) (r : List (List Int)) (w : World) (hr2 : Kd.C (Kd.slice 2 (Kd.int .i64)) w A2 l2.length l2) (hc2 : l2.length ≤ c2) (h : spec_l04Basis.f k a0 a1 l2 = some r) :
  Calls Try.prog 51 #[.int .i64 a0, .int .i64 a1, .slice A2 l2.length c2] w fun e w' => ∃ v0_ : Value, e = .returned (v0_) ∧ Kd.S (Kd.slice 2 (Kd.int .i64)) 38 w' w.heap.size (fun _ => True) v0_ r ∧ Below w.heap.size w w' := by
 have hu43 := Try.underlying43
 have HR2 := Z51.k hr2
 have HC2 := Z51.k hc2
 clear hr2 hc2
 have HB := Z51.k (Below.refl w.heap.size w)
 have H : ((spec_l04Rows.f k a0 a1 l2).bind fun bt101 => ((spec_l03Reduced.f k bt101.1 bt101.2.1 bt101.2.2.1 bt101.2.2.2).bind fun bt108 => (spec_l04Basis.l0 k a1 bt108.2.2.2.2.1 (([] : List (List Int))) 0 bt108.1 bt108.2.1 bt108.2.2.1 bt108.2.2.2.1))) = some r := h
 clear h
 replace H := Option.bind_eq_some_iff.mp H
 obtain ⟨⟨t101, t102, t103, t104⟩, A40, H⟩ := H
 replace H : ((spec_l03Reduced.f k t101 t102 t103 t104).bind fun bt108 => (spec_l04Basis.l0 k a1 bt108.2.2.2.2.1 (([] : List (List Int))) 0 bt108.1 bt108.2.1 bt108.2.2.1 bt108.2.2.2.1)) = some r := H
 have A4 := Z51.k A40
 clear A40
 replace H := Option.bind_eq_some_iff.mp H
 obtain ⟨⟨t108, t109, t110, t111, t114, t117⟩, A50, H⟩ := H
 replace H : (spec_l04Basis.l0 k a1 t114 (([] : List (List Int))) 0 t108 t109 t110 t111) = some r := H
 have A5 := Z51.k A50
 clear A50
 obtain ⟨y119, hy119⟩ : ∃ y_ : List (List Int), y_ = (([] : List (List Int))) := ⟨_, rfl⟩
 replace H : (spec_l04Basis.l0 k a1 t114 y119 0 t108 t109 t110 t111) = some r := by first | (rw [hy119]; with_reducible exact H) | (have H2_ := (Option.bind_some _ _).symm.trans H; rw [hy119]; with_reducible exact H2_) | (have H2_ := (Option.bind_some _ _).symm.trans H; with_reducible exact H2_) | with_reducible exact H | (rw [hy119]; exact H) | exact H
 have Ny119 := Z51.k hy119
 clear hy119
 have H' := Z51.k H
 clear H
 go_enter Try.func51, Try.ntmps51
 go_wp2_with (first | ((with_reducible refine gate_callee (f := 73) rfl ?_); refine goesL_ (some 16) rfl rfl Try.func73 (by kernel_rfl) rfl #[.int .i64 a0, .int .i64 a1, .slice A2 l2.length c2] rfl Z51.z14 ?_; (with_reducible refine (spec_l04Rows.calls k a0 a1 _ _ l2 t101 t102 t103 t104 _ ?side1 ?side2 A4.out).mono ?_); (case side1 => exact (by repeat (first | exact HR2.out | (with_reducible refine Kd.C_alloc ?_ _) | (with_reducible refine Kd.C_drewN ?_ _) | (with_reducible refine Kd.C_drew ?_)))); (case side2 => exact HC2.out); rintro e w6 ⟨v105, rfl, ho0, hb⟩; refine ⟨_, rfl, ?_⟩; have n0_ := Z51.k (Kd.R_lower ho0 (below_size Z51.z5)); have n1_ := Z51.k (below_step Z51.z5 hb); clear HB; have HO106 := n0_; have HB := n1_; clear n0_ n1_; (try clear hb); (try clear hb2); (try clear hk); (try clear hi); (try clear ho0)) | ((with_reducible refine gate_dst (N := 7) rfl ?_); refine box_event ?hg (N := 7) ?hd (cs := #[.int .i64 0, .int .i64 0, .int .i64 0, .slice none 0 0]) (t := 43) ?hr ?_; (case hd => rfl); (case hg => rfl); (case hr => first | (go_simp; done) | (go_simp; rfl)); intro gb107 hg w7 hbox hb; have n0_ := Z51.k (Kd.R_below (by (with_reducible repeat (first | apply Kd.R_alloc | apply Kd.R_drewN | apply Kd.R_drew)); exact HO106.out) hb); have n1_ := Z51.k (below_step Z51.z5 hb); have n2_ := Z51.k (hbox); have n3_ := Z51.k (show w.heap.size ≤ gb107 from (by rw [hg]; exact (below_size Z51.z5))); have n4_ := Z51.k (show w.heap.size ≤ gb107 from (by rw [hg]; exact (below_size Z51.z5))); clear HO106 HB; have HO106 := n0_; have HB := n1_; have BK107 := n2_; have GW107 := n3_; have GE107 := n4_; clear n0_ n1_ n2_ n3_ n4_; clear hb hbox hg; have hcz8_0 : w7.cell? ⟨gb107, 0, none⟩ = some (.int .i64 0) := (blk_cell BK107.out 0).trans rfl; have hcz8_1 : w7.cell? ⟨gb107, 1, none⟩ = some (.int .i64 0) := (blk_cell BK107.out 1).trans rfl; have hcz8_2 : w7.cell? ⟨gb107, 2, none⟩ = some (.int .i64 0) := (blk_cell BK107.out 2).trans rfl; have hcz8_3 : w7.cell? ⟨gb107, 3, none⟩ = some (.slice none 0 0) := (blk_cell BK107.out 3).trans rfl; have hfz8_0 := blk_frozen BK107.out 0; have hfz8_1 := blk_frozen BK107.out 1; have hfz8_2 := blk_frozen BK107.out 2; have hfz8_3 := blk_frozen BK107.out 3; obtain ⟨Ao9, co9, eo9⟩ := Kd.R_slice HO106.out; subst eo9) | ((with_reducible refine gate_callee (f := 67) rfl ?_); refine goesL_ (some 18) rfl rfl Try.func67 (by kernel_rfl) rfl #[.pointer (some ⟨gb107, 0, none⟩)] rfl Z51.z14 ?_; (with_reducible refine (spec_l03Reduced.calls k t101 t102 t103 Ao9 co9 t104 t108 t109 t110 t111 t114 t117 _ ?side1 ?side2 ?side3 A5.out).mono ?_); (case side1 => exact (by refine (Kd.R_reads' (e := 2) (base := w.heap.size) (ok := fun k_ => True) (n := t104.length) (c := co9) ?_).2.2; exact Z51.z1)); (case side2 => exact (Kd.R_reads' HO106.out).2.1); (case side3 => exact Z51.z2); rintro e w10 ⟨v112, v115, rfl, ho0, ho1, hb⟩; refine ⟨_, rfl, ?_⟩; have n0_ := Z51.k (Kd.R_mono (Kd.R_told (Kd.R_told (Kd.R_old Z51.z1 hb) (Kd.R_base ho0)) (Kd.R_base ho1)) (fun _ h_ => h_.1)); have n1_ := Z51.k (Kd.R_lower (Kd.R_new' ho0 (Kd.R_lt Z51.z1)) (below_size Z51.z3)); have n2_ := Z51.k (Kd.R_lower (Kd.R_new' ho1 (Kd.R_lt Z51.z1)) (below_size Z51.z3)); have n3_ := Z51.k (blk_below (g := gb107) (o := .cells #[.int .i64 t101, .int .i64 t102, .int .i64 t103, .slice Ao9 t104.length co9] 43 (0, 0)) Z51.z2 hb); have n4_ := Z51.k (below_step Z51.z3 hb); clear HO106 BK107 HB; have HO106 := n0_; have HO113 := n1_; have HO116 := n2_; have BK107 := n3_; have HB := n4_; clear n0_ n1_ n2_ n3_ n4_; (try clear hb); (try clear hb2); (try clear hk); (try clear hi); (try clear ho0); (try clear ho1)) | ((with_reducible refine gate_dst (N := 8) rfl ?_); refine box_event ?hg (N := 8) ?hd (cs := #[.int .i64 0, .int .i64 0, .int .i64 0, .slice none 0 0]) (t := 43) ?hr ?_; (case hd => rfl); (case hg => rfl); (case hr => first | (go_simp; done) | (go_simp; rfl)); intro gb118 hg w11 hbox hb; have n0_ := Z51.k (Kd.R_below (by (with_reducible repeat (first | apply Kd.R_alloc | apply Kd.R_drewN | apply Kd.R_drew)); exact HO106.out) hb); have n1_ := Z51.k (Kd.R_below (by (with_reducible repeat (first | apply Kd.R_alloc | apply Kd.R_drewN | apply Kd.R_drew)); exact HO113.out) hb); have n2_ := Z51.k (Kd.R_below (by (with_reducible repeat (first | apply Kd.R_alloc | apply Kd.R_drewN | apply Kd.R_drew)); exact HO116.out) hb); have n3_ := Z51.k (Z51.bb BK107 Z51.z4 hb); have n4_ := Z51.k (below_step Z51.z3 hb); have n5_ := Z51.k (hbox); have n6_ := Z51.k (show w.heap.size ≤ gb118 from (by rw [hg]; exact (below_size Z51.z3))); have n7_ := Z51.k (show w.heap.size ≤ gb118 from (by rw [hg]; exact (below_size Z51.z3))); have n8_ := Z51.k (show gb107 ≠ gb118 from (by rw [hg]; exact Nat.ne_of_lt (Z51.bl BK107 Z51.z4))); have n9_ := Z51.k (show gb118 ≠ gb107 from (by rw [hg]; exact Nat.ne_of_gt (Z51.bl BK107 Z51.z4))); clear HO106 HO113 HO116 BK107 HB; have HO106 := n0_; have HO113 := n1_; have HO116 := n2_; have BK107 := n3_; have HB := n4_; have BK118 := n5_; have GW118 := n6_; have GE118 := n7_; have NB107_118 := n8_; have NB118_107 := n9_; clear n0_ n1_ n2_ n3_ n4_ n5_ n6_ n7_ n8_ n9_; clear hb hbox hg; have hnb12 := NB118_107.out; have hnc12 := NB107_118.out; have hcz13_0 : w11.cell? ⟨gb118, 0, none⟩ = some (.int .i64 0) := (blk_cell BK118.out 0).trans rfl; have hcz13_1 : w11.cell? ⟨gb118, 1, none⟩ = some (.int .i64 0) := (blk_cell BK118.out 1).trans rfl; have hcz13_2 : w11.cell? ⟨gb118, 2, none⟩ = some (.int .i64 0) := (blk_cell BK118.out 2).trans rfl; have hcz13_3 : w11.cell? ⟨gb118, 3, none⟩ = some (.slice none 0 0) := (blk_cell BK118.out 3).trans rfl; have hfz13_0 := blk_frozen BK118.out 0; have hfz13_1 := blk_frozen BK118.out 1; have hfz13_2 := blk_frozen BK118.out 2; have hfz13_3 := blk_frozen BK118.out 3; obtain ⟨Ao14, co14, eo14⟩ := Kd.R_slice HO113.out; subst eo14) | ((with_reducible refine gate_dst (N := 22) rfl ?_); refine Kd.S_lit (Kd.slice 2 (Kd.int .i64)) _ 38 ?hg (N := 22) ?hd (xs := ([] : List (List Int))) (inner := []) (ok := fun _ => True) (okp := fun _ => True) ?hr ?hp (fun _ hk => hk) trivial (Below.refl _ _) (Nat.le_refl _) (by simp) ?_; (case hd => rfl); (case hg => rfl); (case hr => first | (go_simp; done) | (go_simp; rfl)); (case hp => exact (Reps.none _ _)); intro v120 w15 ho16 hb hg_ hnew_; clear hg_ hnew_; (first | rw [← Ny119.out] at ho16 | (simp only [Int.reduceToNat] at ho16; rw [← Ny119.out] at ho16)); have n0_ := Z51.k (Kd.R_below Z51.z9 hb); have n1_ := Z51.k (Kd.R_below Z51.z8 hb); have n2_ := Z51.k (Kd.R_below Z51.z7 hb); have n3_ := Z51.k (Kd.S_lower (Kd.S_new' (Kd.S_new' (Kd.S_new' ho16 (Kd.R_lt Z51.z9)) (Kd.R_lt Z51.z8)) (Kd.R_lt Z51.z7)) (below_size Z51.z0)); have n4_ := Z51.k (Z51.bb BK107 (by (repeat (first | (with_reducible first | refine blk_drewN ?_ _ | refine blk_drew ?_ | refine blk_alloc ?_ _) | refine blk_far ?_ NB107_118.out _)); exact BK107.out) hb); have n5_ := Z51.k (blk_below (g := gb118) (o := .cells #[.int .i64 t108, .int .i64 t109, .int .i64 t110, .slice Ao14 t111.length co14] 43 (0, 0)) (by (with_reducible repeat (first | refine blk_drewN ?_ _ | refine blk_drew ?_ | refine blk_alloc ?_ _)); refine blk_put (cs := #[.int .i64 t108, .int .i64 t109, .int .i64 t110, .slice none 0 0]) ?_ 3 _ rfl; (with_reducible repeat (first | refine blk_drewN ?_ _ | refine blk_drew ?_ | refine blk_alloc ?_ _)); refine blk_put (cs := #[.int .i64 t108, .int .i64 t109, .int .i64 0, .slice none 0 0]) ?_ 2 _ rfl; (with_reducible repeat (first | refine blk_drewN ?_ _ | refine blk_drew ?_ | refine blk_alloc ?_ _)); refine blk_put (cs := #[.int .i64 t108, .int .i64 0, .int .i64 0, .slice none 0 0]) ?_ 1 _ rfl; (with_reducible repeat (first | refine blk_drewN ?_ _ | refine blk_drew ?_ | refine blk_alloc ?_ _)); refine blk_put (cs := #[.int .i64 0, .int .i64 0, .int .i64 0, .slice none 0 0]) ?_ 0 _ rfl; (with_reducible repeat (first | refine blk_drewN ?_ _ | refine blk_drew ?_ | refine blk_alloc ?_ _)); exact BK118.out) hb); have n6_ := Z51.k (below_step Z51.z0 hb); clear HO106 HO113 HO116 BK107 BK118 HB; have HO106 := n0_; have HO113 := n1_; have HO116 := n2_; have HO121 := n3_; have BK107 := n4_; have BK118 := n5_; have HB := n6_; clear n0_ n1_ n2_ n3_ n4_ n5_ n6_; clear hb ho16))
 go_loopg [11, 12] k (fun kq v11 v12 w' => ∃ (x11_1 : List (List Int)) (x12_1 : Int), v12 = .int .i64 x12_1 ∧ Aside0 (spec_l04Basis.l0 kq a1 t114 x11_1 x12_1 t108 t109 t110 t111 = some r) ∧ Aside0 (kq ≤ k) ∧ Aside0 (Kd.R (Kd.int .i64) 2 w' w.heap.size (fun k_ => some k_ ≠ ((.slice Ao9 t104.length co9) : Value).ownBlock ∧ some k_ ≠ ((.slice Ao14 t111.length co14) : Value).ownBlock) v115 t114) ∧ Aside0 (Kd.S (Kd.slice 2 (Kd.int .i64)) 38 w' w.heap.size (fun k_ => some k_ ≠ (v115 : Value).ownBlock ∧ some k_ ≠ ((.slice Ao9 t104.length co9) : Value).ownBlock ∧ some k_ ≠ ((.slice Ao14 t111.length co14) : Value).ownBlock) v11 x11_1) ∧ Aside0 (Kd.R (Kd.int .i64) 2 w' w.heap.size (fun k_ => some k_ ≠ (v115 : Value).ownBlock ∧ some k_ ≠ ((.slice Ao14 t111.length co14) : Value).ownBlock) (.slice Ao9 t104.length co9) t104) ∧ Aside0 (Kd.R (Kd.int .i64) 2 w' w.heap.size (fun k_ => some k_ ≠ (v115 : Value).ownBlock ∧ some k_ ≠ ((.slice Ao9 t104.length co9) : Value).ownBlock) (.slice Ao14 t111.length co14) t111) ∧ Aside0 (w'.heap[gb107]? = some (.cells #[.int .i64 t101, .int .i64 t102, .int .i64 t103, (.slice Ao9 t104.length co9)] 43 (0, 0))) ∧ Aside0 (w'.heap[gb118]? = some (.cells #[.int .i64 t108, .int .i64 t109, .int .i64 t110, (.slice Ao14 t111.length co14)] 43 (0, 0))) ∧ Aside0 (Below w.heap.size w w'))
 case atStart => exact ⟨(y119), (0), (by first | rfl | (simp; done) | (simp [*]; done)), H', ⟨Nat.le_refl _⟩, ⟨(by (with_reducible repeat (first | apply Kd.R_alloc | apply Kd.R_drewN | apply Kd.R_drew)); exact Kd.R_mono HO116.out (fun _ hk => ⟨hk.2, hk.1⟩))⟩, ⟨(by (with_reducible repeat (first | apply Kd.S_alloc | apply Kd.S_drewN | apply Kd.S_drew)); exact Kd.S_mono HO121.out (fun _ hk => ⟨hk.2, ⟨hk.1.1.2, hk.1.2⟩⟩))⟩, ⟨(by (with_reducible repeat (first | apply Kd.R_alloc | apply Kd.R_drewN | apply Kd.R_drew)); exact Kd.R_mono HO106.out (fun _ hk => ⟨hk.2, hk.1.2⟩))⟩, ⟨(by (with_reducible repeat (first | apply Kd.R_alloc | apply Kd.R_drewN | apply Kd.R_drew)); exact HO113.out)⟩, ⟨Z51.z4⟩, ⟨Z51.z11⟩, ⟨Z51.z0⟩⟩
 case round =>
  clear H'
  try clear c1
  try clear c2
  try clear p2
  try clear c5
  try clear c6
  try clear c7
  try clear c12
  try clear hcz13_0
  try clear hcz13_1
  try clear hcz13_2
  try clear hcz13_3
  try clear hcz8_0
  try clear hcz8_1
  try clear hcz8_2
  try clear hcz8_3
  try clear hfz13_0
  try clear hfz13_1
  try clear hfz13_2
  try clear hfz13_3
  try clear hfz8_0
  try clear hfz8_1
  try clear hfz8_2
  try clear hfz8_3
  obtain ⟨x11_1, x12_1, rfl, HA, HK1, HO_9, HO_11, HO_108003, HO_119003, BK107, BK118, HB⟩ := hrel
  cases gk with
  | zero => exact absurd HA.out (by simp [spec_l04Basis.l0])
  | succ k1 =>
   have H := HA.out
   clear HA
   simp only [spec_l04Basis.l0] at H
   by_cases c17 : x12_1 < (t114.length : Int)
   ·rw [if_pos c17] at H
    have c17b0 : decide (x12_1 < (t114.length : Int)) = true := decide_eq_true c17
    clear c17
    obtain ⟨ji18, hji18⟩ : ∃ j_ : Int, (wrap64 (x12_1 * a1)) = j_ := ⟨_, rfl⟩
    replace H : (if 0 ≤ (ji18) then (if (ji18) ≤ (wrap64 ((wrap64 (x12_1 + 1)) * a1)) then (if (wrap64 ((wrap64 (x12_1 + 1)) * a1)) ≤ (t111.length : Int) then ((spec_l00Own.f ((t111.take ((wrap64 ((wrap64 (x12_1 + 1)) * a1)) : Int).toNat).drop ((ji18) : Int).toNat)).bind fun t126 => (if x11_1.length < 5864062014805 then (spec_l04Basis.l0 k1 a1 t114 (x11_1 ++ [t126]) (wrap64 (x12_1 + 1)) t108 t109 t110 t111) else (none))) else (none)) else (none)) else (none)) = some r := by first | (rw [hji18] at H; exact H) | (simp only [hji18] at H ⊢; exact H)
    have hji18w : (IntKind.i64.wrap (x12_1 * a1)) = ji18 := (i64_w _).trans hji18
    by_cases c19 : 0 ≤ (ji18)
    ·rw [if_pos c19] at H
     have c19b0 := eq_true c19
     have c19b1 : decide (0 ≤ (ji18)) = true := decide_eq_true c19
     clear c19
     by_cases c20 : (ji18) ≤ (wrap64 ((wrap64 (x12_1 + 1)) * a1))
     ·rw [if_pos c20] at H
      have c20b0 := eq_true c20
      have c20b1 : decide ((ji18) ≤ (wrap64 ((wrap64 (x12_1 + 1)) * a1))) = true := decide_eq_true c20
      by_cases c21 : (wrap64 ((wrap64 (x12_1 + 1)) * a1)) ≤ (t111.length : Int)
      ·rw [if_pos c21] at H
       have c21b0 := eq_true c21
       have c21b1 : decide ((wrap64 ((wrap64 (x12_1 + 1)) * a1)) ≤ (t111.length : Int)) = true := decide_eq_true c21
       obtain ⟨y122, hy122⟩ : ∃ y_ : List Int, y_ = ((t111.take ((wrap64 ((wrap64 (x12_1 + 1)) * a1)) : Int).toNat).drop ((ji18) : Int).toNat) := ⟨_, rfl⟩
       replace H : ((spec_l00Own.f y122).bind fun t126 => (if x11_1.length < 5864062014805 then (spec_l04Basis.l0 k1 a1 t114 (x11_1 ++ [t126]) (wrap64 (x12_1 + 1)) t108 t109 t110 t111) else (none))) = some r := by first | (rw [hy122]; with_reducible exact H) | (have H2_ := (Option.bind_some _ _).symm.trans H; rw [hy122]; with_reducible exact H2_) | (have H2_ := (Option.bind_some _ _).symm.trans H; with_reducible exact H2_) | with_reducible exact H | (rw [hy122]; exact H) | exact H
       have Ny122 := Z51.k hy122
       clear hy122
       replace H := Option.bind_eq_some_iff.mp H
       obtain ⟨t126, A220, H⟩ := H
       replace H : (if x11_1.length < 5864062014805 then (spec_l04Basis.l0 k1 a1 t114 (x11_1 ++ [t126]) (wrap64 (x12_1 + 1)) t108 t109 t110 t111) else (none)) = some r := H
       have A22 := Z51.k A220
       clear A220
       by_cases c23 : x11_1.length < 5864062014805
       ·rw [if_pos c23] at H
        have LMc23 := Z51.k c23
        clear c23
        obtain ⟨y129, hy129⟩ : ∃ y_ : List (List Int), y_ = (x11_1 ++ [t126]) := ⟨_, rfl⟩
        replace H : (spec_l04Basis.l0 k1 a1 t114 y129 (wrap64 (x12_1 + 1)) t108 t109 t110 t111) = some r := by first | (rw [hy129]; with_reducible exact H) | (have H2_ := (Option.bind_some _ _).symm.trans H; rw [hy129]; with_reducible exact H2_) | (have H2_ := (Option.bind_some _ _).symm.trans H; with_reducible exact H2_) | with_reducible exact H | (rw [hy129]; exact H) | exact H
        have Ny129 := Z51.k hy129
        clear hy129
        have H' := Z51.k H
        clear H
        obtain ⟨Ao24, co24, eo24⟩ := Kd.R_slice HO_9.out
        subst eo24
        have hnb25 := NB118_107.out
        have hnc25 := NB107_118.out
        have hcz26_0 : wr.cell? ⟨gb118, 0, none⟩ = some (.int .i64 t108) := (blk_cell BK118.out 0).trans rfl
        have hcz26_1 : wr.cell? ⟨gb118, 1, none⟩ = some (.int .i64 t109) := (blk_cell BK118.out 1).trans rfl
        have hcz26_2 : wr.cell? ⟨gb118, 2, none⟩ = some (.int .i64 t110) := (blk_cell BK118.out 2).trans rfl
        have hcz26_3 : wr.cell? ⟨gb118, 3, none⟩ = some (.slice Ao14 t111.length co14) := (blk_cell BK118.out 3).trans rfl
        have hfz26_0 := blk_frozen BK118.out 0
        have hfz26_1 := blk_frozen BK118.out 1
        have hfz26_2 := blk_frozen BK118.out 2
        have hfz26_3 := blk_frozen BK118.out 3
        have q27 : ((wrap64 ((wrap64 (x12_1 + 1)) * a1)) : Int) ≤ ((t111.length : Int) : Int) := of_decide_eq_true (by first | (with_reducible assumption) | assumption)
        obtain ⟨i027, hi027, _, hsz27, _⟩ := info_parts info2
        have hroom27 : t111.length ≤ co14 := (Kd.R_reads' HO_119003.out).2.1
        have hC27 : Kd.C (Kd.int .i64) _ Ao14 t111.length t111 := (Kd.R_reads' HO_119003.out).2.2
        have ql27 : ((ji18) : Int) ≤ ((wrap64 ((wrap64 (x12_1 + 1)) * a1)) : Int) := of_decide_eq_true (by first | (with_reducible assumption) | assumption)
        have q027 : (0 : Int) ≤ ((ji18) : Int) := of_decide_eq_true (by first | (with_reducible assumption) | assumption)
        have hcut27 := cut_mid (P := Try.prog) 38 2 .i64 .i64 Try.underlying38 hi027 1 hsz27 Ao14 t111.length co14 (ji18) (wrap64 ((wrap64 (x12_1 + 1)) * a1)) q027 ql27 q27 hroom27
        have hr27 := Kd.C_mid (lo := ((ji18) : Int).toNat) (hi := ((wrap64 ((wrap64 (x12_1 + 1)) * a1)) : Int).toNat) (c := co14) hC27 (by omega) (by omega) hroom27
        obtain ⟨A27, hA27⟩ : ∃ A1, A1 = (if co14 = ((ji18) : Int).toNat then Ao14 else (Ao14 : Option Addr).map (·.add (((ji18) : Int).toNat * 1))) := ⟨_, rfl⟩
        obtain ⟨c27, hc27⟩ : ∃ c1, c1 = co14 - ((ji18) : Int).toNat := ⟨_, rfl⟩
        have hy27 : y122.length = ((wrap64 ((wrap64 (x12_1 + 1)) * a1)) : Int).toNat - ((ji18) : Int).toNat := (by rw [Ny122.out, List.length_drop, List.length_take] <;> omega)
        rw [show ((t111).take ((wrap64 ((wrap64 (x12_1 + 1)) * a1)) : Int).toNat).drop ((ji18) : Int).toNat = y122 from Ny122.out.symm] at hr27
        replace hr27 : Kd.C (Kd.int .i64) _ A27 y122.length y122 := (by rw [hA27]; exact hr27)
        rw [← hy27, ← hA27, ← hc27] at hcut27
        have HR125 := Z51.k hr27
        have HC125 := Z51.k (show y122.length ≤ c27 from by rw [hy27, hc27]; exact Nat.sub_le_sub_right (Nat.le_trans (by omega) hroom27) _)
        clear hr27 hC27 hroom27 hi027 hsz27 hc27
        have KY27 := Z51.k hy27
        have KA27 := Z51.k hA27
        clear hy27 hA27
        have KL27 := Z51.k (show ((wrap64 ((wrap64 (x12_1 + 1)) * a1)) : Int).toNat ≤ t111.length from by omega)
        have KM27 := Z51.k (show ((ji18) : Int).toNat ≤ ((wrap64 ((wrap64 (x12_1 + 1)) * a1)) : Int).toNat from by omega)
        replace q27 := eq_true q27
        go_wp2_with (first | ((with_reducible refine gate_callee (f := 74) rfl ?_); refine goesL_ (some 40) rfl rfl Try.func74 (by kernel_rfl) rfl #[.slice A27 y122.length c27] rfl Z51.z14 ?_; (with_reducible refine (spec_l00Own.calls _ _ y122 t126 _ ?side1 ?side2 A22.out).mono ?_); (case side1 => exact (by repeat (first | exact Z51.z15 | (with_reducible refine Kd.C_alloc ?_ _) | (with_reducible refine Kd.C_drewN ?_ _) | (with_reducible refine Kd.C_drew ?_)))); (case side2 => exact HC125.out); rintro e w28 ⟨v127, rfl, ho0, hb⟩; refine ⟨_, rfl, ?_⟩; have n0_ := Z51.k (Kd.R_elder' Z51.z13 (Kd.R_base ho0) hb); have n1_ := Z51.k (Kd.S_elder' Z51.z10 (Kd.R_base ho0) hb); have n2_ := Z51.k (Kd.R_elder' Z51.z12 (Kd.R_base ho0) hb); have n3_ := Z51.k (Kd.R_elder' Z51.z6 (Kd.R_base ho0) hb); have n4_ := Z51.k (Kd.R_lower (Kd.R_new' (Kd.R_new' (Kd.R_new' ho0 (Kd.R_lt Z51.z13)) (Kd.R_lt Z51.z12)) (Kd.R_lt Z51.z6)) (below_size Z51.z0)); have n5_ := Z51.k (Z51.bb BK107 Z51.z4 hb); have n6_ := Z51.k (Z51.bb BK118 Z51.z11 hb); have n7_ := Z51.k (Kd.C_below Z51.z15 hb); have n8_ := Z51.k (below_step Z51.z0 hb); clear HO_9 HO_11 HO_108003 HO_119003 BK107 BK118 HR125 HB; have HO_9 := n0_; have HO_11 := n1_; have HO_108003 := n2_; have HO_119003 := n3_; have HO128 := n4_; have BK107 := n5_; have BK118 := n6_; have HR125 := n7_; have HB := n8_; clear n0_ n1_ n2_ n3_ n4_ n5_ n6_ n7_ n8_; (try clear hb); (try clear hb2); (try clear hk); (try clear hi); (try clear ho0); obtain ⟨Ao30, co30, eo30⟩ := Kd.R_slice HO128.out; subst eo30) | ((with_reducible refine gate_builtin (b := .append) (xs := #[.tmp 29, .tmp 41]) rfl ?_); at_builtin; refine Kd.S_append (Kd.slice 2 (Kd.int .i64)) (w0 := w) w.heap.size rfl (.tmp 29) (.tmp 41) 22 38 (.slice none 0 0) 24 rfl Try.underlying22 info38 rfl (by decide) (by omega) u11 x11_1 t126 [.slice Ao30 t126.length co30] (fun k_ => some k_ ≠ (.slice Ao24 t114.length co24 : Value).ownBlock ∧ some k_ ≠ (.slice Ao9 t104.length co9 : Value).ownBlock ∧ some k_ ≠ (.slice Ao14 t111.length co14 : Value).ownBlock) (fun k_ => some k_ = (.slice Ao30 t126.length co30 : Value).ownBlock) rfl rfl ?aP (fun k_ hk_ => ((Kd.R_mono (ok' := fun k_ => ((fun k_ => some k_ ≠ (.slice Ao24 t114.length co24 : Value).ownBlock ∧ some k_ ≠ (.slice Ao9 t104.length co9 : Value).ownBlock ∧ some k_ ≠ (.slice Ao14 t111.length co14 : Value).ownBlock)) k_ ∧ some k_ ≠ (u11 : Value).ownBlock) (Kd.R_apart' (HO128.out) (Kd.S_typed HO_11.out) (by decide)) (fun k_ hk => ⟨⟨hk.1.1.1.2, ⟨hk.1.1.2, hk.1.2⟩⟩, hk.2⟩))).1 k_ hk_.symm) ?aF ?aO ?aB ?aS ?aL ?_; (case aP => exact Kd.M_row (Kd.R_mono (Kd.R_tight rfl (Kd.R_mono (ok' := fun k_ => ((fun k_ => some k_ ≠ (.slice Ao24 t114.length co24 : Value).ownBlock ∧ some k_ ≠ (.slice Ao9 t104.length co9 : Value).ownBlock ∧ some k_ ≠ (.slice Ao14 t111.length co14 : Value).ownBlock)) k_ ∧ some k_ ≠ (u11 : Value).ownBlock) (Kd.R_apart' (HO128.out) (Kd.S_typed HO_11.out) (by decide)) (fun k_ hk => ⟨⟨hk.1.1.1.2, ⟨hk.1.1.2, hk.1.2⟩⟩, hk.2⟩))) (fun _ h_ => h_))); (case aB => exact Z51.z0); (case aF => exact (fun k_ hk => ⟨Kd.fresh' (Kd.R_lt Z51.z13) k_ hk, Kd.fresh' (Kd.R_lt Z51.z12) k_ hk, Kd.fresh' (Kd.R_lt Z51.z6) k_ hk⟩)); (case aO => exact (by (with_reducible repeat (first | apply Kd.S_alloc | apply Kd.S_drewN | apply Kd.S_drew)); exact Kd.S_mono HO_11.out (fun k_ hk => ⟨⟨hk.1.1, ⟨hk.1.2.1, hk.1.2.2⟩⟩, fun e_ => hk.2 e_⟩))); (case aS => exact (below_size Z51.z0)); (case aL => have := LMc23.out; omega); intro v130 w29 ho hb hg hat; rw [← Ny129.out] at ho; have n0_ := Z51.k (Kd.R_over' Z51.z13 (Kd.S_typed Z51.z10) (by decide) hg); have n1_ := Z51.k (Kd.R_over' Z51.z12 (Kd.S_typed Z51.z10) (by decide) hg); have n2_ := Z51.k (Kd.R_over' Z51.z6 (Kd.S_typed Z51.z10) (by decide) hg); have n3_ := Z51.k (blk_grown (g := gb107) (o := .cells #[.int .i64 t101, .int .i64 t102, .int .i64 t103, .slice Ao9 t104.length co9] 43 (0, 0)) Z51.z4 hg (Kd.S_ne HO_11.out BK107.out (by decide))); have n4_ := Z51.k (blk_grown (g := gb118) (o := .cells #[.int .i64 t108, .int .i64 t109, .int .i64 t110, .slice Ao14 t111.length co14] 43 (0, 0)) Z51.z11 hg (Kd.S_ne HO_11.out BK118.out (by decide))); have n5_ := Z51.k (hb); have n6_ := Z51.k ((show Kd.C (Kd.int .i64) w29 A27 y122.length y122 from by rw [Ny122.out, KA27.out]; exact Kd.C_mid (lo := ((ji18) : Int).toNat) (hi := ((wrap64 ((wrap64 (x12_1 + 1)) * a1)) : Int).toNat) (c := co14) ((Kd.R_reads' (Kd.R_over' Z51.z6 (Kd.S_typed Z51.z10) (by decide) hg)).2.2) KM27.out KL27.out ((Kd.R_reads' (Kd.R_over' Z51.z6 (Kd.S_typed Z51.z10) (by decide) hg)).2.1))); have n7_ := Z51.k (ho); clear HO_9 HO_108003 HO_119003 BK107 BK118 HB HR125 HO_11 HO128; have HO_9 := n0_; have HO_108003 := n1_; have HO_119003 := n2_; have BK107 := n3_; have BK118 := n4_; have HB := n5_; have HR125 := n6_; have HO131 := n7_; clear n0_ n1_ n2_ n3_ n4_ n5_ n6_ n7_; clear ho hb hg hat))
        go_roundg k1
        case measure => have := HK1.out; omega
        case rel => exact ⟨(y129), (wrap64 (x12_1 + 1)), (by first | rfl | (simp; done) | (simp [*]; done)), H', ⟨(by have := HK1.out; omega)⟩, ⟨(by (with_reducible repeat (first | apply Kd.R_alloc | apply Kd.R_drewN | apply Kd.R_drew)); exact Kd.R_mono HO_9.out (fun _ hk => ⟨hk.1.1, hk.1.2⟩))⟩, ⟨(by (with_reducible repeat (first | apply Kd.S_alloc | apply Kd.S_drewN | apply Kd.S_drew)); exact HO131.out)⟩, ⟨(by (with_reducible repeat (first | apply Kd.R_alloc | apply Kd.R_drewN | apply Kd.R_drew)); exact Kd.R_mono HO_108003.out (fun _ hk => ⟨hk.1.1, hk.1.2⟩))⟩, ⟨(by (with_reducible repeat (first | apply Kd.R_alloc | apply Kd.R_drewN | apply Kd.R_drew)); exact Kd.R_mono HO_119003.out (fun _ hk => ⟨hk.1.1, hk.1.2⟩))⟩, ⟨Z51.z4⟩, ⟨Z51.z11⟩, ⟨Z51.z0⟩⟩
       rw [if_neg c23] at H
       exact absurd H (by simp)
      rw [if_neg c21] at H
      exact absurd H (by simp)
     rw [if_neg c20] at H
     exact absurd H (by simp)
    rw [if_neg c19] at H
    exact absurd H (by simp)
   rw [if_neg c17] at H
   have c17b0 : decide (x12_1 < (t114.length : Int)) = false := decide_eq_false c17
   clear c17
   obtain rfl := Option.some.inj H
   obtain ⟨Ao31, co31, eo31⟩ := Kd.R_slice HO_9.out
   subst eo31
   go_wp2
   go_ret
   exact ⟨_, (by first | rfl | (simp [errW_none, errW_some] <;> rfl) | (simp [*, errW_none, errW_some] <;> rfl)), (by (with_reducible repeat (first | apply Kd.S_alloc | apply Kd.S_drewN | apply Kd.S_drew)); exact Kd.S_mono HO_11.out (fun _ hk => trivial)), Z51.z0⟩


/-! ### spec_l04Space: function 39 -/
def spec_l04Space.f (k : Nat) (a0 : Int) (a1 : Int) (l2 : List (List Int)) : Option (Int × Int × (List (List Int))) := (spec_l04Basis.f k a0 a1 l2).bind fun t102 => (some (a0, a1, t102))
theorem spec_l04Space.mono : ∀ a0 a1 a2 k, LeO (spec_l04Space.f k a0 a1 a2) (spec_l04Space.f (k + 1) a0 a1 a2) := by
  intro a0 a1 a2 k
  unfold spec_l04Space.f
  repeat' first
      | (with_reducible exact spec_l04Basis.mono _ _ _ _)
      | (with_reducible exact LeO.refl _)
      | (with_reducible exact LeO.none _)
      | (with_reducible refine LeO.ite ?_ ?_)
      | (with_reducible refine LeO.bind ?_ (fun _ => ?_))
      | exact spec_l04Basis.mono _ _ _ _
      | exact LeO.none _
      | refine LeO.ite ?_ ?_
      | refine LeO.bind ?_ (fun _ => ?_)
theorem Z39.bb {w0 w w1 : World} {g : Nat} {o : Obj} (_B : Aside0 (w0.heap[g]? = some o)) (h : w.heap[g]? = some o) (hb : Below w.heap.size w w1) : w1.heap[g]? = some o := blk_below h hb
theorem Z39.bl {w0 w : World} {g : Nat} {o : Obj} (_B : Aside0 (w0.heap[g]? = some o)) (h : w.heap[g]? = some o) : g < w.heap.size := blk_lt h
theorem Z39.z1 {P : Prop} (h : P := by repeat (first | (with_reducible first | exact HB.out | apply below_alloc | apply pw_below_drewN | apply below_drew1) | exact HB.out)) : P := h
theorem Z39.z0 {P : Prop} (h : P := by repeat (first | (with_reducible first | exact HB.out | apply below_alloc | apply pw_below_drewN | apply below_drew1 | refine below_set ?_ GE101.out) | exact HB.out)) : P := h
set_option maxHeartbeats 8000000 in
set_option maxRecDepth 100000 in
theorem spec_l04Space.calls (k : Nat) (a0 : Int) (a1 : Int) (A2 : Option Addr) (c2 : Nat) (l2 : List (List Int)) (r1 : Int) (r2 : Int) (r3 : List (List Int)) (w : World) (hr2 : Kd.C (Kd.slice 2 (Kd.int .i64)) w A2 l2.length l2) (hc2 : l2.length ≤ c2) (h : spec_l04Space.f k a0 a1 l2 = some (r1, r2, r3)) :
  Calls Try.prog 39 #[.int .i64 a0, .int .i64 a1, .slice A2 l2.length c2] w fun e w' => ∃ v2_ : Value, e = .returned (.agg #[.int .i64 r1, .int .i64 r2, v2_]) ∧ Kd.S (Kd.slice 2 (Kd.int .i64)) 38 w' w.heap.size (fun _ => True) v2_ r3 ∧ Below w.heap.size w w' := by
 have hu27 := Try.underlying27
 have HR2 := Aside0.mk hr2
 have HC2 := Aside0.mk hc2
 clear hr2 hc2
 have HB := Aside0.mk (Below.refl w.heap.size w)
 have H : ((spec_l04Basis.f k a0 a1 l2).bind fun t102 => (some (a0, a1, t102))) = some (r1, r2, r3) := h
 clear h
 replace H := Option.bind_eq_some_iff.mp H
 obtain ⟨t102, A40, H⟩ := H
 replace H : (some (a0, a1, t102)) = some (r1, r2, r3) := H
 have A4 := Aside0.mk A40
 clear A40
 simp only [Option.some.injEq, Prod.mk.injEq] at H
 obtain ⟨rfl, rfl, rfl⟩ := H
 go_enter Try.func39, Try.ntmps39
 go_wp2_with (first | ((with_reducible refine gate_dst (N := 6) rfl ?_); refine box_event ?hg (N := 6) ?hd (cs := #[.int .i64 0, .int .i64 0, .slice none 0 0]) (t := 27) ?hr ?_; (case hd => rfl); (case hg => rfl); (case hr => first | (go_simp; done) | (go_simp; rfl)); intro gb101 hg w5 hbox hb; have n0_ := Aside0.mk (below_step Z39.z1 hb); have n1_ := Aside0.mk (hbox); have n2_ := Aside0.mk (show w.heap.size ≤ gb101 from (by rw [hg]; exact (below_size Z39.z1))); have n3_ := Aside0.mk (show w.heap.size ≤ gb101 from (by rw [hg]; exact (below_size Z39.z1))); clear HB; have HB := n0_; have BK101 := n1_; have GW101 := n2_; have GE101 := n3_; clear n0_ n1_ n2_ n3_; clear hb hbox hg) | ((with_reducible refine gate_callee (f := 51) rfl ?_); refine goesL_ (some 12) rfl rfl Try.func51 (by kernel_rfl) rfl #[.int .i64 a0, .int .i64 a1, .slice A2 l2.length c2] rfl (by (try simp only [List.map_toArray, List.map_cons, List.map_nil]); first | done | rfl | (simp only [List.length_drop, List.length_take]; rfl)) ?_; (with_reducible refine (spec_l04Basis.calls k a0 a1 _ _ l2 t102 _ ?side1 ?side2 A4.out).mono ?_); (case side1 => exact (by repeat (first | exact (Kd.C_below HR2.out HB.out) | (with_reducible refine Kd.C_alloc ?_ _) | (with_reducible refine Kd.C_drewN ?_ _) | (with_reducible refine Kd.C_drew ?_)))); (case side2 => exact HC2.out); rintro e w6 ⟨v103, rfl, ho0, hb⟩; refine ⟨_, rfl, ?_⟩; have n0_ := Aside0.mk (Kd.S_lower ho0 (below_size Z39.z0)); have n1_ := Aside0.mk (Z39.bb BK101 (by (with_reducible repeat (first | refine blk_drewN ?_ _ | refine blk_drew ?_ | refine blk_alloc ?_ _)); exact BK101.out) hb); have n2_ := Aside0.mk (below_step Z39.z0 hb); clear BK101 HB; have HO104 := n0_; have BK101 := n1_; have HB := n2_; clear n0_ n1_ n2_; (try clear hb); (try clear hb2); (try clear hk); (try clear hi); (try clear ho0); obtain ⟨Ao7, co7, eo7⟩ := Kd.S_slice HO104.out; subst eo7; have hcz8_0 : w6.cell? ⟨gb101, 0, none⟩ = some (.int .i64 0) := (blk_cell BK101.out 0).trans rfl; have hcz8_1 : w6.cell? ⟨gb101, 1, none⟩ = some (.int .i64 0) := (blk_cell BK101.out 1).trans rfl; have hcz8_2 : w6.cell? ⟨gb101, 2, none⟩ = some (.slice none 0 0) := (blk_cell BK101.out 2).trans rfl; have hfz8_0 := blk_frozen BK101.out 0; have hfz8_1 := blk_frozen BK101.out 1; have hfz8_2 := blk_frozen BK101.out 2))
 refine bodyPost_ret (results_cell_row rfl _ _ gb101 27 #[.int .i64 a0, .int .i64 a1, .slice Ao7 t102.length co7] (0, 0) _ rfl (by (with_reducible repeat (first | refine blk_drewN ?_ _ | refine blk_drew ?_ | refine blk_alloc ?_ _)); refine blk_put (cs := #[.int .i64 a0, .int .i64 a1, .slice none 0 0]) ?_ 2 _ rfl; (with_reducible repeat (first | refine blk_drewN ?_ _ | refine blk_drew ?_ | refine blk_alloc ?_ _)); refine blk_put (cs := #[.int .i64 a0, .int .i64 0, .slice none 0 0]) ?_ 1 _ rfl; (with_reducible repeat (first | refine blk_drewN ?_ _ | refine blk_drew ?_ | refine blk_alloc ?_ _)); refine blk_put (cs := #[.int .i64 0, .int .i64 0, .slice none 0 0]) ?_ 0 _ rfl; (with_reducible repeat (first | refine blk_drewN ?_ _ | refine blk_drew ?_ | refine blk_alloc ?_ _)); exact BK101.out) Try.underlying27 rfl (by kernel_rfl)) rfl ?_
 exact ⟨_, (by first | rfl | (simp [errW_none, errW_some] <;> rfl) | (simp [*, errW_none, errW_some] <;> rfl)), (by (with_reducible repeat (first | apply Kd.S_alloc | apply Kd.S_drewN | apply Kd.S_drew)); exact Kd.S_mono (Kd.S_far (p := ⟨gb101, 2, none⟩) (Kd.S_far (p := ⟨gb101, 1, none⟩) (Kd.S_far (p := ⟨gb101, 0, none⟩) (Kd.S_types HO104.out BK101.out (by decide)) (fun _ hk => hk.2) (.int .i64 a0)) (fun _ hk => hk.2) (.int .i64 a1)) (fun _ hk => hk.2) (.slice Ao7 t102.length co7)) (fun _ hk => trivial)), Z39.z0⟩

end Go.Proofs.Ytoibkfdmcajieaa.F
end
