-- Texts of this claim, merged by packw.py (a program of this session's).
import Derived.Test.YtmbbjmkcbpefhaaQFnExactContainsVector2
import Derived.Test.YtmbbjmkcbpefhaaQFnExactContainsVector3

section
namespace Go.Proofs.Ytmbbjmkcbpefhaa.F
open Go.RowKit Go.Proofs.YtmbbjmkcbpefhaaW.PrintWords Go.Proofs.YtmbbjmkcbpefhaaW.PrintLast Go.Proofs.YtmbbjmkcbpefhaaW.PrintMore
attribute [local go_sem] max2_int min2_int max_two min_two max_three min_three max_four min_four   -- for this text's walks alone
set_option linter.unusedVariables false
set_option linter.unusedSimpArgs false
/-! ### spec_l04Rows: function 76 -/
def spec_l04Rows.l0 : Nat → List (List Int) → Int → Int → Int → Int → List Int → Option (Int × Int × Int × List Int)
  | 0, _, _, _, _, _, _ => none
  | k + 1, x2, x8, x106000, x106001, x106002, x106003 => if x8 < (x2.length : Int) then (if 0 ≤ x8 then (if x106003.length + (rd_L1 x2 x8).length < 17592186044416 then (spec_l04Rows.l0 k x2 (wrap64 (x8 + 1)) x106000 x106001 x106002 (x106003 ++ (rd_L1 x2 x8))) else (none)) else (none)) else (some (x106000, x106001, x106002, x106003))
def spec_l04Rows.f (k : Nat) (a0 : Int) (a1 : Int) (l2 : List (List Int)) : Option (Int × Int × Int × List Int) := spec_l04Rows.l0 k l2 0 a0 (l2.length : Int) a1 (([] : List Int))
def spec_l04Rows.T5 : Bool × List (List Nat × List Nat) := (true, [([], []), ([0], [0]), ([], []), ([], []), ([2, 3], [2, 3]), ([4], [4]), ([1, 5], [1, 5]), ([0, 1, 2, 3, 4, 5, 6], []), ([7, 6, 6, 0, 1, 2, 3, 4, 5, 6], [6, 7])])
def spec_l04Rows.B5 : List Nat := [0, 1, 0, 0, 12, 28, 63, 127, 255]
theorem spec_l04Rows.tab5 : rtab .any (opsOf Try.f76 5) = spec_l04Rows.T5 := by kernel_rfl
theorem spec_l04Rows.bits5 : waitsOk spec_l04Rows.T5.2 spec_l04Rows.B5 = true := by kernel_rfl
theorem Z76.bb {w0 w w1 : World} {g : Nat} {o : Obj} (_B : Aside0 (w0.heap[g]? = some o)) (h : w.heap[g]? = some o) (hb : Below w.heap.size w w1) : w1.heap[g]? = some o := blk_below h hb
theorem Z76.bl {w0 w : World} {g : Nat} {o : Obj} (_B : Aside0 (w0.heap[g]? = some o)) (h : w.heap[g]? = some o) : g < w.heap.size := blk_lt h
theorem Z76.k {p : Prop} (h : p) : Aside0 p := ⟨h⟩
theorem Z76.z5 {P : Prop} (h : P := by (repeat (first | (with_reducible first | refine blk_drewN ?_ _ | refine blk_drew ?_ | refine blk_alloc ?_ _) | refine blk_far ?_ NB101_105.out _)); exact BK101.out) : P := h
theorem Z76.z4 {P : Prop} (h : P := by repeat (first | (with_reducible first | exact HB.out | apply below_alloc | apply pw_below_drewN | apply below_drew1) | exact HB.out)) : P := h
theorem Z76.z3 {P : Prop} (h : P := by (with_reducible repeat (first | refine blk_drewN ?_ _ | refine blk_drew ?_ | refine blk_alloc ?_ _)); exact BK101.out) : P := h
theorem Z76.z2 {P : Prop} (h : P := by simp only [Act.put, List.setIfInBounds_toArray, List.set_cons_zero, List.set_cons_succ, i64_w, i32_w]; rfl) : P := h
theorem Z76.z1 {P : Prop} (h : P := by repeat (first | (with_reducible first | exact HB.out | apply below_alloc | apply pw_below_drewN | apply below_drew1 | refine below_set ?_ GE101.out) | exact HB.out)) : P := h
theorem Z76.z0 {P : Prop} (h : P := by repeat (first | (with_reducible first | exact HB.out | apply below_alloc | apply pw_below_drewN | apply below_drew1 | refine below_set ?_ GE101.out | refine below_set ?_ GE105.out) | exact HB.out)) : P := h
set_option maxHeartbeats 8000000 in
set_option maxRecDepth 100000 in
theorem spec_l04Rows.calls (k : Nat) (a0 : Int) (a1 : Int) (A2 : Option Addr) (c2 : Nat) (l2 : List (List Int)) (r1 : Int) (r2 : Int) (r3 : Int) (r4 : List Int) (w : World) (hr2 : Kd.C (Kd.slice 2 (Kd.int .i64)) w A2 l2.length l2) (hc2 : l2.length ≤ c2) (h : spec_l04Rows.f k a0 a1 l2 = some (r1, r2, r3, r4)) :
  Calls Try.prog 76 #[.int .i64 a0, .int .i64 a1, .slice A2 l2.length c2] w fun e w' => ∃ v3_ : Value, e = .returned (.agg #[.int .i64 r1, .int .i64 r2, .int .i64 r3, v3_]) ∧ Kd.R (Kd.int .i64) 2 w' w.heap.size (fun _ => True) v3_ r4 ∧ Below w.heap.size w w' := by
 have hu28 := Try.underlying28
 have HR2 := Z76.k hr2
 have HC2 := Z76.k hc2
 clear hr2 hc2
 have HB := Z76.k (Below.refl w.heap.size w)
 have H : (spec_l04Rows.l0 k l2 0 a0 (l2.length : Int) a1 (([] : List Int))) = some (r1, r2, r3, r4) := h
 clear h
 obtain ⟨y102, hy102⟩ : ∃ y_ : List Int, y_ = (([] : List Int)) := ⟨_, rfl⟩
 replace H : (spec_l04Rows.l0 k l2 0 a0 (l2.length : Int) a1 y102) = some (r1, r2, r3, r4) := by first | (rw [hy102]; with_reducible exact H) | (have H2_ := (Option.bind_some _ _).symm.trans H; rw [hy102]; with_reducible exact H2_) | (have H2_ := (Option.bind_some _ _).symm.trans H; with_reducible exact H2_) | with_reducible exact H | (rw [hy102]; exact H) | exact H
 have Ny102 := Z76.k hy102
 clear hy102
 have H' := Z76.k H
 clear H
 go_enter Try.func76, Try.ntmps76
 go_wp2_with (first | ((with_reducible refine gate_dst (N := 6) rfl ?_); refine box_event ?hg (N := 6) ?hd (cs := #[.int .i64 0, .int .i64 0, .int .i64 0, .slice none 0 0]) (t := 28) ?hr ?_; (case hd => rfl); (case hg => rfl); (case hr => first | (go_simp; done) | (go_simp; rfl)); intro gb101 hg w4 hbox hb; have n0_ := Z76.k (below_step Z76.z4 hb); have n1_ := Z76.k (hbox); have n2_ := Z76.k (show w.heap.size ≤ gb101 from (by rw [hg]; exact (below_size Z76.z4))); have n3_ := Z76.k (show w.heap.size ≤ gb101 from (by rw [hg]; exact (below_size Z76.z4))); clear HB; have HB := n0_; have BK101 := n1_; have GW101 := n2_; have GE101 := n3_; clear n0_ n1_ n2_ n3_; clear hb hbox hg) | ((with_reducible refine gate_dst (N := 13) rfl ?_); refine Kd.R_lit (Kd.int .i64) _ 2 ?hg (N := 13) ?hd (xs := ([] : List Int)) (inner := []) (ok := fun _ => True) (okp := fun _ => True) ?hr ?hp (fun _ hk => hk) trivial (Below.refl _ _) (Nat.le_refl _) (by simp) ?_; (case hd => rfl); (case hg => rfl); (case hr => first | (go_simp; done) | (go_simp; rfl)); (case hp => exact (Reps.none _ _)); intro v103 w5 ho6 hb hg_ hnew_; clear hg_ hnew_; (first | rw [← Ny102.out] at ho6 | (simp only [Int.reduceToNat] at ho6; rw [← Ny102.out] at ho6)); have n0_ := Z76.k (Kd.R_lower ho6 (below_size Z76.z1)); have n1_ := Z76.k (Z76.bb BK101 Z76.z3 hb); have n2_ := Z76.k (below_step Z76.z1 hb); clear BK101 HB; have HO104 := n0_; have BK101 := n1_; have HB := n2_; clear n0_ n1_ n2_; clear hb ho6; obtain ⟨Ao7, co7, eo7⟩ := Kd.R_slice HO104.out; subst eo7) | ((with_reducible refine gate_dst (N := 7) rfl ?_); refine box_event ?hg (N := 7) ?hd (cs := #[.int .i64 0, .int .i64 0, .int .i64 0, .slice none 0 0]) (t := 28) ?hr ?_; (case hd => rfl); (case hg => rfl); (case hr => first | (go_simp; done) | (go_simp; rfl)); intro gb105 hg w8 hbox hb; have n0_ := Z76.k (Kd.R_below (by (with_reducible repeat (first | apply Kd.R_alloc | apply Kd.R_drewN | apply Kd.R_drew)); exact HO104.out) hb); have n1_ := Z76.k (Z76.bb BK101 Z76.z3 hb); have n2_ := Z76.k (below_step Z76.z1 hb); have n3_ := Z76.k (hbox); have n4_ := Z76.k (show w.heap.size ≤ gb105 from (by rw [hg]; exact (below_size Z76.z1))); have n5_ := Z76.k (show w.heap.size ≤ gb105 from (by rw [hg]; exact (below_size Z76.z1))); have n6_ := Z76.k (show gb101 ≠ gb105 from (by rw [hg]; exact Nat.ne_of_lt (Z76.bl BK101 Z76.z3))); have n7_ := Z76.k (show gb105 ≠ gb101 from (by rw [hg]; exact Nat.ne_of_gt (Z76.bl BK101 Z76.z3))); clear HO104 BK101 HB; have HO104 := n0_; have BK101 := n1_; have HB := n2_; have BK105 := n3_; have GW105 := n4_; have GE105 := n5_; have NB101_105 := n6_; have NB105_101 := n7_; clear n0_ n1_ n2_ n3_ n4_ n5_ n6_ n7_; clear hb hbox hg; have hnb9 := NB105_101.out; have hnc9 := NB101_105.out; have hcz10_0 : w8.cell? ⟨gb105, 0, none⟩ = some (.int .i64 0) := (blk_cell BK105.out 0).trans rfl; have hcz10_1 : w8.cell? ⟨gb105, 1, none⟩ = some (.int .i64 0) := (blk_cell BK105.out 1).trans rfl; have hcz10_2 : w8.cell? ⟨gb105, 2, none⟩ = some (.int .i64 0) := (blk_cell BK105.out 2).trans rfl; have hcz10_3 : w8.cell? ⟨gb105, 3, none⟩ = some (.slice none 0 0) := (blk_cell BK105.out 3).trans rfl; have hfz10_0 := blk_frozen BK105.out 0; have hfz10_1 := blk_frozen BK105.out 1; have hfz10_2 := blk_frozen BK105.out 2; have hfz10_3 := blk_frozen BK105.out 3))
 go_loopg [8] k (fun kq v8 w' => ∃ (x8_1 : Int) (x106003_1 : List Int) (u106003 : Value), v8 = .int .i64 x8_1 ∧ Aside0 (spec_l04Rows.l0 kq l2 x8_1 a0 (l2.length : Int) a1 x106003_1 = some (r1, r2, r3, r4)) ∧ Aside0 (kq ≤ k) ∧ Aside0 (Kd.R (Kd.int .i64) 2 w' w.heap.size (fun _ => True) u106003 x106003_1) ∧ Aside0 (w'.heap[gb101]? = some (.cells #[.int .i64 0, .int .i64 0, .int .i64 0, (.slice none 0 0)] 28 (0, 0))) ∧ Aside0 (w'.heap[gb105]? = some (.cells #[.int .i64 a0, .int .i64 (l2.length : Int), .int .i64 a1, u106003] 28 (0, 0))) ∧ Aside0 (Below w.heap.size w w'))
 case atStart => exact ⟨(0), (y102), (.slice Ao7 y102.length co7), (by first | rfl | (simp; done) | (simp [*]; done)), H', ⟨Nat.le_refl _⟩, ⟨(by (with_reducible repeat (first | apply Kd.R_alloc | apply Kd.R_drewN | apply Kd.R_drew)); exact Kd.R_mono (Kd.R_far (p := ⟨gb105, 3, none⟩) (Kd.R_far (p := ⟨gb105, 2, none⟩) (Kd.R_far (p := ⟨gb105, 1, none⟩) (Kd.R_far (p := ⟨gb105, 0, none⟩) (Kd.R_types HO104.out BK105.out (by decide)) (fun _ hk => hk.2) (.int .i64 a0)) (fun _ hk => hk.2) (.int .i64 (l2.length : Int))) (fun _ hk => hk.2) (.int .i64 a1)) (fun _ hk => hk.2) (.slice Ao7 y102.length co7)) (fun _ hk => trivial))⟩, ⟨Z76.z5⟩, ⟨(by (with_reducible repeat (first | refine blk_drewN ?_ _ | refine blk_drew ?_ | refine blk_alloc ?_ _)); refine blk_put (cs := #[.int .i64 a0, .int .i64 (l2.length : Int), .int .i64 a1, .slice none 0 0]) ?_ 3 _ rfl; (with_reducible repeat (first | refine blk_drewN ?_ _ | refine blk_drew ?_ | refine blk_alloc ?_ _)); refine blk_put (cs := #[.int .i64 a0, .int .i64 (l2.length : Int), .int .i64 0, .slice none 0 0]) ?_ 2 _ rfl; (with_reducible repeat (first | refine blk_drewN ?_ _ | refine blk_drew ?_ | refine blk_alloc ?_ _)); refine blk_put (cs := #[.int .i64 a0, .int .i64 0, .int .i64 0, .slice none 0 0]) ?_ 1 _ rfl; (with_reducible repeat (first | refine blk_drewN ?_ _ | refine blk_drew ?_ | refine blk_alloc ?_ _)); refine blk_put (cs := #[.int .i64 0, .int .i64 0, .int .i64 0, .slice none 0 0]) ?_ 0 _ rfl; (with_reducible repeat (first | refine blk_drewN ?_ _ | refine blk_drew ?_ | refine blk_alloc ?_ _)); exact BK105.out)⟩, ⟨Z76.z0⟩⟩
 case round =>
  clear H'
  try clear c2
  try clear p2
  try clear c7
  try clear c9
  try clear hcz10_0
  try clear hcz10_1
  try clear hcz10_2
  try clear hcz10_3
  try clear hfz10_0
  try clear hfz10_1
  try clear hfz10_2
  try clear hfz10_3
  obtain ⟨x8_1, x106003_1, u106003, rfl, HA, HK1, HO_106003, BK101, BK105, HB⟩ := hrel
  cases gk with
  | zero => exact absurd HA.out (by simp [spec_l04Rows.l0])
  | succ k1 =>
   have H := HA.out
   clear HA
   simp only [spec_l04Rows.l0] at H
   by_cases c11 : x8_1 < (l2.length : Int)
   ·rw [if_pos c11] at H
    have c11b0 : decide (x8_1 < (l2.length : Int)) = true := decide_eq_true c11
    clear c11
    by_cases c12 : 0 ≤ x8_1
    ·rw [if_pos c12] at H
     have c12b0 : decide (0 ≤ x8_1) = true := decide_eq_true c12
     clear c12
     by_cases c13 : x106003_1.length + (rd_L1 l2 x8_1).length < 17592186044416
     ·rw [if_pos c13] at H
      have LMc13 := Z76.k c13
      clear c13
      obtain ⟨y107, hy107⟩ : ∃ y_ : List Int, y_ = (x106003_1 ++ (rd_L1 l2 x8_1)) := ⟨_, rfl⟩
      replace H : (spec_l04Rows.l0 k1 l2 (wrap64 (x8_1 + 1)) a0 (l2.length : Int) a1 y107) = some (r1, r2, r3, r4) := by first | (rw [hy107]; with_reducible exact H) | (have H2_ := (Option.bind_some _ _).symm.trans H; rw [hy107]; with_reducible exact H2_) | (have H2_ := (Option.bind_some _ _).symm.trans H; with_reducible exact H2_) | with_reducible exact H | (rw [hy107]; exact H) | exact H
      have Ny107 := Z76.k hy107
      clear hy107
      have H' := Z76.k H
      clear H
      try go_wp2
      have n0_ := Z76.k (Kd.R_drew HO_106003.out)
      have n1_ := Z76.k (blk_drew BK101.out)
      have n2_ := Z76.k (blk_drew BK105.out)
      have n3_ := Z76.k (below_drew1 HB.out)
      clear HO_106003 BK101 BK105 HB
      have HO_106003 := n0_
      have BK101 := n1_
      have BK105 := n2_
      have HB := n3_
      clear n0_ n1_ n2_ n3_
      have p106 : 0 ≤ (x8_1 : Int) := of_decide_eq_true (by first | (with_reducible assumption) | assumption)
      have q106 : x8_1 < (l2.length : Int) := of_decide_eq_true (by first | (with_reducible assumption) | assumption)
      obtain ⟨ad106, A106_0, c106_0, e106, hx106_0, hl106_0, hi106_0⟩ := at_L1 HR2.out x8_1 p106 q106
      have hw106_0 := hx106_0
      cases e106
      replace hx106_0 := (HB.out.cell (World.block_lt_of_cell? w _ hx106_0)).trans hx106_0
      have HR106_0 := Z76.k hi106_0
      have HC106_0 := Z76.k hl106_0
      clear hi106_0 hl106_0
      replace p106 := eq_true p106
      replace q106 := eq_true q106
      refine start_ (n := 9) (S := fun w' => w'.cell? ⟨gb105, 0, none⟩ = some (.int .i64 a0) ∧ w'.cell? ⟨gb105, 1, none⟩ = some (.int .i64 (l2.length : Int)) ∧ w'.cell? ⟨gb105, 2, none⟩ = some (.int .i64 a1) ∧ w'.cell? ⟨gb105, 3, none⟩ = some (u106003) ∧ w'.cell? (ad106.add (x8_1).toNat) = some (.slice A106_0 (rd_L1 l2 x8_1).length c106_0)) (ds := [8]) #[false, false, false, false, false, false, false, false, false] (by kernel_rfl) rfl rfl ⟨(blk_cell BK105.out 0).trans rfl, (blk_cell BK105.out 1).trans rfl, (blk_cell BK105.out 2).trans rfl, (blk_cell BK105.out 3).trans rfl, ((HB.out.cell (World.block_lt_of_cell? w _ hw106_0)).trans hw106_0)⟩ (fun hHeld => ?_); refine with_tabW spec_l04Rows.tab5 spec_l04Rows.bits5 (fun HT_ HW_ => ?_)
      generalize wr.drew = w14 at HO_106003 BK101 BK105 HB HR106_0 hx106_0 hHeld ⊢
      refine pure_ (i := 0) (N := some 21) (v := ?_) (a' := ?_) #[true, false, false, false, false, false, false, false, false] rfl rfl (any_of HT_.out (by kernel_rfl)) (fun _ _ _ h => h) (Or.inl ⟨(by rfl), ?_⟩) ?_ ?_
      rotate_left
      ·intro w'
       go_simp
       with_reducible rfl
      rotate_left
      ·exact Z76.z2
      refine pure_ (i := 2) (N := some 23) (v := ?_) (a' := ?_) #[true, false, true, false, false, false, false, false, false] rfl rfl (any_of HT_.out (by kernel_rfl)) (fun _ _ _ h => h) (Or.inl ⟨(by rfl), ?_⟩) ?_ ?_
      rotate_left
      ·intro w'
       go_simp
       with_reducible rfl
      rotate_left
      ·exact Z76.z2
      refine pure_ (i := 3) (N := some 24) (v := ?_) (a' := ?_) #[true, false, true, true, false, false, false, false, false] rfl rfl (any_of HT_.out (by kernel_rfl)) (fun _ _ _ h => h) (Or.inl ⟨(by rfl), ?_⟩) ?_ ?_
      rotate_left
      ·intro w'
       go_simp
       with_reducible rfl
      rotate_left
      ·exact Z76.z2
      refine pure_ (i := 4) (N := some 25) (v := ?_) (a' := ?_) #[true, false, true, true, true, false, false, false, false] rfl rfl (any_of HT_.out (by kernel_rfl)) (fun _ _ _ h => h) (Or.inl ⟨(by rfl), ?_⟩) ?_ ?_
      rotate_left
      ·intro w'
       go_simp
       with_reducible rfl
      rotate_left
      ·exact Z76.z2
      refine take_ (i := 1) (N := some 22) (v := ?_) (a' := ?_) #[true, true, true, true, true, false, false, false, false] rfl rfl (take_ofW HT_.out HW_.out (by kernel_rfl)) (fun _ _ _ h => h) (Or.inl ⟨(by rfl), ?_⟩) hHeld ?_ ?_
      rotate_left
      ·rintro w' ⟨s0, s1, s2, s3, s4⟩
       go_simp
       with_reducible rfl
      rotate_left
      ·exact Z76.z2
      refine take_ (i := 5) (N := some 26) (v := ?_) (a' := ?_) #[true, true, true, true, true, true, false, false, false] rfl rfl (take_ofW HT_.out HW_.out (by kernel_rfl)) (fun _ _ _ h => h) (Or.inl ⟨(by rfl), ?_⟩) hHeld ?_ ?_
      rotate_left
      ·rintro w' ⟨s0, s1, s2, s3, s4⟩
       go_simp
       with_reducible rfl
      rotate_left
      ·exact Z76.z2
      refine one_ (i := 6) (N := some 27) #[true, true, true, true, true, true, true, false, false] rfl rfl (one_of HT_.out (by kernel_rfl)) (by decide) (fun K hK => ?_)
      refine Kd.R_append_rows_step (Kd.int .i64) (w0 := w) w.heap.size (by rfl) (.tmp 22) (.tmp 26) 22 2 (.int .i64 0) 8 rfl Try.underlying22 info2 rfl (by decide) (by omega) u106003 x106003_1 (rd_L1 l2 x8_1) _ _ _ (fun _ => True) (fun _ => False) rfl rfl ?aO ?aR (fun _ _ h => h) (fun _ h => h.elim) ?aF ?aB ?aS ?aL ?_
      (case aR => repeat (first | exact (Kd.C_below HR106_0.out HB.out) | (with_reducible refine Kd.C_alloc ?_ _) | (with_reducible refine Kd.C_drewN ?_ _) | (with_reducible refine Kd.C_drew ?_)))
      (case aB => exact Z76.z0)
      (case aF => exact (fun _ _ => trivial))
      (case aO => exact (by (with_reducible repeat (first | apply Kd.R_alloc | apply Kd.R_drewN | apply Kd.R_drew)); exact HO_106003.out))
      (case aS => exact (below_size Z76.z0))
      (case aL => have := LMc13.out; omega)
      intro v108 w15 ho hb hg hat
      rw [← Ny107.out] at ho
      have n0_ := Z76.k (blk_grown (g := gb101) (o := .cells #[.int .i64 0, .int .i64 0, .int .i64 0, .slice none 0 0] 28 (0, 0)) Z76.z3 hg (Kd.R_ne HO_106003.out BK101.out (by decide)))
      have n1_ := Z76.k (blk_grown (g := gb105) (o := .cells #[.int .i64 a0, .int .i64 (l2.length : Int), .int .i64 a1, u106003] 28 (0, 0)) (by (with_reducible repeat (first | refine blk_drewN ?_ _ | refine blk_drew ?_ | refine blk_alloc ?_ _)); exact BK105.out) hg (Kd.R_ne HO_106003.out BK105.out (by decide)))
      have n2_ := Z76.k (hb)
      have n3_ := Z76.k (ho)
      clear BK101 BK105 HB HO_106003
      have BK101 := n0_
      have BK105 := n1_
      have HB := n2_
      have HO109 := n3_
      clear n0_ n1_ n2_ n3_ ho hb hg hat
      obtain ⟨Ao16, co16, eo16⟩ := Kd.R_slice HO109.out
      (first | subst eo16 | (injection eo16 with f1_ f2_ f3_; have f4_ := f1_.symm; have f5_ := f3_.symm; clear f1_ f2_ f3_; subst f4_; subst f5_))
      refine hK.out _ _ ⟨(blk_cell BK105.out 0).trans rfl, (blk_cell BK105.out 1).trans rfl, (blk_cell BK105.out 2).trans rfl, (blk_cell BK105.out 3).trans rfl, ((HB.out.cell (World.block_lt_of_cell? w _ hw106_0)).trans hw106_0)⟩ (fun hHeld => ?_)
      clear hK K
      refine norm_ (a' := ?_) ?_ ?_
      rotate_left
      ·show Act.put _ (some 27) _ = _
       simp only [Act.put, List.setIfInBounds_toArray, List.set_cons_zero, List.set_cons_succ, i64_w, i32_w]
       rfl
      refine pure_ (i := 7) (N := some 28) (v := ?_) (a' := ?_) #[true, true, true, true, true, true, true, true, false] rfl rfl (any_of HT_.out (by kernel_rfl)) (fun _ _ _ h => h) (Or.inl ⟨(by rfl), ?_⟩) ?_ ?_
      rotate_left
      ·intro w'
       go_simp
       with_reducible rfl
      rotate_left
      ·exact Z76.z2
      refine last_ (i := 8) (N := none) #[true, true, true, true, true, true, true, true, true] rfl rfl (one_of HT_.out (by kernel_rfl)) (by decide) (fun K hK => ?_)
      have hs17 : w15.cell? ⟨gb105, 3, none⟩ = some (u106003) := (blk_cell BK105.out 3).trans rfl
      have hfs17 := blk_frozen BK105.out 3
      have hns17_0 := NB101_105.out
      have hms17_0 := NB105_101.out
      refine skip_ (w1 := ?_) (by rfl) rfl ?_ ?_
      rotate_left
      ·go_simp
       rfl
      refine hK.out _ _ ?_
      clear hK K
      refine done_ (done_of HT_.out (by kernel_rfl)) ?_
      try go_wp2
      go_roundg k1
      case measure => have := HK1.out; omega
      case rel => exact ⟨(wrap64 (x8_1 + 1)), (y107), (.slice Ao16 y107.length co16), (by first | rfl | (simp; done) | (simp [*]; done)), H', ⟨(by have := HK1.out; omega)⟩, ⟨(by (with_reducible repeat (first | apply Kd.R_alloc | apply Kd.R_drewN | apply Kd.R_drew)); exact Kd.R_mono (Kd.R_far (p := ⟨gb105, 3, none⟩) (Kd.R_types HO109.out BK105.out (by decide)) (fun _ hk => hk.2) (.slice Ao16 y107.length co16)) (fun _ hk => trivial))⟩, ⟨Z76.z5⟩, ⟨(by (with_reducible repeat (first | refine blk_drewN ?_ _ | refine blk_drew ?_ | refine blk_alloc ?_ _)); refine blk_put (cs := #[.int .i64 a0, .int .i64 (l2.length : Int), .int .i64 a1, u106003]) ?_ 3 _ rfl; (with_reducible repeat (first | refine blk_drewN ?_ _ | refine blk_drew ?_ | refine blk_alloc ?_ _)); exact BK105.out)⟩, ⟨Z76.z0⟩⟩
     rw [if_neg c13] at H
     exact absurd H (by simp)
    rw [if_neg c12] at H
    exact absurd H (by simp)
   rw [if_neg c11] at H
   have c11b0 : decide (x8_1 < (l2.length : Int)) = false := decide_eq_false c11
   clear c11
   simp only [Option.some.injEq, Prod.mk.injEq] at H
   obtain ⟨rfl, rfl, rfl, rfl⟩ := H
   have hnb18 := NB105_101.out
   have hnc18 := NB101_105.out
   have hcz19_0 : wr.cell? ⟨gb105, 0, none⟩ = some (.int .i64 a0) := (blk_cell BK105.out 0).trans rfl
   have hcz19_1 : wr.cell? ⟨gb105, 1, none⟩ = some (.int .i64 (l2.length : Int)) := (blk_cell BK105.out 1).trans rfl
   have hcz19_2 : wr.cell? ⟨gb105, 2, none⟩ = some (.int .i64 a1) := (blk_cell BK105.out 2).trans rfl
   have hcz19_3 : wr.cell? ⟨gb105, 3, none⟩ = some (u106003) := (blk_cell BK105.out 3).trans rfl
   have hfz19_0 := blk_frozen BK105.out 0
   have hfz19_1 := blk_frozen BK105.out 1
   have hfz19_2 := blk_frozen BK105.out 2
   have hfz19_3 := blk_frozen BK105.out 3
   have hcz20_0 : wr.cell? ⟨gb101, 0, none⟩ = some (.int .i64 0) := (blk_cell BK101.out 0).trans rfl
   have hcz20_1 : wr.cell? ⟨gb101, 1, none⟩ = some (.int .i64 0) := (blk_cell BK101.out 1).trans rfl
   have hcz20_2 : wr.cell? ⟨gb101, 2, none⟩ = some (.int .i64 0) := (blk_cell BK101.out 2).trans rfl
   have hcz20_3 : wr.cell? ⟨gb101, 3, none⟩ = some (.slice none 0 0) := (blk_cell BK101.out 3).trans rfl
   have hfz20_0 := blk_frozen BK101.out 0
   have hfz20_1 := blk_frozen BK101.out 1
   have hfz20_2 := blk_frozen BK101.out 2
   have hfz20_3 := blk_frozen BK101.out 3
   obtain ⟨Ao21, co21, eo21⟩ := Kd.R_slice HO_106003.out
   subst eo21
   go_wp2
   refine bodyPost_ret (results_cell_row rfl _ _ gb101 28 #[.int .i64 a0, .int .i64 (l2.length : Int), .int .i64 a1, .slice Ao21 x106003_1.length co21] (0, 0) _ rfl (by (with_reducible repeat (first | refine blk_drewN ?_ _ | refine blk_drew ?_ | refine blk_alloc ?_ _)); refine blk_put (cs := #[.int .i64 a0, .int .i64 (l2.length : Int), .int .i64 a1, .slice none 0 0]) ?_ 3 _ rfl; (with_reducible repeat (first | refine blk_drewN ?_ _ | refine blk_drew ?_ | refine blk_alloc ?_ _)); refine blk_put (cs := #[.int .i64 a0, .int .i64 (l2.length : Int), .int .i64 0, .slice none 0 0]) ?_ 2 _ rfl; (with_reducible repeat (first | refine blk_drewN ?_ _ | refine blk_drew ?_ | refine blk_alloc ?_ _)); refine blk_put (cs := #[.int .i64 a0, .int .i64 0, .int .i64 0, .slice none 0 0]) ?_ 1 _ rfl; (with_reducible repeat (first | refine blk_drewN ?_ _ | refine blk_drew ?_ | refine blk_alloc ?_ _)); refine blk_put (cs := #[.int .i64 0, .int .i64 0, .int .i64 0, .slice none 0 0]) ?_ 0 _ rfl; (with_reducible repeat (first | refine blk_drewN ?_ _ | refine blk_drew ?_ | refine blk_alloc ?_ _)); exact BK101.out) Try.underlying28 rfl (by kernel_rfl)) rfl ?_
   exact ⟨_, (by first | rfl | (simp [errW_none, errW_some] <;> rfl) | (simp [*, errW_none, errW_some] <;> rfl)), (by (with_reducible repeat (first | apply Kd.R_alloc | apply Kd.R_drewN | apply Kd.R_drew)); exact Kd.R_mono (Kd.R_far (p := ⟨gb101, 3, none⟩) (Kd.R_far (p := ⟨gb101, 2, none⟩) (Kd.R_far (p := ⟨gb101, 1, none⟩) (Kd.R_far (p := ⟨gb101, 0, none⟩) (Kd.R_types HO_106003.out BK101.out (by decide)) (fun _ hk => hk.2) (.int .i64 a0)) (fun _ hk => hk.2) (.int .i64 (l2.length : Int))) (fun _ hk => hk.2) (.int .i64 a1)) (fun _ hk => hk.2) (.slice Ao21 x106003_1.length co21)) (fun _ hk => trivial)), Z76.z0⟩
/-! ### spec_l04Basis: function 65 -/
def spec_l04Basis.l0 : Nat → Int → List Int → List (List Int) → Int → Int → Int → Int → List Int → Option ((List (List Int)))
  | 0, _, _, _, _, _, _, _, _ => none
  | k + 1, x1, x9, x11, x12, x119000, x119001, x119002, x119003 => if x12 < (x9.length : Int) then (if 0 ≤ (wrap64 (x12 * x1)) then (if (wrap64 (x12 * x1)) ≤ (wrap64 ((wrap64 (x12 + 1)) * x1)) then (if (wrap64 ((wrap64 (x12 + 1)) * x1)) ≤ (x119003.length : Int) then ((spec_l00Own.f ((x119003.take ((wrap64 ((wrap64 (x12 + 1)) * x1)) : Int).toNat).drop ((wrap64 (x12 * x1)) : Int).toNat)).bind fun t126 => (if x11.length < 5864062014805 then (spec_l04Basis.l0 k x1 x9 (x11 ++ [t126]) (wrap64 (x12 + 1)) x119000 x119001 x119002 x119003) else (none))) else (none)) else (none)) else (none)) else (some x11)
def spec_l04Basis.f (k : Nat) (a0 : Int) (a1 : Int) (l2 : List (List Int)) : Option ((List (List Int))) := (spec_l04Rows.f k a0 a1 l2).bind fun bt101 => ((spec_l03Reduced.f k bt101.1 bt101.2.1 bt101.2.2.1 bt101.2.2.2).bind fun bt108 => (spec_l04Basis.l0 k a1 bt108.2.2.2.2.1 (([] : List (List Int))) 0 bt108.1 bt108.2.1 bt108.2.2.1 bt108.2.2.2.1))
theorem Z65.bb {w0 w w1 : World} {g : Nat} {o : Obj} (_B : Aside0 (w0.heap[g]? = some o)) (h : w.heap[g]? = some o) (hb : Below w.heap.size w w1) : w1.heap[g]? = some o := blk_below h hb
theorem Z65.bl {w0 w : World} {g : Nat} {o : Obj} (_B : Aside0 (w0.heap[g]? = some o)) (h : w.heap[g]? = some o) : g < w.heap.size := blk_lt h
theorem Z65.k {p : Prop} (h : p) : Aside0 p := ⟨h⟩
theorem Z65.z15 {P : Prop} (h : P := by repeat (first | (with_reducible exact HR125.out) | (with_reducible refine Kd.C_alloc ?_ _) | (with_reducible refine Kd.C_drewN ?_ _) | (with_reducible refine Kd.C_drew ?_) | exact HR125.out)) : P := h
theorem Z65.z14 {P : Prop} (h : P := by (try simp only [List.map_toArray, List.map_cons, List.map_nil]); first | done | rfl | (simp only [List.length_drop, List.length_take]; rfl)) : P := h
theorem Z65.z13 {P : Prop} (h : P := by (with_reducible repeat (first | apply Kd.R_alloc | apply Kd.R_drewN | apply Kd.R_drew)); exact HO_9.out) : P := h
theorem Z65.z12 {P : Prop} (h : P := by (with_reducible repeat (first | apply Kd.R_alloc | apply Kd.R_drewN | apply Kd.R_drew)); exact HO_108003.out) : P := h
theorem Z65.z11 {P : Prop} (h : P := by (with_reducible repeat (first | refine blk_drewN ?_ _ | refine blk_drew ?_ | refine blk_alloc ?_ _)); exact BK118.out) : P := h
theorem Z65.z10 {P : Prop} (h : P := by (with_reducible repeat (first | apply Kd.S_alloc | apply Kd.S_drewN | apply Kd.S_drew)); exact HO_11.out) : P := h
theorem Z65.z9 {P : Prop} (h : P := by (with_reducible repeat (first | apply Kd.R_alloc | apply Kd.R_drewN | apply Kd.R_drew)); exact (Kd.R_mono (Kd.R_far (p := ⟨gb118, 3, none⟩) (Kd.R_far (p := ⟨gb118, 2, none⟩) (Kd.R_far (p := ⟨gb118, 1, none⟩) (Kd.R_far (p := ⟨gb118, 0, none⟩) (Kd.R_types HO106.out BK118.out (by decide)) (fun _ hk => hk.2) (.int .i64 t108)) (fun _ hk => hk.2) (.int .i64 t109)) (fun _ hk => hk.2) (.int .i64 t110)) (fun _ hk => hk.2) (.slice Ao14 t111.length co14)) (fun _ h_ => h_.1))) : P := h
theorem Z65.z8 {P : Prop} (h : P := by (with_reducible repeat (first | apply Kd.R_alloc | apply Kd.R_drewN | apply Kd.R_drew)); exact (Kd.R_mono (Kd.R_far (p := ⟨gb118, 3, none⟩) (Kd.R_far (p := ⟨gb118, 2, none⟩) (Kd.R_far (p := ⟨gb118, 1, none⟩) (Kd.R_far (p := ⟨gb118, 0, none⟩) (Kd.R_types HO113.out BK118.out (by decide)) (fun _ hk => hk.2) (.int .i64 t108)) (fun _ hk => hk.2) (.int .i64 t109)) (fun _ hk => hk.2) (.int .i64 t110)) (fun _ hk => hk.2) (.slice Ao14 t111.length co14)) (fun _ h_ => h_.1))) : P := h
theorem Z65.z7 {P : Prop} (h : P := by (with_reducible repeat (first | apply Kd.R_alloc | apply Kd.R_drewN | apply Kd.R_drew)); exact (Kd.R_mono (Kd.R_far (p := ⟨gb118, 3, none⟩) (Kd.R_far (p := ⟨gb118, 2, none⟩) (Kd.R_far (p := ⟨gb118, 1, none⟩) (Kd.R_far (p := ⟨gb118, 0, none⟩) (Kd.R_types HO116.out BK118.out (by decide)) (fun _ hk => hk.2) (.int .i64 t108)) (fun _ hk => hk.2) (.int .i64 t109)) (fun _ hk => hk.2) (.int .i64 t110)) (fun _ hk => hk.2) (.slice Ao14 t111.length co14)) (fun _ h_ => h_.1))) : P := h
theorem Z65.z6 {P : Prop} (h : P := by (with_reducible repeat (first | apply Kd.R_alloc | apply Kd.R_drewN | apply Kd.R_drew)); exact HO_119003.out) : P := h
theorem Z65.z5 {P : Prop} (h : P := by repeat (first | (with_reducible first | exact HB.out | apply below_alloc | apply pw_below_drewN | apply below_drew1) | exact HB.out)) : P := h
theorem Z65.z4 {P : Prop} (h : P := by (with_reducible repeat (first | refine blk_drewN ?_ _ | refine blk_drew ?_ | refine blk_alloc ?_ _)); exact BK107.out) : P := h
theorem Z65.z3 {P : Prop} (h : P := by repeat (first | (with_reducible first | exact HB.out | apply below_alloc | apply pw_below_drewN | apply below_drew1 | refine below_set ?_ GE107.out) | exact HB.out)) : P := h
theorem Z65.z2 {P : Prop} (h : P := by (with_reducible repeat (first | refine blk_drewN ?_ _ | refine blk_drew ?_ | refine blk_alloc ?_ _)); refine blk_put (cs := #[.int .i64 t101, .int .i64 t102, .int .i64 t103, .slice none 0 0]) ?_ 3 _ rfl; (with_reducible repeat (first | refine blk_drewN ?_ _ | refine blk_drew ?_ | refine blk_alloc ?_ _)); refine blk_put (cs := #[.int .i64 t101, .int .i64 t102, .int .i64 0, .slice none 0 0]) ?_ 2 _ rfl; (with_reducible repeat (first | refine blk_drewN ?_ _ | refine blk_drew ?_ | refine blk_alloc ?_ _)); refine blk_put (cs := #[.int .i64 t101, .int .i64 0, .int .i64 0, .slice none 0 0]) ?_ 1 _ rfl; (with_reducible repeat (first | refine blk_drewN ?_ _ | refine blk_drew ?_ | refine blk_alloc ?_ _)); refine blk_put (cs := #[.int .i64 0, .int .i64 0, .int .i64 0, .slice none 0 0]) ?_ 0 _ rfl; (with_reducible repeat (first | refine blk_drewN ?_ _ | refine blk_drew ?_ | refine blk_alloc ?_ _)); exact BK107.out) : P := h
theorem Z65.z1 {P : Prop} (h : P := by (with_reducible repeat (first | apply Kd.R_alloc | apply Kd.R_drewN | apply Kd.R_drew)); exact (Kd.R_mono (Kd.R_far (p := ⟨gb107, 3, none⟩) (Kd.R_far (p := ⟨gb107, 2, none⟩) (Kd.R_far (p := ⟨gb107, 1, none⟩) (Kd.R_far (p := ⟨gb107, 0, none⟩) (Kd.R_types HO106.out BK107.out (by decide)) (fun _ hk => hk.2) (.int .i64 t101)) (fun _ hk => hk.2) (.int .i64 t102)) (fun _ hk => hk.2) (.int .i64 t103)) (fun _ hk => hk.2) (.slice Ao9 t104.length co9)) (fun _ h_ => h_.1))) : P := h
theorem Z65.z0 {P : Prop} (h : P := by repeat (first | (with_reducible first | exact HB.out | apply below_alloc | apply pw_below_drewN | apply below_drew1 | refine below_set ?_ GE107.out | refine below_set ?_ GE118.out) | exact HB.out)) : P := h
set_option maxHeartbeats 8000000 in
set_option maxRecDepth 100000 in
theorem spec_l04Basis.calls (k : Nat) (a0 : Int) (a1 : Int) (A2 : Option Addr) (c2 : Nat) (l2 : List (List Int)) (r : List (List Int)) (w : World) (hr2 : Kd.C (Kd.slice 2 (Kd.int .i64)) w A2 l2.length l2) (hc2 : l2.length ≤ c2) (h : spec_l04Basis.f k a0 a1 l2 = some r) :
  Calls Try.prog 65 #[.int .i64 a0, .int .i64 a1, .slice A2 l2.length c2] w fun e w' => ∃ v0_ : Value, e = .returned (v0_) ∧ Kd.S (Kd.slice 2 (Kd.int .i64)) 22 w' w.heap.size (fun _ => True) v0_ r ∧ Below w.heap.size w w' := by
 have hu28 := Try.underlying28
 have HR2 := Z65.k hr2
 have HC2 := Z65.k hc2
 clear hr2 hc2
 have HB := Z65.k (Below.refl w.heap.size w)
 have H : ((spec_l04Rows.f k a0 a1 l2).bind fun bt101 => ((spec_l03Reduced.f k bt101.1 bt101.2.1 bt101.2.2.1 bt101.2.2.2).bind fun bt108 => (spec_l04Basis.l0 k a1 bt108.2.2.2.2.1 (([] : List (List Int))) 0 bt108.1 bt108.2.1 bt108.2.2.1 bt108.2.2.2.1))) = some r := h
 clear h
 replace H := Option.bind_eq_some_iff.mp H
 obtain ⟨⟨t101, t102, t103, t104⟩, A40, H⟩ := H
 replace H : ((spec_l03Reduced.f k t101 t102 t103 t104).bind fun bt108 => (spec_l04Basis.l0 k a1 bt108.2.2.2.2.1 (([] : List (List Int))) 0 bt108.1 bt108.2.1 bt108.2.2.1 bt108.2.2.2.1)) = some r := H
 have A4 := Z65.k A40
 clear A40
 replace H := Option.bind_eq_some_iff.mp H
 obtain ⟨⟨t108, t109, t110, t111, t114, t117⟩, A50, H⟩ := H
 replace H : (spec_l04Basis.l0 k a1 t114 (([] : List (List Int))) 0 t108 t109 t110 t111) = some r := H
 have A5 := Z65.k A50
 clear A50
 obtain ⟨y119, hy119⟩ : ∃ y_ : List (List Int), y_ = (([] : List (List Int))) := ⟨_, rfl⟩
 replace H : (spec_l04Basis.l0 k a1 t114 y119 0 t108 t109 t110 t111) = some r := by first | (rw [hy119]; with_reducible exact H) | (have H2_ := (Option.bind_some _ _).symm.trans H; rw [hy119]; with_reducible exact H2_) | (have H2_ := (Option.bind_some _ _).symm.trans H; with_reducible exact H2_) | with_reducible exact H | (rw [hy119]; exact H) | exact H
 have Ny119 := Z65.k hy119
 clear hy119
 have H' := Z65.k H
 clear H
 go_enter Try.func65, Try.ntmps65
 go_wp2_with (first | ((with_reducible refine gate_callee (f := 76) rfl ?_); refine goesL_ (some 16) rfl rfl Try.func76 (by kernel_rfl) rfl #[.int .i64 a0, .int .i64 a1, .slice A2 l2.length c2] rfl Z65.z14 ?_; (with_reducible refine (spec_l04Rows.calls k a0 a1 _ _ l2 t101 t102 t103 t104 _ ?side1 ?side2 A4.out).mono ?_); (case side1 => exact (by repeat (first | exact HR2.out | (with_reducible refine Kd.C_alloc ?_ _) | (with_reducible refine Kd.C_drewN ?_ _) | (with_reducible refine Kd.C_drew ?_)))); (case side2 => exact HC2.out); rintro e w6 ⟨v105, rfl, ho0, hb⟩; refine ⟨_, rfl, ?_⟩; have n0_ := Z65.k (Kd.R_lower ho0 (below_size Z65.z5)); have n1_ := Z65.k (below_step Z65.z5 hb); clear HB; have HO106 := n0_; have HB := n1_; clear n0_ n1_; (try clear hb); (try clear hb2); (try clear hk); (try clear hi); (try clear ho0)) | ((with_reducible refine gate_dst (N := 7) rfl ?_); refine box_event ?hg (N := 7) ?hd (cs := #[.int .i64 0, .int .i64 0, .int .i64 0, .slice none 0 0]) (t := 28) ?hr ?_; (case hd => rfl); (case hg => rfl); (case hr => first | (go_simp; done) | (go_simp; rfl)); intro gb107 hg w7 hbox hb; have n0_ := Z65.k (Kd.R_below (by (with_reducible repeat (first | apply Kd.R_alloc | apply Kd.R_drewN | apply Kd.R_drew)); exact HO106.out) hb); have n1_ := Z65.k (below_step Z65.z5 hb); have n2_ := Z65.k (hbox); have n3_ := Z65.k (show w.heap.size ≤ gb107 from (by rw [hg]; exact (below_size Z65.z5))); have n4_ := Z65.k (show w.heap.size ≤ gb107 from (by rw [hg]; exact (below_size Z65.z5))); clear HO106 HB; have HO106 := n0_; have HB := n1_; have BK107 := n2_; have GW107 := n3_; have GE107 := n4_; clear n0_ n1_ n2_ n3_ n4_; clear hb hbox hg; have hcz8_0 : w7.cell? ⟨gb107, 0, none⟩ = some (.int .i64 0) := (blk_cell BK107.out 0).trans rfl; have hcz8_1 : w7.cell? ⟨gb107, 1, none⟩ = some (.int .i64 0) := (blk_cell BK107.out 1).trans rfl; have hcz8_2 : w7.cell? ⟨gb107, 2, none⟩ = some (.int .i64 0) := (blk_cell BK107.out 2).trans rfl; have hcz8_3 : w7.cell? ⟨gb107, 3, none⟩ = some (.slice none 0 0) := (blk_cell BK107.out 3).trans rfl; have hfz8_0 := blk_frozen BK107.out 0; have hfz8_1 := blk_frozen BK107.out 1; have hfz8_2 := blk_frozen BK107.out 2; have hfz8_3 := blk_frozen BK107.out 3; obtain ⟨Ao9, co9, eo9⟩ := Kd.R_slice HO106.out; subst eo9) | ((with_reducible refine gate_callee (f := 57) rfl ?_); refine goesL_ (some 18) rfl rfl Try.func57 (by kernel_rfl) rfl #[.pointer (some ⟨gb107, 0, none⟩)] rfl Z65.z14 ?_; (with_reducible refine (spec_l03Reduced.calls k t101 t102 t103 Ao9 co9 t104 t108 t109 t110 t111 t114 t117 _ ?side1 ?side2 ?side3 A5.out).mono ?_); (case side1 => exact (by refine (Kd.R_reads' (e := 2) (base := w.heap.size) (ok := fun k_ => True) (n := t104.length) (c := co9) ?_).2.2; exact Z65.z1)); (case side2 => exact (Kd.R_reads' HO106.out).2.1); (case side3 => exact Z65.z2); rintro e w10 ⟨v112, v115, rfl, ho0, ho1, hb⟩; refine ⟨_, rfl, ?_⟩; have n0_ := Z65.k (Kd.R_mono (Kd.R_told (Kd.R_told (Kd.R_old Z65.z1 hb) (Kd.R_base ho0)) (Kd.R_base ho1)) (fun _ h_ => h_.1)); have n1_ := Z65.k (Kd.R_lower (Kd.R_new' ho0 (Kd.R_lt Z65.z1)) (below_size Z65.z3)); have n2_ := Z65.k (Kd.R_lower (Kd.R_new' ho1 (Kd.R_lt Z65.z1)) (below_size Z65.z3)); have n3_ := Z65.k (blk_below (g := gb107) (o := .cells #[.int .i64 t101, .int .i64 t102, .int .i64 t103, .slice Ao9 t104.length co9] 28 (0, 0)) Z65.z2 hb); have n4_ := Z65.k (below_step Z65.z3 hb); clear HO106 BK107 HB; have HO106 := n0_; have HO113 := n1_; have HO116 := n2_; have BK107 := n3_; have HB := n4_; clear n0_ n1_ n2_ n3_ n4_; (try clear hb); (try clear hb2); (try clear hk); (try clear hi); (try clear ho0); (try clear ho1)) | ((with_reducible refine gate_dst (N := 8) rfl ?_); refine box_event ?hg (N := 8) ?hd (cs := #[.int .i64 0, .int .i64 0, .int .i64 0, .slice none 0 0]) (t := 28) ?hr ?_; (case hd => rfl); (case hg => rfl); (case hr => first | (go_simp; done) | (go_simp; rfl)); intro gb118 hg w11 hbox hb; have n0_ := Z65.k (Kd.R_below (by (with_reducible repeat (first | apply Kd.R_alloc | apply Kd.R_drewN | apply Kd.R_drew)); exact HO106.out) hb); have n1_ := Z65.k (Kd.R_below (by (with_reducible repeat (first | apply Kd.R_alloc | apply Kd.R_drewN | apply Kd.R_drew)); exact HO113.out) hb); have n2_ := Z65.k (Kd.R_below (by (with_reducible repeat (first | apply Kd.R_alloc | apply Kd.R_drewN | apply Kd.R_drew)); exact HO116.out) hb); have n3_ := Z65.k (Z65.bb BK107 Z65.z4 hb); have n4_ := Z65.k (below_step Z65.z3 hb); have n5_ := Z65.k (hbox); have n6_ := Z65.k (show w.heap.size ≤ gb118 from (by rw [hg]; exact (below_size Z65.z3))); have n7_ := Z65.k (show w.heap.size ≤ gb118 from (by rw [hg]; exact (below_size Z65.z3))); have n8_ := Z65.k (show gb107 ≠ gb118 from (by rw [hg]; exact Nat.ne_of_lt (Z65.bl BK107 Z65.z4))); have n9_ := Z65.k (show gb118 ≠ gb107 from (by rw [hg]; exact Nat.ne_of_gt (Z65.bl BK107 Z65.z4))); clear HO106 HO113 HO116 BK107 HB; have HO106 := n0_; have HO113 := n1_; have HO116 := n2_; have BK107 := n3_; have HB := n4_; have BK118 := n5_; have GW118 := n6_; have GE118 := n7_; have NB107_118 := n8_; have NB118_107 := n9_; clear n0_ n1_ n2_ n3_ n4_ n5_ n6_ n7_ n8_ n9_; clear hb hbox hg; have hnb12 := NB118_107.out; have hnc12 := NB107_118.out; have hcz13_0 : w11.cell? ⟨gb118, 0, none⟩ = some (.int .i64 0) := (blk_cell BK118.out 0).trans rfl; have hcz13_1 : w11.cell? ⟨gb118, 1, none⟩ = some (.int .i64 0) := (blk_cell BK118.out 1).trans rfl; have hcz13_2 : w11.cell? ⟨gb118, 2, none⟩ = some (.int .i64 0) := (blk_cell BK118.out 2).trans rfl; have hcz13_3 : w11.cell? ⟨gb118, 3, none⟩ = some (.slice none 0 0) := (blk_cell BK118.out 3).trans rfl; have hfz13_0 := blk_frozen BK118.out 0; have hfz13_1 := blk_frozen BK118.out 1; have hfz13_2 := blk_frozen BK118.out 2; have hfz13_3 := blk_frozen BK118.out 3; obtain ⟨Ao14, co14, eo14⟩ := Kd.R_slice HO113.out; subst eo14) | ((with_reducible refine gate_dst (N := 22) rfl ?_); refine Kd.S_lit (Kd.slice 2 (Kd.int .i64)) _ 22 ?hg (N := 22) ?hd (xs := ([] : List (List Int))) (inner := []) (ok := fun _ => True) (okp := fun _ => True) ?hr ?hp (fun _ hk => hk) trivial (Below.refl _ _) (Nat.le_refl _) (by simp) ?_; (case hd => rfl); (case hg => rfl); (case hr => first | (go_simp; done) | (go_simp; rfl)); (case hp => exact (Reps.none _ _)); intro v120 w15 ho16 hb hg_ hnew_; clear hg_ hnew_; (first | rw [← Ny119.out] at ho16 | (simp only [Int.reduceToNat] at ho16; rw [← Ny119.out] at ho16)); have n0_ := Z65.k (Kd.R_below Z65.z9 hb); have n1_ := Z65.k (Kd.R_below Z65.z8 hb); have n2_ := Z65.k (Kd.R_below Z65.z7 hb); have n3_ := Z65.k (Kd.S_lower (Kd.S_new' (Kd.S_new' (Kd.S_new' ho16 (Kd.R_lt Z65.z9)) (Kd.R_lt Z65.z8)) (Kd.R_lt Z65.z7)) (below_size Z65.z0)); have n4_ := Z65.k (Z65.bb BK107 (by (repeat (first | (with_reducible first | refine blk_drewN ?_ _ | refine blk_drew ?_ | refine blk_alloc ?_ _) | refine blk_far ?_ NB107_118.out _)); exact BK107.out) hb); have n5_ := Z65.k (blk_below (g := gb118) (o := .cells #[.int .i64 t108, .int .i64 t109, .int .i64 t110, .slice Ao14 t111.length co14] 28 (0, 0)) (by (with_reducible repeat (first | refine blk_drewN ?_ _ | refine blk_drew ?_ | refine blk_alloc ?_ _)); refine blk_put (cs := #[.int .i64 t108, .int .i64 t109, .int .i64 t110, .slice none 0 0]) ?_ 3 _ rfl; (with_reducible repeat (first | refine blk_drewN ?_ _ | refine blk_drew ?_ | refine blk_alloc ?_ _)); refine blk_put (cs := #[.int .i64 t108, .int .i64 t109, .int .i64 0, .slice none 0 0]) ?_ 2 _ rfl; (with_reducible repeat (first | refine blk_drewN ?_ _ | refine blk_drew ?_ | refine blk_alloc ?_ _)); refine blk_put (cs := #[.int .i64 t108, .int .i64 0, .int .i64 0, .slice none 0 0]) ?_ 1 _ rfl; (with_reducible repeat (first | refine blk_drewN ?_ _ | refine blk_drew ?_ | refine blk_alloc ?_ _)); refine blk_put (cs := #[.int .i64 0, .int .i64 0, .int .i64 0, .slice none 0 0]) ?_ 0 _ rfl; (with_reducible repeat (first | refine blk_drewN ?_ _ | refine blk_drew ?_ | refine blk_alloc ?_ _)); exact BK118.out) hb); have n6_ := Z65.k (below_step Z65.z0 hb); clear HO106 HO113 HO116 BK107 BK118 HB; have HO106 := n0_; have HO113 := n1_; have HO116 := n2_; have HO121 := n3_; have BK107 := n4_; have BK118 := n5_; have HB := n6_; clear n0_ n1_ n2_ n3_ n4_ n5_ n6_; clear hb ho16))
 go_loopg [11, 12] k (fun kq v11 v12 w' => ∃ (x11_1 : List (List Int)) (x12_1 : Int), v12 = .int .i64 x12_1 ∧ Aside0 (spec_l04Basis.l0 kq a1 t114 x11_1 x12_1 t108 t109 t110 t111 = some r) ∧ Aside0 (kq ≤ k) ∧ Aside0 (Kd.R (Kd.int .i64) 2 w' w.heap.size (fun k_ => some k_ ≠ ((.slice Ao9 t104.length co9) : Value).ownBlock ∧ some k_ ≠ ((.slice Ao14 t111.length co14) : Value).ownBlock) v115 t114) ∧ Aside0 (Kd.S (Kd.slice 2 (Kd.int .i64)) 22 w' w.heap.size (fun k_ => some k_ ≠ (v115 : Value).ownBlock ∧ some k_ ≠ ((.slice Ao9 t104.length co9) : Value).ownBlock ∧ some k_ ≠ ((.slice Ao14 t111.length co14) : Value).ownBlock) v11 x11_1) ∧ Aside0 (Kd.R (Kd.int .i64) 2 w' w.heap.size (fun k_ => some k_ ≠ (v115 : Value).ownBlock ∧ some k_ ≠ ((.slice Ao14 t111.length co14) : Value).ownBlock) (.slice Ao9 t104.length co9) t104) ∧ Aside0 (Kd.R (Kd.int .i64) 2 w' w.heap.size (fun k_ => some k_ ≠ (v115 : Value).ownBlock ∧ some k_ ≠ ((.slice Ao9 t104.length co9) : Value).ownBlock) (.slice Ao14 t111.length co14) t111) ∧ Aside0 (w'.heap[gb107]? = some (.cells #[.int .i64 t101, .int .i64 t102, .int .i64 t103, (.slice Ao9 t104.length co9)] 28 (0, 0))) ∧ Aside0 (w'.heap[gb118]? = some (.cells #[.int .i64 t108, .int .i64 t109, .int .i64 t110, (.slice Ao14 t111.length co14)] 28 (0, 0))) ∧ Aside0 (Below w.heap.size w w'))
 case atStart => exact ⟨(y119), (0), (by first | rfl | (simp; done) | (simp [*]; done)), H', ⟨Nat.le_refl _⟩, ⟨(by (with_reducible repeat (first | apply Kd.R_alloc | apply Kd.R_drewN | apply Kd.R_drew)); exact Kd.R_mono HO116.out (fun _ hk => ⟨hk.2, hk.1⟩))⟩, ⟨(by (with_reducible repeat (first | apply Kd.S_alloc | apply Kd.S_drewN | apply Kd.S_drew)); exact Kd.S_mono HO121.out (fun _ hk => ⟨hk.2, ⟨hk.1.1.2, hk.1.2⟩⟩))⟩, ⟨(by (with_reducible repeat (first | apply Kd.R_alloc | apply Kd.R_drewN | apply Kd.R_drew)); exact Kd.R_mono HO106.out (fun _ hk => ⟨hk.2, hk.1.2⟩))⟩, ⟨(by (with_reducible repeat (first | apply Kd.R_alloc | apply Kd.R_drewN | apply Kd.R_drew)); exact HO113.out)⟩, ⟨Z65.z4⟩, ⟨Z65.z11⟩, ⟨Z65.z0⟩⟩
 case round =>
  clear H'
  try clear c1
  try clear c2
  try clear p2
  try clear c5
  try clear c6
  try clear c7
  try clear c12
  try clear hcz13_0
  try clear hcz13_1
  try clear hcz13_2
  try clear hcz13_3
  try clear hcz8_0
  try clear hcz8_1
  try clear hcz8_2
  try clear hcz8_3
  try clear hfz13_0
  try clear hfz13_1
  try clear hfz13_2
  try clear hfz13_3
  try clear hfz8_0
  try clear hfz8_1
  try clear hfz8_2
  try clear hfz8_3
  obtain ⟨x11_1, x12_1, rfl, HA, HK1, HO_9, HO_11, HO_108003, HO_119003, BK107, BK118, HB⟩ := hrel
  cases gk with
  | zero => exact absurd HA.out (by simp [spec_l04Basis.l0])
  | succ k1 =>
   have H := HA.out
   clear HA
   simp only [spec_l04Basis.l0] at H
   by_cases c17 : x12_1 < (t114.length : Int)
   ·rw [if_pos c17] at H
    have c17b0 : decide (x12_1 < (t114.length : Int)) = true := decide_eq_true c17
    clear c17
    obtain ⟨ji18, hji18⟩ : ∃ j_ : Int, (wrap64 (x12_1 * a1)) = j_ := ⟨_, rfl⟩
    replace H : (if 0 ≤ (ji18) then (if (ji18) ≤ (wrap64 ((wrap64 (x12_1 + 1)) * a1)) then (if (wrap64 ((wrap64 (x12_1 + 1)) * a1)) ≤ (t111.length : Int) then ((spec_l00Own.f ((t111.take ((wrap64 ((wrap64 (x12_1 + 1)) * a1)) : Int).toNat).drop ((ji18) : Int).toNat)).bind fun t126 => (if x11_1.length < 5864062014805 then (spec_l04Basis.l0 k1 a1 t114 (x11_1 ++ [t126]) (wrap64 (x12_1 + 1)) t108 t109 t110 t111) else (none))) else (none)) else (none)) else (none)) = some r := by first | (rw [hji18] at H; exact H) | (simp only [hji18] at H ⊢; exact H)
    have hji18w : (IntKind.i64.wrap (x12_1 * a1)) = ji18 := (i64_w _).trans hji18
    by_cases c19 : 0 ≤ (ji18)
    ·rw [if_pos c19] at H
     have c19b0 := eq_true c19
     have c19b1 : decide (0 ≤ (ji18)) = true := decide_eq_true c19
     clear c19
     by_cases c20 : (ji18) ≤ (wrap64 ((wrap64 (x12_1 + 1)) * a1))
     ·rw [if_pos c20] at H
      have c20b0 := eq_true c20
      have c20b1 : decide ((ji18) ≤ (wrap64 ((wrap64 (x12_1 + 1)) * a1))) = true := decide_eq_true c20
      by_cases c21 : (wrap64 ((wrap64 (x12_1 + 1)) * a1)) ≤ (t111.length : Int)
      ·rw [if_pos c21] at H
       have c21b0 := eq_true c21
       have c21b1 : decide ((wrap64 ((wrap64 (x12_1 + 1)) * a1)) ≤ (t111.length : Int)) = true := decide_eq_true c21
       obtain ⟨y122, hy122⟩ : ∃ y_ : List Int, y_ = ((t111.take ((wrap64 ((wrap64 (x12_1 + 1)) * a1)) : Int).toNat).drop ((ji18) : Int).toNat) := ⟨_, rfl⟩
       replace H : ((spec_l00Own.f y122).bind fun t126 => (if x11_1.length < 5864062014805 then (spec_l04Basis.l0 k1 a1 t114 (x11_1 ++ [t126]) (wrap64 (x12_1 + 1)) t108 t109 t110 t111) else (none))) = some r := by first | (rw [hy122]; with_reducible exact H) | (have H2_ := (Option.bind_some _ _).symm.trans H; rw [hy122]; with_reducible exact H2_) | (have H2_ := (Option.bind_some _ _).symm.trans H; with_reducible exact H2_) | with_reducible exact H | (rw [hy122]; exact H) | exact H
       have Ny122 := Z65.k hy122
       clear hy122
       replace H := Option.bind_eq_some_iff.mp H
       obtain ⟨t126, A220, H⟩ := H
       replace H : (if x11_1.length < 5864062014805 then (spec_l04Basis.l0 k1 a1 t114 (x11_1 ++ [t126]) (wrap64 (x12_1 + 1)) t108 t109 t110 t111) else (none)) = some r := H
       have A22 := Z65.k A220
       clear A220
       by_cases c23 : x11_1.length < 5864062014805
       ·rw [if_pos c23] at H
        have LMc23 := Z65.k c23
        clear c23
        obtain ⟨y129, hy129⟩ : ∃ y_ : List (List Int), y_ = (x11_1 ++ [t126]) := ⟨_, rfl⟩
        replace H : (spec_l04Basis.l0 k1 a1 t114 y129 (wrap64 (x12_1 + 1)) t108 t109 t110 t111) = some r := by first | (rw [hy129]; with_reducible exact H) | (have H2_ := (Option.bind_some _ _).symm.trans H; rw [hy129]; with_reducible exact H2_) | (have H2_ := (Option.bind_some _ _).symm.trans H; with_reducible exact H2_) | with_reducible exact H | (rw [hy129]; exact H) | exact H
        have Ny129 := Z65.k hy129
        clear hy129
        have H' := Z65.k H
        clear H
        obtain ⟨Ao24, co24, eo24⟩ := Kd.R_slice HO_9.out
        subst eo24
        have hnb25 := NB118_107.out
        have hnc25 := NB107_118.out
        have hcz26_0 : wr.cell? ⟨gb118, 0, none⟩ = some (.int .i64 t108) := (blk_cell BK118.out 0).trans rfl
        have hcz26_1 : wr.cell? ⟨gb118, 1, none⟩ = some (.int .i64 t109) := (blk_cell BK118.out 1).trans rfl
        have hcz26_2 : wr.cell? ⟨gb118, 2, none⟩ = some (.int .i64 t110) := (blk_cell BK118.out 2).trans rfl
        have hcz26_3 : wr.cell? ⟨gb118, 3, none⟩ = some (.slice Ao14 t111.length co14) := (blk_cell BK118.out 3).trans rfl
        have hfz26_0 := blk_frozen BK118.out 0
        have hfz26_1 := blk_frozen BK118.out 1
        have hfz26_2 := blk_frozen BK118.out 2
        have hfz26_3 := blk_frozen BK118.out 3
        have q27 : ((wrap64 ((wrap64 (x12_1 + 1)) * a1)) : Int) ≤ ((t111.length : Int) : Int) := of_decide_eq_true (by first | (with_reducible assumption) | assumption)
        obtain ⟨i027, hi027, _, hsz27, _⟩ := info_parts info2
        have hroom27 : t111.length ≤ co14 := (Kd.R_reads' HO_119003.out).2.1
        have hC27 : Kd.C (Kd.int .i64) _ Ao14 t111.length t111 := (Kd.R_reads' HO_119003.out).2.2
        have ql27 : ((ji18) : Int) ≤ ((wrap64 ((wrap64 (x12_1 + 1)) * a1)) : Int) := of_decide_eq_true (by first | (with_reducible assumption) | assumption)
        have q027 : (0 : Int) ≤ ((ji18) : Int) := of_decide_eq_true (by first | (with_reducible assumption) | assumption)
        have hcut27 := cut_mid (P := Try.prog) 22 2 .i64 .i64 Try.underlying22 hi027 1 hsz27 Ao14 t111.length co14 (ji18) (wrap64 ((wrap64 (x12_1 + 1)) * a1)) q027 ql27 q27 hroom27
        have hr27 := Kd.C_mid (lo := ((ji18) : Int).toNat) (hi := ((wrap64 ((wrap64 (x12_1 + 1)) * a1)) : Int).toNat) (c := co14) hC27 (by omega) (by omega) hroom27
        obtain ⟨A27, hA27⟩ : ∃ A1, A1 = (if co14 = ((ji18) : Int).toNat then Ao14 else (Ao14 : Option Addr).map (·.add (((ji18) : Int).toNat * 1))) := ⟨_, rfl⟩
        obtain ⟨c27, hc27⟩ : ∃ c1, c1 = co14 - ((ji18) : Int).toNat := ⟨_, rfl⟩
        have hy27 : y122.length = ((wrap64 ((wrap64 (x12_1 + 1)) * a1)) : Int).toNat - ((ji18) : Int).toNat := (by rw [Ny122.out, List.length_drop, List.length_take] <;> omega)
        rw [show ((t111).take ((wrap64 ((wrap64 (x12_1 + 1)) * a1)) : Int).toNat).drop ((ji18) : Int).toNat = y122 from Ny122.out.symm] at hr27
        replace hr27 : Kd.C (Kd.int .i64) _ A27 y122.length y122 := (by rw [hA27]; exact hr27)
        rw [← hy27, ← hA27, ← hc27] at hcut27
        have HR125 := Z65.k hr27
        have HC125 := Z65.k (show y122.length ≤ c27 from by rw [hy27, hc27]; exact Nat.sub_le_sub_right (Nat.le_trans (by omega) hroom27) _)
        clear hr27 hC27 hroom27 hi027 hsz27 hc27
        have KY27 := Z65.k hy27
        have KA27 := Z65.k hA27
        clear hy27 hA27
        have KL27 := Z65.k (show ((wrap64 ((wrap64 (x12_1 + 1)) * a1)) : Int).toNat ≤ t111.length from by omega)
        have KM27 := Z65.k (show ((ji18) : Int).toNat ≤ ((wrap64 ((wrap64 (x12_1 + 1)) * a1)) : Int).toNat from by omega)
        replace q27 := eq_true q27
        go_wp2_with (first | ((with_reducible refine gate_callee (f := 34) rfl ?_); refine goesL_ (some 40) rfl rfl Try.func34 (by kernel_rfl) rfl #[.slice A27 y122.length c27] rfl Z65.z14 ?_; (with_reducible refine (spec_l00Own.calls _ _ y122 t126 _ ?side1 ?side2 A22.out).mono ?_); (case side1 => exact (by repeat (first | exact Z65.z15 | (with_reducible refine Kd.C_alloc ?_ _) | (with_reducible refine Kd.C_drewN ?_ _) | (with_reducible refine Kd.C_drew ?_)))); (case side2 => exact HC125.out); rintro e w28 ⟨v127, rfl, ho0, hb⟩; refine ⟨_, rfl, ?_⟩; have n0_ := Z65.k (Kd.R_elder' Z65.z13 (Kd.R_base ho0) hb); have n1_ := Z65.k (Kd.S_elder' Z65.z10 (Kd.R_base ho0) hb); have n2_ := Z65.k (Kd.R_elder' Z65.z12 (Kd.R_base ho0) hb); have n3_ := Z65.k (Kd.R_elder' Z65.z6 (Kd.R_base ho0) hb); have n4_ := Z65.k (Kd.R_lower (Kd.R_new' (Kd.R_new' (Kd.R_new' ho0 (Kd.R_lt Z65.z13)) (Kd.R_lt Z65.z12)) (Kd.R_lt Z65.z6)) (below_size Z65.z0)); have n5_ := Z65.k (Z65.bb BK107 Z65.z4 hb); have n6_ := Z65.k (Z65.bb BK118 Z65.z11 hb); have n7_ := Z65.k (Kd.C_below Z65.z15 hb); have n8_ := Z65.k (below_step Z65.z0 hb); clear HO_9 HO_11 HO_108003 HO_119003 BK107 BK118 HR125 HB; have HO_9 := n0_; have HO_11 := n1_; have HO_108003 := n2_; have HO_119003 := n3_; have HO128 := n4_; have BK107 := n5_; have BK118 := n6_; have HR125 := n7_; have HB := n8_; clear n0_ n1_ n2_ n3_ n4_ n5_ n6_ n7_ n8_; (try clear hb); (try clear hb2); (try clear hk); (try clear hi); (try clear ho0); obtain ⟨Ao30, co30, eo30⟩ := Kd.R_slice HO128.out; subst eo30) | ((with_reducible refine gate_builtin (b := .append) (xs := #[.tmp 29, .tmp 41]) rfl ?_); at_builtin; refine Kd.S_append (Kd.slice 2 (Kd.int .i64)) (w0 := w) w.heap.size rfl (.tmp 29) (.tmp 41) 36 22 (.slice none 0 0) 24 rfl Try.underlying36 info22 rfl (by decide) (by omega) u11 x11_1 t126 [.slice Ao30 t126.length co30] (fun k_ => some k_ ≠ (.slice Ao24 t114.length co24 : Value).ownBlock ∧ some k_ ≠ (.slice Ao9 t104.length co9 : Value).ownBlock ∧ some k_ ≠ (.slice Ao14 t111.length co14 : Value).ownBlock) (fun k_ => some k_ = (.slice Ao30 t126.length co30 : Value).ownBlock) rfl rfl ?aP (fun k_ hk_ => ((Kd.R_mono (ok' := fun k_ => ((fun k_ => some k_ ≠ (.slice Ao24 t114.length co24 : Value).ownBlock ∧ some k_ ≠ (.slice Ao9 t104.length co9 : Value).ownBlock ∧ some k_ ≠ (.slice Ao14 t111.length co14 : Value).ownBlock)) k_ ∧ some k_ ≠ (u11 : Value).ownBlock) (Kd.R_apart' (HO128.out) (Kd.S_typed HO_11.out) (by decide)) (fun k_ hk => ⟨⟨hk.1.1.1.2, ⟨hk.1.1.2, hk.1.2⟩⟩, hk.2⟩))).1 k_ hk_.symm) ?aF ?aO ?aB ?aS ?aL ?_; (case aP => exact Kd.M_row (Kd.R_mono (Kd.R_tight rfl (Kd.R_mono (ok' := fun k_ => ((fun k_ => some k_ ≠ (.slice Ao24 t114.length co24 : Value).ownBlock ∧ some k_ ≠ (.slice Ao9 t104.length co9 : Value).ownBlock ∧ some k_ ≠ (.slice Ao14 t111.length co14 : Value).ownBlock)) k_ ∧ some k_ ≠ (u11 : Value).ownBlock) (Kd.R_apart' (HO128.out) (Kd.S_typed HO_11.out) (by decide)) (fun k_ hk => ⟨⟨hk.1.1.1.2, ⟨hk.1.1.2, hk.1.2⟩⟩, hk.2⟩))) (fun _ h_ => h_))); (case aB => exact Z65.z0); (case aF => exact (fun k_ hk => ⟨Kd.fresh' (Kd.R_lt Z65.z13) k_ hk, Kd.fresh' (Kd.R_lt Z65.z12) k_ hk, Kd.fresh' (Kd.R_lt Z65.z6) k_ hk⟩)); (case aO => exact (by (with_reducible repeat (first | apply Kd.S_alloc | apply Kd.S_drewN | apply Kd.S_drew)); exact Kd.S_mono HO_11.out (fun k_ hk => ⟨⟨hk.1.1, ⟨hk.1.2.1, hk.1.2.2⟩⟩, fun e_ => hk.2 e_⟩))); (case aS => exact (below_size Z65.z0)); (case aL => have := LMc23.out; omega); intro v130 w29 ho hb hg hat; rw [← Ny129.out] at ho; have n0_ := Z65.k (Kd.R_over' Z65.z13 (Kd.S_typed Z65.z10) (by decide) hg); have n1_ := Z65.k (Kd.R_over' Z65.z12 (Kd.S_typed Z65.z10) (by decide) hg); have n2_ := Z65.k (Kd.R_over' Z65.z6 (Kd.S_typed Z65.z10) (by decide) hg); have n3_ := Z65.k (blk_grown (g := gb107) (o := .cells #[.int .i64 t101, .int .i64 t102, .int .i64 t103, .slice Ao9 t104.length co9] 28 (0, 0)) Z65.z4 hg (Kd.S_ne HO_11.out BK107.out (by decide))); have n4_ := Z65.k (blk_grown (g := gb118) (o := .cells #[.int .i64 t108, .int .i64 t109, .int .i64 t110, .slice Ao14 t111.length co14] 28 (0, 0)) Z65.z11 hg (Kd.S_ne HO_11.out BK118.out (by decide))); have n5_ := Z65.k (hb); have n6_ := Z65.k ((show Kd.C (Kd.int .i64) w29 A27 y122.length y122 from by rw [Ny122.out, KA27.out]; exact Kd.C_mid (lo := ((ji18) : Int).toNat) (hi := ((wrap64 ((wrap64 (x12_1 + 1)) * a1)) : Int).toNat) (c := co14) ((Kd.R_reads' (Kd.R_over' Z65.z6 (Kd.S_typed Z65.z10) (by decide) hg)).2.2) KM27.out KL27.out ((Kd.R_reads' (Kd.R_over' Z65.z6 (Kd.S_typed Z65.z10) (by decide) hg)).2.1))); have n7_ := Z65.k (ho); clear HO_9 HO_108003 HO_119003 BK107 BK118 HB HR125 HO_11 HO128; have HO_9 := n0_; have HO_108003 := n1_; have HO_119003 := n2_; have BK107 := n3_; have BK118 := n4_; have HB := n5_; have HR125 := n6_; have HO131 := n7_; clear n0_ n1_ n2_ n3_ n4_ n5_ n6_ n7_; clear ho hb hg hat))
        go_roundg k1
        case measure => have := HK1.out; omega
        case rel => exact ⟨(y129), (wrap64 (x12_1 + 1)), (by first | rfl | (simp; done) | (simp [*]; done)), H', ⟨(by have := HK1.out; omega)⟩, ⟨(by (with_reducible repeat (first | apply Kd.R_alloc | apply Kd.R_drewN | apply Kd.R_drew)); exact Kd.R_mono HO_9.out (fun _ hk => ⟨hk.1.1, hk.1.2⟩))⟩, ⟨(by (with_reducible repeat (first | apply Kd.S_alloc | apply Kd.S_drewN | apply Kd.S_drew)); exact HO131.out)⟩, ⟨(by (with_reducible repeat (first | apply Kd.R_alloc | apply Kd.R_drewN | apply Kd.R_drew)); exact Kd.R_mono HO_108003.out (fun _ hk => ⟨hk.1.1, hk.1.2⟩))⟩, ⟨(by (with_reducible repeat (first | apply Kd.R_alloc | apply Kd.R_drewN | apply Kd.R_drew)); exact Kd.R_mono HO_119003.out (fun _ hk => ⟨hk.1.1, hk.1.2⟩))⟩, ⟨Z65.z4⟩, ⟨Z65.z11⟩, ⟨Z65.z0⟩⟩
       rw [if_neg c23] at H
       exact absurd H (by simp)
      rw [if_neg c21] at H
      exact absurd H (by simp)
     rw [if_neg c20] at H
     exact absurd H (by simp)
    rw [if_neg c19] at H
    exact absurd H (by simp)
   rw [if_neg c17] at H
   have c17b0 : decide (x12_1 < (t114.length : Int)) = false := decide_eq_false c17
   clear c17
   obtain rfl := Option.some.inj H
   obtain ⟨Ao31, co31, eo31⟩ := Kd.R_slice HO_9.out
   subst eo31
   go_wp2
   go_ret
   exact ⟨_, (by first | rfl | (simp [errW_none, errW_some] <;> rfl) | (simp [*, errW_none, errW_some] <;> rfl)), (by (with_reducible repeat (first | apply Kd.S_alloc | apply Kd.S_drewN | apply Kd.S_drew)); exact Kd.S_mono HO_11.out (fun _ hk => trivial)), Z65.z0⟩
/-! ### spec_l04Ok: function 38 -/
def spec_l04Ok.j0 : Nat → Bool → Int → Int → List (List Int) → Option (Bool)
  | 0, _, _, _, _ => none
  | k + 1, x44, x102000, x102001, x102002 => if x44 = true then (some false) else ((spec_l04Basis.f k x102000 x102001 x102002).bind fun t105 => ((spec_l04SameRows.f k t105 x102002).bind fun t108 => (some t108)))
def spec_l04Ok.f (k : Nat) (a0_0 : Int) (a0_1 : Int) (l0_2 : List (List Int)) : Option (Bool) := (spec_l02Prime.f k a0_0).bind fun t102 => (if t102 = true then ((spec_l00In.f a0_1 0 32).bind fun t103 => (if t103 = true then (if (l0_2.length : Int) > a0_1 then (spec_l04Ok.j0 k true a0_0 a0_1 l0_2) else ((spec_l04Vectors.f k a0_0 a0_1 l0_2).bind fun t104 => (spec_l04Ok.j0 k (!t104) a0_0 a0_1 l0_2))) else (spec_l04Ok.j0 k true a0_0 a0_1 l0_2))) else (spec_l04Ok.j0 k true a0_0 a0_1 l0_2))
def spec_l04Ok.T1 : Bool × List (List Nat × List Nat) := (true, [([], []), ([0], [0]), ([1], [1]), ([2], [2]), ([3], [3]), ([4], [4]), ([5, 4], [5]), ([6], [6]), ([7, 6], [6, 7]), ([8, 6], [6, 8]), ([9, 6], [6, 9]), ([10, 6, 6], [6, 10]), ([11, 6], [6, 11]), ([6, 12], [6, 12]), ([13, 11], [13]), ([14], [14]), ([15, 14], [14, 15]), ([16, 14], [14, 16]), ([17, 14], [14, 17]), ([18, 14], [14, 18]), ([14], [14]), ([20, 14], [14, 20]), ([21, 14], [14, 21]), ([22, 14], [14, 22]), ([19, 23, 14], [14, 19, 23]), ([14, 24], [14, 24]), ([25, 14], [25]), ([26], [26]), ([27, 26], [26, 27]), ([28, 26], [26, 28]), ([29, 26], [26, 29]), ([26], [26]), ([31, 26], [26, 31]), ([32, 26], [26, 32]), ([33, 26], [26, 33]), ([26], [26]), ([35, 26], [26, 35]), ([36, 26], [26, 36]), ([37, 26], [26, 37]), ([30, 34, 38, 26, 26], [26, 30, 34, 38]), ([39, 26], [26, 39]), ([26, 40], [26, 40])])
def spec_l04Ok.B1 : List Nat := [0, 1, 3, 7, 15, 31, 63, 127, 255, 511, 1023, 2047, 4095, 8191, 16383, 32767, 65535, 131071, 262143, 524287, 32767, 1081343, 3178495, 7372799, 16777215, 33554431, 67108863, 134217727, 268435455, 536870911, 1073741823, 134217727, 2281701375, 6576668671, 15166603263, 134217727, 34493956095, 103213432831, 240652386303, 549755813887, 1099511627775, 2199023255551]
theorem spec_l04Ok.tab1 : rtab .any (opsOf Try.f38 1) = spec_l04Ok.T1 := by kernel_rfl
theorem spec_l04Ok.bits1 : waitsOk spec_l04Ok.T1.2 spec_l04Ok.B1 = true := by kernel_rfl
def spec_l04Ok.T3 : Bool × List (List Nat × List Nat) := (true, [([], []), ([0], [0]), ([1], [1]), ([2], [2]), ([], []), ([4], [4]), ([5], [5]), ([6], [6]), ([], []), ([8], [8]), ([9], [9]), ([10], [10]), ([3, 7, 11], [3, 7, 11]), ([], []), ([13], [13]), ([14], [14]), ([15], [15]), ([12, 16, 12], [12, 16]), ([17, 17, 0, 1, 2, 3, 4, 5, 6, 7, 8, 9, 10, 11, 12, 13, 14, 15, 16, 17], [17])])
def spec_l04Ok.B3 : List Nat := [0, 1, 3, 7, 0, 16, 48, 112, 0, 256, 768, 1792, 4095, 0, 8192, 24576, 57344, 131071, 262143]
theorem spec_l04Ok.tab3 : rtab .any (opsOf Try.f38 3) = spec_l04Ok.T3 := by kernel_rfl
theorem spec_l04Ok.bits3 : waitsOk spec_l04Ok.T3.2 spec_l04Ok.B3 = true := by kernel_rfl
def Z38.b (n x : Nat) : Array Bool := ((List.range n).map (fun i => x.testBit i)).toArray
theorem Z38.pP {P : Program} {ops : Array Oper} {Q : Exit → Act → World → Prop} {md : Region.Mode} {S : World → Prop} {ds : List Nat} (i N : Nat) {oi : Oper} {v : Value} {fuel : Nat} {l : Array Bool} {a : Act} {w : World} (l' : Array Bool) (hc : anyB md ops l l' i = true) {a' : Act} (h : wpAnyLast P md ops Q S ds fuel l' a' w) (hi : ops[i]? = some oi := by rfl) (hN : oi.dst = some N := by rfl) (hQ : ∀ c a w, Q (.panic c) (a.put oi.dst v) w → Q (.panic c) a w := by exact fun _ _ _ h => h) (hy : Yields P ops oi v a := by exact Or.inl ⟨(by rfl), by intro w'; go_simp; with_reducible rfl⟩) (ha : a.put (some N) v = a' := by simp only [Act.put, List.setIfInBounds_toArray, List.set_cons_zero, List.set_cons_succ, i64_w, i32_w]; rfl) : wpAnyLast P md ops Q S ds (fuel + 1) l a w := pure_ l' hi hN hc hQ hy ha h
theorem Z38.pT3 {P : Program} {ops : Array Oper} {Q : Exit → Act → World → Prop} {md : Region.Mode} {S : World → Prop} {ds : List Nat} (i N : Nat) {oi : Oper} {v : Value} {fuel : Nat} {l : Array Bool} {a : Act} {w : World} (l' : Array Bool) (hc : takeB md ops ds l l' i = true) (hS : S w) {a' : Act} (h : wpAnyLast P md ops Q S ds fuel l' a' w) (hi : ops[i]? = some oi := by rfl) (hN : oi.dst = some N := by rfl) (hQ : ∀ c a w, Q (.panic c) (a.put oi.dst v) w → Q (.panic c) a w := by exact fun _ _ _ h => h) (hy : YieldsIf P ops S oi v a := by exact Or.inl ⟨(by rfl), by rintro w' ⟨s0, s1, s2⟩; go_simp; with_reducible rfl⟩) (ha : a.put (some N) v = a' := by simp only [Act.put, List.setIfInBounds_toArray, List.set_cons_zero, List.set_cons_succ, i64_w, i32_w]; rfl) : wpAnyLast P md ops Q S ds (fuel + 1) l a w := take_ l' hi hN hc hQ hy hS ha h
theorem Z38.bb {w0 w w1 : World} {g : Nat} {o : Obj} (_B : Aside0 (w0.heap[g]? = some o)) (h : w.heap[g]? = some o) (hb : Below w.heap.size w w1) : w1.heap[g]? = some o := blk_below h hb
theorem Z38.bl {w0 w : World} {g : Nat} {o : Obj} (_B : Aside0 (w0.heap[g]? = some o)) (h : w.heap[g]? = some o) : g < w.heap.size := blk_lt h
theorem Z38.z5 {P : Prop} (h : P := by repeat (first | exact (Kd.C_below HR0_2.out HB.out) | (with_reducible refine Kd.C_alloc ?_ _) | (with_reducible refine Kd.C_drewN ?_ _) | (with_reducible refine Kd.C_drew ?_))) : P := h
theorem Z38.z4 {P : Prop} (h : P := by (with_reducible repeat (first | refine blk_drewN ?_ _ | refine blk_drew ?_ | refine blk_alloc ?_ _)); exact BK101.out) : P := h
theorem Z38.z3 {P : Prop} (h : P := by (try simp only [List.map_toArray, List.map_cons, List.map_nil]); first | done | rfl | (simp only [List.length_drop, List.length_take]; rfl)) : P := h
theorem Z38.z2 {P : Prop} (h : P := by repeat (first | (with_reducible first | exact HB.out | apply below_alloc | apply pw_below_drewN | apply below_drew1 | refine below_set ?_ GE101.out) | exact HB.out)) : P := h
theorem Z38.z1 {P : Prop} (h : P := by exact ⟨(blk_cell BK101.out 0).trans rfl, (blk_cell BK101.out 1).trans rfl, (blk_cell BK101.out 2).trans rfl⟩) : P := h
theorem Z38.z0 {P : Prop} (h : P := by simp only [Act.put, List.setIfInBounds_toArray, List.set_cons_zero, List.set_cons_succ, i64_w, i32_w]; rfl) : P := h
set_option maxHeartbeats 8000000 in
set_option maxRecDepth 100000 in
theorem spec_l04Ok.calls (k : Nat) (a0_0 : Int) (a0_1 : Int) (A0_2 : Option Addr) (c0_2 : Nat) (l0_2 : List (List Int)) (r : Bool) (w : World) (hr0_2 : Kd.C (Kd.slice 2 (Kd.int .i64)) w A0_2 l0_2.length l0_2) (hc0_2 : l0_2.length ≤ c0_2) {g0_ : Nat} (hbk0_ : w.heap[g0_]? = some (.cells #[.int .i64 a0_0, .int .i64 a0_1, .slice A0_2 l0_2.length c0_2] 41 (0, 0))) (h : spec_l04Ok.f k a0_0 a0_1 l0_2 = some r) :
  Calls Try.prog 38 #[.pointer (some ⟨g0_, 0, none⟩)] w fun e w' => e = .returned (.bool r) ∧ Below w.heap.size w w' := by
 have hu41 := Try.underlying41
 have HR0_2 := Aside0.mk hr0_2
 have HC0_2 := Aside0.mk hc0_2
 clear hr0_2 hc0_2
 have HB := Aside0.mk (Below.refl w.heap.size w)
 have H : ((spec_l02Prime.f k a0_0).bind fun t102 => (if t102 = true then ((spec_l00In.f a0_1 0 32).bind fun t103 => (if t103 = true then (if (l0_2.length : Int) > a0_1 then (spec_l04Ok.j0 k true a0_0 a0_1 l0_2) else ((spec_l04Vectors.f k a0_0 a0_1 l0_2).bind fun t104 => (spec_l04Ok.j0 k (!t104) a0_0 a0_1 l0_2))) else (spec_l04Ok.j0 k true a0_0 a0_1 l0_2))) else (spec_l04Ok.j0 k true a0_0 a0_1 l0_2))) = some r := h
 clear h
 have HC2 := Aside0.mk H
 clear H
 go_enter Try.func38, Try.ntmps38
 have BK101 := Aside0.mk hbk0_
 go_upto_region 1 with (first | fail)
 (try simp only [Act.put, List.setIfInBounds_toArray, List.set_cons_zero, List.set_cons_succ])
 go_cut [44] (fun v44 wc => ∃ (kq : Nat) (x44_1 : Bool), v44 = .bool x44_1 ∧ Aside0 (spec_l04Ok.j0 kq x44_1 a0_0 a0_1 l0_2 = some r) ∧ Aside0 (kq ≤ k) ∧ Aside0 (wc.heap[g0_]? = some (.cells #[.int .i64 a0_0, .int .i64 a0_1, (.slice A0_2 l0_2.length c0_2)] 41 (0, 0))) ∧ Aside0 (Below w.heap.size w wc))
 case first =>
  have H := HC2.out
  clear HC2
  replace H := Option.bind_eq_some_iff.mp H
  obtain ⟨t102, A40, H⟩ := H
  replace H : (if t102 = true then ((spec_l00In.f a0_1 0 32).bind fun t103 => (if t103 = true then (if (l0_2.length : Int) > a0_1 then (spec_l04Ok.j0 k true a0_0 a0_1 l0_2) else ((spec_l04Vectors.f k a0_0 a0_1 l0_2).bind fun t104 => (spec_l04Ok.j0 k (!t104) a0_0 a0_1 l0_2))) else (spec_l04Ok.j0 k true a0_0 a0_1 l0_2))) else (spec_l04Ok.j0 k true a0_0 a0_1 l0_2)) = some r := H
  have A4 := Aside0.mk A40
  clear A40
  by_cases c5 : t102 = true
  ·subst c5
   have H1 : ((spec_l00In.f a0_1 0 32).bind fun t103 => (if t103 = true then (if (l0_2.length : Int) > a0_1 then (spec_l04Ok.j0 k true a0_0 a0_1 l0_2) else ((spec_l04Vectors.f k a0_0 a0_1 l0_2).bind fun t104 => (spec_l04Ok.j0 k (!t104) a0_0 a0_1 l0_2))) else (spec_l04Ok.j0 k true a0_0 a0_1 l0_2))) = some r := by rw [if_pos rfl] at H; exact H
   clear H
   have H := H1
   clear H1
   replace H := Option.bind_eq_some_iff.mp H
   obtain ⟨t103, A60, H⟩ := H
   replace H : (if t103 = true then (if (l0_2.length : Int) > a0_1 then (spec_l04Ok.j0 k true a0_0 a0_1 l0_2) else ((spec_l04Vectors.f k a0_0 a0_1 l0_2).bind fun t104 => (spec_l04Ok.j0 k (!t104) a0_0 a0_1 l0_2))) else (spec_l04Ok.j0 k true a0_0 a0_1 l0_2)) = some r := H
   have A6 := Aside0.mk A60
   clear A60
   by_cases c7 : t103 = true
   ·subst c7
    have H1 : (if (l0_2.length : Int) > a0_1 then (spec_l04Ok.j0 k true a0_0 a0_1 l0_2) else ((spec_l04Vectors.f k a0_0 a0_1 l0_2).bind fun t104 => (spec_l04Ok.j0 k (!t104) a0_0 a0_1 l0_2))) = some r := by rw [if_pos rfl] at H; exact H
    clear H
    have H := H1
    clear H1
    by_cases c8 : (l0_2.length : Int) > a0_1
    ·rw [if_pos c8] at H
     have c8b0 : decide (a0_1 < (l0_2.length : Int)) = true := decide_eq_true c8
     clear c8
     (first | rw [c8b0] | (simp only [i64_w, i32_w]; rw [c8b0]) | skip)
     have H' := Aside0.mk H
     clear H
     try go_wp2
     have n0_ := Aside0.mk (blk_drew BK101.out)
     have n1_ := Aside0.mk (below_drew1 HB.out)
     clear BK101 HB
     have BK101 := n0_
     have HB := n1_
     clear n0_ n1_
     refine start_ (n := 42) (S := fun w' => w'.cell? ⟨g0_, 0, none⟩ = some (.int .i64 a0_0) ∧ w'.cell? ⟨g0_, 1, none⟩ = some (.int .i64 a0_1) ∧ w'.cell? ⟨g0_, 2, none⟩ = some (.slice A0_2 l0_2.length c0_2)) (ds := []) #[false, false, false, false, false, false, false, false, false, false, false, false, false, false, false, false, false, false, false, false, false, false, false, false, false, false, false, false, false, false, false, false, false, false, false, false, false, false, false, false, false, false] (by kernel_rfl) rfl rfl Z38.z1 (fun hHeld => ?_); refine with_tabW spec_l04Ok.tab1 spec_l04Ok.bits1 (fun HT_ HW_ => ?_)
     generalize w.drew = w9 at BK101 HB hHeld ⊢
     refine Z38.pP 0 3 (Z38.b 42 1) (any_of HT_.out (by kernel_rfl)) ?_
     refine Z38.pP 1 4 (Z38.b 42 3) (any_of HT_.out (by kernel_rfl)) ?_
     refine Z38.pP 2 5 (Z38.b 42 7) (any_of HT_.out (by kernel_rfl)) ?_
     refine Z38.pT3 3 6 (Z38.b 42 15) (take_ofW HT_.out HW_.out (by kernel_rfl)) hHeld ?_
     refine one_ (i := 4) (N := some 7) (Z38.b 42 31) rfl rfl (one_of HT_.out (by kernel_rfl)) (by decide) (fun K hK => ?_)
     refine goes_ Try.func61 (by kernel_rfl) rfl #[.int .i64 a0_0] (by rfl) rfl rfl Z38.z3 ?_
     with_reducible refine (spec_l02Prime.calls k a0_0 true _ A4.out).mono ?_
     rintro e w' ⟨rfl, ⟨nd, rfl⟩⟩
     refine ⟨_, rfl, ?_⟩
     refine hK.out _ _ Z38.z1 (fun hHeld => ?_)
     clear hK K
     refine norm_ (a' := ?_) ?_ ?_
     rotate_left
     ·show Act.put _ (some 7) _ = _
      simp only [Act.put, List.setIfInBounds_toArray, List.set_cons_zero, List.set_cons_succ, i64_w, i32_w]
      rfl
     refine Z38.pP 5 8 (Z38.b 42 63) (any_of HT_.out (by kernel_rfl)) ?_
     refine Z38.pP 6 9 (Z38.b 42 127) (any_of HT_.out (by kernel_rfl)) ?_
     refine Z38.pP 7 10 (Z38.b 42 255) (any_of HT_.out (by kernel_rfl)) ?_
     refine Z38.pP 8 11 (Z38.b 42 511) (any_of HT_.out (by kernel_rfl)) ?_
     refine Z38.pP 9 12 (Z38.b 42 1023) (any_of HT_.out (by kernel_rfl)) ?_
     refine Z38.pT3 10 13 (Z38.b 42 2047) (take_ofW HT_.out HW_.out (by kernel_rfl)) hHeld ?_
     refine one_ (i := 11) (N := some 14) (Z38.b 42 4095) rfl rfl (one_of HT_.out (by kernel_rfl)) (by decide) (fun K hK => ?_)
     refine goes_ Try.func62 (by kernel_rfl) rfl #[.int .i64 a0_1, .int .i64 0, .int .i64 32] (by rfl) rfl rfl Z38.z3 ?_
     with_reducible refine (spec_l00In.calls a0_1 0 32 true _ A6.out).mono ?_
     rintro e w' ⟨rfl, ⟨nd, rfl⟩⟩
     refine ⟨_, rfl, ?_⟩
     refine hK.out _ _ Z38.z1 (fun hHeld => ?_)
     clear hK K
     refine norm_ (a' := ?_) ?_ ?_
     rotate_left
     ·show Act.put _ (some 14) _ = _
      simp only [Act.put, List.setIfInBounds_toArray, List.set_cons_zero, List.set_cons_succ, i64_w, i32_w]
      rfl
     refine Z38.pP 12 15 (Z38.b 42 8191) (any_of HT_.out (by kernel_rfl)) ?_
     refine Z38.pP 13 16 (Z38.b 42 16383) (any_of HT_.out (by kernel_rfl)) ?_
     refine Z38.pP 14 17 (Z38.b 42 32767) (any_of HT_.out (by kernel_rfl)) ?_
     refine Z38.pP 15 18 (Z38.b 42 65535) (any_of HT_.out (by kernel_rfl)) ?_
     refine Z38.pP 16 19 (Z38.b 42 131071) (any_of HT_.out (by kernel_rfl)) ?_
     refine Z38.pP 17 20 (Z38.b 42 262143) (any_of HT_.out (by kernel_rfl)) ?_
     refine Z38.pP 20 23 (Z38.b 42 1310719) (any_of HT_.out (by kernel_rfl)) ?_
     refine Z38.pP 21 24 (Z38.b 42 3407871) (any_of HT_.out (by kernel_rfl)) ?_
     refine Z38.pP 22 25 (Z38.b 42 7602175) (any_of HT_.out (by kernel_rfl)) ?_
     refine Z38.pT3 18 21 (Z38.b 42 7864319) (take_ofW HT_.out HW_.out (by kernel_rfl)) hHeld ?_
     refine Z38.pP 19 22 (Z38.b 42 8388607) (any_of HT_.out (by kernel_rfl)) ?_
     refine Z38.pT3 23 26 (Z38.b 42 16777215) (take_ofW HT_.out HW_.out (by kernel_rfl)) hHeld ?_
     refine Z38.pP 24 27 (Z38.b 42 33554431) (any_of HT_.out (by kernel_rfl)) ?_
     refine Z38.pP 25 28 (Z38.b 42 67108863) (any_of HT_.out (by kernel_rfl)) ?_
     refine Z38.pP 26 29 (Z38.b 42 134217727) (any_of HT_.out (by kernel_rfl)) ?_
     refine pure_ (i := 27) (N := some 30) (v := undef) (a' := ?_) (Z38.b 42 268435455) rfl rfl (any_of HT_.out (by kernel_rfl)) (fun _ _ _ h => h) (Or.inr ⟨(by rfl), rfl⟩) ?_ ?_
     rotate_left
     ·exact Z38.z0
     refine pure_ (i := 28) (N := some 31) (v := undef) (a' := ?_) (Z38.b 42 536870911) rfl rfl (any_of HT_.out (by kernel_rfl)) (fun _ _ _ h => h) (Or.inr ⟨(by rfl), rfl⟩) ?_ ?_
     rotate_left
     ·exact Z38.z0
     refine pure_ (i := 29) (N := some 32) (v := undef) (a' := ?_) (Z38.b 42 1073741823) rfl rfl (any_of HT_.out (by kernel_rfl)) (fun _ _ _ h => h) (Or.inr ⟨(by rfl), rfl⟩) ?_ ?_
     rotate_left
     ·exact Z38.z0
     refine pure_ (i := 30) (N := some 33) (v := undef) (a' := ?_) (Z38.b 42 2147483647) rfl rfl (any_of HT_.out (by kernel_rfl)) (fun _ _ _ h => h) (Or.inr ⟨(by rfl), rfl⟩) ?_ ?_
     rotate_left
     ·exact Z38.z0
     refine pure_ (i := 31) (N := some 34) (v := undef) (a' := ?_) (Z38.b 42 4294967295) rfl rfl (any_of HT_.out (by kernel_rfl)) (fun _ _ _ h => h) (Or.inr ⟨(by rfl), rfl⟩) ?_ ?_
     rotate_left
     ·exact Z38.z0
     refine pure_ (i := 32) (N := some 35) (v := undef) (a' := ?_) (Z38.b 42 8589934591) rfl rfl (any_of HT_.out (by kernel_rfl)) (fun _ _ _ h => h) (Or.inr ⟨(by rfl), rfl⟩) ?_ ?_
     rotate_left
     ·exact Z38.z0
     refine pure_ (i := 33) (N := some 36) (v := undef) (a' := ?_) (Z38.b 42 17179869183) rfl rfl (any_of HT_.out (by kernel_rfl)) (fun _ _ _ h => h) (Or.inr ⟨(by rfl), rfl⟩) ?_ ?_
     rotate_left
     ·exact Z38.z0
     refine pure_ (i := 34) (N := some 37) (v := undef) (a' := ?_) (Z38.b 42 34359738367) rfl rfl (any_of HT_.out (by kernel_rfl)) (fun _ _ _ h => h) (Or.inr ⟨(by rfl), rfl⟩) ?_ ?_
     rotate_left
     ·exact Z38.z0
     refine pure_ (i := 35) (N := some 38) (v := undef) (a' := ?_) (Z38.b 42 68719476735) rfl rfl (any_of HT_.out (by kernel_rfl)) (fun _ _ _ h => h) (Or.inr ⟨(by rfl), rfl⟩) ?_ ?_
     rotate_left
     ·exact Z38.z0
     refine pure_ (i := 36) (N := some 39) (v := undef) (a' := ?_) (Z38.b 42 137438953471) rfl rfl (any_of HT_.out (by kernel_rfl)) (fun _ _ _ h => h) (Or.inr ⟨(by rfl), rfl⟩) ?_ ?_
     rotate_left
     ·exact Z38.z0
     refine pure_ (i := 37) (N := some 40) (v := undef) (a' := ?_) (Z38.b 42 274877906943) rfl rfl (any_of HT_.out (by kernel_rfl)) (fun _ _ _ h => h) (Or.inr ⟨(by rfl), rfl⟩) ?_ ?_
     rotate_left
     ·exact Z38.z0
     refine pure_ (i := 38) (N := some 41) (v := undef) (a' := ?_) (Z38.b 42 549755813887) rfl rfl (any_of HT_.out (by kernel_rfl)) (fun _ _ _ h => h) (Or.inr ⟨(by rfl), rfl⟩) ?_ ?_
     rotate_left
     ·exact Z38.z0
     refine pure_ (i := 39) (N := some 42) (v := undef) (a' := ?_) (Z38.b 42 1099511627775) rfl rfl (any_of HT_.out (by kernel_rfl)) (fun _ _ _ h => h) (Or.inr ⟨(by rfl), rfl⟩) ?_ ?_
     rotate_left
     ·exact Z38.z0
     refine pure_ (i := 40) (N := some 43) (v := undef) (a' := ?_) (Z38.b 42 2199023255551) rfl rfl (any_of HT_.out (by kernel_rfl)) (fun _ _ _ h => h) (Or.inr ⟨(by rfl), rfl⟩) ?_ ?_
     rotate_left
     ·exact Z38.z0
     refine Z38.pP 41 44 (Z38.b 42 4398046511103) (any_of HT_.out (by kernel_rfl)) ?_
     refine done_ (done_of HT_.out (by kernel_rfl)) ?_
     try go_wp2
     go_meet
     case rel => exact ⟨_, (true), (by first | rfl | (simp; done) | (simp [*]; done)), H', ⟨(by first | omega | exact Nat.le_refl _)⟩, ⟨Z38.z4⟩, ⟨Z38.z2⟩⟩
    rw [if_neg c8] at H
    have c8b0 : decide (a0_1 < (l0_2.length : Int)) = false := decide_eq_false c8
    clear c8
    (first | rw [c8b0] | (simp only [i64_w, i32_w]; rw [c8b0]) | skip)
    replace H := Option.bind_eq_some_iff.mp H
    obtain ⟨t104, A100, H⟩ := H
    replace H : (spec_l04Ok.j0 k (!t104) a0_0 a0_1 l0_2) = some r := H
    have A10 := Aside0.mk A100
    clear A100
    have H' := Aside0.mk H
    clear H
    try go_wp2
    have n0_ := Aside0.mk (blk_drew BK101.out)
    have n1_ := Aside0.mk (below_drew1 HB.out)
    clear BK101 HB
    have BK101 := n0_
    have HB := n1_
    clear n0_ n1_
    refine start_ (n := 42) (S := fun w' => w'.cell? ⟨g0_, 0, none⟩ = some (.int .i64 a0_0) ∧ w'.cell? ⟨g0_, 1, none⟩ = some (.int .i64 a0_1) ∧ w'.cell? ⟨g0_, 2, none⟩ = some (.slice A0_2 l0_2.length c0_2)) (ds := []) #[false, false, false, false, false, false, false, false, false, false, false, false, false, false, false, false, false, false, false, false, false, false, false, false, false, false, false, false, false, false, false, false, false, false, false, false, false, false, false, false, false, false] (by kernel_rfl) rfl rfl Z38.z1 (fun hHeld => ?_); refine with_tabW spec_l04Ok.tab1 spec_l04Ok.bits1 (fun HT_ HW_ => ?_)
    generalize w.drew = w11 at BK101 HB hHeld ⊢
    refine Z38.pP 0 3 (Z38.b 42 1) (any_of HT_.out (by kernel_rfl)) ?_
    refine Z38.pP 1 4 (Z38.b 42 3) (any_of HT_.out (by kernel_rfl)) ?_
    refine Z38.pP 2 5 (Z38.b 42 7) (any_of HT_.out (by kernel_rfl)) ?_
    refine Z38.pT3 3 6 (Z38.b 42 15) (take_ofW HT_.out HW_.out (by kernel_rfl)) hHeld ?_
    refine one_ (i := 4) (N := some 7) (Z38.b 42 31) rfl rfl (one_of HT_.out (by kernel_rfl)) (by decide) (fun K hK => ?_)
    refine goes_ Try.func61 (by kernel_rfl) rfl #[.int .i64 a0_0] (by rfl) rfl rfl Z38.z3 ?_
    with_reducible refine (spec_l02Prime.calls k a0_0 true _ A4.out).mono ?_
    rintro e w' ⟨rfl, ⟨nd, rfl⟩⟩
    refine ⟨_, rfl, ?_⟩
    refine hK.out _ _ Z38.z1 (fun hHeld => ?_)
    clear hK K
    refine norm_ (a' := ?_) ?_ ?_
    rotate_left
    ·show Act.put _ (some 7) _ = _
     simp only [Act.put, List.setIfInBounds_toArray, List.set_cons_zero, List.set_cons_succ, i64_w, i32_w]
     rfl
    refine Z38.pP 5 8 (Z38.b 42 63) (any_of HT_.out (by kernel_rfl)) ?_
    refine Z38.pP 6 9 (Z38.b 42 127) (any_of HT_.out (by kernel_rfl)) ?_
    refine Z38.pP 7 10 (Z38.b 42 255) (any_of HT_.out (by kernel_rfl)) ?_
    refine Z38.pP 8 11 (Z38.b 42 511) (any_of HT_.out (by kernel_rfl)) ?_
    refine Z38.pP 9 12 (Z38.b 42 1023) (any_of HT_.out (by kernel_rfl)) ?_
    refine Z38.pT3 10 13 (Z38.b 42 2047) (take_ofW HT_.out HW_.out (by kernel_rfl)) hHeld ?_
    refine one_ (i := 11) (N := some 14) (Z38.b 42 4095) rfl rfl (one_of HT_.out (by kernel_rfl)) (by decide) (fun K hK => ?_)
    refine goes_ Try.func62 (by kernel_rfl) rfl #[.int .i64 a0_1, .int .i64 0, .int .i64 32] (by rfl) rfl rfl Z38.z3 ?_
    with_reducible refine (spec_l00In.calls a0_1 0 32 true _ A6.out).mono ?_
    rintro e w' ⟨rfl, ⟨nd, rfl⟩⟩
    refine ⟨_, rfl, ?_⟩
    refine hK.out _ _ Z38.z1 (fun hHeld => ?_)
    clear hK K
    refine norm_ (a' := ?_) ?_ ?_
    rotate_left
    ·show Act.put _ (some 14) _ = _
     simp only [Act.put, List.setIfInBounds_toArray, List.set_cons_zero, List.set_cons_succ, i64_w, i32_w]
     rfl
    refine Z38.pP 12 15 (Z38.b 42 8191) (any_of HT_.out (by kernel_rfl)) ?_
    refine Z38.pP 13 16 (Z38.b 42 16383) (any_of HT_.out (by kernel_rfl)) ?_
    refine Z38.pP 14 17 (Z38.b 42 32767) (any_of HT_.out (by kernel_rfl)) ?_
    refine Z38.pP 15 18 (Z38.b 42 65535) (any_of HT_.out (by kernel_rfl)) ?_
    refine Z38.pP 16 19 (Z38.b 42 131071) (any_of HT_.out (by kernel_rfl)) ?_
    refine Z38.pP 17 20 (Z38.b 42 262143) (any_of HT_.out (by kernel_rfl)) ?_
    refine Z38.pP 20 23 (Z38.b 42 1310719) (any_of HT_.out (by kernel_rfl)) ?_
    refine Z38.pP 21 24 (Z38.b 42 3407871) (any_of HT_.out (by kernel_rfl)) ?_
    refine Z38.pP 22 25 (Z38.b 42 7602175) (any_of HT_.out (by kernel_rfl)) ?_
    refine Z38.pT3 18 21 (Z38.b 42 7864319) (take_ofW HT_.out HW_.out (by kernel_rfl)) hHeld ?_
    refine Z38.pP 19 22 (Z38.b 42 8388607) (any_of HT_.out (by kernel_rfl)) ?_
    refine Z38.pT3 23 26 (Z38.b 42 16777215) (take_ofW HT_.out HW_.out (by kernel_rfl)) hHeld ?_
    refine Z38.pP 24 27 (Z38.b 42 33554431) (any_of HT_.out (by kernel_rfl)) ?_
    refine Z38.pP 25 28 (Z38.b 42 67108863) (any_of HT_.out (by kernel_rfl)) ?_
    refine Z38.pP 26 29 (Z38.b 42 134217727) (any_of HT_.out (by kernel_rfl)) ?_
    refine Z38.pP 27 30 (Z38.b 42 268435455) (any_of HT_.out (by kernel_rfl)) ?_
    refine Z38.pP 28 31 (Z38.b 42 536870911) (any_of HT_.out (by kernel_rfl)) ?_
    refine Z38.pP 29 32 (Z38.b 42 1073741823) (any_of HT_.out (by kernel_rfl)) ?_
    refine Z38.pP 31 34 (Z38.b 42 3221225471) (any_of HT_.out (by kernel_rfl)) ?_
    refine Z38.pP 32 35 (Z38.b 42 7516192767) (any_of HT_.out (by kernel_rfl)) ?_
    refine Z38.pP 33 36 (Z38.b 42 16106127359) (any_of HT_.out (by kernel_rfl)) ?_
    refine Z38.pP 35 38 (Z38.b 42 50465865727) (any_of HT_.out (by kernel_rfl)) ?_
    refine Z38.pP 36 39 (Z38.b 42 119185342463) (any_of HT_.out (by kernel_rfl)) ?_
    refine Z38.pP 37 40 (Z38.b 42 256624295935) (any_of HT_.out (by kernel_rfl)) ?_
    refine Z38.pT3 30 33 (Z38.b 42 257698037759) (take_ofW HT_.out HW_.out (by kernel_rfl)) hHeld ?_
    refine Z38.pT3 34 37 (Z38.b 42 274877906943) (take_ofW HT_.out HW_.out (by kernel_rfl)) hHeld ?_
    refine Z38.pT3 38 41 (Z38.b 42 549755813887) (take_ofW HT_.out HW_.out (by kernel_rfl)) hHeld ?_
    refine one_ (i := 39) (N := some 42) (Z38.b 42 1099511627775) rfl rfl (one_of HT_.out (by kernel_rfl)) (by decide) (fun K hK => ?_)
    refine goes_ Try.func63 (by kernel_rfl) rfl #[.int .i64 a0_0, .int .i64 a0_1, .slice A0_2 l0_2.length c0_2] (by rfl) rfl rfl Z38.z3 ?_
    with_reducible refine (spec_l04Vectors.calls k a0_0 a0_1 _ _ l0_2 t104 _ ?side1 ?side2 A10.out).mono ?_
    (case side1 => exact (by repeat (first | exact (Kd.C_below HR0_2.out Z38.z2) | (with_reducible refine Kd.C_alloc ?_ _) | (with_reducible refine Kd.C_drewN ?_ _) | (with_reducible refine Kd.C_drew ?_))))
    (case side2 => exact HC0_2.out)
    rintro e w' ⟨rfl, ⟨nd, rfl⟩⟩
    refine ⟨_, rfl, ?_⟩
    refine hK.out _ _ Z38.z1 (fun hHeld => ?_)
    clear hK K
    refine norm_ (a' := ?_) ?_ ?_
    rotate_left
    ·show Act.put _ (some 42) _ = _
     simp only [Act.put, List.setIfInBounds_toArray, List.set_cons_zero, List.set_cons_succ, i64_w, i32_w]
     rfl
    refine Z38.pP 40 43 (Z38.b 42 2199023255551) (any_of HT_.out (by kernel_rfl)) ?_
    refine Z38.pP 41 44 (Z38.b 42 4398046511103) (any_of HT_.out (by kernel_rfl)) ?_
    refine done_ (done_of HT_.out (by kernel_rfl)) ?_
    try go_wp2
    go_meet
    case rel => exact ⟨_, (!t104), (by first | rfl | (simp; done) | (simp [*]; done)), H', ⟨(by first | omega | exact Nat.le_refl _)⟩, ⟨Z38.z4⟩, ⟨Z38.z2⟩⟩
   replace c7 := Bool.eq_false_iff.mpr c7
   subst c7
   have H1 : (spec_l04Ok.j0 k true a0_0 a0_1 l0_2) = some r := by rw [if_neg (show ¬ (false = true) by decide)] at H; exact H
   clear H
   have H := H1
   clear H1
   have H' := Aside0.mk H
   clear H
   try go_wp2
   have n0_ := Aside0.mk (blk_drew BK101.out)
   have n1_ := Aside0.mk (below_drew1 HB.out)
   clear BK101 HB
   have BK101 := n0_
   have HB := n1_
   clear n0_ n1_
   refine start_ (n := 42) (S := fun w' => w'.cell? ⟨g0_, 0, none⟩ = some (.int .i64 a0_0) ∧ w'.cell? ⟨g0_, 1, none⟩ = some (.int .i64 a0_1) ∧ w'.cell? ⟨g0_, 2, none⟩ = some (.slice A0_2 l0_2.length c0_2)) (ds := []) #[false, false, false, false, false, false, false, false, false, false, false, false, false, false, false, false, false, false, false, false, false, false, false, false, false, false, false, false, false, false, false, false, false, false, false, false, false, false, false, false, false, false] (by kernel_rfl) rfl rfl Z38.z1 (fun hHeld => ?_); refine with_tabW spec_l04Ok.tab1 spec_l04Ok.bits1 (fun HT_ HW_ => ?_)
   generalize w.drew = w12 at BK101 HB hHeld ⊢
   refine Z38.pP 0 3 (Z38.b 42 1) (any_of HT_.out (by kernel_rfl)) ?_
   refine Z38.pP 1 4 (Z38.b 42 3) (any_of HT_.out (by kernel_rfl)) ?_
   refine Z38.pP 2 5 (Z38.b 42 7) (any_of HT_.out (by kernel_rfl)) ?_
   refine Z38.pT3 3 6 (Z38.b 42 15) (take_ofW HT_.out HW_.out (by kernel_rfl)) hHeld ?_
   refine one_ (i := 4) (N := some 7) (Z38.b 42 31) rfl rfl (one_of HT_.out (by kernel_rfl)) (by decide) (fun K hK => ?_)
   refine goes_ Try.func61 (by kernel_rfl) rfl #[.int .i64 a0_0] (by rfl) rfl rfl Z38.z3 ?_
   with_reducible refine (spec_l02Prime.calls k a0_0 true _ A4.out).mono ?_
   rintro e w' ⟨rfl, ⟨nd, rfl⟩⟩
   refine ⟨_, rfl, ?_⟩
   refine hK.out _ _ Z38.z1 (fun hHeld => ?_)
   clear hK K
   refine norm_ (a' := ?_) ?_ ?_
   rotate_left
   ·show Act.put _ (some 7) _ = _
    simp only [Act.put, List.setIfInBounds_toArray, List.set_cons_zero, List.set_cons_succ, i64_w, i32_w]
    rfl
   refine Z38.pP 5 8 (Z38.b 42 63) (any_of HT_.out (by kernel_rfl)) ?_
   refine Z38.pP 6 9 (Z38.b 42 127) (any_of HT_.out (by kernel_rfl)) ?_
   refine Z38.pP 7 10 (Z38.b 42 255) (any_of HT_.out (by kernel_rfl)) ?_
   refine Z38.pP 8 11 (Z38.b 42 511) (any_of HT_.out (by kernel_rfl)) ?_
   refine Z38.pP 9 12 (Z38.b 42 1023) (any_of HT_.out (by kernel_rfl)) ?_
   refine Z38.pT3 10 13 (Z38.b 42 2047) (take_ofW HT_.out HW_.out (by kernel_rfl)) hHeld ?_
   refine one_ (i := 11) (N := some 14) (Z38.b 42 4095) rfl rfl (one_of HT_.out (by kernel_rfl)) (by decide) (fun K hK => ?_)
   refine goes_ Try.func62 (by kernel_rfl) rfl #[.int .i64 a0_1, .int .i64 0, .int .i64 32] (by rfl) rfl rfl Z38.z3 ?_
   with_reducible refine (spec_l00In.calls a0_1 0 32 false _ A6.out).mono ?_
   rintro e w' ⟨rfl, ⟨nd, rfl⟩⟩
   refine ⟨_, rfl, ?_⟩
   refine hK.out _ _ Z38.z1 (fun hHeld => ?_)
   clear hK K
   refine norm_ (a' := ?_) ?_ ?_
   rotate_left
   ·show Act.put _ (some 14) _ = _
    simp only [Act.put, List.setIfInBounds_toArray, List.set_cons_zero, List.set_cons_succ, i64_w, i32_w]
    rfl
   refine Z38.pP 12 15 (Z38.b 42 8191) (any_of HT_.out (by kernel_rfl)) ?_
   refine Z38.pP 13 16 (Z38.b 42 16383) (any_of HT_.out (by kernel_rfl)) ?_
   refine Z38.pP 14 17 (Z38.b 42 32767) (any_of HT_.out (by kernel_rfl)) ?_
   refine pure_ (i := 15) (N := some 18) (v := undef) (a' := ?_) (Z38.b 42 65535) rfl rfl (any_of HT_.out (by kernel_rfl)) (fun _ _ _ h => h) (Or.inr ⟨(by rfl), rfl⟩) ?_ ?_
   rotate_left
   ·exact Z38.z0
   refine pure_ (i := 16) (N := some 19) (v := undef) (a' := ?_) (Z38.b 42 131071) rfl rfl (any_of HT_.out (by kernel_rfl)) (fun _ _ _ h => h) (Or.inr ⟨(by rfl), rfl⟩) ?_ ?_
   rotate_left
   ·exact Z38.z0
   refine pure_ (i := 17) (N := some 20) (v := undef) (a' := ?_) (Z38.b 42 262143) rfl rfl (any_of HT_.out (by kernel_rfl)) (fun _ _ _ h => h) (Or.inr ⟨(by rfl), rfl⟩) ?_ ?_
   rotate_left
   ·exact Z38.z0
   refine pure_ (i := 18) (N := some 21) (v := undef) (a' := ?_) (Z38.b 42 524287) rfl rfl (any_of HT_.out (by kernel_rfl)) (fun _ _ _ h => h) (Or.inr ⟨(by rfl), rfl⟩) ?_ ?_
   rotate_left
   ·exact Z38.z0
   refine pure_ (i := 19) (N := some 22) (v := undef) (a' := ?_) (Z38.b 42 1048575) rfl rfl (any_of HT_.out (by kernel_rfl)) (fun _ _ _ h => h) (Or.inr ⟨(by rfl), rfl⟩) ?_ ?_
   rotate_left
   ·exact Z38.z0
   refine pure_ (i := 20) (N := some 23) (v := undef) (a' := ?_) (Z38.b 42 2097151) rfl rfl (any_of HT_.out (by kernel_rfl)) (fun _ _ _ h => h) (Or.inr ⟨(by rfl), rfl⟩) ?_ ?_
   rotate_left
   ·exact Z38.z0
   refine pure_ (i := 21) (N := some 24) (v := undef) (a' := ?_) (Z38.b 42 4194303) rfl rfl (any_of HT_.out (by kernel_rfl)) (fun _ _ _ h => h) (Or.inr ⟨(by rfl), rfl⟩) ?_ ?_
   rotate_left
   ·exact Z38.z0
   refine pure_ (i := 22) (N := some 25) (v := undef) (a' := ?_) (Z38.b 42 8388607) rfl rfl (any_of HT_.out (by kernel_rfl)) (fun _ _ _ h => h) (Or.inr ⟨(by rfl), rfl⟩) ?_ ?_
   rotate_left
   ·exact Z38.z0
   refine pure_ (i := 23) (N := some 26) (v := undef) (a' := ?_) (Z38.b 42 16777215) rfl rfl (any_of HT_.out (by kernel_rfl)) (fun _ _ _ h => h) (Or.inr ⟨(by rfl), rfl⟩) ?_ ?_
   rotate_left
   ·exact Z38.z0
   refine pure_ (i := 24) (N := some 27) (v := undef) (a' := ?_) (Z38.b 42 33554431) rfl rfl (any_of HT_.out (by kernel_rfl)) (fun _ _ _ h => h) (Or.inr ⟨(by rfl), rfl⟩) ?_ ?_
   rotate_left
   ·exact Z38.z0
   refine Z38.pP 25 28 (Z38.b 42 67108863) (any_of HT_.out (by kernel_rfl)) ?_
   refine Z38.pP 26 29 (Z38.b 42 134217727) (any_of HT_.out (by kernel_rfl)) ?_
   refine pure_ (i := 27) (N := some 30) (v := undef) (a' := ?_) (Z38.b 42 268435455) rfl rfl (any_of HT_.out (by kernel_rfl)) (fun _ _ _ h => h) (Or.inr ⟨(by rfl), rfl⟩) ?_ ?_
   rotate_left
   ·exact Z38.z0
   refine pure_ (i := 28) (N := some 31) (v := undef) (a' := ?_) (Z38.b 42 536870911) rfl rfl (any_of HT_.out (by kernel_rfl)) (fun _ _ _ h => h) (Or.inr ⟨(by rfl), rfl⟩) ?_ ?_
   rotate_left
   ·exact Z38.z0
   refine pure_ (i := 29) (N := some 32) (v := undef) (a' := ?_) (Z38.b 42 1073741823) rfl rfl (any_of HT_.out (by kernel_rfl)) (fun _ _ _ h => h) (Or.inr ⟨(by rfl), rfl⟩) ?_ ?_
   rotate_left
   ·exact Z38.z0
   refine pure_ (i := 30) (N := some 33) (v := undef) (a' := ?_) (Z38.b 42 2147483647) rfl rfl (any_of HT_.out (by kernel_rfl)) (fun _ _ _ h => h) (Or.inr ⟨(by rfl), rfl⟩) ?_ ?_
   rotate_left
   ·exact Z38.z0
   refine pure_ (i := 31) (N := some 34) (v := undef) (a' := ?_) (Z38.b 42 4294967295) rfl rfl (any_of HT_.out (by kernel_rfl)) (fun _ _ _ h => h) (Or.inr ⟨(by rfl), rfl⟩) ?_ ?_
   rotate_left
   ·exact Z38.z0
   refine pure_ (i := 32) (N := some 35) (v := undef) (a' := ?_) (Z38.b 42 8589934591) rfl rfl (any_of HT_.out (by kernel_rfl)) (fun _ _ _ h => h) (Or.inr ⟨(by rfl), rfl⟩) ?_ ?_
   rotate_left
   ·exact Z38.z0
   refine pure_ (i := 33) (N := some 36) (v := undef) (a' := ?_) (Z38.b 42 17179869183) rfl rfl (any_of HT_.out (by kernel_rfl)) (fun _ _ _ h => h) (Or.inr ⟨(by rfl), rfl⟩) ?_ ?_
   rotate_left
   ·exact Z38.z0
   refine pure_ (i := 34) (N := some 37) (v := undef) (a' := ?_) (Z38.b 42 34359738367) rfl rfl (any_of HT_.out (by kernel_rfl)) (fun _ _ _ h => h) (Or.inr ⟨(by rfl), rfl⟩) ?_ ?_
   rotate_left
   ·exact Z38.z0
   refine pure_ (i := 35) (N := some 38) (v := undef) (a' := ?_) (Z38.b 42 68719476735) rfl rfl (any_of HT_.out (by kernel_rfl)) (fun _ _ _ h => h) (Or.inr ⟨(by rfl), rfl⟩) ?_ ?_
   rotate_left
   ·exact Z38.z0
   refine pure_ (i := 36) (N := some 39) (v := undef) (a' := ?_) (Z38.b 42 137438953471) rfl rfl (any_of HT_.out (by kernel_rfl)) (fun _ _ _ h => h) (Or.inr ⟨(by rfl), rfl⟩) ?_ ?_
   rotate_left
   ·exact Z38.z0
   refine pure_ (i := 37) (N := some 40) (v := undef) (a' := ?_) (Z38.b 42 274877906943) rfl rfl (any_of HT_.out (by kernel_rfl)) (fun _ _ _ h => h) (Or.inr ⟨(by rfl), rfl⟩) ?_ ?_
   rotate_left
   ·exact Z38.z0
   refine pure_ (i := 38) (N := some 41) (v := undef) (a' := ?_) (Z38.b 42 549755813887) rfl rfl (any_of HT_.out (by kernel_rfl)) (fun _ _ _ h => h) (Or.inr ⟨(by rfl), rfl⟩) ?_ ?_
   rotate_left
   ·exact Z38.z0
   refine pure_ (i := 39) (N := some 42) (v := undef) (a' := ?_) (Z38.b 42 1099511627775) rfl rfl (any_of HT_.out (by kernel_rfl)) (fun _ _ _ h => h) (Or.inr ⟨(by rfl), rfl⟩) ?_ ?_
   rotate_left
   ·exact Z38.z0
   refine pure_ (i := 40) (N := some 43) (v := undef) (a' := ?_) (Z38.b 42 2199023255551) rfl rfl (any_of HT_.out (by kernel_rfl)) (fun _ _ _ h => h) (Or.inr ⟨(by rfl), rfl⟩) ?_ ?_
   rotate_left
   ·exact Z38.z0
   refine Z38.pP 41 44 (Z38.b 42 4398046511103) (any_of HT_.out (by kernel_rfl)) ?_
   refine done_ (done_of HT_.out (by kernel_rfl)) ?_
   try go_wp2
   go_meet
   case rel => exact ⟨_, (true), (by first | rfl | (simp; done) | (simp [*]; done)), H', ⟨(by first | omega | exact Nat.le_refl _)⟩, ⟨Z38.z4⟩, ⟨Z38.z2⟩⟩
  replace c5 := Bool.eq_false_iff.mpr c5
  subst c5
  have H1 : (spec_l04Ok.j0 k true a0_0 a0_1 l0_2) = some r := by rw [if_neg (show ¬ (false = true) by decide)] at H; exact H
  clear H
  have H := H1
  clear H1
  have H' := Aside0.mk H
  clear H
  try go_wp2
  have n0_ := Aside0.mk (blk_drew BK101.out)
  have n1_ := Aside0.mk (below_drew1 HB.out)
  clear BK101 HB
  have BK101 := n0_
  have HB := n1_
  clear n0_ n1_
  refine start_ (n := 42) (S := fun w' => w'.cell? ⟨g0_, 0, none⟩ = some (.int .i64 a0_0) ∧ w'.cell? ⟨g0_, 1, none⟩ = some (.int .i64 a0_1) ∧ w'.cell? ⟨g0_, 2, none⟩ = some (.slice A0_2 l0_2.length c0_2)) (ds := []) #[false, false, false, false, false, false, false, false, false, false, false, false, false, false, false, false, false, false, false, false, false, false, false, false, false, false, false, false, false, false, false, false, false, false, false, false, false, false, false, false, false, false] (by kernel_rfl) rfl rfl Z38.z1 (fun hHeld => ?_); refine with_tabW spec_l04Ok.tab1 spec_l04Ok.bits1 (fun HT_ HW_ => ?_)
  generalize w.drew = w13 at BK101 HB hHeld ⊢
  refine Z38.pP 0 3 (Z38.b 42 1) (any_of HT_.out (by kernel_rfl)) ?_
  refine Z38.pP 1 4 (Z38.b 42 3) (any_of HT_.out (by kernel_rfl)) ?_
  refine Z38.pP 2 5 (Z38.b 42 7) (any_of HT_.out (by kernel_rfl)) ?_
  refine Z38.pT3 3 6 (Z38.b 42 15) (take_ofW HT_.out HW_.out (by kernel_rfl)) hHeld ?_
  refine one_ (i := 4) (N := some 7) (Z38.b 42 31) rfl rfl (one_of HT_.out (by kernel_rfl)) (by decide) (fun K hK => ?_)
  refine goes_ Try.func61 (by kernel_rfl) rfl #[.int .i64 a0_0] (by rfl) rfl rfl Z38.z3 ?_
  with_reducible refine (spec_l02Prime.calls k a0_0 false _ A4.out).mono ?_
  rintro e w' ⟨rfl, ⟨nd, rfl⟩⟩
  refine ⟨_, rfl, ?_⟩
  refine hK.out _ _ Z38.z1 (fun hHeld => ?_)
  clear hK K
  refine norm_ (a' := ?_) ?_ ?_
  rotate_left
  ·show Act.put _ (some 7) _ = _
   simp only [Act.put, List.setIfInBounds_toArray, List.set_cons_zero, List.set_cons_succ, i64_w, i32_w]
   rfl
  refine Z38.pP 5 8 (Z38.b 42 63) (any_of HT_.out (by kernel_rfl)) ?_
  refine Z38.pP 6 9 (Z38.b 42 127) (any_of HT_.out (by kernel_rfl)) ?_
  refine pure_ (i := 7) (N := some 10) (v := undef) (a' := ?_) (Z38.b 42 255) rfl rfl (any_of HT_.out (by kernel_rfl)) (fun _ _ _ h => h) (Or.inr ⟨(by rfl), rfl⟩) ?_ ?_
  rotate_left
  ·exact Z38.z0
  refine pure_ (i := 8) (N := some 11) (v := undef) (a' := ?_) (Z38.b 42 511) rfl rfl (any_of HT_.out (by kernel_rfl)) (fun _ _ _ h => h) (Or.inr ⟨(by rfl), rfl⟩) ?_ ?_
  rotate_left
  ·exact Z38.z0
  refine pure_ (i := 9) (N := some 12) (v := undef) (a' := ?_) (Z38.b 42 1023) rfl rfl (any_of HT_.out (by kernel_rfl)) (fun _ _ _ h => h) (Or.inr ⟨(by rfl), rfl⟩) ?_ ?_
  rotate_left
  ·exact Z38.z0
  refine pure_ (i := 10) (N := some 13) (v := undef) (a' := ?_) (Z38.b 42 2047) rfl rfl (any_of HT_.out (by kernel_rfl)) (fun _ _ _ h => h) (Or.inr ⟨(by rfl), rfl⟩) ?_ ?_
  rotate_left
  ·exact Z38.z0
  refine pure_ (i := 11) (N := some 14) (v := undef) (a' := ?_) (Z38.b 42 4095) rfl rfl (any_of HT_.out (by kernel_rfl)) (fun _ _ _ h => h) (Or.inr ⟨(by rfl), rfl⟩) ?_ ?_
  rotate_left
  ·exact Z38.z0
  refine pure_ (i := 12) (N := some 15) (v := undef) (a' := ?_) (Z38.b 42 8191) rfl rfl (any_of HT_.out (by kernel_rfl)) (fun _ _ _ h => h) (Or.inr ⟨(by rfl), rfl⟩) ?_ ?_
  rotate_left
  ·exact Z38.z0
  refine Z38.pP 13 16 (Z38.b 42 16383) (any_of HT_.out (by kernel_rfl)) ?_
  refine Z38.pP 14 17 (Z38.b 42 32767) (any_of HT_.out (by kernel_rfl)) ?_
  refine pure_ (i := 15) (N := some 18) (v := undef) (a' := ?_) (Z38.b 42 65535) rfl rfl (any_of HT_.out (by kernel_rfl)) (fun _ _ _ h => h) (Or.inr ⟨(by rfl), rfl⟩) ?_ ?_
  rotate_left
  ·exact Z38.z0
  refine pure_ (i := 16) (N := some 19) (v := undef) (a' := ?_) (Z38.b 42 131071) rfl rfl (any_of HT_.out (by kernel_rfl)) (fun _ _ _ h => h) (Or.inr ⟨(by rfl), rfl⟩) ?_ ?_
  rotate_left
  ·exact Z38.z0
  refine pure_ (i := 17) (N := some 20) (v := undef) (a' := ?_) (Z38.b 42 262143) rfl rfl (any_of HT_.out (by kernel_rfl)) (fun _ _ _ h => h) (Or.inr ⟨(by rfl), rfl⟩) ?_ ?_
  rotate_left
  ·exact Z38.z0
  refine pure_ (i := 18) (N := some 21) (v := undef) (a' := ?_) (Z38.b 42 524287) rfl rfl (any_of HT_.out (by kernel_rfl)) (fun _ _ _ h => h) (Or.inr ⟨(by rfl), rfl⟩) ?_ ?_
  rotate_left
  ·exact Z38.z0
  refine pure_ (i := 19) (N := some 22) (v := undef) (a' := ?_) (Z38.b 42 1048575) rfl rfl (any_of HT_.out (by kernel_rfl)) (fun _ _ _ h => h) (Or.inr ⟨(by rfl), rfl⟩) ?_ ?_
  rotate_left
  ·exact Z38.z0
  refine pure_ (i := 20) (N := some 23) (v := undef) (a' := ?_) (Z38.b 42 2097151) rfl rfl (any_of HT_.out (by kernel_rfl)) (fun _ _ _ h => h) (Or.inr ⟨(by rfl), rfl⟩) ?_ ?_
  rotate_left
  ·exact Z38.z0
  refine pure_ (i := 21) (N := some 24) (v := undef) (a' := ?_) (Z38.b 42 4194303) rfl rfl (any_of HT_.out (by kernel_rfl)) (fun _ _ _ h => h) (Or.inr ⟨(by rfl), rfl⟩) ?_ ?_
  rotate_left
  ·exact Z38.z0
  refine pure_ (i := 22) (N := some 25) (v := undef) (a' := ?_) (Z38.b 42 8388607) rfl rfl (any_of HT_.out (by kernel_rfl)) (fun _ _ _ h => h) (Or.inr ⟨(by rfl), rfl⟩) ?_ ?_
  rotate_left
  ·exact Z38.z0
  refine pure_ (i := 23) (N := some 26) (v := undef) (a' := ?_) (Z38.b 42 16777215) rfl rfl (any_of HT_.out (by kernel_rfl)) (fun _ _ _ h => h) (Or.inr ⟨(by rfl), rfl⟩) ?_ ?_
  rotate_left
  ·exact Z38.z0
  refine pure_ (i := 24) (N := some 27) (v := undef) (a' := ?_) (Z38.b 42 33554431) rfl rfl (any_of HT_.out (by kernel_rfl)) (fun _ _ _ h => h) (Or.inr ⟨(by rfl), rfl⟩) ?_ ?_
  rotate_left
  ·exact Z38.z0
  refine Z38.pP 25 28 (Z38.b 42 67108863) (any_of HT_.out (by kernel_rfl)) ?_
  refine Z38.pP 26 29 (Z38.b 42 134217727) (any_of HT_.out (by kernel_rfl)) ?_
  refine pure_ (i := 27) (N := some 30) (v := undef) (a' := ?_) (Z38.b 42 268435455) rfl rfl (any_of HT_.out (by kernel_rfl)) (fun _ _ _ h => h) (Or.inr ⟨(by rfl), rfl⟩) ?_ ?_
  rotate_left
  ·exact Z38.z0
  refine pure_ (i := 28) (N := some 31) (v := undef) (a' := ?_) (Z38.b 42 536870911) rfl rfl (any_of HT_.out (by kernel_rfl)) (fun _ _ _ h => h) (Or.inr ⟨(by rfl), rfl⟩) ?_ ?_
  rotate_left
  ·exact Z38.z0
  refine pure_ (i := 29) (N := some 32) (v := undef) (a' := ?_) (Z38.b 42 1073741823) rfl rfl (any_of HT_.out (by kernel_rfl)) (fun _ _ _ h => h) (Or.inr ⟨(by rfl), rfl⟩) ?_ ?_
  rotate_left
  ·exact Z38.z0
  refine pure_ (i := 30) (N := some 33) (v := undef) (a' := ?_) (Z38.b 42 2147483647) rfl rfl (any_of HT_.out (by kernel_rfl)) (fun _ _ _ h => h) (Or.inr ⟨(by rfl), rfl⟩) ?_ ?_
  rotate_left
  ·exact Z38.z0
  refine pure_ (i := 31) (N := some 34) (v := undef) (a' := ?_) (Z38.b 42 4294967295) rfl rfl (any_of HT_.out (by kernel_rfl)) (fun _ _ _ h => h) (Or.inr ⟨(by rfl), rfl⟩) ?_ ?_
  rotate_left
  ·exact Z38.z0
  refine pure_ (i := 32) (N := some 35) (v := undef) (a' := ?_) (Z38.b 42 8589934591) rfl rfl (any_of HT_.out (by kernel_rfl)) (fun _ _ _ h => h) (Or.inr ⟨(by rfl), rfl⟩) ?_ ?_
  rotate_left
  ·exact Z38.z0
  refine pure_ (i := 33) (N := some 36) (v := undef) (a' := ?_) (Z38.b 42 17179869183) rfl rfl (any_of HT_.out (by kernel_rfl)) (fun _ _ _ h => h) (Or.inr ⟨(by rfl), rfl⟩) ?_ ?_
  rotate_left
  ·exact Z38.z0
  refine pure_ (i := 34) (N := some 37) (v := undef) (a' := ?_) (Z38.b 42 34359738367) rfl rfl (any_of HT_.out (by kernel_rfl)) (fun _ _ _ h => h) (Or.inr ⟨(by rfl), rfl⟩) ?_ ?_
  rotate_left
  ·exact Z38.z0
  refine pure_ (i := 35) (N := some 38) (v := undef) (a' := ?_) (Z38.b 42 68719476735) rfl rfl (any_of HT_.out (by kernel_rfl)) (fun _ _ _ h => h) (Or.inr ⟨(by rfl), rfl⟩) ?_ ?_
  rotate_left
  ·exact Z38.z0
  refine pure_ (i := 36) (N := some 39) (v := undef) (a' := ?_) (Z38.b 42 137438953471) rfl rfl (any_of HT_.out (by kernel_rfl)) (fun _ _ _ h => h) (Or.inr ⟨(by rfl), rfl⟩) ?_ ?_
  rotate_left
  ·exact Z38.z0
  refine pure_ (i := 37) (N := some 40) (v := undef) (a' := ?_) (Z38.b 42 274877906943) rfl rfl (any_of HT_.out (by kernel_rfl)) (fun _ _ _ h => h) (Or.inr ⟨(by rfl), rfl⟩) ?_ ?_
  rotate_left
  ·exact Z38.z0
  refine pure_ (i := 38) (N := some 41) (v := undef) (a' := ?_) (Z38.b 42 549755813887) rfl rfl (any_of HT_.out (by kernel_rfl)) (fun _ _ _ h => h) (Or.inr ⟨(by rfl), rfl⟩) ?_ ?_
  rotate_left
  ·exact Z38.z0
  refine pure_ (i := 39) (N := some 42) (v := undef) (a' := ?_) (Z38.b 42 1099511627775) rfl rfl (any_of HT_.out (by kernel_rfl)) (fun _ _ _ h => h) (Or.inr ⟨(by rfl), rfl⟩) ?_ ?_
  rotate_left
  ·exact Z38.z0
  refine pure_ (i := 40) (N := some 43) (v := undef) (a' := ?_) (Z38.b 42 2199023255551) rfl rfl (any_of HT_.out (by kernel_rfl)) (fun _ _ _ h => h) (Or.inr ⟨(by rfl), rfl⟩) ?_ ?_
  rotate_left
  ·exact Z38.z0
  refine Z38.pP 41 44 (Z38.b 42 4398046511103) (any_of HT_.out (by kernel_rfl)) ?_
  refine done_ (done_of HT_.out (by kernel_rfl)) ?_
  try go_wp2
  go_meet
  case rel => exact ⟨_, (true), (by first | rfl | (simp; done) | (simp [*]; done)), H', ⟨(by first | omega | exact Nat.le_refl _)⟩, ⟨Z38.z4⟩, ⟨Z38.z2⟩⟩
 case rest =>
  clear HC2
  try clear p2
  try clear c5
  try clear c6
  try clear c7
  obtain ⟨kq, x44_1, rfl, HA, HJ1, BK101, HB⟩ := hcut
  cases kq with
  | zero => exact absurd HA.out (by simp [spec_l04Ok.j0])
  | succ kj1 =>
   have H := HA.out
   clear HA
   simp only [spec_l04Ok.j0] at H
   by_cases c14 : x44_1 = true
   ·subst c14
    have H1 : (some false) = some r := by rw [if_pos rfl] at H; exact H
    clear H
    have H := H1
    clear H1
    obtain rfl := Option.some.inj H
    go_wp2
    go_ret
    exact ⟨(by first | rfl | (simp [errW_none, errW_some] <;> rfl) | (simp [*, errW_none, errW_some] <;> rfl)), Z38.z2⟩
   replace c14 := Bool.eq_false_iff.mpr c14
   subst c14
   have H1 : ((spec_l04Basis.f kj1 a0_0 a0_1 l0_2).bind fun t105 => ((spec_l04SameRows.f kj1 t105 l0_2).bind fun t108 => (some t108))) = some r := by rw [if_neg (show ¬ (false = true) by decide)] at H; exact H
   clear H
   have H := H1
   clear H1
   replace H := Option.bind_eq_some_iff.mp H
   obtain ⟨t105, A150, H⟩ := H
   replace H : ((spec_l04SameRows.f kj1 t105 l0_2).bind fun t108 => (some t108)) = some r := H
   have A15 := Aside0.mk A150
   clear A150
   replace H := Option.bind_eq_some_iff.mp H
   obtain ⟨t108, A160, H⟩ := H
   replace H : (some t108) = some r := H
   have A16 := Aside0.mk A160
   clear A160
   obtain rfl := Option.some.inj H
   try go_wp2
   have n0_ := Aside0.mk (blk_drew BK101.out)
   have n1_ := Aside0.mk (below_drew1 HB.out)
   clear BK101 HB
   have BK101 := n0_
   have HB := n1_
   clear n0_ n1_
   refine start_ (n := 19) (S := fun w' => w'.cell? ⟨g0_, 0, none⟩ = some (.int .i64 a0_0) ∧ w'.cell? ⟨g0_, 1, none⟩ = some (.int .i64 a0_1) ∧ w'.cell? ⟨g0_, 2, none⟩ = some (.slice A0_2 l0_2.length c0_2)) (ds := []) #[false, false, false, false, false, false, false, false, false, false, false, false, false, false, false, false, false, false, false] (by kernel_rfl) rfl rfl Z38.z1 (fun hHeld => ?_); refine with_tabW spec_l04Ok.tab3 spec_l04Ok.bits3 (fun HT_ HW_ => ?_)
   generalize wc.drew = w17 at BK101 HB hHeld ⊢
   refine Z38.pP 0 45 (Z38.b 19 1) (any_of HT_.out (by kernel_rfl)) ?_
   refine Z38.pP 1 46 (Z38.b 19 3) (any_of HT_.out (by kernel_rfl)) ?_
   refine Z38.pP 2 47 (Z38.b 19 7) (any_of HT_.out (by kernel_rfl)) ?_
   refine Z38.pP 4 49 (Z38.b 19 23) (any_of HT_.out (by kernel_rfl)) ?_
   refine Z38.pP 5 50 (Z38.b 19 55) (any_of HT_.out (by kernel_rfl)) ?_
   refine Z38.pP 6 51 (Z38.b 19 119) (any_of HT_.out (by kernel_rfl)) ?_
   refine Z38.pP 8 53 (Z38.b 19 375) (any_of HT_.out (by kernel_rfl)) ?_
   refine Z38.pP 9 54 (Z38.b 19 887) (any_of HT_.out (by kernel_rfl)) ?_
   refine Z38.pP 10 55 (Z38.b 19 1911) (any_of HT_.out (by kernel_rfl)) ?_
   refine Z38.pP 13 58 (Z38.b 19 10103) (any_of HT_.out (by kernel_rfl)) ?_
   refine Z38.pP 14 59 (Z38.b 19 26487) (any_of HT_.out (by kernel_rfl)) ?_
   refine Z38.pP 15 60 (Z38.b 19 59255) (any_of HT_.out (by kernel_rfl)) ?_
   refine Z38.pT3 3 48 (Z38.b 19 59263) (take_ofW HT_.out HW_.out (by kernel_rfl)) hHeld ?_
   refine Z38.pT3 7 52 (Z38.b 19 59391) (take_ofW HT_.out HW_.out (by kernel_rfl)) hHeld ?_
   refine Z38.pT3 11 56 (Z38.b 19 61439) (take_ofW HT_.out HW_.out (by kernel_rfl)) hHeld ?_
   refine Z38.pT3 16 61 (Z38.b 19 126975) (take_ofW HT_.out HW_.out (by kernel_rfl)) hHeld ?_
   refine one_ (i := 12) (N := some 57) (Z38.b 19 131071) rfl rfl (one_of HT_.out (by kernel_rfl)) (by decide) (fun K hK => ?_)
   refine goes_ Try.func65 (by kernel_rfl) rfl #[.int .i64 a0_0, .int .i64 a0_1, .slice A0_2 l0_2.length c0_2] (by rfl) rfl rfl Z38.z3 ?_
   with_reducible refine (spec_l04Basis.calls kj1 a0_0 a0_1 _ _ l0_2 t105 _ ?side1 ?side2 A15.out).mono ?_
   (case side1 => exact Z38.z5)
   (case side2 => exact HC0_2.out)
   rintro e w18 ⟨v106, rfl, ho0, hb⟩
   refine ⟨_, rfl, ?_⟩
   have n0_ := Aside0.mk (Kd.S_lower ho0 (below_size Z38.z2))
   have n1_ := Aside0.mk (Z38.bb BK101 Z38.z4 hb)
   have n2_ := Aside0.mk (below_step Z38.z2 hb)
   clear BK101 HB
   have HO107 := n0_
   have BK101 := n1_
   have HB := n2_
   clear n0_ n1_ n2_
   (try clear hb)
   (try clear hb2)
   (try clear hk)
   (try clear hi)
   (try clear ho0)
   obtain ⟨Ao19, co19, eo19⟩ := Kd.S_slice HO107.out
   (first | subst eo19 | (injection eo19 with f1_ f2_ f3_; have f4_ := f1_.symm; have f5_ := f3_.symm; clear f1_ f2_ f3_; subst f4_; subst f5_))
   refine hK.out _ _ Z38.z1 (fun hHeld => ?_)
   clear hK K
   refine norm_ (a' := ?_) ?_ ?_
   rotate_left
   ·show Act.put _ (some 57) _ = _
    simp only [Act.put, List.setIfInBounds_toArray, List.set_cons_zero, List.set_cons_succ, i64_w, i32_w]
    rfl
   refine one_ (i := 17) (N := some 62) (Z38.b 19 262143) rfl rfl (one_of HT_.out (by kernel_rfl)) (by decide) (fun K hK => ?_)
   refine goes_ Try.func64 (by kernel_rfl) rfl #[.slice Ao19 t105.length co19, .slice A0_2 l0_2.length c0_2] (by rfl) rfl rfl Z38.z3 ?_
   with_reducible refine (spec_l04SameRows.calls kj1 _ _ t105 _ _ l0_2 t108 _ ?side1 ?side2 ?side3 ?side4 A16.out).mono ?_
   (case side1 => exact (by repeat (first | exact (Kd.S_reads' HO107.out).2.2 | (with_reducible refine Kd.C_alloc ?_ _) | (with_reducible refine Kd.C_drewN ?_ _) | (with_reducible refine Kd.C_drew ?_))))
   (case side2 => exact (Kd.S_reads' HO107.out).2.1)
   (case side3 => exact Z38.z5)
   (case side4 => exact HC0_2.out)
   rintro e w' ⟨rfl, ⟨nd, rfl⟩⟩
   refine ⟨_, rfl, ?_⟩
   refine hK.out _ _ Z38.z1 (fun hHeld => ?_)
   clear hK K
   refine norm_ (a' := ?_) ?_ ?_
   rotate_left
   ·show Act.put _ (some 62) _ = _
    simp only [Act.put, List.setIfInBounds_toArray, List.set_cons_zero, List.set_cons_succ, i64_w, i32_w]
    rfl
   refine Z38.pP 18 2 (Z38.b 19 524287) (any_of HT_.out (by kernel_rfl)) ?_
   refine done_ (done_of HT_.out (by kernel_rfl)) ?_
   try go_wp2
   go_ret
   exact ⟨(by first | rfl | (simp [errW_none, errW_some] <;> rfl) | (simp [*, errW_none, errW_some] <;> rfl)), Z38.z2⟩
end Go.Proofs.Ytmbbjmkcbpefhaa.F
end
