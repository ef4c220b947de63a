-- Texts of this claim, merged by packw.py (a program of this session's).
import Derived.Test.YtoekjicknclooaaQFnInverse2
import Derived.Test.YtoekjicknclooaaQFnInverse5
import Derived.Test.YtoekjicknclooaaQFnInverse6
import Derived.Test.YtoekjicknclooaaQFnInverse8
import Derived.Test.YtoekjicknclooaaQFnInverse4
import Derived.Test.YtoekjicknclooaaQFnInverse3

section
namespace Go.Proofs.Ytoekjicknclooaa.F
open Go.RowKit Go.Proofs.YtoekjicknclooaaW.PrintWords Go.Proofs.YtoekjicknclooaaW.PrintLast Go.Proofs.YtoekjicknclooaaW.PrintMore
attribute [local go_sem] max2_int min2_int max_two min_two max_three min_three max_four min_four   -- for this text's walks alone
set_option linter.unusedVariables false
set_option linter.unusedSimpArgs false
/-! ### impl_product_1: function 118: ours -/
def impl_product_1.cell (p r c : Int) (l : List Int) (cols : List (List Int)) : Cell2 := ⟨fun i j => if 0 ≤ j then (if j < (cols.length : Int) then impl_Matrix_row.f 100 p r c l i (rd_L2 cols j) p else none) else none⟩
theorem impl_product_1.parts {p r c : Int} {l : List Int} {cols : List (List Int)} {i j v : Int} (h : (impl_product_1.cell p r c l cols).f i j = some v) : 0 ≤ j ∧ j < (cols.length : Int) ∧ impl_Matrix_row.f 100 p r c l i (rd_L2 cols j) p = some v := by
  have h : (if 0 ≤ j then (if j < (cols.length : Int) then impl_Matrix_row.f 100 p r c l i (rd_L2 cols j) p else none) else none) = some v := h
  by_cases h0 : 0 ≤ j
  · rw [if_pos h0] at h
    by_cases h1 : j < (cols.length : Int)
    · rw [if_pos h1] at h
      exact ⟨h0, h1, h⟩
    · rw [if_neg h1] at h; cases h
  · rw [if_neg h0] at h; cases h
def impl_product_1.T1 : Bool × List (List Nat × List Nat) := (true, [([], []), ([], []), ([0, 1], [0, 1]), ([], []), ([], []), ([3, 4], [3, 4]), ([5], [5]), ([], []), ([7], [7]), ([2, 6, 8, 2], [2, 6, 8]), ([9, 9, 0, 1, 2, 3, 4, 5, 6, 7, 8, 9], [9])])
def impl_product_1.B1 : List Nat := [0, 0, 3, 0, 0, 24, 56, 0, 128, 511, 1023]
theorem impl_product_1.tab1 : rtab .any (opsOf Try.f118 1) = impl_product_1.T1 := by kernel_rfl
theorem impl_product_1.bits1 : waitsOk impl_product_1.T1.2 impl_product_1.B1 = true := by kernel_rfl
set_option maxHeartbeats 4000000 in
set_option maxRecDepth 100000 in
theorem impl_product_1.cells (gb gc : Nat) (p r c : Int) (A : Option Addr) (cap : Nat) (l : List Int) (Ac : Option Addr) (capc : Nat) (cols : List (List Int)) (w : World) (hb : w.heap[gb]? = some (.cells #[.int .i64 p, .int .i64 r, .int .i64 c, .slice A l.length cap] 27 (0, 0))) (hbc : w.heap[gc]? = some (.cells #[.slice Ac cols.length capc] 49 (0, 0))) (hr : Kd.C (Kd.int .i64) w A l.length l) (hc : l.length ≤ cap) (hrc : Kd.C (Kd.slice 2 (Kd.int .i64)) w Ac cols.length cols) :
    ∀ (W : World) (i j v : Int), Below w.heap.size w W → (impl_product_1.cell p r c l cols).f i j = some v → Calls Try.prog 118 (#[.int .i64 i, .int .i64 j] ++ #[.pointer (some ⟨gb, 0, none⟩), .pointer (some ⟨gc, 0, none⟩)]) W fun e w' => e = .returned (.int .i64 v) ∧ Below W.heap.size W w' := by
  intro W i j v hB h
  obtain ⟨j0, j1, hd⟩ := impl_product_1.parts h
  have AR := Aside0.mk hd
  have BK := Aside0.mk (blk_drew (blk_below hb hB))
  have BC := Aside0.mk (blk_drew (blk_below hbc hB))
  have HR := Aside0.mk (Kd.C_drew (Kd.C_below hr hB))
  have HC := Aside0.mk hc
  obtain ⟨ad, Aj, cj, ea, hx, hl, hi⟩ := at_L2 (Kd.C_drew (Kd.C_below hrc hB)) j j0 j1
  cases ea
  have HX := Aside0.mk hx
  have HL := Aside0.mk hl
  have HI := Aside0.mk hi
  have HB := Aside0.mk (below_drew1 (Below.refl W.heap.size W))
  have c0 : decide (0 ≤ j) = true := decide_eq_true j0
  have c1 : decide (j < (cols.length : Int)) = true := decide_eq_true j1
  clear h hd hb hbc hr hB hc hrc hx hl hi
  replace j0 := eq_true j0
  replace j1 := eq_true j1
  go_enter Try.func118, Try.ntmps118
  try go_wp2
  refine start_ (n := 11) (S := fun w' => w'.cell? ⟨gb, 0, none⟩ = some (.int .i64 p) ∧ w'.cell? ⟨gb, 1, none⟩ = some (.int .i64 r) ∧ w'.cell? ⟨gb, 2, none⟩ = some (.int .i64 c) ∧ w'.cell? ⟨gb, 3, none⟩ = some (.slice A l.length cap) ∧ w'.cell? ⟨gc, 0, none⟩ = some (.slice (some ad) cols.length capc) ∧ w'.cell? (ad.add j.toNat) = some (.slice Aj (rd_L2 cols j).length cj)) (ds := []) #[false, false, false, false, false, false, false, false, false, false, false] (by kernel_rfl) rfl rfl ⟨(blk_cell BK.out 0).trans rfl, (blk_cell BK.out 1).trans rfl, (blk_cell BK.out 2).trans rfl, (blk_cell BK.out 3).trans rfl, (blk_cell BC.out 0).trans rfl, HX.out⟩ (fun hHeld => ?_); refine with_tabW impl_product_1.tab1 impl_product_1.bits1 (fun HT_ HW_ => ?_)
  generalize W.drew = w1 at BK BC HR HX HI HB hHeld ⊢
  refine pure_ (i := 1) (N := some 8) (v := ?_) (a' := ?_) #[false, true, false, false, false, false, false, false, false, false, false] rfl rfl (any_of HT_.out (by kernel_rfl)) (fun _ _ _ h => h) (Or.inl ⟨(by rfl), ?_⟩) ?_ ?_
  rotate_left
  · intro w'
    go_simp
    with_reducible rfl
  rotate_left
  · simp only [Act.put, List.setIfInBounds_toArray, List.set_cons_zero, List.set_cons_succ, i64_w, i32_w]
    rfl
  refine pure_ (i := 4) (N := some 11) (v := ?_) (a' := ?_) #[false, true, false, false, true, false, false, false, false, false, false] rfl rfl (any_of HT_.out (by kernel_rfl)) (fun _ _ _ h => h) (Or.inl ⟨(by rfl), ?_⟩) ?_ ?_
  rotate_left
  · intro w'
    go_simp
    with_reducible rfl
  rotate_left
  · simp only [Act.put, List.setIfInBounds_toArray, List.set_cons_zero, List.set_cons_succ, i64_w, i32_w]
    rfl
  refine pure_ (i := 7) (N := some 14) (v := ?_) (a' := ?_) #[false, true, false, false, true, false, false, true, false, false, false] rfl rfl (any_of HT_.out (by kernel_rfl)) (fun _ _ _ h => h) (Or.inl ⟨(by rfl), ?_⟩) ?_ ?_
  rotate_left
  · intro w'
    go_simp
    with_reducible rfl
  rotate_left
  · simp only [Act.put, List.setIfInBounds_toArray, List.set_cons_zero, List.set_cons_succ, i64_w, i32_w]
    rfl
  refine take_ (i := 0) (N := some 7) (v := ?_) (a' := ?_) #[true, true, false, false, true, false, false, true, false, false, false] rfl rfl (take_ofW HT_.out HW_.out (by kernel_rfl)) (fun _ _ _ h => h) (Or.inl ⟨(by rfl), ?_⟩) hHeld ?_ ?_
  rotate_left
  · rintro w' ⟨s0, s1, s2, s3, s4, s5⟩
    go_simp
    with_reducible rfl
  rotate_left
  · simp only [Act.put, List.setIfInBounds_toArray, List.set_cons_zero, List.set_cons_succ, i64_w, i32_w]
    rfl
  refine take_ (i := 3) (N := some 10) (v := ?_) (a' := ?_) #[true, true, false, true, true, false, false, true, false, false, false] rfl rfl (take_ofW HT_.out HW_.out (by kernel_rfl)) (fun _ _ _ h => h) (Or.inl ⟨(by rfl), ?_⟩) hHeld ?_ ?_
  rotate_left
  · rintro w' ⟨s0, s1, s2, s3, s4, s5⟩
    go_simp
    with_reducible rfl
  rotate_left
  · simp only [Act.put, List.setIfInBounds_toArray, List.set_cons_zero, List.set_cons_succ, i64_w, i32_w]
    rfl
  refine pure_ (i := 5) (N := some 12) (v := ?_) (a' := ?_) #[true, true, false, true, true, true, false, true, false, false, false] rfl rfl (any_of HT_.out (by kernel_rfl)) (fun _ _ _ h => h) (Or.inl ⟨(by rfl), ?_⟩) ?_ ?_
  rotate_left
  · intro w'
    go_simp
    with_reducible rfl
  rotate_left
  · simp only [Act.put, List.setIfInBounds_toArray, List.set_cons_zero, List.set_cons_succ, i64_w, i32_w]
    rfl
  refine take_ (i := 6) (N := some 13) (v := ?_) (a' := ?_) #[true, true, false, true, true, true, true, true, false, false, false] rfl rfl (take_ofW HT_.out HW_.out (by kernel_rfl)) (fun _ _ _ h => h) (Or.inl ⟨(by rfl), ?_⟩) hHeld ?_ ?_
  rotate_left
  · rintro w' ⟨s0, s1, s2, s3, s4, s5⟩
    go_simp
    with_reducible rfl
  rotate_left
  · simp only [Act.put, List.setIfInBounds_toArray, List.set_cons_zero, List.set_cons_succ, i64_w, i32_w]
    rfl
  refine take_ (i := 8) (N := some 15) (v := ?_) (a' := ?_) #[true, true, false, true, true, true, true, true, true, false, false] rfl rfl (take_ofW HT_.out HW_.out (by kernel_rfl)) (fun _ _ _ h => h) (Or.inl ⟨(by rfl), ?_⟩) hHeld ?_ ?_
  rotate_left
  · rintro w' ⟨s0, s1, s2, s3, s4, s5⟩
    go_simp
    with_reducible rfl
  rotate_left
  · simp only [Act.put, List.setIfInBounds_toArray, List.set_cons_zero, List.set_cons_succ, i64_w, i32_w]
    rfl
  refine one_ (i := 2) (N := some 9) #[true, true, true, true, true, true, true, true, true, false, false] rfl rfl (one_of HT_.out (by kernel_rfl)) (by decide) (fun K hK => ?_)
  obtain ⟨cr0, cr1, cr2, AD⟩ := impl_Matrix_row.parts AR.out
  have AD := Aside0.mk AD
  refine goes_ Try.func105 (by kernel_rfl) rfl #[.agg #[.int .i64 p, .int .i64 r, .int .i64 c, .slice A l.length cap], .int .i64 i] (by rfl) rfl rfl (by (try simp only [List.map_toArray, List.map_cons, List.map_nil]); first | done | rfl | (simp only [List.length_drop, List.length_take]; rfl)) ?_
  with_reducible refine (impl_Matrix_row.calls p r c _ _ l i _ ?side1 ?side2 cr0 cr1 cr2).mono ?_
  (case side1 => exact HR.out)
  (case side2 => exact HC.out)
  rintro e w8a ⟨Ar, cr, rfl, HRr, HLr, hb⟩
  have HRr := Aside0.mk HRr
  have HLr := Aside0.mk HLr
  clear cr0 cr1 cr2
  refine ⟨_, rfl, ?_⟩
  have n0_ := Aside0.mk (blk_below BK.out hb)
  have n1_ := Aside0.mk (blk_below BC.out hb)
  have n2_ := Aside0.mk ((hb.cell (World.block_lt_of_cell? _ _ HX.out)).trans HX.out)
  have n3_ := Aside0.mk (Kd.C_below HI.out hb)
  have n4_ := Aside0.mk (below_step HB.out hb)
  clear BK BC HX HI HB hb
  have BK := n0_
  have BC := n1_
  have HX := n2_
  have HI := n3_
  have HB := n4_
  clear n0_ n1_ n2_ n3_ n4_
  refine hK.out _ _ ⟨(blk_cell BK.out 0).trans rfl, (blk_cell BK.out 1).trans rfl, (blk_cell BK.out 2).trans rfl, (blk_cell BK.out 3).trans rfl, (blk_cell BC.out 0).trans rfl, HX.out⟩ (fun hHeld => ?_)
  clear hK K
  refine norm_ (a' := ?_) ?_ ?_
  rotate_left
  · show Act.put _ (some 9) _ = _
    simp only [Act.put, List.setIfInBounds_toArray, List.set_cons_zero, List.set_cons_succ, i64_w, i32_w]
    rfl
  refine one_ (i := 9) (N := some 16) #[true, true, true, true, true, true, true, true, true, true, false] rfl rfl (one_of HT_.out (by kernel_rfl)) (by decide) (fun K hK => ?_)
  refine goes_ Try.func119 (by kernel_rfl) rfl #[.slice Ar _ cr, .slice Aj (rd_L2 cols j).length cj, .int .i64 p] (by rfl) rfl rfl (by (try simp only [List.map_toArray, List.map_cons, List.map_nil]); first | done | rfl | (simp only [List.length_drop, List.length_take]; rfl)) ?_
  with_reducible refine (impl_dot.calls 100 _ _ _ _ _ (rd_L2 cols j) p v _ ?side1 ?side2 ?side3 ?side4 AD.out).mono ?_
  (case side1 => exact HRr.out)
  (case side2 => exact HLr.out)
  (case side3 => exact HI.out)
  (case side4 => exact HL.out)
  rintro e w9 ⟨rfl, hd_⟩
  have hb := hd_.below
  clear hd_
  refine ⟨_, rfl, ?_⟩
  have n0_ := Aside0.mk (blk_below BK.out hb)
  have n1_ := Aside0.mk (blk_below BC.out hb)
  have n2_ := Aside0.mk ((hb.cell (World.block_lt_of_cell? _ _ HX.out)).trans HX.out)
  have n4_ := Aside0.mk (below_step HB.out hb)
  clear BK BC HX HB hb
  have BK := n0_
  have BC := n1_
  have HX := n2_
  have HB := n4_
  clear n0_ n1_ n2_ n4_
  refine hK.out _ _ ⟨(blk_cell BK.out 0).trans rfl, (blk_cell BK.out 1).trans rfl, (blk_cell BK.out 2).trans rfl, (blk_cell BK.out 3).trans rfl, (blk_cell BC.out 0).trans rfl, HX.out⟩ (fun hHeld => ?_)
  clear hK K
  refine norm_ (a' := ?_) ?_ ?_
  rotate_left
  · show Act.put _ (some 16) _ = _
    simp only [Act.put, List.setIfInBounds_toArray, List.set_cons_zero, List.set_cons_succ, i64_w, i32_w]
    rfl
  refine pure_ (i := 10) (N := some 6) (v := ?_) (a' := ?_) #[true, true, true, true, true, true, true, true, true, true, true] rfl rfl (any_of HT_.out (by kernel_rfl)) (fun _ _ _ h => h) (Or.inl ⟨(by rfl), ?_⟩) ?_ ?_
  rotate_left
  · intro w'
    go_simp
    with_reducible rfl
  rotate_left
  · simp only [Act.put, List.setIfInBounds_toArray, List.set_cons_zero, List.set_cons_succ, i64_w, i32_w]
    rfl
  refine done_ (done_of HT_.out (by kernel_rfl)) ?_
  try go_wp2
  go_ret
  exact ⟨rfl, HB.out⟩
/-! ### impl_product: function 69 -/
def impl_product.f (k : Nat) (a0_0 : Int) (a0_1 : Int) (a0_2 : Int) (l0_3 : List Int) (a1_0 : Int) (a1_1 : Int) (a1_2 : Int) (l1_3 : List Int) : Option (Int × Int × Int × List Int) := (impl_columnsOf.f k a1_0 a1_1 a1_2 l1_3).bind fun t104 => ((impl_filled.f (impl_product_1.cell a0_0 a0_1 a0_2 l0_3 t104) k a0_0 a0_1 a1_2 0).bind fun bt108 => (some (bt108.1, bt108.2.1, bt108.2.2.1, bt108.2.2.2)))
theorem Z69.bb {w0 w w1 : World} {g : Nat} {o : Obj} (_B : Aside0 (w0.heap[g]? = some o)) (h : w.heap[g]? = some o) (hb : Below w.heap.size w w1) : w1.heap[g]? = some o := blk_below h hb
theorem Z69.bl {w0 w : World} {g : Nat} {o : Obj} (_B : Aside0 (w0.heap[g]? = some o)) (h : w.heap[g]? = some o) : g < w.heap.size := blk_lt h
theorem Z69.k {p : Prop} (h : p) : Aside0 p := ⟨h⟩
theorem Z69.z11 {P : Prop} (h : P := by (try simp only [List.map_toArray, List.map_cons, List.map_nil]); first | done | rfl | (simp only [List.length_drop, List.length_take]; rfl)) : P := h
theorem Z69.z10 {P : Prop} (h : P := by (repeat (first | (with_reducible first | refine blk_drewN ?_ _ | refine blk_drew ?_ | refine blk_alloc ?_ _) | refine blk_far ?_ NB101_107.out _)); exact BK101.out) : P := h
theorem Z69.z9 {P : Prop} (h : P := by repeat (first | (with_reducible first | exact HB.out | apply below_alloc | apply pw_below_drewN | apply below_drew1) | exact HB.out)) : P := h
theorem Z69.z8 {P : Prop} (h : P := by (with_reducible repeat (first | apply Kd.S_alloc | apply Kd.S_drewN | apply Kd.S_drew)); exact (Kd.S_mono (Kd.S_far (p := ⟨gb107, 0, none⟩) (Kd.S_types HO106.out BK107.out (by decide)) (fun _ hk => hk.2) (.slice Ao13 t104.length co13)) (fun _ h_ => h_.1))) : P := h
theorem Z69.z7 {P : Prop} (h : P := by (with_reducible repeat (first | refine blk_drewN ?_ _ | refine blk_drew ?_ | refine blk_alloc ?_ _)); refine blk_put (cs := #[.slice none 0 0]) ?_ 0 _ rfl; (with_reducible repeat (first | refine blk_drewN ?_ _ | refine blk_drew ?_ | refine blk_alloc ?_ _)); exact BK107.out) : P := h
theorem Z69.z6 {P : Prop} (h : P := by repeat (first | (with_reducible first | exact HB.out | apply below_alloc | apply pw_below_drewN | apply below_drew1 | refine below_set ?_ GE101.out) | exact HB.out)) : P := h
theorem Z69.z5 {P : Prop} (h : P := by (with_reducible repeat (first | refine blk_drewN ?_ _ | refine blk_drew ?_ | refine blk_alloc ?_ _)); exact BK103.out) : P := h
theorem Z69.z4 {P : Prop} (h : P := by repeat (first | (with_reducible first | exact HB.out | apply below_alloc | apply pw_below_drewN | apply below_drew1 | refine below_set ?_ GE101.out | refine below_set ?_ GE102.out) | exact HB.out)) : P := h
theorem Z69.z3 {P : Prop} (h : P := by (with_reducible repeat (first | refine blk_drewN ?_ _ | refine blk_drew ?_ | refine blk_alloc ?_ _)); exact BK102.out) : P := h
theorem Z69.z2 {P : Prop} (h : P := by repeat (first | (with_reducible first | exact HB.out | apply below_alloc | apply pw_below_drewN | apply below_drew1 | refine below_set ?_ GE101.out | refine below_set ?_ GE102.out | refine below_set ?_ GE103.out | refine below_set ?_ GE107.out) | exact HB.out)) : P := h
theorem Z69.z1 {P : Prop} (h : P := by repeat (first | (with_reducible first | exact HB.out | apply below_alloc | apply pw_below_drewN | apply below_drew1 | refine below_set ?_ GE101.out | refine below_set ?_ GE102.out | refine below_set ?_ GE103.out) | exact HB.out)) : P := h
theorem Z69.z0 {P : Prop} (h : P := by (with_reducible repeat (first | refine blk_drewN ?_ _ | refine blk_drew ?_ | refine blk_alloc ?_ _)); exact BK101.out) : P := h
set_option maxHeartbeats 8000000 in
set_option maxRecDepth 100000 in
theorem impl_product.calls (k : Nat) (a0_0 : Int) (a0_1 : Int) (a0_2 : Int) (A0_3 : Option Addr) (c0_3 : Nat) (l0_3 : List Int) (a1_0 : Int) (a1_1 : Int) (a1_2 : Int) (A1_3 : Option Addr) (c1_3 : Nat) (l1_3 : List Int) (r1 : Int) (r2 : Int) (r3 : Int) (r4 : List Int) (w : World) (hr0_3 : Kd.C (Kd.int .i64) w A0_3 l0_3.length l0_3) (hc0_3 : l0_3.length ≤ c0_3) (hr1_3 : Kd.C (Kd.int .i64) w A1_3 l1_3.length l1_3) (hc1_3 : l1_3.length ≤ c1_3) (h : impl_product.f k a0_0 a0_1 a0_2 l0_3 a1_0 a1_1 a1_2 l1_3 = some (r1, r2, r3, r4)) :
  Calls Try.prog 69 #[.agg #[.int .i64 a0_0, .int .i64 a0_1, .int .i64 a0_2, .slice A0_3 l0_3.length c0_3], .agg #[.int .i64 a1_0, .int .i64 a1_1, .int .i64 a1_2, .slice A1_3 l1_3.length c1_3]] w fun e w' => ∃ v3_ : Value, e = .returned (.agg #[.int .i64 r1, .int .i64 r2, .int .i64 r3, v3_]) ∧ Kd.R (Kd.int .i64) 2 w' w.heap.size (fun _ => True) v3_ r4 ∧ Below w.heap.size w w' := by
 have hu27 := Try.underlying27
 have HR0_3 := Z69.k hr0_3
 have HC0_3 := Z69.k hc0_3
 clear hr0_3 hc0_3
 have HR1_3 := Z69.k hr1_3
 have HC1_3 := Z69.k hc1_3
 clear hr1_3 hc1_3
 have HB := Z69.k (Below.refl w.heap.size w)
 have H : ((impl_columnsOf.f k a1_0 a1_1 a1_2 l1_3).bind fun t104 => ((impl_filled.f (impl_product_1.cell a0_0 a0_1 a0_2 l0_3 t104) k a0_0 a0_1 a1_2 0).bind fun bt108 => (some (bt108.1, bt108.2.1, bt108.2.2.1, bt108.2.2.2)))) = some (r1, r2, r3, r4) := h
 clear h
 replace H := Option.bind_eq_some_iff.mp H
 obtain ⟨t104, A30, H⟩ := H
 replace H : ((impl_filled.f (impl_product_1.cell a0_0 a0_1 a0_2 l0_3 t104) k a0_0 a0_1 a1_2 0).bind fun bt108 => (some (bt108.1, bt108.2.1, bt108.2.2.1, bt108.2.2.2))) = some (r1, r2, r3, r4) := H
 have A3 := Z69.k A30
 clear A30
 replace H := Option.bind_eq_some_iff.mp H
 obtain ⟨⟨t108, t109, t110, t111⟩, A40, H⟩ := H
 replace H : (some (t108, t109, t110, t111)) = some (r1, r2, r3, r4) := H
 have A4 := Z69.k A40
 clear A40
 simp only [Option.some.injEq, Prod.mk.injEq] at H
 obtain ⟨rfl, rfl, rfl, rfl⟩ := H
 go_enter Try.func69, Try.ntmps69
 go_wp2_with (first | ((with_reducible refine gate_dst (N := 2) rfl ?_); refine box_event ?hg (N := 2) ?hd (cs := #[.int .i64 a0_0, .int .i64 a0_1, .int .i64 a0_2, .slice A0_3 l0_3.length c0_3]) (t := 27) ?hr ?_; (case hd => rfl); (case hg => rfl); (case hr => first | (go_simp; done) | (go_simp; rfl)); intro gb101 hg w5 hbox hb; have n0_ := Z69.k (below_step Z69.z9 hb); have n1_ := Z69.k (hbox); have n2_ := Z69.k (show w.heap.size ≤ gb101 from (by rw [hg]; exact (below_size Z69.z9))); have n3_ := Z69.k (show w.heap.size ≤ gb101 from (by rw [hg]; exact (below_size Z69.z9))); clear HB; have HB := n0_; have BK101 := n1_; have GW101 := n2_; have GE101 := n3_; clear n0_ n1_ n2_ n3_; clear hb hbox hg) | ((with_reducible refine gate_dst (N := 3) rfl ?_); refine box_event ?hg (N := 3) ?hd (cs := #[.int .i64 a1_0, .int .i64 a1_1, .int .i64 a1_2, .slice A1_3 l1_3.length c1_3]) (t := 27) ?hr ?_; (case hd => rfl); (case hg => rfl); (case hr => first | (go_simp; done) | (go_simp; rfl)); intro gb102 hg w6 hbox hb; have n0_ := Z69.k (Z69.bb BK101 Z69.z0 hb); have n1_ := Z69.k (below_step Z69.z6 hb); have n2_ := Z69.k (hbox); have n3_ := Z69.k (show w.heap.size ≤ gb102 from (by rw [hg]; exact (below_size Z69.z6))); have n4_ := Z69.k (show w.heap.size ≤ gb102 from (by rw [hg]; exact (below_size Z69.z6))); have n5_ := Z69.k (show gb101 ≠ gb102 from (by rw [hg]; exact Nat.ne_of_lt (Z69.bl BK101 Z69.z0))); have n6_ := Z69.k (show gb102 ≠ gb101 from (by rw [hg]; exact Nat.ne_of_gt (Z69.bl BK101 Z69.z0))); clear BK101 HB; have BK101 := n0_; have HB := n1_; have BK102 := n2_; have GW102 := n3_; have GE102 := n4_; have NB101_102 := n5_; have NB102_101 := n6_; clear n0_ n1_ n2_ n3_ n4_ n5_ n6_; clear hb hbox hg) | ((with_reducible refine gate_dst (N := 4) rfl ?_); refine box_event ?hg (N := 4) ?hd (cs := #[.int .i64 0, .int .i64 0, .int .i64 0, .slice none 0 0]) (t := 27) ?hr ?_; (case hd => rfl); (case hg => rfl); (case hr => first | (go_simp; done) | (go_simp; rfl)); intro gb103 hg w7 hbox hb; have n0_ := Z69.k (Z69.bb BK101 Z69.z0 hb); have n1_ := Z69.k (Z69.bb BK102 Z69.z3 hb); have n2_ := Z69.k (below_step Z69.z4 hb); have n3_ := Z69.k (hbox); have n4_ := Z69.k (show w.heap.size ≤ gb103 from (by rw [hg]; exact (below_size Z69.z4))); have n5_ := Z69.k (show w.heap.size ≤ gb103 from (by rw [hg]; exact (below_size Z69.z4))); have n6_ := Z69.k (show gb101 ≠ gb103 from (by rw [hg]; exact Nat.ne_of_lt (Z69.bl BK101 Z69.z0))); have n7_ := Z69.k (show gb103 ≠ gb101 from (by rw [hg]; exact Nat.ne_of_gt (Z69.bl BK101 Z69.z0))); have n8_ := Z69.k (show gb102 ≠ gb103 from (by rw [hg]; exact Nat.ne_of_lt (Z69.bl BK102 Z69.z3))); have n9_ := Z69.k (show gb103 ≠ gb102 from (by rw [hg]; exact Nat.ne_of_gt (Z69.bl BK102 Z69.z3))); clear BK101 BK102 HB; have BK101 := n0_; have BK102 := n1_; have HB := n2_; have BK103 := n3_; have GW103 := n4_; have GE103 := n5_; have NB101_103 := n6_; have NB103_101 := n7_; have NB102_103 := n8_; have NB103_102 := n9_; clear n0_ n1_ n2_ n3_ n4_ n5_ n6_ n7_ n8_ n9_; clear hb hbox hg; have hnb8 := NB102_101.out; have hnc8 := NB101_102.out; have hnb9 := NB102_103.out; have hnc9 := NB103_102.out; have hcz10_0 : w7.cell? ⟨gb102, 0, none⟩ = some (.int .i64 a1_0) := (blk_cell BK102.out 0).trans rfl; have hcz10_1 : w7.cell? ⟨gb102, 1, none⟩ = some (.int .i64 a1_1) := (blk_cell BK102.out 1).trans rfl; have hcz10_2 : w7.cell? ⟨gb102, 2, none⟩ = some (.int .i64 a1_2) := (blk_cell BK102.out 2).trans rfl; have hcz10_3 : w7.cell? ⟨gb102, 3, none⟩ = some (.slice A1_3 l1_3.length c1_3) := (blk_cell BK102.out 3).trans rfl; have hfz10_0 := blk_frozen BK102.out 0; have hfz10_1 := blk_frozen BK102.out 1; have hfz10_2 := blk_frozen BK102.out 2; have hfz10_3 := blk_frozen BK102.out 3) | ((with_reducible refine gate_callee (f := 117) rfl ?_); refine goesL_ (some 7) rfl rfl Try.func117 (by kernel_rfl) rfl #[.agg #[.int .i64 a1_0, .int .i64 a1_1, .int .i64 a1_2, .slice A1_3 l1_3.length c1_3]] rfl Z69.z11 ?_; (with_reducible refine (impl_columnsOf.calls k a1_0 a1_1 a1_2 _ _ l1_3 t104 _ ?side1 ?side2 A3.out).mono ?_); (case side1 => exact (by repeat (first | exact (Kd.C_below HR1_3.out HB.out) | (with_reducible refine Kd.C_alloc ?_ _) | (with_reducible refine Kd.C_drewN ?_ _) | (with_reducible refine Kd.C_drew ?_)))); (case side2 => exact HC1_3.out); rintro e w11 ⟨v105, rfl, ho0, hb⟩; refine ⟨_, rfl, ?_⟩; have n0_ := Z69.k (Kd.S_lower ho0 (below_size Z69.z1)); have n1_ := Z69.k (Z69.bb BK101 Z69.z0 hb); have n2_ := Z69.k (Z69.bb BK102 Z69.z3 hb); have n3_ := Z69.k (Z69.bb BK103 Z69.z5 hb); have n4_ := Z69.k (below_step Z69.z1 hb); clear BK101 BK102 BK103 HB; have HO106 := n0_; have BK101 := n1_; have BK102 := n2_; have BK103 := n3_; have HB := n4_; clear n0_ n1_ n2_ n3_ n4_; (try clear hb); (try clear hb2); (try clear hk); (try clear hi); (try clear ho0)) | ((with_reducible refine gate_dst (N := 5) rfl ?_); refine box_event ?hg (N := 5) ?hd (cs := #[.slice none 0 0]) (t := 49) ?hr ?_; (case hd => rfl); (case hg => rfl); (case hr => first | (go_simp; done) | (go_simp; rfl)); intro gb107 hg w12 hbox hb; have n0_ := Z69.k (Kd.S_below (by (with_reducible repeat (first | apply Kd.S_alloc | apply Kd.S_drewN | apply Kd.S_drew)); exact HO106.out) hb); have n1_ := Z69.k (Z69.bb BK101 Z69.z0 hb); have n2_ := Z69.k (Z69.bb BK102 Z69.z3 hb); have n3_ := Z69.k (Z69.bb BK103 Z69.z5 hb); have n4_ := Z69.k (below_step Z69.z1 hb); have n5_ := Z69.k (hbox); have n6_ := Z69.k (show w.heap.size ≤ gb107 from (by rw [hg]; exact (below_size Z69.z1))); have n7_ := Z69.k (show w.heap.size ≤ gb107 from (by rw [hg]; exact (below_size Z69.z1))); have n8_ := Z69.k (show gb101 ≠ gb107 from (by rw [hg]; exact Nat.ne_of_lt (Z69.bl BK101 Z69.z0))); have n9_ := Z69.k (show gb107 ≠ gb101 from (by rw [hg]; exact Nat.ne_of_gt (Z69.bl BK101 Z69.z0))); have n10_ := Z69.k (show gb102 ≠ gb107 from (by rw [hg]; exact Nat.ne_of_lt (Z69.bl BK102 Z69.z3))); have n11_ := Z69.k (show gb107 ≠ gb102 from (by rw [hg]; exact Nat.ne_of_gt (Z69.bl BK102 Z69.z3))); have n12_ := Z69.k (show gb103 ≠ gb107 from (by rw [hg]; exact Nat.ne_of_lt (Z69.bl BK103 Z69.z5))); have n13_ := Z69.k (show gb107 ≠ gb103 from (by rw [hg]; exact Nat.ne_of_gt (Z69.bl BK103 Z69.z5))); clear HO106 BK101 BK102 BK103 HB; have HO106 := n0_; have BK101 := n1_; have BK102 := n2_; have BK103 := n3_; have HB := n4_; have BK107 := n5_; have GW107 := n6_; have GE107 := n7_; have NB101_107 := n8_; have NB107_101 := n9_; have NB102_107 := n10_; have NB107_102 := n11_; have NB103_107 := n12_; have NB107_103 := n13_; clear n0_ n1_ n2_ n3_ n4_ n5_ n6_ n7_ n8_ n9_ n10_ n11_ n12_ n13_; clear hb hbox hg; obtain ⟨Ao13, co13, eo13⟩ := Kd.S_slice HO106.out; subst eo13; have hnb14 := NB107_101.out; have hnc14 := NB101_107.out; have hnb15 := NB107_102.out; have hnc15 := NB102_107.out; have hnb16 := NB107_103.out; have hnc16 := NB103_107.out; have hcz17_0 : w12.cell? ⟨gb107, 0, none⟩ = some (.slice none 0 0) := (blk_cell BK107.out 0).trans rfl; have hfz17_0 := blk_frozen BK107.out 0; have hnb18 := NB101_103.out; have hnc18 := NB103_101.out; have hcz19_0 : w12.cell? ⟨gb101, 0, none⟩ = some (.int .i64 a0_0) := (blk_cell BK101.out 0).trans rfl; have hcz19_1 : w12.cell? ⟨gb101, 1, none⟩ = some (.int .i64 a0_1) := (blk_cell BK101.out 1).trans rfl; have hcz19_2 : w12.cell? ⟨gb101, 2, none⟩ = some (.int .i64 a0_2) := (blk_cell BK101.out 2).trans rfl; have hcz19_3 : w12.cell? ⟨gb101, 3, none⟩ = some (.slice A0_3 l0_3.length c0_3) := (blk_cell BK101.out 3).trans rfl; have hfz19_0 := blk_frozen BK101.out 0; have hfz19_1 := blk_frozen BK101.out 1; have hfz19_2 := blk_frozen BK101.out 2; have hfz19_3 := blk_frozen BK101.out 3; have hcz20_0 : w12.cell? ⟨gb102, 0, none⟩ = some (.int .i64 a1_0) := (blk_cell BK102.out 0).trans rfl; have hcz20_1 : w12.cell? ⟨gb102, 1, none⟩ = some (.int .i64 a1_1) := (blk_cell BK102.out 1).trans rfl; have hcz20_2 : w12.cell? ⟨gb102, 2, none⟩ = some (.int .i64 a1_2) := (blk_cell BK102.out 2).trans rfl; have hcz20_3 : w12.cell? ⟨gb102, 3, none⟩ = some (.slice A1_3 l1_3.length c1_3) := (blk_cell BK102.out 3).trans rfl; have hfz20_0 := blk_frozen BK102.out 0; have hfz20_1 := blk_frozen BK102.out 1; have hfz20_2 := blk_frozen BK102.out 2; have hfz20_3 := blk_frozen BK102.out 3) | ((with_reducible refine gate_callee (f := 62) rfl ?_); refine goesL_ (some 15) rfl rfl Try.func62 (by kernel_rfl) rfl #[.int .i64 a0_0, .int .i64 a0_1, .int .i64 a1_2, .func (.func 118) #[] #[.pointer (some ⟨gb101, 0, none⟩), .pointer (some ⟨gb107, 0, none⟩)]] rfl Z69.z11 ?_; (refine (impl_filled.calls (impl_product_1.cell a0_0 a0_1 a0_2 l0_3 t104) 118 #[.pointer (some ⟨gb101, 0, none⟩), .pointer (some ⟨gb107, 0, none⟩)] (enters_of Try.func118 (by kernel_rfl) rfl) k a0_0 a0_1 a1_2 0 t108 t109 t110 t111 _ (impl_product_1.cells gb101 gb107 a0_0 a0_1 a0_2 A0_3 c0_3 l0_3 Ao13 co13 t104 _ Z69.z10 Z69.z7 (Kd.C_below HR0_3.out Z69.z2) HC0_3.out (Kd.R_reads' (Kd.S_R Z69.z8)).2.2) A4.out).mono ?_); rintro e w21 ⟨v112, rfl, ho0, hb⟩; refine ⟨_, rfl, ?_⟩; have n0_ := Z69.k (Kd.S_elder' Z69.z8 (Kd.R_base ho0) hb); have n1_ := Z69.k (Kd.R_lower ho0 (below_size Z69.z2)); have n2_ := Z69.k (Z69.bb BK101 Z69.z10 hb); have n3_ := Z69.k (Z69.bb BK102 (by (repeat (first | (with_reducible first | refine blk_drewN ?_ _ | refine blk_drew ?_ | refine blk_alloc ?_ _) | refine blk_far ?_ NB102_107.out _)); exact BK102.out) hb); have n4_ := Z69.k (Z69.bb BK103 (by (repeat (first | (with_reducible first | refine blk_drewN ?_ _ | refine blk_drew ?_ | refine blk_alloc ?_ _) | refine blk_far ?_ NB103_107.out _)); exact BK103.out) hb); have n5_ := Z69.k (blk_below (g := gb107) (o := .cells #[.slice Ao13 t104.length co13] 49 (0, 0)) Z69.z7 hb); have n6_ := Z69.k (below_step Z69.z2 hb); clear HO106 BK101 BK102 BK103 BK107 HB; have HO106 := n0_; have HO113 := n1_; have BK101 := n2_; have BK102 := n3_; have BK103 := n4_; have BK107 := n5_; have HB := n6_; clear n0_ n1_ n2_ n3_ n4_ n5_ n6_; (try clear hb); (try clear hb2); (try clear hk); (try clear hi); (try clear ho0); have hcz22_0 : w21.cell? ⟨gb103, 0, none⟩ = some (.int .i64 0) := (blk_cell BK103.out 0).trans rfl; have hcz22_1 : w21.cell? ⟨gb103, 1, none⟩ = some (.int .i64 0) := (blk_cell BK103.out 1).trans rfl; have hcz22_2 : w21.cell? ⟨gb103, 2, none⟩ = some (.int .i64 0) := (blk_cell BK103.out 2).trans rfl; have hcz22_3 : w21.cell? ⟨gb103, 3, none⟩ = some (.slice none 0 0) := (blk_cell BK103.out 3).trans rfl; have hfz22_0 := blk_frozen BK103.out 0; have hfz22_1 := blk_frozen BK103.out 1; have hfz22_2 := blk_frozen BK103.out 2; have hfz22_3 := blk_frozen BK103.out 3; obtain ⟨Ao23, co23, eo23⟩ := Kd.R_slice HO113.out; subst eo23))
 refine bodyPost_ret (results_cell_row rfl _ _ gb103 27 #[.int .i64 t108, .int .i64 t109, .int .i64 t110, .slice Ao23 t111.length co23] (0, 0) _ rfl (by (with_reducible repeat (first | refine blk_drewN ?_ _ | refine blk_drew ?_ | refine blk_alloc ?_ _)); refine blk_put (cs := #[.int .i64 t108, .int .i64 t109, .int .i64 t110, .slice none 0 0]) ?_ 3 _ rfl; (with_reducible repeat (first | refine blk_drewN ?_ _ | refine blk_drew ?_ | refine blk_alloc ?_ _)); refine blk_put (cs := #[.int .i64 t108, .int .i64 t109, .int .i64 0, .slice none 0 0]) ?_ 2 _ rfl; (with_reducible repeat (first | refine blk_drewN ?_ _ | refine blk_drew ?_ | refine blk_alloc ?_ _)); refine blk_put (cs := #[.int .i64 t108, .int .i64 0, .int .i64 0, .slice none 0 0]) ?_ 1 _ rfl; (with_reducible repeat (first | refine blk_drewN ?_ _ | refine blk_drew ?_ | refine blk_alloc ?_ _)); refine blk_put (cs := #[.int .i64 0, .int .i64 0, .int .i64 0, .slice none 0 0]) ?_ 0 _ rfl; (with_reducible repeat (first | refine blk_drewN ?_ _ | refine blk_drew ?_ | refine blk_alloc ?_ _)); exact BK103.out) Try.underlying27 rfl (by kernel_rfl)) rfl ?_
 exact ⟨_, (by first | rfl | (simp [errW_none, errW_some] <;> rfl) | (simp [*, errW_none, errW_some] <;> rfl)), (by (with_reducible repeat (first | apply Kd.R_alloc | apply Kd.R_drewN | apply Kd.R_drew)); exact Kd.R_mono (Kd.R_far (p := ⟨gb103, 3, none⟩) (Kd.R_far (p := ⟨gb103, 2, none⟩) (Kd.R_far (p := ⟨gb103, 1, none⟩) (Kd.R_far (p := ⟨gb103, 0, none⟩) (Kd.R_types HO113.out BK103.out (by decide)) (fun _ hk => hk.2) (.int .i64 t108)) (fun _ hk => hk.2) (.int .i64 t109)) (fun _ hk => hk.2) (.int .i64 t110)) (fun _ hk => hk.2) (.slice Ao23 t111.length co23)) (fun _ hk => trivial)), Z69.z2⟩
/-! ### impl_Multiply: function 24 -/
def impl_Multiply.j0 : Nat → Bool → Int → Int → Int → List Int → Int → Int → Int → List Int → Option (Int × Int × Int × List Int × Int)
  | 0, _, _, _, _, _, _, _, _, _ => none
  | k + 1, x13, x102000, x102001, x102002, x102003, x103000, x103001, x103002, x103003 => if x13 = true then (some (0, 0, 0, ([] : List Int), 1)) else (if x102000 = x103000 then (if x102002 = x103001 then ((impl_product.f k x102000 x102001 x102002 x102003 x103000 x103001 x103002 x103003).bind fun bt106 => (some (bt106.1, bt106.2.1, bt106.2.2.1, bt106.2.2.2, 0))) else (some (0, 0, 0, ([] : List Int), 6))) else (some (0, 0, 0, ([] : List Int), 6)))
def impl_Multiply.f (k : Nat) (a0_0 : Int) (a0_1 : Int) (a0_2 : Int) (l0_3 : List Int) (a1_0 : Int) (a1_1 : Int) (a1_2 : Int) (l1_3 : List Int) : Option (Int × Int × Int × List Int × Int) := (impl_ValidMatrix.f k a0_0 a0_1 a0_2 l0_3).bind fun t104 => (if t104 = true then ((impl_ValidMatrix.f k a1_0 a1_1 a1_2 l1_3).bind fun t105 => (impl_Multiply.j0 k (!t105) a0_0 a0_1 a0_2 l0_3 a1_0 a1_1 a1_2 l1_3)) else (impl_Multiply.j0 k true a0_0 a0_1 a0_2 l0_3 a1_0 a1_1 a1_2 l1_3))
theorem Z24.bb {w0 w w1 : World} {g : Nat} {o : Obj} (_B : Aside0 (w0.heap[g]? = some o)) (h : w.heap[g]? = some o) (hb : Below w.heap.size w w1) : w1.heap[g]? = some o := blk_below h hb
theorem Z24.bl {w0 w : World} {g : Nat} {o : Obj} (_B : Aside0 (w0.heap[g]? = some o)) (h : w.heap[g]? = some o) : g < w.heap.size := blk_lt h
theorem Z24.k {p : Prop} (h : p) : Aside0 p := ⟨h⟩
theorem Z24.z12 {P : Prop} (h : P := by repeat (first | exact (Kd.C_below HR1_3.out HB.out) | (with_reducible refine Kd.C_alloc ?_ _) | (with_reducible refine Kd.C_drewN ?_ _) | (with_reducible refine Kd.C_drew ?_))) : P := h
theorem Z24.z11 {P : Prop} (h : P := by repeat (first | (with_reducible first | exact HB.out | apply below_alloc | apply pw_below_drewN | apply below_drew1) | exact HB.out)) : P := h
theorem Z24.z10 {P : Prop} (h : P := by first | rfl | (simp [errW_none, errW_some] <;> rfl) | (simp [*, errW_none, errW_some] <;> rfl)) : P := h
theorem Z24.z9 {P : Prop} (h : P := by (try simp only [List.map_toArray, List.map_cons, List.map_nil]); first | done | rfl | (simp only [List.length_drop, List.length_take]; rfl)) : P := h
theorem Z24.z8 {P : Prop} (h : P := by first | exact Kd.R_nil _ _ _ _ _ | exact Kd.N_nil _ _ _ _ _ | exact Kd.V_nil _ _ _ _ _ | exact Kd.Q_nil _ _ _ _ _ | exact Kd.S_nil _ _ _ _ _) : P := h
theorem Z24.z7 {P : Prop} (h : P := by repeat (first | (with_reducible first | exact HB.out | apply below_alloc | apply pw_below_drewN | apply below_drew1 | refine below_set ?_ GE101.out) | exact HB.out)) : P := h
theorem Z24.z6 {P : Prop} (h : P := by repeat (first | exact (Kd.C_below HR0_3.out HB.out) | (with_reducible refine Kd.C_alloc ?_ _) | (with_reducible refine Kd.C_drewN ?_ _) | (with_reducible refine Kd.C_drew ?_))) : P := h
theorem Z24.z5 {P : Prop} (h : P := by repeat (first | (with_reducible first | exact HB.out | apply below_alloc | apply pw_below_drewN | apply below_drew1 | refine below_set ?_ GE101.out | refine below_set ?_ GE102.out) | exact HB.out)) : P := h
theorem Z24.z4 {P : Prop} (h : P := by (with_reducible repeat (first | refine blk_drewN ?_ _ | refine blk_drew ?_ | refine blk_alloc ?_ _)); exact BK103.out) : P := h
theorem Z24.z3 {P : Prop} (h : P := by (with_reducible repeat (first | refine blk_drewN ?_ _ | refine blk_drew ?_ | refine blk_alloc ?_ _)); exact BK102.out) : P := h
theorem Z24.z2 {P : Prop} (h : P := by (with_reducible repeat (first | refine blk_drewN ?_ _ | refine blk_drew ?_ | refine blk_alloc ?_ _)); exact BK101.out) : P := h
theorem Z24.z1 {P : Prop} (h : P := by (with_reducible repeat (first | refine blk_drewN ?_ _ | refine blk_drew ?_ | refine blk_alloc ?_ _)); refine blk_put (cs := #[.int .i64 0, .int .i64 0, .int .i64 0, .slice none 0 0]) ?_ 3 _ rfl; (with_reducible repeat (first | refine blk_drewN ?_ _ | refine blk_drew ?_ | refine blk_alloc ?_ _)); refine blk_put (cs := #[.int .i64 0, .int .i64 0, .int .i64 0, .slice none 0 0]) ?_ 2 _ rfl; (with_reducible repeat (first | refine blk_drewN ?_ _ | refine blk_drew ?_ | refine blk_alloc ?_ _)); refine blk_put (cs := #[.int .i64 0, .int .i64 0, .int .i64 0, .slice none 0 0]) ?_ 1 _ rfl; (with_reducible repeat (first | refine blk_drewN ?_ _ | refine blk_drew ?_ | refine blk_alloc ?_ _)); refine blk_put (cs := #[.int .i64 0, .int .i64 0, .int .i64 0, .slice none 0 0]) ?_ 0 _ rfl; (with_reducible repeat (first | refine blk_drewN ?_ _ | refine blk_drew ?_ | refine blk_alloc ?_ _)); exact BK103.out) : P := h
theorem Z24.z0 {P : Prop} (h : P := by repeat (first | (with_reducible first | exact HB.out | apply below_alloc | apply pw_below_drewN | apply below_drew1 | refine below_set ?_ GE101.out | refine below_set ?_ GE102.out | refine below_set ?_ GE103.out) | exact HB.out)) : P := h
set_option maxHeartbeats 8000000 in
set_option maxRecDepth 100000 in
theorem impl_Multiply.calls (k : Nat) (a0_0 : Int) (a0_1 : Int) (a0_2 : Int) (A0_3 : Option Addr) (c0_3 : Nat) (l0_3 : List Int) (a1_0 : Int) (a1_1 : Int) (a1_2 : Int) (A1_3 : Option Addr) (c1_3 : Nat) (l1_3 : List Int) (r1 : Int) (r2 : Int) (r3 : Int) (r4 : List Int) (r5 : Int) (w : World) (hr0_3 : Kd.C (Kd.int .i64) w A0_3 l0_3.length l0_3) (hc0_3 : l0_3.length ≤ c0_3) (hr1_3 : Kd.C (Kd.int .i64) w A1_3 l1_3.length l1_3) (hc1_3 : l1_3.length ≤ c1_3) (h : impl_Multiply.f k a0_0 a0_1 a0_2 l0_3 a1_0 a1_1 a1_2 l1_3 = some (r1, r2, r3, r4, r5)) :
  Calls Try.prog 24 #[.agg #[.int .i64 a0_0, .int .i64 a0_1, .int .i64 a0_2, .slice A0_3 l0_3.length c0_3], .agg #[.int .i64 a1_0, .int .i64 a1_1, .int .i64 a1_2, .slice A1_3 l1_3.length c1_3]] w fun e w' => ∃ v3_ : Value, e = .returned (.tuple #[.agg #[.int .i64 r1, .int .i64 r2, .int .i64 r3, v3_], .int .i64 r5]) ∧ Kd.R (Kd.int .i64) 2 w' w.heap.size (fun _ => True) v3_ r4 ∧ Below w.heap.size w w' := by
 have hu27 := Try.underlying27
 have HR0_3 := Z24.k hr0_3
 have HC0_3 := Z24.k hc0_3
 clear hr0_3 hc0_3
 have HR1_3 := Z24.k hr1_3
 have HC1_3 := Z24.k hc1_3
 clear hr1_3 hc1_3
 have HB := Z24.k (Below.refl w.heap.size w)
 have H : ((impl_ValidMatrix.f k a0_0 a0_1 a0_2 l0_3).bind fun t104 => (if t104 = true then ((impl_ValidMatrix.f k a1_0 a1_1 a1_2 l1_3).bind fun t105 => (impl_Multiply.j0 k (!t105) a0_0 a0_1 a0_2 l0_3 a1_0 a1_1 a1_2 l1_3)) else (impl_Multiply.j0 k true a0_0 a0_1 a0_2 l0_3 a1_0 a1_1 a1_2 l1_3))) = some (r1, r2, r3, r4, r5) := h
 clear h
 have HC3 := Z24.k H
 clear H
 go_enter Try.func24, Try.ntmps24
 go_upto_region 1 with (first | ((with_reducible refine gate_dst (N := 2) rfl ?_); refine box_event ?hg (N := 2) ?hd (cs := #[.int .i64 a0_0, .int .i64 a0_1, .int .i64 a0_2, .slice A0_3 l0_3.length c0_3]) (t := 27) ?hr ?_; (case hd => rfl); (case hg => rfl); (case hr => first | (go_simp; done) | (go_simp; rfl)); intro gb101 hg w4 hbox hb; have n0_ := Z24.k (below_step Z24.z11 hb); have n1_ := Z24.k (hbox); have n2_ := Z24.k (show w.heap.size ≤ gb101 from (by rw [hg]; exact (below_size Z24.z11))); have n3_ := Z24.k (show w.heap.size ≤ gb101 from (by rw [hg]; exact (below_size Z24.z11))); clear HB; have HB := n0_; have BK101 := n1_; have GW101 := n2_; have GE101 := n3_; clear n0_ n1_ n2_ n3_; clear hb hbox hg) | ((with_reducible refine gate_dst (N := 3) rfl ?_); refine box_event ?hg (N := 3) ?hd (cs := #[.int .i64 a1_0, .int .i64 a1_1, .int .i64 a1_2, .slice A1_3 l1_3.length c1_3]) (t := 27) ?hr ?_; (case hd => rfl); (case hg => rfl); (case hr => first | (go_simp; done) | (go_simp; rfl)); intro gb102 hg w5 hbox hb; have n0_ := Z24.k (Z24.bb BK101 Z24.z2 hb); have n1_ := Z24.k (below_step Z24.z7 hb); have n2_ := Z24.k (hbox); have n3_ := Z24.k (show w.heap.size ≤ gb102 from (by rw [hg]; exact (below_size Z24.z7))); have n4_ := Z24.k (show w.heap.size ≤ gb102 from (by rw [hg]; exact (below_size Z24.z7))); have n5_ := Z24.k (show gb101 ≠ gb102 from (by rw [hg]; exact Nat.ne_of_lt (Z24.bl BK101 Z24.z2))); have n6_ := Z24.k (show gb102 ≠ gb101 from (by rw [hg]; exact Nat.ne_of_gt (Z24.bl BK101 Z24.z2))); clear BK101 HB; have BK101 := n0_; have HB := n1_; have BK102 := n2_; have GW102 := n3_; have GE102 := n4_; have NB101_102 := n5_; have NB102_101 := n6_; clear n0_ n1_ n2_ n3_ n4_ n5_ n6_; clear hb hbox hg) | ((with_reducible refine gate_dst (N := 4) rfl ?_); refine box_event ?hg (N := 4) ?hd (cs := #[.int .i64 0, .int .i64 0, .int .i64 0, .slice none 0 0]) (t := 27) ?hr ?_; (case hd => rfl); (case hg => rfl); (case hr => first | (go_simp; done) | (go_simp; rfl)); intro gb103 hg w6 hbox hb; have n0_ := Z24.k (Z24.bb BK101 Z24.z2 hb); have n1_ := Z24.k (Z24.bb BK102 Z24.z3 hb); have n2_ := Z24.k (below_step Z24.z5 hb); have n3_ := Z24.k (hbox); have n4_ := Z24.k (show w.heap.size ≤ gb103 from (by rw [hg]; exact (below_size Z24.z5))); have n5_ := Z24.k (show w.heap.size ≤ gb103 from (by rw [hg]; exact (below_size Z24.z5))); have n6_ := Z24.k (show gb101 ≠ gb103 from (by rw [hg]; exact Nat.ne_of_lt (Z24.bl BK101 Z24.z2))); have n7_ := Z24.k (show gb103 ≠ gb101 from (by rw [hg]; exact Nat.ne_of_gt (Z24.bl BK101 Z24.z2))); have n8_ := Z24.k (show gb102 ≠ gb103 from (by rw [hg]; exact Nat.ne_of_lt (Z24.bl BK102 Z24.z3))); have n9_ := Z24.k (show gb103 ≠ gb102 from (by rw [hg]; exact Nat.ne_of_gt (Z24.bl BK102 Z24.z3))); clear BK101 BK102 HB; have BK101 := n0_; have BK102 := n1_; have HB := n2_; have BK103 := n3_; have GW103 := n4_; have GE103 := n5_; have NB101_103 := n6_; have NB103_101 := n7_; have NB102_103 := n8_; have NB103_102 := n9_; clear n0_ n1_ n2_ n3_ n4_ n5_ n6_ n7_ n8_ n9_; clear hb hbox hg))
 (try simp only [Act.put, List.setIfInBounds_toArray, List.set_cons_zero, List.set_cons_succ])
 go_cut [13] (fun v13 wc => ∃ (kq : Nat) (x13_2 : Bool), v13 = .bool x13_2 ∧ Aside0 (impl_Multiply.j0 kq x13_2 a0_0 a0_1 a0_2 l0_3 a1_0 a1_1 a1_2 l1_3 = some (r1, r2, r3, r4, r5)) ∧ Aside0 (kq ≤ k) ∧ Aside0 (wc.heap[gb101]? = some (.cells #[.int .i64 a0_0, .int .i64 a0_1, .int .i64 a0_2, (.slice A0_3 l0_3.length c0_3)] 27 (0, 0))) ∧ Aside0 (wc.heap[gb102]? = some (.cells #[.int .i64 a1_0, .int .i64 a1_1, .int .i64 a1_2, (.slice A1_3 l1_3.length c1_3)] 27 (0, 0))) ∧ Aside0 (wc.heap[gb103]? = some (.cells #[.int .i64 0, .int .i64 0, .int .i64 0, (.slice none 0 0)] 27 (0, 0))) ∧ Aside0 (Below w.heap.size w wc))
 case first =>
  have H := HC3.out
  clear HC3
  replace H := Option.bind_eq_some_iff.mp H
  obtain ⟨t104, A70, H⟩ := H
  replace H : (if t104 = true then ((impl_ValidMatrix.f k a1_0 a1_1 a1_2 l1_3).bind fun t105 => (impl_Multiply.j0 k (!t105) a0_0 a0_1 a0_2 l0_3 a1_0 a1_1 a1_2 l1_3)) else (impl_Multiply.j0 k true a0_0 a0_1 a0_2 l0_3 a1_0 a1_1 a1_2 l1_3)) = some (r1, r2, r3, r4, r5) := H
  have A7 := Z24.k A70
  clear A70
  by_cases c8 : t104 = true
  ·subst c8
   have H1 : ((impl_ValidMatrix.f k a1_0 a1_1 a1_2 l1_3).bind fun t105 => (impl_Multiply.j0 k (!t105) a0_0 a0_1 a0_2 l0_3 a1_0 a1_1 a1_2 l1_3)) = some (r1, r2, r3, r4, r5) := by rw [if_pos rfl] at H; exact H
   clear H
   have H := H1
   clear H1
   replace H := Option.bind_eq_some_iff.mp H
   obtain ⟨t105, A90, H⟩ := H
   replace H : (impl_Multiply.j0 k (!t105) a0_0 a0_1 a0_2 l0_3 a1_0 a1_1 a1_2 l1_3) = some (r1, r2, r3, r4, r5) := H
   have A9 := Z24.k A90
   clear A90
   have H' := Z24.k H
   clear H
   have hnb10 := NB101_102.out
   have hnc10 := NB102_101.out
   have hnb11 := NB101_103.out
   have hnc11 := NB103_101.out
   have hcz12_0 : w6.cell? ⟨gb101, 0, none⟩ = some (.int .i64 a0_0) := (blk_cell BK101.out 0).trans rfl
   have hcz12_1 : w6.cell? ⟨gb101, 1, none⟩ = some (.int .i64 a0_1) := (blk_cell BK101.out 1).trans rfl
   have hcz12_2 : w6.cell? ⟨gb101, 2, none⟩ = some (.int .i64 a0_2) := (blk_cell BK101.out 2).trans rfl
   have hcz12_3 : w6.cell? ⟨gb101, 3, none⟩ = some (.slice A0_3 l0_3.length c0_3) := (blk_cell BK101.out 3).trans rfl
   have hfz12_0 := blk_frozen BK101.out 0
   have hfz12_1 := blk_frozen BK101.out 1
   have hfz12_2 := blk_frozen BK101.out 2
   have hfz12_3 := blk_frozen BK101.out 3
   go_wp2_with (first | ((with_reducible refine gate_callee (f := 54) rfl ?_); refine goesL_ (some 7) rfl rfl Try.func54 (by kernel_rfl) rfl #[.agg #[.int .i64 a0_0, .int .i64 a0_1, .int .i64 a0_2, .slice A0_3 l0_3.length c0_3]] rfl Z24.z9 ?_; (with_reducible refine (impl_ValidMatrix.calls k a0_0 a0_1 a0_2 _ _ l0_3 true _ ?side1 ?side2 A7.out).mono ?_); (case side1 => exact Z24.z6); (case side2 => exact HC0_3.out); rintro e w13 ⟨rfl, hb⟩; refine ⟨_, rfl, ?_⟩; have n0_ := Z24.k (Z24.bb BK101 Z24.z2 hb); have n1_ := Z24.k (Z24.bb BK102 Z24.z3 hb); have n2_ := Z24.k (Z24.bb BK103 Z24.z4 hb); have n3_ := Z24.k (below_step Z24.z0 hb); clear BK101 BK102 BK103 HB; have BK101 := n0_; have BK102 := n1_; have BK103 := n2_; have HB := n3_; clear n0_ n1_ n2_ n3_; (try clear hb); (try clear hb2); (try clear hk); (try clear hi); have hnb14 := NB102_103.out; have hnc14 := NB103_102.out; have hcz15_0 : w13.cell? ⟨gb102, 0, none⟩ = some (.int .i64 a1_0) := (blk_cell BK102.out 0).trans rfl; have hcz15_1 : w13.cell? ⟨gb102, 1, none⟩ = some (.int .i64 a1_1) := (blk_cell BK102.out 1).trans rfl; have hcz15_2 : w13.cell? ⟨gb102, 2, none⟩ = some (.int .i64 a1_2) := (blk_cell BK102.out 2).trans rfl; have hcz15_3 : w13.cell? ⟨gb102, 3, none⟩ = some (.slice A1_3 l1_3.length c1_3) := (blk_cell BK102.out 3).trans rfl; have hfz15_0 := blk_frozen BK102.out 0; have hfz15_1 := blk_frozen BK102.out 1; have hfz15_2 := blk_frozen BK102.out 2; have hfz15_3 := blk_frozen BK102.out 3) | (go_at_call 54; (with_reducible refine (impl_ValidMatrix.calls k a1_0 a1_1 a1_2 _ _ l1_3 t105 _ ?side1 ?side2 A9.out).mono ?_); (case side1 => exact Z24.z12); (case side2 => exact HC1_3.out); rintro e w16 ⟨rfl, hb⟩; have n0_ := Z24.k (Z24.bb BK101 Z24.z2 hb); have n1_ := Z24.k (Z24.bb BK102 Z24.z3 hb); have n2_ := Z24.k (Z24.bb BK103 Z24.z4 hb); have n3_ := Z24.k (below_step Z24.z0 hb); clear BK101 BK102 BK103 HB; have BK101 := n0_; have BK102 := n1_; have BK103 := n2_; have HB := n3_; clear n0_ n1_ n2_ n3_; (try clear hb); (try clear hb2); (try clear hk); (try clear hi)))
   go_meet
   case rel => exact ⟨_, (!t105), (by first | rfl | (simp; done) | (simp [*]; done)), H', ⟨(by first | omega | exact Nat.le_refl _)⟩, ⟨Z24.z2⟩, ⟨Z24.z3⟩, ⟨Z24.z4⟩, ⟨Z24.z0⟩⟩
  replace c8 := Bool.eq_false_iff.mpr c8
  subst c8
  have H1 : (impl_Multiply.j0 k true a0_0 a0_1 a0_2 l0_3 a1_0 a1_1 a1_2 l1_3) = some (r1, r2, r3, r4, r5) := by rw [if_neg (show ¬ (false = true) by decide)] at H; exact H
  clear H
  have H := H1
  clear H1
  have H' := Z24.k H
  clear H
  have hnb17 := NB101_102.out
  have hnc17 := NB102_101.out
  have hnb18 := NB101_103.out
  have hnc18 := NB103_101.out
  have hcz19_0 : w6.cell? ⟨gb101, 0, none⟩ = some (.int .i64 a0_0) := (blk_cell BK101.out 0).trans rfl
  have hcz19_1 : w6.cell? ⟨gb101, 1, none⟩ = some (.int .i64 a0_1) := (blk_cell BK101.out 1).trans rfl
  have hcz19_2 : w6.cell? ⟨gb101, 2, none⟩ = some (.int .i64 a0_2) := (blk_cell BK101.out 2).trans rfl
  have hcz19_3 : w6.cell? ⟨gb101, 3, none⟩ = some (.slice A0_3 l0_3.length c0_3) := (blk_cell BK101.out 3).trans rfl
  have hfz19_0 := blk_frozen BK101.out 0
  have hfz19_1 := blk_frozen BK101.out 1
  have hfz19_2 := blk_frozen BK101.out 2
  have hfz19_3 := blk_frozen BK101.out 3
  go_wp2_with (first | ((with_reducible refine gate_callee (f := 54) rfl ?_); refine goesL_ (some 7) rfl rfl Try.func54 (by kernel_rfl) rfl #[.agg #[.int .i64 a0_0, .int .i64 a0_1, .int .i64 a0_2, .slice A0_3 l0_3.length c0_3]] rfl Z24.z9 ?_; (with_reducible refine (impl_ValidMatrix.calls k a0_0 a0_1 a0_2 _ _ l0_3 false _ ?side1 ?side2 A7.out).mono ?_); (case side1 => exact Z24.z6); (case side2 => exact HC0_3.out); rintro e w20 ⟨rfl, hb⟩; refine ⟨_, rfl, ?_⟩; have n0_ := Z24.k (Z24.bb BK101 Z24.z2 hb); have n1_ := Z24.k (Z24.bb BK102 Z24.z3 hb); have n2_ := Z24.k (Z24.bb BK103 Z24.z4 hb); have n3_ := Z24.k (below_step Z24.z0 hb); clear BK101 BK102 BK103 HB; have BK101 := n0_; have BK102 := n1_; have BK103 := n2_; have HB := n3_; clear n0_ n1_ n2_ n3_; (try clear hb); (try clear hb2); (try clear hk); (try clear hi)))
  go_meet
  case rel => exact ⟨_, (true), (by first | rfl | (simp; done) | (simp [*]; done)), H', ⟨(by first | omega | exact Nat.le_refl _)⟩, ⟨Z24.z2⟩, ⟨Z24.z3⟩, ⟨Z24.z4⟩, ⟨Z24.z0⟩⟩
 case rest =>
  clear HC3
  try clear c1
  try clear c2
  try clear p2
  try clear c5
  try clear c8
  try clear c10
  try clear c11
  try clear c14
  try clear c17
  try clear c18
  try clear hcz12_0
  try clear hcz12_1
  try clear hcz12_2
  try clear hcz12_3
  try clear hcz15_0
  try clear hcz15_1
  try clear hcz15_2
  try clear hcz15_3
  try clear hcz19_0
  try clear hcz19_1
  try clear hcz19_2
  try clear hcz19_3
  try clear hfz12_0
  try clear hfz12_1
  try clear hfz12_2
  try clear hfz12_3
  try clear hfz15_0
  try clear hfz15_1
  try clear hfz15_2
  try clear hfz15_3
  try clear hfz19_0
  try clear hfz19_1
  try clear hfz19_2
  try clear hfz19_3
  obtain ⟨kq, x13_2, rfl, HA, HJ2, BK101, BK102, BK103, HB⟩ := hcut
  cases kq with
  | zero => exact absurd HA.out (by simp [impl_Multiply.j0])
  | succ kj2 =>
   have H := HA.out
   clear HA
   simp only [impl_Multiply.j0] at H
   by_cases c21 : x13_2 = true
   ·subst c21
    have H1 : (some (0, 0, 0, ([] : List Int), 1)) = some (r1, r2, r3, r4, r5) := by rw [if_pos rfl] at H; exact H
    clear H
    have H := H1
    clear H1
    simp only [Option.some.injEq, Prod.mk.injEq] at H
    obtain ⟨rfl, rfl, rfl, rfl, rfl⟩ := H
    have hnb22 := NB103_101.out
    have hnc22 := NB101_103.out
    have hnb23 := NB103_102.out
    have hnc23 := NB102_103.out
    have hcz24_0 : wc.cell? ⟨gb103, 0, none⟩ = some (.int .i64 0) := (blk_cell BK103.out 0).trans rfl
    have hcz24_1 : wc.cell? ⟨gb103, 1, none⟩ = some (.int .i64 0) := (blk_cell BK103.out 1).trans rfl
    have hcz24_2 : wc.cell? ⟨gb103, 2, none⟩ = some (.int .i64 0) := (blk_cell BK103.out 2).trans rfl
    have hcz24_3 : wc.cell? ⟨gb103, 3, none⟩ = some (.slice none 0 0) := (blk_cell BK103.out 3).trans rfl
    have hfz24_0 := blk_frozen BK103.out 0
    have hfz24_1 := blk_frozen BK103.out 1
    have hfz24_2 := blk_frozen BK103.out 2
    have hfz24_3 := blk_frozen BK103.out 3
    go_wp2
    refine bodyPost_ret (results_ct rfl _ _ gb103 27 #[.int .i64 0, .int .i64 0, .int .i64 0, .slice none 0 0] (0, 0) _ rfl Z24.z1 Try.underlying27 rfl (by kernel_rfl)) rfl ?_
    exact ⟨_, Z24.z10, Z24.z8, Z24.z0⟩
   replace c21 := Bool.eq_false_iff.mpr c21
   subst c21
   have H1 : (if a0_0 = a1_0 then (if a0_2 = a1_1 then ((impl_product.f kj2 a0_0 a0_1 a0_2 l0_3 a1_0 a1_1 a1_2 l1_3).bind fun bt106 => (some (bt106.1, bt106.2.1, bt106.2.2.1, bt106.2.2.2, 0))) else (some (0, 0, 0, ([] : List Int), 6))) else (some (0, 0, 0, ([] : List Int), 6))) = some (r1, r2, r3, r4, r5) := by rw [if_neg (show ¬ (false = true) by decide)] at H; exact H
   clear H
   have H := H1
   clear H1
   by_cases c25 : a0_0 = a1_0
   ·rw [if_pos c25] at H
    have c25b0 : (a0_0 == a1_0) = true := beq_iff_eq.mpr c25
    have c25b1 : (a0_0 != a1_0) = false := bne_eq_false_iff_eq.mpr c25
    clear c25
    by_cases c26 : a0_2 = a1_1
    ·rw [if_pos c26] at H
     have c26b0 : (a0_2 == a1_1) = true := beq_iff_eq.mpr c26
     have c26b1 : (a0_2 != a1_1) = false := bne_eq_false_iff_eq.mpr c26
     clear c26
     replace H := Option.bind_eq_some_iff.mp H
     obtain ⟨⟨t106, t107, t108, t109⟩, A270, H⟩ := H
     replace H : (some (t106, t107, t108, t109, 0)) = some (r1, r2, r3, r4, r5) := H
     have A27 := Z24.k A270
     clear A270
     simp only [Option.some.injEq, Prod.mk.injEq] at H
     obtain ⟨rfl, rfl, rfl, rfl, rfl⟩ := H
     have hnb28 := NB101_102.out
     have hnc28 := NB102_101.out
     have hnb29 := NB101_103.out
     have hnc29 := NB103_101.out
     have hcz30_0 : wc.cell? ⟨gb101, 0, none⟩ = some (.int .i64 a0_0) := (blk_cell BK101.out 0).trans rfl
     have hcz30_1 : wc.cell? ⟨gb101, 1, none⟩ = some (.int .i64 a0_1) := (blk_cell BK101.out 1).trans rfl
     have hcz30_2 : wc.cell? ⟨gb101, 2, none⟩ = some (.int .i64 a0_2) := (blk_cell BK101.out 2).trans rfl
     have hcz30_3 : wc.cell? ⟨gb101, 3, none⟩ = some (.slice A0_3 l0_3.length c0_3) := (blk_cell BK101.out 3).trans rfl
     have hfz30_0 := blk_frozen BK101.out 0
     have hfz30_1 := blk_frozen BK101.out 1
     have hfz30_2 := blk_frozen BK101.out 2
     have hfz30_3 := blk_frozen BK101.out 3
     have hnb31 := NB102_103.out
     have hnc31 := NB103_102.out
     have hcz32_0 : wc.cell? ⟨gb102, 0, none⟩ = some (.int .i64 a1_0) := (blk_cell BK102.out 0).trans rfl
     have hcz32_1 : wc.cell? ⟨gb102, 1, none⟩ = some (.int .i64 a1_1) := (blk_cell BK102.out 1).trans rfl
     have hcz32_2 : wc.cell? ⟨gb102, 2, none⟩ = some (.int .i64 a1_2) := (blk_cell BK102.out 2).trans rfl
     have hcz32_3 : wc.cell? ⟨gb102, 3, none⟩ = some (.slice A1_3 l1_3.length c1_3) := (blk_cell BK102.out 3).trans rfl
     have hfz32_0 := blk_frozen BK102.out 0
     have hfz32_1 := blk_frozen BK102.out 1
     have hfz32_2 := blk_frozen BK102.out 2
     have hfz32_3 := blk_frozen BK102.out 3
     go_wp2_with (first | ((with_reducible refine gate_callee (f := 69) rfl ?_); refine goesL_ (some 30) rfl rfl Try.func69 (by kernel_rfl) rfl #[.agg #[.int .i64 a0_0, .int .i64 a0_1, .int .i64 a0_2, .slice A0_3 l0_3.length c0_3], .agg #[.int .i64 a1_0, .int .i64 a1_1, .int .i64 a1_2, .slice A1_3 l1_3.length c1_3]] rfl Z24.z9 ?_; (with_reducible refine (impl_product.calls kj2 a0_0 a0_1 a0_2 _ _ l0_3 a1_0 a1_1 a1_2 _ _ l1_3 t106 t107 t108 t109 _ ?side1 ?side2 ?side3 ?side4 A27.out).mono ?_); (case side1 => exact Z24.z6); (case side2 => exact HC0_3.out); (case side3 => exact Z24.z12); (case side4 => exact HC1_3.out); rintro e w33 ⟨v110, rfl, ho0, hb⟩; refine ⟨_, rfl, ?_⟩; have n0_ := Z24.k (Kd.R_lower ho0 (below_size Z24.z0)); have n1_ := Z24.k (Z24.bb BK101 Z24.z2 hb); have n2_ := Z24.k (Z24.bb BK102 Z24.z3 hb); have n3_ := Z24.k (Z24.bb BK103 Z24.z4 hb); have n4_ := Z24.k (below_step Z24.z0 hb); clear BK101 BK102 BK103 HB; have HO111 := n0_; have BK101 := n1_; have BK102 := n2_; have BK103 := n3_; have HB := n4_; clear n0_ n1_ n2_ n3_ n4_; (try clear hb); (try clear hb2); (try clear hk); (try clear hi); (try clear ho0); have hcz34_0 : w33.cell? ⟨gb103, 0, none⟩ = some (.int .i64 0) := (blk_cell BK103.out 0).trans rfl; have hcz34_1 : w33.cell? ⟨gb103, 1, none⟩ = some (.int .i64 0) := (blk_cell BK103.out 1).trans rfl; have hcz34_2 : w33.cell? ⟨gb103, 2, none⟩ = some (.int .i64 0) := (blk_cell BK103.out 2).trans rfl; have hcz34_3 : w33.cell? ⟨gb103, 3, none⟩ = some (.slice none 0 0) := (blk_cell BK103.out 3).trans rfl; have hfz34_0 := blk_frozen BK103.out 0; have hfz34_1 := blk_frozen BK103.out 1; have hfz34_2 := blk_frozen BK103.out 2; have hfz34_3 := blk_frozen BK103.out 3; obtain ⟨Ao35, co35, eo35⟩ := Kd.R_slice HO111.out; subst eo35))
     refine bodyPost_ret (results_ct rfl _ _ gb103 27 #[.int .i64 t106, .int .i64 t107, .int .i64 t108, .slice Ao35 t109.length co35] (0, 0) _ rfl (by (with_reducible repeat (first | refine blk_drewN ?_ _ | refine blk_drew ?_ | refine blk_alloc ?_ _)); refine blk_put (cs := #[.int .i64 t106, .int .i64 t107, .int .i64 t108, .slice none 0 0]) ?_ 3 _ rfl; (with_reducible repeat (first | refine blk_drewN ?_ _ | refine blk_drew ?_ | refine blk_alloc ?_ _)); refine blk_put (cs := #[.int .i64 t106, .int .i64 t107, .int .i64 0, .slice none 0 0]) ?_ 2 _ rfl; (with_reducible repeat (first | refine blk_drewN ?_ _ | refine blk_drew ?_ | refine blk_alloc ?_ _)); refine blk_put (cs := #[.int .i64 t106, .int .i64 0, .int .i64 0, .slice none 0 0]) ?_ 1 _ rfl; (with_reducible repeat (first | refine blk_drewN ?_ _ | refine blk_drew ?_ | refine blk_alloc ?_ _)); refine blk_put (cs := #[.int .i64 0, .int .i64 0, .int .i64 0, .slice none 0 0]) ?_ 0 _ rfl; (with_reducible repeat (first | refine blk_drewN ?_ _ | refine blk_drew ?_ | refine blk_alloc ?_ _)); exact BK103.out) Try.underlying27 rfl (by kernel_rfl)) rfl ?_
     exact ⟨_, Z24.z10, (by (with_reducible repeat (first | apply Kd.R_alloc | apply Kd.R_drewN | apply Kd.R_drew)); exact Kd.R_mono (Kd.R_far (p := ⟨gb103, 3, none⟩) (Kd.R_far (p := ⟨gb103, 2, none⟩) (Kd.R_far (p := ⟨gb103, 1, none⟩) (Kd.R_far (p := ⟨gb103, 0, none⟩) (Kd.R_types HO111.out BK103.out (by decide)) (fun _ hk => hk.2) (.int .i64 t106)) (fun _ hk => hk.2) (.int .i64 t107)) (fun _ hk => hk.2) (.int .i64 t108)) (fun _ hk => hk.2) (.slice Ao35 t109.length co35)) (fun _ hk => trivial)), Z24.z0⟩
    rw [if_neg c26] at H
    have c26b0 : (a0_2 == a1_1) = false := beq_eq_false_iff_ne.mpr c26
    have c26b1 : (a0_2 != a1_1) = true := bne_iff_ne.mpr c26
    simp only [Option.some.injEq, Prod.mk.injEq] at H
    obtain ⟨rfl, rfl, rfl, rfl, rfl⟩ := H
    have hnb36 := NB101_102.out
    have hnc36 := NB102_101.out
    have hnb37 := NB101_103.out
    have hnc37 := NB103_101.out
    have hcz38_0 : wc.cell? ⟨gb101, 0, none⟩ = some (.int .i64 a0_0) := (blk_cell BK101.out 0).trans rfl
    have hcz38_1 : wc.cell? ⟨gb101, 1, none⟩ = some (.int .i64 a0_1) := (blk_cell BK101.out 1).trans rfl
    have hcz38_2 : wc.cell? ⟨gb101, 2, none⟩ = some (.int .i64 a0_2) := (blk_cell BK101.out 2).trans rfl
    have hcz38_3 : wc.cell? ⟨gb101, 3, none⟩ = some (.slice A0_3 l0_3.length c0_3) := (blk_cell BK101.out 3).trans rfl
    have hfz38_0 := blk_frozen BK101.out 0
    have hfz38_1 := blk_frozen BK101.out 1
    have hfz38_2 := blk_frozen BK101.out 2
    have hfz38_3 := blk_frozen BK101.out 3
    have hnb39 := NB102_103.out
    have hnc39 := NB103_102.out
    have hcz40_0 : wc.cell? ⟨gb102, 0, none⟩ = some (.int .i64 a1_0) := (blk_cell BK102.out 0).trans rfl
    have hcz40_1 : wc.cell? ⟨gb102, 1, none⟩ = some (.int .i64 a1_1) := (blk_cell BK102.out 1).trans rfl
    have hcz40_2 : wc.cell? ⟨gb102, 2, none⟩ = some (.int .i64 a1_2) := (blk_cell BK102.out 2).trans rfl
    have hcz40_3 : wc.cell? ⟨gb102, 3, none⟩ = some (.slice A1_3 l1_3.length c1_3) := (blk_cell BK102.out 3).trans rfl
    have hfz40_0 := blk_frozen BK102.out 0
    have hfz40_1 := blk_frozen BK102.out 1
    have hfz40_2 := blk_frozen BK102.out 2
    have hfz40_3 := blk_frozen BK102.out 3
    have hcz41_0 : wc.cell? ⟨gb103, 0, none⟩ = some (.int .i64 0) := (blk_cell BK103.out 0).trans rfl
    have hcz41_1 : wc.cell? ⟨gb103, 1, none⟩ = some (.int .i64 0) := (blk_cell BK103.out 1).trans rfl
    have hcz41_2 : wc.cell? ⟨gb103, 2, none⟩ = some (.int .i64 0) := (blk_cell BK103.out 2).trans rfl
    have hcz41_3 : wc.cell? ⟨gb103, 3, none⟩ = some (.slice none 0 0) := (blk_cell BK103.out 3).trans rfl
    have hfz41_0 := blk_frozen BK103.out 0
    have hfz41_1 := blk_frozen BK103.out 1
    have hfz41_2 := blk_frozen BK103.out 2
    have hfz41_3 := blk_frozen BK103.out 3
    go_wp2
    refine bodyPost_ret (results_ct rfl _ _ gb103 27 #[.int .i64 0, .int .i64 0, .int .i64 0, .slice none 0 0] (0, 0) _ rfl Z24.z1 Try.underlying27 rfl (by kernel_rfl)) rfl ?_
    exact ⟨_, Z24.z10, Z24.z8, Z24.z0⟩
   rw [if_neg c25] at H
   have c25b0 : (a0_0 == a1_0) = false := beq_eq_false_iff_ne.mpr c25
   have c25b1 : (a0_0 != a1_0) = true := bne_iff_ne.mpr c25
   simp only [Option.some.injEq, Prod.mk.injEq] at H
   obtain ⟨rfl, rfl, rfl, rfl, rfl⟩ := H
   have hnb42 := NB101_102.out
   have hnc42 := NB102_101.out
   have hnb43 := NB101_103.out
   have hnc43 := NB103_101.out
   have hcz44_0 : wc.cell? ⟨gb101, 0, none⟩ = some (.int .i64 a0_0) := (blk_cell BK101.out 0).trans rfl
   have hcz44_1 : wc.cell? ⟨gb101, 1, none⟩ = some (.int .i64 a0_1) := (blk_cell BK101.out 1).trans rfl
   have hcz44_2 : wc.cell? ⟨gb101, 2, none⟩ = some (.int .i64 a0_2) := (blk_cell BK101.out 2).trans rfl
   have hcz44_3 : wc.cell? ⟨gb101, 3, none⟩ = some (.slice A0_3 l0_3.length c0_3) := (blk_cell BK101.out 3).trans rfl
   have hfz44_0 := blk_frozen BK101.out 0
   have hfz44_1 := blk_frozen BK101.out 1
   have hfz44_2 := blk_frozen BK101.out 2
   have hfz44_3 := blk_frozen BK101.out 3
   have hnb45 := NB102_103.out
   have hnc45 := NB103_102.out
   have hcz46_0 : wc.cell? ⟨gb102, 0, none⟩ = some (.int .i64 a1_0) := (blk_cell BK102.out 0).trans rfl
   have hcz46_1 : wc.cell? ⟨gb102, 1, none⟩ = some (.int .i64 a1_1) := (blk_cell BK102.out 1).trans rfl
   have hcz46_2 : wc.cell? ⟨gb102, 2, none⟩ = some (.int .i64 a1_2) := (blk_cell BK102.out 2).trans rfl
   have hcz46_3 : wc.cell? ⟨gb102, 3, none⟩ = some (.slice A1_3 l1_3.length c1_3) := (blk_cell BK102.out 3).trans rfl
   have hfz46_0 := blk_frozen BK102.out 0
   have hfz46_1 := blk_frozen BK102.out 1
   have hfz46_2 := blk_frozen BK102.out 2
   have hfz46_3 := blk_frozen BK102.out 3
   have hcz47_0 : wc.cell? ⟨gb103, 0, none⟩ = some (.int .i64 0) := (blk_cell BK103.out 0).trans rfl
   have hcz47_1 : wc.cell? ⟨gb103, 1, none⟩ = some (.int .i64 0) := (blk_cell BK103.out 1).trans rfl
   have hcz47_2 : wc.cell? ⟨gb103, 2, none⟩ = some (.int .i64 0) := (blk_cell BK103.out 2).trans rfl
   have hcz47_3 : wc.cell? ⟨gb103, 3, none⟩ = some (.slice none 0 0) := (blk_cell BK103.out 3).trans rfl
   have hfz47_0 := blk_frozen BK103.out 0
   have hfz47_1 := blk_frozen BK103.out 1
   have hfz47_2 := blk_frozen BK103.out 2
   have hfz47_3 := blk_frozen BK103.out 3
   go_wp2
   refine bodyPost_ret (results_ct rfl _ _ gb103 27 #[.int .i64 0, .int .i64 0, .int .i64 0, .slice none 0 0] (0, 0) _ rfl Z24.z1 Try.underlying27 rfl (by kernel_rfl)) rfl ?_
   exact ⟨_, Z24.z10, Z24.z8, Z24.z0⟩
/-! ### laws_FnInverse: function 4 -/
def laws_FnInverse.j0 : Nat → Int → Int → Int → Bool → Int → Int → Int → List Int → Int → Int → Int → List Int → Int → Int → Int → List Int → Option (Bool)
  | 0, _, _, _, _, _, _, _, _, _, _, _, _, _, _, _, _ => none
  | k + 1, x5, x8, x11, x60, x111000, x111001, x111002, x111003, x121000, x121001, x121002, x121003, x129000, x129001, x129002, x129003 => if x60 = true then (some false) else (if x11 = 0 then ((impl_Multiply.f k x111000 x111001 x111002 x111003 x121000 x121001 x121002 x121003).bind fun bt129 => ((impl_Multiply.f k x121000 x121001 x121002 x121003 x111000 x111001 x111002 x111003).bind fun bt137 => ((impl_DeterminantOf.f k x121000 x121001 x121002 x121003).bind fun bt145 => (if bt129.2.2.2.2 = 0 then (if bt137.2.2.2.2 = 0 then ((spec_SameMatrix.f k bt129.1 bt129.2.1 bt129.2.2.1 bt129.2.2.2.1 x129000 x129001 x129002 x129003).bind fun t147 => (if t147 = true then ((spec_SameMatrix.f k bt137.1 bt137.2.1 bt137.2.2.1 bt137.2.2.2.1 x129000 x129001 x129002 x129003).bind fun t148 => (if t148 = true then (if bt145.2 = 0 then (if bt145.1 ≥ 0 then (if bt145.1 < x5 then (if x8 > 0 then (if x8 < x5 then (if x5 = 0 then (none) else (some ((Int.tmod (wrap64 (bt145.1 * x8)) x5) == ((1 : Int) % x5)))) else (some false)) else (some false)) else (some false)) else (some false)) else (some false)) else (some false))) else (some false))) else (some false)) else (some false))))) else (some (x11 == 3)))
def laws_FnInverse.f (k : Nat) (l0 : List Int) (l1 : List Int) : Option (Bool) := (laws_r8Long.f l0 l1).bind fun t101 => (if t101 = true then (some true) else ((spec_R8Prime.f l0).bind fun t102 => ((laws_r8At.f l1 0 6).bind fun t103 => ((spec_R8Matrix.f k l0 t102 t103 t103).bind fun bt104 => ((impl_DeterminantOf.f k bt104.1 bt104.2.1 bt104.2.2.1 bt104.2.2.2).bind fun bt111 => ((impl_InverseMatrix.f k bt104.1 bt104.2.1 bt104.2.2.1 bt104.2.2.2).bind fun bt113 => ((impl_UnitMatrix.f k t102 t103).bind fun bt121 => (if bt111.2 = 0 then (if bt121.2.2.2.2 = 0 then (laws_FnInverse.j0 k t102 bt111.1 bt113.2.2.2.2 ((bt113.2.2.2.2 == 0) != (bt111.1 != 0)) bt104.1 bt104.2.1 bt104.2.2.1 bt104.2.2.2 bt113.1 bt113.2.1 bt113.2.2.1 bt113.2.2.2.1 bt121.1 bt121.2.1 bt121.2.2.1 bt121.2.2.2.1) else (laws_FnInverse.j0 k t102 bt111.1 bt113.2.2.2.2 true bt104.1 bt104.2.1 bt104.2.2.1 bt104.2.2.2 bt113.1 bt113.2.1 bt113.2.2.1 bt113.2.2.2.1 bt121.1 bt121.2.1 bt121.2.2.1 bt121.2.2.2.1)) else (laws_FnInverse.j0 k t102 bt111.1 bt113.2.2.2.2 true bt104.1 bt104.2.1 bt104.2.2.1 bt104.2.2.2 bt113.1 bt113.2.1 bt113.2.2.1 bt113.2.2.2.1 bt121.1 bt121.2.1 bt121.2.2.1 bt121.2.2.2.1)))))))))
def laws_FnInverse.T16 : Bool × List (List Nat × List Nat) := (true, [([], []), ([0], [0]), ([1], [1]), ([2], [2]), ([3, 2], [2, 3]), ([2, 4], [2, 4]), ([5, 2], [5]), ([6], [6]), ([6], [6]), ([7, 8, 6, 6], [6, 7, 8]), ([6, 9], [6, 9]), ([10, 9], [10]), ([11], [11]), ([11], [11]), ([12, 13, 11, 11], [11, 12, 13]), ([11, 14], [11, 14]), ([15, 14], [15]), ([16], [16]), ([17, 16], [16, 17]), ([16, 18], [16, 18]), ([19, 16], [19]), ([20], [20]), ([21, 20], [20, 21]), ([20, 22], [20, 22]), ([23, 20], [23]), ([24], [24]), ([24], [24]), ([25, 26, 24], [24, 25, 26]), ([24, 27], [24, 27]), ([28, 24], [28]), ([29], [29]), ([30, 29], [29, 30]), ([29, 31], [29, 31]), ([32, 29], [32]), ([33], [33]), ([33], [33]), ([34, 35, 33], [33, 34, 35]), ([33, 36], [33, 36]), ([37, 33], [37]), ([38], [38]), ([38], [38]), ([39, 40, 38], [38, 39, 40]), ([38], [38]), ([41, 42, 38], [38, 41, 42]), ([38], [38]), ([44, 38], [38, 44]), ([43, 45, 38], [38, 43, 45]), ([38, 46], [38, 46]), ([47, 38, 0, 1, 2, 3, 4, 5, 6, 7, 8, 9, 10, 11, 12, 13, 14, 15, 16, 17, 18, 19, 20, 21, 22, 23, 24, 25, 26, 27, 28, 29, 30, 31, 32, 33, 34, 35, 36, 37, 38, 39, 40, 41, 42, 43, 44, 45, 46, 47], [47])])
def laws_FnInverse.B16 : List Nat := [0, 1, 3, 7, 15, 31, 63, 127, 127, 511, 1023, 2047, 4095, 4095, 16383, 32767, 65535, 131071, 262143, 524287, 1048575, 2097151, 4194303, 8388607, 16777215, 33554431, 33554431, 134217727, 268435455, 536870911, 1073741823, 2147483647, 4294967295, 8589934591, 17179869183, 17179869183, 68719476735, 137438953471, 274877906943, 549755813887, 549755813887, 2199023255551, 549755813887, 8796093022207, 549755813887, 18141941858303, 70368744177663, 140737488355327, 281474976710655]
theorem laws_FnInverse.tab16 : rtab .any (opsOf Try.f4 16) = laws_FnInverse.T16 := by kernel_rfl
theorem laws_FnInverse.bits16 : waitsOk laws_FnInverse.T16.2 laws_FnInverse.B16 = true := by kernel_rfl
def Z4.b (n x : Nat) : Array Bool := ((List.range n).map (fun i => x.testBit i)).toArray
theorem Z4.pP {P : Program} {ops : Array Oper} {Q : Exit → Act → World → Prop} {md : Region.Mode} {S : World → Prop} {ds : List Nat} (i N : Nat) {oi : Oper} {v : Value} {fuel : Nat} {l : Array Bool} {a : Act} {w : World} (l' : Array Bool) (hc : anyB md ops l l' i = true) {a' : Act} (h : wpAnyLast P md ops Q S ds fuel l' a' w) (hi : ops[i]? = some oi := by rfl) (hN : oi.dst = some N := by rfl) (hQ : ∀ c a w, Q (.panic c) (a.put oi.dst v) w → Q (.panic c) a w := by exact fun _ _ _ h => h) (hy : Yields P ops oi v a := by exact Or.inl ⟨(by rfl), by intro w'; go_simp; with_reducible rfl⟩) (ha : a.put (some N) v = a' := by simp only [Act.put, List.setIfInBounds_toArray, List.set_cons_zero, List.set_cons_succ, i64_w, i32_w]; rfl) : wpAnyLast P md ops Q S ds (fuel + 1) l a w := pure_ l' hi hN hc hQ hy ha h
theorem Z4.pT12 {P : Program} {ops : Array Oper} {Q : Exit → Act → World → Prop} {md : Region.Mode} {S : World → Prop} {ds : List Nat} (i N : Nat) {oi : Oper} {v : Value} {fuel : Nat} {l : Array Bool} {a : Act} {w : World} (l' : Array Bool) (hc : takeB md ops ds l l' i = true) (hS : S w) {a' : Act} (h : wpAnyLast P md ops Q S ds fuel l' a' w) (hi : ops[i]? = some oi := by rfl) (hN : oi.dst = some N := by rfl) (hQ : ∀ c a w, Q (.panic c) (a.put oi.dst v) w → Q (.panic c) a w := by exact fun _ _ _ h => h) (hy : YieldsIf P ops S oi v a := by exact Or.inl ⟨(by rfl), by rintro w' ⟨s0, s1, s2, s3, s4, s5, s6, s7, s8, s9, s10, s11⟩; go_simp; with_reducible rfl⟩) (ha : a.put (some N) v = a' := by simp only [Act.put, List.setIfInBounds_toArray, List.set_cons_zero, List.set_cons_succ, i64_w, i32_w]; rfl) : wpAnyLast P md ops Q S ds (fuel + 1) l a w := take_ l' hi hN hc hQ hy hS ha h
theorem Z4.bb {w0 w w1 : World} {g : Nat} {o : Obj} (_B : Aside0 (w0.heap[g]? = some o)) (h : w.heap[g]? = some o) (hb : Below w.heap.size w w1) : w1.heap[g]? = some o := blk_below h hb
theorem Z4.bl {w0 w : World} {g : Nat} {o : Obj} (_B : Aside0 (w0.heap[g]? = some o)) (h : w.heap[g]? = some o) : g < w.heap.size := blk_lt h
theorem Z4.k {p : Prop} (h : p) : Aside0 p := ⟨h⟩
theorem Z4.z30 {P : Prop} (h : P := by repeat (first | exact HR1.out | (with_reducible refine Kd.C_alloc ?_ _) | (with_reducible refine Kd.C_drewN ?_ _) | (with_reducible refine Kd.C_drew ?_))) : P := h
theorem Z4.z29 {P : Prop} (h : P := by repeat (first | exact (Kd.R_reads' HO_129003.out).2.2 | (with_reducible refine Kd.C_alloc ?_ _) | (with_reducible refine Kd.C_drewN ?_ _) | (with_reducible refine Kd.C_drew ?_))) : P := h
theorem Z4.z28 {P : Prop} (h : P := by (with_reducible repeat (first | apply Kd.R_alloc | apply Kd.R_drewN | apply Kd.R_drew)); exact HO142.out) : P := h
theorem Z4.z27 {P : Prop} (h : P := by (with_reducible repeat (first | apply Kd.R_alloc | apply Kd.R_drewN | apply Kd.R_drew)); exact HO134.out) : P := h
theorem Z4.z26 {P : Prop} (h : P := by repeat (first | exact HR0.out | (with_reducible refine Kd.C_alloc ?_ _) | (with_reducible refine Kd.C_drewN ?_ _) | (with_reducible refine Kd.C_drew ?_))) : P := h
theorem Z4.z25 {P : Prop} (h : P := by (with_reducible repeat (first | apply Kd.R_alloc | apply Kd.R_drewN | apply Kd.R_drew)); exact HO109.out) : P := h
theorem Z4.z24 {P : Prop} (h : P := by (with_reducible repeat (first | refine blk_drewN ?_ _ | refine blk_drew ?_ | refine blk_alloc ?_ _)); exact BK136.out) : P := h
theorem Z4.z23 {P : Prop} (h : P := by (with_reducible repeat (first | apply Kd.R_alloc | apply Kd.R_drewN | apply Kd.R_drew)); exact (Kd.R_mono (Kd.R_far (p := ⟨gb110, 3, none⟩) (Kd.R_far (p := ⟨gb110, 2, none⟩) (Kd.R_far (p := ⟨gb110, 1, none⟩) (Kd.R_far (p := ⟨gb110, 0, none⟩) (Kd.R_types HO109.out BK110.out (by decide)) (fun _ hk => hk.2) (.int .i64 t104)) (fun _ hk => hk.2) (.int .i64 t105)) (fun _ hk => hk.2) (.int .i64 t106)) (fun _ hk => hk.2) (.slice Ao16 t107.length co16)) (fun _ h_ => h_.1))) : P := h
theorem Z4.z22 {P : Prop} (h : P := by (with_reducible repeat (first | apply Kd.R_alloc | apply Kd.R_drewN | apply Kd.R_drew)); exact (Kd.R_mono (Kd.R_far (p := ⟨gb120, 3, none⟩) (Kd.R_far (p := ⟨gb120, 2, none⟩) (Kd.R_far (p := ⟨gb120, 1, none⟩) (Kd.R_far (p := ⟨gb120, 0, none⟩) (Kd.R_types HO109.out BK120.out (by decide)) (fun _ hk => hk.2) (.int .i64 t113)) (fun _ hk => hk.2) (.int .i64 t114)) (fun _ hk => hk.2) (.int .i64 t115)) (fun _ hk => hk.2) (.slice Ao23 t116.length co23)) (fun _ h_ => h_.1))) : P := h
theorem Z4.z21 {P : Prop} (h : P := by (with_reducible repeat (first | apply Kd.R_alloc | apply Kd.R_drewN | apply Kd.R_drew)); exact (Kd.R_mono (Kd.R_far (p := ⟨gb120, 3, none⟩) (Kd.R_far (p := ⟨gb120, 2, none⟩) (Kd.R_far (p := ⟨gb120, 1, none⟩) (Kd.R_far (p := ⟨gb120, 0, none⟩) (Kd.R_types HO118.out BK120.out (by decide)) (fun _ hk => hk.2) (.int .i64 t113)) (fun _ hk => hk.2) (.int .i64 t114)) (fun _ hk => hk.2) (.int .i64 t115)) (fun _ hk => hk.2) (.slice Ao23 t116.length co23)) (fun _ h_ => h_.1))) : P := h
theorem Z4.z20 {P : Prop} (h : P := by (with_reducible repeat (first | apply Kd.R_alloc | apply Kd.R_drewN | apply Kd.R_drew)); exact (Kd.R_mono (Kd.R_far (p := ⟨gb136, 3, none⟩) (Kd.R_far (p := ⟨gb136, 2, none⟩) (Kd.R_far (p := ⟨gb136, 1, none⟩) (Kd.R_far (p := ⟨gb136, 0, none⟩) (Kd.R_types HO134.out BK136.out (by decide)) (fun _ hk => hk.2) (.int .i64 t129)) (fun _ hk => hk.2) (.int .i64 t130)) (fun _ hk => hk.2) (.int .i64 t131)) (fun _ hk => hk.2) (.slice Ao60 t132.length co60)) (fun _ h_ => h_.1))) : P := h
theorem Z4.z19 {P : Prop} (h : P := by (with_reducible repeat (first | apply Kd.R_alloc | apply Kd.R_drewN | apply Kd.R_drew)); exact (Kd.R_mono (Kd.R_far (p := ⟨gb136, 3, none⟩) (Kd.R_far (p := ⟨gb136, 2, none⟩) (Kd.R_far (p := ⟨gb136, 1, none⟩) (Kd.R_far (p := ⟨gb136, 0, none⟩) (Kd.R_types HO_129003.out BK136.out (by decide)) (fun _ hk => hk.2) (.int .i64 t129)) (fun _ hk => hk.2) (.int .i64 t130)) (fun _ hk => hk.2) (.int .i64 t131)) (fun _ hk => hk.2) (.slice Ao60 t132.length co60)) (fun _ h_ => h_.1))) : P := h
theorem Z4.z18 {P : Prop} (h : P := by (with_reducible repeat (first | apply Kd.R_alloc | apply Kd.R_drewN | apply Kd.R_drew)); exact (Kd.R_mono (Kd.R_far (p := ⟨gb144, 3, none⟩) (Kd.R_far (p := ⟨gb144, 2, none⟩) (Kd.R_far (p := ⟨gb144, 1, none⟩) (Kd.R_far (p := ⟨gb144, 0, none⟩) (Kd.R_types HO_121003.out BK144.out (by decide)) (fun _ hk => hk.2) (.int .i64 t137)) (fun _ hk => hk.2) (.int .i64 t138)) (fun _ hk => hk.2) (.int .i64 t139)) (fun _ hk => hk.2) (.slice Ao70 t140.length co70)) (fun _ h_ => h_.1))) : P := h
theorem Z4.z17 {P : Prop} (h : P := by (with_reducible repeat (first | apply Kd.R_alloc | apply Kd.R_drewN | apply Kd.R_drew)); exact HO_111003.out) : P := h
theorem Z4.z16 {P : Prop} (h : P := by (with_reducible repeat (first | apply Kd.R_alloc | apply Kd.R_drewN | apply Kd.R_drew)); exact HO_121003.out) : P := h
theorem Z4.z15 {P : Prop} (h : P := by (with_reducible repeat (first | apply Kd.R_alloc | apply Kd.R_drewN | apply Kd.R_drew)); exact HO_129003.out) : P := h
theorem Z4.z14 {P : Prop} (h : P := by first | rfl | (rw [Int.tmod_eq_emod_of_nonneg (a := 1) (by decide), hd_]; rfl) | (simp only [Int.tmod_eq_emod_of_nonneg (show (0 : Int) ≤ 1 from by decide)]; simp [hd_]; done) | (simp [errW_none, errW_some] <;> rfl) | (simp [*, errW_none, errW_some] <;> rfl)) : P := h
theorem Z4.z13 {P : Prop} (h : P := by repeat (first | (with_reducible first | exact HB.out | apply below_alloc | apply pw_below_drewN | apply below_drew1 | refine below_set ?_ GE110.out | refine below_set ?_ GE120.out) | exact HB.out)) : P := h
theorem Z4.z12 {P : Prop} (h : P := by repeat (first | (with_reducible first | exact HB.out | apply below_alloc | apply pw_below_drewN | apply below_drew1 | refine below_set ?_ GE110.out) | exact HB.out)) : P := h
theorem Z4.z11 {P : Prop} (h : P := by exact ⟨(blk_cell BK136.out 0).trans rfl, (blk_cell BK136.out 1).trans rfl, (blk_cell BK136.out 2).trans rfl, (blk_cell BK136.out 3).trans rfl, (blk_cell BK128.out 0).trans rfl, (blk_cell BK128.out 1).trans rfl, (blk_cell BK128.out 2).trans rfl, (blk_cell BK128.out 3).trans rfl, (blk_cell BK144.out 0).trans rfl, (blk_cell BK144.out 1).trans rfl, (blk_cell BK144.out 2).trans rfl, (blk_cell BK144.out 3).trans rfl⟩) : P := h
theorem Z4.z10 {P : Prop} (h : P := by (with_reducible repeat (first | refine blk_drewN ?_ _ | refine blk_drew ?_ | refine blk_alloc ?_ _)); exact BK128.out) : P := h
theorem Z4.z9 {P : Prop} (h : P := by repeat (first | (with_reducible first | exact HB.out | apply below_alloc | apply pw_below_drewN | apply below_drew1) | exact HB.out)) : P := h
theorem Z4.z8 {P : Prop} (h : P := by repeat (first | (with_reducible first | exact HB.out | apply below_alloc | apply pw_below_drewN | apply below_drew1 | refine below_set ?_ GE110.out | refine below_set ?_ GE120.out | refine below_set ?_ GE128.out | refine below_set ?_ GE136.out | refine below_set ?_ GE144.out) | exact HB.out)) : P := h
theorem Z4.z7 {P : Prop} (h : P := by (with_reducible repeat (first | apply Kd.R_alloc | apply Kd.R_drewN | apply Kd.R_drew)); exact (Kd.R_mono (Kd.R_far (p := ⟨gb136, 3, none⟩) (Kd.R_far (p := ⟨gb136, 2, none⟩) (Kd.R_far (p := ⟨gb136, 1, none⟩) (Kd.R_far (p := ⟨gb136, 0, none⟩) (Kd.R_types HO_111003.out BK136.out (by decide)) (fun _ hk => hk.2) (.int .i64 t129)) (fun _ hk => hk.2) (.int .i64 t130)) (fun _ hk => hk.2) (.int .i64 t131)) (fun _ hk => hk.2) (.slice Ao60 t132.length co60)) (fun _ h_ => h_.1))) : P := h
theorem Z4.z6 {P : Prop} (h : P := by (with_reducible repeat (first | apply Kd.R_alloc | apply Kd.R_drewN | apply Kd.R_drew)); exact (Kd.R_mono (Kd.R_far (p := ⟨gb136, 3, none⟩) (Kd.R_far (p := ⟨gb136, 2, none⟩) (Kd.R_far (p := ⟨gb136, 1, none⟩) (Kd.R_far (p := ⟨gb136, 0, none⟩) (Kd.R_types HO_121003.out BK136.out (by decide)) (fun _ hk => hk.2) (.int .i64 t129)) (fun _ hk => hk.2) (.int .i64 t130)) (fun _ hk => hk.2) (.int .i64 t131)) (fun _ hk => hk.2) (.slice Ao60 t132.length co60)) (fun _ h_ => h_.1))) : P := h
theorem Z4.z5 {P : Prop} (h : P := by repeat (first | (with_reducible first | exact HB.out | apply below_alloc | apply pw_below_drewN | apply below_drew1 | refine below_set ?_ GE110.out | refine below_set ?_ GE120.out | refine below_set ?_ GE128.out | refine below_set ?_ GE136.out) | exact HB.out)) : P := h
theorem Z4.z4 {P : Prop} (h : P := by (with_reducible repeat (first | refine blk_drewN ?_ _ | refine blk_drew ?_ | refine blk_alloc ?_ _)); exact BK120.out) : P := h
theorem Z4.z3 {P : Prop} (h : P := by repeat (first | (with_reducible first | exact HB.out | apply below_alloc | apply pw_below_drewN | apply below_drew1 | refine below_set ?_ GE110.out | refine below_set ?_ GE120.out | refine below_set ?_ GE128.out) | exact HB.out)) : P := h
theorem Z4.z2 {P : Prop} (h : P := by (try simp only [List.map_toArray, List.map_cons, List.map_nil]); first | done | rfl | (simp only [List.length_drop, List.length_take]; rfl)) : P := h
theorem Z4.z1 {P : Prop} (h : P := by (with_reducible repeat (first | refine blk_drewN ?_ _ | refine blk_drew ?_ | refine blk_alloc ?_ _)); exact BK110.out) : P := h
theorem Z4.z0 {P : Prop} (h : P := by simp only [Act.put, List.setIfInBounds_toArray, List.set_cons_zero, List.set_cons_succ, i64_w, i32_w]; rfl) : P := h
set_option maxHeartbeats 8000000 in
set_option maxRecDepth 100000 in
theorem laws_FnInverse.calls (k : Nat) (A0 : Option Addr) (c0 : Nat) (l0 : List Int) (A1 : Option Addr) (c1 : Nat) (l1 : List Int) (_r : Bool) (w : World) (hr0 : Kd.C (Kd.int .u8) w A0 l0.length l0) (hc0 : l0.length ≤ c0) (hr1 : Kd.C (Kd.int .u8) w A1 l1.length l1) (hc1 : l1.length ≤ c1) (h : laws_FnInverse.f k l0 l1 = some true) :
  Calls Try.prog 4 #[.slice A0 l0.length c0, .slice A1 l1.length c1] w fun e w' => e = .returned (.bool true) ∧ Below w.heap.size w w' := by
 have hu27 := Try.underlying27
 have HR0 := Z4.k hr0
 have HC0 := Z4.k hc0
 clear hr0 hc0
 have HR1 := Z4.k hr1
 have HC1 := Z4.k hc1
 clear hr1 hc1
 have HB := Z4.k (Below.refl w.heap.size w)
 have H : ((laws_r8Long.f l0 l1).bind fun t101 => (if t101 = true then (some true) else ((spec_R8Prime.f l0).bind fun t102 => ((laws_r8At.f l1 0 6).bind fun t103 => ((spec_R8Matrix.f k l0 t102 t103 t103).bind fun bt104 => ((impl_DeterminantOf.f k bt104.1 bt104.2.1 bt104.2.2.1 bt104.2.2.2).bind fun bt111 => ((impl_InverseMatrix.f k bt104.1 bt104.2.1 bt104.2.2.1 bt104.2.2.2).bind fun bt113 => ((impl_UnitMatrix.f k t102 t103).bind fun bt121 => (if bt111.2 = 0 then (if bt121.2.2.2.2 = 0 then (laws_FnInverse.j0 k t102 bt111.1 bt113.2.2.2.2 ((bt113.2.2.2.2 == 0) != (bt111.1 != 0)) bt104.1 bt104.2.1 bt104.2.2.1 bt104.2.2.2 bt113.1 bt113.2.1 bt113.2.2.1 bt113.2.2.2.1 bt121.1 bt121.2.1 bt121.2.2.1 bt121.2.2.2.1) else (laws_FnInverse.j0 k t102 bt111.1 bt113.2.2.2.2 true bt104.1 bt104.2.1 bt104.2.2.1 bt104.2.2.2 bt113.1 bt113.2.1 bt113.2.2.1 bt113.2.2.2.1 bt121.1 bt121.2.1 bt121.2.2.1 bt121.2.2.2.1)) else (laws_FnInverse.j0 k t102 bt111.1 bt113.2.2.2.2 true bt104.1 bt104.2.1 bt104.2.2.1 bt104.2.2.2 bt113.1 bt113.2.1 bt113.2.2.1 bt113.2.2.2.1 bt121.1 bt121.2.1 bt121.2.2.1 bt121.2.2.2.1)))))))))) = some true := h
 clear h
 replace H := Option.bind_eq_some_iff.mp H
 obtain ⟨t101, A30, H⟩ := H
 replace H : (if t101 = true then (some true) else ((spec_R8Prime.f l0).bind fun t102 => ((laws_r8At.f l1 0 6).bind fun t103 => ((spec_R8Matrix.f k l0 t102 t103 t103).bind fun bt104 => ((impl_DeterminantOf.f k bt104.1 bt104.2.1 bt104.2.2.1 bt104.2.2.2).bind fun bt111 => ((impl_InverseMatrix.f k bt104.1 bt104.2.1 bt104.2.2.1 bt104.2.2.2).bind fun bt113 => ((impl_UnitMatrix.f k t102 t103).bind fun bt121 => (if bt111.2 = 0 then (if bt121.2.2.2.2 = 0 then (laws_FnInverse.j0 k t102 bt111.1 bt113.2.2.2.2 ((bt113.2.2.2.2 == 0) != (bt111.1 != 0)) bt104.1 bt104.2.1 bt104.2.2.1 bt104.2.2.2 bt113.1 bt113.2.1 bt113.2.2.1 bt113.2.2.2.1 bt121.1 bt121.2.1 bt121.2.2.1 bt121.2.2.2.1) else (laws_FnInverse.j0 k t102 bt111.1 bt113.2.2.2.2 true bt104.1 bt104.2.1 bt104.2.2.1 bt104.2.2.2 bt113.1 bt113.2.1 bt113.2.2.1 bt113.2.2.2.1 bt121.1 bt121.2.1 bt121.2.2.1 bt121.2.2.2.1)) else (laws_FnInverse.j0 k t102 bt111.1 bt113.2.2.2.2 true bt104.1 bt104.2.1 bt104.2.2.1 bt104.2.2.2 bt113.1 bt113.2.1 bt113.2.2.1 bt113.2.2.2.1 bt121.1 bt121.2.1 bt121.2.2.1 bt121.2.2.2.1))))))))) = some true := H
 have A3 := Z4.k A30
 clear A30
 by_cases c4 : t101 = true
 ·subst c4
  have H1 : (some true) = some true := rfl
  clear H
  have H := H1
  clear H1
  first | exact absurd H (by decide) | obtain rfl := Option.some.inj H | have hd_ := Option.some.inj H
  all_goals
   go_enter Try.func4, Try.ntmps4
   go_wp2_with (first | ((with_reducible refine gate_callee (f := 10) rfl ?_); refine goesL_ (some 22) rfl rfl Try.func10 (by kernel_rfl) rfl #[.slice A0 l0.length c0, .slice A1 l1.length c1] rfl Z4.z2 ?_; (with_reducible refine (laws_r8Long.calls _ _ l0 _ _ l1 true _ ?side1 ?side2 ?side3 ?side4 A3.out).mono ?_); (case side1 => exact Z4.z26); (case side2 => exact HC0.out); (case side3 => exact Z4.z30); (case side4 => exact HC1.out); rintro e w' ⟨rfl, ⟨nd, rfl⟩⟩; refine ⟨_, rfl, ?_⟩))
   go_ret
   exact ⟨Z4.z14, Z4.z9⟩
 ·as_aux_lemma =>
   replace c4 := Bool.eq_false_iff.mpr c4
   subst c4
   have H1 : ((spec_R8Prime.f l0).bind fun t102 => ((laws_r8At.f l1 0 6).bind fun t103 => ((spec_R8Matrix.f k l0 t102 t103 t103).bind fun bt104 => ((impl_DeterminantOf.f k bt104.1 bt104.2.1 bt104.2.2.1 bt104.2.2.2).bind fun bt111 => ((impl_InverseMatrix.f k bt104.1 bt104.2.1 bt104.2.2.1 bt104.2.2.2).bind fun bt113 => ((impl_UnitMatrix.f k t102 t103).bind fun bt121 => (if bt111.2 = 0 then (if bt121.2.2.2.2 = 0 then (laws_FnInverse.j0 k t102 bt111.1 bt113.2.2.2.2 ((bt113.2.2.2.2 == 0) != (bt111.1 != 0)) bt104.1 bt104.2.1 bt104.2.2.1 bt104.2.2.2 bt113.1 bt113.2.1 bt113.2.2.1 bt113.2.2.2.1 bt121.1 bt121.2.1 bt121.2.2.1 bt121.2.2.2.1) else (laws_FnInverse.j0 k t102 bt111.1 bt113.2.2.2.2 true bt104.1 bt104.2.1 bt104.2.2.1 bt104.2.2.2 bt113.1 bt113.2.1 bt113.2.2.1 bt113.2.2.2.1 bt121.1 bt121.2.1 bt121.2.2.1 bt121.2.2.2.1)) else (laws_FnInverse.j0 k t102 bt111.1 bt113.2.2.2.2 true bt104.1 bt104.2.1 bt104.2.2.1 bt104.2.2.2 bt113.1 bt113.2.1 bt113.2.2.1 bt113.2.2.2.1 bt121.1 bt121.2.1 bt121.2.2.1 bt121.2.2.2.1)))))))) = some true := by rw [if_neg (show ¬ (false = true) by decide)] at H; exact H
   clear H
   have H := H1
   clear H1
   replace H := Option.bind_eq_some_iff.mp H
   obtain ⟨t102, A50, H⟩ := H
   replace H : ((laws_r8At.f l1 0 6).bind fun t103 => ((spec_R8Matrix.f k l0 t102 t103 t103).bind fun bt104 => ((impl_DeterminantOf.f k bt104.1 bt104.2.1 bt104.2.2.1 bt104.2.2.2).bind fun bt111 => ((impl_InverseMatrix.f k bt104.1 bt104.2.1 bt104.2.2.1 bt104.2.2.2).bind fun bt113 => ((impl_UnitMatrix.f k t102 t103).bind fun bt121 => (if bt111.2 = 0 then (if bt121.2.2.2.2 = 0 then (laws_FnInverse.j0 k t102 bt111.1 bt113.2.2.2.2 ((bt113.2.2.2.2 == 0) != (bt111.1 != 0)) bt104.1 bt104.2.1 bt104.2.2.1 bt104.2.2.2 bt113.1 bt113.2.1 bt113.2.2.1 bt113.2.2.2.1 bt121.1 bt121.2.1 bt121.2.2.1 bt121.2.2.2.1) else (laws_FnInverse.j0 k t102 bt111.1 bt113.2.2.2.2 true bt104.1 bt104.2.1 bt104.2.2.1 bt104.2.2.2 bt113.1 bt113.2.1 bt113.2.2.1 bt113.2.2.2.1 bt121.1 bt121.2.1 bt121.2.2.1 bt121.2.2.2.1)) else (laws_FnInverse.j0 k t102 bt111.1 bt113.2.2.2.2 true bt104.1 bt104.2.1 bt104.2.2.1 bt104.2.2.2 bt113.1 bt113.2.1 bt113.2.2.1 bt113.2.2.2.1 bt121.1 bt121.2.1 bt121.2.2.1 bt121.2.2.2.1))))))) = some true := H
   have A5 := Z4.k A50
   clear A50
   replace H := Option.bind_eq_some_iff.mp H
   obtain ⟨t103, A60, H⟩ := H
   replace H : ((spec_R8Matrix.f k l0 t102 t103 t103).bind fun bt104 => ((impl_DeterminantOf.f k bt104.1 bt104.2.1 bt104.2.2.1 bt104.2.2.2).bind fun bt111 => ((impl_InverseMatrix.f k bt104.1 bt104.2.1 bt104.2.2.1 bt104.2.2.2).bind fun bt113 => ((impl_UnitMatrix.f k t102 t103).bind fun bt121 => (if bt111.2 = 0 then (if bt121.2.2.2.2 = 0 then (laws_FnInverse.j0 k t102 bt111.1 bt113.2.2.2.2 ((bt113.2.2.2.2 == 0) != (bt111.1 != 0)) bt104.1 bt104.2.1 bt104.2.2.1 bt104.2.2.2 bt113.1 bt113.2.1 bt113.2.2.1 bt113.2.2.2.1 bt121.1 bt121.2.1 bt121.2.2.1 bt121.2.2.2.1) else (laws_FnInverse.j0 k t102 bt111.1 bt113.2.2.2.2 true bt104.1 bt104.2.1 bt104.2.2.1 bt104.2.2.2 bt113.1 bt113.2.1 bt113.2.2.1 bt113.2.2.2.1 bt121.1 bt121.2.1 bt121.2.2.1 bt121.2.2.2.1)) else (laws_FnInverse.j0 k t102 bt111.1 bt113.2.2.2.2 true bt104.1 bt104.2.1 bt104.2.2.1 bt104.2.2.2 bt113.1 bt113.2.1 bt113.2.2.1 bt113.2.2.2.1 bt121.1 bt121.2.1 bt121.2.2.1 bt121.2.2.2.1)))))) = some true := H
   have A6 := Z4.k A60
   clear A60
   replace H := Option.bind_eq_some_iff.mp H
   obtain ⟨⟨t104, t105, t106, t107⟩, A70, H⟩ := H
   replace H : ((impl_DeterminantOf.f k t104 t105 t106 t107).bind fun bt111 => ((impl_InverseMatrix.f k t104 t105 t106 t107).bind fun bt113 => ((impl_UnitMatrix.f k t102 t103).bind fun bt121 => (if bt111.2 = 0 then (if bt121.2.2.2.2 = 0 then (laws_FnInverse.j0 k t102 bt111.1 bt113.2.2.2.2 ((bt113.2.2.2.2 == 0) != (bt111.1 != 0)) t104 t105 t106 t107 bt113.1 bt113.2.1 bt113.2.2.1 bt113.2.2.2.1 bt121.1 bt121.2.1 bt121.2.2.1 bt121.2.2.2.1) else (laws_FnInverse.j0 k t102 bt111.1 bt113.2.2.2.2 true t104 t105 t106 t107 bt113.1 bt113.2.1 bt113.2.2.1 bt113.2.2.2.1 bt121.1 bt121.2.1 bt121.2.2.1 bt121.2.2.2.1)) else (laws_FnInverse.j0 k t102 bt111.1 bt113.2.2.2.2 true t104 t105 t106 t107 bt113.1 bt113.2.1 bt113.2.2.1 bt113.2.2.2.1 bt121.1 bt121.2.1 bt121.2.2.1 bt121.2.2.2.1))))) = some true := H
   have A7 := Z4.k A70
   clear A70
   replace H := Option.bind_eq_some_iff.mp H
   obtain ⟨⟨t111, t112⟩, A80, H⟩ := H
   replace H : ((impl_InverseMatrix.f k t104 t105 t106 t107).bind fun bt113 => ((impl_UnitMatrix.f k t102 t103).bind fun bt121 => (if t112 = 0 then (if bt121.2.2.2.2 = 0 then (laws_FnInverse.j0 k t102 t111 bt113.2.2.2.2 ((bt113.2.2.2.2 == 0) != (t111 != 0)) t104 t105 t106 t107 bt113.1 bt113.2.1 bt113.2.2.1 bt113.2.2.2.1 bt121.1 bt121.2.1 bt121.2.2.1 bt121.2.2.2.1) else (laws_FnInverse.j0 k t102 t111 bt113.2.2.2.2 true t104 t105 t106 t107 bt113.1 bt113.2.1 bt113.2.2.1 bt113.2.2.2.1 bt121.1 bt121.2.1 bt121.2.2.1 bt121.2.2.2.1)) else (laws_FnInverse.j0 k t102 t111 bt113.2.2.2.2 true t104 t105 t106 t107 bt113.1 bt113.2.1 bt113.2.2.1 bt113.2.2.2.1 bt121.1 bt121.2.1 bt121.2.2.1 bt121.2.2.2.1)))) = some true := H
   have A8 := Z4.k A80
   clear A80
   replace H := Option.bind_eq_some_iff.mp H
   obtain ⟨⟨t113, t114, t115, t116, t119⟩, A90, H⟩ := H
   replace H : ((impl_UnitMatrix.f k t102 t103).bind fun bt121 => (if t112 = 0 then (if bt121.2.2.2.2 = 0 then (laws_FnInverse.j0 k t102 t111 t119 ((t119 == 0) != (t111 != 0)) t104 t105 t106 t107 t113 t114 t115 t116 bt121.1 bt121.2.1 bt121.2.2.1 bt121.2.2.2.1) else (laws_FnInverse.j0 k t102 t111 t119 true t104 t105 t106 t107 t113 t114 t115 t116 bt121.1 bt121.2.1 bt121.2.2.1 bt121.2.2.2.1)) else (laws_FnInverse.j0 k t102 t111 t119 true t104 t105 t106 t107 t113 t114 t115 t116 bt121.1 bt121.2.1 bt121.2.2.1 bt121.2.2.2.1))) = some true := H
   have A9 := Z4.k A90
   clear A90
   replace H := Option.bind_eq_some_iff.mp H
   obtain ⟨⟨t121, t122, t123, t124, t127⟩, A100, H⟩ := H
   replace H : (if t112 = 0 then (if t127 = 0 then (laws_FnInverse.j0 k t102 t111 t119 ((t119 == 0) != (t111 != 0)) t104 t105 t106 t107 t113 t114 t115 t116 t121 t122 t123 t124) else (laws_FnInverse.j0 k t102 t111 t119 true t104 t105 t106 t107 t113 t114 t115 t116 t121 t122 t123 t124)) else (laws_FnInverse.j0 k t102 t111 t119 true t104 t105 t106 t107 t113 t114 t115 t116 t121 t122 t123 t124)) = some true := H
   have A10 := Z4.k A100
   clear A100
   have HC11 := Z4.k H
   clear H
   go_enter Try.func4, Try.ntmps4
   go_upto_region 9 with (first | ((with_reducible refine gate_callee (f := 10) rfl ?_); refine goesL_ (some 22) rfl rfl Try.func10 (by kernel_rfl) rfl #[.slice A0 l0.length c0, .slice A1 l1.length c1] rfl Z4.z2 ?_; (with_reducible refine (laws_r8Long.calls _ _ l0 _ _ l1 false _ ?side1 ?side2 ?side3 ?side4 A3.out).mono ?_); (case side1 => exact Z4.z26); (case side2 => exact HC0.out); (case side3 => exact Z4.z30); (case side4 => exact HC1.out); rintro e w' ⟨rfl, ⟨nd, rfl⟩⟩; refine ⟨_, rfl, ?_⟩) | ((with_reducible refine gate_callee (f := 11) rfl ?_); refine goesL_ (some 24) rfl rfl Try.func11 (by kernel_rfl) rfl #[.slice A0 l0.length c0] rfl Z4.z2 ?_; (with_reducible refine (spec_R8Prime.calls _ _ l0 t102 _ ?side1 ?side2 A5.out).mono ?_); (case side1 => exact Z4.z26); (case side2 => exact HC0.out); rintro e w12 ⟨rfl, hb⟩; refine ⟨_, rfl, ?_⟩; have n0_ := Z4.k (below_step Z4.z9 hb); clear HB; have HB := n0_; clear n0_; (try clear hb); (try clear hb2); (try clear hk); (try clear hi)) | ((with_reducible refine gate_callee (f := 13) rfl ?_); refine goesL_ (some 26) rfl rfl Try.func13 (by kernel_rfl) rfl #[.slice A1 l1.length c1, .int .i64 0, .int .i64 6] rfl Z4.z2 ?_; (with_reducible refine (laws_r8At.calls _ _ l1 0 6 t103 _ ?side1 ?side2 A6.out).mono ?_); (case side1 => exact (by repeat (first | exact (Kd.C_below HR1.out HB.out) | (with_reducible refine Kd.C_alloc ?_ _) | (with_reducible refine Kd.C_drewN ?_ _) | (with_reducible refine Kd.C_drew ?_)))); (case side2 => exact HC1.out); rintro e w' ⟨rfl, ⟨nd, rfl⟩⟩; refine ⟨_, rfl, ?_⟩; (try (rw [drewN_self w12]; generalize hq_ : World.drewN w12 _ = w12; have n0_ : Aside0 (Below w.heap.size w w12) := ⟨(by rw [← hq_]; exact Z4.z9)⟩; clear HB hq_; have HB := n0_; clear n0_))) | ((with_reducible refine gate_callee (f := 12) rfl ?_); refine goesL_ (some 31) rfl rfl Try.func12 (by kernel_rfl) rfl #[.slice A0 l0.length c0, .int .i64 t102, .int .i64 t103, .int .i64 t103] rfl Z4.z2 ?_; (with_reducible refine (spec_R8Matrix.calls k _ _ l0 t102 t103 t103 t104 t105 t106 t107 _ ?side1 ?side2 A7.out).mono ?_); (case side1 => exact (by repeat (first | exact (Kd.C_below HR0.out HB.out) | (with_reducible refine Kd.C_alloc ?_ _) | (with_reducible refine Kd.C_drewN ?_ _) | (with_reducible refine Kd.C_drew ?_)))); (case side2 => exact HC0.out); rintro e w13 ⟨v108, rfl, ho0, hb⟩; refine ⟨_, rfl, ?_⟩; have n0_ := Z4.k (Kd.R_lower ho0 (below_size Z4.z9)); have n1_ := Z4.k (below_step Z4.z9 hb); clear HB; have HO109 := n0_; have HB := n1_; clear n0_ n1_; (try clear hb); (try clear hb2); (try clear hk); (try clear hi); (try clear ho0)) | ((with_reducible refine gate_dst (N := 7) rfl ?_); refine box_event ?hg (N := 7) ?hd (cs := #[.int .i64 0, .int .i64 0, .int .i64 0, .slice none 0 0]) (t := 27) ?hr ?_; (case hd => rfl); (case hg => rfl); (case hr => first | (go_simp; done) | (go_simp; rfl)); intro gb110 hg w14 hbox hb; have n0_ := Z4.k (Kd.R_below Z4.z25 hb); have n1_ := Z4.k (below_step Z4.z9 hb); have n2_ := Z4.k (hbox); have n3_ := Z4.k (show w.heap.size ≤ gb110 from (by rw [hg]; exact (below_size Z4.z9))); have n4_ := Z4.k (show w.heap.size ≤ gb110 from (by rw [hg]; exact (below_size Z4.z9))); clear HO109 HB; have HO109 := n0_; have HB := n1_; have BK110 := n2_; have GW110 := n3_; have GE110 := n4_; clear n0_ n1_ n2_ n3_ n4_; clear hb hbox hg; have hcz15_0 : w14.cell? ⟨gb110, 0, none⟩ = some (.int .i64 0) := (blk_cell BK110.out 0).trans rfl; have hcz15_1 : w14.cell? ⟨gb110, 1, none⟩ = some (.int .i64 0) := (blk_cell BK110.out 1).trans rfl; have hcz15_2 : w14.cell? ⟨gb110, 2, none⟩ = some (.int .i64 0) := (blk_cell BK110.out 2).trans rfl; have hcz15_3 : w14.cell? ⟨gb110, 3, none⟩ = some (.slice none 0 0) := (blk_cell BK110.out 3).trans rfl; have hfz15_0 := blk_frozen BK110.out 0; have hfz15_1 := blk_frozen BK110.out 1; have hfz15_2 := blk_frozen BK110.out 2; have hfz15_3 := blk_frozen BK110.out 3; obtain ⟨Ao16, co16, eo16⟩ := Kd.R_slice HO109.out; subst eo16) | ((with_reducible refine gate_callee (f := 21) rfl ?_); refine goesL_ (some 34) rfl rfl Try.func21 (by kernel_rfl) rfl #[.agg #[.int .i64 t104, .int .i64 t105, .int .i64 t106, .slice Ao16 t107.length co16]] rfl Z4.z2 ?_; (with_reducible refine (impl_DeterminantOf.calls k t104 t105 t106 _ _ t107 t111 t112 _ ?side1 ?side2 A8.out).mono ?_); (case side1 => exact (by refine (Kd.R_reads' (e := 2) (base := w.heap.size) (ok := fun k_ => True) (n := t107.length) (c := co16) ?_).2.2; exact Z4.z23)); (case side2 => exact (Kd.R_reads' HO109.out).2.1); rintro e w17 ⟨rfl, hb⟩; refine ⟨_, rfl, ?_⟩; have n0_ := Z4.k (Kd.R_below Z4.z23 hb); have n1_ := Z4.k (blk_below (g := gb110) (o := .cells #[.int .i64 t104, .int .i64 t105, .int .i64 t106, .slice Ao16 t107.length co16] 27 (0, 0)) (by (with_reducible repeat (first | refine blk_drewN ?_ _ | refine blk_drew ?_ | refine blk_alloc ?_ _)); refine blk_put (cs := #[.int .i64 t104, .int .i64 t105, .int .i64 t106, .slice none 0 0]) ?_ 3 _ rfl; (with_reducible repeat (first | refine blk_drewN ?_ _ | refine blk_drew ?_ | refine blk_alloc ?_ _)); refine blk_put (cs := #[.int .i64 t104, .int .i64 t105, .int .i64 0, .slice none 0 0]) ?_ 2 _ rfl; (with_reducible repeat (first | refine blk_drewN ?_ _ | refine blk_drew ?_ | refine blk_alloc ?_ _)); refine blk_put (cs := #[.int .i64 t104, .int .i64 0, .int .i64 0, .slice none 0 0]) ?_ 1 _ rfl; (with_reducible repeat (first | refine blk_drewN ?_ _ | refine blk_drew ?_ | refine blk_alloc ?_ _)); refine blk_put (cs := #[.int .i64 0, .int .i64 0, .int .i64 0, .slice none 0 0]) ?_ 0 _ rfl; (with_reducible repeat (first | refine blk_drewN ?_ _ | refine blk_drew ?_ | refine blk_alloc ?_ _)); exact BK110.out) hb); have n2_ := Z4.k (below_step Z4.z12 hb); clear HO109 BK110 HB; have HO109 := n0_; have BK110 := n1_; have HB := n2_; clear n0_ n1_ n2_; (try clear hb); (try clear hb2); (try clear hk); (try clear hi); have hcz18_0 : w17.cell? ⟨gb110, 0, none⟩ = some (.int .i64 t104) := (blk_cell BK110.out 0).trans rfl; have hcz18_1 : w17.cell? ⟨gb110, 1, none⟩ = some (.int .i64 t105) := (blk_cell BK110.out 1).trans rfl; have hcz18_2 : w17.cell? ⟨gb110, 2, none⟩ = some (.int .i64 t106) := (blk_cell BK110.out 2).trans rfl; have hcz18_3 : w17.cell? ⟨gb110, 3, none⟩ = some (.slice Ao16 t107.length co16) := (blk_cell BK110.out 3).trans rfl; have hfz18_0 := blk_frozen BK110.out 0; have hfz18_1 := blk_frozen BK110.out 1; have hfz18_2 := blk_frozen BK110.out 2; have hfz18_3 := blk_frozen BK110.out 3) | ((with_reducible refine gate_callee (f := 22) rfl ?_); refine goesL_ (some 39) rfl rfl Try.func22 (by kernel_rfl) rfl #[.agg #[.int .i64 t104, .int .i64 t105, .int .i64 t106, .slice Ao16 t107.length co16]] rfl Z4.z2 ?_; (with_reducible refine (impl_InverseMatrix.calls k t104 t105 t106 _ _ t107 t113 t114 t115 t116 t119 _ ?side1 ?side2 A9.out).mono ?_); (case side1 => exact (by repeat (first | exact (Kd.R_reads' HO109.out).2.2 | (with_reducible refine Kd.C_alloc ?_ _) | (with_reducible refine Kd.C_drewN ?_ _) | (with_reducible refine Kd.C_drew ?_)))); (case side2 => exact (Kd.R_reads' HO109.out).2.1); rintro e w19 ⟨v117, rfl, ho0, hb⟩; refine ⟨_, rfl, ?_⟩; have n0_ := Z4.k (Kd.R_elder' Z4.z25 (Kd.R_base ho0) hb); have n1_ := Z4.k (Kd.R_lower (Kd.R_new' ho0 (Kd.R_lt Z4.z25)) (below_size Z4.z12)); have n2_ := Z4.k (Z4.bb BK110 Z4.z1 hb); have n3_ := Z4.k (below_step Z4.z12 hb); clear HO109 BK110 HB; have HO109 := n0_; have HO118 := n1_; have BK110 := n2_; have HB := n3_; clear n0_ n1_ n2_ n3_; (try clear hb); (try clear hb2); (try clear hk); (try clear hi); (try clear ho0)) | ((with_reducible refine gate_dst (N := 10) rfl ?_); refine box_event ?hg (N := 10) ?hd (cs := #[.int .i64 0, .int .i64 0, .int .i64 0, .slice none 0 0]) (t := 27) ?hr ?_; (case hd => rfl); (case hg => rfl); (case hr => first | (go_simp; done) | (go_simp; rfl)); intro gb120 hg w20 hbox hb; have n0_ := Z4.k (Kd.R_below Z4.z25 hb); have n1_ := Z4.k (Kd.R_below (by (with_reducible repeat (first | apply Kd.R_alloc | apply Kd.R_drewN | apply Kd.R_drew)); exact HO118.out) hb); have n2_ := Z4.k (Z4.bb BK110 Z4.z1 hb); have n3_ := Z4.k (below_step Z4.z12 hb); have n4_ := Z4.k (hbox); have n5_ := Z4.k (show w.heap.size ≤ gb120 from (by rw [hg]; exact (below_size Z4.z12))); have n6_ := Z4.k (show w.heap.size ≤ gb120 from (by rw [hg]; exact (below_size Z4.z12))); have n7_ := Z4.k (show gb110 ≠ gb120 from (by rw [hg]; exact Nat.ne_of_lt (Z4.bl BK110 Z4.z1))); have n8_ := Z4.k (show gb120 ≠ gb110 from (by rw [hg]; exact Nat.ne_of_gt (Z4.bl BK110 Z4.z1))); clear HO109 HO118 BK110 HB; have HO109 := n0_; have HO118 := n1_; have BK110 := n2_; have HB := n3_; have BK120 := n4_; have GW120 := n5_; have GE120 := n6_; have NB110_120 := n7_; have NB120_110 := n8_; clear n0_ n1_ n2_ n3_ n4_ n5_ n6_ n7_ n8_; clear hb hbox hg; have hnb21 := NB120_110.out; have hnc21 := NB110_120.out; have hcz22_0 : w20.cell? ⟨gb120, 0, none⟩ = some (.int .i64 0) := (blk_cell BK120.out 0).trans rfl; have hcz22_1 : w20.cell? ⟨gb120, 1, none⟩ = some (.int .i64 0) := (blk_cell BK120.out 1).trans rfl; have hcz22_2 : w20.cell? ⟨gb120, 2, none⟩ = some (.int .i64 0) := (blk_cell BK120.out 2).trans rfl; have hcz22_3 : w20.cell? ⟨gb120, 3, none⟩ = some (.slice none 0 0) := (blk_cell BK120.out 3).trans rfl; have hfz22_0 := blk_frozen BK120.out 0; have hfz22_1 := blk_frozen BK120.out 1; have hfz22_2 := blk_frozen BK120.out 2; have hfz22_3 := blk_frozen BK120.out 3; obtain ⟨Ao23, co23, eo23⟩ := Kd.R_slice HO118.out; subst eo23) | ((with_reducible refine gate_callee (f := 23) rfl ?_); refine goesL_ (some 45) rfl rfl Try.func23 (by kernel_rfl) rfl #[.int .i64 t102, .int .i64 t103] rfl Z4.z2 ?_; (with_reducible refine (impl_UnitMatrix.calls k t102 t103 t121 t122 t123 t124 t127 _ A10.out).mono ?_); rintro e w24 ⟨v125, rfl, ho0, hb⟩; refine ⟨_, rfl, ?_⟩; have n0_ := Z4.k (Kd.R_elder' Z4.z22 (Kd.R_base ho0) hb); have n1_ := Z4.k (Kd.R_elder' Z4.z21 (Kd.R_base ho0) hb); have n2_ := Z4.k (Kd.R_lower (Kd.R_new' (Kd.R_new' ho0 (Kd.R_lt Z4.z22)) (Kd.R_lt Z4.z21)) (below_size Z4.z13)); have n3_ := Z4.k (Z4.bb BK110 (by (repeat (first | (with_reducible first | refine blk_drewN ?_ _ | refine blk_drew ?_ | refine blk_alloc ?_ _) | refine blk_far ?_ NB110_120.out _)); exact BK110.out) hb); have n4_ := Z4.k (blk_below (g := gb120) (o := .cells #[.int .i64 t113, .int .i64 t114, .int .i64 t115, .slice Ao23 t116.length co23] 27 (0, 0)) (by (with_reducible repeat (first | refine blk_drewN ?_ _ | refine blk_drew ?_ | refine blk_alloc ?_ _)); refine blk_put (cs := #[.int .i64 t113, .int .i64 t114, .int .i64 t115, .slice none 0 0]) ?_ 3 _ rfl; (with_reducible repeat (first | refine blk_drewN ?_ _ | refine blk_drew ?_ | refine blk_alloc ?_ _)); refine blk_put (cs := #[.int .i64 t113, .int .i64 t114, .int .i64 0, .slice none 0 0]) ?_ 2 _ rfl; (with_reducible repeat (first | refine blk_drewN ?_ _ | refine blk_drew ?_ | refine blk_alloc ?_ _)); refine blk_put (cs := #[.int .i64 t113, .int .i64 0, .int .i64 0, .slice none 0 0]) ?_ 1 _ rfl; (with_reducible repeat (first | refine blk_drewN ?_ _ | refine blk_drew ?_ | refine blk_alloc ?_ _)); refine blk_put (cs := #[.int .i64 0, .int .i64 0, .int .i64 0, .slice none 0 0]) ?_ 0 _ rfl; (with_reducible repeat (first | refine blk_drewN ?_ _ | refine blk_drew ?_ | refine blk_alloc ?_ _)); exact BK120.out) hb); have n5_ := Z4.k (below_step Z4.z13 hb); clear HO109 HO118 BK110 BK120 HB; have HO109 := n0_; have HO118 := n1_; have HO126 := n2_; have BK110 := n3_; have BK120 := n4_; have HB := n5_; clear n0_ n1_ n2_ n3_ n4_ n5_; (try clear hb); (try clear hb2); (try clear hk); (try clear hi); (try clear ho0)) | ((with_reducible refine gate_dst (N := 12) rfl ?_); refine box_event ?hg (N := 12) ?hd (cs := #[.int .i64 0, .int .i64 0, .int .i64 0, .slice none 0 0]) (t := 27) ?hr ?_; (case hd => rfl); (case hg => rfl); (case hr => first | (go_simp; done) | (go_simp; rfl)); intro gb128 hg w25 hbox hb; have n0_ := Z4.k (Kd.R_below Z4.z25 hb); have n1_ := Z4.k (Kd.R_below (by (with_reducible repeat (first | apply Kd.R_alloc | apply Kd.R_drewN | apply Kd.R_drew)); exact HO118.out) hb); have n2_ := Z4.k (Kd.R_below (by (with_reducible repeat (first | apply Kd.R_alloc | apply Kd.R_drewN | apply Kd.R_drew)); exact HO126.out) hb); have n3_ := Z4.k (Z4.bb BK110 Z4.z1 hb); have n4_ := Z4.k (Z4.bb BK120 Z4.z4 hb); have n5_ := Z4.k (below_step Z4.z13 hb); have n6_ := Z4.k (hbox); have n7_ := Z4.k (show w.heap.size ≤ gb128 from (by rw [hg]; exact (below_size Z4.z13))); have n8_ := Z4.k (show w.heap.size ≤ gb128 from (by rw [hg]; exact (below_size Z4.z13))); have n9_ := Z4.k (show gb110 ≠ gb128 from (by rw [hg]; exact Nat.ne_of_lt (Z4.bl BK110 Z4.z1))); have n10_ := Z4.k (show gb128 ≠ gb110 from (by rw [hg]; exact Nat.ne_of_gt (Z4.bl BK110 Z4.z1))); have n11_ := Z4.k (show gb120 ≠ gb128 from (by rw [hg]; exact Nat.ne_of_lt (Z4.bl BK120 Z4.z4))); have n12_ := Z4.k (show gb128 ≠ gb120 from (by rw [hg]; exact Nat.ne_of_gt (Z4.bl BK120 Z4.z4))); clear HO109 HO118 HO126 BK110 BK120 HB; have HO109 := n0_; have HO118 := n1_; have HO126 := n2_; have BK110 := n3_; have BK120 := n4_; have HB := n5_; have BK128 := n6_; have GW128 := n7_; have GE128 := n8_; have NB110_128 := n9_; have NB128_110 := n10_; have NB120_128 := n11_; have NB128_120 := n12_; clear n0_ n1_ n2_ n3_ n4_ n5_ n6_ n7_ n8_ n9_ n10_ n11_ n12_; clear hb hbox hg; have hnb26 := NB128_110.out; have hnc26 := NB110_128.out; have hnb27 := NB128_120.out; have hnc27 := NB120_128.out; have hcz28_0 : w25.cell? ⟨gb128, 0, none⟩ = some (.int .i64 0) := (blk_cell BK128.out 0).trans rfl; have hcz28_1 : w25.cell? ⟨gb128, 1, none⟩ = some (.int .i64 0) := (blk_cell BK128.out 1).trans rfl; have hcz28_2 : w25.cell? ⟨gb128, 2, none⟩ = some (.int .i64 0) := (blk_cell BK128.out 2).trans rfl; have hcz28_3 : w25.cell? ⟨gb128, 3, none⟩ = some (.slice none 0 0) := (blk_cell BK128.out 3).trans rfl; have hfz28_0 := blk_frozen BK128.out 0; have hfz28_1 := blk_frozen BK128.out 1; have hfz28_2 := blk_frozen BK128.out 2; have hfz28_3 := blk_frozen BK128.out 3; obtain ⟨Ao29, co29, eo29⟩ := Kd.R_slice HO126.out; subst eo29))
   (try simp only [Act.put, List.setIfInBounds_toArray, List.set_cons_zero, List.set_cons_succ])
   go_cut [60] (fun v60 wc => ∃ (kq : Nat) (x60_10 : Bool), v60 = .bool x60_10 ∧ Aside0 (laws_FnInverse.j0 kq t102 t111 t119 x60_10 t104 t105 t106 t107 t113 t114 t115 t116 t121 t122 t123 t124 = some true) ∧ Aside0 (kq ≤ k) ∧ Aside0 (Kd.R (Kd.int .i64) 2 wc w.heap.size (fun k_ => some k_ ≠ ((.slice Ao23 t116.length co23) : Value).ownBlock ∧ some k_ ≠ ((.slice Ao29 t124.length co29) : Value).ownBlock) (.slice Ao16 t107.length co16) t107) ∧ Aside0 (Kd.R (Kd.int .i64) 2 wc w.heap.size (fun k_ => some k_ ≠ ((.slice Ao16 t107.length co16) : Value).ownBlock ∧ some k_ ≠ ((.slice Ao29 t124.length co29) : Value).ownBlock) (.slice Ao23 t116.length co23) t116) ∧ Aside0 (Kd.R (Kd.int .i64) 2 wc w.heap.size (fun k_ => some k_ ≠ ((.slice Ao16 t107.length co16) : Value).ownBlock ∧ some k_ ≠ ((.slice Ao23 t116.length co23) : Value).ownBlock) (.slice Ao29 t124.length co29) t124) ∧ Aside0 (wc.heap[gb110]? = some (.cells #[.int .i64 t104, .int .i64 t105, .int .i64 t106, (.slice Ao16 t107.length co16)] 27 (0, 0))) ∧ Aside0 (wc.heap[gb120]? = some (.cells #[.int .i64 t113, .int .i64 t114, .int .i64 t115, (.slice Ao23 t116.length co23)] 27 (0, 0))) ∧ Aside0 (wc.heap[gb128]? = some (.cells #[.int .i64 t121, .int .i64 t122, .int .i64 t123, (.slice Ao29 t124.length co29)] 27 (0, 0))) ∧ Aside0 (Below w.heap.size w wc))
   case first =>
    have H := HC11.out
    clear HC11
    by_cases c30 : t112 = 0
    ·rw [if_pos c30] at H
     have c30b0 : (t112 == 0) = true := beq_iff_eq.mpr c30
     have c30b1 : (t112 != 0) = false := bne_eq_false_iff_eq.mpr c30
     clear c30
     (first | rw [c30b0] | (simp only [i64_w, i32_w]; rw [c30b0]) | skip)
     by_cases c31 : t127 = 0
     ·rw [if_pos c31] at H
      have c31b0 : (t127 == 0) = true := beq_iff_eq.mpr c31
      have c31b1 : (t127 != 0) = false := bne_eq_false_iff_eq.mpr c31
      clear c31
      have H' := Z4.k H
      clear H
      go_wp2
      go_meet
      case rel => exact ⟨_, (((t119 == 0) != (t111 != 0))), (by first | rfl | (simp; done) | (simp [*]; done)), H', ⟨(by first | omega | exact Nat.le_refl _)⟩, ⟨(by (with_reducible repeat (first | apply Kd.R_alloc | apply Kd.R_drewN | apply Kd.R_drew)); exact Kd.R_mono (Kd.R_far (p := ⟨gb128, 3, none⟩) (Kd.R_far (p := ⟨gb128, 2, none⟩) (Kd.R_far (p := ⟨gb128, 1, none⟩) (Kd.R_far (p := ⟨gb128, 0, none⟩) (Kd.R_types HO109.out BK128.out (by decide)) (fun _ hk => hk.2) (.int .i64 t121)) (fun _ hk => hk.2) (.int .i64 t122)) (fun _ hk => hk.2) (.int .i64 t123)) (fun _ hk => hk.2) (.slice Ao29 t124.length co29)) (fun _ hk => ⟨hk.1.1.2, hk.1.2⟩))⟩, ⟨(by (with_reducible repeat (first | apply Kd.R_alloc | apply Kd.R_drewN | apply Kd.R_drew)); exact Kd.R_mono (Kd.R_far (p := ⟨gb128, 3, none⟩) (Kd.R_far (p := ⟨gb128, 2, none⟩) (Kd.R_far (p := ⟨gb128, 1, none⟩) (Kd.R_far (p := ⟨gb128, 0, none⟩) (Kd.R_types HO118.out BK128.out (by decide)) (fun _ hk => hk.2) (.int .i64 t121)) (fun _ hk => hk.2) (.int .i64 t122)) (fun _ hk => hk.2) (.int .i64 t123)) (fun _ hk => hk.2) (.slice Ao29 t124.length co29)) (fun _ hk => ⟨hk.1.1.2, hk.1.2⟩))⟩, ⟨(by (with_reducible repeat (first | apply Kd.R_alloc | apply Kd.R_drewN | apply Kd.R_drew)); exact Kd.R_mono (Kd.R_far (p := ⟨gb128, 3, none⟩) (Kd.R_far (p := ⟨gb128, 2, none⟩) (Kd.R_far (p := ⟨gb128, 1, none⟩) (Kd.R_far (p := ⟨gb128, 0, none⟩) (Kd.R_types HO126.out BK128.out (by decide)) (fun _ hk => hk.2) (.int .i64 t121)) (fun _ hk => hk.2) (.int .i64 t122)) (fun _ hk => hk.2) (.int .i64 t123)) (fun _ hk => hk.2) (.slice Ao29 t124.length co29)) (fun _ hk => ⟨hk.1.1.2, hk.1.2⟩))⟩, ⟨(by (repeat (first | (with_reducible first | refine blk_drewN ?_ _ | refine blk_drew ?_ | refine blk_alloc ?_ _) | refine blk_far ?_ NB110_128.out _)); exact BK110.out)⟩, ⟨(by (repeat (first | (with_reducible first | refine blk_drewN ?_ _ | refine blk_drew ?_ | refine blk_alloc ?_ _) | refine blk_far ?_ NB120_128.out _)); exact BK120.out)⟩, ⟨(by (with_reducible repeat (first | refine blk_drewN ?_ _ | refine blk_drew ?_ | refine blk_alloc ?_ _)); refine blk_put (cs := #[.int .i64 t121, .int .i64 t122, .int .i64 t123, .slice none 0 0]) ?_ 3 _ rfl; (with_reducible repeat (first | refine blk_drewN ?_ _ | refine blk_drew ?_ | refine blk_alloc ?_ _)); refine blk_put (cs := #[.int .i64 t121, .int .i64 t122, .int .i64 0, .slice none 0 0]) ?_ 2 _ rfl; (with_reducible repeat (first | refine blk_drewN ?_ _ | refine blk_drew ?_ | refine blk_alloc ?_ _)); refine blk_put (cs := #[.int .i64 t121, .int .i64 0, .int .i64 0, .slice none 0 0]) ?_ 1 _ rfl; (with_reducible repeat (first | refine blk_drewN ?_ _ | refine blk_drew ?_ | refine blk_alloc ?_ _)); refine blk_put (cs := #[.int .i64 0, .int .i64 0, .int .i64 0, .slice none 0 0]) ?_ 0 _ rfl; (with_reducible repeat (first | refine blk_drewN ?_ _ | refine blk_drew ?_ | refine blk_alloc ?_ _)); exact BK128.out)⟩, ⟨Z4.z3⟩⟩
     rw [if_neg c31] at H
     have c31b0 : (t127 == 0) = false := beq_eq_false_iff_ne.mpr c31
     have c31b1 : (t127 != 0) = true := bne_iff_ne.mpr c31
     exact absurd H (by unfold laws_FnInverse.j0; split <;> simp)
    rw [if_neg c30] at H
    have c30b0 : (t112 == 0) = false := beq_eq_false_iff_ne.mpr c30
    have c30b1 : (t112 != 0) = true := bne_iff_ne.mpr c30
    (first | rw [c30b0] | (simp only [i64_w, i32_w]; rw [c30b0]) | skip)
    exact absurd H (by unfold laws_FnInverse.j0; split <;> simp)
   case rest =>
    clear HC11
    try clear c1
    try clear c2
    try clear p2
    try clear c3
    try clear c4
    try clear c10
    try clear c11
    try clear c12
    try clear c13
    try clear c21
    try clear c22
    try clear c23
    try clear c26
    try clear c27
    try clear c30
    try clear c30b0
    try clear c30b1
    try clear c31
    try clear c31b0
    try clear c31b1
    try clear hcz15_0
    try clear hcz15_1
    try clear hcz15_2
    try clear hcz15_3
    try clear hcz18_0
    try clear hcz18_1
    try clear hcz18_2
    try clear hcz18_3
    try clear hcz22_0
    try clear hcz22_1
    try clear hcz22_2
    try clear hcz22_3
    try clear hcz28_0
    try clear hcz28_1
    try clear hcz28_2
    try clear hcz28_3
    try clear hfz15_0
    try clear hfz15_1
    try clear hfz15_2
    try clear hfz15_3
    try clear hfz18_0
    try clear hfz18_1
    try clear hfz18_2
    try clear hfz18_3
    try clear hfz22_0
    try clear hfz22_1
    try clear hfz22_2
    try clear hfz22_3
    try clear hfz28_0
    try clear hfz28_1
    try clear hfz28_2
    try clear hfz28_3
    obtain ⟨kq, x60_10, rfl, HA, HJ10, HO_111003, HO_121003, HO_129003, BK110, BK120, BK128, HB⟩ := hcut
    cases kq with
    | zero => exact absurd HA.out (by simp [laws_FnInverse.j0])
    | succ kj10 =>
     have H := HA.out
     clear HA
     simp only [laws_FnInverse.j0] at H
     by_cases c32 : x60_10 = true
     ·subst c32
      have H1 : (some false) = some true := by rw [if_pos rfl] at H; exact H
      exact absurd H1 (by simp)
     ·as_aux_lemma =>
       replace c32 := Bool.eq_false_iff.mpr c32
       subst c32
       have H1 : (if t119 = 0 then ((impl_Multiply.f kj10 t104 t105 t106 t107 t113 t114 t115 t116).bind fun bt129 => ((impl_Multiply.f kj10 t113 t114 t115 t116 t104 t105 t106 t107).bind fun bt137 => ((impl_DeterminantOf.f kj10 t113 t114 t115 t116).bind fun bt145 => (if bt129.2.2.2.2 = 0 then (if bt137.2.2.2.2 = 0 then ((spec_SameMatrix.f kj10 bt129.1 bt129.2.1 bt129.2.2.1 bt129.2.2.2.1 t121 t122 t123 t124).bind fun t147 => (if t147 = true then ((spec_SameMatrix.f kj10 bt137.1 bt137.2.1 bt137.2.2.1 bt137.2.2.2.1 t121 t122 t123 t124).bind fun t148 => (if t148 = true then (if bt145.2 = 0 then (if bt145.1 ≥ 0 then (if bt145.1 < t102 then (if t111 > 0 then (if t111 < t102 then (if t102 = 0 then (none) else (some ((Int.tmod (wrap64 (bt145.1 * t111)) t102) == ((1 : Int) % t102)))) else (some false)) else (some false)) else (some false)) else (some false)) else (some false)) else (some false))) else (some false))) else (some false)) else (some false))))) else (some (t119 == 3))) = some true := by rw [if_neg (show ¬ (false = true) by decide)] at H; exact H
       clear H
       have H := H1
       clear H1
       by_cases c33 : t119 = 0
       ·as_aux_lemma =>
         rw [if_pos c33] at H
         have c33b0 : (t119 == 0) = true := beq_iff_eq.mpr c33
         have c33b1 : (t119 != 0) = false := bne_eq_false_iff_eq.mpr c33
         clear c33
         replace H := Option.bind_eq_some_iff.mp H
         obtain ⟨⟨t129, t130, t131, t132, t135⟩, A340, H⟩ := H
         replace H : ((impl_Multiply.f kj10 t113 t114 t115 t116 t104 t105 t106 t107).bind fun bt137 => ((impl_DeterminantOf.f kj10 t113 t114 t115 t116).bind fun bt145 => (if t135 = 0 then (if bt137.2.2.2.2 = 0 then ((spec_SameMatrix.f kj10 t129 t130 t131 t132 t121 t122 t123 t124).bind fun t147 => (if t147 = true then ((spec_SameMatrix.f kj10 bt137.1 bt137.2.1 bt137.2.2.1 bt137.2.2.2.1 t121 t122 t123 t124).bind fun t148 => (if t148 = true then (if bt145.2 = 0 then (if bt145.1 ≥ 0 then (if bt145.1 < t102 then (if t111 > 0 then (if t111 < t102 then (if t102 = 0 then (none) else (some ((Int.tmod (wrap64 (bt145.1 * t111)) t102) == ((1 : Int) % t102)))) else (some false)) else (some false)) else (some false)) else (some false)) else (some false)) else (some false))) else (some false))) else (some false)) else (some false)))) = some true := H
         have A34 := Z4.k A340
         clear A340
         replace H := Option.bind_eq_some_iff.mp H
         obtain ⟨⟨t137, t138, t139, t140, t143⟩, A350, H⟩ := H
         replace H : ((impl_DeterminantOf.f kj10 t113 t114 t115 t116).bind fun bt145 => (if t135 = 0 then (if t143 = 0 then ((spec_SameMatrix.f kj10 t129 t130 t131 t132 t121 t122 t123 t124).bind fun t147 => (if t147 = true then ((spec_SameMatrix.f kj10 t137 t138 t139 t140 t121 t122 t123 t124).bind fun t148 => (if t148 = true then (if bt145.2 = 0 then (if bt145.1 ≥ 0 then (if bt145.1 < t102 then (if t111 > 0 then (if t111 < t102 then (if t102 = 0 then (none) else (some ((Int.tmod (wrap64 (bt145.1 * t111)) t102) == ((1 : Int) % t102)))) else (some false)) else (some false)) else (some false)) else (some false)) else (some false)) else (some false))) else (some false))) else (some false)) else (some false))) = some true := H
         have A35 := Z4.k A350
         clear A350
         replace H := Option.bind_eq_some_iff.mp H
         obtain ⟨⟨t145, t146⟩, A360, H⟩ := H
         replace H : (if t135 = 0 then (if t143 = 0 then ((spec_SameMatrix.f kj10 t129 t130 t131 t132 t121 t122 t123 t124).bind fun t147 => (if t147 = true then ((spec_SameMatrix.f kj10 t137 t138 t139 t140 t121 t122 t123 t124).bind fun t148 => (if t148 = true then (if t146 = 0 then (if t145 ≥ 0 then (if t145 < t102 then (if t111 > 0 then (if t111 < t102 then (if t102 = 0 then (none) else (some ((Int.tmod (wrap64 (t145 * t111)) t102) == ((1 : Int) % t102)))) else (some false)) else (some false)) else (some false)) else (some false)) else (some false)) else (some false))) else (some false))) else (some false)) else (some false)) = some true := H
         have A36 := Z4.k A360
         clear A360
         by_cases c37 : t135 = 0
         ·as_aux_lemma =>
           rw [if_pos c37] at H
           have c37b0 : (t135 == 0) = true := beq_iff_eq.mpr c37
           have c37b1 : (t135 != 0) = false := bne_eq_false_iff_eq.mpr c37
           clear c37
           by_cases c38 : t143 = 0
           ·as_aux_lemma =>
             rw [if_pos c38] at H
             have c38b0 : (t143 == 0) = true := beq_iff_eq.mpr c38
             have c38b1 : (t143 != 0) = false := bne_eq_false_iff_eq.mpr c38
             clear c38
             replace H := Option.bind_eq_some_iff.mp H
             obtain ⟨t147, A390, H⟩ := H
             replace H : (if t147 = true then ((spec_SameMatrix.f kj10 t137 t138 t139 t140 t121 t122 t123 t124).bind fun t148 => (if t148 = true then (if t146 = 0 then (if t145 ≥ 0 then (if t145 < t102 then (if t111 > 0 then (if t111 < t102 then (if t102 = 0 then (none) else (some ((Int.tmod (wrap64 (t145 * t111)) t102) == ((1 : Int) % t102)))) else (some false)) else (some false)) else (some false)) else (some false)) else (some false)) else (some false))) else (some false)) = some true := H
             have A39 := Z4.k A390
             clear A390
             by_cases c40 : t147 = true
             ·as_aux_lemma =>
               subst c40
               have H1 : ((spec_SameMatrix.f kj10 t137 t138 t139 t140 t121 t122 t123 t124).bind fun t148 => (if t148 = true then (if t146 = 0 then (if t145 ≥ 0 then (if t145 < t102 then (if t111 > 0 then (if t111 < t102 then (if t102 = 0 then (none) else (some ((Int.tmod (wrap64 (t145 * t111)) t102) == ((1 : Int) % t102)))) else (some false)) else (some false)) else (some false)) else (some false)) else (some false)) else (some false))) = some true := by rw [if_pos rfl] at H; exact H
               clear H
               have H := H1
               clear H1
               replace H := Option.bind_eq_some_iff.mp H
               obtain ⟨t148, A410, H⟩ := H
               replace H : (if t148 = true then (if t146 = 0 then (if t145 ≥ 0 then (if t145 < t102 then (if t111 > 0 then (if t111 < t102 then (if t102 = 0 then (none) else (some ((Int.tmod (wrap64 (t145 * t111)) t102) == ((1 : Int) % t102)))) else (some false)) else (some false)) else (some false)) else (some false)) else (some false)) else (some false)) = some true := H
               have A41 := Z4.k A410
               clear A410
               by_cases c42 : t148 = true
               ·as_aux_lemma =>
                 subst c42
                 have H1 : (if t146 = 0 then (if t145 ≥ 0 then (if t145 < t102 then (if t111 > 0 then (if t111 < t102 then (if t102 = 0 then (none) else (some ((Int.tmod (wrap64 (t145 * t111)) t102) == ((1 : Int) % t102)))) else (some false)) else (some false)) else (some false)) else (some false)) else (some false)) = some true := by rw [if_pos rfl] at H; exact H
                 clear H
                 have H := H1
                 clear H1
                 by_cases c43 : t146 = 0
                 ·as_aux_lemma =>
                   rw [if_pos c43] at H
                   have c43b0 : (t146 == 0) = true := beq_iff_eq.mpr c43
                   have c43b1 : (t146 != 0) = false := bne_eq_false_iff_eq.mpr c43
                   clear c43
                   by_cases c44 : t145 ≥ 0
                   ·as_aux_lemma =>
                     rw [if_pos c44] at H
                     have c44b0 : decide (0 ≤ t145) = true := decide_eq_true c44
                     clear c44
                     by_cases c45 : t145 < t102
                     ·as_aux_lemma =>
                       rw [if_pos c45] at H
                       have c45b0 : decide (t145 < t102) = true := decide_eq_true c45
                       clear c45
                       by_cases c46 : t111 > 0
                       ·as_aux_lemma =>
                         rw [if_pos c46] at H
                         have c46b0 : decide (0 < t111) = true := decide_eq_true c46
                         clear c46
                         by_cases c47 : t111 < t102
                         ·as_aux_lemma =>
                           rw [if_pos c47] at H
                           have c47b0 : decide (t111 < t102) = true := decide_eq_true c47
                           clear c47
                           by_cases c48 : t102 = 0
                           ·rw [if_pos c48] at H
                            exact absurd H (by simp)
                           ·as_aux_lemma =>
                             rw [if_neg c48] at H
                             have c48b0 : (t102 == 0) = false := beq_eq_false_iff_ne.mpr c48
                             have c48b1 : (t102 != 0) = true := bne_iff_ne.mpr c48
                             first | exact absurd H (by decide) | obtain rfl := Option.some.inj H | have hd_ := Option.some.inj H
                             all_goals
                              have hnb49 := NB110_120.out
                              have hnc49 := NB120_110.out
                              have hnb50 := NB110_128.out
                              have hnc50 := NB128_110.out
                              have hcz51_0 : wc.cell? ⟨gb110, 0, none⟩ = some (.int .i64 t104) := (blk_cell BK110.out 0).trans rfl
                              have hcz51_1 : wc.cell? ⟨gb110, 1, none⟩ = some (.int .i64 t105) := (blk_cell BK110.out 1).trans rfl
                              have hcz51_2 : wc.cell? ⟨gb110, 2, none⟩ = some (.int .i64 t106) := (blk_cell BK110.out 2).trans rfl
                              have hcz51_3 : wc.cell? ⟨gb110, 3, none⟩ = some (.slice Ao16 t107.length co16) := (blk_cell BK110.out 3).trans rfl
                              have hfz51_0 := blk_frozen BK110.out 0
                              have hfz51_1 := blk_frozen BK110.out 1
                              have hfz51_2 := blk_frozen BK110.out 2
                              have hfz51_3 := blk_frozen BK110.out 3
                              have hnb52 := NB120_128.out
                              have hnc52 := NB128_120.out
                              have hcz53_0 : wc.cell? ⟨gb120, 0, none⟩ = some (.int .i64 t113) := (blk_cell BK120.out 0).trans rfl
                              have hcz53_1 : wc.cell? ⟨gb120, 1, none⟩ = some (.int .i64 t114) := (blk_cell BK120.out 1).trans rfl
                              have hcz53_2 : wc.cell? ⟨gb120, 2, none⟩ = some (.int .i64 t115) := (blk_cell BK120.out 2).trans rfl
                              have hcz53_3 : wc.cell? ⟨gb120, 3, none⟩ = some (.slice Ao23 t116.length co23) := (blk_cell BK120.out 3).trans rfl
                              have hfz53_0 := blk_frozen BK120.out 0
                              have hfz53_1 := blk_frozen BK120.out 1
                              have hfz53_2 := blk_frozen BK120.out 2
                              have hfz53_3 := blk_frozen BK120.out 3
                              try go_wp2_with (first | ((with_reducible refine gate_callee (f := 24) rfl ?_); refine goesL_ (some 68) rfl rfl Try.func24 (by kernel_rfl) rfl #[.agg #[.int .i64 t104, .int .i64 t105, .int .i64 t106, .slice Ao16 t107.length co16], .agg #[.int .i64 t113, .int .i64 t114, .int .i64 t115, .slice Ao23 t116.length co23]] rfl Z4.z2 ?_; (with_reducible refine (impl_Multiply.calls kj10 t104 t105 t106 _ _ t107 t113 t114 t115 _ _ t116 t129 t130 t131 t132 t135 _ ?side1 ?side2 ?side3 ?side4 A34.out).mono ?_); (case side1 => exact (by repeat (first | exact (Kd.R_reads' HO_111003.out).2.2 | (with_reducible refine Kd.C_alloc ?_ _) | (with_reducible refine Kd.C_drewN ?_ _) | (with_reducible refine Kd.C_drew ?_)))); (case side2 => exact (Kd.R_reads' HO_111003.out).2.1); (case side3 => exact (by repeat (first | exact (Kd.R_reads' HO_121003.out).2.2 | (with_reducible refine Kd.C_alloc ?_ _) | (with_reducible refine Kd.C_drewN ?_ _) | (with_reducible refine Kd.C_drew ?_)))); (case side4 => exact (Kd.R_reads' HO_121003.out).2.1); rintro e w54 ⟨v133, rfl, ho0, hb⟩; refine ⟨_, rfl, ?_⟩; have n0_ := Z4.k (Kd.R_elder' Z4.z17 (Kd.R_base ho0) hb); have n1_ := Z4.k (Kd.R_elder' Z4.z16 (Kd.R_base ho0) hb); have n2_ := Z4.k (Kd.R_elder' Z4.z15 (Kd.R_base ho0) hb); have n3_ := Z4.k (Kd.R_lower (Kd.R_new' (Kd.R_new' (Kd.R_new' ho0 (Kd.R_lt Z4.z17)) (Kd.R_lt Z4.z16)) (Kd.R_lt Z4.z15)) (below_size Z4.z3)); have n4_ := Z4.k (Z4.bb BK110 Z4.z1 hb); have n5_ := Z4.k (Z4.bb BK120 Z4.z4 hb); have n6_ := Z4.k (Z4.bb BK128 Z4.z10 hb); have n7_ := Z4.k (below_step Z4.z3 hb); clear HO_111003 HO_121003 HO_129003 BK110 BK120 BK128 HB; have HO_111003 := n0_; have HO_121003 := n1_; have HO_129003 := n2_; have HO134 := n3_; have BK110 := n4_; have BK120 := n5_; have BK128 := n6_; have HB := n7_; clear n0_ n1_ n2_ n3_ n4_ n5_ n6_ n7_; (try clear hb); (try clear hb2); (try clear hk); (try clear hi); (try clear ho0)) | ((with_reducible refine gate_dst (N := 14) rfl ?_); refine box_event ?hg (N := 14) ?hd (cs := #[.int .i64 0, .int .i64 0, .int .i64 0, .slice none 0 0]) (t := 27) ?hr ?_; (case hd => rfl); (case hg => rfl); (case hr => first | (go_simp; done) | (go_simp; rfl)); intro gb136 hg w55 hbox hb; have n0_ := Z4.k (Kd.R_below Z4.z17 hb); have n1_ := Z4.k (Kd.R_below Z4.z16 hb); have n2_ := Z4.k (Kd.R_below Z4.z15 hb); have n3_ := Z4.k (Kd.R_below Z4.z27 hb); have n4_ := Z4.k (Z4.bb BK110 Z4.z1 hb); have n5_ := Z4.k (Z4.bb BK120 Z4.z4 hb); have n6_ := Z4.k (Z4.bb BK128 Z4.z10 hb); have n7_ := Z4.k (below_step Z4.z3 hb); have n8_ := Z4.k (hbox); have n9_ := Z4.k (show w.heap.size ≤ gb136 from (by rw [hg]; exact (below_size Z4.z3))); have n10_ := Z4.k (show w.heap.size ≤ gb136 from (by rw [hg]; exact (below_size Z4.z3))); have n11_ := Z4.k (show gb110 ≠ gb136 from (by rw [hg]; exact Nat.ne_of_lt (Z4.bl BK110 Z4.z1))); have n12_ := Z4.k (show gb136 ≠ gb110 from (by rw [hg]; exact Nat.ne_of_gt (Z4.bl BK110 Z4.z1))); have n13_ := Z4.k (show gb120 ≠ gb136 from (by rw [hg]; exact Nat.ne_of_lt (Z4.bl BK120 Z4.z4))); have n14_ := Z4.k (show gb136 ≠ gb120 from (by rw [hg]; exact Nat.ne_of_gt (Z4.bl BK120 Z4.z4))); have n15_ := Z4.k (show gb128 ≠ gb136 from (by rw [hg]; exact Nat.ne_of_lt (Z4.bl BK128 Z4.z10))); have n16_ := Z4.k (show gb136 ≠ gb128 from (by rw [hg]; exact Nat.ne_of_gt (Z4.bl BK128 Z4.z10))); clear HO_111003 HO_121003 HO_129003 HO134 BK110 BK120 BK128 HB; have HO_111003 := n0_; have HO_121003 := n1_; have HO_129003 := n2_; have HO134 := n3_; have BK110 := n4_; have BK120 := n5_; have BK128 := n6_; have HB := n7_; have BK136 := n8_; have GW136 := n9_; have GE136 := n10_; have NB110_136 := n11_; have NB136_110 := n12_; have NB120_136 := n13_; have NB136_120 := n14_; have NB128_136 := n15_; have NB136_128 := n16_; clear n0_ n1_ n2_ n3_ n4_ n5_ n6_ n7_ n8_ n9_ n10_ n11_ n12_ n13_ n14_ n15_ n16_; clear hb hbox hg; have hnb56 := NB136_110.out; have hnc56 := NB110_136.out; have hnb57 := NB136_120.out; have hnc57 := NB120_136.out; have hnb58 := NB136_128.out; have hnc58 := NB128_136.out; have hcz59_0 : w55.cell? ⟨gb136, 0, none⟩ = some (.int .i64 0) := (blk_cell BK136.out 0).trans rfl; have hcz59_1 : w55.cell? ⟨gb136, 1, none⟩ = some (.int .i64 0) := (blk_cell BK136.out 1).trans rfl; have hcz59_2 : w55.cell? ⟨gb136, 2, none⟩ = some (.int .i64 0) := (blk_cell BK136.out 2).trans rfl; have hcz59_3 : w55.cell? ⟨gb136, 3, none⟩ = some (.slice none 0 0) := (blk_cell BK136.out 3).trans rfl; have hfz59_0 := blk_frozen BK136.out 0; have hfz59_1 := blk_frozen BK136.out 1; have hfz59_2 := blk_frozen BK136.out 2; have hfz59_3 := blk_frozen BK136.out 3; obtain ⟨Ao60, co60, eo60⟩ := Kd.R_slice HO134.out; subst eo60; have hcz61_0 : w55.cell? ⟨gb120, 0, none⟩ = some (.int .i64 t113) := (blk_cell BK120.out 0).trans rfl; have hcz61_1 : w55.cell? ⟨gb120, 1, none⟩ = some (.int .i64 t114) := (blk_cell BK120.out 1).trans rfl; have hcz61_2 : w55.cell? ⟨gb120, 2, none⟩ = some (.int .i64 t115) := (blk_cell BK120.out 2).trans rfl; have hcz61_3 : w55.cell? ⟨gb120, 3, none⟩ = some (.slice Ao23 t116.length co23) := (blk_cell BK120.out 3).trans rfl; have hfz61_0 := blk_frozen BK120.out 0; have hfz61_1 := blk_frozen BK120.out 1; have hfz61_2 := blk_frozen BK120.out 2; have hfz61_3 := blk_frozen BK120.out 3; have hcz62_0 : w55.cell? ⟨gb110, 0, none⟩ = some (.int .i64 t104) := (blk_cell BK110.out 0).trans rfl; have hcz62_1 : w55.cell? ⟨gb110, 1, none⟩ = some (.int .i64 t105) := (blk_cell BK110.out 1).trans rfl; have hcz62_2 : w55.cell? ⟨gb110, 2, none⟩ = some (.int .i64 t106) := (blk_cell BK110.out 2).trans rfl; have hcz62_3 : w55.cell? ⟨gb110, 3, none⟩ = some (.slice Ao16 t107.length co16) := (blk_cell BK110.out 3).trans rfl; have hfz62_0 := blk_frozen BK110.out 0; have hfz62_1 := blk_frozen BK110.out 1; have hfz62_2 := blk_frozen BK110.out 2; have hfz62_3 := blk_frozen BK110.out 3) | ((with_reducible refine gate_callee (f := 24) rfl ?_); refine goesL_ (some 74) rfl rfl Try.func24 (by kernel_rfl) rfl #[.agg #[.int .i64 t113, .int .i64 t114, .int .i64 t115, .slice Ao23 t116.length co23], .agg #[.int .i64 t104, .int .i64 t105, .int .i64 t106, .slice Ao16 t107.length co16]] rfl Z4.z2 ?_; (with_reducible refine (impl_Multiply.calls kj10 t113 t114 t115 _ _ t116 t104 t105 t106 _ _ t107 t137 t138 t139 t140 t143 _ ?side1 ?side2 ?side3 ?side4 A35.out).mono ?_); (case side1 => exact (by refine (Kd.R_reads' (e := 2) (base := w.heap.size) (ok := fun k_ => ((some k_ ≠ (.slice Ao16 t107.length co16 : Value).ownBlock ∧ some k_ ≠ (.slice Ao29 t124.length co29 : Value).ownBlock) ∧ some k_ ≠ (.slice Ao60 t132.length co60 : Value).ownBlock)) (n := t116.length) (c := co23) ?_).2.2; exact Z4.z6)); (case side2 => exact (Kd.R_reads' HO_121003.out).2.1); (case side3 => exact (by refine (Kd.R_reads' (e := 2) (base := w.heap.size) (ok := fun k_ => ((some k_ ≠ (.slice Ao23 t116.length co23 : Value).ownBlock ∧ some k_ ≠ (.slice Ao29 t124.length co29 : Value).ownBlock) ∧ some k_ ≠ (.slice Ao60 t132.length co60 : Value).ownBlock)) (n := t107.length) (c := co16) ?_).2.2; exact Z4.z7)); (case side4 => exact (Kd.R_reads' HO_111003.out).2.1); rintro e w63 ⟨v141, rfl, ho0, hb⟩; refine ⟨_, rfl, ?_⟩; have n0_ := Z4.k (Kd.R_elder' Z4.z7 (Kd.R_base ho0) hb); have n1_ := Z4.k (Kd.R_elder' Z4.z6 (Kd.R_base ho0) hb); have n2_ := Z4.k (Kd.R_elder' Z4.z19 (Kd.R_base ho0) hb); have n3_ := Z4.k (Kd.R_elder' Z4.z20 (Kd.R_base ho0) hb); have n4_ := Z4.k (Kd.R_lower (Kd.R_new' (Kd.R_new' (Kd.R_new' (Kd.R_new' ho0 (Kd.R_lt Z4.z7)) (Kd.R_lt Z4.z6)) (Kd.R_lt Z4.z19)) (Kd.R_lt Z4.z20)) (below_size Z4.z5)); have n5_ := Z4.k (Z4.bb BK110 (by (repeat (first | (with_reducible first | refine blk_drewN ?_ _ | refine blk_drew ?_ | refine blk_alloc ?_ _) | refine blk_far ?_ NB110_136.out _)); exact BK110.out) hb); have n6_ := Z4.k (Z4.bb BK120 (by (repeat (first | (with_reducible first | refine blk_drewN ?_ _ | refine blk_drew ?_ | refine blk_alloc ?_ _) | refine blk_far ?_ NB120_136.out _)); exact BK120.out) hb); have n7_ := Z4.k (Z4.bb BK128 (by (repeat (first | (with_reducible first | refine blk_drewN ?_ _ | refine blk_drew ?_ | refine blk_alloc ?_ _) | refine blk_far ?_ NB128_136.out _)); exact BK128.out) hb); have n8_ := Z4.k (blk_below (g := gb136) (o := .cells #[.int .i64 t129, .int .i64 t130, .int .i64 t131, .slice Ao60 t132.length co60] 27 (0, 0)) (by (with_reducible repeat (first | refine blk_drewN ?_ _ | refine blk_drew ?_ | refine blk_alloc ?_ _)); refine blk_put (cs := #[.int .i64 t129, .int .i64 t130, .int .i64 t131, .slice none 0 0]) ?_ 3 _ rfl; (with_reducible repeat (first | refine blk_drewN ?_ _ | refine blk_drew ?_ | refine blk_alloc ?_ _)); refine blk_put (cs := #[.int .i64 t129, .int .i64 t130, .int .i64 0, .slice none 0 0]) ?_ 2 _ rfl; (with_reducible repeat (first | refine blk_drewN ?_ _ | refine blk_drew ?_ | refine blk_alloc ?_ _)); refine blk_put (cs := #[.int .i64 t129, .int .i64 0, .int .i64 0, .slice none 0 0]) ?_ 1 _ rfl; (with_reducible repeat (first | refine blk_drewN ?_ _ | refine blk_drew ?_ | refine blk_alloc ?_ _)); refine blk_put (cs := #[.int .i64 0, .int .i64 0, .int .i64 0, .slice none 0 0]) ?_ 0 _ rfl; (with_reducible repeat (first | refine blk_drewN ?_ _ | refine blk_drew ?_ | refine blk_alloc ?_ _)); exact BK136.out) hb); have n9_ := Z4.k (below_step Z4.z5 hb); clear HO_111003 HO_121003 HO_129003 HO134 BK110 BK120 BK128 BK136 HB; have HO_111003 := n0_; have HO_121003 := n1_; have HO_129003 := n2_; have HO134 := n3_; have HO142 := n4_; have BK110 := n5_; have BK120 := n6_; have BK128 := n7_; have BK136 := n8_; have HB := n9_; clear n0_ n1_ n2_ n3_ n4_ n5_ n6_ n7_ n8_ n9_; (try clear hb); (try clear hb2); (try clear hk); (try clear hi); (try clear ho0)) | ((with_reducible refine gate_dst (N := 16) rfl ?_); refine box_event ?hg (N := 16) ?hd (cs := #[.int .i64 0, .int .i64 0, .int .i64 0, .slice none 0 0]) (t := 27) ?hr ?_; (case hd => rfl); (case hg => rfl); (case hr => first | (go_simp; done) | (go_simp; rfl)); intro gb144 hg w64 hbox hb; have n0_ := Z4.k (Kd.R_below Z4.z17 hb); have n1_ := Z4.k (Kd.R_below Z4.z16 hb); have n2_ := Z4.k (Kd.R_below Z4.z15 hb); have n3_ := Z4.k (Kd.R_below Z4.z27 hb); have n4_ := Z4.k (Kd.R_below Z4.z28 hb); have n5_ := Z4.k (Z4.bb BK110 Z4.z1 hb); have n6_ := Z4.k (Z4.bb BK120 Z4.z4 hb); have n7_ := Z4.k (Z4.bb BK128 Z4.z10 hb); have n8_ := Z4.k (Z4.bb BK136 Z4.z24 hb); have n9_ := Z4.k (below_step Z4.z5 hb); have n10_ := Z4.k (hbox); have n11_ := Z4.k (show w.heap.size ≤ gb144 from (by rw [hg]; exact (below_size Z4.z5))); have n12_ := Z4.k (show w.heap.size ≤ gb144 from (by rw [hg]; exact (below_size Z4.z5))); have n13_ := Z4.k (show gb110 ≠ gb144 from (by rw [hg]; exact Nat.ne_of_lt (Z4.bl BK110 Z4.z1))); have n14_ := Z4.k (show gb144 ≠ gb110 from (by rw [hg]; exact Nat.ne_of_gt (Z4.bl BK110 Z4.z1))); have n15_ := Z4.k (show gb120 ≠ gb144 from (by rw [hg]; exact Nat.ne_of_lt (Z4.bl BK120 Z4.z4))); have n16_ := Z4.k (show gb144 ≠ gb120 from (by rw [hg]; exact Nat.ne_of_gt (Z4.bl BK120 Z4.z4))); have n17_ := Z4.k (show gb128 ≠ gb144 from (by rw [hg]; exact Nat.ne_of_lt (Z4.bl BK128 Z4.z10))); have n18_ := Z4.k (show gb144 ≠ gb128 from (by rw [hg]; exact Nat.ne_of_gt (Z4.bl BK128 Z4.z10))); have n19_ := Z4.k (show gb136 ≠ gb144 from (by rw [hg]; exact Nat.ne_of_lt (Z4.bl BK136 Z4.z24))); have n20_ := Z4.k (show gb144 ≠ gb136 from (by rw [hg]; exact Nat.ne_of_gt (Z4.bl BK136 Z4.z24))); clear HO_111003 HO_121003 HO_129003 HO134 HO142 BK110 BK120 BK128 BK136 HB; have HO_111003 := n0_; have HO_121003 := n1_; have HO_129003 := n2_; have HO134 := n3_; have HO142 := n4_; have BK110 := n5_; have BK120 := n6_; have BK128 := n7_; have BK136 := n8_; have HB := n9_; have BK144 := n10_; have GW144 := n11_; have GE144 := n12_; have NB110_144 := n13_; have NB144_110 := n14_; have NB120_144 := n15_; have NB144_120 := n16_; have NB128_144 := n17_; have NB144_128 := n18_; have NB136_144 := n19_; have NB144_136 := n20_; clear n0_ n1_ n2_ n3_ n4_ n5_ n6_ n7_ n8_ n9_ n10_ n11_ n12_ n13_ n14_ n15_ n16_ n17_ n18_ n19_ n20_; clear hb hbox hg; have hnb65 := NB144_110.out; have hnc65 := NB110_144.out; have hnb66 := NB144_120.out; have hnc66 := NB120_144.out; have hnb67 := NB144_128.out; have hnc67 := NB128_144.out; have hnb68 := NB144_136.out; have hnc68 := NB136_144.out; have hcz69_0 : w64.cell? ⟨gb144, 0, none⟩ = some (.int .i64 0) := (blk_cell BK144.out 0).trans rfl; have hcz69_1 : w64.cell? ⟨gb144, 1, none⟩ = some (.int .i64 0) := (blk_cell BK144.out 1).trans rfl; have hcz69_2 : w64.cell? ⟨gb144, 2, none⟩ = some (.int .i64 0) := (blk_cell BK144.out 2).trans rfl; have hcz69_3 : w64.cell? ⟨gb144, 3, none⟩ = some (.slice none 0 0) := (blk_cell BK144.out 3).trans rfl; have hfz69_0 := blk_frozen BK144.out 0; have hfz69_1 := blk_frozen BK144.out 1; have hfz69_2 := blk_frozen BK144.out 2; have hfz69_3 := blk_frozen BK144.out 3; obtain ⟨Ao70, co70, eo70⟩ := Kd.R_slice HO142.out; subst eo70; have hcz71_0 : w64.cell? ⟨gb120, 0, none⟩ = some (.int .i64 t113) := (blk_cell BK120.out 0).trans rfl; have hcz71_1 : w64.cell? ⟨gb120, 1, none⟩ = some (.int .i64 t114) := (blk_cell BK120.out 1).trans rfl; have hcz71_2 : w64.cell? ⟨gb120, 2, none⟩ = some (.int .i64 t115) := (blk_cell BK120.out 2).trans rfl; have hcz71_3 : w64.cell? ⟨gb120, 3, none⟩ = some (.slice Ao23 t116.length co23) := (blk_cell BK120.out 3).trans rfl; have hfz71_0 := blk_frozen BK120.out 0; have hfz71_1 := blk_frozen BK120.out 1; have hfz71_2 := blk_frozen BK120.out 2; have hfz71_3 := blk_frozen BK120.out 3) | ((with_reducible refine gate_callee (f := 21) rfl ?_); refine goesL_ (some 79) rfl rfl Try.func21 (by kernel_rfl) rfl #[.agg #[.int .i64 t113, .int .i64 t114, .int .i64 t115, .slice Ao23 t116.length co23]] rfl Z4.z2 ?_; (with_reducible refine (impl_DeterminantOf.calls kj10 t113 t114 t115 _ _ t116 t145 t146 _ ?side1 ?side2 A36.out).mono ?_); (case side1 => exact (by refine (Kd.R_reads' (e := 2) (base := w.heap.size) (ok := fun k_ => (((some k_ ≠ (.slice Ao16 t107.length co16 : Value).ownBlock ∧ some k_ ≠ (.slice Ao29 t124.length co29 : Value).ownBlock) ∧ some k_ ≠ (.slice Ao60 t132.length co60 : Value).ownBlock) ∧ some k_ ≠ (.slice Ao70 t140.length co70 : Value).ownBlock)) (n := t116.length) (c := co23) ?_).2.2; exact Z4.z18)); (case side2 => exact (Kd.R_reads' HO_121003.out).2.1); rintro e w72 ⟨rfl, hb⟩; refine ⟨_, rfl, ?_⟩; have n0_ := Z4.k (Kd.R_below (by (with_reducible repeat (first | apply Kd.R_alloc | apply Kd.R_drewN | apply Kd.R_drew)); exact (Kd.R_mono (Kd.R_far (p := ⟨gb144, 3, none⟩) (Kd.R_far (p := ⟨gb144, 2, none⟩) (Kd.R_far (p := ⟨gb144, 1, none⟩) (Kd.R_far (p := ⟨gb144, 0, none⟩) (Kd.R_types HO_111003.out BK144.out (by decide)) (fun _ hk => hk.2) (.int .i64 t137)) (fun _ hk => hk.2) (.int .i64 t138)) (fun _ hk => hk.2) (.int .i64 t139)) (fun _ hk => hk.2) (.slice Ao70 t140.length co70)) (fun _ h_ => h_.1))) hb); have n1_ := Z4.k (Kd.R_below Z4.z18 hb); have n2_ := Z4.k (Kd.R_below (by (with_reducible repeat (first | apply Kd.R_alloc | apply Kd.R_drewN | apply Kd.R_drew)); exact (Kd.R_mono (Kd.R_far (p := ⟨gb144, 3, none⟩) (Kd.R_far (p := ⟨gb144, 2, none⟩) (Kd.R_far (p := ⟨gb144, 1, none⟩) (Kd.R_far (p := ⟨gb144, 0, none⟩) (Kd.R_types HO_129003.out BK144.out (by decide)) (fun _ hk => hk.2) (.int .i64 t137)) (fun _ hk => hk.2) (.int .i64 t138)) (fun _ hk => hk.2) (.int .i64 t139)) (fun _ hk => hk.2) (.slice Ao70 t140.length co70)) (fun _ h_ => h_.1))) hb); have n3_ := Z4.k (Kd.R_below (by (with_reducible repeat (first | apply Kd.R_alloc | apply Kd.R_drewN | apply Kd.R_drew)); exact (Kd.R_mono (Kd.R_far (p := ⟨gb144, 3, none⟩) (Kd.R_far (p := ⟨gb144, 2, none⟩) (Kd.R_far (p := ⟨gb144, 1, none⟩) (Kd.R_far (p := ⟨gb144, 0, none⟩) (Kd.R_types HO134.out BK144.out (by decide)) (fun _ hk => hk.2) (.int .i64 t137)) (fun _ hk => hk.2) (.int .i64 t138)) (fun _ hk => hk.2) (.int .i64 t139)) (fun _ hk => hk.2) (.slice Ao70 t140.length co70)) (fun _ h_ => h_.1))) hb); have n4_ := Z4.k (Kd.R_below (by (with_reducible repeat (first | apply Kd.R_alloc | apply Kd.R_drewN | apply Kd.R_drew)); exact (Kd.R_mono (Kd.R_far (p := ⟨gb144, 3, none⟩) (Kd.R_far (p := ⟨gb144, 2, none⟩) (Kd.R_far (p := ⟨gb144, 1, none⟩) (Kd.R_far (p := ⟨gb144, 0, none⟩) (Kd.R_types HO142.out BK144.out (by decide)) (fun _ hk => hk.2) (.int .i64 t137)) (fun _ hk => hk.2) (.int .i64 t138)) (fun _ hk => hk.2) (.int .i64 t139)) (fun _ hk => hk.2) (.slice Ao70 t140.length co70)) (fun _ h_ => h_.1))) hb); have n5_ := Z4.k (Z4.bb BK110 (by (repeat (first | (with_reducible first | refine blk_drewN ?_ _ | refine blk_drew ?_ | refine blk_alloc ?_ _) | refine blk_far ?_ NB110_144.out _)); exact BK110.out) hb); have n6_ := Z4.k (Z4.bb BK120 (by (repeat (first | (with_reducible first | refine blk_drewN ?_ _ | refine blk_drew ?_ | refine blk_alloc ?_ _) | refine blk_far ?_ NB120_144.out _)); exact BK120.out) hb); have n7_ := Z4.k (Z4.bb BK128 (by (repeat (first | (with_reducible first | refine blk_drewN ?_ _ | refine blk_drew ?_ | refine blk_alloc ?_ _) | refine blk_far ?_ NB128_144.out _)); exact BK128.out) hb); have n8_ := Z4.k (Z4.bb BK136 (by (repeat (first | (with_reducible first | refine blk_drewN ?_ _ | refine blk_drew ?_ | refine blk_alloc ?_ _) | refine blk_far ?_ NB136_144.out _)); exact BK136.out) hb); have n9_ := Z4.k (blk_below (g := gb144) (o := .cells #[.int .i64 t137, .int .i64 t138, .int .i64 t139, .slice Ao70 t140.length co70] 27 (0, 0)) (by (with_reducible repeat (first | refine blk_drewN ?_ _ | refine blk_drew ?_ | refine blk_alloc ?_ _)); refine blk_put (cs := #[.int .i64 t137, .int .i64 t138, .int .i64 t139, .slice none 0 0]) ?_ 3 _ rfl; (with_reducible repeat (first | refine blk_drewN ?_ _ | refine blk_drew ?_ | refine blk_alloc ?_ _)); refine blk_put (cs := #[.int .i64 t137, .int .i64 t138, .int .i64 0, .slice none 0 0]) ?_ 2 _ rfl; (with_reducible repeat (first | refine blk_drewN ?_ _ | refine blk_drew ?_ | refine blk_alloc ?_ _)); refine blk_put (cs := #[.int .i64 t137, .int .i64 0, .int .i64 0, .slice none 0 0]) ?_ 1 _ rfl; (with_reducible repeat (first | refine blk_drewN ?_ _ | refine blk_drew ?_ | refine blk_alloc ?_ _)); refine blk_put (cs := #[.int .i64 0, .int .i64 0, .int .i64 0, .slice none 0 0]) ?_ 0 _ rfl; (with_reducible repeat (first | refine blk_drewN ?_ _ | refine blk_drew ?_ | refine blk_alloc ?_ _)); exact BK144.out) hb); have n10_ := Z4.k (below_step Z4.z8 hb); clear HO_111003 HO_121003 HO_129003 HO134 HO142 BK110 BK120 BK128 BK136 BK144 HB; have HO_111003 := n0_; have HO_121003 := n1_; have HO_129003 := n2_; have HO134 := n3_; have HO142 := n4_; have BK110 := n5_; have BK120 := n6_; have BK128 := n7_; have BK136 := n8_; have BK144 := n9_; have HB := n10_; clear n0_ n1_ n2_ n3_ n4_ n5_ n6_ n7_ n8_ n9_ n10_; (try clear hb); (try clear hb2); (try clear hk); (try clear hi)))
                              have n0_ := Z4.k (Kd.R_drew HO_111003.out)
                              have n1_ := Z4.k (Kd.R_drew HO_121003.out)
                              have n2_ := Z4.k (Kd.R_drew HO_129003.out)
                              have n3_ := Z4.k (Kd.R_drew HO134.out)
                              have n4_ := Z4.k (Kd.R_drew HO142.out)
                              have n5_ := Z4.k (blk_drew BK110.out)
                              have n6_ := Z4.k (blk_drew BK120.out)
                              have n7_ := Z4.k (blk_drew BK128.out)
                              have n8_ := Z4.k (blk_drew BK136.out)
                              have n9_ := Z4.k (blk_drew BK144.out)
                              have n10_ := Z4.k (below_drew1 HB.out)
                              clear HO_111003 HO_121003 HO_129003 HO134 HO142 BK110 BK120 BK128 BK136 BK144 HB
                              have HO_111003 := n0_
                              have HO_121003 := n1_
                              have HO_129003 := n2_
                              have HO134 := n3_
                              have HO142 := n4_
                              have BK110 := n5_
                              have BK120 := n6_
                              have BK128 := n7_
                              have BK136 := n8_
                              have BK144 := n9_
                              have HB := n10_
                              clear n0_ n1_ n2_ n3_ n4_ n5_ n6_ n7_ n8_ n9_ n10_
                              refine start_ (n := 49) (S := fun w' => w'.cell? ⟨gb136, 0, none⟩ = some (.int .i64 t129) ∧ w'.cell? ⟨gb136, 1, none⟩ = some (.int .i64 t130) ∧ w'.cell? ⟨gb136, 2, none⟩ = some (.int .i64 t131) ∧ w'.cell? ⟨gb136, 3, none⟩ = some (.slice Ao60 t132.length co60) ∧ w'.cell? ⟨gb128, 0, none⟩ = some (.int .i64 t121) ∧ w'.cell? ⟨gb128, 1, none⟩ = some (.int .i64 t122) ∧ w'.cell? ⟨gb128, 2, none⟩ = some (.int .i64 t123) ∧ w'.cell? ⟨gb128, 3, none⟩ = some (.slice Ao29 t124.length co29) ∧ w'.cell? ⟨gb144, 0, none⟩ = some (.int .i64 t137) ∧ w'.cell? ⟨gb144, 1, none⟩ = some (.int .i64 t138) ∧ w'.cell? ⟨gb144, 2, none⟩ = some (.int .i64 t139) ∧ w'.cell? ⟨gb144, 3, none⟩ = some (.slice Ao70 t140.length co70)) (ds := []) #[false, false, false, false, false, false, false, false, false, false, false, false, false, false, false, false, false, false, false, false, false, false, false, false, false, false, false, false, false, false, false, false, false, false, false, false, false, false, false, false, false, false, false, false, false, false, false, false, false] (by kernel_rfl) rfl rfl Z4.z11 (fun hHeld => ?_); refine with_tabW laws_FnInverse.tab16 laws_FnInverse.bits16 (fun HT_ HW_ => ?_)
                              generalize w72.drew = w73 at HO_111003 HO_121003 HO_129003 HO134 HO142 BK110 BK120 BK128 BK136 BK144 HB hHeld ⊢
                              refine Z4.pP 0 82 (Z4.b 49 1) (any_of HT_.out (by kernel_rfl)) ?_
                              refine Z4.pP 1 83 (Z4.b 49 3) (any_of HT_.out (by kernel_rfl)) ?_
                              refine Z4.pP 2 84 (Z4.b 49 7) (any_of HT_.out (by kernel_rfl)) ?_
                              refine Z4.pP 3 85 (Z4.b 49 15) (any_of HT_.out (by kernel_rfl)) ?_
                              refine Z4.pP 4 86 (Z4.b 49 31) (any_of HT_.out (by kernel_rfl)) ?_
                              refine Z4.pP 5 87 (Z4.b 49 63) (any_of HT_.out (by kernel_rfl)) ?_
                              refine Z4.pP 6 88 (Z4.b 49 127) (any_of HT_.out (by kernel_rfl)) ?_
                              refine Z4.pT12 7 89 (Z4.b 49 255) (take_ofW HT_.out HW_.out (by kernel_rfl)) hHeld ?_
                              refine Z4.pT12 8 90 (Z4.b 49 511) (take_ofW HT_.out HW_.out (by kernel_rfl)) hHeld ?_
                              refine one_ (i := 9) (N := some 91) (Z4.b 49 1023) rfl rfl (one_of HT_.out (by kernel_rfl)) (by decide) (fun K hK => ?_)
                              refine goes_ Try.func19 (by kernel_rfl) rfl #[.agg #[.int .i64 t129, .int .i64 t130, .int .i64 t131, .slice Ao60 t132.length co60], .agg #[.int .i64 t121, .int .i64 t122, .int .i64 t123, .slice Ao29 t124.length co29]] (by rfl) rfl rfl Z4.z2 ?_
                              with_reducible refine (spec_SameMatrix.calls kj10 t129 t130 t131 _ _ t132 t121 t122 t123 _ _ t124 true _ ?side1 ?side2 ?side3 ?side4 A39.out).mono ?_
                              (case side1 => exact (by repeat (first | exact (Kd.R_reads' HO134.out).2.2 | (with_reducible refine Kd.C_alloc ?_ _) | (with_reducible refine Kd.C_drewN ?_ _) | (with_reducible refine Kd.C_drew ?_))))
                              (case side2 => exact (Kd.R_reads' HO134.out).2.1)
                              (case side3 => exact Z4.z29)
                              (case side4 => exact (Kd.R_reads' HO_129003.out).2.1)
                              rintro e w74 ⟨rfl, hb⟩
                              refine ⟨_, rfl, ?_⟩
                              have n0_ := Z4.k (Kd.R_below Z4.z17 hb)
                              have n1_ := Z4.k (Kd.R_below Z4.z16 hb)
                              have n2_ := Z4.k (Kd.R_below Z4.z15 hb)
                              have n3_ := Z4.k (Kd.R_below Z4.z27 hb)
                              have n4_ := Z4.k (Kd.R_below Z4.z28 hb)
                              have n5_ := Z4.k (Z4.bb BK110 Z4.z1 hb)
                              have n6_ := Z4.k (Z4.bb BK120 Z4.z4 hb)
                              have n7_ := Z4.k (Z4.bb BK128 Z4.z10 hb)
                              have n8_ := Z4.k (Z4.bb BK136 Z4.z24 hb)
                              have n9_ := Z4.k (Z4.bb BK144 (by (with_reducible repeat (first | refine blk_drewN ?_ _ | refine blk_drew ?_ | refine blk_alloc ?_ _)); exact BK144.out) hb)
                              have n10_ := Z4.k (below_step Z4.z8 hb)
                              clear HO_111003 HO_121003 HO_129003 HO134 HO142 BK110 BK120 BK128 BK136 BK144 HB
                              have HO_111003 := n0_
                              have HO_121003 := n1_
                              have HO_129003 := n2_
                              have HO134 := n3_
                              have HO142 := n4_
                              have BK110 := n5_
                              have BK120 := n6_
                              have BK128 := n7_
                              have BK136 := n8_
                              have BK144 := n9_
                              have HB := n10_
                              clear n0_ n1_ n2_ n3_ n4_ n5_ n6_ n7_ n8_ n9_ n10_
                              (try clear hb)
                              (try clear hb2)
                              (try clear hk)
                              (try clear hi)
                              refine hK.out _ _ Z4.z11 (fun hHeld => ?_)
                              clear hK K
                              refine norm_ (a' := ?_) ?_ ?_
                              rotate_left
                              ·show Act.put _ (some 91) _ = _
                               simp only [Act.put, List.setIfInBounds_toArray, List.set_cons_zero, List.set_cons_succ, i64_w, i32_w]
                               rfl
                              refine Z4.pP 10 92 (Z4.b 49 2047) (any_of HT_.out (by kernel_rfl)) ?_
                              refine Z4.pP 11 93 (Z4.b 49 4095) (any_of HT_.out (by kernel_rfl)) ?_
                              refine Z4.pT12 12 94 (Z4.b 49 8191) (take_ofW HT_.out HW_.out (by kernel_rfl)) hHeld ?_
                              refine Z4.pT12 13 95 (Z4.b 49 16383) (take_ofW HT_.out HW_.out (by kernel_rfl)) hHeld ?_
                              refine one_ (i := 14) (N := some 96) (Z4.b 49 32767) rfl rfl (one_of HT_.out (by kernel_rfl)) (by decide) (fun K hK => ?_)
                              refine goes_ Try.func19 (by kernel_rfl) rfl #[.agg #[.int .i64 t137, .int .i64 t138, .int .i64 t139, .slice Ao70 t140.length co70], .agg #[.int .i64 t121, .int .i64 t122, .int .i64 t123, .slice Ao29 t124.length co29]] (by rfl) rfl rfl Z4.z2 ?_
                              with_reducible refine (spec_SameMatrix.calls kj10 t137 t138 t139 _ _ t140 t121 t122 t123 _ _ t124 true _ ?side1 ?side2 ?side3 ?side4 A41.out).mono ?_
                              (case side1 => exact (by repeat (first | exact (Kd.R_reads' HO142.out).2.2 | (with_reducible refine Kd.C_alloc ?_ _) | (with_reducible refine Kd.C_drewN ?_ _) | (with_reducible refine Kd.C_drew ?_))))
                              (case side2 => exact (Kd.R_reads' HO142.out).2.1)
                              (case side3 => exact Z4.z29)
                              (case side4 => exact (Kd.R_reads' HO_129003.out).2.1)
                              rintro e w75 ⟨rfl, hb⟩
                              refine ⟨_, rfl, ?_⟩
                              have n0_ := Z4.k (Kd.R_below Z4.z17 hb)
                              have n1_ := Z4.k (Kd.R_below Z4.z16 hb)
                              have n2_ := Z4.k (Kd.R_below Z4.z15 hb)
                              have n3_ := Z4.k (Kd.R_below Z4.z27 hb)
                              have n4_ := Z4.k (Kd.R_below Z4.z28 hb)
                              have n5_ := Z4.k (Z4.bb BK110 Z4.z1 hb)
                              have n6_ := Z4.k (Z4.bb BK120 Z4.z4 hb)
                              have n7_ := Z4.k (Z4.bb BK128 Z4.z10 hb)
                              have n8_ := Z4.k (Z4.bb BK136 Z4.z24 hb)
                              have n9_ := Z4.k (Z4.bb BK144 (by (with_reducible repeat (first | refine blk_drewN ?_ _ | refine blk_drew ?_ | refine blk_alloc ?_ _)); exact BK144.out) hb)
                              have n10_ := Z4.k (below_step Z4.z8 hb)
                              clear HO_111003 HO_121003 HO_129003 HO134 HO142 BK110 BK120 BK128 BK136 BK144 HB
                              have HO_111003 := n0_
                              have HO_121003 := n1_
                              have HO_129003 := n2_
                              have HO134 := n3_
                              have HO142 := n4_
                              have BK110 := n5_
                              have BK120 := n6_
                              have BK128 := n7_
                              have BK136 := n8_
                              have BK144 := n9_
                              have HB := n10_
                              clear n0_ n1_ n2_ n3_ n4_ n5_ n6_ n7_ n8_ n9_ n10_
                              (try clear hb)
                              (try clear hb2)
                              (try clear hk)
                              (try clear hi)
                              refine hK.out _ _ Z4.z11 (fun hHeld => ?_)
                              clear hK K
                              refine norm_ (a' := ?_) ?_ ?_
                              rotate_left
                              ·show Act.put _ (some 96) _ = _
                               simp only [Act.put, List.setIfInBounds_toArray, List.set_cons_zero, List.set_cons_succ, i64_w, i32_w]
                               rfl
                              refine Z4.pP 15 97 (Z4.b 49 65535) (any_of HT_.out (by kernel_rfl)) ?_
                              refine Z4.pP 16 98 (Z4.b 49 131071) (any_of HT_.out (by kernel_rfl)) ?_
                              refine Z4.pP 17 99 (Z4.b 49 262143) (any_of HT_.out (by kernel_rfl)) ?_
                              refine Z4.pP 18 100 (Z4.b 49 524287) (any_of HT_.out (by kernel_rfl)) ?_
                              refine Z4.pP 19 101 (Z4.b 49 1048575) (any_of HT_.out (by kernel_rfl)) ?_
                              refine Z4.pP 20 102 (Z4.b 49 2097151) (any_of HT_.out (by kernel_rfl)) ?_
                              refine Z4.pP 21 103 (Z4.b 49 4194303) (any_of HT_.out (by kernel_rfl)) ?_
                              refine Z4.pP 22 104 (Z4.b 49 8388607) (any_of HT_.out (by kernel_rfl)) ?_
                              refine Z4.pP 23 105 (Z4.b 49 16777215) (any_of HT_.out (by kernel_rfl)) ?_
                              refine Z4.pP 24 106 (Z4.b 49 33554431) (any_of HT_.out (by kernel_rfl)) ?_
                              refine Z4.pP 25 107 (Z4.b 49 67108863) (any_of HT_.out (by kernel_rfl)) ?_
                              refine Z4.pP 26 108 (Z4.b 49 134217727) (any_of HT_.out (by kernel_rfl)) ?_
                              refine Z4.pP 27 109 (Z4.b 49 268435455) (any_of HT_.out (by kernel_rfl)) ?_
                              refine Z4.pP 28 110 (Z4.b 49 536870911) (any_of HT_.out (by kernel_rfl)) ?_
                              refine Z4.pP 29 111 (Z4.b 49 1073741823) (any_of HT_.out (by kernel_rfl)) ?_
                              refine Z4.pP 30 112 (Z4.b 49 2147483647) (any_of HT_.out (by kernel_rfl)) ?_
                              refine Z4.pP 31 113 (Z4.b 49 4294967295) (any_of HT_.out (by kernel_rfl)) ?_
                              refine Z4.pP 32 114 (Z4.b 49 8589934591) (any_of HT_.out (by kernel_rfl)) ?_
                              refine Z4.pP 33 115 (Z4.b 49 17179869183) (any_of HT_.out (by kernel_rfl)) ?_
                              refine Z4.pP 34 116 (Z4.b 49 34359738367) (any_of HT_.out (by kernel_rfl)) ?_
                              refine Z4.pP 35 117 (Z4.b 49 68719476735) (any_of HT_.out (by kernel_rfl)) ?_
                              refine Z4.pP 36 118 (Z4.b 49 137438953471) (any_of HT_.out (by kernel_rfl)) ?_
                              refine Z4.pP 37 119 (Z4.b 49 274877906943) (any_of HT_.out (by kernel_rfl)) ?_
                              refine Z4.pP 38 120 (Z4.b 49 549755813887) (any_of HT_.out (by kernel_rfl)) ?_
                              refine Z4.pP 39 121 (Z4.b 49 1099511627775) (any_of HT_.out (by kernel_rfl)) ?_
                              refine Z4.pP 40 122 (Z4.b 49 2199023255551) (any_of HT_.out (by kernel_rfl)) ?_
                              refine Z4.pP 41 123 (Z4.b 49 4398046511103) (any_of HT_.out (by kernel_rfl)) ?_
                              refine Z4.pP 42 124 (Z4.b 49 8796093022207) (any_of HT_.out (by kernel_rfl)) ?_
                              refine Z4.pP 43 125 (Z4.b 49 17592186044415) (any_of HT_.out (by kernel_rfl)) ?_
                              refine Z4.pP 44 126 (Z4.b 49 35184372088831) (any_of HT_.out (by kernel_rfl)) ?_
                              refine Z4.pP 45 127 (Z4.b 49 70368744177663) (any_of HT_.out (by kernel_rfl)) ?_
                              refine Z4.pP 46 128 (Z4.b 49 140737488355327) (any_of HT_.out (by kernel_rfl)) ?_
                              refine Z4.pP 47 129 (Z4.b 49 281474976710655) (any_of HT_.out (by kernel_rfl)) ?_
                              refine Z4.pP 48 4 (Z4.b 49 562949953421311) (any_of HT_.out (by kernel_rfl)) ?_
                              refine done_ (done_of HT_.out (by kernel_rfl)) ?_
                              try go_wp2
                              go_ret
                              exact ⟨Z4.z14, Z4.z8⟩
                         rw [if_neg c47] at H
                         have c47b0 : decide (t111 < t102) = false := decide_eq_false c47
                         clear c47
                         exact absurd H (by simp)
                       rw [if_neg c46] at H
                       have c46b0 : decide (0 < t111) = false := decide_eq_false c46
                       clear c46
                       exact absurd H (by simp)
                     rw [if_neg c45] at H
                     have c45b0 : decide (t145 < t102) = false := decide_eq_false c45
                     clear c45
                     exact absurd H (by simp)
                   rw [if_neg c44] at H
                   have c44b0 : decide (0 ≤ t145) = false := decide_eq_false c44
                   clear c44
                   exact absurd H (by simp)
                 rw [if_neg c43] at H
                 have c43b0 : (t146 == 0) = false := beq_eq_false_iff_ne.mpr c43
                 have c43b1 : (t146 != 0) = true := bne_iff_ne.mpr c43
                 exact absurd H (by simp)
               replace c42 := Bool.eq_false_iff.mpr c42
               subst c42
               have H1 : (some false) = some true := by rw [if_neg (show ¬ (false = true) by decide)] at H; exact H
               exact absurd H1 (by simp)
             replace c40 := Bool.eq_false_iff.mpr c40
             subst c40
             have H1 : (some false) = some true := by rw [if_neg (show ¬ (false = true) by decide)] at H; exact H
             exact absurd H1 (by simp)
           rw [if_neg c38] at H
           have c38b0 : (t143 == 0) = false := beq_eq_false_iff_ne.mpr c38
           have c38b1 : (t143 != 0) = true := bne_iff_ne.mpr c38
           exact absurd H (by simp)
         rw [if_neg c37] at H
         have c37b0 : (t135 == 0) = false := beq_eq_false_iff_ne.mpr c37
         have c37b1 : (t135 != 0) = true := bne_iff_ne.mpr c37
         exact absurd H (by simp)
       rw [if_neg c33] at H
       have c33b0 : (t119 == 0) = false := beq_eq_false_iff_ne.mpr c33
       have c33b1 : (t119 != 0) = true := bne_iff_ne.mpr c33
       first | exact absurd H (by decide) | obtain rfl := Option.some.inj H | have hd_ := Option.some.inj H
       all_goals
        go_wp2
        go_ret
        exact ⟨Z4.z14, Z4.z3⟩
  
  /-- THE ONE PURE STATEMENT of laws_FnInverse: yours. -/
def laws_FnInverse.Pure : Prop := ∀ (l0 : List Int) (l1 : List Int), l0.length ≤ maxLen → l0.length * 1 ≤ 140737488351232 → (∀ x ∈ l0, (Lit.int .u8 x).wf = true) → l1.length ≤ maxLen → l1.length * 1 ≤ 140737488351232 → (∀ x ∈ l1, (Lit.int .u8 x).wf = true) → ∃ k, laws_FnInverse.f k l0 l1 = some true
theorem laws_FnInverse.walk (P : laws_FnInverse.Pure) (a0 : Option Addr) (len0 cap0 : Nat) (z0 : List Int) (a1 : Option Addr) (len1 cap1 : Nat) (z1 : List Int) (w : World) (w0 : (a0 = none ∧ len0 = 0 ∧ cap0 = 0 ∧ z0 = []) ∨ ∃ x, a0 = some x ∧ len0 ≤ cap0 ∧ cap0 ≤ maxLen ∧ z0.length = cap0 ∧ (∀ i, i < z0.length → w.cell? (x.add i) = some (.int .u8 (z0.getD i 0))) ∧ ∀ n ∈ z0, (Lit.int .u8 n).wf = true) (y0 : len0 * 1 ≤ 140737488351232) (w1 : (a1 = none ∧ len1 = 0 ∧ cap1 = 0 ∧ z1 = []) ∨ ∃ x, a1 = some x ∧ len1 ≤ cap1 ∧ cap1 ≤ maxLen ∧ z1.length = cap1 ∧ (∀ i, i < z1.length → w.cell? (x.add i) = some (.int .u8 (z1.getD i 0))) ∧ ∀ n ∈ z1, (Lit.int .u8 n).wf = true) (y1 : len1 * 1 ≤ 140737488351232) :
    Calls Try.prog 4 #[.slice a0 len0 cap0, .slice a1 len1 cap1] w fun e w' => e = .returned (.bool true) ∧ Below w.heap.size w w' := by
  obtain ⟨l0, rfl, hr0, hm0, hw0, hc0⟩ := ReadsInt.ofRowC w0
  obtain ⟨l1, rfl, hr1, hm1, hw1, hc1⟩ := ReadsInt.ofRowC w1
  obtain ⟨k, h⟩ := P l0 l1 hm0 y0 hw0 hm1 y1 hw1
  refine (laws_FnInverse.calls k _ _ l0 _ _ l1 true w (Kd.C_of_reads (d := (0 : Int)) (h1 := fun _ => rfl) hr0) hc0 (Kd.C_of_reads (d := (0 : Int)) (h1 := fun _ => rfl) hr1) hc1 h).mono ?_
  rintro e w' ⟨rfl, hd⟩
  exact ⟨rfl, hd⟩
end Go.Proofs.Ytoekjicknclooaa.F
end
