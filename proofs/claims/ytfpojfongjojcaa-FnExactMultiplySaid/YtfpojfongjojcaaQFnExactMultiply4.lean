-- Texts of this claim, merged by pack.py (a program of this session's).
import Derived.Test.YtfpojfongjojcaaQFnExactMultiply0

section
namespace Go.Proofs.Ytfpojfongjojcaa.F
open Go.RowKit Go.Proofs.YtfpojfongjojcaaW.PrintWords Go.Proofs.YtfpojfongjojcaaW.PrintLast Go.Proofs.YtfpojfongjojcaaW.PrintMore
attribute [local go_sem] max2_int min2_int max_two min_two max_three min_three max_four min_four   -- for this text's walks alone
set_option linter.unusedVariables false
set_option linter.unusedSimpArgs false

/-! ### impl_filled: function 35 -/
/-- What a function value answers at two numbers. -/
structure Cell2 where
  f : Int → Int → Option Int
section
variable {P : Program} {ops : Array Oper} {Q : Exit → Act → World → Prop}
/-- A call through a function value, as a step of a region. -/
theorem goesV_ {oi : Oper} {N : Option Tmp} {a : Act} {w : World} {K : Act → World → Prop} {o : Operand} {xs_ : Array Operand} {ts : Array TypeId} (g : Nat) (lb : Array Value) (eg : ∀ args w, (callFunc g args).run P w = .ok (.enter g args) w) (args : Array Value)
    (hw : Region.wanted oi (yielded ops a.tmps) = true) (hN : oi.dst = N) (hop : oi.op = .call { callee := .value o, args := xs_, argTypes := ts }) (hv : a.eval o = .func (.func g) #[] lb) (hargs : xs_.map a.eval = args)
    (h : Calls P g (args ++ lb) w fun e w' => ∃ v, e = .returned v ∧ K (a.put N v) w') : if Region.wanted oi (yielded ops a.tmps) = true then Oper.wp P oi a w K Q else K (a.put N undef) w := by
  refine call_ g (args ++ lb) hw hN ?_ h
  unfold execOp
  simp [hop, resolve, Deferred.ofValue, invoke, hv, hargs, eg]
end
mutual
def impl_filled.l0 (cf_ : Cell2) : Nat → Int → Int → Int → Int → Int → Int → List Int → Option (Int × Int × Int × List Int)
  | 0, _, _, _, _, _, _, _ => none
  | k + 1, x2, x16, x17, x103000, x103001, x103002, x103003 => if x17 < x16 then (impl_filled.l1 cf_ k x2 x17 x16 x17 x2 0 x103000 x103001 x103002 x103003) else (some (x103000, x103001, x103002, x103003))
def impl_filled.l1 (cf_ : Cell2) : Nat → Int → Int → Int → Int → Int → Int → Int → Int → Int → List Int → Option (Int × Int × Int × List Int)
  | 0, _, _, _, _, _, _, _, _, _, _ => none
  | k + 1, x2, x10, x16, x17, x20, x21, x103000, x103001, x103002, x103003 => if x21 < x20 then ((cf_.f x10 x21).bind fun t103 => (if x103003.length < 17592186044416 then (impl_filled.l1 cf_ k x2 x10 x16 x17 x20 (wrap64 (x21 + 1)) x103000 x103001 x103002 (x103003 ++ [t103])) else (none))) else (impl_filled.l0 cf_ k x2 x16 (wrap64 (x17 + 1)) x103000 x103001 x103002 x103003)
end
def impl_filled.f (cf_ : Cell2) (k : Nat) (a0 : Int) (a1 : Int) (a2 : Int) (a3 : Int) : Option (Int × Int × Int × List Int) := impl_filled.l0 cf_ k a2 a1 0 a0 a1 a2 ([] : List Int)
theorem impl_filled.mono_l (cf_ : Cell2) : ∀ k, (∀ y0 y1 y2 y3 y4 y5 y6, LeO (impl_filled.l0 cf_ k y0 y1 y2 y3 y4 y5 y6) (impl_filled.l0 cf_ (k + 1) y0 y1 y2 y3 y4 y5 y6)) ∧ (∀ y0 y1 y2 y3 y4 y5 y6 y7 y8 y9, LeO (impl_filled.l1 cf_ k y0 y1 y2 y3 y4 y5 y6 y7 y8 y9) (impl_filled.l1 cf_ (k + 1) y0 y1 y2 y3 y4 y5 y6 y7 y8 y9))
  | 0 => ⟨fun _ _ _ _ _ _ _ r h => by simp [impl_filled.l0] at h, fun _ _ _ _ _ _ _ _ _ _ r h => by simp [impl_filled.l1] at h⟩
  | k + 1 => by
    obtain ⟨ih0, ih1⟩ := impl_filled.mono_l cf_ k
    refine ⟨?_, ?_⟩
    · intro y0 y1 y2 y3 y4 y5 y6
      unfold impl_filled.l0
      repeat' first
      | (with_reducible exact ih0 _ _ _ _ _ _ _)
      | (with_reducible exact ih1 _ _ _ _ _ _ _ _ _ _)
      | (with_reducible exact LeO.refl _)
      | (with_reducible exact LeO.none _)
      | (with_reducible refine LeO.ite ?_ ?_)
      | (with_reducible refine LeO.bind ?_ (fun _ => ?_))
      | exact ih0 _ _ _ _ _ _ _
      | exact ih1 _ _ _ _ _ _ _ _ _ _
      | exact LeO.none _
      | refine LeO.ite ?_ ?_
      | refine LeO.bind ?_ (fun _ => ?_)
    · intro y0 y1 y2 y3 y4 y5 y6 y7 y8 y9
      unfold impl_filled.l1
      repeat' first
      | (with_reducible exact ih0 _ _ _ _ _ _ _)
      | (with_reducible exact ih1 _ _ _ _ _ _ _ _ _ _)
      | (with_reducible exact LeO.refl _)
      | (with_reducible exact LeO.none _)
      | (with_reducible refine LeO.ite ?_ ?_)
      | (with_reducible refine LeO.bind ?_ (fun _ => ?_))
      | exact ih0 _ _ _ _ _ _ _
      | exact ih1 _ _ _ _ _ _ _ _ _ _
      | exact LeO.none _
      | refine LeO.ite ?_ ?_
      | refine LeO.bind ?_ (fun _ => ?_)
theorem impl_filled.mono (cf_ : Cell2) : ∀ a0 a1 a2 a3 k, LeO (impl_filled.f cf_ k a0 a1 a2 a3) (impl_filled.f cf_ (k + 1) a0 a1 a2 a3) := by
  intro a0 a1 a2 a3 k
  obtain ⟨ih0, ih1⟩ := impl_filled.mono_l cf_ k
  unfold impl_filled.f
  repeat' first
      | (with_reducible exact ih0 _ _ _ _ _ _ _)
      | (with_reducible exact ih1 _ _ _ _ _ _ _ _ _ _)
      | (with_reducible exact LeO.refl _)
      | (with_reducible exact LeO.none _)
      | (with_reducible refine LeO.ite ?_ ?_)
      | (with_reducible refine LeO.bind ?_ (fun _ => ?_))
      | exact ih0 _ _ _ _ _ _ _
      | exact ih1 _ _ _ _ _ _ _ _ _ _
      | exact LeO.none _
      | refine LeO.ite ?_ ?_
      | refine LeO.bind ?_ (fun _ => ?_)
def impl_filled.T8 : Bool × List (List Nat × List Nat) := (true, [([], []), ([0], [0]), ([], []), ([], []), ([], []), ([2, 3, 4], [2, 3, 4]), ([5], [5]), ([1, 6, 5], [1, 6]), ([0, 1, 2, 3, 4, 5, 6, 7], []), ([8, 7, 7, 0, 1, 2, 3, 4, 5, 6, 7], [7, 8])])
def impl_filled.B8 : List Nat := [0, 1, 0, 0, 0, 28, 60, 127, 255, 511]
theorem impl_filled.tab8 : rtab .any (opsOf Try.f35 8) = impl_filled.T8 := by kernel_rfl
theorem impl_filled.bits8 : waitsOk impl_filled.T8.2 impl_filled.B8 = true := by kernel_rfl
theorem Z35.bb {w0 w w1 : World} {g : Nat} {o : Obj} (_B : Aside0 (w0.heap[g]? = some o)) (h : w.heap[g]? = some o) (hb : Below w.heap.size w w1) : w1.heap[g]? = some o := blk_below h hb
theorem Z35.bl {w0 w : World} {g : Nat} {o : Obj} (_B : Aside0 (w0.heap[g]? = some o)) (h : w.heap[g]? = some o) : g < w.heap.size := blk_lt h
theorem Z35.k {p : Prop} (h : p) : Aside0 p := ⟨h⟩
theorem Z35.z8 {P : Prop} (h : P := by (repeat (first | (with_reducible first | refine blk_drewN ?_ _ | refine blk_drew ?_ | refine blk_alloc ?_ _) | refine blk_far ?_ NB101_102.out _)); exact BK101.out) : P := h
theorem Z35.z7 {P : Prop} (h : P := by repeat (first | (with_reducible first | exact HB.out | apply below_alloc | apply pw_below_drewN | apply below_drew1) | exact HB.out)) : P := h
theorem Z35.z6 {P : Prop} (h : P := by exact ⟨(blk_cell BK102.out 0).trans rfl, (blk_cell BK102.out 1).trans rfl, (blk_cell BK102.out 2).trans rfl, (blk_cell BK102.out 3).trans rfl⟩) : P := h
theorem Z35.z5 {P : Prop} (h : P := by (with_reducible repeat (first | apply Kd.R_alloc | apply Kd.R_drewN | apply Kd.R_drew)); exact HO_103003.out) : P := h
theorem Z35.z4 {P : Prop} (h : P := by repeat (first | (with_reducible first | exact HB.out | apply below_alloc | apply pw_below_drewN | apply below_drew1 | refine below_set ?_ GE101.out) | exact HB.out)) : P := h
theorem Z35.z3 {P : Prop} (h : P := by (with_reducible repeat (first | refine blk_drewN ?_ _ | refine blk_drew ?_ | refine blk_alloc ?_ _)); exact BK102.out) : P := h
theorem Z35.z2 {P : Prop} (h : P := by simp only [Act.put, List.setIfInBounds_toArray, List.set_cons_zero, List.set_cons_succ, i64_w, i32_w]; rfl) : P := h
theorem Z35.z1 {P : Prop} (h : P := by (with_reducible repeat (first | refine blk_drewN ?_ _ | refine blk_drew ?_ | refine blk_alloc ?_ _)); exact BK101.out) : P := h
theorem Z35.z0 {P : Prop} (h : P := by repeat (first | (with_reducible first | exact HB.out | apply below_alloc | apply pw_below_drewN | apply below_drew1 | refine below_set ?_ GE101.out | refine below_set ?_ GE102.out) | exact HB.out)) : P := h
set_option maxHeartbeats 8000000 in
set_option maxRecDepth 100000 in
theorem impl_filled.calls (cf_ : Cell2) (g_ : Nat) (lb_ : Array Value) (eg_ : ∀ args w, (callFunc g_ args).run Try.prog w = .ok (.enter g_ args) w) (k : Nat) (a0 : Int) (a1 : Int) (a2 : Int) (a3 : Int) (r1 : Int) (r2 : Int) (r3 : Int) (r4 : List Int) (w : World) (hp_ : ∀ (W : World) (i j r : Int), Below w.heap.size w W → cf_.f i j = some r → Calls Try.prog g_ (#[.int .i64 i, .int .i64 j] ++ lb_) W fun e w' => e = .returned (.int .i64 r) ∧ Below W.heap.size W w') (h : impl_filled.f cf_ k a0 a1 a2 a3 = some (r1, r2, r3, r4)) :
  Calls Try.prog 35 #[.int .i64 a0, .int .i64 a1, .int .i64 a2, .func (.func g_) #[] lb_] w fun e w' => ∃ v3_ : Value, e = .returned (.agg #[.int .i64 r1, .int .i64 r2, .int .i64 r3, v3_]) ∧ Kd.R (Kd.int .i64) 2 w' w.heap.size (fun _ => True) v3_ r4 ∧ Below w.heap.size w w' := by
 have hu26 := Try.underlying26
 have HB := Z35.k (Below.refl w.heap.size w)
 have HP_ := Z35.k hp_
 clear hp_
 have H : (impl_filled.l0 cf_ k a2 a1 0 a0 a1 a2 ([] : List Int)) = some (r1, r2, r3, r4) := h
 clear h
 have H' := Z35.k H
 clear H
 go_enter Try.func35, Try.ntmps35
 go_wp2_with (first | ((with_reducible refine gate_dst (N := 8) rfl ?_); refine box_event ?hg (N := 8) ?hd (cs := #[.int .i64 0, .int .i64 0, .int .i64 0, .slice none 0 0]) (t := 26) ?hr ?_; (case hd => rfl); (case hg => rfl); (case hr => first | (go_simp; done) | (go_simp; rfl)); intro gb101 hg w5 hbox hb; have n0_ := Z35.k (below_step Z35.z7 hb); have n1_ := Z35.k (hbox); have n2_ := Z35.k (show w.heap.size ≤ gb101 from (by rw [hg]; exact (below_size Z35.z7))); have n3_ := Z35.k (show w.heap.size ≤ gb101 from (by rw [hg]; exact (below_size Z35.z7))); clear HB; have HB := n0_; have BK101 := n1_; have GW101 := n2_; have GE101 := n3_; clear n0_ n1_ n2_ n3_; clear hb hbox hg) | ((with_reducible refine gate_dst (N := 9) rfl ?_); refine box_event ?hg (N := 9) ?hd (cs := #[.int .i64 0, .int .i64 0, .int .i64 0, .slice none 0 0]) (t := 26) ?hr ?_; (case hd => rfl); (case hg => rfl); (case hr => first | (go_simp; done) | (go_simp; rfl)); intro gb102 hg w6 hbox hb; have n0_ := Z35.k (Z35.bb BK101 Z35.z1 hb); have n1_ := Z35.k (below_step Z35.z4 hb); have n2_ := Z35.k (hbox); have n3_ := Z35.k (show w.heap.size ≤ gb102 from (by rw [hg]; exact (below_size Z35.z4))); have n4_ := Z35.k (show w.heap.size ≤ gb102 from (by rw [hg]; exact (below_size Z35.z4))); have n5_ := Z35.k (show gb101 ≠ gb102 from (by rw [hg]; exact Nat.ne_of_lt (Z35.bl BK101 Z35.z1))); have n6_ := Z35.k (show gb102 ≠ gb101 from (by rw [hg]; exact Nat.ne_of_gt (Z35.bl BK101 Z35.z1))); clear BK101 HB; have BK101 := n0_; have HB := n1_; have BK102 := n2_; have GW102 := n3_; have GE102 := n4_; have NB101_102 := n5_; have NB102_101 := n6_; clear n0_ n1_ n2_ n3_ n4_ n5_ n6_; clear hb hbox hg; have hnb7 := NB102_101.out; have hnc7 := NB101_102.out; have hcz8_0 : w6.cell? ⟨gb102, 0, none⟩ = some (.int .i64 0) := (blk_cell BK102.out 0).trans rfl; have hcz8_1 : w6.cell? ⟨gb102, 1, none⟩ = some (.int .i64 0) := (blk_cell BK102.out 1).trans rfl; have hcz8_2 : w6.cell? ⟨gb102, 2, none⟩ = some (.int .i64 0) := (blk_cell BK102.out 2).trans rfl; have hcz8_3 : w6.cell? ⟨gb102, 3, none⟩ = some (.slice none 0 0) := (blk_cell BK102.out 3).trans rfl; have hfz8_0 := blk_frozen BK102.out 0; have hfz8_1 := blk_frozen BK102.out 1; have hfz8_2 := blk_frozen BK102.out 2; have hfz8_3 := blk_frozen BK102.out 3))
 go_loopg [17] k (fun kq v17 w' => ∃ (x17_1 : Int) (x103003_1 : List Int) (u103003 : Value), v17 = .int .i64 x17_1 ∧ Aside0 (impl_filled.l0 cf_ kq a2 a1 x17_1 a0 a1 a2 x103003_1 = some (r1, r2, r3, r4)) ∧ Aside0 (kq ≤ k) ∧ Aside0 (Kd.R (Kd.int .i64) 2 w' w.heap.size (fun _ => True) u103003 x103003_1) ∧ Aside0 (w'.heap[gb101]? = some (.cells #[.int .i64 0, .int .i64 0, .int .i64 0, (.slice none 0 0)] 26 (0, 0))) ∧ Aside0 (w'.heap[gb102]? = some (.cells #[.int .i64 a0, .int .i64 a1, .int .i64 a2, u103003] 26 (0, 0))) ∧ Aside0 (Below w.heap.size w w'))
 case atStart => exact ⟨(0), (([] : List Int)), (.slice none 0 0), (by first | rfl | (simp; done) | (simp [*]; done)), H', ⟨Nat.le_refl _⟩, ⟨(by first | exact Kd.R_nil _ _ _ _ _ | exact Kd.N_nil _ _ _ _ _ | exact Kd.V_nil _ _ _ _ _ | exact Kd.Q_nil _ _ _ _ _ | exact Kd.S_nil _ _ _ _ _)⟩, ⟨Z35.z8⟩, ⟨(by (with_reducible repeat (first | refine blk_drewN ?_ _ | refine blk_drew ?_ | refine blk_alloc ?_ _)); refine blk_put (cs := #[.int .i64 a0, .int .i64 a1, .int .i64 a2, .slice none 0 0]) ?_ 3 _ rfl; (with_reducible repeat (first | refine blk_drewN ?_ _ | refine blk_drew ?_ | refine blk_alloc ?_ _)); refine blk_put (cs := #[.int .i64 a0, .int .i64 a1, .int .i64 0, .slice none 0 0]) ?_ 2 _ rfl; (with_reducible repeat (first | refine blk_drewN ?_ _ | refine blk_drew ?_ | refine blk_alloc ?_ _)); refine blk_put (cs := #[.int .i64 a0, .int .i64 0, .int .i64 0, .slice none 0 0]) ?_ 1 _ rfl; (with_reducible repeat (first | refine blk_drewN ?_ _ | refine blk_drew ?_ | refine blk_alloc ?_ _)); refine blk_put (cs := #[.int .i64 0, .int .i64 0, .int .i64 0, .slice none 0 0]) ?_ 0 _ rfl; (with_reducible repeat (first | refine blk_drewN ?_ _ | refine blk_drew ?_ | refine blk_alloc ?_ _)); exact BK102.out)⟩, ⟨Z35.z0⟩⟩
 case round =>
  clear H'
  try clear p2
  try clear c3
  try clear c7
  try clear hcz8_0
  try clear hcz8_1
  try clear hcz8_2
  try clear hcz8_3
  try clear hfz8_0
  try clear hfz8_1
  try clear hfz8_2
  try clear hfz8_3
  obtain ⟨x17_1, x103003_1, u103003, rfl, HA, HK1, HO_103003, BK101, BK102, HB⟩ := hrel
  cases gk with
  | zero => exact absurd HA.out (by simp [impl_filled.l0])
  | succ k1 =>
   have H := HA.out
   clear HA
   simp only [impl_filled.l0] at H
   by_cases c9 : x17_1 < a1
   ·rw [if_pos c9] at H
    have c9b0 : decide (x17_1 < a1) = true := decide_eq_true c9
    clear c9
    have H' := Z35.k H
    clear H
    go_wp2
    go_loopg [21] k1 (fun kq v21 w' => ∃ (x21_2 : Int) (x103003_2 : List Int) (u103003 : Value), v21 = .int .i64 x21_2 ∧ Aside0 (impl_filled.l1 cf_ kq a2 x17_1 a1 x17_1 a2 x21_2 a0 a1 a2 x103003_2 = some (r1, r2, r3, r4)) ∧ Aside0 (kq ≤ k1) ∧ Aside0 (Kd.R (Kd.int .i64) 2 w' w.heap.size (fun _ => True) u103003 x103003_2) ∧ Aside0 (w'.heap[gb101]? = some (.cells #[.int .i64 0, .int .i64 0, .int .i64 0, (.slice none 0 0)] 26 (0, 0))) ∧ Aside0 (w'.heap[gb102]? = some (.cells #[.int .i64 a0, .int .i64 a1, .int .i64 a2, u103003] 26 (0, 0))) ∧ Aside0 (Below w.heap.size w w'))
    case atStart => exact ⟨(0), (x103003_1), (u103003), (by first | rfl | (simp; done) | (simp [*]; done)), H', ⟨Nat.le_refl _⟩, ⟨Z35.z5⟩, ⟨Z35.z1⟩, ⟨Z35.z3⟩, ⟨Z35.z0⟩⟩
    case round =>
     clear H'
     try clear p2
     try clear c3
     try clear c7
     try clear c9
     try clear c9b0
     try clear hcz8_0
     try clear hcz8_1
     try clear hcz8_2
     try clear hcz8_3
     try clear hfz8_0
     try clear hfz8_1
     try clear hfz8_2
     try clear hfz8_3
     try clear p2
     obtain ⟨x21_2, x103003_2, u103003, rfl, HA, HK2, HO_103003, BK101, BK102, HB⟩ := hrel
     cases gk with
     | zero => exact absurd HA.out (by simp [impl_filled.l1])
     | succ k2 =>
      have H := HA.out
      clear HA
      simp only [impl_filled.l1] at H
      by_cases c10 : x21_2 < a2
      ·rw [if_pos c10] at H
       have c10b0 : decide (x21_2 < a2) = true := decide_eq_true c10
       clear c10
       replace H := Option.bind_eq_some_iff.mp H
       obtain ⟨t103, A110, H⟩ := H
       replace H : (if x103003_2.length < 17592186044416 then (impl_filled.l1 cf_ k2 a2 x17_1 a1 x17_1 a2 (wrap64 (x21_2 + 1)) a0 a1 a2 (x103003_2 ++ [t103])) else (none)) = some (r1, r2, r3, r4) := H
       have A11 := Z35.k A110
       clear A110
       by_cases c12 : x103003_2.length < 17592186044416
       ·rw [if_pos c12] at H
        have LMc12 := Z35.k c12
        clear c12
        obtain ⟨y104, hy104⟩ : ∃ y_ : List Int, y_ = (x103003_2 ++ [t103]) := ⟨_, rfl⟩
        replace H : (impl_filled.l1 cf_ k2 a2 x17_1 a1 x17_1 a2 (wrap64 (x21_2 + 1)) a0 a1 a2 y104) = some (r1, r2, r3, r4) := by first | (rw [hy104]; with_reducible exact H) | (have H2_ := (Option.bind_some _ _).symm.trans H; rw [hy104]; with_reducible exact H2_) | (have H2_ := (Option.bind_some _ _).symm.trans H; with_reducible exact H2_) | with_reducible exact H | (rw [hy104]; exact H) | exact H
        have Ny104 := Z35.k hy104
        clear hy104
        have H' := Z35.k H
        clear H
        try go_wp2
        have n0_ := Z35.k (Kd.R_drew HO_103003.out)
        have n1_ := Z35.k (blk_drew BK101.out)
        have n2_ := Z35.k (blk_drew BK102.out)
        have n3_ := Z35.k (below_drew1 HB.out)
        clear HO_103003 BK101 BK102 HB
        have HO_103003 := n0_
        have BK101 := n1_
        have BK102 := n2_
        have HB := n3_
        clear n0_ n1_ n2_ n3_
        refine start_ (n := 10) (S := fun w' => w'.cell? ⟨gb102, 0, none⟩ = some (.int .i64 a0) ∧ w'.cell? ⟨gb102, 1, none⟩ = some (.int .i64 a1) ∧ w'.cell? ⟨gb102, 2, none⟩ = some (.int .i64 a2) ∧ w'.cell? ⟨gb102, 3, none⟩ = some (u103003)) (ds := [9]) #[false, false, false, false, false, false, false, false, false, false] (by kernel_rfl) rfl rfl Z35.z6 (fun hHeld => ?_); refine with_tabW impl_filled.tab8 impl_filled.bits8 (fun HT_ HW_ => ?_)
        generalize wr.drew = w13 at HO_103003 BK101 BK102 HB hHeld ⊢
        refine pure_ (i := 0) (N := some 24) (v := ?_) (a' := ?_) #[true, false, false, false, false, false, false, false, false, false] rfl rfl (any_of HT_.out (by kernel_rfl)) (fun _ _ _ h => h) (Or.inl ⟨(by rfl), ?_⟩) ?_ ?_
        rotate_left
        ·intro w'
         go_simp
         with_reducible rfl
        rotate_left
        ·exact Z35.z2
        refine pure_ (i := 2) (N := some 26) (v := ?_) (a' := ?_) #[true, false, true, false, false, false, false, false, false, false] rfl rfl (any_of HT_.out (by kernel_rfl)) (fun _ _ _ h => h) (Or.inl ⟨(by rfl), ?_⟩) ?_ ?_
        rotate_left
        ·intro w'
         go_simp
         with_reducible rfl
        rotate_left
        ·exact Z35.z2
        refine pure_ (i := 3) (N := some 27) (v := ?_) (a' := ?_) #[true, false, true, true, false, false, false, false, false, false] rfl rfl (any_of HT_.out (by kernel_rfl)) (fun _ _ _ h => h) (Or.inl ⟨(by rfl), ?_⟩) ?_ ?_
        rotate_left
        ·intro w'
         go_simp
         with_reducible rfl
        rotate_left
        ·exact Z35.z2
        refine pure_ (i := 4) (N := some 28) (v := ?_) (a' := ?_) #[true, false, true, true, true, false, false, false, false, false] rfl rfl (any_of HT_.out (by kernel_rfl)) (fun _ _ _ h => h) (Or.inl ⟨(by rfl), ?_⟩) ?_ ?_
        rotate_left
        ·intro w'
         go_simp
         with_reducible rfl
        rotate_left
        ·exact Z35.z2
        refine take_ (i := 1) (N := some 25) (v := ?_) (a' := ?_) #[true, true, true, true, true, false, false, false, false, false] rfl rfl (take_ofW HT_.out HW_.out (by kernel_rfl)) (fun _ _ _ h => h) (Or.inl ⟨(by rfl), ?_⟩) hHeld ?_ ?_
        rotate_left
        ·rintro w' ⟨s0, s1, s2, s3⟩
         go_simp
         with_reducible rfl
        rotate_left
        ·exact Z35.z2
        refine one_ (i := 5) (N := some 29) #[true, true, true, true, true, true, false, false, false, false] rfl rfl (one_of HT_.out (by kernel_rfl)) (by decide) (fun K hK => ?_)
        refine goesV_ g_ lb_ eg_ #[.int .i64 x17_1, .int .i64 x21_2] (by rfl) rfl rfl rfl (by (try simp only [List.map_toArray, List.map_cons, List.map_nil]); first | done | rfl | (simp only [List.length_drop, List.length_take]; rfl)) ?_
        with_reducible refine (HP_.out _ x17_1 x21_2 t103 Z35.z0 A11.out).mono ?_
        rintro e w14 ⟨rfl, hb⟩
        refine ⟨_, rfl, ?_⟩
        have n0_ := Z35.k (Kd.R_below Z35.z5 hb)
        have n1_ := Z35.k (Z35.bb BK101 Z35.z1 hb)
        have n2_ := Z35.k (Z35.bb BK102 Z35.z3 hb)
        have n3_ := Z35.k (below_step Z35.z0 hb)
        clear HO_103003 BK101 BK102 HB
        have HO_103003 := n0_
        have BK101 := n1_
        have BK102 := n2_
        have HB := n3_
        clear n0_ n1_ n2_ n3_
        (try clear hb)
        (try clear hb2)
        (try clear hk)
        (try clear hi)
        refine hK.out _ _ Z35.z6 (fun hHeld => ?_)
        clear hK K
        refine norm_ (a' := ?_) ?_ ?_
        rotate_left
        ·show Act.put _ (some 29) _ = _
         simp only [Act.put, List.setIfInBounds_toArray, List.set_cons_zero, List.set_cons_succ, i64_w, i32_w]
         rfl
        refine one_ (i := 6) (N := some 30) #[true, true, true, true, true, true, true, false, false, false] rfl rfl (one_of HT_.out (by kernel_rfl)) (by decide) (fun K hK => ?_)
        refine value_ (w1 := ?_) (v := ?_) (by rfl) rfl ?_ ?_
        rotate_left 2
        ·go_simp
         constructor
         ·rfl
         rfl
        refine hK.out _ _ ⟨(blk_cell (blk_alloc BK102.out _) 0).trans rfl, (blk_cell (blk_alloc BK102.out _) 1).trans rfl, (blk_cell (blk_alloc BK102.out _) 2).trans rfl, (blk_cell (blk_alloc BK102.out _) 3).trans rfl⟩ (fun hHeld => ?_)
        clear hK K
        refine norm_ (a' := ?_) ?_ ?_
        rotate_left
        ·show Act.put _ (some 30) _ = _
         simp only [Act.put, List.setIfInBounds_toArray, List.set_cons_zero, List.set_cons_succ, i64_w, i32_w]
         rfl
        refine one_ (i := 7) (N := some 31) #[true, true, true, true, true, true, true, true, false, false] rfl rfl (one_of HT_.out (by kernel_rfl)) (by decide) (fun K hK => ?_)
        refine Kd.R_append_step (Kd.int .i64) (w0 := w) w.heap.size (by rfl) (.tmp 25) (.tmp 30) 22 2 (.int .i64 0) 8 rfl Try.underlying22 info2 rfl (by decide) (by omega) u103003 x103003_2 t103 [.int .i64 t103] (fun _ => True) (fun _ => False) rfl rfl ?aP (fun _ hk => hk.elim) ?aF ?aO ?aB ?aS ?aL ?_
        (case aP => exact rfl)
        (case aB => exact Z35.z0)
        (case aF => exact (fun _ _ => trivial))
        (case aO => exact Z35.z5)
        (case aS => exact (below_size Z35.z0))
        (case aL => have := LMc12.out; omega)
        intro v105 w15 ho hb hg hat
        rw [← Ny104.out] at ho
        have n0_ := Z35.k (blk_grown (g := gb101) (o := .cells #[.int .i64 0, .int .i64 0, .int .i64 0, .slice none 0 0] 26 (0, 0)) Z35.z1 hg (Kd.R_ne HO_103003.out BK101.out (by decide)))
        have n1_ := Z35.k (blk_grown (g := gb102) (o := .cells #[.int .i64 a0, .int .i64 a1, .int .i64 a2, u103003] 26 (0, 0)) Z35.z3 hg (Kd.R_ne HO_103003.out BK102.out (by decide)))
        have n2_ := Z35.k (hb)
        have n3_ := Z35.k (ho)
        clear BK101 BK102 HB HO_103003
        have BK101 := n0_
        have BK102 := n1_
        have HB := n2_
        have HO106 := n3_
        clear n0_ n1_ n2_ n3_ ho hb hg hat
        obtain ⟨Ao16, co16, eo16⟩ := Kd.R_slice HO106.out
        (first | subst eo16 | (injection eo16 with f1_ f2_ f3_; have f4_ := f1_.symm; have f5_ := f3_.symm; clear f1_ f2_ f3_; subst f4_; subst f5_))
        refine hK.out _ _ Z35.z6 (fun hHeld => ?_)
        clear hK K
        refine norm_ (a' := ?_) ?_ ?_
        rotate_left
        ·show Act.put _ (some 31) _ = _
         simp only [Act.put, List.setIfInBounds_toArray, List.set_cons_zero, List.set_cons_succ, i64_w, i32_w]
         rfl
        refine pure_ (i := 8) (N := some 32) (v := ?_) (a' := ?_) #[true, true, true, true, true, true, true, true, true, false] rfl rfl (any_of HT_.out (by kernel_rfl)) (fun _ _ _ h => h) (Or.inl ⟨(by rfl), ?_⟩) ?_ ?_
        rotate_left
        ·intro w'
         go_simp
         with_reducible rfl
        rotate_left
        ·exact Z35.z2
        refine last_ (i := 9) (N := none) #[true, true, true, true, true, true, true, true, true, true] rfl rfl (one_of HT_.out (by kernel_rfl)) (by decide) (fun K hK => ?_)
        have hs17 : w15.cell? ⟨gb102, 3, none⟩ = some (u103003) := (blk_cell BK102.out 3).trans rfl
        have hfs17 := blk_frozen BK102.out 3
        have hns17_0 := NB101_102.out
        have hms17_0 := NB102_101.out
        refine skip_ (w1 := ?_) (by rfl) rfl ?_ ?_
        rotate_left
        ·go_simp
         rfl
        refine hK.out _ _ ?_
        clear hK K
        refine done_ (done_of HT_.out (by kernel_rfl)) ?_
        try go_wp2
        go_roundg k2
        case measure => have := HK1.out; have := HK2.out; omega
        case rel => exact ⟨(wrap64 (x21_2 + 1)), (y104), (.slice Ao16 y104.length co16), (by first | rfl | (simp; done) | (simp [*]; done)), H', ⟨(by have := HK1.out; have := HK2.out; omega)⟩, ⟨(by (with_reducible repeat (first | apply Kd.R_alloc | apply Kd.R_drewN | apply Kd.R_drew)); exact Kd.R_mono (Kd.R_far (p := ⟨gb102, 3, none⟩) (Kd.R_types HO106.out BK102.out (by decide)) (fun _ hk => hk.2) (.slice Ao16 y104.length co16)) (fun _ hk => trivial))⟩, ⟨Z35.z8⟩, ⟨(by (with_reducible repeat (first | refine blk_drewN ?_ _ | refine blk_drew ?_ | refine blk_alloc ?_ _)); refine blk_put (cs := #[.int .i64 a0, .int .i64 a1, .int .i64 a2, u103003]) ?_ 3 _ rfl; (with_reducible repeat (first | refine blk_drewN ?_ _ | refine blk_drew ?_ | refine blk_alloc ?_ _)); exact BK102.out)⟩, ⟨Z35.z0⟩⟩
       rw [if_neg c12] at H
       exact absurd H (by simp)
      rw [if_neg c10] at H
      have c10b0 : decide (x21_2 < a2) = false := decide_eq_false c10
      clear c10
      have H' := Z35.k H
      clear H
      go_wp2
      go_roundg k2
      case measure => have := HK1.out; have := HK2.out; omega
      case rel => exact ⟨(wrap64 (x17_1 + 1)), (x103003_2), (u103003), (by first | rfl | (simp; done) | (simp [*]; done)), H', ⟨(by have := HK1.out; have := HK2.out; omega)⟩, ⟨Z35.z5⟩, ⟨Z35.z1⟩, ⟨Z35.z3⟩, ⟨Z35.z0⟩⟩
   rw [if_neg c9] at H
   have c9b0 : decide (x17_1 < a1) = false := decide_eq_false c9
   clear c9
   simp only [Option.some.injEq, Prod.mk.injEq] at H
   obtain ⟨rfl, rfl, rfl, rfl⟩ := H
   have hnb18 := NB102_101.out
   have hnc18 := NB101_102.out
   have hcz19_0 : wr.cell? ⟨gb102, 0, none⟩ = some (.int .i64 a0) := (blk_cell BK102.out 0).trans rfl
   have hcz19_1 : wr.cell? ⟨gb102, 1, none⟩ = some (.int .i64 a1) := (blk_cell BK102.out 1).trans rfl
   have hcz19_2 : wr.cell? ⟨gb102, 2, none⟩ = some (.int .i64 a2) := (blk_cell BK102.out 2).trans rfl
   have hcz19_3 : wr.cell? ⟨gb102, 3, none⟩ = some (u103003) := (blk_cell BK102.out 3).trans rfl
   have hfz19_0 := blk_frozen BK102.out 0
   have hfz19_1 := blk_frozen BK102.out 1
   have hfz19_2 := blk_frozen BK102.out 2
   have hfz19_3 := blk_frozen BK102.out 3
   have hcz20_0 : wr.cell? ⟨gb101, 0, none⟩ = some (.int .i64 0) := (blk_cell BK101.out 0).trans rfl
   have hcz20_1 : wr.cell? ⟨gb101, 1, none⟩ = some (.int .i64 0) := (blk_cell BK101.out 1).trans rfl
   have hcz20_2 : wr.cell? ⟨gb101, 2, none⟩ = some (.int .i64 0) := (blk_cell BK101.out 2).trans rfl
   have hcz20_3 : wr.cell? ⟨gb101, 3, none⟩ = some (.slice none 0 0) := (blk_cell BK101.out 3).trans rfl
   have hfz20_0 := blk_frozen BK101.out 0
   have hfz20_1 := blk_frozen BK101.out 1
   have hfz20_2 := blk_frozen BK101.out 2
   have hfz20_3 := blk_frozen BK101.out 3
   obtain ⟨Ao21, co21, eo21⟩ := Kd.R_slice HO_103003.out
   subst eo21
   go_wp2
   refine bodyPost_ret (results_cell_row rfl _ _ gb101 26 #[.int .i64 a0, .int .i64 a1, .int .i64 a2, .slice Ao21 x103003_1.length co21] (0, 0) _ rfl (by (with_reducible repeat (first | refine blk_drewN ?_ _ | refine blk_drew ?_ | refine blk_alloc ?_ _)); refine blk_put (cs := #[.int .i64 a0, .int .i64 a1, .int .i64 a2, .slice none 0 0]) ?_ 3 _ rfl; (with_reducible repeat (first | refine blk_drewN ?_ _ | refine blk_drew ?_ | refine blk_alloc ?_ _)); refine blk_put (cs := #[.int .i64 a0, .int .i64 a1, .int .i64 0, .slice none 0 0]) ?_ 2 _ rfl; (with_reducible repeat (first | refine blk_drewN ?_ _ | refine blk_drew ?_ | refine blk_alloc ?_ _)); refine blk_put (cs := #[.int .i64 a0, .int .i64 0, .int .i64 0, .slice none 0 0]) ?_ 1 _ rfl; (with_reducible repeat (first | refine blk_drewN ?_ _ | refine blk_drew ?_ | refine blk_alloc ?_ _)); refine blk_put (cs := #[.int .i64 0, .int .i64 0, .int .i64 0, .slice none 0 0]) ?_ 0 _ rfl; (with_reducible repeat (first | refine blk_drewN ?_ _ | refine blk_drew ?_ | refine blk_alloc ?_ _)); exact BK101.out) Try.underlying26 rfl (by kernel_rfl)) rfl ?_
   exact ⟨_, (by first | rfl | (simp [errW_none, errW_some] <;> rfl) | (simp [*, errW_none, errW_some] <;> rfl)), (by (with_reducible repeat (first | apply Kd.R_alloc | apply Kd.R_drewN | apply Kd.R_drew)); exact Kd.R_mono (Kd.R_far (p := ⟨gb101, 3, none⟩) (Kd.R_far (p := ⟨gb101, 2, none⟩) (Kd.R_far (p := ⟨gb101, 1, none⟩) (Kd.R_far (p := ⟨gb101, 0, none⟩) (Kd.R_types HO_103003.out BK101.out (by decide)) (fun _ hk => hk.2) (.int .i64 a0)) (fun _ hk => hk.2) (.int .i64 a1)) (fun _ hk => hk.2) (.int .i64 a2)) (fun _ hk => hk.2) (.slice Ao21 x103003_1.length co21)) (fun _ hk => trivial)), Z35.z0⟩

end Go.Proofs.Ytfpojfongjojcaa.F
end

section
namespace Go.Proofs.Ytfpojfongjojcaa.F
open Go.RowKit Go.Proofs.YtfpojfongjojcaaW.PrintWords Go.Proofs.YtfpojfongjojcaaW.PrintLast Go.Proofs.YtfpojfongjojcaaW.PrintMore
attribute [local go_sem] max2_int min2_int max_two min_two max_three min_three max_four min_four   -- for this text's walks alone
set_option linter.unusedVariables false
set_option linter.unusedSimpArgs false

/-! ### impl_dot: function 37 -/
def impl_dot.l0 : Nat → List Int → List Int → Int → Int → Int → Int → Option (Int)
  | 0, _, _, _, _, _, _ => none
  | k + 1, x0, x1, x2, x7, x10, x11 => if x11 < x10 then (if 0 ≤ x11 then (if x11 < (x0.length : Int) then (if x11 < (x1.length : Int) then (if x2 = 0 then (none) else (impl_dot.l0 k x0 x1 x2 (Int.tmod (wrap64 (x7 + (wrap64 ((rd x0 x11) * (rd x1 x11))))) x2) x10 (wrap64 (x11 + 1)))) else (none)) else (none)) else (none)) else (some x7)
def impl_dot.f (k : Nat) (l0 : List Int) (l1 : List Int) (a2 : Int) : Option (Int) := impl_dot.l0 k l0 l1 a2 0 (l0.length : Int) 0
theorem impl_dot.mono_l : ∀ k, (∀ y0 y1 y2 y3 y4 y5, LeO (impl_dot.l0 k y0 y1 y2 y3 y4 y5) (impl_dot.l0 (k + 1) y0 y1 y2 y3 y4 y5))
  | 0 => fun _ _ _ _ _ _ r h => by simp [impl_dot.l0] at h
  | k + 1 => by
    have ih0 := impl_dot.mono_l k
    · intro y0 y1 y2 y3 y4 y5
      unfold impl_dot.l0
      repeat' first
      | (with_reducible exact ih0 _ _ _ _ _ _)
      | (with_reducible exact LeO.refl _)
      | (with_reducible exact LeO.none _)
      | (with_reducible refine LeO.ite ?_ ?_)
      | (with_reducible refine LeO.bind ?_ (fun _ => ?_))
      | exact ih0 _ _ _ _ _ _
      | exact LeO.none _
      | refine LeO.ite ?_ ?_
      | refine LeO.bind ?_ (fun _ => ?_)
theorem impl_dot.mono : ∀ a0 a1 a2 k, LeO (impl_dot.f k a0 a1 a2) (impl_dot.f (k + 1) a0 a1 a2) := by
  intro a0 a1 a2 k
  have ih0 := impl_dot.mono_l k
  unfold impl_dot.f
  repeat' first
      | (with_reducible exact ih0 _ _ _ _ _ _)
      | (with_reducible exact LeO.refl _)
      | (with_reducible exact LeO.none _)
      | (with_reducible refine LeO.ite ?_ ?_)
      | (with_reducible refine LeO.bind ?_ (fun _ => ?_))
      | exact ih0 _ _ _ _ _ _
      | exact LeO.none _
      | refine LeO.ite ?_ ?_
      | refine LeO.bind ?_ (fun _ => ?_)
theorem Z37.z1 {P : Prop} (h : P := by first | (with_reducible assumption) | assumption) : P := h
theorem Z37.z0 {P : Prop} (h : P := by first | rfl | (simp; done) | (simp [*]; done)) : P := h
set_option maxHeartbeats 8000000 in
set_option maxRecDepth 100000 in
theorem impl_dot.calls (k : Nat) (A0 : Option Addr) (c0 : Nat) (l0 : List Int) (A1 : Option Addr) (c1 : Nat) (l1 : List Int) (a2 : Int) (r : Int) (w : World) (hr0 : Kd.C (Kd.int .i64) w A0 l0.length l0) (hc0 : l0.length ≤ c0) (hr1 : Kd.C (Kd.int .i64) w A1 l1.length l1) (hc1 : l1.length ≤ c1) (h : impl_dot.f k l0 l1 a2 = some r) :
  Calls Try.prog 37 #[.slice A0 l0.length c0, .slice A1 l1.length c1, .int .i64 a2] w fun e w' => e = .returned (.int .i64 r) ∧ Drawn0 w w' := by
 have HR0 := Aside0.mk hr0
 have HC0 := Aside0.mk hc0
 clear hr0 hc0
 have HR1 := Aside0.mk hr1
 have HC1 := Aside0.mk hc1
 clear hr1 hc1
 have H : (impl_dot.l0 k l0 l1 a2 0 (l0.length : Int) 0) = some r := h
 clear h
 have H' := Aside0.mk H
 clear H
 go_enter Try.func37, Try.ntmps37
 go_wp2
 repeat (go_quiet (fail); try go_wp2)
 go_loopg [7, 11] k (fun kq v7 v11 w' => ∃ (x7_1 : Int) (x11_1 : Int), v7 = .int .i64 x7_1 ∧ v11 = .int .i64 x11_1 ∧ Aside0 (impl_dot.l0 kq l0 l1 a2 x7_1 (l0.length : Int) x11_1 = some r) ∧ Aside0 (kq ≤ k) ∧ Drawn0 w w')
 case atStart => exact ⟨(0), (0), Z37.z0, Z37.z0, H', ⟨Nat.le_refl _⟩, (by repeat (first | exact Drawn0.refl _ | apply Drawn0.step))⟩
 case round =>
  clear H'
  try clear c1
  try clear p2
  try clear c3
  obtain ⟨x7_1, x11_1, rfl, rfl, HA, HK1, ⟨m1, rfl⟩⟩ := hrel
  cases gk with
  | zero => exact absurd HA.out (by simp [impl_dot.l0])
  | succ k1 =>
   have H := HA.out
   clear HA
   simp only [impl_dot.l0] at H
   by_cases c4 : x11_1 < (l0.length : Int)
   ·rw [if_pos c4] at H
    have c4b0 : decide (x11_1 < (l0.length : Int)) = true := decide_eq_true c4
    clear c4
    by_cases c5 : 0 ≤ x11_1
    ·rw [if_pos c5] at H
     have c5b0 : decide (0 ≤ x11_1) = true := decide_eq_true c5
     clear c5
     by_cases c6 : x11_1 < (l0.length : Int)
     ·rw [if_pos c6] at H
      have c6b0 : decide (x11_1 < (l0.length : Int)) = true := decide_eq_true c6
      clear c6
      by_cases c7 : x11_1 < (l1.length : Int)
      ·rw [if_pos c7] at H
       have c7b0 : decide (x11_1 < (l1.length : Int)) = true := decide_eq_true c7
       clear c7
       by_cases c8 : a2 = 0
       ·rw [if_pos c8] at H
        exact absurd H (by simp)
       rw [if_neg c8] at H
       have c8b0 : (a2 == 0) = false := beq_eq_false_iff_ne.mpr c8
       have c8b1 : (a2 != 0) = true := bne_iff_ne.mpr c8
       have H' := Aside0.mk H
       clear H
       have p101 : 0 ≤ (x11_1 : Int) := of_decide_eq_true Z37.z1
       have q101 : x11_1 < (l0.length : Int) := of_decide_eq_true Z37.z1
       obtain ⟨ad101, e101, hx101_0⟩ := Kd.at_int HR0.out x11_1 p101 q101
       cases e101
       replace p101 := eq_true p101
       replace q101 := eq_true q101
       have p102 : 0 ≤ (x11_1 : Int) := of_decide_eq_true Z37.z1
       have q102 : x11_1 < (l1.length : Int) := of_decide_eq_true Z37.z1
       obtain ⟨ad102, e102, hx102_0⟩ := Kd.at_int HR1.out x11_1 p102 q102
       cases e102
       replace p102 := eq_true p102
       replace q102 := eq_true q102
       go_wp2
       repeat (go_quiet (fail); try go_wp2)
       go_roundg k1
       case measure => have := HK1.out; omega
       case rel => exact ⟨(Int.tmod (wrap64 (x7_1 + (wrap64 ((rd l0 x11_1) * (rd l1 x11_1))))) a2), (wrap64 (x11_1 + 1)), Z37.z0, Z37.z0, H', ⟨(by have := HK1.out; omega)⟩, (by repeat (first | exact Drawn0.refl _ | apply Drawn0.step))⟩
      rw [if_neg c7] at H
      exact absurd H (by simp)
     rw [if_neg c6] at H
     exact absurd H (by simp)
    rw [if_neg c5] at H
    exact absurd H (by simp)
   rw [if_neg c4] at H
   have c4b0 : decide (x11_1 < (l0.length : Int)) = false := decide_eq_false c4
   clear c4
   obtain rfl := Option.some.inj H
   go_wp2
   repeat (go_quiet (fail); try go_wp2)
   go_ret
   exact ⟨Z37.z0, (by repeat (first | exact Drawn0.refl _ | apply Drawn0.step))⟩

end Go.Proofs.Ytfpojfongjojcaa.F
end

section
namespace Go.Proofs.Ytfpojfongjojcaa.F
open Go.RowKit Go.Proofs.YtfpojfongjojcaaW.PrintWords Go.Proofs.YtfpojfongjojcaaW.PrintLast Go.Proofs.YtfpojfongjojcaaW.PrintMore
attribute [local go_sem] max2_int min2_int max_two min_two max_three min_three max_four min_four   -- for this text's walks alone
set_option linter.unusedVariables false
set_option linter.unusedSimpArgs false

/-! ### impl_Matrix_row: function 38: ours -/
/-- What a row of a matrix and a list make (the row is cut out of the matrix). -/
def impl_Matrix_row.f (k : Nat) (p r c : Int) (l : List Int) (i : Int) (v : List Int) (q : Int) : Option Int :=
  if 0 ≤ wrap64 (i * c) then (if wrap64 (i * c) ≤ wrap64 (wrap64 (i + 1) * c) then (if wrap64 (wrap64 (i + 1) * c) ≤ (l.length : Int) then impl_dot.f k ((l.take (wrap64 (wrap64 (i + 1) * c)).toNat).drop (wrap64 (i * c)).toNat) v q else none) else none) else none
theorem impl_Matrix_row.mono : ∀ p r c l i v q k, LeO (impl_Matrix_row.f k p r c l i v q) (impl_Matrix_row.f (k + 1) p r c l i v q) := by
  intro p r c l i v q k
  unfold impl_Matrix_row.f
  refine LeO.ite (LeO.ite (LeO.ite (impl_dot.mono _ _ _ _) (LeO.refl _)) (LeO.refl _)) (LeO.refl _)
set_option maxHeartbeats 4000000 in
set_option maxRecDepth 100000 in
theorem impl_Matrix_row.calls (p r c : Int) (A : Option Addr) (cap : Nat) (l : List Int) (i : Int) (w : World) (hr : Kd.C (Kd.int .i64) w A l.length l) (hc : l.length ≤ cap)
  (h0 : 0 ≤ wrap64 (i * c)) (h1 : wrap64 (i * c) ≤ wrap64 (wrap64 (i + 1) * c)) (h2 : wrap64 (wrap64 (i + 1) * c) ≤ (l.length : Int)) :
  Calls Try.prog 38 #[.agg #[.int .i64 p, .int .i64 r, .int .i64 c, .slice A l.length cap], .int .i64 i] w fun e w' => ∃ A' c', e = .returned (.slice A' ((l.take (wrap64 (wrap64 (i + 1) * c)).toNat).drop (wrap64 (i * c)).toNat).length c') ∧
   Kd.C (Kd.int .i64) w' A' ((l.take (wrap64 (wrap64 (i + 1) * c)).toNat).drop (wrap64 (i * c)).toNat).length ((l.take (wrap64 (wrap64 (i + 1) * c)).toNat).drop (wrap64 (i * c)).toNat) ∧ ((l.take (wrap64 (wrap64 (i + 1) * c)).toNat).drop (wrap64 (i * c)).toNat).length ≤ c' ∧ Below w.heap.size w w' := by
 have hu26 := Try.underlying26
 obtain ⟨lo, hlo⟩ : ∃ j_ : Int, wrap64 (i * c) = j_ := ⟨_, rfl⟩
 obtain ⟨i1, hi1⟩ : ∃ j_ : Int, wrap64 (i + 1) = j_ := ⟨_, rfl⟩
 obtain ⟨hi, hhi⟩ : ∃ j_ : Int, wrap64 (i1 * c) = j_ := ⟨_, rfl⟩
 rw [hlo] at h0
 rw [hlo, hi1, hhi] at h1
 rw [hi1, hhi] at h2
 rw [hlo, hi1, hhi]
 have hlow : IntKind.i64.wrap (i * c) = lo := (i64_w _).trans hlo
 have hi1w : IntKind.i64.wrap (i + 1) = i1 := (i64_w _).trans hi1
 have hhiw : IntKind.i64.wrap (i1 * c) = hi := (i64_w _).trans hhi
 obtain ⟨i033, hi033, _, hsz33, _⟩ := info_parts info2
 obtain ⟨A33, hcut33, hA33, hC33⟩ := print_mid_of (P := Try.prog) (Value.int .i64) 0 22 2 .i64 .i64 Try.underlying22 hi033 hsz33 A cap l lo hi h0 h1 h2 hc
 have HR := Aside0.mk (Kd.C_of_reads (h1 := fun _ => rfl) (hA33 _ (Kd.reads_of_C hr)) : Kd.C (Kd.int .i64) w A33 ((l.take hi.toNat).drop lo.toNat).length ((l.take hi.toNat).drop lo.toNat))
 have HL := Aside0.mk hC33
 clear hA33 hC33 hi033 hsz33 h0 h1 h2 hr hc hlo hi1 hhi
 generalize (l.take hi.toNat).drop lo.toNat = z at HR HL hcut33 ⊢
 go_enter Try.func38, Try.ntmps38
 go_wp2_with (first | ((with_reducible refine gate_dst (N := 2) rfl ?_); refine box_event ?hg (N := 2) ?hd (cs := #[.int .i64 p, .int .i64 r, .int .i64 c, .slice A l.length cap]) (t := 26) ?hr ?_; (case hd => rfl); (case hg => rfl); (case hr => first | (go_simp; done) | (go_simp; rfl)); intro gb hg w1 hbox hb; have hcz_0 : w1.cell? ⟨gb, 0, none⟩ = some (.int .i64 p) := (blk_cell hbox 0).trans rfl; have hcz_1 : w1.cell? ⟨gb, 1, none⟩ = some (.int .i64 r) := (blk_cell hbox 1).trans rfl; have hcz_2 : w1.cell? ⟨gb, 2, none⟩ = some (.int .i64 c) := (blk_cell hbox 2).trans rfl; have hcz_3 : w1.cell? ⟨gb, 3, none⟩ = some (.slice A l.length cap) := (blk_cell hbox 3).trans rfl; have HR1 := Aside0.mk (Kd.C_below HR.out hb); have HB1 := Aside0.mk hb; clear hb hbox hg))
 go_ret
 exact ⟨A33, _, rfl, HR1.out, HL.out, HB1.out⟩
theorem impl_Matrix_row.parts {k : Nat} {p r c : Int} {l : List Int} {i : Int} {v : List Int} {q t : Int} (h : impl_Matrix_row.f k p r c l i v q = some t) :
    0 ≤ wrap64 (i * c) ∧ wrap64 (i * c) ≤ wrap64 (wrap64 (i + 1) * c) ∧ wrap64 (wrap64 (i + 1) * c) ≤ (l.length : Int) ∧ impl_dot.f k ((l.take (wrap64 (wrap64 (i + 1) * c)).toNat).drop (wrap64 (i * c)).toNat) v q = some t := by
  unfold impl_Matrix_row.f at h
  by_cases h0 : 0 ≤ wrap64 (i * c)
  · rw [if_pos h0] at h
    by_cases h1 : wrap64 (i * c) ≤ wrap64 (wrap64 (i + 1) * c)
    · rw [if_pos h1] at h
      by_cases h2 : wrap64 (wrap64 (i + 1) * c) ≤ (l.length : Int)
      · rw [if_pos h2] at h
        exact ⟨h0, h1, h2, h⟩
      · rw [if_neg h2] at h; cases h
    · rw [if_neg h1] at h; cases h
  · rw [if_neg h0] at h; cases h

end Go.Proofs.Ytfpojfongjojcaa.F
end

section
namespace Go.Proofs.Ytfpojfongjojcaa.F
open Go.RowKit Go.Proofs.YtfpojfongjojcaaW.PrintWords Go.Proofs.YtfpojfongjojcaaW.PrintLast Go.Proofs.YtfpojfongjojcaaW.PrintMore
attribute [local go_sem] max2_int min2_int max_two min_two max_three min_three max_four min_four   -- for this text's walks alone
set_option linter.unusedVariables false
set_option linter.unusedSimpArgs false

/-! ### slices_Clone_int64_int64: function 56: ours -/
/-- A row of a matrix in memory of its own (the row is cut out of the matrix). -/
def slices_Clone_int64_int64.f (p r c : Int) (l : List Int) (i : Int) : Option (List Int) :=
  if 0 ≤ wrap64 (i * c) then (if wrap64 (i * c) ≤ wrap64 (wrap64 (i + 1) * c) then (if wrap64 (wrap64 (i + 1) * c) ≤ (l.length : Int) then (if ((l.take (wrap64 (wrap64 (i + 1) * c)).toNat).drop (wrap64 (i * c)).toNat).length < 17592186044416 then some ((l.take (wrap64 (wrap64 (i + 1) * c)).toNat).drop (wrap64 (i * c)).toNat) else none) else none) else none) else none
theorem slices_Clone_int64_int64.parts {p r c : Int} {l : List Int} {i : Int} {t : List Int} (h : slices_Clone_int64_int64.f p r c l i = some t) :
    0 ≤ wrap64 (i * c) ∧ wrap64 (i * c) ≤ wrap64 (wrap64 (i + 1) * c) ∧ wrap64 (wrap64 (i + 1) * c) ≤ (l.length : Int) ∧ (l.take (wrap64 (wrap64 (i + 1) * c)).toNat).drop (wrap64 (i * c)).toNat = t ∧ t.length < 17592186044416 := by
  unfold slices_Clone_int64_int64.f at h
  by_cases h0 : 0 ≤ wrap64 (i * c)
  · rw [if_pos h0] at h
    by_cases h1 : wrap64 (i * c) ≤ wrap64 (wrap64 (i + 1) * c)
    · rw [if_pos h1] at h
      by_cases h2 : wrap64 (wrap64 (i + 1) * c) ≤ (l.length : Int)
      · rw [if_pos h2] at h
        by_cases h3 : ((l.take (wrap64 (wrap64 (i + 1) * c)).toNat).drop (wrap64 (i * c)).toNat).length < 17592186044416
        · rw [if_pos h3] at h
          obtain rfl := Option.some.inj h
          exact ⟨h0, h1, h2, rfl, h3⟩
        · rw [if_neg h3] at h; cases h
      · rw [if_neg h2] at h; cases h
    · rw [if_neg h1] at h; cases h
  · rw [if_neg h0] at h; cases h
theorem slices_Clone_int64_int64.nil0 (c : Nat) (W : World) : (binOp .eql 22 (.slice none 0 c) (.slice none 0 0)).run Try.prog W = .ok (.bool true) W := by
  first | rfl | (simp [binOp, Try.underlying22]; done) | (simp [binOp]; done)
theorem slices_Clone_int64_int64.nil1 (a : Addr) (n c : Nat) (W : World) : (binOp .eql 22 (.slice (some a) n c) (.slice none 0 0)).run Try.prog W = .ok (.bool false) W := by
  first | rfl | (simp [binOp, Try.underlying22]; done) | (simp [binOp]; done)
theorem Z56.z0 {P : Prop} (h : P := by repeat (first | (with_reducible first | exact HB.out | apply below_alloc | apply pw_below_drewN | apply below_drew1) | exact HB.out)) : P := h
set_option maxHeartbeats 4000000 in
set_option maxRecDepth 100000 in
theorem slices_Clone_int64_int64.calls (A : Option Addr) (c : Nat) (l : List Int) (w : World) (hr : Kd.C (Kd.int .i64) w A l.length l) (hc : l.length ≤ c) (hlen : l.length < 17592186044416) :
  Calls Try.prog 56 #[.slice A l.length c] w fun e w' => ∃ v0_ : Value, e = .returned v0_ ∧ Kd.R (Kd.int .i64) 2 w' w.heap.size (fun _ => True) v0_ l ∧ Below w.heap.size w w' := by
 cases A with
 | none =>
  have h0 : l = [] := by
   rcases Nat.eq_zero_or_pos l.length with e | e
   ·exact List.eq_nil_of_length_eq_zero e
   obtain ⟨a, ha, _⟩ := hr.2.2 e
   cases ha
  subst h0
  clear hr hlen
  have hq := fun W => slices_Clone_int64_int64.nil0 c W
  go_enter Try.func56, Try.ntmps56
  go_wp2
  go_ret
  exact ⟨_, rfl, Kd.R_nil _ _ _ _ _, (by repeat (first | exact Below.refl _ _ | apply below_drew1 | apply pw_below_drewN))⟩
 | some ad =>
  have HR0 := Aside0.mk hr
  have HC0 := Aside0.mk hc
  have HL := Aside0.mk hlen
  clear hr hc hlen
  have HB := Aside0.mk (Below.refl w.heap.size w)
  have hq := fun W => slices_Clone_int64_int64.nil1 ad l.length c W
  go_enter Try.func56, Try.ntmps56
  go_wp2_with (first | ((with_reducible refine gate_dst (N := 5) rfl ?_); refine Kd.R_lit (Kd.int .i64) _ 2 ?hg (N := 5) ?hd (xs := ([] : List Int)) (inner := []) (ok := fun _ => True) (okp := fun _ => True) ?hr ?hp (fun _ hk => hk) trivial (Below.refl _ _) (Nat.le_refl _) (by simp) ?_; (case hd => rfl); (case hg => rfl); (case hr => first | (go_simp; done) | (go_simp; rfl)); (case hp => exact (Reps.none _ _)); intro v102 w3 ho4 hb hg_ hnew_; clear hg_ hnew_; have n0_ := Aside0.mk (Kd.R_lower ho4 (below_size Z56.z0)); have n1_ := Aside0.mk (below_step Z56.z0 hb); clear HB; have HO103 := n0_; have HB := n1_; clear n0_ n1_; clear hb ho4) | ((with_reducible refine gate_builtin (b := .append) (xs := #[.tmp 5, .tmp 6]) rfl ?_); at_builtin; refine Kd.R_append_rows (Kd.int .i64) (w0 := w) w.heap.size rfl (.tmp 5) (.tmp 6) 22 2 (.int .i64 0) 8 rfl Try.underlying22 info2 rfl (by decide) (by omega) v102 ([] : List Int) l _ _ _ (fun _ => True) (fun _ => False) rfl rfl ?aO ?aR (fun _ _ h => h) (fun _ h => h.elim) ?aF ?aB ?aS ?aL ?_; (case aR => repeat (first | exact (Kd.C_below HR0.out HB.out) | (with_reducible refine Kd.C_alloc ?_ _) | (with_reducible refine Kd.C_drewN ?_ _) | (with_reducible refine Kd.C_drew ?_))); (case aB => exact Z56.z0); (case aF => exact (fun _ _ => trivial)); (case aO => exact (by (with_reducible repeat (first | apply Kd.R_alloc | apply Kd.R_drewN | apply Kd.R_drew)); exact HO103.out)); (case aS => exact (below_size Z56.z0)); (case aL => have := HL.out; simp only [List.length_nil]; omega); intro v105 w5 ho hb hg hat; rw [List.nil_append] at ho; have n0_ := Aside0.mk (hb); have n1_ := Aside0.mk (ho); clear HB HO103; have HB := n0_; have HO106 := n1_; clear n0_ n1_; clear ho hb hg hat))
  go_ret
  exact ⟨_, rfl, (by (with_reducible repeat (first | apply Kd.R_alloc | apply Kd.R_drewN | apply Kd.R_drew)); exact HO106.out), Z56.z0⟩

end Go.Proofs.Ytfpojfongjojcaa.F
end

section
namespace Go.Proofs.Ytfpojfongjojcaa.F
open Go.RowKit Go.Proofs.YtfpojfongjojcaaW.PrintWords Go.Proofs.YtfpojfongjojcaaW.PrintLast Go.Proofs.YtfpojfongjojcaaW.PrintMore
attribute [local go_sem] max2_int min2_int max_two min_two max_three min_three max_four min_four   -- for this text's walks alone
set_option linter.unusedVariables false
set_option linter.unusedSimpArgs false

/-! ### impl_rowsOf: function 43 -/
def impl_rowsOf.l0 : Nat → List (List Int) → Int → Int → Int → Int → Int → List Int → Option ((List (List Int)))
  | 0, _, _, _, _, _, _, _ => none
  | k + 1, x3, x6, x7, x102000, x102001, x102002, x102003 => if x7 < x6 then ((slices_Clone_int64_int64.f x102000 x102001 x102002 x102003 x7).bind fun t102 => (if x3.length < 5864062014805 then (impl_rowsOf.l0 k (x3 ++ [t102]) x6 (wrap64 (x7 + 1)) x102000 x102001 x102002 x102003) else (none))) else (some x3)
def impl_rowsOf.f (k : Nat) (a0_0 : Int) (a0_1 : Int) (a0_2 : Int) (l0_3 : List Int) : Option ((List (List Int))) := impl_rowsOf.l0 k ([] : List (List Int)) a0_1 0 a0_0 a0_1 a0_2 l0_3
theorem impl_rowsOf.mono_l : ∀ k, (∀ y0 y1 y2 y3 y4 y5 y6, LeO (impl_rowsOf.l0 k y0 y1 y2 y3 y4 y5 y6) (impl_rowsOf.l0 (k + 1) y0 y1 y2 y3 y4 y5 y6))
  | 0 => fun _ _ _ _ _ _ _ r h => by simp [impl_rowsOf.l0] at h
  | k + 1 => by
    have ih0 := impl_rowsOf.mono_l k
    · intro y0 y1 y2 y3 y4 y5 y6
      unfold impl_rowsOf.l0
      repeat' first
      | (with_reducible exact ih0 _ _ _ _ _ _ _)
      | (with_reducible exact LeO.refl _)
      | (with_reducible exact LeO.none _)
      | (with_reducible refine LeO.ite ?_ ?_)
      | (with_reducible refine LeO.bind ?_ (fun _ => ?_))
      | exact ih0 _ _ _ _ _ _ _
      | exact LeO.none _
      | refine LeO.ite ?_ ?_
      | refine LeO.bind ?_ (fun _ => ?_)
theorem impl_rowsOf.mono : ∀ a0 a1 a2 a3 k, LeO (impl_rowsOf.f k a0 a1 a2 a3) (impl_rowsOf.f (k + 1) a0 a1 a2 a3) := by
  intro a0 a1 a2 a3 k
  have ih0 := impl_rowsOf.mono_l k
  unfold impl_rowsOf.f
  repeat' first
      | (with_reducible exact ih0 _ _ _ _ _ _ _)
      | (with_reducible exact LeO.refl _)
      | (with_reducible exact LeO.none _)
      | (with_reducible refine LeO.ite ?_ ?_)
      | (with_reducible refine LeO.bind ?_ (fun _ => ?_))
      | exact ih0 _ _ _ _ _ _ _
      | exact LeO.none _
      | refine LeO.ite ?_ ?_
      | refine LeO.bind ?_ (fun _ => ?_)
theorem Z43.bb {w0 w w1 : World} {g : Nat} {o : Obj} (_B : Aside0 (w0.heap[g]? = some o)) (h : w.heap[g]? = some o) (hb : Below w.heap.size w w1) : w1.heap[g]? = some o := blk_below h hb
theorem Z43.bl {w0 w : World} {g : Nat} {o : Obj} (_B : Aside0 (w0.heap[g]? = some o)) (h : w.heap[g]? = some o) : g < w.heap.size := blk_lt h
theorem Z43.z4 {P : Prop} (h : P := by (try simp only [List.map_toArray, List.map_cons, List.map_nil]); first | done | rfl | (simp only [List.length_drop, List.length_take]; rfl)) : P := h
theorem Z43.z3 {P : Prop} (h : P := by (with_reducible repeat (first | apply Kd.S_alloc | apply Kd.S_drewN | apply Kd.S_drew)); exact HO_3.out) : P := h
theorem Z43.z2 {P : Prop} (h : P := by repeat (first | (with_reducible first | exact HB.out | apply below_alloc | apply pw_below_drewN | apply below_drew1) | exact HB.out)) : P := h
theorem Z43.z1 {P : Prop} (h : P := by (with_reducible repeat (first | refine blk_drewN ?_ _ | refine blk_drew ?_ | refine blk_alloc ?_ _)); exact BK101.out) : P := h
theorem Z43.z0 {P : Prop} (h : P := by repeat (first | (with_reducible first | exact HB.out | apply below_alloc | apply pw_below_drewN | apply below_drew1 | refine below_set ?_ GE101.out) | exact HB.out)) : P := h
set_option maxHeartbeats 8000000 in
set_option maxRecDepth 100000 in
theorem impl_rowsOf.calls (k : Nat) (a0_0 : Int) (a0_1 : Int) (a0_2 : Int) (A0_3 : Option Addr) (c0_3 : Nat) (l0_3 : List Int) (r : List (List Int)) (w : World) (hr0_3 : Kd.C (Kd.int .i64) w A0_3 l0_3.length l0_3) (hc0_3 : l0_3.length ≤ c0_3) (h : impl_rowsOf.f k a0_0 a0_1 a0_2 l0_3 = some r) :
  Calls Try.prog 43 #[.agg #[.int .i64 a0_0, .int .i64 a0_1, .int .i64 a0_2, .slice A0_3 l0_3.length c0_3]] w fun e w' => ∃ v0_ : Value, e = .returned (v0_) ∧ Kd.S (Kd.slice 2 (Kd.int .i64)) 22 w' w.heap.size (fun _ => True) v0_ r ∧ Below w.heap.size w w' := by
 have hu26 := Try.underlying26
 have HR0_3 := Aside0.mk hr0_3
 have HC0_3 := Aside0.mk hc0_3
 clear hr0_3 hc0_3
 have HB := Aside0.mk (Below.refl w.heap.size w)
 have H : (impl_rowsOf.l0 k ([] : List (List Int)) a0_1 0 a0_0 a0_1 a0_2 l0_3) = some r := h
 clear h
 have H' := Aside0.mk H
 clear H
 go_enter Try.func43, Try.ntmps43
 go_wp2_with (first | ((with_reducible refine gate_dst (N := 1) rfl ?_); refine box_event ?hg (N := 1) ?hd (cs := #[.int .i64 a0_0, .int .i64 a0_1, .int .i64 a0_2, .slice A0_3 l0_3.length c0_3]) (t := 26) ?hr ?_; (case hd => rfl); (case hg => rfl); (case hr => first | (go_simp; done) | (go_simp; rfl)); intro gb101 hg w2 hbox hb; have n0_ := Aside0.mk (below_step Z43.z2 hb); have n1_ := Aside0.mk (hbox); have n2_ := Aside0.mk (show w.heap.size ≤ gb101 from (by rw [hg]; exact (below_size Z43.z2))); have n3_ := Aside0.mk (show w.heap.size ≤ gb101 from (by rw [hg]; exact (below_size Z43.z2))); clear HB; have HB := n0_; have BK101 := n1_; have GW101 := n2_; have GE101 := n3_; clear n0_ n1_ n2_ n3_; clear hb hbox hg; have hcz3_0 : w2.cell? ⟨gb101, 0, none⟩ = some (.int .i64 a0_0) := (blk_cell BK101.out 0).trans rfl; have hcz3_1 : w2.cell? ⟨gb101, 1, none⟩ = some (.int .i64 a0_1) := (blk_cell BK101.out 1).trans rfl; have hcz3_2 : w2.cell? ⟨gb101, 2, none⟩ = some (.int .i64 a0_2) := (blk_cell BK101.out 2).trans rfl; have hcz3_3 : w2.cell? ⟨gb101, 3, none⟩ = some (.slice A0_3 l0_3.length c0_3) := (blk_cell BK101.out 3).trans rfl; have hfz3_0 := blk_frozen BK101.out 0; have hfz3_1 := blk_frozen BK101.out 1; have hfz3_2 := blk_frozen BK101.out 2; have hfz3_3 := blk_frozen BK101.out 3))
 go_loopg [3, 7] k (fun kq v3 v7 w' => ∃ (x3_1 : List (List Int)) (x7_1 : Int), v7 = .int .i64 x7_1 ∧ Aside0 (impl_rowsOf.l0 kq x3_1 a0_1 x7_1 a0_0 a0_1 a0_2 l0_3 = some r) ∧ Aside0 (kq ≤ k) ∧ Aside0 (Kd.S (Kd.slice 2 (Kd.int .i64)) 22 w' w.heap.size (fun _ => True) v3 x3_1) ∧ Aside0 (w'.heap[gb101]? = some (.cells #[.int .i64 a0_0, .int .i64 a0_1, .int .i64 a0_2, (.slice A0_3 l0_3.length c0_3)] 26 (0, 0))) ∧ Aside0 (Below w.heap.size w w'))
 case atStart => exact ⟨(([] : List (List Int))), (0), (by first | rfl | (simp; done) | (simp [*]; done)), H', ⟨Nat.le_refl _⟩, ⟨(by first | exact Kd.S_nil _ _ _ _ _ | exact Kd.N_nil _ _ _ _ _ | exact Kd.V_nil _ _ _ _ _ | exact Kd.Q_nil _ _ _ _ _ | exact Kd.R_nil _ _ _ _ _)⟩, ⟨Z43.z1⟩, ⟨Z43.z0⟩⟩
 case round =>
  clear H'
  try clear p2
  try clear hcz3_0
  try clear hcz3_1
  try clear hcz3_2
  try clear hcz3_3
  try clear hfz3_0
  try clear hfz3_1
  try clear hfz3_2
  try clear hfz3_3
  obtain ⟨x3_1, x7_1, rfl, HA, HK1, HO_3, BK101, HB⟩ := hrel
  cases gk with
  | zero => exact absurd HA.out (by simp [impl_rowsOf.l0])
  | succ k1 =>
   have H := HA.out
   clear HA
   simp only [impl_rowsOf.l0] at H
   by_cases c4 : x7_1 < a0_1
   ·rw [if_pos c4] at H
    have c4b0 : decide (x7_1 < a0_1) = true := decide_eq_true c4
    clear c4
    replace H := Option.bind_eq_some_iff.mp H
    obtain ⟨t102, A50, H⟩ := H
    replace H : (if x3_1.length < 5864062014805 then (impl_rowsOf.l0 k1 (x3_1 ++ [t102]) a0_1 (wrap64 (x7_1 + 1)) a0_0 a0_1 a0_2 l0_3) else (none)) = some r := H
    have A5 := Aside0.mk A50
    clear A50
    by_cases c6 : x3_1.length < 5864062014805
    ·rw [if_pos c6] at H
     have LMc6 := Aside0.mk c6
     clear c6
     obtain ⟨y105, hy105⟩ : ∃ y_ : List (List Int), y_ = (x3_1 ++ [t102]) := ⟨_, rfl⟩
     replace H : (impl_rowsOf.l0 k1 y105 a0_1 (wrap64 (x7_1 + 1)) a0_0 a0_1 a0_2 l0_3) = some r := by first | (rw [hy105]; with_reducible exact H) | (have H2_ := (Option.bind_some _ _).symm.trans H; rw [hy105]; with_reducible exact H2_) | (have H2_ := (Option.bind_some _ _).symm.trans H; with_reducible exact H2_) | with_reducible exact H | (rw [hy105]; exact H) | exact H
     have Ny105 := Aside0.mk hy105
     clear hy105
     have H' := Aside0.mk H
     clear H
     have hcz7_0 : wr.cell? ⟨gb101, 0, none⟩ = some (.int .i64 a0_0) := (blk_cell BK101.out 0).trans rfl
     have hcz7_1 : wr.cell? ⟨gb101, 1, none⟩ = some (.int .i64 a0_1) := (blk_cell BK101.out 1).trans rfl
     have hcz7_2 : wr.cell? ⟨gb101, 2, none⟩ = some (.int .i64 a0_2) := (blk_cell BK101.out 2).trans rfl
     have hcz7_3 : wr.cell? ⟨gb101, 3, none⟩ = some (.slice A0_3 l0_3.length c0_3) := (blk_cell BK101.out 3).trans rfl
     have hfz7_0 := blk_frozen BK101.out 0
     have hfz7_1 := blk_frozen BK101.out 1
     have hfz7_2 := blk_frozen BK101.out 2
     have hfz7_3 := blk_frozen BK101.out 3
     have AP := Aside0.mk (slices_Clone_int64_int64.parts A5.out)
     go_wp2_with (first | ((with_reducible refine gate_callee (f := 38) rfl ?_); refine goesL_ (some 13) rfl rfl Try.func38 (by kernel_rfl) rfl #[.agg #[.int .i64 a0_0, .int .i64 a0_1, .int .i64 a0_2, .slice A0_3 l0_3.length c0_3], .int .i64 x7_1] rfl Z43.z4 ?_; (with_reducible refine (impl_Matrix_row.calls a0_0 a0_1 a0_2 _ _ l0_3 x7_1 _ ?side1 ?side2 AP.out.1 AP.out.2.1 AP.out.2.2.1).mono ?_); (case side1 => exact (by repeat (first | exact (Kd.C_below HR0_3.out HB.out) | (with_reducible refine Kd.C_alloc ?_ _) | (with_reducible refine Kd.C_drewN ?_ _) | (with_reducible refine Kd.C_drew ?_)))); (case side2 => exact HC0_3.out); rintro e w8a ⟨Ar, cr, rfl, HRr, HLr, hb⟩; rw [AP.out.2.2.2.1] at HRr HLr ⊢; have HRr := Aside0.mk HRr; have HLr := Aside0.mk HLr; refine ⟨_, rfl, ?_⟩; have n0_ := Aside0.mk (Kd.S_below Z43.z3 hb); have n1_ := Aside0.mk (Z43.bb BK101 Z43.z1 hb); have n2_ := Aside0.mk (below_step Z43.z0 hb); clear HO_3 BK101 HB; have HO_3 := n0_; have BK101 := n1_; have HB := n2_; clear n0_ n1_ n2_; clear hb) | ((with_reducible refine gate_callee (f := 56) rfl ?_); refine goesL_ (some 14) rfl rfl Try.func56 (by kernel_rfl) rfl #[.slice Ar _ cr] rfl Z43.z4 ?_; (with_reducible refine (slices_Clone_int64_int64.calls Ar cr t102 _ ?side1 ?side2 AP.out.2.2.2.2).mono ?_); (case side1 => exact (by repeat (first | exact HRr.out | (with_reducible refine Kd.C_alloc ?_ _) | (with_reducible refine Kd.C_drewN ?_ _) | (with_reducible refine Kd.C_drew ?_)))); (case side2 => exact HLr.out); rintro e w8 ⟨v103, rfl, ho0, hb⟩; refine ⟨_, rfl, ?_⟩; have n0_ := Aside0.mk (Kd.S_elder' Z43.z3 (Kd.R_base ho0) hb); have n1_ := Aside0.mk (Kd.R_lower ho0 (below_size Z43.z0)); have n2_ := Aside0.mk (Z43.bb BK101 Z43.z1 hb); have n3_ := Aside0.mk (below_step Z43.z0 hb); clear HO_3 BK101 HB; have HO_3 := n0_; have HO104 := n1_; have BK101 := n2_; have HB := n3_; clear n0_ n1_ n2_ n3_; (try clear hb); (try clear hb2); (try clear hk); (try clear hi); (try clear ho0); obtain ⟨Ao10, co10, eo10⟩ := Kd.R_slice HO104.out; subst eo10) | ((with_reducible refine gate_builtin (b := .append) (xs := #[.tmp 10, .tmp 15]) rfl ?_); at_builtin; refine Kd.S_append (Kd.slice 2 (Kd.int .i64)) (w0 := w) w.heap.size rfl (.tmp 10) (.tmp 15) 54 22 (.slice none 0 0) 24 rfl Try.underlying54 info22 rfl (by decide) (by omega) u3 x3_1 t102 [.slice Ao10 t102.length co10] (fun _ => True) (fun k_ => some k_ = (.slice Ao10 t102.length co10 : Value).ownBlock) rfl rfl ?aP (fun k_ hk_ => ((Kd.R_mono (ok' := fun k_ => ((fun _ => True)) k_ ∧ some k_ ≠ (u3 : Value).ownBlock) (Kd.R_apart' (HO104.out) (Kd.S_typed HO_3.out) (by decide)) (fun k_ hk => ⟨trivial, hk.2⟩))).1 k_ hk_.symm) ?aF ?aO ?aB ?aS ?aL ?_; (case aP => exact Kd.M_row (Kd.R_mono (Kd.R_tight rfl (Kd.R_mono (ok' := fun k_ => ((fun _ => True)) k_ ∧ some k_ ≠ (u3 : Value).ownBlock) (Kd.R_apart' (HO104.out) (Kd.S_typed HO_3.out) (by decide)) (fun k_ hk => ⟨trivial, hk.2⟩))) (fun _ h_ => h_))); (case aB => exact Z43.z0); (case aF => exact (fun _ _ => trivial)); (case aO => exact (by (with_reducible repeat (first | apply Kd.S_alloc | apply Kd.S_drewN | apply Kd.S_drew)); exact Kd.S_mono HO_3.out (fun k_ hk => ⟨trivial, fun e_ => hk.2 e_⟩))); (case aS => exact (below_size Z43.z0)); (case aL => have := LMc6.out; omega); intro v106 w9 ho hb hg hat; rw [← Ny105.out] at ho; have n0_ := Aside0.mk (blk_grown (g := gb101) (o := .cells #[.int .i64 a0_0, .int .i64 a0_1, .int .i64 a0_2, .slice A0_3 l0_3.length c0_3] 26 (0, 0)) Z43.z1 hg (Kd.S_ne HO_3.out BK101.out (by decide))); have n1_ := Aside0.mk (hb); have n2_ := Aside0.mk (ho); clear BK101 HB HO_3 HO104; have BK101 := n0_; have HB := n1_; have HO107 := n2_; clear n0_ n1_ n2_; clear ho hb hg hat))
     go_roundg k1
     case measure => have := HK1.out; omega
     case rel => exact ⟨(y105), (wrap64 (x7_1 + 1)), (by first | rfl | (simp; done) | (simp [*]; done)), H', ⟨(by have := HK1.out; omega)⟩, ⟨(by (with_reducible repeat (first | apply Kd.S_alloc | apply Kd.S_drewN | apply Kd.S_drew)); exact HO107.out)⟩, ⟨Z43.z1⟩, ⟨Z43.z0⟩⟩
    rw [if_neg c6] at H
    exact absurd H (by simp)
   rw [if_neg c4] at H
   have c4b0 : decide (x7_1 < a0_1) = false := decide_eq_false c4
   clear c4
   obtain rfl := Option.some.inj H
   go_wp2
   go_ret
   exact ⟨_, (by first | rfl | (simp [errW_none, errW_some] <;> rfl) | (simp [*, errW_none, errW_some] <;> rfl)), Z43.z3, Z43.z0⟩

end Go.Proofs.Ytfpojfongjojcaa.F
end
