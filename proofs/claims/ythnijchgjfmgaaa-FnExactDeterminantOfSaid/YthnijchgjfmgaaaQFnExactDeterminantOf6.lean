-- Texts of this claim, merged by pack.py (a program of this session's).
import Derived.Test.YthnijchgjfmgaaaQFnExactDeterminantOf0
import Derived.Test.YthnijchgjfmgaaaQFnExactDeterminantOf3
import Derived.Test.YthnijchgjfmgaaaQFnExactDeterminantOf4
import Derived.Test.YthnijchgjfmgaaaQFnExactDeterminantOf5

section
namespace Go.Proofs.Ythnijchgjfmgaaa.F
open Go.RowKit Go.Proofs.YthnijchgjfmgaaaW.PrintWords Go.Proofs.YthnijchgjfmgaaaW.PrintLast Go.Proofs.YthnijchgjfmgaaaW.PrintMore
attribute [local go_sem] max2_int min2_int max_two min_two max_three min_three max_four min_four   -- for this text's walks alone
set_option linter.unusedVariables false
set_option linter.unusedSimpArgs false

/-! ### impl_DeterminantOf: function 14 -/
def impl_DeterminantOf.f (k : Nat) (a0_0 : Int) (a0_1 : Int) (a0_2 : Int) (l0_3 : List Int) : Option (Int × Int) := (impl_ValidMatrix.f k a0_0 a0_1 a0_2 l0_3).bind fun t102 => (if t102 = true then (if a0_1 = a0_2 then ((impl_eliminate.f k a0_0 a0_1 a0_2 l0_3 a0_2 a0_0).bind fun bt103 => (some (bt103.2.1, 0))) else (some (0, 6))) else (some (0, 1)))
theorem impl_DeterminantOf.mono : ∀ a0 a1 a2 a3 k, LeO (impl_DeterminantOf.f k a0 a1 a2 a3) (impl_DeterminantOf.f (k + 1) a0 a1 a2 a3) := by
  intro a0 a1 a2 a3 k
  unfold impl_DeterminantOf.f
  repeat' first
      | (with_reducible exact impl_ValidMatrix.mono _ _ _ _ _)
      | (with_reducible exact impl_eliminate.mono _ _ _ _ _ _ _)
      | (with_reducible exact LeO.refl _)
      | (with_reducible exact LeO.none _)
      | (with_reducible refine LeO.ite ?_ ?_)
      | (with_reducible refine LeO.bind ?_ (fun _ => ?_))
      | exact impl_ValidMatrix.mono _ _ _ _ _
      | exact impl_eliminate.mono _ _ _ _ _ _ _
      | exact LeO.none _
      | refine LeO.ite ?_ ?_
      | refine LeO.bind ?_ (fun _ => ?_)
def impl_DeterminantOf.T5 : Bool × List (List Nat × List Nat) := (true, [([], []), ([0], [0]), ([], []), ([2], [2]), ([], []), ([4], [4]), ([1, 3, 5, 1], [1, 3, 5]), ([6], [6]), ([7], [7]), ([7], [7]), ([8, 6, 0, 1, 2, 3, 4, 5, 6, 7, 8], [8]), ([9, 10, 0, 1, 2, 3, 4, 5, 6, 7, 8, 9, 10], [9])])
def impl_DeterminantOf.B5 : List Nat := [0, 1, 0, 4, 0, 16, 63, 127, 255, 255, 511, 2047]
theorem impl_DeterminantOf.tab5 : rtab .any (opsOf Try.f14 5) = impl_DeterminantOf.T5 := by kernel_rfl
theorem impl_DeterminantOf.bits5 : waitsOk impl_DeterminantOf.T5.2 impl_DeterminantOf.B5 = true := by kernel_rfl
theorem Z14.bb {w0 w w1 : World} {g : Nat} {o : Obj} (_B : Aside0 (w0.heap[g]? = some o)) (h : w.heap[g]? = some o) (hb : Below w.heap.size w w1) : w1.heap[g]? = some o := blk_below h hb
theorem Z14.bl {w0 w : World} {g : Nat} {o : Obj} (_B : Aside0 (w0.heap[g]? = some o)) (h : w.heap[g]? = some o) : g < w.heap.size := blk_lt h
theorem Z14.k {p : Prop} (h : p) : Aside0 p := ⟨h⟩
theorem Z14.z7 {P : Prop} (h : P := by exact ⟨(blk_cell BK101.out 0).trans rfl, (blk_cell BK101.out 1).trans rfl, (blk_cell BK101.out 2).trans rfl, (blk_cell BK101.out 3).trans rfl⟩) : P := h
theorem Z14.z6 {P : Prop} (h : P := by first | rfl | (simp [errW_none, errW_some] <;> rfl) | (simp [*, errW_none, errW_some] <;> rfl)) : P := h
theorem Z14.z5 {P : Prop} (h : P := by (with_reducible repeat (first | refine blk_drewN ?_ _ | refine blk_drew ?_ | refine blk_alloc ?_ _)); exact BK101.out) : P := h
theorem Z14.z4 {P : Prop} (h : P := by repeat (first | exact (Kd.C_below HR0_3.out HB.out) | (with_reducible refine Kd.C_alloc ?_ _) | (with_reducible refine Kd.C_drewN ?_ _) | (with_reducible refine Kd.C_drew ?_))) : P := h
theorem Z14.z3 {P : Prop} (h : P := by (try simp only [List.map_toArray, List.map_cons, List.map_nil]); first | done | rfl | (simp only [List.length_drop, List.length_take]; rfl)) : P := h
theorem Z14.z2 {P : Prop} (h : P := by simp only [Act.put, List.setIfInBounds_toArray, List.set_cons_zero, List.set_cons_succ, i64_w, i32_w]; rfl) : P := h
theorem Z14.z1 {P : Prop} (h : P := by repeat (first | (with_reducible first | exact HB.out | apply below_alloc | apply pw_below_drewN | apply below_drew1) | exact HB.out)) : P := h
theorem Z14.z0 {P : Prop} (h : P := by repeat (first | (with_reducible first | exact HB.out | apply below_alloc | apply pw_below_drewN | apply below_drew1 | refine below_set ?_ GE101.out) | exact HB.out)) : P := h
set_option maxHeartbeats 8000000 in
set_option maxRecDepth 100000 in
theorem impl_DeterminantOf.calls (k : Nat) (a0_0 : Int) (a0_1 : Int) (a0_2 : Int) (A0_3 : Option Addr) (c0_3 : Nat) (l0_3 : List Int) (r1 : Int) (r2 : Int) (w : World) (hr0_3 : Kd.C (Kd.int .i64) w A0_3 l0_3.length l0_3) (hc0_3 : l0_3.length ≤ c0_3) (h : impl_DeterminantOf.f k a0_0 a0_1 a0_2 l0_3 = some (r1, r2)) :
  Calls Try.prog 14 #[.agg #[.int .i64 a0_0, .int .i64 a0_1, .int .i64 a0_2, .slice A0_3 l0_3.length c0_3]] w fun e w' => e = .returned (.tuple #[.int .i64 r1, .int .i64 r2]) ∧ Below w.heap.size w w' := by
 have hu28 := Try.underlying28
 have HR0_3 := Z14.k hr0_3
 have HC0_3 := Z14.k hc0_3
 clear hr0_3 hc0_3
 have HB := Z14.k (Below.refl w.heap.size w)
 have H : ((impl_ValidMatrix.f k a0_0 a0_1 a0_2 l0_3).bind fun t102 => (if t102 = true then (if a0_1 = a0_2 then ((impl_eliminate.f k a0_0 a0_1 a0_2 l0_3 a0_2 a0_0).bind fun bt103 => (some (bt103.2.1, 0))) else (some (0, 6))) else (some (0, 1)))) = some (r1, r2) := h
 clear h
 replace H := Option.bind_eq_some_iff.mp H
 obtain ⟨t102, A20, H⟩ := H
 replace H : (if t102 = true then (if a0_1 = a0_2 then ((impl_eliminate.f k a0_0 a0_1 a0_2 l0_3 a0_2 a0_0).bind fun bt103 => (some (bt103.2.1, 0))) else (some (0, 6))) else (some (0, 1))) = some (r1, r2) := H
 have A2 := Z14.k A20
 clear A20
 by_cases c3 : t102 = true
 ·subst c3
  have H1 : (if a0_1 = a0_2 then ((impl_eliminate.f k a0_0 a0_1 a0_2 l0_3 a0_2 a0_0).bind fun bt103 => (some (bt103.2.1, 0))) else (some (0, 6))) = some (r1, r2) := by rw [if_pos rfl] at H; exact H
  clear H
  have H := H1
  clear H1
  by_cases c4 : a0_1 = a0_2
  ·rw [if_pos c4] at H
   have c4b0 : (a0_1 == a0_2) = true := beq_iff_eq.mpr c4
   have c4b1 : (a0_1 != a0_2) = false := bne_eq_false_iff_eq.mpr c4
   clear c4
   replace H := Option.bind_eq_some_iff.mp H
   obtain ⟨⟨t103, t106, t107⟩, A50, H⟩ := H
   replace H : (some (t106, 0)) = some (r1, r2) := H
   have A5 := Z14.k A50
   clear A50
   simp only [Option.some.injEq, Prod.mk.injEq] at H
   obtain ⟨rfl, rfl⟩ := H
   go_enter Try.func14, Try.ntmps14
   try go_wp2_with (first | ((with_reducible refine gate_dst (N := 1) rfl ?_); refine box_event ?hg (N := 1) ?hd (cs := #[.int .i64 a0_0, .int .i64 a0_1, .int .i64 a0_2, .slice A0_3 l0_3.length c0_3]) (t := 28) ?hr ?_; (case hd => rfl); (case hg => rfl); (case hr => first | (go_simp; done) | (go_simp; rfl)); intro gb101 hg w6 hbox hb; have n0_ := Z14.k (below_step Z14.z1 hb); have n1_ := Z14.k (hbox); have n2_ := Z14.k (show w.heap.size ≤ gb101 from (by rw [hg]; exact (below_size Z14.z1))); have n3_ := Z14.k (show w.heap.size ≤ gb101 from (by rw [hg]; exact (below_size Z14.z1))); clear HB; have HB := n0_; have BK101 := n1_; have GW101 := n2_; have GE101 := n3_; clear n0_ n1_ n2_ n3_; clear hb hbox hg; have hcz7_0 : w6.cell? ⟨gb101, 0, none⟩ = some (.int .i64 a0_0) := (blk_cell BK101.out 0).trans rfl; have hcz7_1 : w6.cell? ⟨gb101, 1, none⟩ = some (.int .i64 a0_1) := (blk_cell BK101.out 1).trans rfl; have hcz7_2 : w6.cell? ⟨gb101, 2, none⟩ = some (.int .i64 a0_2) := (blk_cell BK101.out 2).trans rfl; have hcz7_3 : w6.cell? ⟨gb101, 3, none⟩ = some (.slice A0_3 l0_3.length c0_3) := (blk_cell BK101.out 3).trans rfl; have hfz7_0 := blk_frozen BK101.out 0; have hfz7_1 := blk_frozen BK101.out 1; have hfz7_2 := blk_frozen BK101.out 2; have hfz7_3 := blk_frozen BK101.out 3) | ((with_reducible refine gate_callee (f := 30) rfl ?_); refine goesL_ (some 7) rfl rfl Try.func30 (by kernel_rfl) rfl #[.agg #[.int .i64 a0_0, .int .i64 a0_1, .int .i64 a0_2, .slice A0_3 l0_3.length c0_3]] rfl Z14.z3 ?_; (with_reducible refine (impl_ValidMatrix.calls k a0_0 a0_1 a0_2 _ _ l0_3 true _ ?side1 ?side2 A2.out).mono ?_); (case side1 => exact Z14.z4); (case side2 => exact HC0_3.out); rintro e w8 ⟨rfl, hb⟩; refine ⟨_, rfl, ?_⟩; have n0_ := Z14.k (Z14.bb BK101 Z14.z5 hb); have n1_ := Z14.k (below_step Z14.z0 hb); clear BK101 HB; have BK101 := n0_; have HB := n1_; clear n0_ n1_; (try clear hb); (try clear hb2); (try clear hk); (try clear hi); have hcz9_0 : w8.cell? ⟨gb101, 0, none⟩ = some (.int .i64 a0_0) := (blk_cell BK101.out 0).trans rfl; have hcz9_1 : w8.cell? ⟨gb101, 1, none⟩ = some (.int .i64 a0_1) := (blk_cell BK101.out 1).trans rfl; have hcz9_2 : w8.cell? ⟨gb101, 2, none⟩ = some (.int .i64 a0_2) := (blk_cell BK101.out 2).trans rfl; have hcz9_3 : w8.cell? ⟨gb101, 3, none⟩ = some (.slice A0_3 l0_3.length c0_3) := (blk_cell BK101.out 3).trans rfl; have hfz9_0 := blk_frozen BK101.out 0; have hfz9_1 := blk_frozen BK101.out 1; have hfz9_2 := blk_frozen BK101.out 2; have hfz9_3 := blk_frozen BK101.out 3))
   have n0_ := Z14.k (blk_drew BK101.out)
   have n1_ := Z14.k (below_drew1 HB.out)
   clear BK101 HB
   have BK101 := n0_
   have HB := n1_
   clear n0_ n1_
   refine start_ (n := 12) (S := fun w' => w'.cell? ⟨gb101, 0, none⟩ = some (.int .i64 a0_0) ∧ w'.cell? ⟨gb101, 1, none⟩ = some (.int .i64 a0_1) ∧ w'.cell? ⟨gb101, 2, none⟩ = some (.int .i64 a0_2) ∧ w'.cell? ⟨gb101, 3, none⟩ = some (.slice A0_3 l0_3.length c0_3)) (ds := []) #[false, false, false, false, false, false, false, false, false, false, false, false] (by kernel_rfl) rfl rfl Z14.z7 (fun hHeld => ?_); refine with_tabW impl_DeterminantOf.tab5 impl_DeterminantOf.bits5 (fun HT_ HW_ => ?_)
   generalize w8.drew = w10 at BK101 HB hHeld ⊢
   refine pure_ (i := 2) (N := some 17) (v := ?_) (a' := ?_) #[false, false, true, false, false, false, false, false, false, false, false, false] rfl rfl (any_of HT_.out (by kernel_rfl)) (fun _ _ _ h => h) (Or.inl ⟨(by rfl), ?_⟩) ?_ ?_
   rotate_left
   ·intro w'
    go_simp
    with_reducible rfl
   rotate_left
   ·exact Z14.z2
   refine pure_ (i := 4) (N := some 19) (v := ?_) (a' := ?_) #[false, false, true, false, true, false, false, false, false, false, false, false] rfl rfl (any_of HT_.out (by kernel_rfl)) (fun _ _ _ h => h) (Or.inl ⟨(by rfl), ?_⟩) ?_ ?_
   rotate_left
   ·intro w'
    go_simp
    with_reducible rfl
   rotate_left
   ·exact Z14.z2
   refine take_ (i := 0) (N := some 15) (v := ?_) (a' := ?_) #[true, false, true, false, true, false, false, false, false, false, false, false] rfl rfl (take_ofW HT_.out HW_.out (by kernel_rfl)) (fun _ _ _ h => h) (Or.inl ⟨(by rfl), ?_⟩) hHeld ?_ ?_
   rotate_left
   ·rintro w' ⟨s0, s1, s2, s3⟩
    go_simp
    with_reducible rfl
   rotate_left
   ·exact Z14.z2
   refine take_ (i := 3) (N := some 18) (v := ?_) (a' := ?_) #[true, false, true, true, true, false, false, false, false, false, false, false] rfl rfl (take_ofW HT_.out HW_.out (by kernel_rfl)) (fun _ _ _ h => h) (Or.inl ⟨(by rfl), ?_⟩) hHeld ?_ ?_
   rotate_left
   ·rintro w' ⟨s0, s1, s2, s3⟩
    go_simp
    with_reducible rfl
   rotate_left
   ·exact Z14.z2
   refine take_ (i := 5) (N := some 20) (v := ?_) (a' := ?_) #[true, false, true, true, true, true, false, false, false, false, false, false] rfl rfl (take_ofW HT_.out HW_.out (by kernel_rfl)) (fun _ _ _ h => h) (Or.inl ⟨(by rfl), ?_⟩) hHeld ?_ ?_
   rotate_left
   ·rintro w' ⟨s0, s1, s2, s3⟩
    go_simp
    with_reducible rfl
   rotate_left
   ·exact Z14.z2
   obtain ⟨tR_, AR_, AE_⟩ := Option.bind_eq_some_iff.mp A5.out
   replace AR_ := Z14.k AR_
   replace AE_ := Z14.k AE_
   refine one_ (i := 1) (N := some 16) #[true, true, true, true, true, true, false, false, false, false, false, false] rfl rfl (one_of HT_.out (by kernel_rfl)) (by decide) (fun K hK => ?_)
   refine goes_ Try.func34 (by kernel_rfl) rfl #[.agg #[.int .i64 a0_0, .int .i64 a0_1, .int .i64 a0_2, .slice A0_3 l0_3.length c0_3]] (by rfl) rfl rfl Z14.z3 ?_
   with_reducible refine (impl_rowsOf.calls k a0_0 a0_1 a0_2 _ _ l0_3 tR_ _ ?side1 ?side2 AR_.out).mono ?_
   (case side1 => exact Z14.z4)
   (case side2 => exact HC0_3.out)
   rintro e w8a ⟨vR_, rfl, hoR_, hbR_⟩
   refine ⟨_, rfl, ?_⟩
   have HOR_ := Z14.k (Kd.N_mono (ok' := fun k_ => _ ≤ k_) (Kd.S_N (Kd.S_bound hoR_)) (fun k_ hk_ => hk_.2.1))
   have HBR_ := Z14.k hbR_
   have BK101R_ := Z14.k (blk_below BK101.out hbR_)
   clear hoR_ hbR_
   refine hK.out _ _ ⟨(blk_cell BK101R_.out 0).trans rfl, (blk_cell BK101R_.out 1).trans rfl, (blk_cell BK101R_.out 2).trans rfl, (blk_cell BK101R_.out 3).trans rfl⟩ (fun hHeld => ?_)
   clear hK K
   refine norm_ (a' := ?_) ?_ ?_
   rotate_left
   ·show Act.put _ (some 16) _ = _
    simp only [Act.put, List.setIfInBounds_toArray, List.set_cons_zero, List.set_cons_succ, i64_w, i32_w]
    rfl
   refine one_ (i := 6) (N := some 21) #[true, true, true, true, true, true, true, false, false, false, false, false] rfl rfl (one_of HT_.out (by kernel_rfl)) (by decide) (fun K hK => ?_)
   refine goes_ Try.func33 (by kernel_rfl) rfl #[vR_, .int .i64 a0_2, .int .i64 a0_0] (by rfl) rfl rfl Z14.z3 ?_
   with_reducible refine (impl_eliminate.calls k vR_ tR_ a0_2 a0_0 t103 t106 t107 _ _ HBR_.out HOR_.out AE_.out).mono ?_
   rintro e w11 ⟨v104, rfl, ho0, ho1, hb⟩
   refine ⟨_, rfl, ?_⟩
   have n0_ := Z14.k (Kd.R_lower (Kd.R_mono (ok' := fun k_ => True) ho0 (fun _ hk_ => trivial)) (below_size Z14.z0))
   have n1_ := Z14.k (Kd.N_lower (Kd.N_mono (ok' := fun k_ => some k_ ≠ (v104 : Value).ownBlock ∧ k_ ≠ gb101) ho1 (fun k_ hk_ => ⟨hk_.2, (Kd.freshB (g := gb101) (o := .cells #[.int .i64 a0_0, .int .i64 a0_1, .int .i64 a0_2, .slice A0_3 l0_3.length c0_3] 28 (0, 0)) Z14.z5 k_ hk_.1)⟩)) (below_size Z14.z0))
   have n2_ := Z14.k (Z14.bb BK101 Z14.z5 hb)
   have n3_ := Z14.k (below_step Z14.z0 hb)
   clear BK101 HB
   have HO105 := n0_
   have HO109 := n1_
   have BK101 := n2_
   have HB := n3_
   clear n0_ n1_ n2_ n3_
   (try clear hb)
   (try clear hb2)
   (try clear hk)
   (try clear hi)
   (try clear ho0)
   (try clear ho1)
   refine hK.out _ _ Z14.z7 (fun hHeld => ?_)
   clear hK K
   refine norm_ (a' := ?_) ?_ ?_
   rotate_left
   ·show Act.put _ (some 21) _ = _
    simp only [Act.put, List.setIfInBounds_toArray, List.set_cons_zero, List.set_cons_succ, i64_w, i32_w]
    rfl
   refine pure_ (i := 7) (N := some 14) (v := ?_) (a' := ?_) #[true, true, true, true, true, true, true, true, false, false, false, false] rfl rfl (any_of HT_.out (by kernel_rfl)) (fun _ _ _ h => h) (Or.inl ⟨(by rfl), ?_⟩) ?_ ?_
   rotate_left
   ·intro w'
    go_simp
    with_reducible rfl
   rotate_left
   ·exact Z14.z2
   refine pure_ (i := 8) (N := some 22) (v := ?_) (a' := ?_) #[true, true, true, true, true, true, true, true, true, false, false, false] rfl rfl (any_of HT_.out (by kernel_rfl)) (fun _ _ _ h => h) (Or.inl ⟨(by rfl), ?_⟩) ?_ ?_
   rotate_left
   ·intro w'
    go_simp
    with_reducible rfl
   rotate_left
   ·exact Z14.z2
   refine pure_ (i := 9) (N := some 23) (v := ?_) (a' := ?_) #[true, true, true, true, true, true, true, true, true, true, false, false] rfl rfl (any_of HT_.out (by kernel_rfl)) (fun _ _ _ h => h) (Or.inl ⟨(by rfl), ?_⟩) ?_ ?_
   rotate_left
   ·intro w'
    go_simp
    with_reducible rfl
   rotate_left
   ·exact Z14.z2
   refine pure_ (i := 10) (N := some 4) (v := ?_) (a' := ?_) #[true, true, true, true, true, true, true, true, true, true, true, false] rfl rfl (any_of HT_.out (by kernel_rfl)) (fun _ _ _ h => h) (Or.inl ⟨(by rfl), ?_⟩) ?_ ?_
   rotate_left
   ·intro w'
    go_simp
    with_reducible rfl
   rotate_left
   ·exact Z14.z2
   refine pure_ (i := 11) (N := some 5) (v := ?_) (a' := ?_) #[true, true, true, true, true, true, true, true, true, true, true, true] rfl rfl (any_of HT_.out (by kernel_rfl)) (fun _ _ _ h => h) (Or.inl ⟨(by rfl), ?_⟩) ?_ ?_
   rotate_left
   ·intro w'
    go_simp
    with_reducible rfl
   rotate_left
   ·exact Z14.z2
   refine done_ (done_of HT_.out (by kernel_rfl)) ?_
   try go_wp2
   go_ret2
   exact ⟨Z14.z6, Z14.z0⟩
  rw [if_neg c4] at H
  have c4b0 : (a0_1 == a0_2) = false := beq_eq_false_iff_ne.mpr c4
  have c4b1 : (a0_1 != a0_2) = true := bne_iff_ne.mpr c4
  simp only [Option.some.injEq, Prod.mk.injEq] at H
  obtain ⟨rfl, rfl⟩ := H
  go_enter Try.func14, Try.ntmps14
  go_wp2_with (first | ((with_reducible refine gate_dst (N := 1) rfl ?_); refine box_event ?hg (N := 1) ?hd (cs := #[.int .i64 a0_0, .int .i64 a0_1, .int .i64 a0_2, .slice A0_3 l0_3.length c0_3]) (t := 28) ?hr ?_; (case hd => rfl); (case hg => rfl); (case hr => first | (go_simp; done) | (go_simp; rfl)); intro gb101 hg w12 hbox hb; have n0_ := Z14.k (below_step Z14.z1 hb); have n1_ := Z14.k (hbox); have n2_ := Z14.k (show w.heap.size ≤ gb101 from (by rw [hg]; exact (below_size Z14.z1))); have n3_ := Z14.k (show w.heap.size ≤ gb101 from (by rw [hg]; exact (below_size Z14.z1))); clear HB; have HB := n0_; have BK101 := n1_; have GW101 := n2_; have GE101 := n3_; clear n0_ n1_ n2_ n3_; clear hb hbox hg; have hcz13_0 : w12.cell? ⟨gb101, 0, none⟩ = some (.int .i64 a0_0) := (blk_cell BK101.out 0).trans rfl; have hcz13_1 : w12.cell? ⟨gb101, 1, none⟩ = some (.int .i64 a0_1) := (blk_cell BK101.out 1).trans rfl; have hcz13_2 : w12.cell? ⟨gb101, 2, none⟩ = some (.int .i64 a0_2) := (blk_cell BK101.out 2).trans rfl; have hcz13_3 : w12.cell? ⟨gb101, 3, none⟩ = some (.slice A0_3 l0_3.length c0_3) := (blk_cell BK101.out 3).trans rfl; have hfz13_0 := blk_frozen BK101.out 0; have hfz13_1 := blk_frozen BK101.out 1; have hfz13_2 := blk_frozen BK101.out 2; have hfz13_3 := blk_frozen BK101.out 3) | ((with_reducible refine gate_callee (f := 30) rfl ?_); refine goesL_ (some 7) rfl rfl Try.func30 (by kernel_rfl) rfl #[.agg #[.int .i64 a0_0, .int .i64 a0_1, .int .i64 a0_2, .slice A0_3 l0_3.length c0_3]] rfl Z14.z3 ?_; (with_reducible refine (impl_ValidMatrix.calls k a0_0 a0_1 a0_2 _ _ l0_3 true _ ?side1 ?side2 A2.out).mono ?_); (case side1 => exact Z14.z4); (case side2 => exact HC0_3.out); rintro e w14 ⟨rfl, hb⟩; refine ⟨_, rfl, ?_⟩; have n0_ := Z14.k (Z14.bb BK101 Z14.z5 hb); have n1_ := Z14.k (below_step Z14.z0 hb); clear BK101 HB; have BK101 := n0_; have HB := n1_; clear n0_ n1_; (try clear hb); (try clear hb2); (try clear hk); (try clear hi); have hcz15_0 : w14.cell? ⟨gb101, 0, none⟩ = some (.int .i64 a0_0) := (blk_cell BK101.out 0).trans rfl; have hcz15_1 : w14.cell? ⟨gb101, 1, none⟩ = some (.int .i64 a0_1) := (blk_cell BK101.out 1).trans rfl; have hcz15_2 : w14.cell? ⟨gb101, 2, none⟩ = some (.int .i64 a0_2) := (blk_cell BK101.out 2).trans rfl; have hcz15_3 : w14.cell? ⟨gb101, 3, none⟩ = some (.slice A0_3 l0_3.length c0_3) := (blk_cell BK101.out 3).trans rfl; have hfz15_0 := blk_frozen BK101.out 0; have hfz15_1 := blk_frozen BK101.out 1; have hfz15_2 := blk_frozen BK101.out 2; have hfz15_3 := blk_frozen BK101.out 3))
  go_ret2
  exact ⟨Z14.z6, Z14.z0⟩
 replace c3 := Bool.eq_false_iff.mpr c3
 subst c3
 have H1 : (some (0, 1)) = some (r1, r2) := by rw [if_neg (show ¬ (false = true) by decide)] at H; exact H
 clear H
 have H := H1
 clear H1
 simp only [Option.some.injEq, Prod.mk.injEq] at H
 obtain ⟨rfl, rfl⟩ := H
 go_enter Try.func14, Try.ntmps14
 go_wp2_with (first | ((with_reducible refine gate_dst (N := 1) rfl ?_); refine box_event ?hg (N := 1) ?hd (cs := #[.int .i64 a0_0, .int .i64 a0_1, .int .i64 a0_2, .slice A0_3 l0_3.length c0_3]) (t := 28) ?hr ?_; (case hd => rfl); (case hg => rfl); (case hr => first | (go_simp; done) | (go_simp; rfl)); intro gb101 hg w16 hbox hb; have n0_ := Z14.k (below_step Z14.z1 hb); have n1_ := Z14.k (hbox); have n2_ := Z14.k (show w.heap.size ≤ gb101 from (by rw [hg]; exact (below_size Z14.z1))); have n3_ := Z14.k (show w.heap.size ≤ gb101 from (by rw [hg]; exact (below_size Z14.z1))); clear HB; have HB := n0_; have BK101 := n1_; have GW101 := n2_; have GE101 := n3_; clear n0_ n1_ n2_ n3_; clear hb hbox hg; have hcz17_0 : w16.cell? ⟨gb101, 0, none⟩ = some (.int .i64 a0_0) := (blk_cell BK101.out 0).trans rfl; have hcz17_1 : w16.cell? ⟨gb101, 1, none⟩ = some (.int .i64 a0_1) := (blk_cell BK101.out 1).trans rfl; have hcz17_2 : w16.cell? ⟨gb101, 2, none⟩ = some (.int .i64 a0_2) := (blk_cell BK101.out 2).trans rfl; have hcz17_3 : w16.cell? ⟨gb101, 3, none⟩ = some (.slice A0_3 l0_3.length c0_3) := (blk_cell BK101.out 3).trans rfl; have hfz17_0 := blk_frozen BK101.out 0; have hfz17_1 := blk_frozen BK101.out 1; have hfz17_2 := blk_frozen BK101.out 2; have hfz17_3 := blk_frozen BK101.out 3) | ((with_reducible refine gate_callee (f := 30) rfl ?_); refine goesL_ (some 7) rfl rfl Try.func30 (by kernel_rfl) rfl #[.agg #[.int .i64 a0_0, .int .i64 a0_1, .int .i64 a0_2, .slice A0_3 l0_3.length c0_3]] rfl Z14.z3 ?_; (with_reducible refine (impl_ValidMatrix.calls k a0_0 a0_1 a0_2 _ _ l0_3 false _ ?side1 ?side2 A2.out).mono ?_); (case side1 => exact Z14.z4); (case side2 => exact HC0_3.out); rintro e w18 ⟨rfl, hb⟩; refine ⟨_, rfl, ?_⟩; have n0_ := Z14.k (Z14.bb BK101 Z14.z5 hb); have n1_ := Z14.k (below_step Z14.z0 hb); clear BK101 HB; have BK101 := n0_; have HB := n1_; clear n0_ n1_; (try clear hb); (try clear hb2); (try clear hk); (try clear hi)))
 go_ret2
 exact ⟨Z14.z6, Z14.z0⟩

end Go.Proofs.Ythnijchgjfmgaaa.F
end

section
namespace Go.Proofs.Ythnijchgjfmgaaa.F
open Go.RowKit Go.Proofs.YthnijchgjfmgaaaW.PrintWords Go.Proofs.YthnijchgjfmgaaaW.PrintLast Go.Proofs.YthnijchgjfmgaaaW.PrintMore
attribute [local go_sem] max2_int min2_int max_two min_two max_three min_three max_four min_four   -- for this text's walks alone
set_option linter.unusedVariables false
set_option linter.unusedSimpArgs false

/-! ### laws_FnExactDeterminantOf: function 4 -/
def laws_FnExactDeterminantOf.j0 : Nat → Bool → Int → Int → Int → List Int → Int → Int → Int → List Int → Option (Bool)
  | 0, _, _, _, _, _, _, _, _, _ => none
  | k + 1, x34, x102000, x102001, x102002, x102003, x118000, x118001, x118002, x118003 => if x34 = true then (some false) else ((laws_toMatrix.f k x102000 x102001 x102002 x102003).bind fun bt120 => ((laws_eqMatrix.f k x118000 x118001 x118002 x118003 bt120.1 bt120.2.1 bt120.2.2.1 bt120.2.2.2).bind fun t126 => (if t126 = true then (some true) else (some false))))
def laws_FnExactDeterminantOf.f (k : Nat) (a0_0 : Int) (a0_1 : Int) (a0_2 : Int) (l0_3 : List Int) : Option (Bool) := (laws_szMatrix.f a0_0 a0_1 a0_2 l0_3 1048576).bind fun t102 => (if t102 < 0 then (some true) else ((laws_toMatrix.f k a0_0 a0_1 a0_2 l0_3).bind fun bt103 => ((spec_DeterminantOf.f k bt103.1 bt103.2.1 bt103.2.2.1 bt103.2.2.2).bind fun bt109 => ((laws_toMatrix.f k a0_0 a0_1 a0_2 l0_3).bind fun bt111 => ((impl_DeterminantOf.f k bt111.1 bt111.2.1 bt111.2.2.1 bt111.2.2.2).bind fun bt118 => (if bt118.1 = bt109.1 then (laws_FnExactDeterminantOf.j0 k (bt118.2 != bt109.2) a0_0 a0_1 a0_2 l0_3 bt111.1 bt111.2.1 bt111.2.2.1 bt111.2.2.2) else (laws_FnExactDeterminantOf.j0 k true a0_0 a0_1 a0_2 l0_3 bt111.1 bt111.2.1 bt111.2.2.1 bt111.2.2.2)))))))
theorem laws_FnExactDeterminantOf.mono_l : ∀ k, (∀ y0 y1 y2 y3 y4 y5 y6 y7 y8, LeO (laws_FnExactDeterminantOf.j0 k y0 y1 y2 y3 y4 y5 y6 y7 y8) (laws_FnExactDeterminantOf.j0 (k + 1) y0 y1 y2 y3 y4 y5 y6 y7 y8))
  | 0 => fun _ _ _ _ _ _ _ _ _ r h => by simp [laws_FnExactDeterminantOf.j0] at h
  | k + 1 => by
    have ih0 := laws_FnExactDeterminantOf.mono_l k
    · intro y0 y1 y2 y3 y4 y5 y6 y7 y8
      unfold laws_FnExactDeterminantOf.j0
      repeat' first
      | (with_reducible exact ih0 _ _ _ _ _ _ _ _ _)
      | (with_reducible exact impl_DeterminantOf.mono _ _ _ _ _)
      | (with_reducible exact laws_eqMatrix.mono _ _ _ _ _ _ _ _ _)
      | (with_reducible exact laws_toMatrix.mono _ _ _ _ _)
      | (with_reducible exact spec_DeterminantOf.mono _ _ _ _ _)
      | (with_reducible exact LeO.refl _)
      | (with_reducible exact LeO.none _)
      | (with_reducible refine LeO.ite ?_ ?_)
      | (with_reducible refine LeO.bind ?_ (fun _ => ?_))
      | exact ih0 _ _ _ _ _ _ _ _ _
      | exact impl_DeterminantOf.mono _ _ _ _ _
      | exact laws_eqMatrix.mono _ _ _ _ _ _ _ _ _
      | exact laws_toMatrix.mono _ _ _ _ _
      | exact spec_DeterminantOf.mono _ _ _ _ _
      | exact LeO.none _
      | refine LeO.ite ?_ ?_
      | refine LeO.bind ?_ (fun _ => ?_)
theorem laws_FnExactDeterminantOf.mono : ∀ a0 a1 a2 a3 k, LeO (laws_FnExactDeterminantOf.f k a0 a1 a2 a3) (laws_FnExactDeterminantOf.f (k + 1) a0 a1 a2 a3) := by
  intro a0 a1 a2 a3 k
  have ih0 := laws_FnExactDeterminantOf.mono_l k
  unfold laws_FnExactDeterminantOf.f
  repeat' first
      | (with_reducible exact ih0 _ _ _ _ _ _ _ _ _)
      | (with_reducible exact impl_DeterminantOf.mono _ _ _ _ _)
      | (with_reducible exact laws_eqMatrix.mono _ _ _ _ _ _ _ _ _)
      | (with_reducible exact laws_toMatrix.mono _ _ _ _ _)
      | (with_reducible exact spec_DeterminantOf.mono _ _ _ _ _)
      | (with_reducible exact LeO.refl _)
      | (with_reducible exact LeO.none _)
      | (with_reducible refine LeO.ite ?_ ?_)
      | (with_reducible refine LeO.bind ?_ (fun _ => ?_))
      | exact ih0 _ _ _ _ _ _ _ _ _
      | exact impl_DeterminantOf.mono _ _ _ _ _
      | exact laws_eqMatrix.mono _ _ _ _ _ _ _ _ _
      | exact laws_toMatrix.mono _ _ _ _ _
      | exact spec_DeterminantOf.mono _ _ _ _ _
      | exact LeO.none _
      | refine LeO.ite ?_ ?_
      | refine LeO.bind ?_ (fun _ => ?_)
theorem Z4.bb {w0 w w1 : World} {g : Nat} {o : Obj} (_B : Aside0 (w0.heap[g]? = some o)) (h : w.heap[g]? = some o) (hb : Below w.heap.size w w1) : w1.heap[g]? = some o := blk_below h hb
theorem Z4.bl {w0 w : World} {g : Nat} {o : Obj} (_B : Aside0 (w0.heap[g]? = some o)) (h : w.heap[g]? = some o) : g < w.heap.size := blk_lt h
theorem Z4.k {p : Prop} (h : p) : Aside0 p := ⟨h⟩
theorem Z4.z15 {P : Prop} (h : P := by (with_reducible repeat (first | apply Kd.R_alloc | apply Kd.R_drewN | apply Kd.R_drew)); exact Kd.R_mono HO116.out (fun _ hk => trivial)) : P := h
theorem Z4.z14 {P : Prop} (h : P := by repeat (first | exact (Kd.R_reads' HO125.out).2.2 | (with_reducible refine Kd.C_alloc ?_ _) | (with_reducible refine Kd.C_drewN ?_ _) | (with_reducible refine Kd.C_drew ?_))) : P := h
theorem Z4.z13 {P : Prop} (h : P := by repeat (first | exact (Kd.R_reads' HO_118003.out).2.2 | (with_reducible refine Kd.C_alloc ?_ _) | (with_reducible refine Kd.C_drewN ?_ _) | (with_reducible refine Kd.C_drew ?_))) : P := h
theorem Z4.z12 {P : Prop} (h : P := by first | rfl | (simp [errW_none, errW_some] <;> rfl) | (simp [*, errW_none, errW_some] <;> rfl)) : P := h
theorem Z4.z11 {P : Prop} (h : P := by (with_reducible repeat (first | apply Kd.R_alloc | apply Kd.R_drewN | apply Kd.R_drew)); exact HO108.out) : P := h
theorem Z4.z10 {P : Prop} (h : P := by simp only [Act.put, List.setIfInBounds_toArray, List.set_cons_zero, List.set_cons_succ, i64_w, i32_w]; rfl) : P := h
theorem Z4.z9 {P : Prop} (h : P := by (with_reducible repeat (first | apply Kd.R_alloc | apply Kd.R_drewN | apply Kd.R_drew)); exact HO_118003.out) : P := h
theorem Z4.z8 {P : Prop} (h : P := by (with_reducible repeat (first | apply Kd.R_alloc | apply Kd.R_drewN | apply Kd.R_drew)); exact (Kd.R_mono (Kd.R_far (p := ⟨gb117, 3, none⟩) (Kd.R_far (p := ⟨gb117, 2, none⟩) (Kd.R_far (p := ⟨gb117, 1, none⟩) (Kd.R_far (p := ⟨gb117, 0, none⟩) (Kd.R_types HO116.out BK117.out (by decide)) (fun _ hk => hk.2) (.int .i64 t111)) (fun _ hk => hk.2) (.int .i64 t112)) (fun _ hk => hk.2) (.int .i64 t113)) (fun _ hk => hk.2) (.slice Ao24 t114.length co24)) (fun _ h_ => h_.1))) : P := h
theorem Z4.z7 {P : Prop} (h : P := by (with_reducible repeat (first | refine blk_drewN ?_ _ | refine blk_drew ?_ | refine blk_alloc ?_ _)); exact BK117.out) : P := h
theorem Z4.z6 {P : Prop} (h : P := by repeat (first | (with_reducible first | exact HB.out | apply below_alloc | apply pw_below_drewN | apply below_drew1) | exact HB.out)) : P := h
theorem Z4.z5 {P : Prop} (h : P := by repeat (first | exact (Kd.C_below HR0_3.out HB.out) | (with_reducible refine Kd.C_alloc ?_ _) | (with_reducible refine Kd.C_drewN ?_ _) | (with_reducible refine Kd.C_drew ?_))) : P := h
theorem Z4.z4 {P : Prop} (h : P := by (try simp only [List.map_toArray, List.map_cons, List.map_nil]); first | done | rfl | (simp only [List.length_drop, List.length_take]; rfl)) : P := h
theorem Z4.z3 {P : Prop} (h : P := by (with_reducible repeat (first | refine blk_drewN ?_ _ | refine blk_drew ?_ | refine blk_alloc ?_ _)); exact BK101.out) : P := h
theorem Z4.z2 {P : Prop} (h : P := by exact ⟨(blk_cell BK117.out 0).trans rfl, (blk_cell BK117.out 1).trans rfl, (blk_cell BK117.out 2).trans rfl, (blk_cell BK117.out 3).trans rfl, (blk_cell BK101.out 0).trans rfl, (blk_cell BK101.out 1).trans rfl, (blk_cell BK101.out 2).trans rfl, (blk_cell BK101.out 3).trans rfl⟩) : P := h
theorem Z4.z1 {P : Prop} (h : P := by repeat (first | (with_reducible first | exact HB.out | apply below_alloc | apply pw_below_drewN | apply below_drew1 | refine below_set ?_ GE101.out) | exact HB.out)) : P := h
theorem Z4.z0 {P : Prop} (h : P := by repeat (first | (with_reducible first | exact HB.out | apply below_alloc | apply pw_below_drewN | apply below_drew1 | refine below_set ?_ GE101.out | refine below_set ?_ GE117.out) | exact HB.out)) : P := h
set_option maxHeartbeats 8000000 in
set_option maxRecDepth 100000 in
theorem laws_FnExactDeterminantOf.calls (k : Nat) (a0_0 : Int) (a0_1 : Int) (a0_2 : Int) (A0_3 : Option Addr) (c0_3 : Nat) (l0_3 : List Int) (r : Bool) (w : World) (hr0_3 : Kd.C (Kd.int .i64) w A0_3 l0_3.length l0_3) (hc0_3 : l0_3.length ≤ c0_3) (h : laws_FnExactDeterminantOf.f k a0_0 a0_1 a0_2 l0_3 = some r) :
  Calls Try.prog 4 #[.agg #[.int .i64 a0_0, .int .i64 a0_1, .int .i64 a0_2, .slice A0_3 l0_3.length c0_3]] w fun e w' => e = .returned (.bool r) ∧ Below w.heap.size w w' := by
 have hu24 := Try.underlying24
 have hu28 := Try.underlying28
 have HR0_3 := Z4.k hr0_3
 have HC0_3 := Z4.k hc0_3
 clear hr0_3 hc0_3
 have HB := Z4.k (Below.refl w.heap.size w)
 have H : ((laws_szMatrix.f a0_0 a0_1 a0_2 l0_3 1048576).bind fun t102 => (if t102 < 0 then (some true) else ((laws_toMatrix.f k a0_0 a0_1 a0_2 l0_3).bind fun bt103 => ((spec_DeterminantOf.f k bt103.1 bt103.2.1 bt103.2.2.1 bt103.2.2.2).bind fun bt109 => ((laws_toMatrix.f k a0_0 a0_1 a0_2 l0_3).bind fun bt111 => ((impl_DeterminantOf.f k bt111.1 bt111.2.1 bt111.2.2.1 bt111.2.2.2).bind fun bt118 => (if bt118.1 = bt109.1 then (laws_FnExactDeterminantOf.j0 k (bt118.2 != bt109.2) a0_0 a0_1 a0_2 l0_3 bt111.1 bt111.2.1 bt111.2.2.1 bt111.2.2.2) else (laws_FnExactDeterminantOf.j0 k true a0_0 a0_1 a0_2 l0_3 bt111.1 bt111.2.1 bt111.2.2.1 bt111.2.2.2)))))))) = some r := h
 clear h
 replace H := Option.bind_eq_some_iff.mp H
 obtain ⟨t102, A20, H⟩ := H
 replace H : (if t102 < 0 then (some true) else ((laws_toMatrix.f k a0_0 a0_1 a0_2 l0_3).bind fun bt103 => ((spec_DeterminantOf.f k bt103.1 bt103.2.1 bt103.2.2.1 bt103.2.2.2).bind fun bt109 => ((laws_toMatrix.f k a0_0 a0_1 a0_2 l0_3).bind fun bt111 => ((impl_DeterminantOf.f k bt111.1 bt111.2.1 bt111.2.2.1 bt111.2.2.2).bind fun bt118 => (if bt118.1 = bt109.1 then (laws_FnExactDeterminantOf.j0 k (bt118.2 != bt109.2) a0_0 a0_1 a0_2 l0_3 bt111.1 bt111.2.1 bt111.2.2.1 bt111.2.2.2) else (laws_FnExactDeterminantOf.j0 k true a0_0 a0_1 a0_2 l0_3 bt111.1 bt111.2.1 bt111.2.2.1 bt111.2.2.2))))))) = some r := H
 have A2 := Z4.k A20
 clear A20
 by_cases c3 : t102 < 0
 ·rw [if_pos c3] at H
  have c3b0 : decide (t102 < 0) = true := decide_eq_true c3
  clear c3
  obtain rfl := Option.some.inj H
  go_enter Try.func4, Try.ntmps4
  go_wp2_with (first | ((with_reducible refine gate_dst (N := 1) rfl ?_); refine box_event ?hg (N := 1) ?hd (cs := #[.int .i64 a0_0, .int .i64 a0_1, .int .i64 a0_2, .slice A0_3 l0_3.length c0_3]) (t := 24) ?hr ?_; (case hd => rfl); (case hg => rfl); (case hr => first | (go_simp; done) | (go_simp; rfl)); intro gb101 hg w4 hbox hb; have n0_ := Z4.k (below_step Z4.z6 hb); have n1_ := Z4.k (hbox); have n2_ := Z4.k (show w.heap.size ≤ gb101 from (by rw [hg]; exact (below_size Z4.z6))); have n3_ := Z4.k (show w.heap.size ≤ gb101 from (by rw [hg]; exact (below_size Z4.z6))); clear HB; have HB := n0_; have BK101 := n1_; have GW101 := n2_; have GE101 := n3_; clear n0_ n1_ n2_ n3_; clear hb hbox hg; have hcz5_0 : w4.cell? ⟨gb101, 0, none⟩ = some (.int .i64 a0_0) := (blk_cell BK101.out 0).trans rfl; have hcz5_1 : w4.cell? ⟨gb101, 1, none⟩ = some (.int .i64 a0_1) := (blk_cell BK101.out 1).trans rfl; have hcz5_2 : w4.cell? ⟨gb101, 2, none⟩ = some (.int .i64 a0_2) := (blk_cell BK101.out 2).trans rfl; have hcz5_3 : w4.cell? ⟨gb101, 3, none⟩ = some (.slice A0_3 l0_3.length c0_3) := (blk_cell BK101.out 3).trans rfl; have hfz5_0 := blk_frozen BK101.out 0; have hfz5_1 := blk_frozen BK101.out 1; have hfz5_2 := blk_frozen BK101.out 2; have hfz5_3 := blk_frozen BK101.out 3) | ((with_reducible refine gate_callee (f := 8) rfl ?_); refine goesL_ (some 11) rfl rfl Try.func8 (by kernel_rfl) rfl #[.agg #[.int .i64 a0_0, .int .i64 a0_1, .int .i64 a0_2, .slice A0_3 l0_3.length c0_3], .int .i64 1048576] rfl Z4.z4 ?_; (with_reducible refine (laws_szMatrix.calls a0_0 a0_1 a0_2 _ _ l0_3 1048576 t102 _ ?side1 ?side2 A2.out).mono ?_); (case side1 => exact Z4.z5); (case side2 => exact HC0_3.out); rintro e w6 ⟨rfl, hb⟩; refine ⟨_, rfl, ?_⟩; have n0_ := Z4.k (Z4.bb BK101 Z4.z3 hb); have n1_ := Z4.k (below_step Z4.z1 hb); clear BK101 HB; have BK101 := n0_; have HB := n1_; clear n0_ n1_; (try clear hb); (try clear hb2); (try clear hk); (try clear hi)))
  go_ret
  exact ⟨Z4.z12, Z4.z1⟩
 rw [if_neg c3] at H
 have c3b0 : decide (t102 < 0) = false := decide_eq_false c3
 clear c3
 replace H := Option.bind_eq_some_iff.mp H
 obtain ⟨⟨t103, t104, t105, t106⟩, A70, H⟩ := H
 replace H : ((spec_DeterminantOf.f k t103 t104 t105 t106).bind fun bt109 => ((laws_toMatrix.f k a0_0 a0_1 a0_2 l0_3).bind fun bt111 => ((impl_DeterminantOf.f k bt111.1 bt111.2.1 bt111.2.2.1 bt111.2.2.2).bind fun bt118 => (if bt118.1 = bt109.1 then (laws_FnExactDeterminantOf.j0 k (bt118.2 != bt109.2) a0_0 a0_1 a0_2 l0_3 bt111.1 bt111.2.1 bt111.2.2.1 bt111.2.2.2) else (laws_FnExactDeterminantOf.j0 k true a0_0 a0_1 a0_2 l0_3 bt111.1 bt111.2.1 bt111.2.2.1 bt111.2.2.2))))) = some r := H
 have A7 := Z4.k A70
 clear A70
 replace H := Option.bind_eq_some_iff.mp H
 obtain ⟨⟨t109, t110⟩, A80, H⟩ := H
 replace H : ((laws_toMatrix.f k a0_0 a0_1 a0_2 l0_3).bind fun bt111 => ((impl_DeterminantOf.f k bt111.1 bt111.2.1 bt111.2.2.1 bt111.2.2.2).bind fun bt118 => (if bt118.1 = t109 then (laws_FnExactDeterminantOf.j0 k (bt118.2 != t110) a0_0 a0_1 a0_2 l0_3 bt111.1 bt111.2.1 bt111.2.2.1 bt111.2.2.2) else (laws_FnExactDeterminantOf.j0 k true a0_0 a0_1 a0_2 l0_3 bt111.1 bt111.2.1 bt111.2.2.1 bt111.2.2.2)))) = some r := H
 have A8 := Z4.k A80
 clear A80
 replace H := Option.bind_eq_some_iff.mp H
 obtain ⟨⟨t111, t112, t113, t114⟩, A90, H⟩ := H
 replace H : ((impl_DeterminantOf.f k t111 t112 t113 t114).bind fun bt118 => (if bt118.1 = t109 then (laws_FnExactDeterminantOf.j0 k (bt118.2 != t110) a0_0 a0_1 a0_2 l0_3 t111 t112 t113 t114) else (laws_FnExactDeterminantOf.j0 k true a0_0 a0_1 a0_2 l0_3 t111 t112 t113 t114))) = some r := H
 have A9 := Z4.k A90
 clear A90
 replace H := Option.bind_eq_some_iff.mp H
 obtain ⟨⟨t118, t119⟩, A100, H⟩ := H
 replace H : (if t118 = t109 then (laws_FnExactDeterminantOf.j0 k (t119 != t110) a0_0 a0_1 a0_2 l0_3 t111 t112 t113 t114) else (laws_FnExactDeterminantOf.j0 k true a0_0 a0_1 a0_2 l0_3 t111 t112 t113 t114)) = some r := H
 have A10 := Z4.k A100
 clear A100
 have HC11 := Z4.k H
 clear H
 go_enter Try.func4, Try.ntmps4
 go_upto_region 8 with (first | ((with_reducible refine gate_dst (N := 1) rfl ?_); refine box_event ?hg (N := 1) ?hd (cs := #[.int .i64 a0_0, .int .i64 a0_1, .int .i64 a0_2, .slice A0_3 l0_3.length c0_3]) (t := 24) ?hr ?_; (case hd => rfl); (case hg => rfl); (case hr => first | (go_simp; done) | (go_simp; rfl)); intro gb101 hg w12 hbox hb; have n0_ := Z4.k (below_step Z4.z6 hb); have n1_ := Z4.k (hbox); have n2_ := Z4.k (show w.heap.size ≤ gb101 from (by rw [hg]; exact (below_size Z4.z6))); have n3_ := Z4.k (show w.heap.size ≤ gb101 from (by rw [hg]; exact (below_size Z4.z6))); clear HB; have HB := n0_; have BK101 := n1_; have GW101 := n2_; have GE101 := n3_; clear n0_ n1_ n2_ n3_; clear hb hbox hg; have hcz13_0 : w12.cell? ⟨gb101, 0, none⟩ = some (.int .i64 a0_0) := (blk_cell BK101.out 0).trans rfl; have hcz13_1 : w12.cell? ⟨gb101, 1, none⟩ = some (.int .i64 a0_1) := (blk_cell BK101.out 1).trans rfl; have hcz13_2 : w12.cell? ⟨gb101, 2, none⟩ = some (.int .i64 a0_2) := (blk_cell BK101.out 2).trans rfl; have hcz13_3 : w12.cell? ⟨gb101, 3, none⟩ = some (.slice A0_3 l0_3.length c0_3) := (blk_cell BK101.out 3).trans rfl; have hfz13_0 := blk_frozen BK101.out 0; have hfz13_1 := blk_frozen BK101.out 1; have hfz13_2 := blk_frozen BK101.out 2; have hfz13_3 := blk_frozen BK101.out 3) | ((with_reducible refine gate_callee (f := 8) rfl ?_); refine goesL_ (some 11) rfl rfl Try.func8 (by kernel_rfl) rfl #[.agg #[.int .i64 a0_0, .int .i64 a0_1, .int .i64 a0_2, .slice A0_3 l0_3.length c0_3], .int .i64 1048576] rfl Z4.z4 ?_; (with_reducible refine (laws_szMatrix.calls a0_0 a0_1 a0_2 _ _ l0_3 1048576 t102 _ ?side1 ?side2 A2.out).mono ?_); (case side1 => exact Z4.z5); (case side2 => exact HC0_3.out); rintro e w14 ⟨rfl, hb⟩; refine ⟨_, rfl, ?_⟩; have n0_ := Z4.k (Z4.bb BK101 Z4.z3 hb); have n1_ := Z4.k (below_step Z4.z1 hb); clear BK101 HB; have BK101 := n0_; have HB := n1_; clear n0_ n1_; (try clear hb); (try clear hb2); (try clear hk); (try clear hi); have hcz15_0 : w14.cell? ⟨gb101, 0, none⟩ = some (.int .i64 a0_0) := (blk_cell BK101.out 0).trans rfl; have hcz15_1 : w14.cell? ⟨gb101, 1, none⟩ = some (.int .i64 a0_1) := (blk_cell BK101.out 1).trans rfl; have hcz15_2 : w14.cell? ⟨gb101, 2, none⟩ = some (.int .i64 a0_2) := (blk_cell BK101.out 2).trans rfl; have hcz15_3 : w14.cell? ⟨gb101, 3, none⟩ = some (.slice A0_3 l0_3.length c0_3) := (blk_cell BK101.out 3).trans rfl; have hfz15_0 := blk_frozen BK101.out 0; have hfz15_1 := blk_frozen BK101.out 1; have hfz15_2 := blk_frozen BK101.out 2; have hfz15_3 := blk_frozen BK101.out 3) | ((with_reducible refine gate_callee (f := 10) rfl ?_); refine goesL_ (some 16) rfl rfl Try.func10 (by kernel_rfl) rfl #[.agg #[.int .i64 a0_0, .int .i64 a0_1, .int .i64 a0_2, .slice A0_3 l0_3.length c0_3]] rfl Z4.z4 ?_; (with_reducible refine (laws_toMatrix.calls k a0_0 a0_1 a0_2 _ _ l0_3 t103 t104 t105 t106 _ ?side1 ?side2 A7.out).mono ?_); (case side1 => exact Z4.z5); (case side2 => exact HC0_3.out); rintro e w16 ⟨v107, rfl, ho0, hb⟩; refine ⟨_, rfl, ?_⟩; have n0_ := Z4.k (Kd.R_lower ho0 (below_size Z4.z1)); have n1_ := Z4.k (Z4.bb BK101 Z4.z3 hb); have n2_ := Z4.k (below_step Z4.z1 hb); clear BK101 HB; have HO108 := n0_; have BK101 := n1_; have HB := n2_; clear n0_ n1_ n2_; (try clear hb); (try clear hb2); (try clear hk); (try clear hi); (try clear ho0); obtain ⟨Ao17, co17, eo17⟩ := Kd.R_slice HO108.out; subst eo17) | ((with_reducible refine gate_callee (f := 13) rfl ?_); refine goesL_ (some 17) rfl rfl Try.func13 (by kernel_rfl) rfl #[.agg #[.int .i64 t103, .int .i64 t104, .int .i64 t105, .slice Ao17 t106.length co17]] rfl Z4.z4 ?_; (with_reducible refine (spec_DeterminantOf.calls k t103 t104 t105 _ _ t106 t109 t110 _ ?side1 ?side2 A8.out).mono ?_); (case side1 => exact (by repeat (first | exact (Kd.R_reads' HO108.out).2.2 | (with_reducible refine Kd.C_alloc ?_ _) | (with_reducible refine Kd.C_drewN ?_ _) | (with_reducible refine Kd.C_drew ?_)))); (case side2 => exact (Kd.R_reads' HO108.out).2.1); rintro e w18 ⟨rfl, hb⟩; refine ⟨_, rfl, ?_⟩; have n0_ := Z4.k (Kd.R_below Z4.z11 hb); have n1_ := Z4.k (Z4.bb BK101 Z4.z3 hb); have n2_ := Z4.k (below_step Z4.z1 hb); clear HO108 BK101 HB; have HO108 := n0_; have BK101 := n1_; have HB := n2_; clear n0_ n1_ n2_; (try clear hb); (try clear hb2); (try clear hk); (try clear hi); have hcz19_0 : w18.cell? ⟨gb101, 0, none⟩ = some (.int .i64 a0_0) := (blk_cell BK101.out 0).trans rfl; have hcz19_1 : w18.cell? ⟨gb101, 1, none⟩ = some (.int .i64 a0_1) := (blk_cell BK101.out 1).trans rfl; have hcz19_2 : w18.cell? ⟨gb101, 2, none⟩ = some (.int .i64 a0_2) := (blk_cell BK101.out 2).trans rfl; have hcz19_3 : w18.cell? ⟨gb101, 3, none⟩ = some (.slice A0_3 l0_3.length c0_3) := (blk_cell BK101.out 3).trans rfl; have hfz19_0 := blk_frozen BK101.out 0; have hfz19_1 := blk_frozen BK101.out 1; have hfz19_2 := blk_frozen BK101.out 2; have hfz19_3 := blk_frozen BK101.out 3) | ((with_reducible refine gate_callee (f := 10) rfl ?_); refine goesL_ (some 21) rfl rfl Try.func10 (by kernel_rfl) rfl #[.agg #[.int .i64 a0_0, .int .i64 a0_1, .int .i64 a0_2, .slice A0_3 l0_3.length c0_3]] rfl Z4.z4 ?_; (with_reducible refine (laws_toMatrix.calls k a0_0 a0_1 a0_2 _ _ l0_3 t111 t112 t113 t114 _ ?side1 ?side2 A9.out).mono ?_); (case side1 => exact Z4.z5); (case side2 => exact HC0_3.out); rintro e w20 ⟨v115, rfl, ho0, hb⟩; refine ⟨_, rfl, ?_⟩; have n0_ := Z4.k (Kd.R_elder' Z4.z11 (Kd.R_base ho0) hb); have n1_ := Z4.k (Kd.R_lower (Kd.R_new' ho0 (Kd.R_lt Z4.z11)) (below_size Z4.z1)); have n2_ := Z4.k (Z4.bb BK101 Z4.z3 hb); have n3_ := Z4.k (below_step Z4.z1 hb); clear HO108 BK101 HB; have HO108 := n0_; have HO116 := n1_; have BK101 := n2_; have HB := n3_; clear n0_ n1_ n2_ n3_; (try clear hb); (try clear hb2); (try clear hk); (try clear hi); (try clear ho0)) | ((with_reducible refine gate_dst (N := 6) rfl ?_); refine box_event ?hg (N := 6) ?hd (cs := #[.int .i64 0, .int .i64 0, .int .i64 0, .slice none 0 0]) (t := 28) ?hr ?_; (case hd => rfl); (case hg => rfl); (case hr => first | (go_simp; done) | (go_simp; rfl)); intro gb117 hg w21 hbox hb; have n0_ := Z4.k (Kd.R_below Z4.z11 hb); have n1_ := Z4.k (Kd.R_below (by (with_reducible repeat (first | apply Kd.R_alloc | apply Kd.R_drewN | apply Kd.R_drew)); exact HO116.out) hb); have n2_ := Z4.k (Z4.bb BK101 Z4.z3 hb); have n3_ := Z4.k (below_step Z4.z1 hb); have n4_ := Z4.k (hbox); have n5_ := Z4.k (show w.heap.size ≤ gb117 from (by rw [hg]; exact (below_size Z4.z1))); have n6_ := Z4.k (show w.heap.size ≤ gb117 from (by rw [hg]; exact (below_size Z4.z1))); have n7_ := Z4.k (show gb101 ≠ gb117 from (by rw [hg]; exact Nat.ne_of_lt (Z4.bl BK101 Z4.z3))); have n8_ := Z4.k (show gb117 ≠ gb101 from (by rw [hg]; exact Nat.ne_of_gt (Z4.bl BK101 Z4.z3))); clear HO108 HO116 BK101 HB; have HO108 := n0_; have HO116 := n1_; have BK101 := n2_; have HB := n3_; have BK117 := n4_; have GW117 := n5_; have GE117 := n6_; have NB101_117 := n7_; have NB117_101 := n8_; clear n0_ n1_ n2_ n3_ n4_ n5_ n6_ n7_ n8_; clear hb hbox hg; have hnb22 := NB117_101.out; have hnc22 := NB101_117.out; have hcz23_0 : w21.cell? ⟨gb117, 0, none⟩ = some (.int .i64 0) := (blk_cell BK117.out 0).trans rfl; have hcz23_1 : w21.cell? ⟨gb117, 1, none⟩ = some (.int .i64 0) := (blk_cell BK117.out 1).trans rfl; have hcz23_2 : w21.cell? ⟨gb117, 2, none⟩ = some (.int .i64 0) := (blk_cell BK117.out 2).trans rfl; have hcz23_3 : w21.cell? ⟨gb117, 3, none⟩ = some (.slice none 0 0) := (blk_cell BK117.out 3).trans rfl; have hfz23_0 := blk_frozen BK117.out 0; have hfz23_1 := blk_frozen BK117.out 1; have hfz23_2 := blk_frozen BK117.out 2; have hfz23_3 := blk_frozen BK117.out 3; obtain ⟨Ao24, co24, eo24⟩ := Kd.R_slice HO116.out; subst eo24) | ((with_reducible refine gate_callee (f := 14) rfl ?_); refine goesL_ (some 24) rfl rfl Try.func14 (by kernel_rfl) rfl #[.agg #[.int .i64 t111, .int .i64 t112, .int .i64 t113, .slice Ao24 t114.length co24]] rfl Z4.z4 ?_; (with_reducible refine (impl_DeterminantOf.calls k t111 t112 t113 _ _ t114 t118 t119 _ ?side1 ?side2 A10.out).mono ?_); (case side1 => exact (by refine (Kd.R_reads' (e := 2) (base := w.heap.size) (ok := fun k_ => (True ∧ some k_ ≠ (.slice Ao17 t106.length co17 : Value).ownBlock)) (n := t114.length) (c := co24) ?_).2.2; exact Z4.z8)); (case side2 => exact (Kd.R_reads' HO116.out).2.1); rintro e w25 ⟨rfl, hb⟩; refine ⟨_, rfl, ?_⟩; have n0_ := Z4.k (Kd.R_below (by (with_reducible repeat (first | apply Kd.R_alloc | apply Kd.R_drewN | apply Kd.R_drew)); exact (Kd.R_mono (Kd.R_far (p := ⟨gb117, 3, none⟩) (Kd.R_far (p := ⟨gb117, 2, none⟩) (Kd.R_far (p := ⟨gb117, 1, none⟩) (Kd.R_far (p := ⟨gb117, 0, none⟩) (Kd.R_types HO108.out BK117.out (by decide)) (fun _ hk => hk.2) (.int .i64 t111)) (fun _ hk => hk.2) (.int .i64 t112)) (fun _ hk => hk.2) (.int .i64 t113)) (fun _ hk => hk.2) (.slice Ao24 t114.length co24)) (fun _ h_ => h_.1))) hb); have n1_ := Z4.k (Kd.R_below Z4.z8 hb); have n2_ := Z4.k (Z4.bb BK101 (by (repeat (first | (with_reducible first | refine blk_drewN ?_ _ | refine blk_drew ?_ | refine blk_alloc ?_ _) | refine blk_far ?_ NB101_117.out _)); exact BK101.out) hb); have n3_ := Z4.k (blk_below (g := gb117) (o := .cells #[.int .i64 t111, .int .i64 t112, .int .i64 t113, .slice Ao24 t114.length co24] 28 (0, 0)) (by (with_reducible repeat (first | refine blk_drewN ?_ _ | refine blk_drew ?_ | refine blk_alloc ?_ _)); refine blk_put (cs := #[.int .i64 t111, .int .i64 t112, .int .i64 t113, .slice none 0 0]) ?_ 3 _ rfl; (with_reducible repeat (first | refine blk_drewN ?_ _ | refine blk_drew ?_ | refine blk_alloc ?_ _)); refine blk_put (cs := #[.int .i64 t111, .int .i64 t112, .int .i64 0, .slice none 0 0]) ?_ 2 _ rfl; (with_reducible repeat (first | refine blk_drewN ?_ _ | refine blk_drew ?_ | refine blk_alloc ?_ _)); refine blk_put (cs := #[.int .i64 t111, .int .i64 0, .int .i64 0, .slice none 0 0]) ?_ 1 _ rfl; (with_reducible repeat (first | refine blk_drewN ?_ _ | refine blk_drew ?_ | refine blk_alloc ?_ _)); refine blk_put (cs := #[.int .i64 0, .int .i64 0, .int .i64 0, .slice none 0 0]) ?_ 0 _ rfl; (with_reducible repeat (first | refine blk_drewN ?_ _ | refine blk_drew ?_ | refine blk_alloc ?_ _)); exact BK117.out) hb); have n4_ := Z4.k (below_step Z4.z0 hb); clear HO108 HO116 BK101 BK117 HB; have HO108 := n0_; have HO116 := n1_; have BK101 := n2_; have BK117 := n3_; have HB := n4_; clear n0_ n1_ n2_ n3_ n4_; (try clear hb); (try clear hb2); (try clear hk); (try clear hi)))
 (try simp only [Act.put, List.setIfInBounds_toArray, List.set_cons_zero, List.set_cons_succ])
 go_cut [34] (fun v34 wc => ∃ (kq : Nat) (x34_10 : Bool), v34 = .bool x34_10 ∧ Aside0 (laws_FnExactDeterminantOf.j0 kq x34_10 a0_0 a0_1 a0_2 l0_3 t111 t112 t113 t114 = some r) ∧ Aside0 (kq ≤ k) ∧ Aside0 (Kd.R (Kd.int .i64) 2 wc w.heap.size (fun _ => True) (.slice Ao24 t114.length co24) t114) ∧ Aside0 (wc.heap[gb101]? = some (.cells #[.int .i64 a0_0, .int .i64 a0_1, .int .i64 a0_2, (.slice A0_3 l0_3.length c0_3)] 24 (0, 0))) ∧ Aside0 (wc.heap[gb117]? = some (.cells #[.int .i64 t111, .int .i64 t112, .int .i64 t113, (.slice Ao24 t114.length co24)] 28 (0, 0))) ∧ Aside0 (Below w.heap.size w wc))
 case first =>
  have H := HC11.out
  clear HC11
  by_cases c26 : t118 = t109
  ·rw [if_pos c26] at H
   have c26b0 : (t118 == t109) = true := beq_iff_eq.mpr c26
   have c26b1 : (t118 != t109) = false := bne_eq_false_iff_eq.mpr c26
   clear c26
   (first | rw [c26b0] | (simp only [i64_w, i32_w]; rw [c26b0]) | skip)
   have H' := Z4.k H
   clear H
   go_wp2
   go_meet
   case rel => exact ⟨_, ((t119 != t110)), (by first | rfl | (simp; done) | (simp [*]; done)), H', ⟨(by first | omega | exact Nat.le_refl _)⟩, ⟨Z4.z15⟩, ⟨Z4.z3⟩, ⟨Z4.z7⟩, ⟨Z4.z0⟩⟩
  rw [if_neg c26] at H
  have c26b0 : (t118 == t109) = false := beq_eq_false_iff_ne.mpr c26
  have c26b1 : (t118 != t109) = true := bne_iff_ne.mpr c26
  (first | rw [c26b0] | (simp only [i64_w, i32_w]; rw [c26b0]) | skip)
  have H' := Z4.k H
  clear H
  go_wp2
  go_meet
  case rel => exact ⟨_, (true), (by first | rfl | (simp; done) | (simp [*]; done)), H', ⟨(by first | omega | exact Nat.le_refl _)⟩, ⟨Z4.z15⟩, ⟨Z4.z3⟩, ⟨Z4.z7⟩, ⟨Z4.z0⟩⟩
 case rest =>
  clear HC11
  try clear c1
  try clear c2
  try clear p2
  try clear c3
  try clear c3b0
  try clear c4
  try clear c8
  try clear c10
  try clear c13
  try clear c14
  try clear c22
  try clear c26
  try clear c26b0
  try clear c26b1
  try clear hcz13_0
  try clear hcz13_1
  try clear hcz13_2
  try clear hcz13_3
  try clear hcz15_0
  try clear hcz15_1
  try clear hcz15_2
  try clear hcz15_3
  try clear hcz19_0
  try clear hcz19_1
  try clear hcz19_2
  try clear hcz19_3
  try clear hcz23_0
  try clear hcz23_1
  try clear hcz23_2
  try clear hcz23_3
  try clear hcz5_0
  try clear hcz5_1
  try clear hcz5_2
  try clear hcz5_3
  try clear hfz13_0
  try clear hfz13_1
  try clear hfz13_2
  try clear hfz13_3
  try clear hfz15_0
  try clear hfz15_1
  try clear hfz15_2
  try clear hfz15_3
  try clear hfz19_0
  try clear hfz19_1
  try clear hfz19_2
  try clear hfz19_3
  try clear hfz23_0
  try clear hfz23_1
  try clear hfz23_2
  try clear hfz23_3
  try clear hfz5_0
  try clear hfz5_1
  try clear hfz5_2
  try clear hfz5_3
  obtain ⟨kq, x34_10, rfl, HA, HJ10, HO_118003, BK101, BK117, HB⟩ := hcut
  cases kq with
  | zero => exact absurd HA.out (by simp [laws_FnExactDeterminantOf.j0])
  | succ kj10 =>
   have H := HA.out
   clear HA
   simp only [laws_FnExactDeterminantOf.j0] at H
   by_cases c27 : x34_10 = true
   ·subst c27
    have H1 : (some false) = some r := by rw [if_pos rfl] at H; exact H
    clear H
    have H := H1
    clear H1
    obtain rfl := Option.some.inj H
    go_wp2
    go_ret
    exact ⟨Z4.z12, Z4.z0⟩
   replace c27 := Bool.eq_false_iff.mpr c27
   subst c27
   have H1 : ((laws_toMatrix.f kj10 a0_0 a0_1 a0_2 l0_3).bind fun bt120 => ((laws_eqMatrix.f kj10 t111 t112 t113 t114 bt120.1 bt120.2.1 bt120.2.2.1 bt120.2.2.2).bind fun t126 => (if t126 = true then (some true) else (some false)))) = some r := by rw [if_neg (show ¬ (false = true) by decide)] at H; exact H
   clear H
   have H := H1
   clear H1
   replace H := Option.bind_eq_some_iff.mp H
   obtain ⟨⟨t120, t121, t122, t123⟩, A280, H⟩ := H
   replace H : ((laws_eqMatrix.f kj10 t111 t112 t113 t114 t120 t121 t122 t123).bind fun t126 => (if t126 = true then (some true) else (some false))) = some r := H
   have A28 := Z4.k A280
   clear A280
   replace H := Option.bind_eq_some_iff.mp H
   obtain ⟨t126, A290, H⟩ := H
   replace H : (if t126 = true then (some true) else (some false)) = some r := H
   have A29 := Z4.k A290
   clear A290
   by_cases c30 : t126 = true
   ·subst c30
    have H1 : (some true) = some r := by rw [if_pos rfl] at H; exact H
    clear H
    have H := H1
    clear H1
    obtain rfl := Option.some.inj H
    try go_wp2
    have n0_ := Z4.k (Kd.R_drew HO_118003.out)
    have n1_ := Z4.k (blk_drew BK101.out)
    have n2_ := Z4.k (blk_drew BK117.out)
    have n3_ := Z4.k (below_drew1 HB.out)
    clear HO_118003 BK101 BK117 HB
    have HO_118003 := n0_
    have BK101 := n1_
    have BK117 := n2_
    have HB := n3_
    clear n0_ n1_ n2_ n3_
    refine start_ (n := 5) (S := fun w' => w'.cell? ⟨gb117, 0, none⟩ = some (.int .i64 t111) ∧ w'.cell? ⟨gb117, 1, none⟩ = some (.int .i64 t112) ∧ w'.cell? ⟨gb117, 2, none⟩ = some (.int .i64 t113) ∧ w'.cell? ⟨gb117, 3, none⟩ = some (.slice Ao24 t114.length co24) ∧ w'.cell? ⟨gb101, 0, none⟩ = some (.int .i64 a0_0) ∧ w'.cell? ⟨gb101, 1, none⟩ = some (.int .i64 a0_1) ∧ w'.cell? ⟨gb101, 2, none⟩ = some (.int .i64 a0_2) ∧ w'.cell? ⟨gb101, 3, none⟩ = some (.slice A0_3 l0_3.length c0_3)) (ds := []) #[false, false, false, false, false] (by kernel_rfl) rfl rfl Z4.z2 (fun hHeld => ?_)
    generalize wc.drew = w31 at HO_118003 BK101 BK117 HB hHeld ⊢
    refine take_ (i := 0) (N := some 35) (v := ?_) (a' := ?_) #[true, false, false, false, false] rfl rfl (by kernel_rfl) (fun _ _ _ h => h) (Or.inl ⟨(by rfl), ?_⟩) hHeld ?_ ?_
    rotate_left
    ·rintro w' ⟨s0, s1, s2, s3, s4, s5, s6, s7⟩
     go_simp
     with_reducible rfl
    rotate_left
    ·exact Z4.z10
    refine take_ (i := 1) (N := some 36) (v := ?_) (a' := ?_) #[true, true, false, false, false] rfl rfl (by kernel_rfl) (fun _ _ _ h => h) (Or.inl ⟨(by rfl), ?_⟩) hHeld ?_ ?_
    rotate_left
    ·rintro w' ⟨s0, s1, s2, s3, s4, s5, s6, s7⟩
     go_simp
     with_reducible rfl
    rotate_left
    ·exact Z4.z10
    refine one_ (i := 2) (N := some 37) #[true, true, true, false, false] rfl rfl (by kernel_rfl) (by decide) (fun K hK => ?_)
    refine goes_ Try.func10 (by kernel_rfl) rfl #[.agg #[.int .i64 a0_0, .int .i64 a0_1, .int .i64 a0_2, .slice A0_3 l0_3.length c0_3]] (by rfl) rfl rfl Z4.z4 ?_
    with_reducible refine (laws_toMatrix.calls kj10 a0_0 a0_1 a0_2 _ _ l0_3 t120 t121 t122 t123 _ ?side1 ?side2 A28.out).mono ?_
    (case side1 => exact Z4.z5)
    (case side2 => exact HC0_3.out)
    rintro e w32 ⟨v124, rfl, ho0, hb⟩
    refine ⟨_, rfl, ?_⟩
    have n0_ := Z4.k (Kd.R_elder' Z4.z9 (Kd.R_base ho0) hb)
    have n1_ := Z4.k (Kd.R_lower (Kd.R_new' ho0 (Kd.R_lt Z4.z9)) (below_size Z4.z0))
    have n2_ := Z4.k (Z4.bb BK101 Z4.z3 hb)
    have n3_ := Z4.k (Z4.bb BK117 Z4.z7 hb)
    have n4_ := Z4.k (below_step Z4.z0 hb)
    clear HO_118003 BK101 BK117 HB
    have HO_118003 := n0_
    have HO125 := n1_
    have BK101 := n2_
    have BK117 := n3_
    have HB := n4_
    clear n0_ n1_ n2_ n3_ n4_
    (try clear hb)
    (try clear hb2)
    (try clear hk)
    (try clear hi)
    (try clear ho0)
    obtain ⟨Ao33, co33, eo33⟩ := Kd.R_slice HO125.out
    (first | subst eo33 | (injection eo33 with f1_ f2_ f3_; have f4_ := f1_.symm; have f5_ := f3_.symm; clear f1_ f2_ f3_; subst f4_; subst f5_))
    refine hK.out _ _ Z4.z2 (fun hHeld => ?_)
    clear hK K
    refine norm_ (a' := ?_) ?_ ?_
    rotate_left
    ·show Act.put _ (some 37) _ = _
     simp only [Act.put, List.setIfInBounds_toArray, List.set_cons_zero, List.set_cons_succ, i64_w, i32_w]
     rfl
    refine one_ (i := 3) (N := some 38) #[true, true, true, true, false] rfl rfl (by kernel_rfl) (by decide) (fun K hK => ?_)
    refine goes_ Try.func12 (by kernel_rfl) rfl #[.agg #[.int .i64 t111, .int .i64 t112, .int .i64 t113, .slice Ao24 t114.length co24], .agg #[.int .i64 t120, .int .i64 t121, .int .i64 t122, .slice Ao33 t123.length co33]] (by rfl) rfl rfl Z4.z4 ?_
    with_reducible refine (laws_eqMatrix.calls kj10 t111 t112 t113 _ _ t114 t120 t121 t122 _ _ t123 true _ ?side1 ?side2 ?side3 ?side4 A29.out).mono ?_
    (case side1 => exact Z4.z13)
    (case side2 => exact (Kd.R_reads' HO_118003.out).2.1)
    (case side3 => exact Z4.z14)
    (case side4 => exact (Kd.R_reads' HO125.out).2.1)
    rintro e w34 ⟨rfl, hb⟩
    refine ⟨_, rfl, ?_⟩
    have n0_ := Z4.k (Kd.R_below Z4.z9 hb)
    have n1_ := Z4.k (Kd.R_below (by (with_reducible repeat (first | apply Kd.R_alloc | apply Kd.R_drewN | apply Kd.R_drew)); exact HO125.out) hb)
    have n2_ := Z4.k (Z4.bb BK101 Z4.z3 hb)
    have n3_ := Z4.k (Z4.bb BK117 Z4.z7 hb)
    have n4_ := Z4.k (below_step Z4.z0 hb)
    clear HO_118003 HO125 BK101 BK117 HB
    have HO_118003 := n0_
    have HO125 := n1_
    have BK101 := n2_
    have BK117 := n3_
    have HB := n4_
    clear n0_ n1_ n2_ n3_ n4_
    (try clear hb)
    (try clear hb2)
    (try clear hk)
    (try clear hi)
    refine hK.out _ _ Z4.z2 (fun hHeld => ?_)
    clear hK K
    refine norm_ (a' := ?_) ?_ ?_
    rotate_left
    ·show Act.put _ (some 38) _ = _
     simp only [Act.put, List.setIfInBounds_toArray, List.set_cons_zero, List.set_cons_succ, i64_w, i32_w]
     rfl
    refine pure_ (i := 4) (N := some 39) (v := ?_) (a' := ?_) #[true, true, true, true, true] rfl rfl (by kernel_rfl) (fun _ _ _ h => h) (Or.inl ⟨(by rfl), ?_⟩) ?_ ?_
    rotate_left
    ·intro w'
     go_simp
     with_reducible rfl
    rotate_left
    ·exact Z4.z10
    refine done_ (by kernel_rfl) ?_
    try go_wp2
    go_ret
    exact ⟨Z4.z12, Z4.z0⟩
   replace c30 := Bool.eq_false_iff.mpr c30
   subst c30
   have H1 : (some false) = some r := by rw [if_neg (show ¬ (false = true) by decide)] at H; exact H
   clear H
   have H := H1
   clear H1
   obtain rfl := Option.some.inj H
   try go_wp2
   have n0_ := Z4.k (Kd.R_drew HO_118003.out)
   have n1_ := Z4.k (blk_drew BK101.out)
   have n2_ := Z4.k (blk_drew BK117.out)
   have n3_ := Z4.k (below_drew1 HB.out)
   clear HO_118003 BK101 BK117 HB
   have HO_118003 := n0_
   have BK101 := n1_
   have BK117 := n2_
   have HB := n3_
   clear n0_ n1_ n2_ n3_
   refine start_ (n := 5) (S := fun w' => w'.cell? ⟨gb117, 0, none⟩ = some (.int .i64 t111) ∧ w'.cell? ⟨gb117, 1, none⟩ = some (.int .i64 t112) ∧ w'.cell? ⟨gb117, 2, none⟩ = some (.int .i64 t113) ∧ w'.cell? ⟨gb117, 3, none⟩ = some (.slice Ao24 t114.length co24) ∧ w'.cell? ⟨gb101, 0, none⟩ = some (.int .i64 a0_0) ∧ w'.cell? ⟨gb101, 1, none⟩ = some (.int .i64 a0_1) ∧ w'.cell? ⟨gb101, 2, none⟩ = some (.int .i64 a0_2) ∧ w'.cell? ⟨gb101, 3, none⟩ = some (.slice A0_3 l0_3.length c0_3)) (ds := []) #[false, false, false, false, false] (by kernel_rfl) rfl rfl Z4.z2 (fun hHeld => ?_)
   generalize wc.drew = w35 at HO_118003 BK101 BK117 HB hHeld ⊢
   refine take_ (i := 0) (N := some 35) (v := ?_) (a' := ?_) #[true, false, false, false, false] rfl rfl (by kernel_rfl) (fun _ _ _ h => h) (Or.inl ⟨(by rfl), ?_⟩) hHeld ?_ ?_
   rotate_left
   ·rintro w' ⟨s0, s1, s2, s3, s4, s5, s6, s7⟩
    go_simp
    with_reducible rfl
   rotate_left
   ·exact Z4.z10
   refine take_ (i := 1) (N := some 36) (v := ?_) (a' := ?_) #[true, true, false, false, false] rfl rfl (by kernel_rfl) (fun _ _ _ h => h) (Or.inl ⟨(by rfl), ?_⟩) hHeld ?_ ?_
   rotate_left
   ·rintro w' ⟨s0, s1, s2, s3, s4, s5, s6, s7⟩
    go_simp
    with_reducible rfl
   rotate_left
   ·exact Z4.z10
   refine one_ (i := 2) (N := some 37) #[true, true, true, false, false] rfl rfl (by kernel_rfl) (by decide) (fun K hK => ?_)
   refine goes_ Try.func10 (by kernel_rfl) rfl #[.agg #[.int .i64 a0_0, .int .i64 a0_1, .int .i64 a0_2, .slice A0_3 l0_3.length c0_3]] (by rfl) rfl rfl Z4.z4 ?_
   with_reducible refine (laws_toMatrix.calls kj10 a0_0 a0_1 a0_2 _ _ l0_3 t120 t121 t122 t123 _ ?side1 ?side2 A28.out).mono ?_
   (case side1 => exact Z4.z5)
   (case side2 => exact HC0_3.out)
   rintro e w36 ⟨v124, rfl, ho0, hb⟩
   refine ⟨_, rfl, ?_⟩
   have n0_ := Z4.k (Kd.R_elder' Z4.z9 (Kd.R_base ho0) hb)
   have n1_ := Z4.k (Kd.R_lower (Kd.R_new' ho0 (Kd.R_lt Z4.z9)) (below_size Z4.z0))
   have n2_ := Z4.k (Z4.bb BK101 Z4.z3 hb)
   have n3_ := Z4.k (Z4.bb BK117 Z4.z7 hb)
   have n4_ := Z4.k (below_step Z4.z0 hb)
   clear HO_118003 BK101 BK117 HB
   have HO_118003 := n0_
   have HO125 := n1_
   have BK101 := n2_
   have BK117 := n3_
   have HB := n4_
   clear n0_ n1_ n2_ n3_ n4_
   (try clear hb)
   (try clear hb2)
   (try clear hk)
   (try clear hi)
   (try clear ho0)
   obtain ⟨Ao37, co37, eo37⟩ := Kd.R_slice HO125.out
   (first | subst eo37 | (injection eo37 with f1_ f2_ f3_; have f4_ := f1_.symm; have f5_ := f3_.symm; clear f1_ f2_ f3_; subst f4_; subst f5_))
   refine hK.out _ _ Z4.z2 (fun hHeld => ?_)
   clear hK K
   refine norm_ (a' := ?_) ?_ ?_
   rotate_left
   ·show Act.put _ (some 37) _ = _
    simp only [Act.put, List.setIfInBounds_toArray, List.set_cons_zero, List.set_cons_succ, i64_w, i32_w]
    rfl
   refine one_ (i := 3) (N := some 38) #[true, true, true, true, false] rfl rfl (by kernel_rfl) (by decide) (fun K hK => ?_)
   refine goes_ Try.func12 (by kernel_rfl) rfl #[.agg #[.int .i64 t111, .int .i64 t112, .int .i64 t113, .slice Ao24 t114.length co24], .agg #[.int .i64 t120, .int .i64 t121, .int .i64 t122, .slice Ao37 t123.length co37]] (by rfl) rfl rfl Z4.z4 ?_
   with_reducible refine (laws_eqMatrix.calls kj10 t111 t112 t113 _ _ t114 t120 t121 t122 _ _ t123 false _ ?side1 ?side2 ?side3 ?side4 A29.out).mono ?_
   (case side1 => exact Z4.z13)
   (case side2 => exact (Kd.R_reads' HO_118003.out).2.1)
   (case side3 => exact Z4.z14)
   (case side4 => exact (Kd.R_reads' HO125.out).2.1)
   rintro e w38 ⟨rfl, hb⟩
   refine ⟨_, rfl, ?_⟩
   have n0_ := Z4.k (Kd.R_below Z4.z9 hb)
   have n1_ := Z4.k (Kd.R_below (by (with_reducible repeat (first | apply Kd.R_alloc | apply Kd.R_drewN | apply Kd.R_drew)); exact HO125.out) hb)
   have n2_ := Z4.k (Z4.bb BK101 Z4.z3 hb)
   have n3_ := Z4.k (Z4.bb BK117 Z4.z7 hb)
   have n4_ := Z4.k (below_step Z4.z0 hb)
   clear HO_118003 HO125 BK101 BK117 HB
   have HO_118003 := n0_
   have HO125 := n1_
   have BK101 := n2_
   have BK117 := n3_
   have HB := n4_
   clear n0_ n1_ n2_ n3_ n4_
   (try clear hb)
   (try clear hb2)
   (try clear hk)
   (try clear hi)
   refine hK.out _ _ Z4.z2 (fun hHeld => ?_)
   clear hK K
   refine norm_ (a' := ?_) ?_ ?_
   rotate_left
   ·show Act.put _ (some 38) _ = _
    simp only [Act.put, List.setIfInBounds_toArray, List.set_cons_zero, List.set_cons_succ, i64_w, i32_w]
    rfl
   refine pure_ (i := 4) (N := some 39) (v := ?_) (a' := ?_) #[true, true, true, true, true] rfl rfl (by kernel_rfl) (fun _ _ _ h => h) (Or.inl ⟨(by rfl), ?_⟩) ?_ ?_
   rotate_left
   ·intro w'
    go_simp
    with_reducible rfl
   rotate_left
   ·exact Z4.z10
   refine done_ (by kernel_rfl) ?_
   try go_wp2
   go_ret
   exact ⟨Z4.z12, Z4.z0⟩

/-- THE ONE PURE STATEMENT of laws_FnExactDeterminantOf: yours. -/
def laws_FnExactDeterminantOf.Pure : Prop := ∀ (a0_0 : Int) (a0_1 : Int) (a0_2 : Int) (l0_3 : List Int), (Lit.int .i64 a0_0).wf = true → (Lit.int .i64 a0_1).wf = true → (Lit.int .i64 a0_2).wf = true → l0_3.length ≤ maxLen → (∀ x ∈ l0_3, (Lit.int .i64 x).wf = true) → ∃ k, laws_FnExactDeterminantOf.f k a0_0 a0_1 a0_2 l0_3 = some true
theorem laws_FnExactDeterminantOf.walk (P : laws_FnExactDeterminantOf.Pure) (a0_0 : Int) (a0_1 : Int) (a0_2 : Int) (a0_3 : Option Addr) (len0_3 cap0_3 : Nat) (z0_3 : List Int) (w : World) (w0_0 : (Lit.int .i64 a0_0).wf = true) (w0_1 : (Lit.int .i64 a0_1).wf = true) (w0_2 : (Lit.int .i64 a0_2).wf = true) (w0_3 : (a0_3 = none ∧ len0_3 = 0 ∧ cap0_3 = 0 ∧ z0_3 = []) ∨ ∃ x, a0_3 = some x ∧ len0_3 ≤ cap0_3 ∧ cap0_3 ≤ maxLen ∧ z0_3.length = cap0_3 ∧ (∀ i, i < z0_3.length → w.cell? (x.add i) = some (.int .i64 (z0_3.getD i 0))) ∧ ∀ n ∈ z0_3, (Lit.int .i64 n).wf = true) :
    Calls Try.prog 4 #[.agg #[.int .i64 a0_0, .int .i64 a0_1, .int .i64 a0_2, .slice a0_3 len0_3 cap0_3]] w fun e w' => e = .returned (.bool true) ∧ Below w.heap.size w w' := by
  obtain ⟨l0_3, rfl, hr0_3, hm0_3, hw0_3, hc0_3⟩ := ReadsInt.ofRowC w0_3
  obtain ⟨k, h⟩ := P a0_0 a0_1 a0_2 l0_3 w0_0 w0_1 w0_2 hm0_3 hw0_3
  refine (laws_FnExactDeterminantOf.calls k a0_0 a0_1 a0_2 _ _ l0_3 true w (Kd.C_of_reads (d := (0 : Int)) (h1 := fun _ => rfl) hr0_3) hc0_3 h).mono ?_
  rintro e w' ⟨rfl, hd⟩
  exact ⟨rfl, hd⟩

end Go.Proofs.Ythnijchgjfmgaaa.F
end
