-- Texts of this claim, merged by packw.py (a program of this session's).
import Derived.Test.YtmbbjmkcbpefhaaQFnExactCertificate2
import Derived.Test.YtmbbjmkcbpefhaaQFnExactCertificate6
import Derived.Test.YtmbbjmkcbpefhaaQFnExactCertificate4

section
namespace Go.Proofs.Ytmbbjmkcbpefhaa.F
open Go.RowKit Go.Proofs.YtmbbjmkcbpefhaaW.PrintWords Go.Proofs.YtmbbjmkcbpefhaaW.PrintLast Go.Proofs.YtmbbjmkcbpefhaaW.PrintMore
attribute [local go_sem] max2_int min2_int max_two min_two max_three min_three max_four min_four   -- for this text's walks alone
set_option linter.unusedVariables false
set_option linter.unusedSimpArgs false
/-! ### spec_l04Against: function 46 -/
def spec_l04Against.f (k : Nat) (a0_0 : Int) (a0_1 : Int) (a0_2 : Int) (l0_3 : List Int) (l1 : List Int) : Option (List Int × Bool) := (spec_l04Columns.f k a0_0 a0_1 a0_2 l0_3).bind fun t102 => (if t102.length < 5864062014805 then ((some (t102 ++ [l1] : List (List Int))).bind fun y105 => ((spec_l04Rows.f k a0_0 a0_1 y105).bind fun bt108 => (if 0 ≤ (y105.length : Int) then (if ((y105.length : Int) : Int).toNat ≤ 35184372088832 then ((some (List.replicate ((y105.length : Int) : Int).toNat 0 : List Int)).bind fun y115 => (if 0 ≤ (wrap64 ((y105.length : Int) - 1)) then (if (wrap64 ((y105.length : Int) - 1)) < (y115.length : Int) then ((spec_l03Solve.f k bt108.1 bt108.2.1 bt108.2.2.1 bt108.2.2.2 (y115.set ((wrap64 ((y105.length : Int) - 1)) : Int).toNat 1)).bind fun bt119 => (some (bt119.1, bt119.2))) else (none)) else (none))) else (none)) else (none)))) else (none))
def spec_l04Against.T2 : Bool × List (List Nat × List Nat) := (true, [([], []), ([0], [0]), ([1], [1]), ([2], [2]), ([], []), ([4], [4]), ([5], [5]), ([6], [6]), ([], []), ([3, 7, 8], [3, 7, 8]), ([], []), ([10, 9, 9, 0, 1, 2, 3, 4, 5, 6, 7, 8, 9, 10], [9, 10])])
def spec_l04Against.B2 : List Nat := [0, 1, 3, 7, 0, 16, 48, 112, 0, 511, 0, 2047]
theorem spec_l04Against.tab2 : rtab .any (opsOf Try.f46 2) = spec_l04Against.T2 := by kernel_rfl
theorem spec_l04Against.bits2 : waitsOk spec_l04Against.T2.2 spec_l04Against.B2 = true := by kernel_rfl
def Z46.b (n x : Nat) : Array Bool := ((List.range n).map (fun i => x.testBit i)).toArray
theorem Z46.pP {P : Program} {ops : Array Oper} {Q : Exit → Act → World → Prop} {md : Region.Mode} {S : World → Prop} {ds : List Nat} (i N : Nat) {oi : Oper} {v : Value} {fuel : Nat} {l : Array Bool} {a : Act} {w : World} (l' : Array Bool) (hc : anyB md ops l l' i = true) {a' : Act} (h : wpAnyLast P md ops Q S ds fuel l' a' w) (hi : ops[i]? = some oi := by rfl) (hN : oi.dst = some N := by rfl) (hQ : ∀ c a w, Q (.panic c) (a.put oi.dst v) w → Q (.panic c) a w := by exact fun _ _ _ h => h) (hy : Yields P ops oi v a := by exact Or.inl ⟨(by rfl), by intro w'; go_simp; with_reducible rfl⟩) (ha : a.put (some N) v = a' := by simp only [Act.put, List.setIfInBounds_toArray, List.set_cons_zero, List.set_cons_succ, i64_w, i32_w]; rfl) : wpAnyLast P md ops Q S ds (fuel + 1) l a w := pure_ l' hi hN hc hQ hy ha h
theorem Z46.pT4 {P : Program} {ops : Array Oper} {Q : Exit → Act → World → Prop} {md : Region.Mode} {S : World → Prop} {ds : List Nat} (i N : Nat) {oi : Oper} {v : Value} {fuel : Nat} {l : Array Bool} {a : Act} {w : World} (l' : Array Bool) (hc : takeB md ops ds l l' i = true) (hS : S w) {a' : Act} (h : wpAnyLast P md ops Q S ds fuel l' a' w) (hi : ops[i]? = some oi := by rfl) (hN : oi.dst = some N := by rfl) (hQ : ∀ c a w, Q (.panic c) (a.put oi.dst v) w → Q (.panic c) a w := by exact fun _ _ _ h => h) (hy : YieldsIf P ops S oi v a := by exact Or.inl ⟨(by rfl), by rintro w' ⟨s0, s1, s2, s3⟩; go_simp; with_reducible rfl⟩) (ha : a.put (some N) v = a' := by simp only [Act.put, List.setIfInBounds_toArray, List.set_cons_zero, List.set_cons_succ, i64_w, i32_w]; rfl) : wpAnyLast P md ops Q S ds (fuel + 1) l a w := take_ l' hi hN hc hQ hy hS ha h
theorem Z46.bb {w0 w w1 : World} {g : Nat} {o : Obj} (_B : Aside0 (w0.heap[g]? = some o)) (h : w.heap[g]? = some o) (hb : Below w.heap.size w w1) : w1.heap[g]? = some o := blk_below h hb
theorem Z46.bl {w0 w : World} {g : Nat} {o : Obj} (_B : Aside0 (w0.heap[g]? = some o)) (h : w.heap[g]? = some o) : g < w.heap.size := blk_lt h
theorem Z46.k {p : Prop} (h : p) : Aside0 p := ⟨h⟩
theorem Z46.z13 {P : Prop} (h : P := by (with_reducible repeat (first | apply Kd.R_alloc | apply Kd.R_drewN | apply Kd.R_drew)); exact Kd.R_mono HO113.out (fun _ hk => hk.1)) : P := h
theorem Z46.z12 {P : Prop} (h : P := by repeat (first | exact (Kd.N_reads' HO107.out).2.2 | (with_reducible refine Kd.C_alloc ?_ _) | (with_reducible refine Kd.C_drewN ?_ _) | (with_reducible refine Kd.C_drew ?_))) : P := h
theorem Z46.z11 {P : Prop} (h : P := by first | (with_reducible assumption) | assumption) : P := h
theorem Z46.z10 {P : Prop} (h : P := by (try simp only [List.map_toArray, List.map_cons, List.map_nil]); first | done | rfl | (simp only [List.length_drop, List.length_take]; rfl)) : P := h
theorem Z46.z9 {P : Prop} (h : P := by (with_reducible repeat (first | apply Kd.R_alloc | apply Kd.R_drewN | apply Kd.R_drew)); exact HO113.out) : P := h
theorem Z46.z8 {P : Prop} (h : P := by (with_reducible repeat (first | apply Kd.N_alloc | apply Kd.N_drewN | apply Kd.N_drew)); exact HO107.out) : P := h
theorem Z46.z7 {P : Prop} (h : P := by (with_reducible repeat (first | apply Kd.R_alloc | apply Kd.R_drewN | apply Kd.R_drew)); exact (Kd.R_mono (Kd.R_far (p := ⟨gb114, 3, none⟩) (Kd.R_far (p := ⟨gb114, 2, none⟩) (Kd.R_far (p := ⟨gb114, 1, none⟩) (Kd.R_far (p := ⟨gb114, 0, none⟩) (Kd.R_types HO113.out BK114.out (by decide)) (fun _ hk => hk.2) (.int .i64 t108)) (fun _ hk => hk.2) (.int .i64 t109)) (fun _ hk => hk.2) (.int .i64 t110)) (fun _ hk => hk.2) (.slice Ao24 t111.length co24)) (fun _ h_ => h_.1))) : P := h
theorem Z46.z6 {P : Prop} (h : P := by exact ⟨(blk_cell BK101.out 0).trans rfl, (blk_cell BK101.out 1).trans rfl, (blk_cell BK101.out 2).trans rfl, (blk_cell BK101.out 3).trans rfl⟩) : P := h
theorem Z46.z5 {P : Prop} (h : P := by (with_reducible repeat (first | refine blk_drewN ?_ _ | refine blk_drew ?_ | refine blk_alloc ?_ _)); exact BK114.out) : P := h
theorem Z46.z4 {P : Prop} (h : P := by (with_reducible repeat (first | apply Kd.V_alloc | apply Kd.V_drewN | apply Kd.V_drew)); exact HO1.out) : P := h
theorem Z46.z3 {P : Prop} (h : P := by simp only [Act.put, List.setIfInBounds_toArray, List.set_cons_zero, List.set_cons_succ, i64_w, i32_w]; rfl) : P := h
theorem Z46.z2 {P : Prop} (h : P := by (with_reducible repeat (first | refine blk_drewN ?_ _ | refine blk_drew ?_ | refine blk_alloc ?_ _)); exact BK101.out) : P := h
theorem Z46.z1 {P : Prop} (h : P := by repeat (first | (with_reducible first | exact HB.out | apply below_alloc | apply pw_below_drewN | apply below_drew1 | refine below_set ?_ GE101.out | refine below_set ?_ GE114.out) | exact HB.out)) : P := h
theorem Z46.z0 {P : Prop} (h : P := by repeat (first | (with_reducible first | exact HB.out | apply below_alloc | apply pw_below_drewN | apply below_drew1 | refine below_set ?_ GE101.out) | exact HB.out)) : P := h
set_option maxHeartbeats 8000000 in
set_option maxRecDepth 100000 in
theorem spec_l04Against.calls (k : Nat) (a0_0 : Int) (a0_1 : Int) (a0_2 : Int) (A0_3 : Option Addr) (c0_3 : Nat) (l0_3 : List Int) (P1_ : Nat → Prop) (A1 : Option Addr) (c1 : Nat) (l1 : List Int) (r1 : List Int) (r2 : Bool) (w : World) (hr0_3 : Kd.C (Kd.int .i64) w A0_3 l0_3.length l0_3) (hc0_3 : l0_3.length ≤ c0_3) (hs1 : Kd.V (Kd.int .i64) 2 w w.heap.size (fun k_ => P1_ k_) (.slice A1 l1.length c1) l1) {g0_ : Nat} (hbk0_ : w.heap[g0_]? = some (.cells #[.int .i64 a0_0, .int .i64 a0_1, .int .i64 a0_2, .slice A0_3 l0_3.length c0_3] 28 (0, 0))) (hP0_ : ∀ k_, P1_ k_ → k_ ≠ g0_) (h : spec_l04Against.f k a0_0 a0_1 a0_2 l0_3 l1 = some (r1, r2)) :
  Calls Try.prog 46 #[.pointer (some ⟨g0_, 0, none⟩), .slice A1 l1.length c1] w fun e w' => ∃ v0_ : Value, e = .returned (.tuple #[v0_, .bool r2]) ∧ Kd.R (Kd.int .i64) 2 w' w.heap.size (fun k_ => (w.heap.size ≤ k_)) v0_ r1 ∧ Below w.heap.size w w' := by
 have hu28 := Try.underlying28
 have HR0_3 := Z46.k hr0_3
 have HC0_3 := Z46.k hc0_3
 clear hr0_3 hc0_3
 have HO1 := Z46.k (show Kd.V (Kd.int .i64) 2 w w.heap.size (fun k_ => (P1_ k_ ∨ w.heap.size ≤ k_) ∧ k_ ≠ g0_) (.slice A1 l1.length c1) l1 from Kd.V_mono hs1 (fun k_ hk => ⟨.inl hk, hP0_ k_ hk⟩))
 have HB := Z46.k (Below.refl w.heap.size w)
 have H : ((spec_l04Columns.f k a0_0 a0_1 a0_2 l0_3).bind fun t102 => (if t102.length < 5864062014805 then ((some (t102 ++ [l1] : List (List Int))).bind fun y105 => ((spec_l04Rows.f k a0_0 a0_1 y105).bind fun bt108 => (if 0 ≤ (y105.length : Int) then (if ((y105.length : Int) : Int).toNat ≤ 35184372088832 then ((some (List.replicate ((y105.length : Int) : Int).toNat 0 : List Int)).bind fun y115 => (if 0 ≤ (wrap64 ((y105.length : Int) - 1)) then (if (wrap64 ((y105.length : Int) - 1)) < (y115.length : Int) then ((spec_l03Solve.f k bt108.1 bt108.2.1 bt108.2.2.1 bt108.2.2.2 (y115.set ((wrap64 ((y105.length : Int) - 1)) : Int).toNat 1)).bind fun bt119 => (some (bt119.1, bt119.2))) else (none)) else (none))) else (none)) else (none)))) else (none))) = some (r1, r2) := h
 clear h
 replace H := Option.bind_eq_some_iff.mp H
 obtain ⟨t102, A30, H⟩ := H
 replace H : (if t102.length < 5864062014805 then ((some (t102 ++ [l1] : List (List Int))).bind fun y105 => ((spec_l04Rows.f k a0_0 a0_1 y105).bind fun bt108 => (if 0 ≤ (y105.length : Int) then (if ((y105.length : Int) : Int).toNat ≤ 35184372088832 then ((some (List.replicate ((y105.length : Int) : Int).toNat 0 : List Int)).bind fun y115 => (if 0 ≤ (wrap64 ((y105.length : Int) - 1)) then (if (wrap64 ((y105.length : Int) - 1)) < (y115.length : Int) then ((spec_l03Solve.f k bt108.1 bt108.2.1 bt108.2.2.1 bt108.2.2.2 (y115.set ((wrap64 ((y105.length : Int) - 1)) : Int).toNat 1)).bind fun bt119 => (some (bt119.1, bt119.2))) else (none)) else (none))) else (none)) else (none)))) else (none)) = some (r1, r2) := H
 have A3 := Z46.k A30
 clear A30
 by_cases c4 : t102.length < 5864062014805
 ·rw [if_pos c4] at H
  have LMc4 := Z46.k c4
  clear c4
  obtain ⟨y105, hy105⟩ : ∃ y_ : List (List Int), y_ = (t102 ++ [l1]) := ⟨_, rfl⟩
  replace H : ((spec_l04Rows.f k a0_0 a0_1 y105).bind fun bt108 => (if 0 ≤ (y105.length : Int) then (if ((y105.length : Int) : Int).toNat ≤ 35184372088832 then ((some (List.replicate ((y105.length : Int) : Int).toNat 0 : List Int)).bind fun y115 => (if 0 ≤ (wrap64 ((y105.length : Int) - 1)) then (if (wrap64 ((y105.length : Int) - 1)) < (y115.length : Int) then ((spec_l03Solve.f k bt108.1 bt108.2.1 bt108.2.2.1 bt108.2.2.2 (y115.set ((wrap64 ((y105.length : Int) - 1)) : Int).toNat 1)).bind fun bt119 => (some (bt119.1, bt119.2))) else (none)) else (none))) else (none)) else (none))) = some (r1, r2) := by first | (rw [hy105]; with_reducible exact H) | (have H2_ := (Option.bind_some _ _).symm.trans H; rw [hy105]; with_reducible exact H2_) | (have H2_ := (Option.bind_some _ _).symm.trans H; with_reducible exact H2_) | with_reducible exact H | (rw [hy105]; exact H) | exact H
  have Ny105 := Z46.k hy105
  clear hy105
  replace H := Option.bind_eq_some_iff.mp H
  obtain ⟨⟨t108, t109, t110, t111⟩, A50, H⟩ := H
  (try dsimp only at H)
  have A5 := Z46.k A50
  clear A50
  by_cases c6 : 0 ≤ (y105.length : Int)
  ·rw [if_pos c6] at H
   have c6b0 := eq_true c6
   have c6b1 : decide (0 ≤ (y105.length : Int)) = true := decide_eq_true c6
   clear c6
   by_cases c7 : ((y105.length : Int) : Int).toNat ≤ 35184372088832
   ·rw [if_pos c7] at H
    have c7b0 := eq_true c7
    have c7b1 : decide (((y105.length : Int) : Int).toNat ≤ 35184372088832) = true := decide_eq_true c7
    clear c7
    obtain ⟨y115, hy115⟩ : ∃ y_ : List Int, y_ = (List.replicate ((y105.length : Int) : Int).toNat 0) := ⟨_, rfl⟩
    replace H : (if 0 ≤ (wrap64 ((y105.length : Int) - 1)) then (if (wrap64 ((y105.length : Int) - 1)) < (y115.length : Int) then ((spec_l03Solve.f k t108 t109 t110 t111 (y115.set ((wrap64 ((y105.length : Int) - 1)) : Int).toNat 1)).bind fun bt119 => (some (bt119.1, bt119.2))) else (none)) else (none)) = some (r1, r2) := by first | (rw [hy115]; with_reducible exact H) | (have H2_ := (Option.bind_some _ _).symm.trans H; rw [hy115]; with_reducible exact H2_) | (have H2_ := (Option.bind_some _ _).symm.trans H; with_reducible exact H2_) | with_reducible exact H | (rw [hy115]; exact H) | exact H
    have Ny115 := Z46.k hy115
    clear hy115
    obtain ⟨ji8, hji8⟩ : ∃ j_ : Int, (wrap64 ((y105.length : Int) - 1)) = j_ := ⟨_, rfl⟩
    replace H : (if 0 ≤ (ji8) then (if (ji8) < (y115.length : Int) then ((spec_l03Solve.f k t108 t109 t110 t111 (y115.set ((ji8) : Int).toNat 1)).bind fun bt119 => (some (bt119.1, bt119.2))) else (none)) else (none)) = some (r1, r2) := by first | (rw [hji8] at H; exact H) | (simp only [hji8] at H ⊢; exact H)
    (try rw [hji8] at A3)
    (try rw [hji8] at A5)
    have hji8w : (IntKind.i64.wrap ((y105.length : Int) - 1)) = ji8 := (i64_w _).trans hji8
    by_cases c9 : 0 ≤ (ji8)
    ·rw [if_pos c9] at H
     have c9b0 : decide (0 ≤ (ji8)) = true := decide_eq_true c9
     clear c9
     by_cases c10 : (ji8) < (y115.length : Int)
     ·rw [if_pos c10] at H
      have c10b0 : decide ((ji8) < (y115.length : Int)) = true := decide_eq_true c10; clear c10; obtain ⟨y118, hy118⟩ : ∃ y_ : List Int, y_ = (y115.set ((ji8) : Int).toNat 1) := ⟨_, rfl⟩; replace H : ((spec_l03Solve.f k t108 t109 t110 t111 y118).bind fun bt119 => (some (bt119.1, bt119.2))) = some (r1, r2) := by first | (rw [hy118]; with_reducible exact H) | (have H2_ := (Option.bind_some _ _).symm.trans H; rw [hy118]; with_reducible exact H2_) | (have H2_ := (Option.bind_some _ _).symm.trans H; with_reducible exact H2_) | with_reducible exact H | (rw [hy118]; exact H) | exact H
      have Ny118 := Z46.k hy118; clear hy118; replace H := Option.bind_eq_some_iff.mp H; obtain ⟨⟨t119, t122⟩, A120, H⟩ := H
      (try dsimp only at H)
      have A12 := Z46.k A120; clear A120; simp only [Option.some.injEq, Prod.mk.injEq] at H
      obtain ⟨rfl, rfl⟩ := H
      go_enter Try.func46, Try.ntmps46
      have BK101 := Z46.k hbk0_
      try go_wp2_with (first | ((with_reducible refine gate_callee (f := 75) rfl ?_); refine goesL_ (some 10) rfl rfl Try.func75 (by kernel_rfl) rfl #[.pointer (some ⟨g0_, 0, none⟩)] rfl Z46.z10 ?_; (with_reducible refine (spec_l04Columns.calls k a0_0 a0_1 a0_2 A0_3 c0_3 l0_3 t102 _ ?side1 ?side2 ?side3 A3.out).mono ?_); (case side1 => exact (by repeat (first | exact (Kd.C_below HR0_3.out HB.out) | (with_reducible refine Kd.C_alloc ?_ _) | (with_reducible refine Kd.C_drewN ?_ _) | (with_reducible refine Kd.C_drew ?_)))); (case side2 => exact HC0_3.out); (case side3 => exact Z46.z2); rintro e w14 ⟨v103, rfl, ho0, hb⟩; refine ⟨_, rfl, ?_⟩; have HO104 := Z46.k (Kd.N_lower (Kd.N_mono (ok' := fun k_ => (P1_ k_ ∨ w.heap.size ≤ k_) ∧ k_ ≠ g0_) (Kd.S_N (Kd.S_bound ho0)) (fun k_ hk_ => ⟨(.inr (Nat.le_trans (below_size Z46.z0) hk_.2.1)), (Kd.freshB (g := g0_) (o := .cells #[.int .i64 a0_0, .int .i64 a0_1, .int .i64 a0_2, .slice A0_3 l0_3.length c0_3] 28 (0, 0)) Z46.z2 k_ hk_.2.1)⟩)) (below_size Z46.z0)); replace HO1 := Z46.k (Kd.V_elder' Z46.z4 (Kd.S_base ho0) hb); replace BK101 := Z46.k (Z46.bb BK101 Z46.z2 hb); replace HB := Z46.k (below_step Z46.z0 hb); (try clear hb); (try clear hb2); (try clear hk); (try clear hi); (try clear ho0)) | ((with_reducible refine gate_builtin (b := .append) (xs := #[.tmp 10, .tmp 12]) rfl ?_); at_builtin; refine Kd.N_append (Kd.slice 2 (Kd.int .i64)) (w0 := w) w.heap.size rfl (.tmp 10) (.tmp 12) 36 22 (.slice none 0 0) 24 rfl Try.underlying36 info22 rfl (by decide) (by omega) v103 t102 l1 [.slice A1 l1.length c1] (fun k_ => (P1_ k_ ∨ w.heap.size ≤ k_) ∧ k_ ≠ g0_) (fun k_ => ((fun k_ => (P1_ k_ ∨ w.heap.size ≤ k_) ∧ k_ ≠ g0_)) k_ ∧ some k_ ≠ (v103 : Value).ownBlock) rfl rfl ?aP (fun _ hk => hk) ?aF ?aO ?aB ?aS ?aL ?_; (case aP => exact (Kd.FK_slice_mk (Kd.V_reads' (Kd.V_mono (ok' := (fun k_ => ((fun k_ => (P1_ k_ ∨ w.heap.size ≤ k_) ∧ k_ ≠ g0_)) k_ ∧ some k_ ≠ (v103 : Value).ownBlock)) (HO1.out) (fun k_ hk => ⟨⟨hk.1.1, hk.1.2⟩, hk.2⟩))).2.1 (Kd.V_F (Kd.V_mono (ok' := (fun k_ => ((fun k_ => (P1_ k_ ∨ w.heap.size ≤ k_) ∧ k_ ≠ g0_)) k_ ∧ some k_ ≠ (v103 : Value).ownBlock)) (HO1.out) (fun k_ hk => ⟨⟨hk.1.1, hk.1.2⟩, hk.2⟩))))); (case aB => exact Z46.z0); (case aF => exact (fun k_ hk => ⟨(.inr (Nat.le_trans (below_size Z46.z0) hk)), Kd.freshB (g := g0_) (o := .cells #[.int .i64 a0_0, .int .i64 a0_1, .int .i64 a0_2, .slice A0_3 l0_3.length c0_3] 28 (0, 0)) Z46.z2 k_ hk⟩)); (case aO => exact (by (with_reducible repeat (first | apply Kd.N_alloc | apply Kd.N_drewN | apply Kd.N_drew)); exact HO104.out)); (case aS => exact (below_size Z46.z0)); (case aL => have := LMc4.out; omega); intro v106 w15 ho hb hg hat; rw [← Ny105.out] at ho; have HO107 := Z46.k (ho); replace HO1 := Z46.k (Kd.V_afterv (ok := (fun k_ => (P1_ k_ ∨ w.heap.size ≤ k_) ∧ k_ ≠ g0_)) Z46.z4 hg hat); replace BK101 := Z46.k (blk_grown (g := g0_) (o := .cells #[.int .i64 a0_0, .int .i64 a0_1, .int .i64 a0_2, .slice A0_3 l0_3.length c0_3] 28 (0, 0)) Z46.z2 hg (Kd.N_ne HO104.out BK101.out (by decide))); replace HB := Z46.k (hb); clear HO104; clear ho hb hg hat; obtain ⟨Ao16, co16, eo16⟩ := Kd.N_slice HO107.out; subst eo16))
      replace HO1 := Z46.k (Kd.V_drew HO1.out); replace HO107 := Z46.k (Kd.N_drew HO107.out); replace BK101 := Z46.k (blk_drew BK101.out); replace HB := Z46.k (below_drew1 HB.out); refine start_ (n := 12) (S := fun w' => w'.cell? ⟨g0_, 0, none⟩ = some (.int .i64 a0_0) ∧ w'.cell? ⟨g0_, 1, none⟩ = some (.int .i64 a0_1) ∧ w'.cell? ⟨g0_, 2, none⟩ = some (.int .i64 a0_2) ∧ w'.cell? ⟨g0_, 3, none⟩ = some (.slice A0_3 l0_3.length c0_3)) (ds := []) #[false, false, false, false, false, false, false, false, false, false, false, false] (by kernel_rfl) rfl rfl Z46.z6 (fun hHeld => ?_); refine with_tabW spec_l04Against.tab2 spec_l04Against.bits2 (fun HT_ HW_ => ?_); generalize w15.drew = w17 at HO1 HO107 BK101 HB hHeld ⊢
      refine Z46.pP 0 14 (Z46.b 12 1) (any_of HT_.out (by kernel_rfl)) ?_; refine Z46.pP 1 15 (Z46.b 12 3) (any_of HT_.out (by kernel_rfl)) ?_; refine Z46.pP 2 16 (Z46.b 12 7) (any_of HT_.out (by kernel_rfl)) ?_; refine Z46.pP 4 18 (Z46.b 12 23) (any_of HT_.out (by kernel_rfl)) ?_; refine Z46.pP 5 19 (Z46.b 12 55) (any_of HT_.out (by kernel_rfl)) ?_; refine Z46.pP 6 20 (Z46.b 12 119) (any_of HT_.out (by kernel_rfl)) ?_; refine Z46.pP 8 22 (Z46.b 12 375) (any_of HT_.out (by kernel_rfl)) ?_; refine Z46.pT4 3 17 (Z46.b 12 383) (take_ofW HT_.out HW_.out (by kernel_rfl)) hHeld ?_; refine Z46.pT4 7 21 (Z46.b 12 511) (take_ofW HT_.out HW_.out (by kernel_rfl)) hHeld ?_; refine join_ (σ := Value × Nat) 1 (Z46.b 12 2047) (fun s_ => [(23, .agg #[.int .i64 t108, .int .i64 t109, .int .i64 t110, s_.1]), (7, .pointer (some ⟨s_.2, 0, none⟩))]) (fun s_ w' => (w'.cell? ⟨g0_, 0, none⟩ = some (.int .i64 a0_0) ∧ w'.cell? ⟨g0_, 1, none⟩ = some (.int .i64 a0_1) ∧ w'.cell? ⟨g0_, 2, none⟩ = some (.int .i64 a0_2) ∧ w'.cell? ⟨g0_, 3, none⟩ = some (.slice A0_3 l0_3.length c0_3)) ∧ (Kd.V (Kd.int .i64) 2 w' w.heap.size (fun k_ => (P1_ k_ ∨ w.heap.size ≤ k_) ∧ some k_ ≠ (.slice Ao16 y105.length co16 : Value).ownBlock ∧ some k_ ≠ (s_.1 : Value).ownBlock ∧ k_ ≠ g0_ ∧ k_ ≠ s_.2) (.slice A1 l1.length c1) l1) ∧ (Kd.N (Kd.slice 2 (Kd.int .i64)) 22 w' w.heap.size (fun k_ => (P1_ k_ ∨ w.heap.size ≤ k_) ∧ some k_ ≠ (s_.1 : Value).ownBlock ∧ k_ ≠ g0_ ∧ k_ ≠ s_.2) (.slice Ao16 y105.length co16) y105) ∧ (Kd.R (Kd.int .i64) 2 w' w.heap.size (fun k_ => (w.heap.size ≤ k_)) s_.1 t111) ∧ (w'.heap[g0_]? = some (.cells #[.int .i64 a0_0, .int .i64 a0_1, .int .i64 a0_2, .slice A0_3 l0_3.length c0_3] 28 (0, 0))) ∧ (w'.heap[s_.2]? = some (.cells #[.int .i64 0, .int .i64 0, .int .i64 0, .slice none 0 0] 28 (0, 0))) ∧ (w.heap.size ≤ s_.2) ∧ (w.heap.size ≤ s_.2) ∧ (g0_ ≠ s_.2) ∧ (s_.2 ≠ g0_) ∧ (Below w.heap.size w w')) ?_ ?_
      rotate_left
      ·intro hCont
       refine two_ (i := 9) (j := 10) (Ni := some 23) (Nj := some 7) (Z46.b 12 1023) (Z46.b 12 1535) rfl rfl rfl rfl (two_of HT_.out (by kernel_rfl)) (by decide) (by decide) (fun K hK => ?_) (fun K hK => ?_)
       ·skip
        refine goes_ Try.func76 (by kernel_rfl) rfl #[.int .i64 a0_0, .int .i64 a0_1, .slice Ao16 y105.length co16] (by rfl) rfl rfl Z46.z10 ?_
        with_reducible refine (spec_l04Rows.calls k a0_0 a0_1 _ _ y105 t108 t109 t110 t111 _ ?side1 ?side2 A5.out).mono ?_
        (case side1 => exact Z46.z12)
        (case side2 => exact (Kd.N_reads' HO107.out).2.1)
        rintro e w18 ⟨v112, rfl, ho0, hb⟩
        refine ⟨_, rfl, ?_⟩; have HO113 := Z46.k (Kd.R_lower (Kd.R_newM (M := fun k_ => (w.heap.size ≤ k_)) ho0 (below_size Z46.z0) (fun k_ h_ => h_)) (below_size Z46.z0)); replace HO1 := Z46.k (Kd.V_elder' Z46.z4 (Kd.R_base ho0) hb); replace HO107 := Z46.k (Kd.N_elder' Z46.z8 (Kd.R_base ho0) hb); replace BK101 := Z46.k (Z46.bb BK101 Z46.z2 hb); replace HB := Z46.k (below_step Z46.z0 hb); (try clear hb); (try clear hb2); (try clear hk); (try clear hi); (try clear ho0); refine hK.out _ _ Z46.z6 (fun hHeld => ?_); clear hK K; refine norm_ (a' := ?_) ?_ ?_
        rotate_left
        ·show Act.put _ (some 23) _ = _
         simp only [Act.put, List.setIfInBounds_toArray, List.set_cons_zero, List.set_cons_succ, i64_w, i32_w]
         rfl
        refine one_ (i := 10) (N := some 7) (Z46.b 12 2047) rfl rfl (one_of HT_.out (by kernel_rfl)) (by decide) (fun K hK => ?_); refine box_step ?hg (N := 7) ?hd (cs := #[.int .i64 0, .int .i64 0, .int .i64 0, .slice none 0 0]) (t := 28) ?hr ?_; (case hd => rfl); (case hg => rfl); (case hr => first | (go_simp; done) | (go_simp; rfl))
        intro gb114 hg w19 hbox hb
        have n0_ := Z46.k (Kd.V_below (Kd.V_elderB Z46.z4 gb114 (Nat.le_of_eq hg.symm)) hb); have n1_ := Z46.k (Kd.N_below (Kd.N_elderB Z46.z8 gb114 (Nat.le_of_eq hg.symm)) hb); have n2_ := Z46.k (Kd.R_below Z46.z9 hb); have n3_ := Z46.k (Z46.bb BK101 Z46.z2 hb); have n4_ := Z46.k (below_step Z46.z0 hb); have n5_ := Z46.k (hbox); have n6_ := Z46.k (show w.heap.size ≤ gb114 from (by rw [hg]; exact (below_size Z46.z0))); have n7_ := Z46.k (show w.heap.size ≤ gb114 from (by rw [hg]; exact (below_size Z46.z0))); have n8_ := Z46.k (show g0_ ≠ gb114 from (by rw [hg]; exact Nat.ne_of_lt (Z46.bl BK101 Z46.z2))); have n9_ := Z46.k (show gb114 ≠ g0_ from (by rw [hg]; exact Nat.ne_of_gt (Z46.bl BK101 Z46.z2))); clear HO1 HO107 HO113 BK101 HB; have HO1 := n0_; have HO107 := n1_; have HO113 := n2_; have BK101 := n3_; have HB := n4_; have BK114 := n5_; have GW114 := n6_; have GE114 := n7_; have NB101_114 := n8_; have NB114_101 := n9_; clear n0_ n1_ n2_ n3_ n4_ n5_ n6_ n7_ n8_ n9_ hb hbox hg; refine hK.out _ _ Z46.z6 (fun hHeld => ?_); clear hK K; refine norm_ (a' := ?_) ?_ ?_
        rotate_left
        ·show Act.put _ (some 7) _ = _
         simp only [Act.put, List.setIfInBounds_toArray, List.set_cons_zero, List.set_cons_succ, i64_w, i32_w]
         rfl
        exact norm_ (by simp only [putAll, Act.put, List.setIfInBounds_toArray, List.set_cons_zero, List.set_cons_succ]) (hCont (v112, gb114) _ ⟨hHeld, (by (with_reducible repeat (first | apply Kd.V_alloc | apply Kd.V_drewN | apply Kd.V_drew)); exact Kd.V_mono HO1.out (fun _ hk => ⟨hk.1.1.1.1, ⟨hk.1.1.2, ⟨hk.1.2, ⟨hk.1.1.1.2, hk.2⟩⟩⟩⟩)), (by (with_reducible repeat (first | apply Kd.N_alloc | apply Kd.N_drewN | apply Kd.N_drew)); exact Kd.N_mono HO107.out (fun _ hk => ⟨hk.1.1.1, ⟨hk.1.2, ⟨hk.1.1.2, hk.2⟩⟩⟩)), Z46.z13, Z46.z2, Z46.z5, GW114.out, GE114.out, NB101_114.out, NB114_101.out, Z46.z1⟩)
       skip
       refine box_step ?hg (N := 7) ?hd (cs := #[.int .i64 0, .int .i64 0, .int .i64 0, .slice none 0 0]) (t := 28) ?hr ?_; (case hd => rfl); (case hg => rfl); (case hr => first | (go_simp; done) | (go_simp; rfl))
       intro gb114 hg w18 hbox hb
       have n0_ := Z46.k (Kd.V_below (Kd.V_elderB Z46.z4 gb114 (Nat.le_of_eq hg.symm)) hb); have n1_ := Z46.k (Kd.N_below (Kd.N_elderB Z46.z8 gb114 (Nat.le_of_eq hg.symm)) hb); have n2_ := Z46.k (Z46.bb BK101 Z46.z2 hb); have n3_ := Z46.k (below_step Z46.z0 hb); have n4_ := Z46.k (hbox); have n5_ := Z46.k (show w.heap.size ≤ gb114 from (by rw [hg]; exact (below_size Z46.z0))); have n6_ := Z46.k (show w.heap.size ≤ gb114 from (by rw [hg]; exact (below_size Z46.z0))); have n7_ := Z46.k (show g0_ ≠ gb114 from (by rw [hg]; exact Nat.ne_of_lt (Z46.bl BK101 Z46.z2))); have n8_ := Z46.k (show gb114 ≠ g0_ from (by rw [hg]; exact Nat.ne_of_gt (Z46.bl BK101 Z46.z2))); clear HO1 HO107 BK101 HB; have HO1 := n0_; have HO107 := n1_; have BK101 := n2_; have HB := n3_; have BK114 := n4_; have GW114 := n5_; have GE114 := n6_; have NB101_114 := n7_; have NB114_101 := n8_; clear n0_ n1_ n2_ n3_ n4_ n5_ n6_ n7_ n8_ hb hbox hg; refine hK.out _ _ Z46.z6 (fun hHeld => ?_); clear hK K; refine norm_ (a' := ?_) ?_ ?_
       rotate_left
       ·show Act.put _ (some 7) _ = _
        simp only [Act.put, List.setIfInBounds_toArray, List.set_cons_zero, List.set_cons_succ, i64_w, i32_w]
        rfl
       refine one_ (i := 9) (N := some 23) (Z46.b 12 2047) rfl rfl (one_of HT_.out (by kernel_rfl)) (by decide) (fun K hK => ?_); refine goes_ Try.func76 (by kernel_rfl) rfl #[.int .i64 a0_0, .int .i64 a0_1, .slice Ao16 y105.length co16] (by rfl) rfl rfl Z46.z10 ?_
       with_reducible refine (spec_l04Rows.calls k a0_0 a0_1 _ _ y105 t108 t109 t110 t111 _ ?side1 ?side2 A5.out).mono ?_
       (case side1 => exact Z46.z12)
       (case side2 => exact (Kd.N_reads' HO107.out).2.1)
       rintro e w19 ⟨v112, rfl, ho0, hb⟩
       refine ⟨_, rfl, ?_⟩; have HO113 := Z46.k (Kd.R_lower (Kd.R_newM (M := fun k_ => (w.heap.size ≤ k_)) ho0 (below_size Z46.z1) (fun k_ h_ => h_)) (below_size Z46.z1)); replace HO1 := Z46.k (Kd.V_elder' Z46.z4 (Kd.R_base ho0) hb); replace HO107 := Z46.k (Kd.N_elder' Z46.z8 (Kd.R_base ho0) hb); replace BK101 := Z46.k (Z46.bb BK101 Z46.z2 hb); replace BK114 := Z46.k (Z46.bb BK114 Z46.z5 hb); replace HB := Z46.k (below_step Z46.z1 hb); (try clear hb); (try clear hb2); (try clear hk); (try clear hi); (try clear ho0); refine hK.out _ _ Z46.z6 (fun hHeld => ?_); clear hK K; refine norm_ (a' := ?_) ?_ ?_
       rotate_left
       ·show Act.put _ (some 23) _ = _
        simp only [Act.put, List.setIfInBounds_toArray, List.set_cons_zero, List.set_cons_succ, i64_w, i32_w]
        rfl
       exact norm_ (by simp only [putAll, Act.put, List.setIfInBounds_toArray, List.set_cons_zero, List.set_cons_succ]) (hCont (v112, gb114) _ ⟨hHeld, (by (with_reducible repeat (first | apply Kd.V_alloc | apply Kd.V_drewN | apply Kd.V_drew)); exact Kd.V_mono HO1.out (fun _ hk => ⟨hk.1.1.1.1, ⟨hk.1.1.2, ⟨hk.2, ⟨hk.1.1.1.2, hk.1.2⟩⟩⟩⟩)), (by (with_reducible repeat (first | apply Kd.N_alloc | apply Kd.N_drewN | apply Kd.N_drew)); exact Kd.N_mono HO107.out (fun _ hk => ⟨hk.1.1.1, ⟨hk.2, ⟨hk.1.1.2, hk.1.2⟩⟩⟩)), Z46.z13, Z46.z2, Z46.z5, GW114.out, GE114.out, NB101_114.out, NB114_101.out, Z46.z1⟩)
      rintro ⟨v112, gb114⟩ w20 ⟨hS_, h0_, h1_, h2_, h3_, h4_, h5_, h6_, h7_, h8_, h9_⟩
      have n0_ : Aside0 (Kd.V (Kd.int .i64) 2 w20 w.heap.size (fun k_ => (P1_ k_ ∨ w.heap.size ≤ k_) ∧ some k_ ≠ (.slice Ao16 y105.length co16 : Value).ownBlock ∧ some k_ ≠ (v112 : Value).ownBlock ∧ k_ ≠ g0_ ∧ k_ ≠ gb114) (.slice A1 l1.length c1) l1) := ⟨h0_⟩; have n1_ : Aside0 (Kd.N (Kd.slice 2 (Kd.int .i64)) 22 w20 w.heap.size (fun k_ => (P1_ k_ ∨ w.heap.size ≤ k_) ∧ some k_ ≠ (v112 : Value).ownBlock ∧ k_ ≠ g0_ ∧ k_ ≠ gb114) (.slice Ao16 y105.length co16) y105) := ⟨h1_⟩; have n2_ : Aside0 (Kd.R (Kd.int .i64) 2 w20 w.heap.size (fun k_ => (w.heap.size ≤ k_)) v112 t111) := ⟨h2_⟩; have n3_ : Aside0 (w20.heap[g0_]? = some (.cells #[.int .i64 a0_0, .int .i64 a0_1, .int .i64 a0_2, .slice A0_3 l0_3.length c0_3] 28 (0, 0))) := ⟨h3_⟩; have n4_ : Aside0 (w20.heap[gb114]? = some (.cells #[.int .i64 0, .int .i64 0, .int .i64 0, .slice none 0 0] 28 (0, 0))) := ⟨h4_⟩; have n5_ : Aside0 (w.heap.size ≤ gb114) := ⟨h5_⟩; have n6_ : Aside0 (w.heap.size ≤ gb114) := ⟨h6_⟩; have n7_ : Aside0 (g0_ ≠ gb114) := ⟨h7_⟩; have n8_ : Aside0 (gb114 ≠ g0_) := ⟨h8_⟩; have n9_ : Aside0 (Below w.heap.size w w20) := ⟨h9_⟩; clear HO1 HO107 BK101 HB h0_ h1_ h2_ h3_ h4_ h5_ h6_ h7_ h8_ h9_; have HO1 := n0_; have HO107 := n1_; have HO113 := n2_; have BK101 := n3_; have BK114 := n4_; have GW114 := n5_; have GE114 := n6_; have NB101_114 := n7_; have NB114_101 := n8_; have HB := n9_; clear n0_ n1_ n2_ n3_ n4_ n5_ n6_ n7_ n8_ n9_; have hHeld : w20.cell? ⟨g0_, 0, none⟩ = some (.int .i64 a0_0) ∧ w20.cell? ⟨g0_, 1, none⟩ = some (.int .i64 a0_1) ∧ w20.cell? ⟨g0_, 2, none⟩ = some (.int .i64 a0_2) ∧ w20.cell? ⟨g0_, 3, none⟩ = some (.slice A0_3 l0_3.length c0_3) := hS_; obtain ⟨Ao24, co24, eo24⟩ := Kd.R_slice HO113.out
      (first | subst eo24 | (injection eo24 with f1_ f2_ f3_; have f4_ := f1_.symm; have f5_ := f3_.symm; clear f1_ f2_ f3_; subst f4_; subst f5_))
      refine norm_ (a' := ?_) ?_ ?_
      rotate_left
      ·simp only [putAll, Act.put, List.setIfInBounds_toArray, List.set_cons_zero, List.set_cons_succ]
       rfl
      refine one_ (i := 11) (N := none) (Z46.b 12 4095) rfl rfl (one_of HT_.out (by kernel_rfl)) (by decide) (fun K hK => ?_); have hs21 : w20.cell? ⟨gb114, 0, none⟩ = some (.int .i64 0) := (blk_cell BK114.out 0).trans rfl; have hfs21 := blk_frozen BK114.out 0; have hns21_0 := NB101_114.out; have hms21_0 := NB114_101.out; have hs22 : w20.cell? ⟨gb114, 1, none⟩ = some (.int .i64 0) := (blk_cell BK114.out 1).trans rfl; have hfs22 := blk_frozen BK114.out 1; have hns22_0 := NB101_114.out; have hms22_0 := NB114_101.out; have hs23 : w20.cell? ⟨gb114, 2, none⟩ = some (.int .i64 0) := (blk_cell BK114.out 2).trans rfl; have hfs23 := blk_frozen BK114.out 2; have hns23_0 := NB101_114.out; have hms23_0 := NB114_101.out; have hs25 : w20.cell? ⟨gb114, 3, none⟩ = some (.slice none 0 0) := (blk_cell BK114.out 3).trans rfl; have hfs25 := blk_frozen BK114.out 3; have hns25_0 := NB101_114.out; have hms25_0 := NB114_101.out; refine skip_ (w1 := ?_) (by rfl) rfl ?_ ?_
      rotate_left
      ·go_simp
       rfl
      refine hK.out _ _ ⟨((cell_far (p := ⟨gb114, _, none⟩) NB101_114.out _).trans (((cell_far (p := ⟨gb114, _, none⟩) NB101_114.out _).trans (((cell_far (p := ⟨gb114, _, none⟩) NB101_114.out _).trans (((cell_far (p := ⟨gb114, _, none⟩) NB101_114.out _).trans (hHeld.1)))))))), ((cell_far (p := ⟨gb114, _, none⟩) NB101_114.out _).trans (((cell_far (p := ⟨gb114, _, none⟩) NB101_114.out _).trans (((cell_far (p := ⟨gb114, _, none⟩) NB101_114.out _).trans (((cell_far (p := ⟨gb114, _, none⟩) NB101_114.out _).trans (hHeld.2.1)))))))), ((cell_far (p := ⟨gb114, _, none⟩) NB101_114.out _).trans (((cell_far (p := ⟨gb114, _, none⟩) NB101_114.out _).trans (((cell_far (p := ⟨gb114, _, none⟩) NB101_114.out _).trans (((cell_far (p := ⟨gb114, _, none⟩) NB101_114.out _).trans (hHeld.2.2.1)))))))), ((cell_far (p := ⟨gb114, _, none⟩) NB101_114.out _).trans (((cell_far (p := ⟨gb114, _, none⟩) NB101_114.out _).trans (((cell_far (p := ⟨gb114, _, none⟩) NB101_114.out _).trans (((cell_far (p := ⟨gb114, _, none⟩) NB101_114.out _).trans (hHeld.2.2.2))))))))⟩ (fun hHeld => ?_); clear hK K; refine done_ (done_of HT_.out (by kernel_rfl)) ?_
      try go_wp2_with (first | ((with_reducible refine gate_dst (N := 26) rfl ?_); refine Kd.R_make (Kd.int .i64) _ 2 rfl (N := 26) rfl 22 _ _ rfl (y105.length : Int) rfl rfl Try.underlying22 (.int .i64 0) 8 info2 rfl (by decide) (by omega) 0 (ok := fun _ => True) (okp := fun _ => True) rfl (fun _ hk => hk) trivial (of_decide_eq_true Z46.z11) (Nat.le_trans (Nat.mul_le_mul_right _ (of_decide_eq_true Z46.z11 : (y105.length : Int).toNat ≤ 35184372088832)) (by omega)) (Below.refl _ _) (Nat.le_refl _) ?_; intro v116 w26 ho27 hb hg_ hnew_; clear hg_ hnew_; (first | rw [← Ny115.out] at ho27 | (simp only [Int.reduceToNat] at ho27; rw [← Ny115.out] at ho27)); have HO117 := Z46.k (Kd.R_lower (Kd.R_new' (Kd.R_newM (M := fun k_ => (w.heap.size ≤ k_)) ho27 (below_size Z46.z1) (fun k_ h_ => h_)) (Kd.R_lt Z46.z7)) (below_size Z46.z1)); replace HO1 := Z46.k (Kd.V_elder' (by (with_reducible repeat (first | apply Kd.V_alloc | apply Kd.V_drewN | apply Kd.V_drew)); exact (Kd.V_mono (Kd.V_far (p := ⟨gb114, 3, none⟩) (Kd.V_far (p := ⟨gb114, 2, none⟩) (Kd.V_far (p := ⟨gb114, 1, none⟩) (Kd.V_far (p := ⟨gb114, 0, none⟩) (Kd.V_mono HO1.out (fun k_ hk => (⟨hk, hk.2.2.2.2⟩ : _ ∧ k_ ≠ gb114))) (fun _ hk => hk.2) (.int .i64 t108)) (fun _ hk => hk.2) (.int .i64 t109)) (fun _ hk => hk.2) (.int .i64 t110)) (fun _ hk => hk.2) (.slice Ao24 t111.length co24)) (fun _ h_ => h_.1))) (Kd.R_base ho27) hb); replace HO107 := Z46.k (Kd.N_elder' (by (with_reducible repeat (first | apply Kd.N_alloc | apply Kd.N_drewN | apply Kd.N_drew)); exact (Kd.N_mono (Kd.N_far (p := ⟨gb114, 3, none⟩) (Kd.N_far (p := ⟨gb114, 2, none⟩) (Kd.N_far (p := ⟨gb114, 1, none⟩) (Kd.N_far (p := ⟨gb114, 0, none⟩) (Kd.N_mono HO107.out (fun k_ hk => (⟨hk, hk.2.2.2⟩ : _ ∧ k_ ≠ gb114))) (fun _ hk => hk.2) (.int .i64 t108)) (fun _ hk => hk.2) (.int .i64 t109)) (fun _ hk => hk.2) (.int .i64 t110)) (fun _ hk => hk.2) (.slice Ao24 t111.length co24)) (fun _ h_ => h_.1))) (Kd.R_base ho27) hb); replace HO113 := Z46.k (Kd.R_elder' Z46.z7 (Kd.R_base ho27) hb); replace BK101 := Z46.k (Z46.bb BK101 (by (repeat (first | (with_reducible first | refine blk_drewN ?_ _ | refine blk_drew ?_ | refine blk_alloc ?_ _) | refine blk_far ?_ NB101_114.out _)); exact BK101.out) hb); replace BK114 := Z46.k (blk_below (g := gb114) (o := .cells #[.int .i64 t108, .int .i64 t109, .int .i64 t110, .slice Ao24 t111.length co24] 28 (0, 0)) (by (with_reducible repeat (first | refine blk_drewN ?_ _ | refine blk_drew ?_ | refine blk_alloc ?_ _)); refine blk_put (cs := #[.int .i64 t108, .int .i64 t109, .int .i64 t110, .slice none 0 0]) ?_ 3 _ rfl; (with_reducible repeat (first | refine blk_drewN ?_ _ | refine blk_drew ?_ | refine blk_alloc ?_ _)); refine blk_put (cs := #[.int .i64 t108, .int .i64 t109, .int .i64 0, .slice none 0 0]) ?_ 2 _ rfl; (with_reducible repeat (first | refine blk_drewN ?_ _ | refine blk_drew ?_ | refine blk_alloc ?_ _)); refine blk_put (cs := #[.int .i64 t108, .int .i64 0, .int .i64 0, .slice none 0 0]) ?_ 1 _ rfl; (with_reducible repeat (first | refine blk_drewN ?_ _ | refine blk_drew ?_ | refine blk_alloc ?_ _)); refine blk_put (cs := #[.int .i64 0, .int .i64 0, .int .i64 0, .slice none 0 0]) ?_ 0 _ rfl; (with_reducible repeat (first | refine blk_drewN ?_ _ | refine blk_drew ?_ | refine blk_alloc ?_ _)); exact BK114.out) hb); replace HB := Z46.k (below_step Z46.z1 hb); clear hb ho27; have p11 : 0 ≤ ((ji8) : Int) := of_decide_eq_true Z46.z11; have q11 : ((ji8) : Int) < ((y115.length : Int) : Int) := of_decide_eq_true Z46.z11; obtain ⟨go11, co11, eo11, gb11, gl11, cl11, HG11⟩ := Kd.R_form HO117.out (by omega); (first | cases eo11 | (injection eo11 with ea_ en_ ec_; (first | subst ea_ | (injection ea_ with ea_; subst ea_)); subst ec_; clear en_)); have GB11 := Z46.k gb11; have GG11 := Z46.k HG11; clear gb11 gl11 HG11; obtain ⟨hx11_0, hf11_0⟩ := Kd.R_celln 0 HO117.out ((ji8) : Int) p11 q11; replace p11 := eq_true p11; replace q11 := eq_true q11; have n_ := Z46.k (Kd.R_mono (ok' := (fun k_ => (w.heap.size ≤ k_) ∧ some k_ ≠ (.slice Ao24 t111.length co24 : Value).ownBlock)) HO117.out (fun k_ hk => ⟨hk.1.1, hk.2⟩)); clear HO117; have HO117 := n_; clear n_; obtain ⟨hy28_, hz28_⟩ := Kd.R_celln 0 HO117.out ((ji8) : Int) (of_decide_eq_true Z46.z11) (of_decide_eq_true Z46.z11); have HP28 := Kd.R_putg HO117.out ((ji8) : Int) 1) | ((with_reducible refine gate_store (t := 2) (p := 31) rfl ?_); refine store_event (t := 2) (p := 31) (v := ?vo_w29) (w1 := (w26.setCell ⟨go11, ((ji8) : Int).toNat, none⟩ (.int .i64 1))) ?hg ?ho ?hn ?hr ?_; (case ho => rfl); (case hg => rfl); (case hn => rfl); (case hr => first | (go_simp; done) | (go_simp; rfl)); intro w29 hw; have hg : w26.grownBy w29 (some go11) := (by rw [hw]; exact HP28.2); have hp_ : Kd.R (Kd.int .i64) 2 w29 w.heap.size (fun k_ => (w.heap.size ≤ k_) ∧ some k_ ≠ (.slice Ao24 t111.length co24 : Value).ownBlock) (.slice (some ⟨go11, 0, none⟩) y115.length co11) y118 := (by rw [hw, Ny118.out]; exact HP28.1); clear HP28; replace HO1 := Z46.k (Kd.V_afterv (v := (.slice (some ⟨go11, 0, none⟩) y115.length co11)) (v1 := (.slice (some ⟨go11, 0, none⟩) y115.length co11)) (ok := (fun k_ => (P1_ k_ ∨ w.heap.size ≤ k_) ∧ some k_ ≠ (.slice Ao16 y105.length co16 : Value).ownBlock ∧ some k_ ≠ (.slice Ao24 t111.length co24 : Value).ownBlock ∧ k_ ≠ g0_ ∧ k_ ≠ gb114)) Z46.z4 hg (.inl rfl)); replace BK101 := Z46.k (blk_grown (g := g0_) (o := .cells #[.int .i64 a0_0, .int .i64 a0_1, .int .i64 a0_2, .slice A0_3 l0_3.length c0_3] 28 (0, 0)) Z46.z2 hg (Kd.R_ne HO117.out BK101.out (by decide))); replace HO107 := Z46.k (Kd.N_afterv (v := (.slice (some ⟨go11, 0, none⟩) y115.length co11)) (v1 := (.slice (some ⟨go11, 0, none⟩) y115.length co11)) (ok := (fun k_ => (P1_ k_ ∨ w.heap.size ≤ k_) ∧ some k_ ≠ (.slice Ao24 t111.length co24 : Value).ownBlock ∧ k_ ≠ g0_ ∧ k_ ≠ gb114)) Z46.z8 hg (.inl rfl)); replace HO113 := Z46.k (Kd.R_after (v := (.slice (some ⟨go11, 0, none⟩) y115.length co11)) (v1 := (.slice (some ⟨go11, 0, none⟩) y115.length co11)) (ok := (fun k_ => (w.heap.size ≤ k_))) Z46.z9 hg (.inl rfl)); replace BK114 := Z46.k (blk_grown (g := gb114) (o := .cells #[.int .i64 t108, .int .i64 t109, .int .i64 t110, .slice Ao24 t111.length co24] 28 (0, 0)) Z46.z5 hg (Kd.R_ne HO117.out BK114.out (by decide))); replace HO117 := Z46.k (hp_); replace HB := Z46.k ((by rw [hw]; exact below_set (HB.out) GB11.out : Below w.heap.size w w29)); clear hg hw hp_) | ((with_reducible refine gate_callee (f := 33) rfl ?_); refine goesL_ (some 33) rfl rfl Try.func33 (by kernel_rfl) rfl #[.pointer (some ⟨gb114, 0, none⟩), .slice (some ⟨go11, 0, none⟩) y118.length co11] rfl (by (try simp only [List.map_toArray, List.map_cons, List.map_nil]); first | done | (rw [show y118.length = y115.length from (Kd.R_reads' HO117.out).1.symm] <;> rfl) | rfl | (simp only [List.length_drop, List.length_take]; rfl)) ?_; (with_reducible refine (spec_l03Solve.calls k t108 t109 t110 Ao24 co24 t111 _ _ y118 t119 t122 _ ?side1 ?side2 ?side3 ?side4 ?side5 A12.out).mono ?_); (case side1 => exact (by repeat (first | exact (Kd.R_reads' HO113.out).2.2 | (with_reducible refine Kd.C_alloc ?_ _) | (with_reducible refine Kd.C_drewN ?_ _) | (with_reducible refine Kd.C_drew ?_)))); (case side2 => exact (Kd.R_reads' HO113.out).2.1); (case side3 => exact (by repeat (first | exact (Kd.R_reads' HO117.out).2.2 | (with_reducible refine Kd.C_alloc ?_ _) | (with_reducible refine Kd.C_drewN ?_ _) | (with_reducible refine Kd.C_drew ?_)))); (case side4 => exact (by rw [show y118.length = y115.length from (Kd.R_reads' HO117.out).1.symm]; exact (Kd.R_reads' HO117.out).2.1)); (case side5 => exact Z46.z5); rintro e w30 ⟨v120, rfl, ho0, hb⟩; refine ⟨_, rfl, ?_⟩; have HO121 := Z46.k (Kd.R_lower (Kd.R_new' (Kd.R_new' (Kd.R_newM (M := fun k_ => (w.heap.size ≤ k_)) ho0 (below_size Z46.z1) (fun k_ h_ => h_)) (Kd.R_lt Z46.z9)) (Kd.R_lt (by (with_reducible repeat (first | apply Kd.R_alloc | apply Kd.R_drewN | apply Kd.R_drew)); exact HO117.out))) (below_size Z46.z1)); replace HO1 := Z46.k (Kd.V_elder' Z46.z4 (Kd.R_base ho0) hb); replace HO107 := Z46.k (Kd.N_elder' Z46.z8 (Kd.R_base ho0) hb); replace HO113 := Z46.k (Kd.R_elder' Z46.z9 (Kd.R_base ho0) hb); replace HO117 := Z46.k (Kd.R_elder' (by (with_reducible repeat (first | apply Kd.R_alloc | apply Kd.R_drewN | apply Kd.R_drew)); exact HO117.out) (Kd.R_base ho0) hb); replace BK101 := Z46.k (Z46.bb BK101 Z46.z2 hb); replace BK114 := Z46.k (Z46.bb BK114 Z46.z5 hb); replace HB := Z46.k (below_step Z46.z1 hb); (try clear hb); (try clear hb2); (try clear hk); (try clear hi); (try clear ho0)))
      go_ret2
      exact ⟨_, (by first | rfl | (simp [errW_none, errW_some] <;> rfl) | (simp only [← hji8]; first | rfl | (simp [errW_none, errW_some] <;> rfl)) | (simp [*, errW_none, errW_some] <;> rfl)), (by (with_reducible repeat (first | apply Kd.R_alloc | apply Kd.R_drewN | apply Kd.R_drew)); exact Kd.R_mono HO121.out (fun _ hk => hk.1.1.1)), Z46.z1⟩
     rw [if_neg c10] at H
     exact absurd H (by simp)
    rw [if_neg c9] at H
    exact absurd H (by simp)
   rw [if_neg c7] at H
   exact absurd H (by simp)
  rw [if_neg c6] at H
  exact absurd H (by simp)
 rw [if_neg c4] at H
 exact absurd H (by simp)
/-! ### spec_Certificate: function 22 -/
def spec_Certificate.f (k : Nat) (a0_0 : Int) (a0_1 : Int) (a0_2 : Int) (l0_3 : List Int) (l1 : List Int) : Option (List Int × Int) := (spec_l04Ask.f k a0_0 a0_1 a0_2 l0_3 l1).bind fun t102 => (if t102 = 0 then ((spec_l04Against.f k a0_0 a0_1 a0_2 l0_3 l1).bind fun bt103 => (if bt103.2 = true then ((spec_l00Own.f bt103.1).bind fun t107 => (some (t107, 0))) else (some (([] : List Int), 3)))) else (some (([] : List Int), t102)))
theorem Z22.bb {w0 w w1 : World} {g : Nat} {o : Obj} (_B : Aside0 (w0.heap[g]? = some o)) (h : w.heap[g]? = some o) (hb : Below w.heap.size w w1) : w1.heap[g]? = some o := blk_below h hb
theorem Z22.bl {w0 w : World} {g : Nat} {o : Obj} (_B : Aside0 (w0.heap[g]? = some o)) (h : w.heap[g]? = some o) : g < w.heap.size := blk_lt h
theorem Z22.k {p : Prop} (h : p) : Aside0 p := ⟨h⟩
theorem Z22.z7 {P : Prop} (h : P := by first | exact Kd.R_nil _ _ _ _ _ | exact Kd.N_nil _ _ _ _ _ | exact Kd.V_nil _ _ _ _ _ | exact Kd.Q_nil _ _ _ _ _ | exact Kd.S_nil _ _ _ _ _) : P := h
theorem Z22.z6 {P : Prop} (h : P := by first | rfl | (simp [errW_none, errW_some] <;> rfl) | (simp [*, errW_none, errW_some] <;> rfl)) : P := h
theorem Z22.z5 {P : Prop} (h : P := by repeat (first | exact (Kd.C_below HR1.out HB.out) | (with_reducible refine Kd.C_alloc ?_ _) | (with_reducible refine Kd.C_drewN ?_ _) | (with_reducible refine Kd.C_drew ?_))) : P := h
theorem Z22.z4 {P : Prop} (h : P := by (try simp only [List.map_toArray, List.map_cons, List.map_nil]); first | done | rfl | (simp only [List.length_drop, List.length_take]; rfl)) : P := h
theorem Z22.z3 {P : Prop} (h : P := by repeat (first | exact (Kd.C_below HR0_3.out HB.out) | (with_reducible refine Kd.C_alloc ?_ _) | (with_reducible refine Kd.C_drewN ?_ _) | (with_reducible refine Kd.C_drew ?_))) : P := h
theorem Z22.z2 {P : Prop} (h : P := by repeat (first | (with_reducible first | exact HB.out | apply below_alloc | apply pw_below_drewN | apply below_drew1) | exact HB.out)) : P := h
theorem Z22.z1 {P : Prop} (h : P := by (with_reducible repeat (first | refine blk_drewN ?_ _ | refine blk_drew ?_ | refine blk_alloc ?_ _)); exact BK101.out) : P := h
theorem Z22.z0 {P : Prop} (h : P := by repeat (first | (with_reducible first | exact HB.out | apply below_alloc | apply pw_below_drewN | apply below_drew1 | refine below_set ?_ GE101.out) | exact HB.out)) : P := h
set_option maxHeartbeats 8000000 in
set_option maxRecDepth 100000 in
theorem spec_Certificate.calls (k : Nat) (a0_0 : Int) (a0_1 : Int) (a0_2 : Int) (A0_3 : Option Addr) (c0_3 : Nat) (l0_3 : List Int) (A1 : Option Addr) (c1 : Nat) (l1 : List Int) (r1 : List Int) (r2 : Int) (w : World) (hr0_3 : Kd.C (Kd.int .i64) w A0_3 l0_3.length l0_3) (hc0_3 : l0_3.length ≤ c0_3) (hr1 : Kd.C (Kd.int .i64) w A1 l1.length l1) (hc1 : l1.length ≤ c1) (h : spec_Certificate.f k a0_0 a0_1 a0_2 l0_3 l1 = some (r1, r2)) :
  Calls Try.prog 22 #[.agg #[.int .i64 a0_0, .int .i64 a0_1, .int .i64 a0_2, .slice A0_3 l0_3.length c0_3], .slice A1 l1.length c1] w fun e w' => ∃ v0_ : Value, e = .returned (.tuple #[v0_, .int .i64 r2]) ∧ Kd.R (Kd.int .i64) 2 w' w.heap.size (fun _ => True) v0_ r1 ∧ Below w.heap.size w w' := by
 have hu28 := Try.underlying28
 have HR0_3 := Z22.k hr0_3
 have HC0_3 := Z22.k hc0_3
 clear hr0_3 hc0_3
 have HR1 := Z22.k hr1
 have HC1 := Z22.k hc1
 clear hr1 hc1
 have HB := Z22.k (Below.refl w.heap.size w)
 have H : ((spec_l04Ask.f k a0_0 a0_1 a0_2 l0_3 l1).bind fun t102 => (if t102 = 0 then ((spec_l04Against.f k a0_0 a0_1 a0_2 l0_3 l1).bind fun bt103 => (if bt103.2 = true then ((spec_l00Own.f bt103.1).bind fun t107 => (some (t107, 0))) else (some (([] : List Int), 3)))) else (some (([] : List Int), t102)))) = some (r1, r2) := h
 clear h
 replace H := Option.bind_eq_some_iff.mp H
 obtain ⟨t102, A30, H⟩ := H
 replace H : (if t102 = 0 then ((spec_l04Against.f k a0_0 a0_1 a0_2 l0_3 l1).bind fun bt103 => (if bt103.2 = true then ((spec_l00Own.f bt103.1).bind fun t107 => (some (t107, 0))) else (some (([] : List Int), 3)))) else (some (([] : List Int), t102))) = some (r1, r2) := H
 have A3 := Z22.k A30
 clear A30
 by_cases c4 : t102 = 0
 ·rw [if_pos c4] at H
  have c4b0 : (t102 == 0) = true := beq_iff_eq.mpr c4
  have c4b1 : (t102 != 0) = false := bne_eq_false_iff_eq.mpr c4
  clear c4
  replace H := Option.bind_eq_some_iff.mp H
  obtain ⟨⟨t103, t106⟩, A50, H⟩ := H
  (try dsimp only at H)
  have A5 := Z22.k A50
  clear A50
  by_cases c6 : t106 = true
  ·subst c6
   rw [if_pos rfl] at H
   replace H := Option.bind_eq_some_iff.mp H
   obtain ⟨t107, A70, H⟩ := H
   (try dsimp only at H)
   have A7 := Z22.k A70
   clear A70
   simp only [Option.some.injEq, Prod.mk.injEq] at H
   obtain ⟨rfl, rfl⟩ := H
   go_enter Try.func22, Try.ntmps22
   go_wp2_with (first | ((with_reducible refine gate_dst (N := 2) rfl ?_); refine box_event ?hg (N := 2) ?hd (cs := #[.int .i64 a0_0, .int .i64 a0_1, .int .i64 a0_2, .slice A0_3 l0_3.length c0_3]) (t := 28) ?hr ?_; (case hd => rfl); (case hg => rfl); (case hr => first | (go_simp; done) | (go_simp; rfl)); intro gb101 hg w8 hbox hb; have BK101 := Z22.k (hbox); have GW101 := Z22.k (show w.heap.size ≤ gb101 from (by rw [hg]; exact (below_size Z22.z2))); have GE101 := Z22.k (show w.heap.size ≤ gb101 from (by rw [hg]; exact (below_size Z22.z2))); replace HB := Z22.k (below_step Z22.z2 hb); clear hb hbox hg) | ((with_reducible refine gate_callee (f := 32) rfl ?_); refine goesL_ (some 10) rfl rfl Try.func32 (by kernel_rfl) rfl #[.pointer (some ⟨gb101, 0, none⟩), .slice A1 l1.length c1] rfl Z22.z4 ?_; (with_reducible refine (spec_l04Ask.calls k a0_0 a0_1 a0_2 A0_3 c0_3 l0_3 _ _ l1 t102 _ ?side1 ?side2 ?side3 ?side4 ?side5 A3.out).mono ?_); (case side1 => exact Z22.z3); (case side2 => exact HC0_3.out); (case side3 => exact Z22.z5); (case side4 => exact HC1.out); (case side5 => exact Z22.z1); rintro e w9 ⟨rfl, hb⟩; refine ⟨_, rfl, ?_⟩; replace BK101 := Z22.k (Z22.bb BK101 Z22.z1 hb); replace HB := Z22.k (below_step Z22.z0 hb); (try clear hb); (try clear hb2); (try clear hk); (try clear hi)) | ((with_reducible refine gate_callee (f := 46) rfl ?_); refine goesL_ (some 16) rfl rfl Try.func46 (by kernel_rfl) rfl #[.pointer (some ⟨gb101, 0, none⟩), .slice A1 l1.length c1] rfl Z22.z4 ?_; (with_reducible refine (spec_l04Against.calls k a0_0 a0_1 a0_2 A0_3 c0_3 l0_3 (fun k_ => k_ < w.heap.size) _ _ l1 t103 true _ ?side1 ?side2 ?side3 ?side4 ?side5 A5.out).mono ?_); (case side1 => exact Z22.z3); (case side2 => exact HC0_3.out); (case side3 => exact (by exact Kd.V_mk HC1.out (Kd.F_below (Kd.C_F (Kd.heap_int .i64) HR1.out) Z22.z0))); (case side5 => exact fun k_ hk_ => Nat.ne_of_lt (Nat.lt_of_lt_of_le hk_ GE101.out)); (case side4 => exact Z22.z1); rintro e w10 ⟨v104, rfl, ho0, hb⟩; refine ⟨_, rfl, ?_⟩; have HO105 := Z22.k (Kd.R_lower (Kd.R_mono (ok' := fun k_ => True) ho0 (fun _ hk_ => trivial)) (below_size Z22.z0)); replace BK101 := Z22.k (Z22.bb BK101 Z22.z1 hb); replace HB := Z22.k (below_step Z22.z0 hb); (try clear hb); (try clear hb2); (try clear hk); (try clear hi); (try clear ho0); obtain ⟨Ao11, co11, eo11⟩ := Kd.R_slice HO105.out; subst eo11) | ((with_reducible refine gate_callee (f := 34) rfl ?_); refine goesL_ (some 22) rfl rfl Try.func34 (by kernel_rfl) rfl #[.slice Ao11 t103.length co11] rfl Z22.z4 ?_; (with_reducible refine (spec_l00Own.calls _ _ t103 t107 _ ?side1 ?side2 A7.out).mono ?_); (case side1 => exact (by repeat (first | exact (Kd.R_reads' HO105.out).2.2 | (with_reducible refine Kd.C_alloc ?_ _) | (with_reducible refine Kd.C_drewN ?_ _) | (with_reducible refine Kd.C_drew ?_)))); (case side2 => exact (Kd.R_reads' HO105.out).2.1); rintro e w12 ⟨v108, rfl, ho0, hb⟩; refine ⟨_, rfl, ?_⟩; have HO109 := Z22.k (Kd.R_lower (Kd.R_new' ho0 (Kd.R_lt (by (with_reducible repeat (first | apply Kd.R_alloc | apply Kd.R_drewN | apply Kd.R_drew)); exact HO105.out))) (below_size Z22.z0)); replace HO105 := Z22.k (Kd.R_elder' (by (with_reducible repeat (first | apply Kd.R_alloc | apply Kd.R_drewN | apply Kd.R_drew)); exact HO105.out) (Kd.R_base ho0) hb); replace BK101 := Z22.k (Z22.bb BK101 Z22.z1 hb); replace HB := Z22.k (below_step Z22.z0 hb); (try clear hb); (try clear hb2); (try clear hk); (try clear hi); (try clear ho0)))
   go_ret2
   exact ⟨_, Z22.z6, (by (with_reducible repeat (first | apply Kd.R_alloc | apply Kd.R_drewN | apply Kd.R_drew)); exact Kd.R_mono HO109.out (fun _ hk => trivial)), Z22.z0⟩
  replace c6 := Bool.eq_false_iff.mpr c6
  subst c6
  rw [if_neg (show ¬ (false = true) by decide)] at H
  simp only [Option.some.injEq, Prod.mk.injEq] at H
  obtain ⟨rfl, rfl⟩ := H
  go_enter Try.func22, Try.ntmps22
  go_wp2_with (first | ((with_reducible refine gate_dst (N := 2) rfl ?_); refine box_event ?hg (N := 2) ?hd (cs := #[.int .i64 a0_0, .int .i64 a0_1, .int .i64 a0_2, .slice A0_3 l0_3.length c0_3]) (t := 28) ?hr ?_; (case hd => rfl); (case hg => rfl); (case hr => first | (go_simp; done) | (go_simp; rfl)); intro gb101 hg w13 hbox hb; have BK101 := Z22.k (hbox); have GW101 := Z22.k (show w.heap.size ≤ gb101 from (by rw [hg]; exact (below_size Z22.z2))); have GE101 := Z22.k (show w.heap.size ≤ gb101 from (by rw [hg]; exact (below_size Z22.z2))); replace HB := Z22.k (below_step Z22.z2 hb); clear hb hbox hg) | ((with_reducible refine gate_callee (f := 32) rfl ?_); refine goesL_ (some 10) rfl rfl Try.func32 (by kernel_rfl) rfl #[.pointer (some ⟨gb101, 0, none⟩), .slice A1 l1.length c1] rfl Z22.z4 ?_; (with_reducible refine (spec_l04Ask.calls k a0_0 a0_1 a0_2 A0_3 c0_3 l0_3 _ _ l1 t102 _ ?side1 ?side2 ?side3 ?side4 ?side5 A3.out).mono ?_); (case side1 => exact Z22.z3); (case side2 => exact HC0_3.out); (case side3 => exact Z22.z5); (case side4 => exact HC1.out); (case side5 => exact Z22.z1); rintro e w14 ⟨rfl, hb⟩; refine ⟨_, rfl, ?_⟩; replace BK101 := Z22.k (Z22.bb BK101 Z22.z1 hb); replace HB := Z22.k (below_step Z22.z0 hb); (try clear hb); (try clear hb2); (try clear hk); (try clear hi)) | ((with_reducible refine gate_callee (f := 46) rfl ?_); refine goesL_ (some 16) rfl rfl Try.func46 (by kernel_rfl) rfl #[.pointer (some ⟨gb101, 0, none⟩), .slice A1 l1.length c1] rfl Z22.z4 ?_; (with_reducible refine (spec_l04Against.calls k a0_0 a0_1 a0_2 A0_3 c0_3 l0_3 (fun k_ => k_ < w.heap.size) _ _ l1 t103 false _ ?side1 ?side2 ?side3 ?side4 ?side5 A5.out).mono ?_); (case side1 => exact Z22.z3); (case side2 => exact HC0_3.out); (case side3 => exact (by exact Kd.V_mk HC1.out (Kd.F_below (Kd.C_F (Kd.heap_int .i64) HR1.out) Z22.z0))); (case side5 => exact fun k_ hk_ => Nat.ne_of_lt (Nat.lt_of_lt_of_le hk_ GE101.out)); (case side4 => exact Z22.z1); rintro e w15 ⟨v104, rfl, ho0, hb⟩; refine ⟨_, rfl, ?_⟩; have HO105 := Z22.k (Kd.R_lower (Kd.R_mono (ok' := fun k_ => True) ho0 (fun _ hk_ => trivial)) (below_size Z22.z0)); replace BK101 := Z22.k (Z22.bb BK101 Z22.z1 hb); replace HB := Z22.k (below_step Z22.z0 hb); (try clear hb); (try clear hb2); (try clear hk); (try clear hi); (try clear ho0)))
  go_ret2
  exact ⟨_, Z22.z6, Z22.z7, Z22.z0⟩
 rw [if_neg c4] at H
 have c4b0 : (t102 == 0) = false := beq_eq_false_iff_ne.mpr c4
 have c4b1 : (t102 != 0) = true := bne_iff_ne.mpr c4
 simp only [Option.some.injEq, Prod.mk.injEq] at H
 obtain ⟨rfl, rfl⟩ := H
 go_enter Try.func22, Try.ntmps22
 go_wp2_with (first | ((with_reducible refine gate_dst (N := 2) rfl ?_); refine box_event ?hg (N := 2) ?hd (cs := #[.int .i64 a0_0, .int .i64 a0_1, .int .i64 a0_2, .slice A0_3 l0_3.length c0_3]) (t := 28) ?hr ?_; (case hd => rfl); (case hg => rfl); (case hr => first | (go_simp; done) | (go_simp; rfl)); intro gb101 hg w16 hbox hb; have BK101 := Z22.k (hbox); have GW101 := Z22.k (show w.heap.size ≤ gb101 from (by rw [hg]; exact (below_size Z22.z2))); have GE101 := Z22.k (show w.heap.size ≤ gb101 from (by rw [hg]; exact (below_size Z22.z2))); replace HB := Z22.k (below_step Z22.z2 hb); clear hb hbox hg) | ((with_reducible refine gate_callee (f := 32) rfl ?_); refine goesL_ (some 10) rfl rfl Try.func32 (by kernel_rfl) rfl #[.pointer (some ⟨gb101, 0, none⟩), .slice A1 l1.length c1] rfl Z22.z4 ?_; (with_reducible refine (spec_l04Ask.calls k a0_0 a0_1 a0_2 A0_3 c0_3 l0_3 _ _ l1 t102 _ ?side1 ?side2 ?side3 ?side4 ?side5 A3.out).mono ?_); (case side1 => exact Z22.z3); (case side2 => exact HC0_3.out); (case side3 => exact Z22.z5); (case side4 => exact HC1.out); (case side5 => exact Z22.z1); rintro e w17 ⟨rfl, hb⟩; refine ⟨_, rfl, ?_⟩; replace BK101 := Z22.k (Z22.bb BK101 Z22.z1 hb); replace HB := Z22.k (below_step Z22.z0 hb); (try clear hb); (try clear hb2); (try clear hk); (try clear hi)))
 go_ret2
 exact ⟨_, Z22.z6, Z22.z7, Z22.z0⟩
/-! ### impl_size_int64_72: function 72 -/
def impl_size_int64_72.f (l0 : List Int) : Option (Int) := some (l0.length : Int)
set_option maxHeartbeats 8000000 in
set_option maxRecDepth 100000 in
theorem impl_size_int64_72.calls (A0 : Option Addr) (c0 : Nat) (l0 : List Int) (r : Int) (w : World) (hr0 : Kd.C (Kd.int .i64) w A0 l0.length l0) (hc0 : l0.length ≤ c0) (h : impl_size_int64_72.f l0 = some r) :
  Calls Try.prog 72 #[.slice A0 l0.length c0] w fun e w' => e = .returned (.int .i64 r) ∧ Drawn0 w w' := by
 have HR0 := Aside0.mk hr0
 have HC0 := Aside0.mk hc0
 clear hr0 hc0
 have H : (some (l0.length : Int)) = some r := h
 clear h
 obtain rfl := Option.some.inj H
 go_enter Try.func72, Try.ntmps72
 go_wp2
 go_ret
 exact ⟨(by first | rfl | (simp; done) | (simp [*]; done)), (by repeat (first | exact Drawn0.refl _ | apply Drawn0.step))⟩
/-! ### slices_IndexFunc_int64_int64_115: function 115: ours -/
def idxOf {α : Type} (p : α → Bool) (l : List α) : Int := match l.findIdx? p with | some i => (i : Int) | none => -1
theorem idxOf_hit {α : Type} {p : α → Bool} {l : List α} {i : Nat} (hi : i < l.length) (h : p l[i] = true) (hb : ∀ j (hj : j < l.length), j < i → p l[j] = false) : idxOf p l = i := by
  have : l.findIdx? p = some i := List.findIdx?_eq_some_iff_getElem.mpr ⟨hi, h, fun j hj => by rw [hb j (by omega) hj]; simp⟩
  unfold idxOf; rw [this]
theorem idxOf_miss {α : Type} {p : α → Bool} {l : List α} (h : ∀ j (hj : j < l.length), p l[j] = false) : idxOf p l = -1 := by
  have : l.findIdx? p = none := List.findIdx?_eq_none_iff.mpr (fun x hx => by
    obtain ⟨j, hj, rfl⟩ := List.mem_iff_getElem.mp hx
    exact h j hj)
  unfold idxOf; rw [this]
theorem idxOf_nonneg {α : Type} (p : α → Bool) (l : List α) : decide (idxOf p l ≥ 0) = l.any p := by
  unfold idxOf
  cases h : l.findIdx? p with
  | none =>
    have h1 := List.findIdx?_eq_none_iff.mp h
    have h2 : l.any p = false := List.any_eq_false.mpr (fun x hx => by rw [h1 x hx]; simp)
    rw [h2]; simp
  | some i =>
    obtain ⟨hi, hp, _⟩ := List.findIdx?_eq_some_iff_getElem.mp h
    have h2 : l.any p = true := List.any_eq_true.mpr ⟨_, List.getElem_mem hi, hp⟩
    rw [h2]; simp
theorem rd_at (l : List Int) (i : Nat) (hi : i < l.length) : rd l (i : Int) = l[i] := by
  unfold rd; simp [List.getD_eq_getElem?_getD, List.getElem?_eq_getElem hi]
def AnsI (g : Nat) (lb : Array Value) (p : Int → Bool) (w : World) : Prop := ∀ (W : World) (x : Int), Below w.heap.size w W → Calls Try.prog g (#[.int .i64 x] ++ lb) W fun e w' => e = .returned (.bool (p x)) ∧ ∃ q, w' = W.drewN q
set_option maxHeartbeats 4000000 in
set_option maxRecDepth 100000 in
theorem slices_IndexFunc_int64_int64_115.tells (g : Nat) (lb : Array Value) (eg : ∀ args w, (callFunc g args).run Try.prog w = .ok (.enter g args) w) (p : Int → Bool) (A : Option Addr) (c : Nat) (l : List Int) (w : World)
    (hp : AnsI g lb p w) (hr : Kd.C (Kd.int .i64) w A l.length l) (hn : l.length ≤ 9223372036854775807) :
    Calls Try.prog 115 #[.slice A l.length c, .func (.func g) #[] lb] w fun e w' => e = .returned (.int .i64 (idxOf p l)) ∧ ∃ q, w' = w.drewN q := by
  have hpAt : ∀ (x : Int) (q : Nat), Calls Try.prog g (#[.int .i64 x] ++ lb) (w.drewN q) fun e w' => e = .returned (.bool (p x)) ∧ ∃ q', w' = (w.drewN q).drewN q' := fun x q => hp _ x (pw_below_drewN (Below.refl _ w) q)
  clear hp
  have HR := Aside0.mk hr
  clear hr
  go_enter Try.func115, Try.ntmps115
  go_wp2
  go_loopg [5, 8] l.length (fun gg _ s8 wr => ∃ kk q : Nat, kk ≤ l.length ∧ l.length - kk ≤ gg ∧ s8 = .int .i64 kk ∧ wr = w.drewN q ∧ Aside0 (∀ j (hj : j < l.length), j < kk → p l[j] = false))
  case atStart => exact ⟨0, 0, Nat.zero_le _, by omega, rfl, rfl, ⟨fun j _ hj => absurd hj (Nat.not_lt_zero _)⟩⟩
  case round =>
    obtain ⟨kk, q, hkk, hg, rfl, rfl, AB⟩ := hrel
    by_cases hlt : kk < l.length
    · have hltz : (kk : Int) < (l.length : Int) := by omega
      obtain ⟨ad, ea, hcell⟩ := Kd.at_int HR.out (kk : Int) (by omega) hltz
      cases ea
      simp only [Int.toNat_natCast] at hcell
      have hy := Aside0.mk (rd_at l kk hlt)
      generalize rd l (kk : Int) = y at hcell hy
      have hcall := hpAt y
      cases hq : p y with
      | true =>
        rw [hq] at hcall
        have BB := Aside0.mk hq
        clear hq
        go_wp2_with (go_at_fn g; refine (hcall _).mono ?_; rintro e w' ⟨rfl, q', rfl⟩)
        go_ret
        refine ⟨?_, _, rfl⟩
        rw [idxOf_hit hlt (by rw [← hy.out]; exact BB.out) AB.out]
        rfl
      | false =>
        rw [hq] at hcall
        have BB := Aside0.mk hq
        clear hq
        go_wp2_with (go_at_fn g; refine (hcall _).mono ?_; rintro e w' ⟨rfl, q', rfl⟩)
        go_roundg (l.length - (kk + 1))
        case measure => omega
        case rel =>
          refine ⟨kk + 1, _, by omega, by omega, (by first | (congr 1; done) | (congr 1; omega) | (congr 1; unfold wrap64; omega)), rfl, ⟨fun j hj hj2 => ?_⟩⟩
          by_cases e : j = kk
          · subst e
            rw [← hy.out]; exact BB.out
          · exact AB.out j hj (by omega)
    · have hltz : ¬ (kk : Int) < (l.length : Int) := by omega
      have hk : kk = l.length := by omega
      subst hk
      go_wp2
      go_ret
      refine ⟨?_, q, rfl⟩
      rw [idxOf_miss (fun j hj => AB.out j hj hj)]
      rfl
/-! ### slices_ContainsFunc_int64_int64: function 102: ours -/
set_option maxHeartbeats 4000000 in
set_option maxRecDepth 100000 in
theorem slices_ContainsFunc_int64_int64.tells (g : Nat) (lb : Array Value) (eg : ∀ args w, (callFunc g args).run Try.prog w = .ok (.enter g args) w) (p : Int → Bool) (A : Option Addr) (c : Nat) (l : List Int) (w : World)
    (hp : AnsI g lb p w) (hr : Kd.C (Kd.int .i64) w A l.length l) (hn : l.length ≤ 9223372036854775807) :
    Calls Try.prog 102 #[.slice A l.length c, .func (.func g) #[] lb] w fun e w' => e = .returned (.bool (l.any p)) ∧ ∃ q, w' = w.drewN q := by
  have hany := idxOf_nonneg p l
  have hC := slices_IndexFunc_int64_int64_115.tells g lb eg p A c l w hp hr hn
  generalize idxOf p l = z at hany hC
  generalize l.any p = b at hany
  clear hp
  go_enter Try.func102, Try.ntmps102
  go_wp2_with (go_at_call 115; refine hC.mono ?_; rintro e w' ⟨rfl, q, rfl⟩)
  go_ret
  exact ⟨by subst hany; simp, q, rfl⟩
/-! ### impl_areElements: function 73: ours -/
def impl_areElements.f (l0 : List Int) (a1 : Int) : Option Bool := some (!(l0.any fun x => !(decide (0 ≤ x) && decide (x ≤ wrap64 (a1 - 1)))))
set_option maxHeartbeats 4000000 in
set_option maxRecDepth 100000 in
theorem impl_areElements.ask (w : World) (B : Nat) (p : Int) (hB : B < w.heap.size) (hc : w.cell? ⟨B, 0, none⟩ = some (.int .i64 p)) :
    AnsI 103 #[.pointer (some ⟨B, 0, none⟩)] (fun x => !(decide (0 ≤ x) && decide (x ≤ wrap64 (p - 1)))) w := fun W x hb => by
  have hc' : W.cell? ⟨B, 0, none⟩ = some (.int .i64 p) := (hb.cell (p := ⟨B, 0, none⟩) hB).trans hc
  clear hc
  by_cases h1 : 0 ≤ x
  · have g1 := Aside0.mk h1
    have b1 : decide (0 ≤ x) = true := decide_eq_true h1
    clear h1
    by_cases h2 : x ≤ wrap64 (p - 1)
    · have g2 := Aside0.mk h2
      have b2 : decide (x ≤ wrap64 (p - 1)) = true := decide_eq_true h2
      clear h2
      go_enter Try.func103, Try.ntmps103
      go_wp2
      go_ret
      exact ⟨by first | rfl | (simp [g1.out, g2.out]; done) | (simp [*]; done), 0, rfl⟩
    · have g2 := Aside0.mk h2
      have b2 : decide (x ≤ wrap64 (p - 1)) = false := decide_eq_false h2
      clear h2
      go_enter Try.func103, Try.ntmps103
      go_wp2
      go_ret
      exact ⟨by first | rfl | (simp [g1.out, g2.out]; done) | (simp [*]; done), 0, rfl⟩
  · have g1 := Aside0.mk h1
    have g2 : Aside0 True := ⟨trivial⟩
    have b1 : decide (0 ≤ x) = false := decide_eq_false h1
    clear h1
    go_enter Try.func103, Try.ntmps103
    go_wp2
    go_ret
    exact ⟨by first | rfl | (simp [g1.out, g2.out]; done) | (simp [*]; done), 0, rfl⟩
set_option maxHeartbeats 4000000 in
set_option maxRecDepth 100000 in
theorem impl_areElements.calls (A0 : Option Addr) (c0 : Nat) (l0 : List Int) (a1 : Int) (r : Bool) (w : World) (hr0 : Kd.C (Kd.int .i64) w A0 l0.length l0) (hc0 : l0.length ≤ c0) (h : impl_areElements.f l0 a1 = some r) :
  Calls Try.prog 73 #[.slice A0 l0.length c0, .int .i64 a1] w fun e w' => e = .returned (.bool r) ∧ Below w.heap.size w w' := by
 have hn : l0.length ≤ 9223372036854775807 := hr0.2.1
 have hC := fun (W : World) (hbw : Below w.heap.size w W) (hB : w.heap.size < W.heap.size) (hc : W.cell? ⟨w.heap.size, 0, none⟩ = some (.int .i64 a1)) =>
  slices_ContainsFunc_int64_int64.tells 103 #[.pointer (some ⟨w.heap.size, 0, none⟩)] (enters_of Try.func103 (by kernel_rfl) rfl) _ A0 c0 l0 W (impl_areElements.ask W w.heap.size a1 hB hc) (Kd.C_below hr0 hbw) hn
 have hf := Option.some.inj h
 clear h hr0
 generalize (l0.any fun x => !(decide (0 ≤ x) && decide (x ≤ wrap64 (a1 - 1)))) = b at hf hC
 have hmf : ∀ (fn : Fn) (first cap : Array Value) (w : World), (Instr.makeFunc fn first cap).run Try.prog w = .ok (.func fn first cap) w := fun _ _ _ _ => rfl
 go_enter Try.func73, Try.ntmps73
 go_wp2_with (go_at_call 102; refine (hC _ ((Below.refl _ w).alloc (Nat.le_refl _) _) (by simp) (by simp)).mono ?_; rintro e w' ⟨rfl, q, rfl⟩)
 go_ret
 exact ⟨(by rw [← hf]; rfl), pw_below_drewN ((Below.refl _ w).alloc (Nat.le_refl _) _) q⟩
/-! ### impl_isVector: function 43 -/
def impl_isVector.f (l0 : List Int) (a1 : Int) (a2 : Int) : Option (Bool) := (impl_size_int64_72.f l0).bind fun t101 => (if t101 = a1 then ((impl_areElements.f l0 a2).bind fun t102 => (some t102)) else (some false))
theorem Z43.z2 {P : Prop} (h : P := by (try simp only [List.map_toArray, List.map_cons, List.map_nil]); first | done | rfl | (simp only [List.length_drop, List.length_take]; rfl)) : P := h
theorem Z43.z1 {P : Prop} (h : P := by repeat (first | (with_reducible first | exact HB.out | apply below_alloc | apply pw_below_drewN | apply below_drew1) | exact HB.out)) : P := h
theorem Z43.z0 {P : Prop} (h : P := by repeat (first | exact HR0.out | (with_reducible refine Kd.C_alloc ?_ _) | (with_reducible refine Kd.C_drewN ?_ _) | (with_reducible refine Kd.C_drew ?_))) : P := h
set_option maxHeartbeats 8000000 in
set_option maxRecDepth 100000 in
theorem impl_isVector.calls (A0 : Option Addr) (c0 : Nat) (l0 : List Int) (a1 : Int) (a2 : Int) (r : Bool) (w : World) (hr0 : Kd.C (Kd.int .i64) w A0 l0.length l0) (hc0 : l0.length ≤ c0) (h : impl_isVector.f l0 a1 a2 = some r) :
  Calls Try.prog 43 #[.slice A0 l0.length c0, .int .i64 a1, .int .i64 a2] w fun e w' => e = .returned (.bool r) ∧ Below w.heap.size w w' := by
 have HR0 := Aside0.mk hr0
 have HC0 := Aside0.mk hc0
 clear hr0 hc0
 have HB := Aside0.mk (Below.refl w.heap.size w)
 have H : ((impl_size_int64_72.f l0).bind fun t101 => (if t101 = a1 then ((impl_areElements.f l0 a2).bind fun t102 => (some t102)) else (some false))) = some r := h
 clear h
 replace H := Option.bind_eq_some_iff.mp H
 obtain ⟨t101, A40, H⟩ := H
 replace H : (if t101 = a1 then ((impl_areElements.f l0 a2).bind fun t102 => (some t102)) else (some false)) = some r := H
 have A4 := Aside0.mk A40
 clear A40
 by_cases c5 : t101 = a1
 ·rw [if_pos c5] at H
  have c5b0 : (t101 == a1) = true := beq_iff_eq.mpr c5
  have c5b1 : (t101 != a1) = false := bne_eq_false_iff_eq.mpr c5
  clear c5
  replace H := Option.bind_eq_some_iff.mp H
  obtain ⟨t102, A60, H⟩ := H
  (try dsimp only at H)
  have A6 := Aside0.mk A60
  clear A60
  obtain rfl := Option.some.inj H
  go_enter Try.func43, Try.ntmps43
  go_wp2_with (first | ((with_reducible refine gate_callee (f := 72) rfl ?_); refine goesL_ (some 8) rfl rfl Try.func72 (by kernel_rfl) rfl #[.slice A0 l0.length c0] rfl Z43.z2 ?_; (with_reducible refine (impl_size_int64_72.calls _ _ l0 t101 _ ?side1 ?side2 A4.out).mono ?_); (case side1 => exact Z43.z0); (case side2 => exact HC0.out); rintro e w' ⟨rfl, ⟨nd, rfl⟩⟩; refine ⟨_, rfl, ?_⟩) | (go_at_call 73; (with_reducible refine (impl_areElements.calls _ _ l0 a2 t102 _ ?side1 ?side2 A6.out).mono ?_); (case side1 => exact Z43.z0); (case side2 => exact HC0.out); rintro e w7 ⟨rfl, hb⟩; replace HB := Aside0.mk (below_step Z43.z1 hb); (try clear hb); (try clear hb2); (try clear hk); (try clear hi)))
  go_ret
  exact ⟨(by first | rfl | (simp [errW_none, errW_some] <;> rfl) | (simp [*, errW_none, errW_some] <;> rfl)), Z43.z1⟩
 rw [if_neg c5] at H
 have c5b0 : (t101 == a1) = false := beq_eq_false_iff_ne.mpr c5
 have c5b1 : (t101 != a1) = true := bne_iff_ne.mpr c5
 obtain rfl := Option.some.inj H
 go_enter Try.func43, Try.ntmps43
 go_wp2_with (first | ((with_reducible refine gate_callee (f := 72) rfl ?_); refine goesL_ (some 8) rfl rfl Try.func72 (by kernel_rfl) rfl #[.slice A0 l0.length c0] rfl Z43.z2 ?_; (with_reducible refine (impl_size_int64_72.calls _ _ l0 t101 _ ?side1 ?side2 A4.out).mono ?_); (case side1 => exact Z43.z0); (case side2 => exact HC0.out); rintro e w' ⟨rfl, ⟨nd, rfl⟩⟩; refine ⟨_, rfl, ?_⟩))
 go_ret
 exact ⟨(by first | rfl | (simp [errW_none, errW_some] <;> rfl) | (simp [*, errW_none, errW_some] <;> rfl)), Z43.z1⟩
/-! ### impl_within: function 96 -/
def impl_within.f (a0 : Int) (a1 : Int) (a2 : Int) : Option (Bool) := if a0 ≥ a1 then (some (decide (a0 ≤ a2))) else (some false)
set_option maxHeartbeats 8000000 in
set_option maxRecDepth 100000 in
theorem impl_within.calls (a0 : Int) (a1 : Int) (a2 : Int) (r : Bool) (w : World) (h : impl_within.f a0 a1 a2 = some r) :
  Calls Try.prog 96 #[.int .i64 a0, .int .i64 a1, .int .i64 a2] w fun e w' => e = .returned (.bool r) ∧ Drawn0 w w' := by
 have H : (if a0 ≥ a1 then (some (decide (a0 ≤ a2))) else (some false)) = some r := h
 clear h
 by_cases c4 : a0 ≥ a1
 ·rw [if_pos c4] at H
  have c4b0 : decide (a1 ≤ a0) = true := decide_eq_true c4
  clear c4
  obtain rfl := Option.some.inj H
  go_enter Try.func96, Try.ntmps96
  go_wp2
  go_ret
  exact ⟨(by first | rfl | (simp; done) | (simp [*]; done)), (by repeat (first | exact Drawn0.refl _ | apply Drawn0.step))⟩
 rw [if_neg c4] at H
 have c4b0 : decide (a1 ≤ a0) = false := decide_eq_false c4
 clear c4
 obtain rfl := Option.some.inj H
 go_enter Try.func96, Try.ntmps96
 go_wp2
 go_ret
 exact ⟨(by first | rfl | (simp; done) | (simp [*]; done)), (by repeat (first | exact Drawn0.refl _ | apply Drawn0.step))⟩
/-! ### impl_ValidPrime: function 67 -/
def impl_ValidPrime.l0 : Nat → Int → Int → Option (Bool)
  | 0, _, _ => none
  | k + 1, x0, x3 => if (wrap64 (x3 * x3)) ≤ x0 then (if x3 = 0 then (none) else (if (Int.tmod x0 x3) = 0 then (some false) else (impl_ValidPrime.l0 k x0 (wrap64 (x3 + 1))))) else (some true)
def impl_ValidPrime.f (k : Nat) (a0 : Int) : Option (Bool) := (impl_within.f a0 2 251).bind fun t101 => (if t101 = true then (impl_ValidPrime.l0 k a0 2) else (some false))
theorem Z67.z2 {P : Prop} (h : P := by first | rfl | (simp; done) | (simp [*]; done)) : P := h
theorem Z67.z1 {P : Prop} (h : P := by (try simp only [List.map_toArray, List.map_cons, List.map_nil]); first | done | rfl | (simp only [List.length_drop, List.length_take]; rfl)) : P := h
theorem Z67.z0 {P : Prop} (h : P := by repeat (first | exact Drawn0.refl _ | apply Drawn0.step)) : P := h
set_option maxHeartbeats 8000000 in
set_option maxRecDepth 100000 in
theorem impl_ValidPrime.calls (k : Nat) (a0 : Int) (r : Bool) (w : World) (h : impl_ValidPrime.f k a0 = some r) :
  Calls Try.prog 67 #[.int .i64 a0] w fun e w' => e = .returned (.bool r) ∧ Drawn0 w w' := by
 have H : ((impl_within.f a0 2 251).bind fun t101 => (if t101 = true then (impl_ValidPrime.l0 k a0 2) else (some false))) = some r := h
 clear h
 replace H := Option.bind_eq_some_iff.mp H
 obtain ⟨t101, A20, H⟩ := H
 replace H : (if t101 = true then (impl_ValidPrime.l0 k a0 2) else (some false)) = some r := H
 have A2 := Aside0.mk A20
 clear A20
 by_cases c3 : t101 = true
 ·subst c3
  rw [if_pos rfl] at H
  have H' := Aside0.mk H
  clear H
  go_enter Try.func67, Try.ntmps67
  go_wp2_with (first | ((with_reducible refine gate_callee (f := 96) rfl ?_); refine goesL_ (some 5) rfl rfl Try.func96 (by kernel_rfl) rfl #[.int .i64 a0, .int .i64 2, .int .i64 251] rfl Z67.z1 ?_; (with_reducible refine (impl_within.calls a0 2 251 true _ A2.out).mono ?_); rintro e w' ⟨rfl, ⟨nd, rfl⟩⟩; refine ⟨_, rfl, ?_⟩))
  go_loopg [3] k (fun kq v3 w' => ∃ (x3_1 : Int), v3 = .int .i64 x3_1 ∧ Aside0 (impl_ValidPrime.l0 kq a0 x3_1 = some r) ∧ Aside0 (kq ≤ k) ∧ Drawn0 w w')
  case atStart => exact ⟨(2), Z67.z2, H', ⟨Nat.le_refl _⟩, Z67.z0⟩
  case round =>
   clear H'
   try clear p2
   try clear c3
   obtain ⟨x3_1, rfl, HA, HK1, ⟨m1, rfl⟩⟩ := hrel
   cases gk with
   | zero => exact absurd HA.out (by simp [impl_ValidPrime.l0])
   | succ k1 =>
    have H := HA.out
    clear HA
    simp only [impl_ValidPrime.l0] at H
    by_cases c4 : (wrap64 (x3_1 * x3_1)) ≤ a0
    ·rw [if_pos c4] at H
     have c4b0 : decide ((wrap64 (x3_1 * x3_1)) ≤ a0) = true := decide_eq_true c4
     clear c4
     by_cases c5 : x3_1 = 0
     ·rw [if_pos c5] at H
      exact absurd H (by simp)
     rw [if_neg c5] at H
     have c5b0 : (x3_1 == 0) = false := beq_eq_false_iff_ne.mpr c5
     have c5b1 : (x3_1 != 0) = true := bne_iff_ne.mpr c5
     by_cases c6 : (Int.tmod a0 x3_1) = 0
     ·rw [if_pos c6] at H
      have c6b0 : ((Int.tmod a0 x3_1) == 0) = true := beq_iff_eq.mpr c6; have c6b1 : ((Int.tmod a0 x3_1) != 0) = false := bne_eq_false_iff_eq.mpr c6; clear c6; obtain rfl := Option.some.inj H
      go_wp2
      go_ret
      exact ⟨Z67.z2, Z67.z0⟩
     rw [if_neg c6] at H
     have c6b0 : ((Int.tmod a0 x3_1) == 0) = false := beq_eq_false_iff_ne.mpr c6
     have c6b1 : ((Int.tmod a0 x3_1) != 0) = true := bne_iff_ne.mpr c6
     have H' := Aside0.mk H
     clear H
     go_wp2
     go_roundg k1
     case measure => have := HK1.out; omega
     case rel => exact ⟨(wrap64 (x3_1 + 1)), Z67.z2, H', ⟨(by have := HK1.out; omega)⟩, Z67.z0⟩
    rw [if_neg c4] at H
    have c4b0 : decide ((wrap64 (x3_1 * x3_1)) ≤ a0) = false := decide_eq_false c4
    clear c4
    obtain rfl := Option.some.inj H
    go_wp2
    go_ret
    exact ⟨Z67.z2, Z67.z0⟩
 replace c3 := Bool.eq_false_iff.mpr c3
 subst c3
 rw [if_neg (show ¬ (false = true) by decide)] at H
 obtain rfl := Option.some.inj H
 go_enter Try.func67, Try.ntmps67
 go_wp2_with (first | ((with_reducible refine gate_callee (f := 96) rfl ?_); refine goesL_ (some 5) rfl rfl Try.func96 (by kernel_rfl) rfl #[.int .i64 a0, .int .i64 2, .int .i64 251] rfl Z67.z1 ?_; (with_reducible refine (impl_within.calls a0 2 251 false _ A2.out).mono ?_); rintro e w' ⟨rfl, ⟨nd, rfl⟩⟩; refine ⟨_, rfl, ?_⟩))
 go_ret
 exact ⟨Z67.z2, Z67.z0⟩
/-! ### impl_isSide: function 68 -/
def impl_isSide.f (a0 : Int) : Option (Bool) := (impl_within.f a0 0 32).bind fun t101 => (some t101)
set_option maxHeartbeats 8000000 in
set_option maxRecDepth 100000 in
theorem impl_isSide.calls (a0 : Int) (r : Bool) (w : World) (h : impl_isSide.f a0 = some r) :
  Calls Try.prog 68 #[.int .i64 a0] w fun e w' => e = .returned (.bool r) ∧ Drawn0 w w' := by
 have H : ((impl_within.f a0 0 32).bind fun t101 => (some t101)) = some r := h
 clear h
 replace H := Option.bind_eq_some_iff.mp H
 obtain ⟨t101, A20, H⟩ := H
 replace H : (some t101) = some r := H
 have A2 := Aside0.mk A20
 clear A20
 obtain rfl := Option.some.inj H
 go_enter Try.func68, Try.ntmps68
 go_wp2_with (first | ((with_reducible refine gate_callee (f := 96) rfl ?_); refine goesL_ (some 4) rfl rfl Try.func96 (by kernel_rfl) rfl #[.int .i64 a0, .int .i64 0, .int .i64 32] rfl (by (try simp only [List.map_toArray, List.map_cons, List.map_nil]); first | done | rfl | (simp only [List.length_drop, List.length_take]; rfl)) ?_; (with_reducible refine (impl_within.calls a0 0 32 t101 _ A2.out).mono ?_); rintro e w' ⟨rfl, ⟨nd, rfl⟩⟩; refine ⟨_, rfl, ?_⟩))
 go_ret
 exact ⟨(by first | rfl | (simp; done) | (simp [*]; done)), (by repeat (first | exact Drawn0.refl _ | apply Drawn0.step))⟩
/-! ### impl_ValidMatrix: function 58 -/
def impl_ValidMatrix.f (k : Nat) (a0_0 : Int) (a0_1 : Int) (a0_2 : Int) (l0_3 : List Int) : Option (Bool) := (impl_ValidPrime.f k a0_0).bind fun t102 => (if t102 = true then ((impl_isSide.f a0_1).bind fun t103 => (if t103 = true then ((impl_isSide.f a0_2).bind fun t104 => (if t104 = true then ((impl_size_int64_72.f l0_3).bind fun t105 => (if t105 = (wrap64 (a0_1 * a0_2)) then ((impl_areElements.f l0_3 a0_0).bind fun t106 => (some t106)) else (some false))) else (some false))) else (some false))) else (some false))
def impl_ValidMatrix.T1 : Bool × List (List Nat × List Nat) := (true, [([], []), ([0], [0]), ([1], [1]), ([2, 2], [2]), ([3], [3]), ([4, 3], [3, 4]), ([5, 3, 3], [3, 5]), ([3, 6], [3, 6]), ([7, 6], [7]), ([8], [8]), ([9, 8], [8, 9]), ([10, 8, 8], [8, 10]), ([8, 11], [8, 11]), ([12, 11], [12]), ([13], [13]), ([14, 13], [13, 14]), ([15, 13, 13], [13, 15]), ([13], [13]), ([17, 13], [13, 17]), ([13], [13]), ([19, 13], [13, 19]), ([18, 20, 13], [13, 18, 20]), ([16, 21, 13], [13, 16, 21]), ([13, 22], [13, 22]), ([23, 16], [23]), ([24], [24]), ([25, 24], [24, 25]), ([24], [24]), ([27, 24], [24, 27]), ([26, 28, 24, 24], [24, 26, 28]), ([24, 29], [24, 29]), ([30, 29, 0, 1, 2, 3, 4, 5, 6, 7, 8, 9, 10, 11, 12, 13, 14, 15, 16, 17, 18, 19, 20, 21, 22, 23, 24, 25, 26, 27, 28, 29, 30], [30])])
def impl_ValidMatrix.B1 : List Nat := [0, 1, 3, 7, 15, 31, 63, 127, 255, 511, 1023, 2047, 4095, 8191, 16383, 32767, 65535, 16383, 147455, 16383, 540671, 1982463, 4194303, 8388607, 16777215, 33554431, 67108863, 33554431, 167772159, 536870911, 1073741823, 2147483647]
theorem impl_ValidMatrix.tab1 : rtab .any (opsOf Try.f58 1) = impl_ValidMatrix.T1 := by kernel_rfl
theorem impl_ValidMatrix.bits1 : waitsOk impl_ValidMatrix.T1.2 impl_ValidMatrix.B1 = true := by kernel_rfl
def Z58.b (n x : Nat) : Array Bool := ((List.range n).map (fun i => x.testBit i)).toArray
theorem Z58.pP {P : Program} {ops : Array Oper} {Q : Exit → Act → World → Prop} {md : Region.Mode} {S : World → Prop} {ds : List Nat} (i N : Nat) {oi : Oper} {v : Value} {fuel : Nat} {l : Array Bool} {a : Act} {w : World} (l' : Array Bool) (hc : anyB md ops l l' i = true) {a' : Act} (h : wpAnyLast P md ops Q S ds fuel l' a' w) (hi : ops[i]? = some oi := by rfl) (hN : oi.dst = some N := by rfl) (hQ : ∀ c a w, Q (.panic c) (a.put oi.dst v) w → Q (.panic c) a w := by exact fun _ _ _ h => h) (hy : Yields P ops oi v a := by exact Or.inl ⟨(by rfl), by intro w'; go_simp; with_reducible rfl⟩) (ha : a.put (some N) v = a' := by simp only [Act.put, List.setIfInBounds_toArray, List.set_cons_zero, List.set_cons_succ, i64_w, i32_w]; rfl) : wpAnyLast P md ops Q S ds (fuel + 1) l a w := pure_ l' hi hN hc hQ hy ha h
theorem Z58.pT4 {P : Program} {ops : Array Oper} {Q : Exit → Act → World → Prop} {md : Region.Mode} {S : World → Prop} {ds : List Nat} (i N : Nat) {oi : Oper} {v : Value} {fuel : Nat} {l : Array Bool} {a : Act} {w : World} (l' : Array Bool) (hc : takeB md ops ds l l' i = true) (hS : S w) {a' : Act} (h : wpAnyLast P md ops Q S ds fuel l' a' w) (hi : ops[i]? = some oi := by rfl) (hN : oi.dst = some N := by rfl) (hQ : ∀ c a w, Q (.panic c) (a.put oi.dst v) w → Q (.panic c) a w := by exact fun _ _ _ h => h) (hy : YieldsIf P ops S oi v a := by exact Or.inl ⟨(by rfl), by rintro w' ⟨s0, s1, s2, s3⟩; go_simp; with_reducible rfl⟩) (ha : a.put (some N) v = a' := by simp only [Act.put, List.setIfInBounds_toArray, List.set_cons_zero, List.set_cons_succ, i64_w, i32_w]; rfl) : wpAnyLast P md ops Q S ds (fuel + 1) l a w := take_ l' hi hN hc hQ hy hS ha h
theorem Z58.bb {w0 w w1 : World} {g : Nat} {o : Obj} (_B : Aside0 (w0.heap[g]? = some o)) (h : w.heap[g]? = some o) (hb : Below w.heap.size w w1) : w1.heap[g]? = some o := blk_below h hb
theorem Z58.bl {w0 w : World} {g : Nat} {o : Obj} (_B : Aside0 (w0.heap[g]? = some o)) (h : w.heap[g]? = some o) : g < w.heap.size := blk_lt h
theorem Z58.k {p : Prop} (h : p) : Aside0 p := ⟨h⟩
theorem Z58.z7 {P : Prop} (h : P := by rw [hg]; exact (below_size Z58.z3)) : P := h
theorem Z58.z6 {P : Prop} (h : P := by first | rfl | (simp [errW_none, errW_some] <;> rfl) | (simp [*, errW_none, errW_some] <;> rfl)) : P := h
theorem Z58.z5 {P : Prop} (h : P := by repeat (first | exact (Kd.C_below HR0_3.out Z58.z4) | (with_reducible refine Kd.C_alloc ?_ _) | (with_reducible refine Kd.C_drewN ?_ _) | (with_reducible refine Kd.C_drew ?_))) : P := h
theorem Z58.z4 {P : Prop} (h : P := by repeat (first | (with_reducible first | exact HB.out | apply below_alloc | apply pw_below_drewN | apply below_drew1 | refine below_set ?_ GE101.out) | exact HB.out)) : P := h
theorem Z58.z3 {P : Prop} (h : P := by repeat (first | (with_reducible first | exact HB.out | apply below_alloc | apply pw_below_drewN | apply below_drew1) | exact HB.out)) : P := h
theorem Z58.z2 {P : Prop} (h : P := by (try simp only [List.map_toArray, List.map_cons, List.map_nil]); first | done | rfl | (simp only [List.length_drop, List.length_take]; rfl)) : P := h
theorem Z58.z1 {P : Prop} (h : P := by exact ⟨(blk_cell BK101.out 0).trans rfl, (blk_cell BK101.out 1).trans rfl, (blk_cell BK101.out 2).trans rfl, (blk_cell BK101.out 3).trans rfl⟩) : P := h
theorem Z58.z0 {P : Prop} (h : P := by simp only [Act.put, List.setIfInBounds_toArray, List.set_cons_zero, List.set_cons_succ, i64_w, i32_w]; rfl) : P := h
set_option maxHeartbeats 8000000 in
set_option maxRecDepth 100000 in
theorem impl_ValidMatrix.calls (k : Nat) (a0_0 : Int) (a0_1 : Int) (a0_2 : Int) (A0_3 : Option Addr) (c0_3 : Nat) (l0_3 : List Int) (r : Bool) (w : World) (hr0_3 : Kd.C (Kd.int .i64) w A0_3 l0_3.length l0_3) (hc0_3 : l0_3.length ≤ c0_3) (h : impl_ValidMatrix.f k a0_0 a0_1 a0_2 l0_3 = some r) :
  Calls Try.prog 58 #[.agg #[.int .i64 a0_0, .int .i64 a0_1, .int .i64 a0_2, .slice A0_3 l0_3.length c0_3]] w fun e w' => e = .returned (.bool r) ∧ Below w.heap.size w w' := by
 have hu28 := Try.underlying28
 have HR0_3 := Z58.k hr0_3
 have HC0_3 := Z58.k hc0_3
 clear hr0_3 hc0_3
 have HB := Z58.k (Below.refl w.heap.size w)
 have H : ((impl_ValidPrime.f k a0_0).bind fun t102 => (if t102 = true then ((impl_isSide.f a0_1).bind fun t103 => (if t103 = true then ((impl_isSide.f a0_2).bind fun t104 => (if t104 = true then ((impl_size_int64_72.f l0_3).bind fun t105 => (if t105 = (wrap64 (a0_1 * a0_2)) then ((impl_areElements.f l0_3 a0_0).bind fun t106 => (some t106)) else (some false))) else (some false))) else (some false))) else (some false))) = some r := h
 clear h
 replace H := Option.bind_eq_some_iff.mp H
 obtain ⟨t102, A20, H⟩ := H
 replace H : (if t102 = true then ((impl_isSide.f a0_1).bind fun t103 => (if t103 = true then ((impl_isSide.f a0_2).bind fun t104 => (if t104 = true then ((impl_size_int64_72.f l0_3).bind fun t105 => (if t105 = (wrap64 (a0_1 * a0_2)) then ((impl_areElements.f l0_3 a0_0).bind fun t106 => (some t106)) else (some false))) else (some false))) else (some false))) else (some false)) = some r := H
 have A2 := Z58.k A20
 clear A20
 by_cases c3 : t102 = true
 ·subst c3
  rw [if_pos rfl] at H
  replace H := Option.bind_eq_some_iff.mp H
  obtain ⟨t103, A40, H⟩ := H
  (try dsimp only at H)
  have A4 := Z58.k A40
  clear A40
  by_cases c5 : t103 = true
  ·subst c5
   rw [if_pos rfl] at H
   replace H := Option.bind_eq_some_iff.mp H
   obtain ⟨t104, A60, H⟩ := H
   (try dsimp only at H)
   have A6 := Z58.k A60
   clear A60
   by_cases c7 : t104 = true
   ·subst c7
    rw [if_pos rfl] at H
    replace H := Option.bind_eq_some_iff.mp H
    obtain ⟨t105, A80, H⟩ := H
    (try dsimp only at H)
    have A8 := Z58.k A80
    clear A80
    by_cases c9 : t105 = (wrap64 (a0_1 * a0_2))
    ·rw [if_pos c9] at H
     have c9b0 : (t105 == (wrap64 (a0_1 * a0_2))) = true := beq_iff_eq.mpr c9
     have c9b1 : (t105 != (wrap64 (a0_1 * a0_2))) = false := bne_eq_false_iff_eq.mpr c9
     clear c9
     replace H := Option.bind_eq_some_iff.mp H
     obtain ⟨t106, A100, H⟩ := H
     (try dsimp only at H)
     have A10 := Z58.k A100
     clear A100
     obtain rfl := Option.some.inj H
     go_enter Try.func58, Try.ntmps58
     try go_wp2_with (first | ((with_reducible refine gate_dst (N := 1) rfl ?_); refine box_event ?hg (N := 1) ?hd (cs := #[.int .i64 a0_0, .int .i64 a0_1, .int .i64 a0_2, .slice A0_3 l0_3.length c0_3]) (t := 28) ?hr ?_; (case hd => rfl); (case hg => rfl); (case hr => first | (go_simp; done) | (go_simp; rfl)); intro gb101 hg w11 hbox hb; have BK101 := Z58.k (hbox); have GW101 := Z58.k (show w.heap.size ≤ gb101 from Z58.z7); have GE101 := Z58.k (show w.heap.size ≤ gb101 from Z58.z7); replace HB := Z58.k (below_step Z58.z3 hb); clear hb hbox hg))
     replace BK101 := Z58.k (blk_drew BK101.out)
     replace HB := Z58.k (below_drew1 HB.out)
     refine start_ (n := 32) (S := fun w' => w'.cell? ⟨gb101, 0, none⟩ = some (.int .i64 a0_0) ∧ w'.cell? ⟨gb101, 1, none⟩ = some (.int .i64 a0_1) ∧ w'.cell? ⟨gb101, 2, none⟩ = some (.int .i64 a0_2) ∧ w'.cell? ⟨gb101, 3, none⟩ = some (.slice A0_3 l0_3.length c0_3)) (ds := []) #[false, false, false, false, false, false, false, false, false, false, false, false, false, false, false, false, false, false, false, false, false, false, false, false, false, false, false, false, false, false, false, false] (by kernel_rfl) rfl rfl Z58.z1 (fun hHeld => ?_); refine with_tabW impl_ValidMatrix.tab1 impl_ValidMatrix.bits1 (fun HT_ HW_ => ?_)
     generalize w11.drew = w12 at BK101 HB hHeld ⊢
     refine Z58.pP 0 3 (Z58.b 32 1) (any_of HT_.out (by kernel_rfl)) ?_
     refine Z58.pT4 1 4 (Z58.b 32 3) (take_ofW HT_.out HW_.out (by kernel_rfl)) hHeld ?_
     refine one_ (i := 2) (N := some 5) (Z58.b 32 7) rfl rfl (one_of HT_.out (by kernel_rfl)) (by decide) (fun K hK => ?_)
     refine goes_ Try.func67 (by kernel_rfl) rfl #[.int .i64 a0_0] (by rfl) rfl rfl Z58.z2 ?_
     with_reducible refine (impl_ValidPrime.calls k a0_0 true _ A2.out).mono ?_
     rintro e w' ⟨rfl, ⟨nd, rfl⟩⟩
     refine ⟨_, rfl, ?_⟩
     refine hK.out _ _ Z58.z1 (fun hHeld => ?_)
     clear hK K
     refine norm_ (a' := ?_) ?_ ?_
     rotate_left
     ·show Act.put _ (some 5) _ = _
      simp only [Act.put, List.setIfInBounds_toArray, List.set_cons_zero, List.set_cons_succ, i64_w, i32_w]
      rfl
     refine Z58.pP 3 6 (Z58.b 32 15) (any_of HT_.out (by kernel_rfl)) ?_
     refine Z58.pP 4 7 (Z58.b 32 31) (any_of HT_.out (by kernel_rfl)) ?_
     refine Z58.pT4 5 8 (Z58.b 32 63) (take_ofW HT_.out HW_.out (by kernel_rfl)) hHeld ?_
     refine one_ (i := 6) (N := some 9) (Z58.b 32 127) rfl rfl (one_of HT_.out (by kernel_rfl)) (by decide) (fun K hK => ?_)
     refine goes_ Try.func68 (by kernel_rfl) rfl #[.int .i64 a0_1] (by rfl) rfl rfl Z58.z2 ?_
     with_reducible refine (impl_isSide.calls a0_1 true _ A4.out).mono ?_
     rintro e w' ⟨rfl, ⟨nd, rfl⟩⟩
     refine ⟨_, rfl, ?_⟩
     refine hK.out _ _ Z58.z1 (fun hHeld => ?_)
     clear hK K
     refine norm_ (a' := ?_) ?_ ?_
     rotate_left
     ·show Act.put _ (some 9) _ = _
      simp only [Act.put, List.setIfInBounds_toArray, List.set_cons_zero, List.set_cons_succ, i64_w, i32_w]
      rfl
     refine Z58.pP 7 10 (Z58.b 32 255) (any_of HT_.out (by kernel_rfl)) ?_
     refine Z58.pP 8 11 (Z58.b 32 511) (any_of HT_.out (by kernel_rfl)) ?_
     refine Z58.pP 9 12 (Z58.b 32 1023) (any_of HT_.out (by kernel_rfl)) ?_
     refine Z58.pT4 10 13 (Z58.b 32 2047) (take_ofW HT_.out HW_.out (by kernel_rfl)) hHeld ?_
     refine one_ (i := 11) (N := some 14) (Z58.b 32 4095) rfl rfl (one_of HT_.out (by kernel_rfl)) (by decide) (fun K hK => ?_)
     refine goes_ Try.func68 (by kernel_rfl) rfl #[.int .i64 a0_2] (by rfl) rfl rfl Z58.z2 ?_
     with_reducible refine (impl_isSide.calls a0_2 true _ A6.out).mono ?_
     rintro e w' ⟨rfl, ⟨nd, rfl⟩⟩
     refine ⟨_, rfl, ?_⟩
     refine hK.out _ _ Z58.z1 (fun hHeld => ?_)
     clear hK K
     refine norm_ (a' := ?_) ?_ ?_
     rotate_left
     ·show Act.put _ (some 14) _ = _
      simp only [Act.put, List.setIfInBounds_toArray, List.set_cons_zero, List.set_cons_succ, i64_w, i32_w]
      rfl
     refine Z58.pP 12 15 (Z58.b 32 8191) (any_of HT_.out (by kernel_rfl)) ?_
     refine Z58.pP 13 16 (Z58.b 32 16383) (any_of HT_.out (by kernel_rfl)) ?_
     refine Z58.pP 14 17 (Z58.b 32 32767) (any_of HT_.out (by kernel_rfl)) ?_
     refine Z58.pP 17 20 (Z58.b 32 163839) (any_of HT_.out (by kernel_rfl)) ?_
     refine Z58.pP 19 22 (Z58.b 32 688127) (any_of HT_.out (by kernel_rfl)) ?_
     refine Z58.pT4 15 18 (Z58.b 32 720895) (take_ofW HT_.out HW_.out (by kernel_rfl)) hHeld ?_
     refine Z58.pT4 18 21 (Z58.b 32 983039) (take_ofW HT_.out HW_.out (by kernel_rfl)) hHeld ?_
     refine Z58.pT4 20 23 (Z58.b 32 2031615) (take_ofW HT_.out HW_.out (by kernel_rfl)) hHeld ?_
     refine Z58.pP 21 24 (Z58.b 32 4128767) (any_of HT_.out (by kernel_rfl)) ?_
     refine one_ (i := 16) (N := some 19) (Z58.b 32 4194303) rfl rfl (one_of HT_.out (by kernel_rfl)) (by decide) (fun K hK => ?_)
     refine goes_ Try.func72 (by kernel_rfl) rfl #[.slice A0_3 l0_3.length c0_3] (by rfl) rfl rfl Z58.z2 ?_
     with_reducible refine (impl_size_int64_72.calls _ _ l0_3 t105 _ ?side1 ?side2 A8.out).mono ?_
     (case side1 => exact Z58.z5)
     (case side2 => exact HC0_3.out)
     rintro e w' ⟨rfl, ⟨nd, rfl⟩⟩
     refine ⟨_, rfl, ?_⟩
     refine hK.out _ _ Z58.z1 (fun hHeld => ?_)
     clear hK K
     refine norm_ (a' := ?_) ?_ ?_
     rotate_left
     ·show Act.put _ (some 19) _ = _
      simp only [Act.put, List.setIfInBounds_toArray, List.set_cons_zero, List.set_cons_succ, i64_w, i32_w]
      rfl
     refine Z58.pP 22 25 (Z58.b 32 8388607) (any_of HT_.out (by kernel_rfl)) ?_
     refine Z58.pP 23 26 (Z58.b 32 16777215) (any_of HT_.out (by kernel_rfl)) ?_
     refine Z58.pP 24 27 (Z58.b 32 33554431) (any_of HT_.out (by kernel_rfl)) ?_
     refine Z58.pP 25 28 (Z58.b 32 67108863) (any_of HT_.out (by kernel_rfl)) ?_
     refine Z58.pP 27 30 (Z58.b 32 201326591) (any_of HT_.out (by kernel_rfl)) ?_
     refine Z58.pT4 26 29 (Z58.b 32 268435455) (take_ofW HT_.out HW_.out (by kernel_rfl)) hHeld ?_
     refine Z58.pT4 28 31 (Z58.b 32 536870911) (take_ofW HT_.out HW_.out (by kernel_rfl)) hHeld ?_
     refine one_ (i := 29) (N := some 32) (Z58.b 32 1073741823) rfl rfl (one_of HT_.out (by kernel_rfl)) (by decide) (fun K hK => ?_)
     refine goes_ Try.func73 (by kernel_rfl) rfl #[.slice A0_3 l0_3.length c0_3, .int .i64 a0_0] (by rfl) rfl rfl Z58.z2 ?_
     with_reducible refine (impl_areElements.calls _ _ l0_3 a0_0 t106 _ ?side1 ?side2 A10.out).mono ?_
     (case side1 => exact Z58.z5)
     (case side2 => exact HC0_3.out)
     rintro e w13 ⟨rfl, hb⟩
     refine ⟨_, rfl, ?_⟩
     replace BK101 := Z58.k (Z58.bb BK101 (by (with_reducible repeat (first | refine blk_drewN ?_ _ | refine blk_drew ?_ | refine blk_alloc ?_ _)); exact BK101.out) hb)
     replace HB := Z58.k (below_step Z58.z4 hb)
     (try clear hb)
     (try clear hb2)
     (try clear hk)
     (try clear hi)
     refine hK.out _ _ Z58.z1 (fun hHeld => ?_)
     clear hK K
     refine norm_ (a' := ?_) ?_ ?_
     rotate_left
     ·show Act.put _ (some 32) _ = _
      simp only [Act.put, List.setIfInBounds_toArray, List.set_cons_zero, List.set_cons_succ, i64_w, i32_w]
      rfl
     refine Z58.pP 30 33 (Z58.b 32 2147483647) (any_of HT_.out (by kernel_rfl)) ?_
     refine Z58.pP 31 2 (Z58.b 32 4294967295) (any_of HT_.out (by kernel_rfl)) ?_
     refine done_ (done_of HT_.out (by kernel_rfl)) ?_
     try go_wp2
     go_ret
     exact ⟨Z58.z6, Z58.z4⟩
    rw [if_neg c9] at H
    have c9b0 : (t105 == (wrap64 (a0_1 * a0_2))) = false := beq_eq_false_iff_ne.mpr c9
    have c9b1 : (t105 != (wrap64 (a0_1 * a0_2))) = true := bne_iff_ne.mpr c9
    obtain rfl := Option.some.inj H
    go_enter Try.func58, Try.ntmps58
    try go_wp2_with (first | ((with_reducible refine gate_dst (N := 1) rfl ?_); refine box_event ?hg (N := 1) ?hd (cs := #[.int .i64 a0_0, .int .i64 a0_1, .int .i64 a0_2, .slice A0_3 l0_3.length c0_3]) (t := 28) ?hr ?_; (case hd => rfl); (case hg => rfl); (case hr => first | (go_simp; done) | (go_simp; rfl)); intro gb101 hg w14 hbox hb; have BK101 := Z58.k (hbox); have GW101 := Z58.k (show w.heap.size ≤ gb101 from Z58.z7); have GE101 := Z58.k (show w.heap.size ≤ gb101 from Z58.z7); replace HB := Z58.k (below_step Z58.z3 hb); clear hb hbox hg))
    replace BK101 := Z58.k (blk_drew BK101.out)
    replace HB := Z58.k (below_drew1 HB.out)
    refine start_ (n := 32) (S := fun w' => w'.cell? ⟨gb101, 0, none⟩ = some (.int .i64 a0_0) ∧ w'.cell? ⟨gb101, 1, none⟩ = some (.int .i64 a0_1) ∧ w'.cell? ⟨gb101, 2, none⟩ = some (.int .i64 a0_2) ∧ w'.cell? ⟨gb101, 3, none⟩ = some (.slice A0_3 l0_3.length c0_3)) (ds := []) #[false, false, false, false, false, false, false, false, false, false, false, false, false, false, false, false, false, false, false, false, false, false, false, false, false, false, false, false, false, false, false, false] (by kernel_rfl) rfl rfl Z58.z1 (fun hHeld => ?_); refine with_tabW impl_ValidMatrix.tab1 impl_ValidMatrix.bits1 (fun HT_ HW_ => ?_)
    generalize w14.drew = w15 at BK101 HB hHeld ⊢
    refine Z58.pP 0 3 (Z58.b 32 1) (any_of HT_.out (by kernel_rfl)) ?_
    refine Z58.pT4 1 4 (Z58.b 32 3) (take_ofW HT_.out HW_.out (by kernel_rfl)) hHeld ?_
    refine one_ (i := 2) (N := some 5) (Z58.b 32 7) rfl rfl (one_of HT_.out (by kernel_rfl)) (by decide) (fun K hK => ?_)
    refine goes_ Try.func67 (by kernel_rfl) rfl #[.int .i64 a0_0] (by rfl) rfl rfl Z58.z2 ?_
    with_reducible refine (impl_ValidPrime.calls k a0_0 true _ A2.out).mono ?_
    rintro e w' ⟨rfl, ⟨nd, rfl⟩⟩
    refine ⟨_, rfl, ?_⟩
    refine hK.out _ _ Z58.z1 (fun hHeld => ?_)
    clear hK K
    refine norm_ (a' := ?_) ?_ ?_
    rotate_left
    ·show Act.put _ (some 5) _ = _
     simp only [Act.put, List.setIfInBounds_toArray, List.set_cons_zero, List.set_cons_succ, i64_w, i32_w]
     rfl
    refine Z58.pP 3 6 (Z58.b 32 15) (any_of HT_.out (by kernel_rfl)) ?_
    refine Z58.pP 4 7 (Z58.b 32 31) (any_of HT_.out (by kernel_rfl)) ?_
    refine Z58.pT4 5 8 (Z58.b 32 63) (take_ofW HT_.out HW_.out (by kernel_rfl)) hHeld ?_
    refine one_ (i := 6) (N := some 9) (Z58.b 32 127) rfl rfl (one_of HT_.out (by kernel_rfl)) (by decide) (fun K hK => ?_)
    refine goes_ Try.func68 (by kernel_rfl) rfl #[.int .i64 a0_1] (by rfl) rfl rfl Z58.z2 ?_
    with_reducible refine (impl_isSide.calls a0_1 true _ A4.out).mono ?_
    rintro e w' ⟨rfl, ⟨nd, rfl⟩⟩
    refine ⟨_, rfl, ?_⟩
    refine hK.out _ _ Z58.z1 (fun hHeld => ?_)
    clear hK K
    refine norm_ (a' := ?_) ?_ ?_
    rotate_left
    ·show Act.put _ (some 9) _ = _
     simp only [Act.put, List.setIfInBounds_toArray, List.set_cons_zero, List.set_cons_succ, i64_w, i32_w]
     rfl
    refine Z58.pP 7 10 (Z58.b 32 255) (any_of HT_.out (by kernel_rfl)) ?_
    refine Z58.pP 8 11 (Z58.b 32 511) (any_of HT_.out (by kernel_rfl)) ?_
    refine Z58.pP 9 12 (Z58.b 32 1023) (any_of HT_.out (by kernel_rfl)) ?_
    refine Z58.pT4 10 13 (Z58.b 32 2047) (take_ofW HT_.out HW_.out (by kernel_rfl)) hHeld ?_
    refine one_ (i := 11) (N := some 14) (Z58.b 32 4095) rfl rfl (one_of HT_.out (by kernel_rfl)) (by decide) (fun K hK => ?_)
    refine goes_ Try.func68 (by kernel_rfl) rfl #[.int .i64 a0_2] (by rfl) rfl rfl Z58.z2 ?_
    with_reducible refine (impl_isSide.calls a0_2 true _ A6.out).mono ?_
    rintro e w' ⟨rfl, ⟨nd, rfl⟩⟩
    refine ⟨_, rfl, ?_⟩
    refine hK.out _ _ Z58.z1 (fun hHeld => ?_)
    clear hK K
    refine norm_ (a' := ?_) ?_ ?_
    rotate_left
    ·show Act.put _ (some 14) _ = _
     simp only [Act.put, List.setIfInBounds_toArray, List.set_cons_zero, List.set_cons_succ, i64_w, i32_w]
     rfl
    refine Z58.pP 12 15 (Z58.b 32 8191) (any_of HT_.out (by kernel_rfl)) ?_
    refine Z58.pP 13 16 (Z58.b 32 16383) (any_of HT_.out (by kernel_rfl)) ?_
    refine Z58.pP 14 17 (Z58.b 32 32767) (any_of HT_.out (by kernel_rfl)) ?_
    refine Z58.pP 17 20 (Z58.b 32 163839) (any_of HT_.out (by kernel_rfl)) ?_
    refine Z58.pP 19 22 (Z58.b 32 688127) (any_of HT_.out (by kernel_rfl)) ?_
    refine Z58.pT4 15 18 (Z58.b 32 720895) (take_ofW HT_.out HW_.out (by kernel_rfl)) hHeld ?_
    refine Z58.pT4 18 21 (Z58.b 32 983039) (take_ofW HT_.out HW_.out (by kernel_rfl)) hHeld ?_
    refine Z58.pT4 20 23 (Z58.b 32 2031615) (take_ofW HT_.out HW_.out (by kernel_rfl)) hHeld ?_
    refine Z58.pP 21 24 (Z58.b 32 4128767) (any_of HT_.out (by kernel_rfl)) ?_
    refine one_ (i := 16) (N := some 19) (Z58.b 32 4194303) rfl rfl (one_of HT_.out (by kernel_rfl)) (by decide) (fun K hK => ?_)
    refine goes_ Try.func72 (by kernel_rfl) rfl #[.slice A0_3 l0_3.length c0_3] (by rfl) rfl rfl Z58.z2 ?_
    with_reducible refine (impl_size_int64_72.calls _ _ l0_3 t105 _ ?side1 ?side2 A8.out).mono ?_
    (case side1 => exact Z58.z5)
    (case side2 => exact HC0_3.out)
    rintro e w' ⟨rfl, ⟨nd, rfl⟩⟩
    refine ⟨_, rfl, ?_⟩
    refine hK.out _ _ Z58.z1 (fun hHeld => ?_)
    clear hK K
    refine norm_ (a' := ?_) ?_ ?_
    rotate_left
    ·show Act.put _ (some 19) _ = _
     simp only [Act.put, List.setIfInBounds_toArray, List.set_cons_zero, List.set_cons_succ, i64_w, i32_w]
     rfl
    refine Z58.pP 22 25 (Z58.b 32 8388607) (any_of HT_.out (by kernel_rfl)) ?_
    refine Z58.pP 23 26 (Z58.b 32 16777215) (any_of HT_.out (by kernel_rfl)) ?_
    refine Z58.pP 24 27 (Z58.b 32 33554431) (any_of HT_.out (by kernel_rfl)) ?_
    refine pure_ (i := 25) (N := some 28) (v := undef) (a' := ?_) (Z58.b 32 67108863) rfl rfl (any_of HT_.out (by kernel_rfl)) (fun _ _ _ h => h) (Or.inr ⟨(by rfl), rfl⟩) ?_ ?_
    rotate_left
    ·exact Z58.z0
    refine pure_ (i := 26) (N := some 29) (v := undef) (a' := ?_) (Z58.b 32 134217727) rfl rfl (any_of HT_.out (by kernel_rfl)) (fun _ _ _ h => h) (Or.inr ⟨(by rfl), rfl⟩) ?_ ?_
    rotate_left
    ·exact Z58.z0
    refine pure_ (i := 27) (N := some 30) (v := undef) (a' := ?_) (Z58.b 32 268435455) rfl rfl (any_of HT_.out (by kernel_rfl)) (fun _ _ _ h => h) (Or.inr ⟨(by rfl), rfl⟩) ?_ ?_
    rotate_left
    ·exact Z58.z0
    refine pure_ (i := 28) (N := some 31) (v := undef) (a' := ?_) (Z58.b 32 536870911) rfl rfl (any_of HT_.out (by kernel_rfl)) (fun _ _ _ h => h) (Or.inr ⟨(by rfl), rfl⟩) ?_ ?_
    rotate_left
    ·exact Z58.z0
    refine pure_ (i := 29) (N := some 32) (v := undef) (a' := ?_) (Z58.b 32 1073741823) rfl rfl (any_of HT_.out (by kernel_rfl)) (fun _ _ _ h => h) (Or.inr ⟨(by rfl), rfl⟩) ?_ ?_
    rotate_left
    ·exact Z58.z0
    refine Z58.pP 30 33 (Z58.b 32 2147483647) (any_of HT_.out (by kernel_rfl)) ?_
    refine Z58.pP 31 2 (Z58.b 32 4294967295) (any_of HT_.out (by kernel_rfl)) ?_
    refine done_ (done_of HT_.out (by kernel_rfl)) ?_
    try go_wp2
    go_ret
    exact ⟨Z58.z6, Z58.z4⟩
   replace c7 := Bool.eq_false_iff.mpr c7
   subst c7
   rw [if_neg (show ¬ (false = true) by decide)] at H
   obtain rfl := Option.some.inj H
   go_enter Try.func58, Try.ntmps58
   try go_wp2_with (first | ((with_reducible refine gate_dst (N := 1) rfl ?_); refine box_event ?hg (N := 1) ?hd (cs := #[.int .i64 a0_0, .int .i64 a0_1, .int .i64 a0_2, .slice A0_3 l0_3.length c0_3]) (t := 28) ?hr ?_; (case hd => rfl); (case hg => rfl); (case hr => first | (go_simp; done) | (go_simp; rfl)); intro gb101 hg w16 hbox hb; have BK101 := Z58.k (hbox); have GW101 := Z58.k (show w.heap.size ≤ gb101 from Z58.z7); have GE101 := Z58.k (show w.heap.size ≤ gb101 from Z58.z7); replace HB := Z58.k (below_step Z58.z3 hb); clear hb hbox hg))
   replace BK101 := Z58.k (blk_drew BK101.out)
   replace HB := Z58.k (below_drew1 HB.out)
   refine start_ (n := 32) (S := fun w' => w'.cell? ⟨gb101, 0, none⟩ = some (.int .i64 a0_0) ∧ w'.cell? ⟨gb101, 1, none⟩ = some (.int .i64 a0_1) ∧ w'.cell? ⟨gb101, 2, none⟩ = some (.int .i64 a0_2) ∧ w'.cell? ⟨gb101, 3, none⟩ = some (.slice A0_3 l0_3.length c0_3)) (ds := []) #[false, false, false, false, false, false, false, false, false, false, false, false, false, false, false, false, false, false, false, false, false, false, false, false, false, false, false, false, false, false, false, false] (by kernel_rfl) rfl rfl Z58.z1 (fun hHeld => ?_); refine with_tabW impl_ValidMatrix.tab1 impl_ValidMatrix.bits1 (fun HT_ HW_ => ?_)
   generalize w16.drew = w17 at BK101 HB hHeld ⊢
   refine Z58.pP 0 3 (Z58.b 32 1) (any_of HT_.out (by kernel_rfl)) ?_
   refine Z58.pT4 1 4 (Z58.b 32 3) (take_ofW HT_.out HW_.out (by kernel_rfl)) hHeld ?_
   refine one_ (i := 2) (N := some 5) (Z58.b 32 7) rfl rfl (one_of HT_.out (by kernel_rfl)) (by decide) (fun K hK => ?_)
   refine goes_ Try.func67 (by kernel_rfl) rfl #[.int .i64 a0_0] (by rfl) rfl rfl Z58.z2 ?_
   with_reducible refine (impl_ValidPrime.calls k a0_0 true _ A2.out).mono ?_
   rintro e w' ⟨rfl, ⟨nd, rfl⟩⟩
   refine ⟨_, rfl, ?_⟩
   refine hK.out _ _ Z58.z1 (fun hHeld => ?_)
   clear hK K
   refine norm_ (a' := ?_) ?_ ?_
   rotate_left
   ·show Act.put _ (some 5) _ = _
    simp only [Act.put, List.setIfInBounds_toArray, List.set_cons_zero, List.set_cons_succ, i64_w, i32_w]
    rfl
   refine Z58.pP 3 6 (Z58.b 32 15) (any_of HT_.out (by kernel_rfl)) ?_
   refine Z58.pP 4 7 (Z58.b 32 31) (any_of HT_.out (by kernel_rfl)) ?_
   refine Z58.pT4 5 8 (Z58.b 32 63) (take_ofW HT_.out HW_.out (by kernel_rfl)) hHeld ?_
   refine one_ (i := 6) (N := some 9) (Z58.b 32 127) rfl rfl (one_of HT_.out (by kernel_rfl)) (by decide) (fun K hK => ?_)
   refine goes_ Try.func68 (by kernel_rfl) rfl #[.int .i64 a0_1] (by rfl) rfl rfl Z58.z2 ?_
   with_reducible refine (impl_isSide.calls a0_1 true _ A4.out).mono ?_
   rintro e w' ⟨rfl, ⟨nd, rfl⟩⟩
   refine ⟨_, rfl, ?_⟩
   refine hK.out _ _ Z58.z1 (fun hHeld => ?_)
   clear hK K
   refine norm_ (a' := ?_) ?_ ?_
   rotate_left
   ·show Act.put _ (some 9) _ = _
    simp only [Act.put, List.setIfInBounds_toArray, List.set_cons_zero, List.set_cons_succ, i64_w, i32_w]
    rfl
   refine Z58.pP 7 10 (Z58.b 32 255) (any_of HT_.out (by kernel_rfl)) ?_
   refine Z58.pP 8 11 (Z58.b 32 511) (any_of HT_.out (by kernel_rfl)) ?_
   refine Z58.pP 9 12 (Z58.b 32 1023) (any_of HT_.out (by kernel_rfl)) ?_
   refine Z58.pT4 10 13 (Z58.b 32 2047) (take_ofW HT_.out HW_.out (by kernel_rfl)) hHeld ?_
   refine one_ (i := 11) (N := some 14) (Z58.b 32 4095) rfl rfl (one_of HT_.out (by kernel_rfl)) (by decide) (fun K hK => ?_)
   refine goes_ Try.func68 (by kernel_rfl) rfl #[.int .i64 a0_2] (by rfl) rfl rfl Z58.z2 ?_
   with_reducible refine (impl_isSide.calls a0_2 false _ A6.out).mono ?_
   rintro e w' ⟨rfl, ⟨nd, rfl⟩⟩
   refine ⟨_, rfl, ?_⟩
   refine hK.out _ _ Z58.z1 (fun hHeld => ?_)
   clear hK K
   refine norm_ (a' := ?_) ?_ ?_
   rotate_left
   ·show Act.put _ (some 14) _ = _
    simp only [Act.put, List.setIfInBounds_toArray, List.set_cons_zero, List.set_cons_succ, i64_w, i32_w]
    rfl
   refine Z58.pP 12 15 (Z58.b 32 8191) (any_of HT_.out (by kernel_rfl)) ?_
   refine Z58.pP 13 16 (Z58.b 32 16383) (any_of HT_.out (by kernel_rfl)) ?_
   refine pure_ (i := 14) (N := some 17) (v := undef) (a' := ?_) (Z58.b 32 32767) rfl rfl (any_of HT_.out (by kernel_rfl)) (fun _ _ _ h => h) (Or.inr ⟨(by rfl), rfl⟩) ?_ ?_
   rotate_left
   ·exact Z58.z0
   refine pure_ (i := 15) (N := some 18) (v := undef) (a' := ?_) (Z58.b 32 65535) rfl rfl (any_of HT_.out (by kernel_rfl)) (fun _ _ _ h => h) (Or.inr ⟨(by rfl), rfl⟩) ?_ ?_
   rotate_left
   ·exact Z58.z0
   refine pure_ (i := 16) (N := some 19) (v := undef) (a' := ?_) (Z58.b 32 131071) rfl rfl (any_of HT_.out (by kernel_rfl)) (fun _ _ _ h => h) (Or.inr ⟨(by rfl), rfl⟩) ?_ ?_
   rotate_left
   ·exact Z58.z0
   refine pure_ (i := 17) (N := some 20) (v := undef) (a' := ?_) (Z58.b 32 262143) rfl rfl (any_of HT_.out (by kernel_rfl)) (fun _ _ _ h => h) (Or.inr ⟨(by rfl), rfl⟩) ?_ ?_
   rotate_left
   ·exact Z58.z0
   refine pure_ (i := 18) (N := some 21) (v := undef) (a' := ?_) (Z58.b 32 524287) rfl rfl (any_of HT_.out (by kernel_rfl)) (fun _ _ _ h => h) (Or.inr ⟨(by rfl), rfl⟩) ?_ ?_
   rotate_left
   ·exact Z58.z0
   refine pure_ (i := 19) (N := some 22) (v := undef) (a' := ?_) (Z58.b 32 1048575) rfl rfl (any_of HT_.out (by kernel_rfl)) (fun _ _ _ h => h) (Or.inr ⟨(by rfl), rfl⟩) ?_ ?_
   rotate_left
   ·exact Z58.z0
   refine pure_ (i := 20) (N := some 23) (v := undef) (a' := ?_) (Z58.b 32 2097151) rfl rfl (any_of HT_.out (by kernel_rfl)) (fun _ _ _ h => h) (Or.inr ⟨(by rfl), rfl⟩) ?_ ?_
   rotate_left
   ·exact Z58.z0
   refine pure_ (i := 21) (N := some 24) (v := undef) (a' := ?_) (Z58.b 32 4194303) rfl rfl (any_of HT_.out (by kernel_rfl)) (fun _ _ _ h => h) (Or.inr ⟨(by rfl), rfl⟩) ?_ ?_
   rotate_left
   ·exact Z58.z0
   refine pure_ (i := 22) (N := some 25) (v := undef) (a' := ?_) (Z58.b 32 8388607) rfl rfl (any_of HT_.out (by kernel_rfl)) (fun _ _ _ h => h) (Or.inr ⟨(by rfl), rfl⟩) ?_ ?_
   rotate_left
   ·exact Z58.z0
   refine Z58.pP 23 26 (Z58.b 32 16777215) (any_of HT_.out (by kernel_rfl)) ?_
   refine Z58.pP 24 27 (Z58.b 32 33554431) (any_of HT_.out (by kernel_rfl)) ?_
   refine pure_ (i := 25) (N := some 28) (v := undef) (a' := ?_) (Z58.b 32 67108863) rfl rfl (any_of HT_.out (by kernel_rfl)) (fun _ _ _ h => h) (Or.inr ⟨(by rfl), rfl⟩) ?_ ?_
   rotate_left
   ·exact Z58.z0
   refine pure_ (i := 26) (N := some 29) (v := undef) (a' := ?_) (Z58.b 32 134217727) rfl rfl (any_of HT_.out (by kernel_rfl)) (fun _ _ _ h => h) (Or.inr ⟨(by rfl), rfl⟩) ?_ ?_
   rotate_left
   ·exact Z58.z0
   refine pure_ (i := 27) (N := some 30) (v := undef) (a' := ?_) (Z58.b 32 268435455) rfl rfl (any_of HT_.out (by kernel_rfl)) (fun _ _ _ h => h) (Or.inr ⟨(by rfl), rfl⟩) ?_ ?_
   rotate_left
   ·exact Z58.z0
   refine pure_ (i := 28) (N := some 31) (v := undef) (a' := ?_) (Z58.b 32 536870911) rfl rfl (any_of HT_.out (by kernel_rfl)) (fun _ _ _ h => h) (Or.inr ⟨(by rfl), rfl⟩) ?_ ?_
   rotate_left
   ·exact Z58.z0
   refine pure_ (i := 29) (N := some 32) (v := undef) (a' := ?_) (Z58.b 32 1073741823) rfl rfl (any_of HT_.out (by kernel_rfl)) (fun _ _ _ h => h) (Or.inr ⟨(by rfl), rfl⟩) ?_ ?_
   rotate_left
   ·exact Z58.z0
   refine Z58.pP 30 33 (Z58.b 32 2147483647) (any_of HT_.out (by kernel_rfl)) ?_
   refine Z58.pP 31 2 (Z58.b 32 4294967295) (any_of HT_.out (by kernel_rfl)) ?_
   refine done_ (done_of HT_.out (by kernel_rfl)) ?_
   try go_wp2
   go_ret
   exact ⟨Z58.z6, Z58.z4⟩
  replace c5 := Bool.eq_false_iff.mpr c5
  subst c5
  rw [if_neg (show ¬ (false = true) by decide)] at H
  obtain rfl := Option.some.inj H
  go_enter Try.func58, Try.ntmps58
  try go_wp2_with (first | ((with_reducible refine gate_dst (N := 1) rfl ?_); refine box_event ?hg (N := 1) ?hd (cs := #[.int .i64 a0_0, .int .i64 a0_1, .int .i64 a0_2, .slice A0_3 l0_3.length c0_3]) (t := 28) ?hr ?_; (case hd => rfl); (case hg => rfl); (case hr => first | (go_simp; done) | (go_simp; rfl)); intro gb101 hg w18 hbox hb; have BK101 := Z58.k (hbox); have GW101 := Z58.k (show w.heap.size ≤ gb101 from Z58.z7); have GE101 := Z58.k (show w.heap.size ≤ gb101 from Z58.z7); replace HB := Z58.k (below_step Z58.z3 hb); clear hb hbox hg))
  replace BK101 := Z58.k (blk_drew BK101.out)
  replace HB := Z58.k (below_drew1 HB.out)
  refine start_ (n := 32) (S := fun w' => w'.cell? ⟨gb101, 0, none⟩ = some (.int .i64 a0_0) ∧ w'.cell? ⟨gb101, 1, none⟩ = some (.int .i64 a0_1) ∧ w'.cell? ⟨gb101, 2, none⟩ = some (.int .i64 a0_2) ∧ w'.cell? ⟨gb101, 3, none⟩ = some (.slice A0_3 l0_3.length c0_3)) (ds := []) #[false, false, false, false, false, false, false, false, false, false, false, false, false, false, false, false, false, false, false, false, false, false, false, false, false, false, false, false, false, false, false, false] (by kernel_rfl) rfl rfl Z58.z1 (fun hHeld => ?_); refine with_tabW impl_ValidMatrix.tab1 impl_ValidMatrix.bits1 (fun HT_ HW_ => ?_)
  generalize w18.drew = w19 at BK101 HB hHeld ⊢
  refine Z58.pP 0 3 (Z58.b 32 1) (any_of HT_.out (by kernel_rfl)) ?_
  refine Z58.pT4 1 4 (Z58.b 32 3) (take_ofW HT_.out HW_.out (by kernel_rfl)) hHeld ?_
  refine one_ (i := 2) (N := some 5) (Z58.b 32 7) rfl rfl (one_of HT_.out (by kernel_rfl)) (by decide) (fun K hK => ?_)
  refine goes_ Try.func67 (by kernel_rfl) rfl #[.int .i64 a0_0] (by rfl) rfl rfl Z58.z2 ?_
  with_reducible refine (impl_ValidPrime.calls k a0_0 true _ A2.out).mono ?_
  rintro e w' ⟨rfl, ⟨nd, rfl⟩⟩
  refine ⟨_, rfl, ?_⟩
  refine hK.out _ _ Z58.z1 (fun hHeld => ?_)
  clear hK K
  refine norm_ (a' := ?_) ?_ ?_
  rotate_left
  ·show Act.put _ (some 5) _ = _
   simp only [Act.put, List.setIfInBounds_toArray, List.set_cons_zero, List.set_cons_succ, i64_w, i32_w]
   rfl
  refine Z58.pP 3 6 (Z58.b 32 15) (any_of HT_.out (by kernel_rfl)) ?_
  refine Z58.pP 4 7 (Z58.b 32 31) (any_of HT_.out (by kernel_rfl)) ?_
  refine Z58.pT4 5 8 (Z58.b 32 63) (take_ofW HT_.out HW_.out (by kernel_rfl)) hHeld ?_
  refine one_ (i := 6) (N := some 9) (Z58.b 32 127) rfl rfl (one_of HT_.out (by kernel_rfl)) (by decide) (fun K hK => ?_)
  refine goes_ Try.func68 (by kernel_rfl) rfl #[.int .i64 a0_1] (by rfl) rfl rfl Z58.z2 ?_
  with_reducible refine (impl_isSide.calls a0_1 false _ A4.out).mono ?_
  rintro e w' ⟨rfl, ⟨nd, rfl⟩⟩
  refine ⟨_, rfl, ?_⟩
  refine hK.out _ _ Z58.z1 (fun hHeld => ?_)
  clear hK K
  refine norm_ (a' := ?_) ?_ ?_
  rotate_left
  ·show Act.put _ (some 9) _ = _
   simp only [Act.put, List.setIfInBounds_toArray, List.set_cons_zero, List.set_cons_succ, i64_w, i32_w]
   rfl
  refine Z58.pP 7 10 (Z58.b 32 255) (any_of HT_.out (by kernel_rfl)) ?_
  refine Z58.pP 8 11 (Z58.b 32 511) (any_of HT_.out (by kernel_rfl)) ?_
  refine pure_ (i := 9) (N := some 12) (v := undef) (a' := ?_) (Z58.b 32 1023) rfl rfl (any_of HT_.out (by kernel_rfl)) (fun _ _ _ h => h) (Or.inr ⟨(by rfl), rfl⟩) ?_ ?_
  rotate_left
  ·exact Z58.z0
  refine pure_ (i := 10) (N := some 13) (v := undef) (a' := ?_) (Z58.b 32 2047) rfl rfl (any_of HT_.out (by kernel_rfl)) (fun _ _ _ h => h) (Or.inr ⟨(by rfl), rfl⟩) ?_ ?_
  rotate_left
  ·exact Z58.z0
  refine pure_ (i := 11) (N := some 14) (v := undef) (a' := ?_) (Z58.b 32 4095) rfl rfl (any_of HT_.out (by kernel_rfl)) (fun _ _ _ h => h) (Or.inr ⟨(by rfl), rfl⟩) ?_ ?_
  rotate_left
  ·exact Z58.z0
  refine Z58.pP 12 15 (Z58.b 32 8191) (any_of HT_.out (by kernel_rfl)) ?_
  refine Z58.pP 13 16 (Z58.b 32 16383) (any_of HT_.out (by kernel_rfl)) ?_
  refine pure_ (i := 14) (N := some 17) (v := undef) (a' := ?_) (Z58.b 32 32767) rfl rfl (any_of HT_.out (by kernel_rfl)) (fun _ _ _ h => h) (Or.inr ⟨(by rfl), rfl⟩) ?_ ?_
  rotate_left
  ·exact Z58.z0
  refine pure_ (i := 15) (N := some 18) (v := undef) (a' := ?_) (Z58.b 32 65535) rfl rfl (any_of HT_.out (by kernel_rfl)) (fun _ _ _ h => h) (Or.inr ⟨(by rfl), rfl⟩) ?_ ?_
  rotate_left
  ·exact Z58.z0
  refine pure_ (i := 16) (N := some 19) (v := undef) (a' := ?_) (Z58.b 32 131071) rfl rfl (any_of HT_.out (by kernel_rfl)) (fun _ _ _ h => h) (Or.inr ⟨(by rfl), rfl⟩) ?_ ?_
  rotate_left
  ·exact Z58.z0
  refine pure_ (i := 17) (N := some 20) (v := undef) (a' := ?_) (Z58.b 32 262143) rfl rfl (any_of HT_.out (by kernel_rfl)) (fun _ _ _ h => h) (Or.inr ⟨(by rfl), rfl⟩) ?_ ?_
  rotate_left
  ·exact Z58.z0
  refine pure_ (i := 18) (N := some 21) (v := undef) (a' := ?_) (Z58.b 32 524287) rfl rfl (any_of HT_.out (by kernel_rfl)) (fun _ _ _ h => h) (Or.inr ⟨(by rfl), rfl⟩) ?_ ?_
  rotate_left
  ·exact Z58.z0
  refine pure_ (i := 19) (N := some 22) (v := undef) (a' := ?_) (Z58.b 32 1048575) rfl rfl (any_of HT_.out (by kernel_rfl)) (fun _ _ _ h => h) (Or.inr ⟨(by rfl), rfl⟩) ?_ ?_
  rotate_left
  ·exact Z58.z0
  refine pure_ (i := 20) (N := some 23) (v := undef) (a' := ?_) (Z58.b 32 2097151) rfl rfl (any_of HT_.out (by kernel_rfl)) (fun _ _ _ h => h) (Or.inr ⟨(by rfl), rfl⟩) ?_ ?_
  rotate_left
  ·exact Z58.z0
  refine pure_ (i := 21) (N := some 24) (v := undef) (a' := ?_) (Z58.b 32 4194303) rfl rfl (any_of HT_.out (by kernel_rfl)) (fun _ _ _ h => h) (Or.inr ⟨(by rfl), rfl⟩) ?_ ?_
  rotate_left
  ·exact Z58.z0
  refine pure_ (i := 22) (N := some 25) (v := undef) (a' := ?_) (Z58.b 32 8388607) rfl rfl (any_of HT_.out (by kernel_rfl)) (fun _ _ _ h => h) (Or.inr ⟨(by rfl), rfl⟩) ?_ ?_
  rotate_left
  ·exact Z58.z0
  refine Z58.pP 23 26 (Z58.b 32 16777215) (any_of HT_.out (by kernel_rfl)) ?_
  refine Z58.pP 24 27 (Z58.b 32 33554431) (any_of HT_.out (by kernel_rfl)) ?_
  refine pure_ (i := 25) (N := some 28) (v := undef) (a' := ?_) (Z58.b 32 67108863) rfl rfl (any_of HT_.out (by kernel_rfl)) (fun _ _ _ h => h) (Or.inr ⟨(by rfl), rfl⟩) ?_ ?_
  rotate_left
  ·exact Z58.z0
  refine pure_ (i := 26) (N := some 29) (v := undef) (a' := ?_) (Z58.b 32 134217727) rfl rfl (any_of HT_.out (by kernel_rfl)) (fun _ _ _ h => h) (Or.inr ⟨(by rfl), rfl⟩) ?_ ?_
  rotate_left
  ·exact Z58.z0
  refine pure_ (i := 27) (N := some 30) (v := undef) (a' := ?_) (Z58.b 32 268435455) rfl rfl (any_of HT_.out (by kernel_rfl)) (fun _ _ _ h => h) (Or.inr ⟨(by rfl), rfl⟩) ?_ ?_
  rotate_left
  ·exact Z58.z0
  refine pure_ (i := 28) (N := some 31) (v := undef) (a' := ?_) (Z58.b 32 536870911) rfl rfl (any_of HT_.out (by kernel_rfl)) (fun _ _ _ h => h) (Or.inr ⟨(by rfl), rfl⟩) ?_ ?_
  rotate_left
  ·exact Z58.z0
  refine pure_ (i := 29) (N := some 32) (v := undef) (a' := ?_) (Z58.b 32 1073741823) rfl rfl (any_of HT_.out (by kernel_rfl)) (fun _ _ _ h => h) (Or.inr ⟨(by rfl), rfl⟩) ?_ ?_
  rotate_left
  ·exact Z58.z0
  refine Z58.pP 30 33 (Z58.b 32 2147483647) (any_of HT_.out (by kernel_rfl)) ?_
  refine Z58.pP 31 2 (Z58.b 32 4294967295) (any_of HT_.out (by kernel_rfl)) ?_
  refine done_ (done_of HT_.out (by kernel_rfl)) ?_
  try go_wp2
  go_ret
  exact ⟨Z58.z6, Z58.z4⟩
 replace c3 := Bool.eq_false_iff.mpr c3
 subst c3
 rw [if_neg (show ¬ (false = true) by decide)] at H
 obtain rfl := Option.some.inj H
 go_enter Try.func58, Try.ntmps58
 try go_wp2_with (first | ((with_reducible refine gate_dst (N := 1) rfl ?_); refine box_event ?hg (N := 1) ?hd (cs := #[.int .i64 a0_0, .int .i64 a0_1, .int .i64 a0_2, .slice A0_3 l0_3.length c0_3]) (t := 28) ?hr ?_; (case hd => rfl); (case hg => rfl); (case hr => first | (go_simp; done) | (go_simp; rfl)); intro gb101 hg w20 hbox hb; have BK101 := Z58.k (hbox); have GW101 := Z58.k (show w.heap.size ≤ gb101 from Z58.z7); have GE101 := Z58.k (show w.heap.size ≤ gb101 from Z58.z7); replace HB := Z58.k (below_step Z58.z3 hb); clear hb hbox hg))
 replace BK101 := Z58.k (blk_drew BK101.out)
 replace HB := Z58.k (below_drew1 HB.out)
 refine start_ (n := 32) (S := fun w' => w'.cell? ⟨gb101, 0, none⟩ = some (.int .i64 a0_0) ∧ w'.cell? ⟨gb101, 1, none⟩ = some (.int .i64 a0_1) ∧ w'.cell? ⟨gb101, 2, none⟩ = some (.int .i64 a0_2) ∧ w'.cell? ⟨gb101, 3, none⟩ = some (.slice A0_3 l0_3.length c0_3)) (ds := []) #[false, false, false, false, false, false, false, false, false, false, false, false, false, false, false, false, false, false, false, false, false, false, false, false, false, false, false, false, false, false, false, false] (by kernel_rfl) rfl rfl Z58.z1 (fun hHeld => ?_); refine with_tabW impl_ValidMatrix.tab1 impl_ValidMatrix.bits1 (fun HT_ HW_ => ?_)
 generalize w20.drew = w21 at BK101 HB hHeld ⊢
 refine Z58.pP 0 3 (Z58.b 32 1) (any_of HT_.out (by kernel_rfl)) ?_
 refine Z58.pT4 1 4 (Z58.b 32 3) (take_ofW HT_.out HW_.out (by kernel_rfl)) hHeld ?_
 refine one_ (i := 2) (N := some 5) (Z58.b 32 7) rfl rfl (one_of HT_.out (by kernel_rfl)) (by decide) (fun K hK => ?_)
 refine goes_ Try.func67 (by kernel_rfl) rfl #[.int .i64 a0_0] (by rfl) rfl rfl Z58.z2 ?_
 with_reducible refine (impl_ValidPrime.calls k a0_0 false _ A2.out).mono ?_
 rintro e w' ⟨rfl, ⟨nd, rfl⟩⟩
 refine ⟨_, rfl, ?_⟩
 refine hK.out _ _ Z58.z1 (fun hHeld => ?_)
 clear hK K
 refine norm_ (a' := ?_) ?_ ?_
 rotate_left
 ·show Act.put _ (some 5) _ = _
  simp only [Act.put, List.setIfInBounds_toArray, List.set_cons_zero, List.set_cons_succ, i64_w, i32_w]
  rfl
 refine Z58.pP 3 6 (Z58.b 32 15) (any_of HT_.out (by kernel_rfl)) ?_
 refine pure_ (i := 4) (N := some 7) (v := undef) (a' := ?_) (Z58.b 32 31) rfl rfl (any_of HT_.out (by kernel_rfl)) (fun _ _ _ h => h) (Or.inr ⟨(by rfl), rfl⟩) ?_ ?_
 rotate_left
 ·exact Z58.z0
 refine pure_ (i := 5) (N := some 8) (v := undef) (a' := ?_) (Z58.b 32 63) rfl rfl (any_of HT_.out (by kernel_rfl)) (fun _ _ _ h => h) (Or.inr ⟨(by rfl), rfl⟩) ?_ ?_
 rotate_left
 ·exact Z58.z0
 refine pure_ (i := 6) (N := some 9) (v := undef) (a' := ?_) (Z58.b 32 127) rfl rfl (any_of HT_.out (by kernel_rfl)) (fun _ _ _ h => h) (Or.inr ⟨(by rfl), rfl⟩) ?_ ?_
 rotate_left
 ·exact Z58.z0
 refine Z58.pP 7 10 (Z58.b 32 255) (any_of HT_.out (by kernel_rfl)) ?_
 refine Z58.pP 8 11 (Z58.b 32 511) (any_of HT_.out (by kernel_rfl)) ?_
 refine pure_ (i := 9) (N := some 12) (v := undef) (a' := ?_) (Z58.b 32 1023) rfl rfl (any_of HT_.out (by kernel_rfl)) (fun _ _ _ h => h) (Or.inr ⟨(by rfl), rfl⟩) ?_ ?_
 rotate_left
 ·exact Z58.z0
 refine pure_ (i := 10) (N := some 13) (v := undef) (a' := ?_) (Z58.b 32 2047) rfl rfl (any_of HT_.out (by kernel_rfl)) (fun _ _ _ h => h) (Or.inr ⟨(by rfl), rfl⟩) ?_ ?_
 rotate_left
 ·exact Z58.z0
 refine pure_ (i := 11) (N := some 14) (v := undef) (a' := ?_) (Z58.b 32 4095) rfl rfl (any_of HT_.out (by kernel_rfl)) (fun _ _ _ h => h) (Or.inr ⟨(by rfl), rfl⟩) ?_ ?_
 rotate_left
 ·exact Z58.z0
 refine Z58.pP 12 15 (Z58.b 32 8191) (any_of HT_.out (by kernel_rfl)) ?_
 refine Z58.pP 13 16 (Z58.b 32 16383) (any_of HT_.out (by kernel_rfl)) ?_
 refine pure_ (i := 14) (N := some 17) (v := undef) (a' := ?_) (Z58.b 32 32767) rfl rfl (any_of HT_.out (by kernel_rfl)) (fun _ _ _ h => h) (Or.inr ⟨(by rfl), rfl⟩) ?_ ?_
 rotate_left
 ·exact Z58.z0
 refine pure_ (i := 15) (N := some 18) (v := undef) (a' := ?_) (Z58.b 32 65535) rfl rfl (any_of HT_.out (by kernel_rfl)) (fun _ _ _ h => h) (Or.inr ⟨(by rfl), rfl⟩) ?_ ?_
 rotate_left
 ·exact Z58.z0
 refine pure_ (i := 16) (N := some 19) (v := undef) (a' := ?_) (Z58.b 32 131071) rfl rfl (any_of HT_.out (by kernel_rfl)) (fun _ _ _ h => h) (Or.inr ⟨(by rfl), rfl⟩) ?_ ?_
 rotate_left
 ·exact Z58.z0
 refine pure_ (i := 17) (N := some 20) (v := undef) (a' := ?_) (Z58.b 32 262143) rfl rfl (any_of HT_.out (by kernel_rfl)) (fun _ _ _ h => h) (Or.inr ⟨(by rfl), rfl⟩) ?_ ?_
 rotate_left
 ·exact Z58.z0
 refine pure_ (i := 18) (N := some 21) (v := undef) (a' := ?_) (Z58.b 32 524287) rfl rfl (any_of HT_.out (by kernel_rfl)) (fun _ _ _ h => h) (Or.inr ⟨(by rfl), rfl⟩) ?_ ?_
 rotate_left
 ·exact Z58.z0
 refine pure_ (i := 19) (N := some 22) (v := undef) (a' := ?_) (Z58.b 32 1048575) rfl rfl (any_of HT_.out (by kernel_rfl)) (fun _ _ _ h => h) (Or.inr ⟨(by rfl), rfl⟩) ?_ ?_
 rotate_left
 ·exact Z58.z0
 refine pure_ (i := 20) (N := some 23) (v := undef) (a' := ?_) (Z58.b 32 2097151) rfl rfl (any_of HT_.out (by kernel_rfl)) (fun _ _ _ h => h) (Or.inr ⟨(by rfl), rfl⟩) ?_ ?_
 rotate_left
 ·exact Z58.z0
 refine pure_ (i := 21) (N := some 24) (v := undef) (a' := ?_) (Z58.b 32 4194303) rfl rfl (any_of HT_.out (by kernel_rfl)) (fun _ _ _ h => h) (Or.inr ⟨(by rfl), rfl⟩) ?_ ?_
 rotate_left
 ·exact Z58.z0
 refine pure_ (i := 22) (N := some 25) (v := undef) (a' := ?_) (Z58.b 32 8388607) rfl rfl (any_of HT_.out (by kernel_rfl)) (fun _ _ _ h => h) (Or.inr ⟨(by rfl), rfl⟩) ?_ ?_
 rotate_left
 ·exact Z58.z0
 refine Z58.pP 23 26 (Z58.b 32 16777215) (any_of HT_.out (by kernel_rfl)) ?_
 refine Z58.pP 24 27 (Z58.b 32 33554431) (any_of HT_.out (by kernel_rfl)) ?_
 refine pure_ (i := 25) (N := some 28) (v := undef) (a' := ?_) (Z58.b 32 67108863) rfl rfl (any_of HT_.out (by kernel_rfl)) (fun _ _ _ h => h) (Or.inr ⟨(by rfl), rfl⟩) ?_ ?_
 rotate_left
 ·exact Z58.z0
 refine pure_ (i := 26) (N := some 29) (v := undef) (a' := ?_) (Z58.b 32 134217727) rfl rfl (any_of HT_.out (by kernel_rfl)) (fun _ _ _ h => h) (Or.inr ⟨(by rfl), rfl⟩) ?_ ?_
 rotate_left
 ·exact Z58.z0
 refine pure_ (i := 27) (N := some 30) (v := undef) (a' := ?_) (Z58.b 32 268435455) rfl rfl (any_of HT_.out (by kernel_rfl)) (fun _ _ _ h => h) (Or.inr ⟨(by rfl), rfl⟩) ?_ ?_
 rotate_left
 ·exact Z58.z0
 refine pure_ (i := 28) (N := some 31) (v := undef) (a' := ?_) (Z58.b 32 536870911) rfl rfl (any_of HT_.out (by kernel_rfl)) (fun _ _ _ h => h) (Or.inr ⟨(by rfl), rfl⟩) ?_ ?_
 rotate_left
 ·exact Z58.z0
 refine pure_ (i := 29) (N := some 32) (v := undef) (a' := ?_) (Z58.b 32 1073741823) rfl rfl (any_of HT_.out (by kernel_rfl)) (fun _ _ _ h => h) (Or.inr ⟨(by rfl), rfl⟩) ?_ ?_
 rotate_left
 ·exact Z58.z0
 refine Z58.pP 30 33 (Z58.b 32 2147483647) (any_of HT_.out (by kernel_rfl)) ?_
 refine Z58.pP 31 2 (Z58.b 32 4294967295) (any_of HT_.out (by kernel_rfl)) ?_
 refine done_ (done_of HT_.out (by kernel_rfl)) ?_
 try go_wp2
 go_ret
 exact ⟨Z58.z6, Z58.z4⟩
end Go.Proofs.Ytmbbjmkcbpefhaa.F
end
