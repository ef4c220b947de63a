-- Texts of this claim, merged by packw.py (a program of this session's).
import Derived.Test.YtmbbjmkcbpefhaaQFnExactSolve1
import Derived.Test.YtmbbjmkcbpefhaaQFnExactSolve2
import Derived.Test.YtmbbjmkcbpefhaaQFnExactSolve3
import Derived.Test.YtmbbjmkcbpefhaaQFnExactSolve4

section
namespace Go.Proofs.Ytmbbjmkcbpefhaa.F
open Go.RowKit Go.Proofs.YtmbbjmkcbpefhaaW.PrintWords Go.Proofs.YtmbbjmkcbpefhaaW.PrintLast Go.Proofs.YtmbbjmkcbpefhaaW.PrintMore
attribute [local go_sem] max2_int min2_int max_two min_two max_three min_three max_four min_four   -- for this text's walks alone
set_option linter.unusedVariables false
set_option linter.unusedSimpArgs false
/-! ### spec_l03Solve: function 33 -/
def spec_l03Solve.l0 : Nat → List Int → List Int → Int → Int → Int → Int → List Int → Int → Int → Int → List Int → Int → Int → Int → List Int → Option (List Int × Bool)
  | 0, _, _, _, _, _, _, _, _, _, _, _, _, _, _, _ => none
  | k + 1, x9, x11, x12, x102000, x102001, x102002, x102003, x110000, x110001, x110002, x110003, x121000, x121001, x121002, x121003 => if x12 < (x9.length : Int) then (if 0 ≤ x12 then (if (rd x9 x12) = x102002 then (some (([] : List Int), false)) else (if 0 ≤ (wrap64 ((wrap64 (x12 * x110002)) + x102002)) then (if (wrap64 ((wrap64 (x12 * x110002)) + x102002)) < (x121003.length : Int) then (if 0 ≤ (rd x9 x12) then (if (rd x9 x12) < (x11.length : Int) then (spec_l03Solve.l0 k x9 (x11.set ((rd x9 x12) : Int).toNat (rd x121003 (wrap64 ((wrap64 (x12 * x110002)) + x102002)))) (wrap64 (x12 + 1)) x102000 x102001 x102002 x102003 x110000 x110001 x110002 x110003 x121000 x121001 x121002 x121003) else (none)) else (none)) else (none)) else (none))) else (none)) else (some (x11, true))
def spec_l03Solve.f (k : Nat) (a0_0 : Int) (a0_1 : Int) (a0_2 : Int) (l0_3 : List Int) (l1 : List Int) : Option (List Int × Bool) := (spec_l03Join.f k a0_0 a0_1 a0_2 l0_3 a0_0 a0_1 1 l1).bind fun bt103 => ((spec_l03Reduced.f k bt103.1 bt103.2.1 bt103.2.2.1 bt103.2.2.2).bind fun bt110 => (if 0 ≤ a0_2 then (if (a0_2 : Int).toNat ≤ 35184372088832 then (spec_l03Solve.l0 k bt110.2.2.2.2.1 (List.replicate (a0_2 : Int).toNat 0) 0 a0_0 a0_1 a0_2 l0_3 bt103.1 bt103.2.1 bt103.2.2.1 bt103.2.2.2 bt110.1 bt110.2.1 bt110.2.2.1 bt110.2.2.2.1) else (none)) else (none)))
def spec_l03Solve.T1 : Bool × List (List Nat × List Nat) := (true, [([], []), ([0], [0]), ([1], [1]), ([2], [2]), ([], []), ([4], [4]), ([5], [5]), ([6], [6]), ([], []), ([3, 7, 8], [3, 7, 8]), ([], []), ([10, 9, 0, 1, 2, 3, 4, 5, 6, 7, 8, 9, 10], [9, 10])])
def spec_l03Solve.B1 : List Nat := [0, 1, 3, 7, 0, 16, 48, 112, 0, 511, 0, 2047]
theorem spec_l03Solve.tab1 : rtab .any (opsOf Try.f33 1) = spec_l03Solve.T1 := by kernel_rfl
theorem spec_l03Solve.bits1 : waitsOk spec_l03Solve.T1.2 spec_l03Solve.B1 = true := by kernel_rfl
def spec_l03Solve.T8 : Bool × List (List Nat × List Nat) := (true, [([], []), ([], []), ([0, 1], [0, 1]), ([2], [2]), ([], []), ([4], [4]), ([5], [5]), ([6], [6]), ([3, 7], [3, 7])])
def spec_l03Solve.B8 : List Nat := [0, 0, 3, 7, 0, 16, 48, 112, 255]
theorem spec_l03Solve.tab8 : rtab .any (opsOf Try.f33 8) = spec_l03Solve.T8 := by kernel_rfl
theorem spec_l03Solve.bits8 : waitsOk spec_l03Solve.T8.2 spec_l03Solve.B8 = true := by kernel_rfl
def spec_l03Solve.T10 : Bool × List (List Nat × List Nat) := (true, [([], []), ([], []), ([], []), ([1, 2], [1, 2]), ([3], [3]), ([], []), ([5], [5]), ([], []), ([], []), ([8], [8]), ([7, 9], [7, 9]), ([], []), ([11], [11]), ([12], [12]), ([13], [13]), ([10, 14], [10, 14]), ([6, 15], [6, 15]), ([16], [16]), ([0, 4, 0, 1, 2, 3, 4, 5, 6, 7, 8, 9, 10, 11, 12, 13, 14, 15, 16, 17], [0, 4]), ([18, 17, 0, 1, 2, 3, 4, 5, 6, 7, 8, 9, 10, 11, 12, 13, 14, 15, 16, 17], [17, 18])])
def spec_l03Solve.B10 : List Nat := [0, 0, 0, 6, 14, 0, 32, 0, 0, 256, 896, 0, 2048, 6144, 14336, 32640, 65504, 131040, 262143, 524287]
theorem spec_l03Solve.tab10 : rtab .any (opsOf Try.f33 10) = spec_l03Solve.T10 := by kernel_rfl
theorem spec_l03Solve.bits10 : waitsOk spec_l03Solve.T10.2 spec_l03Solve.B10 = true := by kernel_rfl
def Z33.b (n x : Nat) : Array Bool := ((List.range n).map (fun i => x.testBit i)).toArray
theorem Z33.pP {P : Program} {ops : Array Oper} {Q : Exit → Act → World → Prop} {md : Region.Mode} {S : World → Prop} {ds : List Nat} (i N : Nat) {oi : Oper} {v : Value} {fuel : Nat} {l : Array Bool} {a : Act} {w : World} (l' : Array Bool) (hc : anyB md ops l l' i = true) {a' : Act} (h : wpAnyLast P md ops Q S ds fuel l' a' w) (hi : ops[i]? = some oi := by rfl) (hN : oi.dst = some N := by rfl) (hQ : ∀ c a w, Q (.panic c) (a.put oi.dst v) w → Q (.panic c) a w := by exact fun _ _ _ h => h) (hy : Yields P ops oi v a := by exact Or.inl ⟨(by rfl), by intro w'; go_simp; with_reducible rfl⟩) (ha : a.put (some N) v = a' := by simp only [Act.put, List.setIfInBounds_toArray, List.set_cons_zero, List.set_cons_succ, i64_w, i32_w]; rfl) : wpAnyLast P md ops Q S ds (fuel + 1) l a w := pure_ l' hi hN hc hQ hy ha h
theorem Z33.pT4 {P : Program} {ops : Array Oper} {Q : Exit → Act → World → Prop} {md : Region.Mode} {S : World → Prop} {ds : List Nat} (i N : Nat) {oi : Oper} {v : Value} {fuel : Nat} {l : Array Bool} {a : Act} {w : World} (l' : Array Bool) (hc : takeB md ops ds l l' i = true) (hS : S w) {a' : Act} (h : wpAnyLast P md ops Q S ds fuel l' a' w) (hi : ops[i]? = some oi := by rfl) (hN : oi.dst = some N := by rfl) (hQ : ∀ c a w, Q (.panic c) (a.put oi.dst v) w → Q (.panic c) a w := by exact fun _ _ _ h => h) (hy : YieldsIf P ops S oi v a := by exact Or.inl ⟨(by rfl), by rintro w' ⟨s0, s1, s2, s3⟩; go_simp; with_reducible rfl⟩) (ha : a.put (some N) v = a' := by simp only [Act.put, List.setIfInBounds_toArray, List.set_cons_zero, List.set_cons_succ, i64_w, i32_w]; rfl) : wpAnyLast P md ops Q S ds (fuel + 1) l a w := take_ l' hi hN hc hQ hy hS ha h
theorem Z33.pT5 {P : Program} {ops : Array Oper} {Q : Exit → Act → World → Prop} {md : Region.Mode} {S : World → Prop} {ds : List Nat} (i N : Nat) {oi : Oper} {v : Value} {fuel : Nat} {l : Array Bool} {a : Act} {w : World} (l' : Array Bool) (hc : takeB md ops ds l l' i = true) (hS : S w) {a' : Act} (h : wpAnyLast P md ops Q S ds fuel l' a' w) (hi : ops[i]? = some oi := by rfl) (hN : oi.dst = some N := by rfl) (hQ : ∀ c a w, Q (.panic c) (a.put oi.dst v) w → Q (.panic c) a w := by exact fun _ _ _ h => h) (hy : YieldsIf P ops S oi v a := by exact Or.inl ⟨(by rfl), by rintro w' ⟨s0, s1, s2, s3, s4⟩; go_simp; with_reducible rfl⟩) (ha : a.put (some N) v = a' := by simp only [Act.put, List.setIfInBounds_toArray, List.set_cons_zero, List.set_cons_succ, i64_w, i32_w]; rfl) : wpAnyLast P md ops Q S ds (fuel + 1) l a w := take_ l' hi hN hc hQ hy hS ha h
theorem Z33.pT14 {P : Program} {ops : Array Oper} {Q : Exit → Act → World → Prop} {md : Region.Mode} {S : World → Prop} {ds : List Nat} (i N : Nat) {oi : Oper} {v : Value} {fuel : Nat} {l : Array Bool} {a : Act} {w : World} (l' : Array Bool) (hc : takeB md ops ds l l' i = true) (hS : S w) {a' : Act} (h : wpAnyLast P md ops Q S ds fuel l' a' w) (hi : ops[i]? = some oi := by rfl) (hN : oi.dst = some N := by rfl) (hQ : ∀ c a w, Q (.panic c) (a.put oi.dst v) w → Q (.panic c) a w := by exact fun _ _ _ h => h) (hy : YieldsIf P ops S oi v a := by exact Or.inl ⟨(by rfl), by rintro w' ⟨s0, s1, s2, s3, s4, s5, s6, s7, s8, s9, s10, s11, s12, s13⟩; go_simp; with_reducible rfl⟩) (ha : a.put (some N) v = a' := by simp only [Act.put, List.setIfInBounds_toArray, List.set_cons_zero, List.set_cons_succ, i64_w, i32_w]; rfl) : wpAnyLast P md ops Q S ds (fuel + 1) l a w := take_ l' hi hN hc hQ hy hS ha h
theorem Z33.bb {w0 w w1 : World} {g : Nat} {o : Obj} (_B : Aside0 (w0.heap[g]? = some o)) (h : w.heap[g]? = some o) (hb : Below w.heap.size w w1) : w1.heap[g]? = some o := blk_below h hb
theorem Z33.bl {w0 w : World} {g : Nat} {o : Obj} (_B : Aside0 (w0.heap[g]? = some o)) (h : w.heap[g]? = some o) : g < w.heap.size := blk_lt h
theorem Z33.k {p : Prop} (h : p) : Aside0 p := ⟨h⟩
theorem Z33.z17 {P : Prop} (h : P := by (try simp only [List.map_toArray, List.map_cons, List.map_nil]); first | done | rfl | (simp only [List.length_drop, List.length_take]; rfl)) : P := h
theorem Z33.z16 {P : Prop} (h : P := by exact ⟨(blk_cell BK101.out 0).trans rfl, (blk_cell BK101.out 1).trans rfl, (blk_cell BK101.out 2).trans rfl, (blk_cell BK101.out 3).trans rfl⟩) : P := h
theorem Z33.z15 {P : Prop} (h : P := by (repeat (first | (with_reducible first | refine blk_drewN ?_ _ | refine blk_drew ?_ | refine blk_alloc ?_ _) | refine blk_far ?_ NB101_102.out _)); exact BK101.out) : P := h
theorem Z33.z14 {P : Prop} (h : P := by repeat (first | (with_reducible first | exact HB.out | apply below_alloc | apply pw_below_drewN | apply below_drew1 | refine below_set ?_ GE101.out) | exact HB.out)) : P := h
theorem Z33.z13 {P : Prop} (h : P := by (with_reducible repeat (first | refine blk_drewN ?_ _ | refine blk_drew ?_ | refine blk_alloc ?_ _)); exact BK109.out) : P := h
theorem Z33.z12 {P : Prop} (h : P := by first | (with_reducible assumption) | assumption) : P := h
theorem Z33.z11 {P : Prop} (h : P := by (with_reducible repeat (first | apply Kd.R_alloc | apply Kd.R_drewN | apply Kd.R_drew)); exact (Kd.R_mono (Kd.R_far (p := ⟨gb120, 3, none⟩) (Kd.R_far (p := ⟨gb120, 2, none⟩) (Kd.R_far (p := ⟨gb120, 1, none⟩) (Kd.R_far (p := ⟨gb120, 0, none⟩) (Kd.R_types HO108.out BK120.out (by decide)) (fun _ hk => hk.2) (.int .i64 t110)) (fun _ hk => hk.2) (.int .i64 t111)) (fun _ hk => hk.2) (.int .i64 t112)) (fun _ hk => hk.2) (.slice Ao26 t113.length co26)) (fun _ h_ => h_.1))) : P := h
theorem Z33.z10 {P : Prop} (h : P := by (with_reducible repeat (first | apply Kd.R_alloc | apply Kd.R_drewN | apply Kd.R_drew)); exact (Kd.R_mono (Kd.R_far (p := ⟨gb120, 3, none⟩) (Kd.R_far (p := ⟨gb120, 2, none⟩) (Kd.R_far (p := ⟨gb120, 1, none⟩) (Kd.R_far (p := ⟨gb120, 0, none⟩) (Kd.R_types HO115.out BK120.out (by decide)) (fun _ hk => hk.2) (.int .i64 t110)) (fun _ hk => hk.2) (.int .i64 t111)) (fun _ hk => hk.2) (.int .i64 t112)) (fun _ hk => hk.2) (.slice Ao26 t113.length co26)) (fun _ h_ => h_.1))) : P := h
theorem Z33.z9 {P : Prop} (h : P := by (with_reducible repeat (first | apply Kd.R_alloc | apply Kd.R_drewN | apply Kd.R_drew)); exact (Kd.R_mono (Kd.R_far (p := ⟨gb120, 3, none⟩) (Kd.R_far (p := ⟨gb120, 2, none⟩) (Kd.R_far (p := ⟨gb120, 1, none⟩) (Kd.R_far (p := ⟨gb120, 0, none⟩) (Kd.R_types HO118.out BK120.out (by decide)) (fun _ hk => hk.2) (.int .i64 t110)) (fun _ hk => hk.2) (.int .i64 t111)) (fun _ hk => hk.2) (.int .i64 t112)) (fun _ hk => hk.2) (.slice Ao26 t113.length co26)) (fun _ h_ => h_.1))) : P := h
theorem Z33.z8 {P : Prop} (h : P := by (with_reducible repeat (first | refine blk_drewN ?_ _ | refine blk_drew ?_ | refine blk_alloc ?_ _)); exact BK102.out) : P := h
theorem Z33.z7 {P : Prop} (h : P := by (with_reducible repeat (first | refine blk_drewN ?_ _ | refine blk_drew ?_ | refine blk_alloc ?_ _)); refine blk_put (cs := #[.int .i64 a0_0, .int .i64 a0_1, .int .i64 1, .slice none 0 0]) ?_ 3 _ rfl; (with_reducible repeat (first | refine blk_drewN ?_ _ | refine blk_drew ?_ | refine blk_alloc ?_ _)); refine blk_put (cs := #[.int .i64 a0_0, .int .i64 a0_1, .int .i64 0, .slice none 0 0]) ?_ 2 _ rfl; (with_reducible repeat (first | refine blk_drewN ?_ _ | refine blk_drew ?_ | refine blk_alloc ?_ _)); refine blk_put (cs := #[.int .i64 a0_0, .int .i64 0, .int .i64 0, .slice none 0 0]) ?_ 1 _ rfl; (with_reducible repeat (first | refine blk_drewN ?_ _ | refine blk_drew ?_ | refine blk_alloc ?_ _)); refine blk_put (cs := #[.int .i64 0, .int .i64 0, .int .i64 0, .slice none 0 0]) ?_ 0 _ rfl; (with_reducible repeat (first | refine blk_drewN ?_ _ | refine blk_drew ?_ | refine blk_alloc ?_ _)); exact BK102.out) : P := h
theorem Z33.z6 {P : Prop} (h : P := by (with_reducible repeat (first | refine blk_drewN ?_ _ | refine blk_drew ?_ | refine blk_alloc ?_ _)); refine blk_put (cs := #[.int .i64 t103, .int .i64 t104, .int .i64 t105, .slice none 0 0]) ?_ 3 _ rfl; (with_reducible repeat (first | refine blk_drewN ?_ _ | refine blk_drew ?_ | refine blk_alloc ?_ _)); refine blk_put (cs := #[.int .i64 t103, .int .i64 t104, .int .i64 0, .slice none 0 0]) ?_ 2 _ rfl; (with_reducible repeat (first | refine blk_drewN ?_ _ | refine blk_drew ?_ | refine blk_alloc ?_ _)); refine blk_put (cs := #[.int .i64 t103, .int .i64 0, .int .i64 0, .slice none 0 0]) ?_ 1 _ rfl; (with_reducible repeat (first | refine blk_drewN ?_ _ | refine blk_drew ?_ | refine blk_alloc ?_ _)); refine blk_put (cs := #[.int .i64 0, .int .i64 0, .int .i64 0, .slice none 0 0]) ?_ 0 _ rfl; (with_reducible repeat (first | refine blk_drewN ?_ _ | refine blk_drew ?_ | refine blk_alloc ?_ _)); exact BK109.out) : P := h
theorem Z33.z5 {P : Prop} (h : P := by (with_reducible repeat (first | refine blk_drewN ?_ _ | refine blk_drew ?_ | refine blk_alloc ?_ _)); exact BK101.out) : P := h
theorem Z33.z4 {P : Prop} (h : P := by repeat (first | (with_reducible first | exact HB.out | apply below_alloc | apply pw_below_drewN | apply below_drew1 | refine below_set ?_ GE101.out | refine below_set ?_ GE102.out | refine below_set ?_ GE109.out | refine below_set ?_ GE120.out) | exact HB.out)) : P := h
theorem Z33.z3 {P : Prop} (h : P := by repeat (first | (with_reducible first | exact HB.out | apply below_alloc | apply pw_below_drewN | apply below_drew1 | refine below_set ?_ GE101.out | refine below_set ?_ GE102.out | refine below_set ?_ GE109.out) | exact HB.out)) : P := h
theorem Z33.z2 {P : Prop} (h : P := by repeat (first | (with_reducible first | exact HB.out | apply below_alloc | apply pw_below_drewN | apply below_drew1 | refine below_set ?_ GE101.out | refine below_set ?_ GE102.out) | exact HB.out)) : P := h
theorem Z33.z1 {P : Prop} (h : P := by (with_reducible repeat (first | apply Kd.R_alloc | apply Kd.R_drewN | apply Kd.R_drew)); exact (Kd.R_mono (Kd.R_far (p := ⟨gb109, 3, none⟩) (Kd.R_far (p := ⟨gb109, 2, none⟩) (Kd.R_far (p := ⟨gb109, 1, none⟩) (Kd.R_far (p := ⟨gb109, 0, none⟩) (Kd.R_types HO108.out BK109.out (by decide)) (fun _ hk => hk.2) (.int .i64 t103)) (fun _ hk => hk.2) (.int .i64 t104)) (fun _ hk => hk.2) (.int .i64 t105)) (fun _ hk => hk.2) (.slice Ao19 t106.length co19)) (fun _ h_ => h_.1))) : P := h
theorem Z33.z0 {P : Prop} (h : P := by simp only [Act.put, List.setIfInBounds_toArray, List.set_cons_zero, List.set_cons_succ, i64_w, i32_w]; rfl) : P := h
set_option maxHeartbeats 8000000 in
set_option maxRecDepth 100000 in
theorem spec_l03Solve.calls (k : Nat) (a0_0 : Int) (a0_1 : Int) (a0_2 : Int) (A0_3 : Option Addr) (c0_3 : Nat) (l0_3 : List Int) (A1 : Option Addr) (c1 : Nat) (l1 : List Int) (r1 : List Int) (r2 : Bool) (w : World) (hr0_3 : Kd.C (Kd.int .i64) w A0_3 l0_3.length l0_3) (hc0_3 : l0_3.length ≤ c0_3) (hr1 : Kd.C (Kd.int .i64) w A1 l1.length l1) (hc1 : l1.length ≤ c1) {g0_ : Nat} (hbk0_ : w.heap[g0_]? = some (.cells #[.int .i64 a0_0, .int .i64 a0_1, .int .i64 a0_2, .slice A0_3 l0_3.length c0_3] 28 (0, 0))) (h : spec_l03Solve.f k a0_0 a0_1 a0_2 l0_3 l1 = some (r1, r2)) :
  Calls Try.prog 33 #[.pointer (some ⟨g0_, 0, none⟩), .slice A1 l1.length c1] w fun e w' => ∃ v0_ : Value, e = .returned (.tuple #[v0_, .bool r2]) ∧ Kd.R (Kd.int .i64) 2 w' w.heap.size (fun _ => True) v0_ r1 ∧ Below w.heap.size w w' := by
 have hu28 := Try.underlying28
 have HR0_3 := Z33.k hr0_3
 have HC0_3 := Z33.k hc0_3
 clear hr0_3 hc0_3
 have HR1 := Z33.k hr1
 have HC1 := Z33.k hc1
 clear hr1 hc1
 have HB := Z33.k (Below.refl w.heap.size w)
 have H : ((spec_l03Join.f k a0_0 a0_1 a0_2 l0_3 a0_0 a0_1 1 l1).bind fun bt103 => ((spec_l03Reduced.f k bt103.1 bt103.2.1 bt103.2.2.1 bt103.2.2.2).bind fun bt110 => (if 0 ≤ a0_2 then (if (a0_2 : Int).toNat ≤ 35184372088832 then (spec_l03Solve.l0 k bt110.2.2.2.2.1 (List.replicate (a0_2 : Int).toNat 0) 0 a0_0 a0_1 a0_2 l0_3 bt103.1 bt103.2.1 bt103.2.2.1 bt103.2.2.2 bt110.1 bt110.2.1 bt110.2.2.1 bt110.2.2.2.1) else (none)) else (none)))) = some (r1, r2) := h
 clear h
 replace H := Option.bind_eq_some_iff.mp H
 obtain ⟨⟨t103, t104, t105, t106⟩, A30, H⟩ := H
 replace H : ((spec_l03Reduced.f k t103 t104 t105 t106).bind fun bt110 => (if 0 ≤ a0_2 then (if (a0_2 : Int).toNat ≤ 35184372088832 then (spec_l03Solve.l0 k bt110.2.2.2.2.1 (List.replicate (a0_2 : Int).toNat 0) 0 a0_0 a0_1 a0_2 l0_3 t103 t104 t105 t106 bt110.1 bt110.2.1 bt110.2.2.1 bt110.2.2.2.1) else (none)) else (none))) = some (r1, r2) := H
 have A3 := Z33.k A30
 clear A30
 replace H := Option.bind_eq_some_iff.mp H
 obtain ⟨⟨t110, t111, t112, t113, t116, t119⟩, A40, H⟩ := H
 (try dsimp only at H)
 have A4 := Z33.k A40
 clear A40
 by_cases c5 : 0 ≤ a0_2
 ·rw [if_pos c5] at H
  have c5b0 := eq_true c5
  have c5b1 : decide (0 ≤ a0_2) = true := decide_eq_true c5
  clear c5
  by_cases c6 : (a0_2 : Int).toNat ≤ 35184372088832
  ·rw [if_pos c6] at H
   have c6b0 := eq_true c6
   have c6b1 : decide ((a0_2 : Int).toNat ≤ 35184372088832) = true := decide_eq_true c6
   clear c6
   obtain ⟨y121, hy121⟩ : ∃ y_ : List Int, y_ = (List.replicate (a0_2 : Int).toNat 0) := ⟨_, rfl⟩
   replace H : (spec_l03Solve.l0 k t116 y121 0 a0_0 a0_1 a0_2 l0_3 t103 t104 t105 t106 t110 t111 t112 t113) = some (r1, r2) := by first | (rw [hy121]; with_reducible exact H) | (have H2_ := (Option.bind_some _ _).symm.trans H; rw [hy121]; with_reducible exact H2_) | (have H2_ := (Option.bind_some _ _).symm.trans H; with_reducible exact H2_) | with_reducible exact H | (rw [hy121]; exact H) | exact H
   have Ny121 := Z33.k hy121
   clear hy121
   have H' := Z33.k H
   clear H
   go_enter Try.func33, Try.ntmps33
   have BK101 := Z33.k hbk0_
   try go_wp2_with (first | fail)
   replace BK101 := Z33.k (blk_drew BK101.out)
   replace HB := Z33.k (below_drew1 HB.out)
   refine start_ (n := 12) (S := fun w' => w'.cell? ⟨g0_, 0, none⟩ = some (.int .i64 a0_0) ∧ w'.cell? ⟨g0_, 1, none⟩ = some (.int .i64 a0_1) ∧ w'.cell? ⟨g0_, 2, none⟩ = some (.int .i64 a0_2) ∧ w'.cell? ⟨g0_, 3, none⟩ = some (.slice A0_3 l0_3.length c0_3)) (ds := []) #[false, false, false, false, false, false, false, false, false, false, false, false] (by kernel_rfl) rfl rfl Z33.z16 (fun hHeld => ?_); refine with_tabW spec_l03Solve.tab1 spec_l03Solve.bits1 (fun HT_ HW_ => ?_)
   generalize w.drew = w8 at BK101 HB hHeld ⊢
   refine Z33.pP 0 13 (Z33.b 12 1) (any_of HT_.out (by kernel_rfl)) ?_
   refine Z33.pP 1 14 (Z33.b 12 3) (any_of HT_.out (by kernel_rfl)) ?_
   refine Z33.pP 2 15 (Z33.b 12 7) (any_of HT_.out (by kernel_rfl)) ?_
   refine Z33.pP 4 17 (Z33.b 12 23) (any_of HT_.out (by kernel_rfl)) ?_
   refine Z33.pP 5 18 (Z33.b 12 55) (any_of HT_.out (by kernel_rfl)) ?_
   refine Z33.pP 6 19 (Z33.b 12 119) (any_of HT_.out (by kernel_rfl)) ?_
   refine Z33.pP 8 21 (Z33.b 12 375) (any_of HT_.out (by kernel_rfl)) ?_
   refine Z33.pT4 3 16 (Z33.b 12 383) (take_ofW HT_.out HW_.out (by kernel_rfl)) hHeld ?_
   refine Z33.pT4 7 20 (Z33.b 12 511) (take_ofW HT_.out HW_.out (by kernel_rfl)) hHeld ?_
   refine Z33.pP 9 22 (Z33.b 12 1023) (any_of HT_.out (by kernel_rfl)) ?_
   refine one_ (i := 10) (N := some 6) (Z33.b 12 2047) rfl rfl (one_of HT_.out (by kernel_rfl)) (by decide) (fun K hK => ?_)
   refine box_step ?hg (N := 6) ?hd (cs := #[.int .i64 0, .int .i64 0, .int .i64 0, .slice none 0 0]) (t := 28) ?hr ?_; (case hd => rfl); (case hg => rfl); (case hr => first | (go_simp; done) | (go_simp; rfl))
   intro gb102 hg w9 hbox hb
   have n0_ := Z33.k (Z33.bb BK101 Z33.z5 hb)
   have n1_ := Z33.k (below_step Z33.z14 hb)
   have n2_ := Z33.k (hbox)
   have n3_ := Z33.k (show w.heap.size ≤ gb102 from (by rw [hg]; exact (below_size Z33.z14)))
   have n4_ := Z33.k (show w.heap.size ≤ gb102 from (by rw [hg]; exact (below_size Z33.z14)))
   have n5_ := Z33.k (show g0_ ≠ gb102 from (by rw [hg]; exact Nat.ne_of_lt (Z33.bl BK101 Z33.z5)))
   have n6_ := Z33.k (show gb102 ≠ g0_ from (by rw [hg]; exact Nat.ne_of_gt (Z33.bl BK101 Z33.z5)))
   clear BK101 HB
   have BK101 := n0_
   have HB := n1_
   have BK102 := n2_
   have GW102 := n3_
   have GE102 := n4_
   have NB101_102 := n5_
   have NB102_101 := n6_
   clear n0_ n1_ n2_ n3_ n4_ n5_ n6_ hb hbox hg
   refine hK.out _ _ Z33.z16 (fun hHeld => ?_)
   clear hK K
   refine norm_ (a' := ?_) ?_ ?_
   rotate_left
   ·show Act.put _ (some 6) _ = _
    simp only [Act.put, List.setIfInBounds_toArray, List.set_cons_zero, List.set_cons_succ, i64_w, i32_w]
    rfl
   refine one_ (i := 11) (N := none) (Z33.b 12 4095) rfl rfl (one_of HT_.out (by kernel_rfl)) (by decide) (fun K hK => ?_)
   have hs10 : w9.cell? ⟨gb102, 0, none⟩ = some (.int .i64 0) := (blk_cell BK102.out 0).trans rfl
   have hfs10 := blk_frozen BK102.out 0
   have hns10_0 := NB101_102.out
   have hms10_0 := NB102_101.out
   have hs11 : w9.cell? ⟨gb102, 1, none⟩ = some (.int .i64 0) := (blk_cell BK102.out 1).trans rfl
   have hfs11 := blk_frozen BK102.out 1
   have hns11_0 := NB101_102.out
   have hms11_0 := NB102_101.out
   have hs12 : w9.cell? ⟨gb102, 2, none⟩ = some (.int .i64 0) := (blk_cell BK102.out 2).trans rfl
   have hfs12 := blk_frozen BK102.out 2
   have hns12_0 := NB101_102.out
   have hms12_0 := NB102_101.out
   have hs13 : w9.cell? ⟨gb102, 3, none⟩ = some (.slice none 0 0) := (blk_cell BK102.out 3).trans rfl
   have hfs13 := blk_frozen BK102.out 3
   have hns13_0 := NB101_102.out
   have hms13_0 := NB102_101.out
   refine skip_ (w1 := ?_) (by rfl) rfl ?_ ?_
   rotate_left
   ·go_simp
    rfl
   refine hK.out _ _ ⟨((cell_far (p := ⟨gb102, _, none⟩) NB101_102.out _).trans (((cell_far (p := ⟨gb102, _, none⟩) NB101_102.out _).trans (((cell_far (p := ⟨gb102, _, none⟩) NB101_102.out _).trans (((cell_far (p := ⟨gb102, _, none⟩) NB101_102.out _).trans (hHeld.1)))))))), ((cell_far (p := ⟨gb102, _, none⟩) NB101_102.out _).trans (((cell_far (p := ⟨gb102, _, none⟩) NB101_102.out _).trans (((cell_far (p := ⟨gb102, _, none⟩) NB101_102.out _).trans (((cell_far (p := ⟨gb102, _, none⟩) NB101_102.out _).trans (hHeld.2.1)))))))), ((cell_far (p := ⟨gb102, _, none⟩) NB101_102.out _).trans (((cell_far (p := ⟨gb102, _, none⟩) NB101_102.out _).trans (((cell_far (p := ⟨gb102, _, none⟩) NB101_102.out _).trans (((cell_far (p := ⟨gb102, _, none⟩) NB101_102.out _).trans (hHeld.2.2.1)))))))), ((cell_far (p := ⟨gb102, _, none⟩) NB101_102.out _).trans (((cell_far (p := ⟨gb102, _, none⟩) NB101_102.out _).trans (((cell_far (p := ⟨gb102, _, none⟩) NB101_102.out _).trans (((cell_far (p := ⟨gb102, _, none⟩) NB101_102.out _).trans (hHeld.2.2.2))))))))⟩ (fun hHeld => ?_)
   clear hK K
   refine done_ (done_of HT_.out (by kernel_rfl)) ?_
   try go_wp2_with (first | ((with_reducible refine gate_callee (f := 56) rfl ?_); refine goesL_ (some 24) rfl rfl Try.func56 (by kernel_rfl) rfl #[.pointer (some ⟨g0_, 0, none⟩), .pointer (some ⟨gb102, 0, none⟩)] rfl Z33.z17 ?_; (with_reducible refine (spec_l03Join.calls k a0_0 a0_1 a0_2 A0_3 c0_3 l0_3 a0_0 a0_1 1 A1 c1 l1 t103 t104 t105 t106 _ ?side1 ?side2 ?side3 ?side4 ?side5 ?side6 A3.out).mono ?_); (case side1 => exact (by exact Kd.C_below HR0_3.out Z33.z2)); (case side2 => exact HC0_3.out); (case side3 => exact (by exact Kd.C_below HR1.out Z33.z2)); (case side4 => exact HC1.out); (case side5 => exact Z33.z15); (case side6 => exact Z33.z7); rintro e w14 ⟨v107, rfl, ho0, hb⟩; refine ⟨_, rfl, ?_⟩; have HO108 := Z33.k (Kd.R_lower ho0 (below_size Z33.z2)); replace BK101 := Z33.k (Z33.bb BK101 Z33.z15 hb); replace BK102 := Z33.k (blk_below (g := gb102) (o := .cells #[.int .i64 a0_0, .int .i64 a0_1, .int .i64 1, .slice A1 l1.length c1] 28 (0, 0)) Z33.z7 hb); replace HB := Z33.k (below_step Z33.z2 hb); (try clear hb); (try clear hb2); (try clear hk); (try clear hi); (try clear ho0)) | ((with_reducible refine gate_dst (N := 7) rfl ?_); refine box_event ?hg (N := 7) ?hd (cs := #[.int .i64 0, .int .i64 0, .int .i64 0, .slice none 0 0]) (t := 28) ?hr ?_; (case hd => rfl); (case hg => rfl); (case hr => first | (go_simp; done) | (go_simp; rfl)); intro gb109 hg w15 hbox hb; have BK109 := Z33.k (hbox); have GW109 := Z33.k (show w.heap.size ≤ gb109 from (by rw [hg]; exact (below_size Z33.z2))); have GE109 := Z33.k (show w.heap.size ≤ gb109 from (by rw [hg]; exact (below_size Z33.z2))); have NB101_109 := Z33.k (show g0_ ≠ gb109 from (by rw [hg]; exact Nat.ne_of_lt (Z33.bl BK101 Z33.z5))); have NB109_101 := Z33.k (show gb109 ≠ g0_ from (by rw [hg]; exact Nat.ne_of_gt (Z33.bl BK101 Z33.z5))); have NB102_109 := Z33.k (show gb102 ≠ gb109 from (by rw [hg]; exact Nat.ne_of_lt (Z33.bl BK102 Z33.z8))); have NB109_102 := Z33.k (show gb109 ≠ gb102 from (by rw [hg]; exact Nat.ne_of_gt (Z33.bl BK102 Z33.z8))); replace HO108 := Z33.k (Kd.R_below (by (with_reducible repeat (first | apply Kd.R_alloc | apply Kd.R_drewN | apply Kd.R_drew)); exact HO108.out) hb); replace BK101 := Z33.k (Z33.bb BK101 Z33.z5 hb); replace BK102 := Z33.k (Z33.bb BK102 Z33.z8 hb); replace HB := Z33.k (below_step Z33.z2 hb); clear hb hbox hg; have hnb16 := NB109_101.out; have hnc16 := NB101_109.out; have hnb17 := NB109_102.out; have hnc17 := NB102_109.out; obtain ⟨hcz18_0, hcz18_1, hcz18_2, hcz18_3, hfz18_0, hfz18_1, hfz18_2, hfz18_3⟩ := cells4 BK109.out; obtain ⟨Ao19, co19, eo19⟩ := Kd.R_slice HO108.out; subst eo19) | ((with_reducible refine gate_callee (f := 57) rfl ?_); refine goesL_ (some 26) rfl rfl Try.func57 (by kernel_rfl) rfl #[.pointer (some ⟨gb109, 0, none⟩)] rfl Z33.z17 ?_; (with_reducible refine (spec_l03Reduced.calls k t103 t104 t105 Ao19 co19 t106 t110 t111 t112 t113 t116 t119 _ ?side1 ?side2 ?side3 A4.out).mono ?_); (case side1 => exact (by refine (Kd.R_reads' (e := 2) (base := w.heap.size) (ok := fun k_ => True) (n := t106.length) (c := co19) ?_).2.2; exact Z33.z1)); (case side2 => exact (Kd.R_reads' HO108.out).2.1); (case side3 => exact Z33.z6); rintro e w20 ⟨v114, v117, rfl, ho0, ho1, hb⟩; refine ⟨_, rfl, ?_⟩; have HO115 := Z33.k (Kd.R_lower (Kd.R_new' ho0 (Kd.R_lt Z33.z1)) (below_size Z33.z3)); have HO118 := Z33.k (Kd.R_lower (Kd.R_new' ho1 (Kd.R_lt Z33.z1)) (below_size Z33.z3)); replace HO108 := Z33.k (Kd.R_mono (Kd.R_told (Kd.R_told (Kd.R_old Z33.z1 hb) (Kd.R_base ho0)) (Kd.R_base ho1)) (fun _ h_ => h_.1)); replace BK101 := Z33.k (Z33.bb BK101 (by (repeat (first | (with_reducible first | refine blk_drewN ?_ _ | refine blk_drew ?_ | refine blk_alloc ?_ _) | refine blk_far ?_ NB101_109.out _)); exact BK101.out) hb); replace BK102 := Z33.k (Z33.bb BK102 (by (repeat (first | (with_reducible first | refine blk_drewN ?_ _ | refine blk_drew ?_ | refine blk_alloc ?_ _) | refine blk_far ?_ NB102_109.out _)); exact BK102.out) hb); replace BK109 := Z33.k (blk_below (g := gb109) (o := .cells #[.int .i64 t103, .int .i64 t104, .int .i64 t105, .slice Ao19 t106.length co19] 28 (0, 0)) Z33.z6 hb); replace HB := Z33.k (below_step Z33.z3 hb); (try clear hb); (try clear hb2); (try clear hk); (try clear hi); (try clear ho0); (try clear ho1)) | ((with_reducible refine gate_dst (N := 8) rfl ?_); refine box_event ?hg (N := 8) ?hd (cs := #[.int .i64 0, .int .i64 0, .int .i64 0, .slice none 0 0]) (t := 28) ?hr ?_; (case hd => rfl); (case hg => rfl); (case hr => first | (go_simp; done) | (go_simp; rfl)); intro gb120 hg w21 hbox hb; have BK120 := Z33.k (hbox); have GW120 := Z33.k (show w.heap.size ≤ gb120 from (by rw [hg]; exact (below_size Z33.z3))); have GE120 := Z33.k (show w.heap.size ≤ gb120 from (by rw [hg]; exact (below_size Z33.z3))); have NB101_120 := Z33.k (show g0_ ≠ gb120 from (by rw [hg]; exact Nat.ne_of_lt (Z33.bl BK101 Z33.z5))); have NB120_101 := Z33.k (show gb120 ≠ g0_ from (by rw [hg]; exact Nat.ne_of_gt (Z33.bl BK101 Z33.z5))); have NB102_120 := Z33.k (show gb102 ≠ gb120 from (by rw [hg]; exact Nat.ne_of_lt (Z33.bl BK102 Z33.z8))); have NB120_102 := Z33.k (show gb120 ≠ gb102 from (by rw [hg]; exact Nat.ne_of_gt (Z33.bl BK102 Z33.z8))); have NB109_120 := Z33.k (show gb109 ≠ gb120 from (by rw [hg]; exact Nat.ne_of_lt (Z33.bl BK109 Z33.z13))); have NB120_109 := Z33.k (show gb120 ≠ gb109 from (by rw [hg]; exact Nat.ne_of_gt (Z33.bl BK109 Z33.z13))); replace HO108 := Z33.k (Kd.R_below (by (with_reducible repeat (first | apply Kd.R_alloc | apply Kd.R_drewN | apply Kd.R_drew)); exact HO108.out) hb); replace HO115 := Z33.k (Kd.R_below (by (with_reducible repeat (first | apply Kd.R_alloc | apply Kd.R_drewN | apply Kd.R_drew)); exact HO115.out) hb); replace HO118 := Z33.k (Kd.R_below (by (with_reducible repeat (first | apply Kd.R_alloc | apply Kd.R_drewN | apply Kd.R_drew)); exact HO118.out) hb); replace BK101 := Z33.k (Z33.bb BK101 Z33.z5 hb); replace BK102 := Z33.k (Z33.bb BK102 Z33.z8 hb); replace BK109 := Z33.k (Z33.bb BK109 Z33.z13 hb); replace HB := Z33.k (below_step Z33.z3 hb); clear hb hbox hg; have hnb22 := NB120_101.out; have hnc22 := NB101_120.out; have hnb23 := NB120_102.out; have hnc23 := NB102_120.out; have hnb24 := NB120_109.out; have hnc24 := NB109_120.out; obtain ⟨hcz25_0, hcz25_1, hcz25_2, hcz25_3, hfz25_0, hfz25_1, hfz25_2, hfz25_3⟩ := cells4 BK120.out; obtain ⟨Ao26, co26, eo26⟩ := Kd.R_slice HO115.out; subst eo26; have hnb27 := NB101_102.out; have hnc27 := NB102_101.out; obtain ⟨hcz28_0, hcz28_1, hcz28_2, hcz28_3, hfz28_0, hfz28_1, hfz28_2, hfz28_3⟩ := cells4 BK101.out) | ((with_reducible refine gate_dst (N := 34) rfl ?_); refine Kd.R_make (Kd.int .i64) _ 2 rfl (N := 34) rfl 22 _ _ rfl a0_2 rfl rfl Try.underlying22 (.int .i64 0) 8 info2 rfl (by decide) (by omega) 0 (ok := fun _ => True) (okp := fun _ => True) rfl (fun _ hk => hk) trivial (of_decide_eq_true Z33.z12) (Nat.le_trans (Nat.mul_le_mul_right _ (of_decide_eq_true Z33.z12 : a0_2.toNat ≤ 35184372088832)) (by omega)) (Below.refl _ _) (Nat.le_refl _) ?_; intro v122 w29 ho30 hb hg_ hnew_; clear hg_ hnew_; (first | rw [← Ny121.out] at ho30 | (simp only [Int.reduceToNat] at ho30; rw [← Ny121.out] at ho30)); have HO123 := Z33.k (Kd.R_lower (Kd.R_new' (Kd.R_new' (Kd.R_new' ho30 (Kd.R_lt Z33.z11)) (Kd.R_lt Z33.z10)) (Kd.R_lt Z33.z9)) (below_size Z33.z4)); replace HO108 := Z33.k (Kd.R_elder' Z33.z11 (Kd.R_base ho30) hb); replace HO115 := Z33.k (Kd.R_elder' Z33.z10 (Kd.R_base ho30) hb); replace HO118 := Z33.k (Kd.R_elder' Z33.z9 (Kd.R_base ho30) hb); replace BK101 := Z33.k (Z33.bb BK101 (by (repeat (first | (with_reducible first | refine blk_drewN ?_ _ | refine blk_drew ?_ | refine blk_alloc ?_ _) | refine blk_far ?_ NB101_120.out _)); exact BK101.out) hb); replace BK102 := Z33.k (Z33.bb BK102 (by (repeat (first | (with_reducible first | refine blk_drewN ?_ _ | refine blk_drew ?_ | refine blk_alloc ?_ _) | refine blk_far ?_ NB102_120.out _)); exact BK102.out) hb); replace BK109 := Z33.k (Z33.bb BK109 (by (repeat (first | (with_reducible first | refine blk_drewN ?_ _ | refine blk_drew ?_ | refine blk_alloc ?_ _) | refine blk_far ?_ NB109_120.out _)); exact BK109.out) hb); replace BK120 := Z33.k (blk_below (g := gb120) (o := .cells #[.int .i64 t110, .int .i64 t111, .int .i64 t112, .slice Ao26 t113.length co26] 28 (0, 0)) (by (with_reducible repeat (first | refine blk_drewN ?_ _ | refine blk_drew ?_ | refine blk_alloc ?_ _)); refine blk_put (cs := #[.int .i64 t110, .int .i64 t111, .int .i64 t112, .slice none 0 0]) ?_ 3 _ rfl; (with_reducible repeat (first | refine blk_drewN ?_ _ | refine blk_drew ?_ | refine blk_alloc ?_ _)); refine blk_put (cs := #[.int .i64 t110, .int .i64 t111, .int .i64 0, .slice none 0 0]) ?_ 2 _ rfl; (with_reducible repeat (first | refine blk_drewN ?_ _ | refine blk_drew ?_ | refine blk_alloc ?_ _)); refine blk_put (cs := #[.int .i64 t110, .int .i64 0, .int .i64 0, .slice none 0 0]) ?_ 1 _ rfl; (with_reducible repeat (first | refine blk_drewN ?_ _ | refine blk_drew ?_ | refine blk_alloc ?_ _)); refine blk_put (cs := #[.int .i64 0, .int .i64 0, .int .i64 0, .slice none 0 0]) ?_ 0 _ rfl; (with_reducible repeat (first | refine blk_drewN ?_ _ | refine blk_drew ?_ | refine blk_alloc ?_ _)); exact BK120.out) hb); replace HB := Z33.k (below_step Z33.z4 hb); clear hb ho30))
   go_loopg [12] k (fun kq v12 w' => ∃ (x11_1 : List Int) (x12_1 : Int), v12 = .int .i64 x12_1 ∧ Aside0 (spec_l03Solve.l0 kq t116 x11_1 x12_1 a0_0 a0_1 a0_2 l0_3 t103 t104 t105 t106 t110 t111 t112 t113 = some (r1, r2)) ∧ Aside0 (kq ≤ k) ∧ Aside0 (Kd.R (Kd.int .i64) 2 w' w.heap.size (fun k_ => some k_ ≠ (v122 : Value).ownBlock ∧ some k_ ≠ ((.slice Ao19 t106.length co19) : Value).ownBlock ∧ some k_ ≠ ((.slice Ao26 t113.length co26) : Value).ownBlock) v117 t116) ∧ Aside0 (Kd.R (Kd.int .i64) 2 w' w.heap.size (fun k_ => some k_ ≠ (v117 : Value).ownBlock ∧ some k_ ≠ ((.slice Ao19 t106.length co19) : Value).ownBlock ∧ some k_ ≠ ((.slice Ao26 t113.length co26) : Value).ownBlock) v122 x11_1) ∧ Aside0 (Kd.R (Kd.int .i64) 2 w' w.heap.size (fun k_ => some k_ ≠ (v117 : Value).ownBlock ∧ some k_ ≠ (v122 : Value).ownBlock ∧ some k_ ≠ ((.slice Ao26 t113.length co26) : Value).ownBlock) (.slice Ao19 t106.length co19) t106) ∧ Aside0 (Kd.R (Kd.int .i64) 2 w' w.heap.size (fun k_ => some k_ ≠ (v117 : Value).ownBlock ∧ some k_ ≠ (v122 : Value).ownBlock ∧ some k_ ≠ ((.slice Ao19 t106.length co19) : Value).ownBlock) (.slice Ao26 t113.length co26) t113) ∧ Aside0 (w'.heap[g0_]? = some (.cells #[.int .i64 a0_0, .int .i64 a0_1, .int .i64 a0_2, (.slice A0_3 l0_3.length c0_3)] 28 (0, 0))) ∧ Aside0 (w'.heap[gb102]? = some (.cells #[.int .i64 a0_0, .int .i64 a0_1, .int .i64 1, (.slice A1 l1.length c1)] 28 (0, 0))) ∧ Aside0 (w'.heap[gb109]? = some (.cells #[.int .i64 t103, .int .i64 t104, .int .i64 t105, (.slice Ao19 t106.length co19)] 28 (0, 0))) ∧ Aside0 (w'.heap[gb120]? = some (.cells #[.int .i64 t110, .int .i64 t111, .int .i64 t112, (.slice Ao26 t113.length co26)] 28 (0, 0))) ∧ Aside0 (Below w.heap.size w w'))
   case atStart => exact ⟨(y121), (0), (by first | rfl | (simp; done) | (simp [*]; done)), H', ⟨Nat.le_refl _⟩, ⟨(by (with_reducible repeat (first | apply Kd.R_alloc | apply Kd.R_drewN | apply Kd.R_drew)); exact Kd.R_mono HO118.out (fun _ hk => ⟨hk.2, ⟨hk.1.2, hk.1.1⟩⟩))⟩, ⟨(by (with_reducible repeat (first | apply Kd.R_alloc | apply Kd.R_drewN | apply Kd.R_drew)); exact Kd.R_mono HO123.out (fun _ hk => ⟨hk.2, ⟨hk.1.1.2, hk.1.2⟩⟩))⟩, ⟨(by (with_reducible repeat (first | apply Kd.R_alloc | apply Kd.R_drewN | apply Kd.R_drew)); exact Kd.R_mono HO108.out (fun _ hk => ⟨hk.1.2, ⟨hk.2, hk.1.1.2⟩⟩))⟩, ⟨(by (with_reducible repeat (first | apply Kd.R_alloc | apply Kd.R_drewN | apply Kd.R_drew)); exact Kd.R_mono HO115.out (fun _ hk => ⟨hk.1.1, ⟨hk.2, hk.1.2⟩⟩))⟩, ⟨Z33.z5⟩, ⟨Z33.z8⟩, ⟨Z33.z13⟩, ⟨(by (with_reducible repeat (first | refine blk_drewN ?_ _ | refine blk_drew ?_ | refine blk_alloc ?_ _)); exact BK120.out)⟩, ⟨Z33.z4⟩⟩
   case round =>
    clear H'
    try clear c1
    try clear c2
    try clear p2
    try clear c3
    try clear c5
    try clear c5b0
    try clear c5b1
    try clear c6
    try clear c6b0
    try clear c6b1
    try clear c16
    try clear c17
    try clear c22
    try clear c23
    try clear c24
    try clear c27
    try clear hcz18_0
    try clear hcz18_1
    try clear hcz18_2
    try clear hcz18_3
    try clear hcz25_0
    try clear hcz25_1
    try clear hcz25_2
    try clear hcz25_3
    try clear hcz28_0
    try clear hcz28_1
    try clear hcz28_2
    try clear hcz28_3
    try clear hfz18_0
    try clear hfz18_1
    try clear hfz18_2
    try clear hfz18_3
    try clear hfz25_0
    try clear hfz25_1
    try clear hfz25_2
    try clear hfz25_3
    try clear hfz28_0
    try clear hfz28_1
    try clear hfz28_2
    try clear hfz28_3
    obtain ⟨x11_1, x12_1, rfl, HA, HK1, HO_9, HO_11, HO_110003, HO_121003, BK101, BK102, BK109, BK120, HB⟩ := hrel
    cases gk with
    | zero => exact absurd HA.out (by simp [spec_l03Solve.l0])
    | succ k1 =>
     have H := HA.out
     clear HA
     simp only [spec_l03Solve.l0] at H
     by_cases c31 : x12_1 < (t116.length : Int)
     ·rw [if_pos c31] at H
      have c31b0 : decide (x12_1 < (t116.length : Int)) = true := decide_eq_true c31
      clear c31
      by_cases c32 : 0 ≤ x12_1
      ·rw [if_pos c32] at H
       have c32b0 : decide (0 ≤ x12_1) = true := decide_eq_true c32
       clear c32
       by_cases c33 : (rd t116 x12_1) = a0_2
       ·rw [if_pos c33] at H
        have c33b0 : ((rd t116 x12_1) == a0_2) = true := beq_iff_eq.mpr c33
        have c33b1 : ((rd t116 x12_1) != a0_2) = false := bne_eq_false_iff_eq.mpr c33
        clear c33
        simp only [Option.some.injEq, Prod.mk.injEq] at H
        obtain ⟨rfl, rfl⟩ := H
        obtain ⟨Ao34, co34, eo34⟩ := Kd.R_slice HO_9.out
        subst eo34
        try go_wp2
        replace HO_9 := Z33.k (Kd.R_drew HO_9.out)
        replace HO_11 := Z33.k (Kd.R_drew HO_11.out)
        replace HO_110003 := Z33.k (Kd.R_drew HO_110003.out)
        replace HO_121003 := Z33.k (Kd.R_drew HO_121003.out)
        replace BK101 := Z33.k (blk_drew BK101.out)
        replace BK102 := Z33.k (blk_drew BK102.out)
        replace BK109 := Z33.k (blk_drew BK109.out)
        replace BK120 := Z33.k (blk_drew BK120.out)
        replace HB := Z33.k (below_drew1 HB.out)
        have p124 : 0 ≤ (x12_1 : Int) := of_decide_eq_true Z33.z12
        have q124 : x12_1 < (t116.length : Int) := of_decide_eq_true Z33.z12
        obtain ⟨ad124, e124, hx124_0⟩ := Kd.at_int (Kd.R_reads' HO_9.out).2.2 x12_1 p124 q124
        cases e124
        replace p124 := eq_true p124
        replace q124 := eq_true q124
        refine start_ (n := 9) (S := fun w' => w'.cell? ⟨g0_, 0, none⟩ = some (.int .i64 a0_0) ∧ w'.cell? ⟨g0_, 1, none⟩ = some (.int .i64 a0_1) ∧ w'.cell? ⟨g0_, 2, none⟩ = some (.int .i64 a0_2) ∧ w'.cell? ⟨g0_, 3, none⟩ = some (.slice A0_3 l0_3.length c0_3) ∧ w'.cell? (ad124.add (x12_1).toNat) = some (.int .i64 (rd t116 x12_1))) (ds := []) #[false, false, false, false, false, false, false, false, false] (by kernel_rfl) rfl rfl ⟨(blk_cell BK101.out 0).trans rfl, (blk_cell BK101.out 1).trans rfl, (blk_cell BK101.out 2).trans rfl, (blk_cell BK101.out 3).trans rfl, hx124_0⟩ (fun hHeld => ?_); refine with_tabW spec_l03Solve.tab8 spec_l03Solve.bits8 (fun HT_ HW_ => ?_)
        generalize wr.drew = w35 at HO_9 HO_11 HO_110003 HO_121003 BK101 BK102 BK109 BK120 HB hx124_0 hHeld ⊢
        refine Z33.pP 0 41 (Z33.b 9 1) (any_of HT_.out (by kernel_rfl)) ?_
        refine Z33.pP 1 42 (Z33.b 9 3) (any_of HT_.out (by kernel_rfl)) ?_
        refine Z33.pP 2 43 (Z33.b 9 7) (any_of HT_.out (by kernel_rfl)) ?_
        refine Z33.pP 4 45 (Z33.b 9 23) (any_of HT_.out (by kernel_rfl)) ?_
        refine Z33.pP 5 46 (Z33.b 9 55) (any_of HT_.out (by kernel_rfl)) ?_
        refine Z33.pP 6 47 (Z33.b 9 119) (any_of HT_.out (by kernel_rfl)) ?_
        refine Z33.pT5 3 44 (Z33.b 9 127) (take_ofW HT_.out HW_.out (by kernel_rfl)) hHeld ?_
        refine Z33.pT5 7 48 (Z33.b 9 255) (take_ofW HT_.out HW_.out (by kernel_rfl)) hHeld ?_
        refine Z33.pP 8 49 (Z33.b 9 511) (any_of HT_.out (by kernel_rfl)) ?_
        refine done_ (done_of HT_.out (by kernel_rfl)) ?_
        try go_wp2
        go_ret2
        exact ⟨_, (by first | rfl | (simp [errW_none, errW_some] <;> rfl) | (simp [*, errW_none, errW_some] <;> rfl)), (by first | exact Kd.R_nil _ _ _ _ _ | exact Kd.N_nil _ _ _ _ _ | exact Kd.V_nil _ _ _ _ _ | exact Kd.Q_nil _ _ _ _ _ | exact Kd.S_nil _ _ _ _ _), Z33.z4⟩
       rw [if_neg c33] at H
       have c33b0 : ((rd t116 x12_1) == a0_2) = false := beq_eq_false_iff_ne.mpr c33
       have c33b1 : ((rd t116 x12_1) != a0_2) = true := bne_iff_ne.mpr c33
       obtain ⟨ji36, hji36⟩ : ∃ j_ : Int, (wrap64 ((wrap64 (x12_1 * t105)) + a0_2)) = j_ := ⟨_, rfl⟩
       replace H : (if 0 ≤ (ji36) then (if (ji36) < (t113.length : Int) then (if 0 ≤ (rd t116 x12_1) then (if (rd t116 x12_1) < (x11_1.length : Int) then (spec_l03Solve.l0 k1 t116 (x11_1.set ((rd t116 x12_1) : Int).toNat (rd t113 (ji36))) (wrap64 (x12_1 + 1)) a0_0 a0_1 a0_2 l0_3 t103 t104 t105 t106 t110 t111 t112 t113) else (none)) else (none)) else (none)) else (none)) = some (r1, r2) := by first | (rw [hji36] at H; exact H) | (simp only [hji36] at H ⊢; exact H)
       have hji36w : (IntKind.i64.wrap ((wrap64 (x12_1 * t105)) + a0_2)) = ji36 := (i64_w _).trans hji36
       by_cases c37 : 0 ≤ (ji36)
       ·rw [if_pos c37] at H
        have c37b0 : decide (0 ≤ (ji36)) = true := decide_eq_true c37
        clear c37
        by_cases c38 : (ji36) < (t113.length : Int)
        ·rw [if_pos c38] at H
         have c38b0 : decide ((ji36) < (t113.length : Int)) = true := decide_eq_true c38
         clear c38
         by_cases c39 : 0 ≤ (rd t116 x12_1)
         ·rw [if_pos c39] at H
          have c39b0 : decide (0 ≤ (rd t116 x12_1)) = true := decide_eq_true c39
          clear c39
          by_cases c40 : (rd t116 x12_1) < (x11_1.length : Int)
          ·rw [if_pos c40] at H
           have c40b0 : decide ((rd t116 x12_1) < (x11_1.length : Int)) = true := decide_eq_true c40
           clear c40
           obtain ⟨y127, hy127⟩ : ∃ y_ : List Int, y_ = (x11_1.set ((rd t116 x12_1) : Int).toNat (rd t113 (ji36))) := ⟨_, rfl⟩
           replace H : (spec_l03Solve.l0 k1 t116 y127 (wrap64 (x12_1 + 1)) a0_0 a0_1 a0_2 l0_3 t103 t104 t105 t106 t110 t111 t112 t113) = some (r1, r2) := by first | (rw [hy127]; with_reducible exact H) | (have H2_ := (Option.bind_some _ _).symm.trans H; rw [hy127]; with_reducible exact H2_) | (have H2_ := (Option.bind_some _ _).symm.trans H; with_reducible exact H2_) | with_reducible exact H | (rw [hy127]; exact H) | exact H
           have Ny127 := Z33.k hy127
           clear hy127
           have H' := Z33.k H
           clear H
           obtain ⟨Ao42, co42, eo42⟩ := Kd.R_slice HO_9.out
           subst eo42
           try go_wp2
           replace HO_9 := Z33.k (Kd.R_drew HO_9.out)
           replace HO_11 := Z33.k (Kd.R_drew HO_11.out)
           replace HO_110003 := Z33.k (Kd.R_drew HO_110003.out)
           replace HO_121003 := Z33.k (Kd.R_drew HO_121003.out)
           replace BK101 := Z33.k (blk_drew BK101.out)
           replace BK102 := Z33.k (blk_drew BK102.out)
           replace BK109 := Z33.k (blk_drew BK109.out)
           replace BK120 := Z33.k (blk_drew BK120.out)
           replace HB := Z33.k (below_drew1 HB.out)
           have p124 : 0 ≤ (x12_1 : Int) := of_decide_eq_true Z33.z12
           have q124 : x12_1 < (t116.length : Int) := of_decide_eq_true Z33.z12
           obtain ⟨ad124, e124, hx124_0⟩ := Kd.at_int (Kd.R_reads' HO_9.out).2.2 x12_1 p124 q124
           cases e124
           replace p124 := eq_true p124
           replace q124 := eq_true q124
           refine start_ (n := 9) (S := fun w' => w'.cell? ⟨g0_, 0, none⟩ = some (.int .i64 a0_0) ∧ w'.cell? ⟨g0_, 1, none⟩ = some (.int .i64 a0_1) ∧ w'.cell? ⟨g0_, 2, none⟩ = some (.int .i64 a0_2) ∧ w'.cell? ⟨g0_, 3, none⟩ = some (.slice A0_3 l0_3.length c0_3) ∧ w'.cell? (ad124.add (x12_1).toNat) = some (.int .i64 (rd t116 x12_1))) (ds := []) #[false, false, false, false, false, false, false, false, false] (by kernel_rfl) rfl rfl ⟨(blk_cell BK101.out 0).trans rfl, (blk_cell BK101.out 1).trans rfl, (blk_cell BK101.out 2).trans rfl, (blk_cell BK101.out 3).trans rfl, hx124_0⟩ (fun hHeld => ?_); refine with_tabW spec_l03Solve.tab8 spec_l03Solve.bits8 (fun HT_ HW_ => ?_)
           generalize wr.drew = w43 at HO_9 HO_11 HO_110003 HO_121003 BK101 BK102 BK109 BK120 HB hx124_0 hHeld ⊢
           refine Z33.pP 0 41 (Z33.b 9 1) (any_of HT_.out (by kernel_rfl)) ?_
           refine Z33.pP 1 42 (Z33.b 9 3) (any_of HT_.out (by kernel_rfl)) ?_
           refine Z33.pP 2 43 (Z33.b 9 7) (any_of HT_.out (by kernel_rfl)) ?_
           refine Z33.pP 4 45 (Z33.b 9 23) (any_of HT_.out (by kernel_rfl)) ?_
           refine Z33.pP 5 46 (Z33.b 9 55) (any_of HT_.out (by kernel_rfl)) ?_
           refine Z33.pP 6 47 (Z33.b 9 119) (any_of HT_.out (by kernel_rfl)) ?_
           refine Z33.pT5 3 44 (Z33.b 9 127) (take_ofW HT_.out HW_.out (by kernel_rfl)) hHeld ?_
           refine Z33.pT5 7 48 (Z33.b 9 255) (take_ofW HT_.out HW_.out (by kernel_rfl)) hHeld ?_
           refine Z33.pP 8 49 (Z33.b 9 511) (any_of HT_.out (by kernel_rfl)) ?_
           refine done_ (done_of HT_.out (by kernel_rfl)) ?_
           try go_wp2
           replace HO_9 := Z33.k (Kd.R_drew HO_9.out)
           replace HO_11 := Z33.k (Kd.R_drew HO_11.out)
           replace HO_110003 := Z33.k (Kd.R_drew HO_110003.out)
           replace HO_121003 := Z33.k (Kd.R_drew HO_121003.out)
           replace BK101 := Z33.k (blk_drew BK101.out)
           replace BK102 := Z33.k (blk_drew BK102.out)
           replace BK109 := Z33.k (blk_drew BK109.out)
           replace BK120 := Z33.k (blk_drew BK120.out)
           replace HB := Z33.k (below_drew1 HB.out)
           have p125 : 0 ≤ (x12_1 : Int) := of_decide_eq_true Z33.z12
           have q125 : x12_1 < (t116.length : Int) := of_decide_eq_true Z33.z12
           obtain ⟨ad125, e125, hx125_0⟩ := Kd.at_int (Kd.R_reads' HO_9.out).2.2 x12_1 p125 q125
           obtain rfl : ad124 = ad125 := (by injection e125)
           replace p125 := eq_true p125
           replace q125 := eq_true q125
           have p126 : 0 ≤ ((ji36) : Int) := of_decide_eq_true Z33.z12
           have q126 : (ji36) < (t113.length : Int) := of_decide_eq_true Z33.z12
           obtain ⟨ad126, e126, hx126_0⟩ := Kd.at_int (Kd.R_reads' HO_121003.out).2.2 (ji36) p126 q126
           cases e126
           replace p126 := eq_true p126
           replace q126 := eq_true q126
           have p41 : 0 ≤ ((rd t116 x12_1) : Int) := of_decide_eq_true Z33.z12
           have q41 : ((rd t116 x12_1) : Int) < ((x11_1.length : Int) : Int) := of_decide_eq_true Z33.z12
           obtain ⟨go41, co41, eo41, gb41, gl41, cl41, HG41⟩ := Kd.R_form HO_11.out (by omega)
           (first | cases eo41 | (injection eo41 with ea_ en_ ec_; (first | subst ea_ | (injection ea_ with ea_; subst ea_)); subst ec_; clear en_))
           have GB41 := Z33.k gb41
           have GG41 := Z33.k HG41
           clear gb41 gl41 HG41
           obtain ⟨hx41_0, hf41_0⟩ := Kd.R_celln 0 HO_11.out ((rd t116 x12_1) : Int) p41 q41
           replace p41 := eq_true p41
           replace q41 := eq_true q41
           have HP45 := Kd.R_putn HO_11.out ((rd t116 x12_1) : Int) (rd t113 (ji36))
           rw [← Ny127.out] at HP45
           have HQ45 := Z33.k HP45
           clear HP45
           refine start_ (n := 20) (S := fun w' => w'.cell? ⟨gb120, 0, none⟩ = some (.int .i64 t110) ∧ w'.cell? ⟨gb120, 1, none⟩ = some (.int .i64 t111) ∧ w'.cell? ⟨gb120, 2, none⟩ = some (.int .i64 t112) ∧ w'.cell? ⟨gb120, 3, none⟩ = some (.slice (some ad126) t113.length co26) ∧ w'.cell? ⟨gb109, 0, none⟩ = some (.int .i64 t103) ∧ w'.cell? ⟨gb109, 1, none⟩ = some (.int .i64 t104) ∧ w'.cell? ⟨gb109, 2, none⟩ = some (.int .i64 t105) ∧ w'.cell? ⟨gb109, 3, none⟩ = some (.slice Ao19 t106.length co19) ∧ w'.cell? ⟨g0_, 0, none⟩ = some (.int .i64 a0_0) ∧ w'.cell? ⟨g0_, 1, none⟩ = some (.int .i64 a0_1) ∧ w'.cell? ⟨g0_, 2, none⟩ = some (.int .i64 a0_2) ∧ w'.cell? ⟨g0_, 3, none⟩ = some (.slice A0_3 l0_3.length c0_3) ∧ w'.cell? (ad124.add (x12_1).toNat) = some (.int .i64 (rd t116 x12_1)) ∧ w'.cell? (ad126.add ((ji36)).toNat) = some (.int .i64 (rd t113 (ji36)))) (ds := [19]) #[false, false, false, false, false, false, false, false, false, false, false, false, false, false, false, false, false, false, false, false] (by kernel_rfl) rfl rfl ⟨(blk_cell BK120.out 0).trans rfl, (blk_cell BK120.out 1).trans rfl, (blk_cell BK120.out 2).trans rfl, (blk_cell BK120.out 3).trans rfl, (blk_cell BK109.out 0).trans rfl, (blk_cell BK109.out 1).trans rfl, (blk_cell BK109.out 2).trans rfl, (blk_cell BK109.out 3).trans rfl, (blk_cell BK101.out 0).trans rfl, (blk_cell BK101.out 1).trans rfl, (blk_cell BK101.out 2).trans rfl, (blk_cell BK101.out 3).trans rfl, hx125_0, hx126_0⟩ (fun hHeld => ?_); refine with_tabW spec_l03Solve.tab10 spec_l03Solve.bits10 (fun HT_ HW_ => ?_)
           generalize w43.drew = w44 at HO_9 HO_11 HO_110003 HO_121003 BK101 BK102 BK109 BK120 HB GG41 HQ45 hf41_0 hx125_0 hx126_0 hx41_0 hHeld ⊢
           refine Z33.pP 0 50 (Z33.b 20 1) (any_of HT_.out (by kernel_rfl)) ?_
           refine Z33.pP 1 51 (Z33.b 20 3) (any_of HT_.out (by kernel_rfl)) ?_
           refine Z33.pP 2 52 (Z33.b 20 7) (any_of HT_.out (by kernel_rfl)) ?_
           refine Z33.pP 3 53 (Z33.b 20 15) (any_of HT_.out (by kernel_rfl)) ?_
           refine Z33.pP 5 55 (Z33.b 20 47) (any_of HT_.out (by kernel_rfl)) ?_
           refine Z33.pP 7 57 (Z33.b 20 175) (any_of HT_.out (by kernel_rfl)) ?_
           refine Z33.pP 8 58 (Z33.b 20 431) (any_of HT_.out (by kernel_rfl)) ?_
           refine Z33.pP 11 61 (Z33.b 20 2479) (any_of HT_.out (by kernel_rfl)) ?_
           refine Z33.pP 12 62 (Z33.b 20 6575) (any_of HT_.out (by kernel_rfl)) ?_
           refine Z33.pP 13 63 (Z33.b 20 14767) (any_of HT_.out (by kernel_rfl)) ?_
           refine Z33.pT14 4 54 (Z33.b 20 14783) (take_ofW HT_.out HW_.out (by kernel_rfl)) hHeld ?_
           refine Z33.pT14 6 56 (Z33.b 20 14847) (take_ofW HT_.out HW_.out (by kernel_rfl)) hHeld ?_
           refine Z33.pT14 9 59 (Z33.b 20 15359) (take_ofW HT_.out HW_.out (by kernel_rfl)) hHeld ?_
           refine Z33.pP 10 60 (Z33.b 20 16383) (any_of HT_.out (by kernel_rfl)) ?_
           refine Z33.pT14 14 64 (Z33.b 20 32767) (take_ofW HT_.out HW_.out (by kernel_rfl)) hHeld ?_
           refine Z33.pP 15 65 (Z33.b 20 65535) (any_of HT_.out (by kernel_rfl)) ?_
           refine Z33.pP 16 66 (Z33.b 20 131071) (any_of HT_.out (by kernel_rfl)) ?_
           refine Z33.pT14 17 67 (Z33.b 20 262143) (take_ofW HT_.out HW_.out (by kernel_rfl)) hHeld ?_
           refine Z33.pP 18 68 (Z33.b 20 524287) (any_of HT_.out (by kernel_rfl)) ?_
           refine last_ (i := 19) (N := none) (Z33.b 20 1048575) rfl rfl (one_of HT_.out (by kernel_rfl)) (by decide) (fun K hK => ?_)
           refine skip_ (w1 := ?_) (by rfl) rfl ?_ ?_
           rotate_left
           ·go_simp
            rfl
           refine hK.out _ _ ?_
           clear hK K
           refine done_ (done_of HT_.out (by kernel_rfl)) ?_
           try go_wp2
           go_roundg k1
           case measure => have := HK1.out; omega
           case rel => exact ⟨(y127), (wrap64 (x12_1 + 1)), (by first | rfl | (simp; done) | (simp [*]; done)), H', ⟨(by have := HK1.out; omega)⟩, ⟨(by (with_reducible repeat (first | apply Kd.R_alloc | apply Kd.R_drewN | apply Kd.R_drew)); exact Kd.R_mono (Kd.R_far (p := ⟨go41, ((rd t116 x12_1) : Int).toNat, none⟩) (Kd.R_mono HO_9.out (fun k_ hk => (⟨hk, fun e_ => hk.1 (by rw [e_]; rfl)⟩ : _ ∧ k_ ≠ go41))) (fun _ hk => hk.2) (.int .i64 (rd t113 (ji36)))) (fun _ hk => ⟨hk.1.1, ⟨hk.1.2.1, hk.1.2.2⟩⟩))⟩, ⟨(by (with_reducible repeat (first | apply Kd.R_alloc | apply Kd.R_drewN | apply Kd.R_drew)); exact HQ45.out)⟩, ⟨(by (with_reducible repeat (first | apply Kd.R_alloc | apply Kd.R_drewN | apply Kd.R_drew)); exact Kd.R_mono (Kd.R_far (p := ⟨go41, ((rd t116 x12_1) : Int).toNat, none⟩) (Kd.R_mono HO_110003.out (fun k_ hk => (⟨hk, fun e_ => hk.2.1 (by rw [e_]; rfl)⟩ : _ ∧ k_ ≠ go41))) (fun _ hk => hk.2) (.int .i64 (rd t113 (ji36)))) (fun _ hk => ⟨hk.1.1, ⟨hk.1.2.1, hk.1.2.2⟩⟩))⟩, ⟨(by (with_reducible repeat (first | apply Kd.R_alloc | apply Kd.R_drewN | apply Kd.R_drew)); exact Kd.R_mono (Kd.R_far (p := ⟨go41, ((rd t116 x12_1) : Int).toNat, none⟩) (Kd.R_mono HO_121003.out (fun k_ hk => (⟨hk, fun e_ => hk.2.1 (by rw [e_]; rfl)⟩ : _ ∧ k_ ≠ go41))) (fun _ hk => hk.2) (.int .i64 (rd t113 (ji36)))) (fun _ hk => ⟨hk.1.1, ⟨hk.1.2.1, hk.1.2.2⟩⟩))⟩, ⟨(by (with_reducible repeat (first | refine blk_drewN ?_ _ | refine blk_drew ?_ | refine blk_alloc ?_ _)); refine blk_far ?_ (by have h_ := Kd.R_ne HO_11.out BK101.out (by decide); intro e_; exact h_ (by rw [e_]; rfl)) _; (with_reducible repeat (first | refine blk_drewN ?_ _ | refine blk_drew ?_ | refine blk_alloc ?_ _)); exact BK101.out)⟩, ⟨(by (with_reducible repeat (first | refine blk_drewN ?_ _ | refine blk_drew ?_ | refine blk_alloc ?_ _)); refine blk_far ?_ (by have h_ := Kd.R_ne HO_11.out BK102.out (by decide); intro e_; exact h_ (by rw [e_]; rfl)) _; (with_reducible repeat (first | refine blk_drewN ?_ _ | refine blk_drew ?_ | refine blk_alloc ?_ _)); exact BK102.out)⟩, ⟨(by (with_reducible repeat (first | refine blk_drewN ?_ _ | refine blk_drew ?_ | refine blk_alloc ?_ _)); refine blk_far ?_ (by have h_ := Kd.R_ne HO_11.out BK109.out (by decide); intro e_; exact h_ (by rw [e_]; rfl)) _; (with_reducible repeat (first | refine blk_drewN ?_ _ | refine blk_drew ?_ | refine blk_alloc ?_ _)); exact BK109.out)⟩, ⟨(by (with_reducible repeat (first | refine blk_drewN ?_ _ | refine blk_drew ?_ | refine blk_alloc ?_ _)); refine blk_far ?_ (by have h_ := Kd.R_ne HO_11.out BK120.out (by decide); intro e_; exact h_ (by rw [e_]; rfl)) _; (with_reducible repeat (first | refine blk_drewN ?_ _ | refine blk_drew ?_ | refine blk_alloc ?_ _)); exact BK120.out)⟩, ⟨(by repeat (first | (with_reducible first | exact HB.out | apply below_alloc | apply pw_below_drewN | apply below_drew1 | refine below_set ?_ GB41.out | refine below_set ?_ GE101.out | refine below_set ?_ GE102.out | refine below_set ?_ GE109.out | refine below_set ?_ GE120.out) | exact HB.out))⟩⟩
          rw [if_neg c40] at H
          exact absurd H (by simp)
         rw [if_neg c39] at H
         exact absurd H (by simp)
        rw [if_neg c38] at H
        exact absurd H (by simp)
       rw [if_neg c37] at H
       exact absurd H (by simp)
      rw [if_neg c32] at H
      exact absurd H (by simp)
     rw [if_neg c31] at H
     have c31b0 : decide (x12_1 < (t116.length : Int)) = false := decide_eq_false c31
     clear c31
     simp only [Option.some.injEq, Prod.mk.injEq] at H
     obtain ⟨rfl, rfl⟩ := H
     obtain ⟨Ao46, co46, eo46⟩ := Kd.R_slice HO_9.out
     subst eo46
     go_wp2
     go_ret2
     exact ⟨_, (by first | rfl | (simp [errW_none, errW_some] <;> rfl) | (simp [*, errW_none, errW_some] <;> rfl)), (by (with_reducible repeat (first | apply Kd.R_alloc | apply Kd.R_drewN | apply Kd.R_drew)); exact Kd.R_mono HO_11.out (fun _ hk => trivial)), Z33.z4⟩
  rw [if_neg c6] at H
  exact absurd H (by simp)
 rw [if_neg c5] at H
 exact absurd H (by simp)
/-! ### spec_Solve: function 8 -/
def spec_Solve.f (k : Nat) (a0_0 : Int) (a0_1 : Int) (a0_2 : Int) (l0_3 : List Int) (l1 : List Int) : Option (List Int × Int) := (spec_l04Ask.f k a0_0 a0_1 a0_2 l0_3 l1).bind fun t102 => (if t102 = 0 then ((spec_l03Solve.f k a0_0 a0_1 a0_2 l0_3 l1).bind fun bt103 => (if bt103.2 = true then ((spec_l00Own.f bt103.1).bind fun t107 => (some (t107, 0))) else (some (([] : List Int), 3)))) else (some (([] : List Int), t102)))
theorem Z8.bb {w0 w w1 : World} {g : Nat} {o : Obj} (_B : Aside0 (w0.heap[g]? = some o)) (h : w.heap[g]? = some o) (hb : Below w.heap.size w w1) : w1.heap[g]? = some o := blk_below h hb
theorem Z8.bl {w0 w : World} {g : Nat} {o : Obj} (_B : Aside0 (w0.heap[g]? = some o)) (h : w.heap[g]? = some o) : g < w.heap.size := blk_lt h
theorem Z8.k {p : Prop} (h : p) : Aside0 p := ⟨h⟩
theorem Z8.z8 {P : Prop} (h : P := by rw [hg]; exact (below_size Z8.z2)) : P := h
theorem Z8.z7 {P : Prop} (h : P := by first | exact Kd.R_nil _ _ _ _ _ | exact Kd.N_nil _ _ _ _ _ | exact Kd.V_nil _ _ _ _ _ | exact Kd.Q_nil _ _ _ _ _ | exact Kd.S_nil _ _ _ _ _) : P := h
theorem Z8.z6 {P : Prop} (h : P := by first | rfl | (simp [errW_none, errW_some] <;> rfl) | (simp [*, errW_none, errW_some] <;> rfl)) : P := h
theorem Z8.z5 {P : Prop} (h : P := by (try simp only [List.map_toArray, List.map_cons, List.map_nil]); first | done | rfl | (simp only [List.length_drop, List.length_take]; rfl)) : P := h
theorem Z8.z4 {P : Prop} (h : P := by repeat (first | exact (Kd.C_below HR1.out HB.out) | (with_reducible refine Kd.C_alloc ?_ _) | (with_reducible refine Kd.C_drewN ?_ _) | (with_reducible refine Kd.C_drew ?_))) : P := h
theorem Z8.z3 {P : Prop} (h : P := by repeat (first | exact (Kd.C_below HR0_3.out HB.out) | (with_reducible refine Kd.C_alloc ?_ _) | (with_reducible refine Kd.C_drewN ?_ _) | (with_reducible refine Kd.C_drew ?_))) : P := h
theorem Z8.z2 {P : Prop} (h : P := by repeat (first | (with_reducible first | exact HB.out | apply below_alloc | apply pw_below_drewN | apply below_drew1) | exact HB.out)) : P := h
theorem Z8.z1 {P : Prop} (h : P := by (with_reducible repeat (first | refine blk_drewN ?_ _ | refine blk_drew ?_ | refine blk_alloc ?_ _)); exact BK101.out) : P := h
theorem Z8.z0 {P : Prop} (h : P := by repeat (first | (with_reducible first | exact HB.out | apply below_alloc | apply pw_below_drewN | apply below_drew1 | refine below_set ?_ GE101.out) | exact HB.out)) : P := h
set_option maxHeartbeats 8000000 in
set_option maxRecDepth 100000 in
theorem spec_Solve.calls (k : Nat) (a0_0 : Int) (a0_1 : Int) (a0_2 : Int) (A0_3 : Option Addr) (c0_3 : Nat) (l0_3 : List Int) (A1 : Option Addr) (c1 : Nat) (l1 : List Int) (r1 : List Int) (r2 : Int) (w : World) (hr0_3 : Kd.C (Kd.int .i64) w A0_3 l0_3.length l0_3) (hc0_3 : l0_3.length ≤ c0_3) (hr1 : Kd.C (Kd.int .i64) w A1 l1.length l1) (hc1 : l1.length ≤ c1) (h : spec_Solve.f k a0_0 a0_1 a0_2 l0_3 l1 = some (r1, r2)) :
  Calls Try.prog 8 #[.agg #[.int .i64 a0_0, .int .i64 a0_1, .int .i64 a0_2, .slice A0_3 l0_3.length c0_3], .slice A1 l1.length c1] w fun e w' => ∃ v0_ : Value, e = .returned (.tuple #[v0_, .int .i64 r2]) ∧ Kd.R (Kd.int .i64) 2 w' w.heap.size (fun _ => True) v0_ r1 ∧ Below w.heap.size w w' := by
 have hu28 := Try.underlying28
 have HR0_3 := Z8.k hr0_3
 have HC0_3 := Z8.k hc0_3
 clear hr0_3 hc0_3
 have HR1 := Z8.k hr1
 have HC1 := Z8.k hc1
 clear hr1 hc1
 have HB := Z8.k (Below.refl w.heap.size w)
 have H : ((spec_l04Ask.f k a0_0 a0_1 a0_2 l0_3 l1).bind fun t102 => (if t102 = 0 then ((spec_l03Solve.f k a0_0 a0_1 a0_2 l0_3 l1).bind fun bt103 => (if bt103.2 = true then ((spec_l00Own.f bt103.1).bind fun t107 => (some (t107, 0))) else (some (([] : List Int), 3)))) else (some (([] : List Int), t102)))) = some (r1, r2) := h
 clear h
 replace H := Option.bind_eq_some_iff.mp H
 obtain ⟨t102, A30, H⟩ := H
 replace H : (if t102 = 0 then ((spec_l03Solve.f k a0_0 a0_1 a0_2 l0_3 l1).bind fun bt103 => (if bt103.2 = true then ((spec_l00Own.f bt103.1).bind fun t107 => (some (t107, 0))) else (some (([] : List Int), 3)))) else (some (([] : List Int), t102))) = some (r1, r2) := H
 have A3 := Z8.k A30
 clear A30
 by_cases c4 : t102 = 0
 ·rw [if_pos c4] at H
  have c4b0 : (t102 == 0) = true := beq_iff_eq.mpr c4
  have c4b1 : (t102 != 0) = false := bne_eq_false_iff_eq.mpr c4
  clear c4
  replace H := Option.bind_eq_some_iff.mp H
  obtain ⟨⟨t103, t106⟩, A50, H⟩ := H
  (try dsimp only at H)
  have A5 := Z8.k A50
  clear A50
  by_cases c6 : t106 = true
  ·subst c6
   rw [if_pos rfl] at H
   replace H := Option.bind_eq_some_iff.mp H
   obtain ⟨t107, A70, H⟩ := H
   (try dsimp only at H)
   have A7 := Z8.k A70
   clear A70
   simp only [Option.some.injEq, Prod.mk.injEq] at H
   obtain ⟨rfl, rfl⟩ := H
   go_enter Try.func8, Try.ntmps8
   go_wp2_with (first | ((with_reducible refine gate_dst (N := 2) rfl ?_); refine box_event ?hg (N := 2) ?hd (cs := #[.int .i64 a0_0, .int .i64 a0_1, .int .i64 a0_2, .slice A0_3 l0_3.length c0_3]) (t := 28) ?hr ?_; (case hd => rfl); (case hg => rfl); (case hr => first | (go_simp; done) | (go_simp; rfl)); intro gb101 hg w8 hbox hb; have BK101 := Z8.k (hbox); have GW101 := Z8.k (show w.heap.size ≤ gb101 from Z8.z8); have GE101 := Z8.k (show w.heap.size ≤ gb101 from Z8.z8); replace HB := Z8.k (below_step Z8.z2 hb); clear hb hbox hg) | ((with_reducible refine gate_callee (f := 32) rfl ?_); refine goesL_ (some 10) rfl rfl Try.func32 (by kernel_rfl) rfl #[.pointer (some ⟨gb101, 0, none⟩), .slice A1 l1.length c1] rfl Z8.z5 ?_; (with_reducible refine (spec_l04Ask.calls k a0_0 a0_1 a0_2 A0_3 c0_3 l0_3 _ _ l1 t102 _ ?side1 ?side2 ?side3 ?side4 ?side5 A3.out).mono ?_); (case side1 => exact Z8.z3); (case side2 => exact HC0_3.out); (case side3 => exact Z8.z4); (case side4 => exact HC1.out); (case side5 => exact Z8.z1); rintro e w9 ⟨rfl, hb⟩; refine ⟨_, rfl, ?_⟩; replace BK101 := Z8.k (Z8.bb BK101 Z8.z1 hb); replace HB := Z8.k (below_step Z8.z0 hb); (try clear hb); (try clear hb2); (try clear hk); (try clear hi)) | ((with_reducible refine gate_callee (f := 33) rfl ?_); refine goesL_ (some 16) rfl rfl Try.func33 (by kernel_rfl) rfl #[.pointer (some ⟨gb101, 0, none⟩), .slice A1 l1.length c1] rfl Z8.z5 ?_; (with_reducible refine (spec_l03Solve.calls k a0_0 a0_1 a0_2 A0_3 c0_3 l0_3 _ _ l1 t103 true _ ?side1 ?side2 ?side3 ?side4 ?side5 A5.out).mono ?_); (case side1 => exact Z8.z3); (case side2 => exact HC0_3.out); (case side3 => exact Z8.z4); (case side4 => exact HC1.out); (case side5 => exact Z8.z1); rintro e w10 ⟨v104, rfl, ho0, hb⟩; refine ⟨_, rfl, ?_⟩; have HO105 := Z8.k (Kd.R_lower ho0 (below_size Z8.z0)); replace BK101 := Z8.k (Z8.bb BK101 Z8.z1 hb); replace HB := Z8.k (below_step Z8.z0 hb); (try clear hb); (try clear hb2); (try clear hk); (try clear hi); (try clear ho0); obtain ⟨Ao11, co11, eo11⟩ := Kd.R_slice HO105.out; subst eo11) | ((with_reducible refine gate_callee (f := 34) rfl ?_); refine goesL_ (some 22) rfl rfl Try.func34 (by kernel_rfl) rfl #[.slice Ao11 t103.length co11] rfl Z8.z5 ?_; (with_reducible refine (spec_l00Own.calls _ _ t103 t107 _ ?side1 ?side2 A7.out).mono ?_); (case side1 => exact (by repeat (first | exact (Kd.R_reads' HO105.out).2.2 | (with_reducible refine Kd.C_alloc ?_ _) | (with_reducible refine Kd.C_drewN ?_ _) | (with_reducible refine Kd.C_drew ?_)))); (case side2 => exact (Kd.R_reads' HO105.out).2.1); rintro e w12 ⟨v108, rfl, ho0, hb⟩; refine ⟨_, rfl, ?_⟩; have HO109 := Z8.k (Kd.R_lower (Kd.R_new' ho0 (Kd.R_lt (by (with_reducible repeat (first | apply Kd.R_alloc | apply Kd.R_drewN | apply Kd.R_drew)); exact HO105.out))) (below_size Z8.z0)); replace HO105 := Z8.k (Kd.R_elder' (by (with_reducible repeat (first | apply Kd.R_alloc | apply Kd.R_drewN | apply Kd.R_drew)); exact HO105.out) (Kd.R_base ho0) hb); replace BK101 := Z8.k (Z8.bb BK101 Z8.z1 hb); replace HB := Z8.k (below_step Z8.z0 hb); (try clear hb); (try clear hb2); (try clear hk); (try clear hi); (try clear ho0)))
   go_ret2
   exact ⟨_, Z8.z6, (by (with_reducible repeat (first | apply Kd.R_alloc | apply Kd.R_drewN | apply Kd.R_drew)); exact Kd.R_mono HO109.out (fun _ hk => trivial)), Z8.z0⟩
  replace c6 := Bool.eq_false_iff.mpr c6
  subst c6
  rw [if_neg (show ¬ (false = true) by decide)] at H
  simp only [Option.some.injEq, Prod.mk.injEq] at H
  obtain ⟨rfl, rfl⟩ := H
  go_enter Try.func8, Try.ntmps8
  go_wp2_with (first | ((with_reducible refine gate_dst (N := 2) rfl ?_); refine box_event ?hg (N := 2) ?hd (cs := #[.int .i64 a0_0, .int .i64 a0_1, .int .i64 a0_2, .slice A0_3 l0_3.length c0_3]) (t := 28) ?hr ?_; (case hd => rfl); (case hg => rfl); (case hr => first | (go_simp; done) | (go_simp; rfl)); intro gb101 hg w13 hbox hb; have BK101 := Z8.k (hbox); have GW101 := Z8.k (show w.heap.size ≤ gb101 from Z8.z8); have GE101 := Z8.k (show w.heap.size ≤ gb101 from Z8.z8); replace HB := Z8.k (below_step Z8.z2 hb); clear hb hbox hg) | ((with_reducible refine gate_callee (f := 32) rfl ?_); refine goesL_ (some 10) rfl rfl Try.func32 (by kernel_rfl) rfl #[.pointer (some ⟨gb101, 0, none⟩), .slice A1 l1.length c1] rfl Z8.z5 ?_; (with_reducible refine (spec_l04Ask.calls k a0_0 a0_1 a0_2 A0_3 c0_3 l0_3 _ _ l1 t102 _ ?side1 ?side2 ?side3 ?side4 ?side5 A3.out).mono ?_); (case side1 => exact Z8.z3); (case side2 => exact HC0_3.out); (case side3 => exact Z8.z4); (case side4 => exact HC1.out); (case side5 => exact Z8.z1); rintro e w14 ⟨rfl, hb⟩; refine ⟨_, rfl, ?_⟩; replace BK101 := Z8.k (Z8.bb BK101 Z8.z1 hb); replace HB := Z8.k (below_step Z8.z0 hb); (try clear hb); (try clear hb2); (try clear hk); (try clear hi)) | ((with_reducible refine gate_callee (f := 33) rfl ?_); refine goesL_ (some 16) rfl rfl Try.func33 (by kernel_rfl) rfl #[.pointer (some ⟨gb101, 0, none⟩), .slice A1 l1.length c1] rfl Z8.z5 ?_; (with_reducible refine (spec_l03Solve.calls k a0_0 a0_1 a0_2 A0_3 c0_3 l0_3 _ _ l1 t103 false _ ?side1 ?side2 ?side3 ?side4 ?side5 A5.out).mono ?_); (case side1 => exact Z8.z3); (case side2 => exact HC0_3.out); (case side3 => exact Z8.z4); (case side4 => exact HC1.out); (case side5 => exact Z8.z1); rintro e w15 ⟨v104, rfl, ho0, hb⟩; refine ⟨_, rfl, ?_⟩; have HO105 := Z8.k (Kd.R_lower ho0 (below_size Z8.z0)); replace BK101 := Z8.k (Z8.bb BK101 Z8.z1 hb); replace HB := Z8.k (below_step Z8.z0 hb); (try clear hb); (try clear hb2); (try clear hk); (try clear hi); (try clear ho0)))
  go_ret2
  exact ⟨_, Z8.z6, Z8.z7, Z8.z0⟩
 rw [if_neg c4] at H
 have c4b0 : (t102 == 0) = false := beq_eq_false_iff_ne.mpr c4
 have c4b1 : (t102 != 0) = true := bne_iff_ne.mpr c4
 simp only [Option.some.injEq, Prod.mk.injEq] at H
 obtain ⟨rfl, rfl⟩ := H
 go_enter Try.func8, Try.ntmps8
 go_wp2_with (first | ((with_reducible refine gate_dst (N := 2) rfl ?_); refine box_event ?hg (N := 2) ?hd (cs := #[.int .i64 a0_0, .int .i64 a0_1, .int .i64 a0_2, .slice A0_3 l0_3.length c0_3]) (t := 28) ?hr ?_; (case hd => rfl); (case hg => rfl); (case hr => first | (go_simp; done) | (go_simp; rfl)); intro gb101 hg w16 hbox hb; have BK101 := Z8.k (hbox); have GW101 := Z8.k (show w.heap.size ≤ gb101 from Z8.z8); have GE101 := Z8.k (show w.heap.size ≤ gb101 from Z8.z8); replace HB := Z8.k (below_step Z8.z2 hb); clear hb hbox hg) | ((with_reducible refine gate_callee (f := 32) rfl ?_); refine goesL_ (some 10) rfl rfl Try.func32 (by kernel_rfl) rfl #[.pointer (some ⟨gb101, 0, none⟩), .slice A1 l1.length c1] rfl Z8.z5 ?_; (with_reducible refine (spec_l04Ask.calls k a0_0 a0_1 a0_2 A0_3 c0_3 l0_3 _ _ l1 t102 _ ?side1 ?side2 ?side3 ?side4 ?side5 A3.out).mono ?_); (case side1 => exact Z8.z3); (case side2 => exact HC0_3.out); (case side3 => exact Z8.z4); (case side4 => exact HC1.out); (case side5 => exact Z8.z1); rintro e w17 ⟨rfl, hb⟩; refine ⟨_, rfl, ?_⟩; replace BK101 := Z8.k (Z8.bb BK101 Z8.z1 hb); replace HB := Z8.k (below_step Z8.z0 hb); (try clear hb); (try clear hb2); (try clear hk); (try clear hi)))
 go_ret2
 exact ⟨_, Z8.z6, Z8.z7, Z8.z0⟩
/-! ### laws_toInt64S: function 10 -/
def laws_toInt64S.l0 : Nat → List Int → List Int → Int → Option (List Int)
  | 0, _, _, _ => none
  | k + 1, x0, x3, x4 => if x4 < (x0.length : Int) then (if 0 ≤ x4 then (if x4 < (x3.length : Int) then (laws_toInt64S.l0 k x0 (x3.set (x4 : Int).toNat (rd x0 x4)) (wrap64 (x4 + 1))) else (none)) else (none)) else (some x3)
def laws_toInt64S.f (k : Nat) (l0 : List Int) : Option (List Int) := if 0 ≤ (l0.length : Int) then (if ((l0.length : Int) : Int).toNat ≤ 35184372088832 then (laws_toInt64S.l0 k l0 (List.replicate ((l0.length : Int) : Int).toNat 0) 0) else (none)) else (none)
theorem Z10.z1 {P : Prop} (h : P := by first | (with_reducible assumption) | assumption) : P := h
theorem Z10.z0 {P : Prop} (h : P := by repeat (first | (with_reducible first | exact HB.out | apply below_alloc | apply pw_below_drewN | apply below_drew1) | exact HB.out)) : P := h
set_option maxHeartbeats 8000000 in
set_option maxRecDepth 100000 in
theorem laws_toInt64S.calls (k : Nat) (A0 : Option Addr) (c0 : Nat) (l0 : List Int) (r : List Int) (w : World) (hr0 : Kd.C (Kd.int .i64) w A0 l0.length l0) (hc0 : l0.length ≤ c0) (h : laws_toInt64S.f k l0 = some r) :
  Calls Try.prog 10 #[.slice A0 l0.length c0] w fun e w' => ∃ v0_ : Value, e = .returned (v0_) ∧ Kd.R (Kd.int .i64) 2 w' w.heap.size (fun _ => True) v0_ r ∧ Below w.heap.size w w' := by
 have HR0 := Aside0.mk hr0
 have HC0 := Aside0.mk hc0
 clear hr0 hc0
 have HB := Aside0.mk (Below.refl w.heap.size w)
 have H : (if 0 ≤ (l0.length : Int) then (if ((l0.length : Int) : Int).toNat ≤ 35184372088832 then (laws_toInt64S.l0 k l0 (List.replicate ((l0.length : Int) : Int).toNat 0) 0) else (none)) else (none)) = some r := h
 clear h
 by_cases c2 : 0 ≤ (l0.length : Int)
 ·rw [if_pos c2] at H
  have c2b0 := eq_true c2
  have c2b1 : decide (0 ≤ (l0.length : Int)) = true := decide_eq_true c2
  clear c2
  by_cases c3 : ((l0.length : Int) : Int).toNat ≤ 35184372088832
  ·rw [if_pos c3] at H
   have c3b0 := eq_true c3
   have c3b1 : decide (((l0.length : Int) : Int).toNat ≤ 35184372088832) = true := decide_eq_true c3
   clear c3
   obtain ⟨y101, hy101⟩ : ∃ y_ : List Int, y_ = (List.replicate ((l0.length : Int) : Int).toNat 0) := ⟨_, rfl⟩
   replace H : (laws_toInt64S.l0 k l0 y101 0) = some r := by first | (rw [hy101]; with_reducible exact H) | (have H2_ := (Option.bind_some _ _).symm.trans H; rw [hy101]; with_reducible exact H2_) | (have H2_ := (Option.bind_some _ _).symm.trans H; with_reducible exact H2_) | with_reducible exact H | (rw [hy101]; exact H) | exact H
   have Ny101 := Aside0.mk hy101
   clear hy101
   have H' := Aside0.mk H
   clear H
   go_enter Try.func10, Try.ntmps10
   go_wp2_with (first | ((with_reducible refine gate_dst (N := 7) rfl ?_); refine Kd.R_make (Kd.int .i64) _ 2 rfl (N := 7) rfl 22 _ _ rfl (l0.length : Int) rfl rfl Try.underlying22 (.int .i64 0) 8 info2 rfl (by decide) (by omega) 0 (ok := fun _ => True) (okp := fun _ => True) rfl (fun _ hk => hk) trivial (of_decide_eq_true Z10.z1) (Nat.le_trans (Nat.mul_le_mul_right _ (of_decide_eq_true Z10.z1 : (l0.length : Int).toNat ≤ 35184372088832)) (by omega)) (Below.refl _ _) (Nat.le_refl _) ?_; intro v102 w4 ho5 hb hg_ hnew_; clear hg_ hnew_; (first | rw [← Ny101.out] at ho5 | (simp only [Int.reduceToNat] at ho5; rw [← Ny101.out] at ho5)); have HO103 := Aside0.mk (Kd.R_lower ho5 (below_size Z10.z0)); replace HB := Aside0.mk (below_step Z10.z0 hb); clear hb ho5))
   go_loopg [4] k (fun kq v4 w' => ∃ (x3_1 : List Int) (x4_1 : Int), v4 = .int .i64 x4_1 ∧ Aside0 (laws_toInt64S.l0 kq l0 x3_1 x4_1 = some r) ∧ Aside0 (kq ≤ k) ∧ Aside0 (Kd.R (Kd.int .i64) 2 w' w.heap.size (fun _ => True) v102 x3_1) ∧ Aside0 (Below w.heap.size w w'))
   case atStart => exact ⟨(y101), (0), (by first | rfl | (simp; done) | (simp [*]; done)), H', ⟨Nat.le_refl _⟩, ⟨(by (with_reducible repeat (first | apply Kd.R_alloc | apply Kd.R_drewN | apply Kd.R_drew)); exact HO103.out)⟩, ⟨Z10.z0⟩⟩
   case round =>
    clear H'
    try clear c1
    try clear c2
    try clear c2b0
    try clear c2b1
    try clear p2
    try clear c3
    try clear c3b0
    try clear c3b1
    obtain ⟨x3_1, x4_1, rfl, HA, HK1, HO_3, HB⟩ := hrel
    cases gk with
    | zero => exact absurd HA.out (by simp [laws_toInt64S.l0])
    | succ k1 =>
     have H := HA.out
     clear HA
     simp only [laws_toInt64S.l0] at H
     by_cases c6 : x4_1 < (l0.length : Int)
     ·rw [if_pos c6] at H
      have c6b0 : decide (x4_1 < (l0.length : Int)) = true := decide_eq_true c6
      clear c6
      by_cases c7 : 0 ≤ x4_1
      ·rw [if_pos c7] at H
       have c7b0 : decide (0 ≤ x4_1) = true := decide_eq_true c7
       clear c7
       by_cases c8 : x4_1 < (x3_1.length : Int)
       ·rw [if_pos c8] at H
        have c8b0 : decide (x4_1 < (x3_1.length : Int)) = true := decide_eq_true c8
        clear c8
        obtain ⟨y105, hy105⟩ : ∃ y_ : List Int, y_ = (x3_1.set (x4_1 : Int).toNat (rd l0 x4_1)) := ⟨_, rfl⟩
        replace H : (laws_toInt64S.l0 k1 l0 y105 (wrap64 (x4_1 + 1))) = some r := by first | (rw [hy105]; with_reducible exact H) | (have H2_ := (Option.bind_some _ _).symm.trans H; rw [hy105]; with_reducible exact H2_) | (have H2_ := (Option.bind_some _ _).symm.trans H; with_reducible exact H2_) | with_reducible exact H | (rw [hy105]; exact H) | exact H
        have Ny105 := Aside0.mk hy105
        clear hy105
        have H' := Aside0.mk H
        clear H
        have p104 : 0 ≤ (x4_1 : Int) := of_decide_eq_true Z10.z1
        have q104 : x4_1 < (l0.length : Int) := of_decide_eq_true Z10.z1
        obtain ⟨ad104, e104, hx104_0⟩ := Kd.at_int HR0.out x4_1 p104 q104
        cases e104
        replace hx104_0 := (HB.out.cell (World.block_lt_of_cell? w _ hx104_0)).trans hx104_0
        replace p104 := eq_true p104
        replace q104 := eq_true q104
        have p9 : 0 ≤ (x4_1 : Int) := of_decide_eq_true Z10.z1
        have q9 : (x4_1 : Int) < ((x3_1.length : Int) : Int) := of_decide_eq_true Z10.z1
        obtain ⟨go9, co9, eo9, gb9, gl9, cl9, HG9⟩ := Kd.R_form HO_3.out (by omega)
        (first | cases eo9 | (injection eo9 with ea_ en_ ec_; (first | subst ea_ | (injection ea_ with ea_; subst ea_)); subst ec_; clear en_))
        have GB9 := Aside0.mk gb9
        have GG9 := Aside0.mk HG9
        clear gb9 gl9 HG9
        obtain ⟨hx9_0, hf9_0⟩ := Kd.R_celln 0 HO_3.out (x4_1 : Int) p9 q9
        replace p9 := eq_true p9
        replace q9 := eq_true q9
        have HP10 := Kd.R_putg HO_3.out (x4_1 : Int) (rd l0 x4_1)
        go_wp2_with (first | ((with_reducible refine gate_store (t := 2) (p := 20) rfl ?_); refine store_event (t := 2) (p := 20) (v := ?vo_w11) (w1 := (wr.setCell ⟨go9, (x4_1 : Int).toNat, none⟩ (.int .i64 (rd l0 x4_1)))) ?hg ?ho ?hn ?hr ?_; (case ho => rfl); (case hg => rfl); (case hn => rfl); (case hr => first | (go_simp; done) | (go_simp; rfl)); intro w11 hw; have hg : wr.grownBy w11 (some go9) := (by rw [hw]; exact HP10.2); have hp_ : Kd.R (Kd.int .i64) 2 w11 w.heap.size (fun _ => True) (.slice (some ⟨go9, 0, none⟩) x3_1.length co9) y105 := (by rw [hw, Ny105.out]; exact HP10.1); clear HP10; replace HO_3 := Aside0.mk (hp_); replace HB := Aside0.mk ((by rw [hw]; exact below_set (HB.out) GB9.out : Below w.heap.size w w11)); clear hg hw hp_))
        go_roundg k1
        case measure => have := HK1.out; omega
        case rel => exact ⟨(y105), (wrap64 (x4_1 + 1)), (by first | rfl | (simp; done) | (simp [*]; done)), H', ⟨(by have := HK1.out; omega)⟩, ⟨(by (with_reducible repeat (first | apply Kd.R_alloc | apply Kd.R_drewN | apply Kd.R_drew)); exact HO_3.out)⟩, ⟨Z10.z0⟩⟩
       rw [if_neg c8] at H
       exact absurd H (by simp)
      rw [if_neg c7] at H
      exact absurd H (by simp)
     rw [if_neg c6] at H
     have c6b0 : decide (x4_1 < (l0.length : Int)) = false := decide_eq_false c6
     clear c6
     obtain rfl := Option.some.inj H
     go_wp2
     go_ret
     exact ⟨_, (by first | rfl | (simp [errW_none, errW_some] <;> rfl) | (simp [*, errW_none, errW_some] <;> rfl)), (by (with_reducible repeat (first | apply Kd.R_alloc | apply Kd.R_drewN | apply Kd.R_drew)); exact HO_3.out), Z10.z0⟩
  rw [if_neg c3] at H
  exact absurd H (by simp)
 rw [if_neg c2] at H
 exact absurd H (by simp)
end Go.Proofs.Ytmbbjmkcbpefhaa.F
end
