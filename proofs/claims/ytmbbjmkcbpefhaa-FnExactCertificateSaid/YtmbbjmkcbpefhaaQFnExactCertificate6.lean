-- Texts of this claim, merged by packw.py (a program of this session's).
import Derived.Test.YtmbbjmkcbpefhaaQFnExactCertificate1
import Derived.Test.YtmbbjmkcbpefhaaQFnExactCertificate2
import Derived.Test.YtmbbjmkcbpefhaaQFnExactCertificate4
import Derived.Test.YtmbbjmkcbpefhaaQFnExactCertificate5

section
namespace Go.Proofs.Ytmbbjmkcbpefhaa.F
open Go.RowKit Go.Proofs.YtmbbjmkcbpefhaaW.PrintWords Go.Proofs.YtmbbjmkcbpefhaaW.PrintLast Go.Proofs.YtmbbjmkcbpefhaaW.PrintMore
attribute [local go_sem] max2_int min2_int max_two min_two max_three min_three max_four min_four   -- for this text's walks alone
set_option linter.unusedVariables false
set_option linter.unusedSimpArgs false
/-! ### spec_l03Solve: function 33 -/
def spec_l03Solve.l0 : Nat → List Int → List Int → Int → Int → Int → Int → List Int → Int → Int → Int → List Int → Int → Int → Int → List Int → Option (List Int × Bool)
  | 0, _, _, _, _, _, _, _, _, _, _, _, _, _, _, _ => none
  | k + 1, x9, x11, x12, x102000, x102001, x102002, x102003, x110000, x110001, x110002, x110003, x121000, x121001, x121002, x121003 => if x12 < (x9.length : Int) then (if 0 ≤ x12 then (if (rd x9 x12) = x102002 then (some (([] : List Int), false)) else (if 0 ≤ (wrap64 ((wrap64 (x12 * x110002)) + x102002)) then (if (wrap64 ((wrap64 (x12 * x110002)) + x102002)) < (x121003.length : Int) then (if 0 ≤ (rd x9 x12) then (if (rd x9 x12) < (x11.length : Int) then (spec_l03Solve.l0 k x9 (x11.set ((rd x9 x12) : Int).toNat (rd x121003 (wrap64 ((wrap64 (x12 * x110002)) + x102002)))) (wrap64 (x12 + 1)) x102000 x102001 x102002 x102003 x110000 x110001 x110002 x110003 x121000 x121001 x121002 x121003) else (none)) else (none)) else (none)) else (none))) else (none)) else (some (x11, true))
def spec_l03Solve.f (k : Nat) (a0_0 : Int) (a0_1 : Int) (a0_2 : Int) (l0_3 : List Int) (l1 : List Int) : Option (List Int × Bool) := (spec_l03Join.f k a0_0 a0_1 a0_2 l0_3 a0_0 a0_1 1 l1).bind fun bt103 => ((spec_l03Reduced.f k bt103.1 bt103.2.1 bt103.2.2.1 bt103.2.2.2).bind fun bt110 => (if 0 ≤ a0_2 then (if (a0_2 : Int).toNat ≤ 35184372088832 then (spec_l03Solve.l0 k bt110.2.2.2.2.1 (List.replicate (a0_2 : Int).toNat 0) 0 a0_0 a0_1 a0_2 l0_3 bt103.1 bt103.2.1 bt103.2.2.1 bt103.2.2.2 bt110.1 bt110.2.1 bt110.2.2.1 bt110.2.2.2.1) else (none)) else (none)))
def spec_l03Solve.T1 : Bool × List (List Nat × List Nat) := (true, [([], []), ([0], [0]), ([1], [1]), ([2], [2]), ([], []), ([4], [4]), ([5], [5]), ([6], [6]), ([], []), ([3, 7, 8], [3, 7, 8]), ([], []), ([10, 9, 0, 1, 2, 3, 4, 5, 6, 7, 8, 9, 10], [9, 10])])
def spec_l03Solve.B1 : List Nat := [0, 1, 3, 7, 0, 16, 48, 112, 0, 511, 0, 2047]
theorem spec_l03Solve.tab1 : rtab .any (opsOf Try.f33 1) = spec_l03Solve.T1 := by kernel_rfl
theorem spec_l03Solve.bits1 : waitsOk spec_l03Solve.T1.2 spec_l03Solve.B1 = true := by kernel_rfl
def spec_l03Solve.T8 : Bool × List (List Nat × List Nat) := (true, [([], []), ([], []), ([0, 1], [0, 1]), ([2], [2]), ([], []), ([4], [4]), ([5], [5]), ([6], [6]), ([3, 7], [3, 7])])
def spec_l03Solve.B8 : List Nat := [0, 0, 3, 7, 0, 16, 48, 112, 255]
theorem spec_l03Solve.tab8 : rtab .any (opsOf Try.f33 8) = spec_l03Solve.T8 := by kernel_rfl
theorem spec_l03Solve.bits8 : waitsOk spec_l03Solve.T8.2 spec_l03Solve.B8 = true := by kernel_rfl
def spec_l03Solve.T10 : Bool × List (List Nat × List Nat) := (true, [([], []), ([], []), ([], []), ([1, 2], [1, 2]), ([3], [3]), ([], []), ([5], [5]), ([], []), ([], []), ([8], [8]), ([7, 9], [7, 9]), ([], []), ([11], [11]), ([12], [12]), ([13], [13]), ([10, 14], [10, 14]), ([6, 15], [6, 15]), ([16], [16]), ([0, 4, 0, 1, 2, 3, 4, 5, 6, 7, 8, 9, 10, 11, 12, 13, 14, 15, 16, 17], [0, 4]), ([18, 17, 0, 1, 2, 3, 4, 5, 6, 7, 8, 9, 10, 11, 12, 13, 14, 15, 16, 17], [17, 18])])
def spec_l03Solve.B10 : List Nat := [0, 0, 0, 6, 14, 0, 32, 0, 0, 256, 896, 0, 2048, 6144, 14336, 32640, 65504, 131040, 262143, 524287]
theorem spec_l03Solve.tab10 : rtab .any (opsOf Try.f33 10) = spec_l03Solve.T10 := by kernel_rfl
theorem spec_l03Solve.bits10 : waitsOk spec_l03Solve.T10.2 spec_l03Solve.B10 = true := by kernel_rfl
def Z33.b (n x : Nat) : Array Bool := ((List.range n).map (fun i => x.testBit i)).toArray
theorem Z33.pP {P : Program} {ops : Array Oper} {Q : Exit → Act → World → Prop} {md : Region.Mode} {S : World → Prop} {ds : List Nat} (i N : Nat) {oi : Oper} {v : Value} {fuel : Nat} {l : Array Bool} {a : Act} {w : World} (l' : Array Bool) (hc : anyB md ops l l' i = true) {a' : Act} (h : wpAnyLast P md ops Q S ds fuel l' a' w) (hi : ops[i]? = some oi := by rfl) (hN : oi.dst = some N := by rfl) (hQ : ∀ c a w, Q (.panic c) (a.put oi.dst v) w → Q (.panic c) a w := by exact fun _ _ _ h => h) (hy : Yields P ops oi v a := by exact Or.inl ⟨(by rfl), by intro w'; go_simp; with_reducible rfl⟩) (ha : a.put (some N) v = a' := by simp only [Act.put, List.setIfInBounds_toArray, List.set_cons_zero, List.set_cons_succ, i64_w, i32_w]; rfl) : wpAnyLast P md ops Q S ds (fuel + 1) l a w := pure_ l' hi hN hc hQ hy ha h
theorem Z33.pT4 {P : Program} {ops : Array Oper} {Q : Exit → Act → World → Prop} {md : Region.Mode} {S : World → Prop} {ds : List Nat} (i N : Nat) {oi : Oper} {v : Value} {fuel : Nat} {l : Array Bool} {a : Act} {w : World} (l' : Array Bool) (hc : takeB md ops ds l l' i = true) (hS : S w) {a' : Act} (h : wpAnyLast P md ops Q S ds fuel l' a' w) (hi : ops[i]? = some oi := by rfl) (hN : oi.dst = some N := by rfl) (hQ : ∀ c a w, Q (.panic c) (a.put oi.dst v) w → Q (.panic c) a w := by exact fun _ _ _ h => h) (hy : YieldsIf P ops S oi v a := by exact Or.inl ⟨(by rfl), by rintro w' ⟨s0, s1, s2, s3⟩; go_simp; with_reducible rfl⟩) (ha : a.put (some N) v = a' := by simp only [Act.put, List.setIfInBounds_toArray, List.set_cons_zero, List.set_cons_succ, i64_w, i32_w]; rfl) : wpAnyLast P md ops Q S ds (fuel + 1) l a w := take_ l' hi hN hc hQ hy hS ha h
theorem Z33.pT5 {P : Program} {ops : Array Oper} {Q : Exit → Act → World → Prop} {md : Region.Mode} {S : World → Prop} {ds : List Nat} (i N : Nat) {oi : Oper} {v : Value} {fuel : Nat} {l : Array Bool} {a : Act} {w : World} (l' : Array Bool) (hc : takeB md ops ds l l' i = true) (hS : S w) {a' : Act} (h : wpAnyLast P md ops Q S ds fuel l' a' w) (hi : ops[i]? = some oi := by rfl) (hN : oi.dst = some N := by rfl) (hQ : ∀ c a w, Q (.panic c) (a.put oi.dst v) w → Q (.panic c) a w := by exact fun _ _ _ h => h) (hy : YieldsIf P ops S oi v a := by exact Or.inl ⟨(by rfl), by rintro w' ⟨s0, s1, s2, s3, s4⟩; go_simp; with_reducible rfl⟩) (ha : a.put (some N) v = a' := by simp only [Act.put, List.setIfInBounds_toArray, List.set_cons_zero, List.set_cons_succ, i64_w, i32_w]; rfl) : wpAnyLast P md ops Q S ds (fuel + 1) l a w := take_ l' hi hN hc hQ hy hS ha h
theorem Z33.pT14 {P : Program} {ops : Array Oper} {Q : Exit → Act → World → Prop} {md : Region.Mode} {S : World → Prop} {ds : List Nat} (i N : Nat) {oi : Oper} {v : Value} {fuel : Nat} {l : Array Bool} {a : Act} {w : World} (l' : Array Bool) (hc : takeB md ops ds l l' i = true) (hS : S w) {a' : Act} (h : wpAnyLast P md ops Q S ds fuel l' a' w) (hi : ops[i]? = some oi := by rfl) (hN : oi.dst = some N := by rfl) (hQ : ∀ c a w, Q (.panic c) (a.put oi.dst v) w → Q (.panic c) a w := by exact fun _ _ _ h => h) (hy : YieldsIf P ops S oi v a := by exact Or.inl ⟨(by rfl), by rintro w' ⟨s0, s1, s2, s3, s4, s5, s6, s7, s8, s9, s10, s11, s12, s13⟩; go_simp; with_reducible rfl⟩) (ha : a.put (some N) v = a' := by simp only [Act.put, List.setIfInBounds_toArray, List.set_cons_zero, List.set_cons_succ, i64_w, i32_w]; rfl) : wpAnyLast P md ops Q S ds (fuel + 1) l a w := take_ l' hi hN hc hQ hy hS ha h
theorem Z33.bb {w0 w w1 : World} {g : Nat} {o : Obj} (_B : Aside0 (w0.heap[g]? = some o)) (h : w.heap[g]? = some o) (hb : Below w.heap.size w w1) : w1.heap[g]? = some o := blk_below h hb
theorem Z33.bl {w0 w : World} {g : Nat} {o : Obj} (_B : Aside0 (w0.heap[g]? = some o)) (h : w.heap[g]? = some o) : g < w.heap.size := blk_lt h
theorem Z33.k {p : Prop} (h : p) : Aside0 p := ⟨h⟩
theorem Z33.z17 {P : Prop} (h : P := by (try simp only [List.map_toArray, List.map_cons, List.map_nil]); first | done | rfl | (simp only [List.length_drop, List.length_take]; rfl)) : P := h
theorem Z33.z16 {P : Prop} (h : P := by exact ⟨(blk_cell BK101.out 0).trans rfl, (blk_cell BK101.out 1).trans rfl, (blk_cell BK101.out 2).trans rfl, (blk_cell BK101.out 3).trans rfl⟩) : P := h
theorem Z33.z15 {P : Prop} (h : P := by (repeat (first | (with_reducible first | refine blk_drewN ?_ _ | refine blk_drew ?_ | refine blk_alloc ?_ _) | refine blk_far ?_ NB101_102.out _)); exact BK101.out) : P := h
theorem Z33.z14 {P : Prop} (h : P := by repeat (first | (with_reducible first | exact HB.out | apply below_alloc | apply pw_below_drewN | apply below_drew1 | refine below_set ?_ GE101.out) | exact HB.out)) : P := h
theorem Z33.z13 {P : Prop} (h : P := by (with_reducible repeat (first | refine blk_drewN ?_ _ | refine blk_drew ?_ | refine blk_alloc ?_ _)); exact BK109.out) : P := h
theorem Z33.z12 {P : Prop} (h : P := by first | (with_reducible assumption) | assumption) : P := h
theorem Z33.z11 {P : Prop} (h : P := by (with_reducible repeat (first | apply Kd.R_alloc | apply Kd.R_drewN | apply Kd.R_drew)); exact (Kd.R_mono (Kd.R_far (p := ⟨gb120, 3, none⟩) (Kd.R_far (p := ⟨gb120, 2, none⟩) (Kd.R_far (p := ⟨gb120, 1, none⟩) (Kd.R_far (p := ⟨gb120, 0, none⟩) (Kd.R_types HO108.out BK120.out (by decide)) (fun _ hk => hk.2) (.int .i64 t110)) (fun _ hk => hk.2) (.int .i64 t111)) (fun _ hk => hk.2) (.int .i64 t112)) (fun _ hk => hk.2) (.slice Ao26 t113.length co26)) (fun _ h_ => h_.1))) : P := h
theorem Z33.z10 {P : Prop} (h : P := by (with_reducible repeat (first | apply Kd.R_alloc | apply Kd.R_drewN | apply Kd.R_drew)); exact (Kd.R_mono (Kd.R_far (p := ⟨gb120, 3, none⟩) (Kd.R_far (p := ⟨gb120, 2, none⟩) (Kd.R_far (p := ⟨gb120, 1, none⟩) (Kd.R_far (p := ⟨gb120, 0, none⟩) (Kd.R_types HO115.out BK120.out (by decide)) (fun _ hk => hk.2) (.int .i64 t110)) (fun _ hk => hk.2) (.int .i64 t111)) (fun _ hk => hk.2) (.int .i64 t112)) (fun _ hk => hk.2) (.slice Ao26 t113.length co26)) (fun _ h_ => h_.1))) : P := h
theorem Z33.z9 {P : Prop} (h : P := by (with_reducible repeat (first | apply Kd.R_alloc | apply Kd.R_drewN | apply Kd.R_drew)); exact (Kd.R_mono (Kd.R_far (p := ⟨gb120, 3, none⟩) (Kd.R_far (p := ⟨gb120, 2, none⟩) (Kd.R_far (p := ⟨gb120, 1, none⟩) (Kd.R_far (p := ⟨gb120, 0, none⟩) (Kd.R_types HO118.out BK120.out (by decide)) (fun _ hk => hk.2) (.int .i64 t110)) (fun _ hk => hk.2) (.int .i64 t111)) (fun _ hk => hk.2) (.int .i64 t112)) (fun _ hk => hk.2) (.slice Ao26 t113.length co26)) (fun _ h_ => h_.1))) : P := h
theorem Z33.z8 {P : Prop} (h : P := by (with_reducible repeat (first | refine blk_drewN ?_ _ | refine blk_drew ?_ | refine blk_alloc ?_ _)); exact BK102.out) : P := h
theorem Z33.z7 {P : Prop} (h : P := by (with_reducible repeat (first | refine blk_drewN ?_ _ | refine blk_drew ?_ | refine blk_alloc ?_ _)); refine blk_put (cs := #[.int .i64 a0_0, .int .i64 a0_1, .int .i64 1, .slice none 0 0]) ?_ 3 _ rfl; (with_reducible repeat (first | refine blk_drewN ?_ _ | refine blk_drew ?_ | refine blk_alloc ?_ _)); refine blk_put (cs := #[.int .i64 a0_0, .int .i64 a0_1, .int .i64 0, .slice none 0 0]) ?_ 2 _ rfl; (with_reducible repeat (first | refine blk_drewN ?_ _ | refine blk_drew ?_ | refine blk_alloc ?_ _)); refine blk_put (cs := #[.int .i64 a0_0, .int .i64 0, .int .i64 0, .slice none 0 0]) ?_ 1 _ rfl; (with_reducible repeat (first | refine blk_drewN ?_ _ | refine blk_drew ?_ | refine blk_alloc ?_ _)); refine blk_put (cs := #[.int .i64 0, .int .i64 0, .int .i64 0, .slice none 0 0]) ?_ 0 _ rfl; (with_reducible repeat (first | refine blk_drewN ?_ _ | refine blk_drew ?_ | refine blk_alloc ?_ _)); exact BK102.out) : P := h
theorem Z33.z6 {P : Prop} (h : P := by (with_reducible repeat (first | refine blk_drewN ?_ _ | refine blk_drew ?_ | refine blk_alloc ?_ _)); refine blk_put (cs := #[.int .i64 t103, .int .i64 t104, .int .i64 t105, .slice none 0 0]) ?_ 3 _ rfl; (with_reducible repeat (first | refine blk_drewN ?_ _ | refine blk_drew ?_ | refine blk_alloc ?_ _)); refine blk_put (cs := #[.int .i64 t103, .int .i64 t104, .int .i64 0, .slice none 0 0]) ?_ 2 _ rfl; (with_reducible repeat (first | refine blk_drewN ?_ _ | refine blk_drew ?_ | refine blk_alloc ?_ _)); refine blk_put (cs := #[.int .i64 t103, .int .i64 0, .int .i64 0, .slice none 0 0]) ?_ 1 _ rfl; (with_reducible repeat (first | refine blk_drewN ?_ _ | refine blk_drew ?_ | refine blk_alloc ?_ _)); refine blk_put (cs := #[.int .i64 0, .int .i64 0, .int .i64 0, .slice none 0 0]) ?_ 0 _ rfl; (with_reducible repeat (first | refine blk_drewN ?_ _ | refine blk_drew ?_ | refine blk_alloc ?_ _)); exact BK109.out) : P := h
theorem Z33.z5 {P : Prop} (h : P := by (with_reducible repeat (first | refine blk_drewN ?_ _ | refine blk_drew ?_ | refine blk_alloc ?_ _)); exact BK101.out) : P := h
theorem Z33.z4 {P : Prop} (h : P := by repeat (first | (with_reducible first | exact HB.out | apply below_alloc | apply pw_below_drewN | apply below_drew1 | refine below_set ?_ GE101.out | refine below_set ?_ GE102.out | refine below_set ?_ GE109.out | refine below_set ?_ GE120.out) | exact HB.out)) : P := h
theorem Z33.z3 {P : Prop} (h : P := by repeat (first | (with_reducible first | exact HB.out | apply below_alloc | apply pw_below_drewN | apply below_drew1 | refine below_set ?_ GE101.out | refine below_set ?_ GE102.out | refine below_set ?_ GE109.out) | exact HB.out)) : P := h
theorem Z33.z2 {P : Prop} (h : P := by repeat (first | (with_reducible first | exact HB.out | apply below_alloc | apply pw_below_drewN | apply below_drew1 | refine below_set ?_ GE101.out | refine below_set ?_ GE102.out) | exact HB.out)) : P := h
theorem Z33.z1 {P : Prop} (h : P := by (with_reducible repeat (first | apply Kd.R_alloc | apply Kd.R_drewN | apply Kd.R_drew)); exact (Kd.R_mono (Kd.R_far (p := ⟨gb109, 3, none⟩) (Kd.R_far (p := ⟨gb109, 2, none⟩) (Kd.R_far (p := ⟨gb109, 1, none⟩) (Kd.R_far (p := ⟨gb109, 0, none⟩) (Kd.R_types HO108.out BK109.out (by decide)) (fun _ hk => hk.2) (.int .i64 t103)) (fun _ hk => hk.2) (.int .i64 t104)) (fun _ hk => hk.2) (.int .i64 t105)) (fun _ hk => hk.2) (.slice Ao19 t106.length co19)) (fun _ h_ => h_.1))) : P := h
theorem Z33.z0 {P : Prop} (h : P := by simp only [Act.put, List.setIfInBounds_toArray, List.set_cons_zero, List.set_cons_succ, i64_w, i32_w]; rfl) : P := h
set_option maxHeartbeats 8000000 in
set_option maxRecDepth 100000 in
theorem spec_l03Solve.calls (k : Nat) (a0_0 : Int) (a0_1 : Int) (a0_2 : Int) (A0_3 : Option Addr) (c0_3 : Nat) (l0_3 : List Int) (A1 : Option Addr) (c1 : Nat) (l1 : List Int) (r1 : List Int) (r2 : Bool) (w : World) (hr0_3 : Kd.C (Kd.int .i64) w A0_3 l0_3.length l0_3) (hc0_3 : l0_3.length ≤ c0_3) (hr1 : Kd.C (Kd.int .i64) w A1 l1.length l1) (hc1 : l1.length ≤ c1) {g0_ : Nat} (hbk0_ : w.heap[g0_]? = some (.cells #[.int .i64 a0_0, .int .i64 a0_1, .int .i64 a0_2, .slice A0_3 l0_3.length c0_3] 28 (0, 0))) (h : spec_l03Solve.f k a0_0 a0_1 a0_2 l0_3 l1 = some (r1, r2)) :
  Calls Try.prog 33 #[.pointer (some ⟨g0_, 0, none⟩), .slice A1 l1.length c1] w fun e w' => ∃ v0_ : Value, e = .returned (.tuple #[v0_, .bool r2]) ∧ Kd.R (Kd.int .i64) 2 w' w.heap.size (fun _ => True) v0_ r1 ∧ Below w.heap.size w w' := by
 have hu28 := Try.underlying28
 have HR0_3 := Z33.k hr0_3
 have HC0_3 := Z33.k hc0_3
 clear hr0_3 hc0_3
 have HR1 := Z33.k hr1
 have HC1 := Z33.k hc1
 clear hr1 hc1
 have HB := Z33.k (Below.refl w.heap.size w)
 have H : ((spec_l03Join.f k a0_0 a0_1 a0_2 l0_3 a0_0 a0_1 1 l1).bind fun bt103 => ((spec_l03Reduced.f k bt103.1 bt103.2.1 bt103.2.2.1 bt103.2.2.2).bind fun bt110 => (if 0 ≤ a0_2 then (if (a0_2 : Int).toNat ≤ 35184372088832 then (spec_l03Solve.l0 k bt110.2.2.2.2.1 (List.replicate (a0_2 : Int).toNat 0) 0 a0_0 a0_1 a0_2 l0_3 bt103.1 bt103.2.1 bt103.2.2.1 bt103.2.2.2 bt110.1 bt110.2.1 bt110.2.2.1 bt110.2.2.2.1) else (none)) else (none)))) = some (r1, r2) := h
 clear h
 replace H := Option.bind_eq_some_iff.mp H
 obtain ⟨⟨t103, t104, t105, t106⟩, A30, H⟩ := H
 replace H : ((spec_l03Reduced.f k t103 t104 t105 t106).bind fun bt110 => (if 0 ≤ a0_2 then (if (a0_2 : Int).toNat ≤ 35184372088832 then (spec_l03Solve.l0 k bt110.2.2.2.2.1 (List.replicate (a0_2 : Int).toNat 0) 0 a0_0 a0_1 a0_2 l0_3 t103 t104 t105 t106 bt110.1 bt110.2.1 bt110.2.2.1 bt110.2.2.2.1) else (none)) else (none))) = some (r1, r2) := H
 have A3 := Z33.k A30
 clear A30
 replace H := Option.bind_eq_some_iff.mp H
 obtain ⟨⟨t110, t111, t112, t113, t116, t119⟩, A40, H⟩ := H
 (try dsimp only at H)
 have A4 := Z33.k A40
 clear A40
 by_cases c5 : 0 ≤ a0_2
 ·rw [if_pos c5] at H
  have c5b0 := eq_true c5
  have c5b1 : decide (0 ≤ a0_2) = true := decide_eq_true c5
  clear c5
  by_cases c6 : (a0_2 : Int).toNat ≤ 35184372088832
  ·rw [if_pos c6] at H
   have c6b0 := eq_true c6
   have c6b1 : decide ((a0_2 : Int).toNat ≤ 35184372088832) = true := decide_eq_true c6
   clear c6
   obtain ⟨y121, hy121⟩ : ∃ y_ : List Int, y_ = (List.replicate (a0_2 : Int).toNat 0) := ⟨_, rfl⟩
   replace H : (spec_l03Solve.l0 k t116 y121 0 a0_0 a0_1 a0_2 l0_3 t103 t104 t105 t106 t110 t111 t112 t113) = some (r1, r2) := by first | (rw [hy121]; with_reducible exact H) | (have H2_ := (Option.bind_some _ _).symm.trans H; rw [hy121]; with_reducible exact H2_) | (have H2_ := (Option.bind_some _ _).symm.trans H; with_reducible exact H2_) | with_reducible exact H | (rw [hy121]; exact H) | exact H
   have Ny121 := Z33.k hy121
   clear hy121
   have H' := Z33.k H
   clear H
   go_enter Try.func33, Try.ntmps33
   have BK101 := Z33.k hbk0_
   try go_wp2_with (first | fail)
   replace BK101 := Z33.k (blk_drew BK101.out)
   replace HB := Z33.k (below_drew1 HB.out)
   refine start_ (n := 12) (S := fun w' => w'.cell? ⟨g0_, 0, none⟩ = some (.int .i64 a0_0) ∧ w'.cell? ⟨g0_, 1, none⟩ = some (.int .i64 a0_1) ∧ w'.cell? ⟨g0_, 2, none⟩ = some (.int .i64 a0_2) ∧ w'.cell? ⟨g0_, 3, none⟩ = some (.slice A0_3 l0_3.length c0_3)) (ds := []) #[false, false, false, false, false, false, false, false, false, false, false, false] (by kernel_rfl) rfl rfl Z33.z16 (fun hHeld => ?_); refine with_tabW spec_l03Solve.tab1 spec_l03Solve.bits1 (fun HT_ HW_ => ?_)
   generalize w.drew = w8 at BK101 HB hHeld ⊢
   refine Z33.pP 0 13 (Z33.b 12 1) (any_of HT_.out (by kernel_rfl)) ?_
   refine Z33.pP 1 14 (Z33.b 12 3) (any_of HT_.out (by kernel_rfl)) ?_
   refine Z33.pP 2 15 (Z33.b 12 7) (any_of HT_.out (by kernel_rfl)) ?_
   refine Z33.pP 4 17 (Z33.b 12 23) (any_of HT_.out (by kernel_rfl)) ?_
   refine Z33.pP 5 18 (Z33.b 12 55) (any_of HT_.out (by kernel_rfl)) ?_
   refine Z33.pP 6 19 (Z33.b 12 119) (any_of HT_.out (by kernel_rfl)) ?_
   refine Z33.pP 8 21 (Z33.b 12 375) (any_of HT_.out (by kernel_rfl)) ?_
   refine Z33.pT4 3 16 (Z33.b 12 383) (take_ofW HT_.out HW_.out (by kernel_rfl)) hHeld ?_
   refine Z33.pT4 7 20 (Z33.b 12 511) (take_ofW HT_.out HW_.out (by kernel_rfl)) hHeld ?_
   refine Z33.pP 9 22 (Z33.b 12 1023) (any_of HT_.out (by kernel_rfl)) ?_
   refine one_ (i := 10) (N := some 6) (Z33.b 12 2047) rfl rfl (one_of HT_.out (by kernel_rfl)) (by decide) (fun K hK => ?_)
   refine box_step ?hg (N := 6) ?hd (cs := #[.int .i64 0, .int .i64 0, .int .i64 0, .slice none 0 0]) (t := 28) ?hr ?_; (case hd => rfl); (case hg => rfl); (case hr => first | (go_simp; done) | (go_simp; rfl))
   intro gb102 hg w9 hbox hb
   have n0_ := Z33.k (Z33.bb BK101 Z33.z5 hb)
   have n1_ := Z33.k (below_step Z33.z14 hb)
   have n2_ := Z33.k (hbox)
   have n3_ := Z33.k (show w.heap.size ≤ gb102 from (by rw [hg]; exact (below_size Z33.z14)))
   have n4_ := Z33.k (show w.heap.size ≤ gb102 from (by rw [hg]; exact (below_size Z33.z14)))
   have n5_ := Z33.k (show g0_ ≠ gb102 from (by rw [hg]; exact Nat.ne_of_lt (Z33.bl BK101 Z33.z5)))
   have n6_ := Z33.k (show gb102 ≠ g0_ from (by rw [hg]; exact Nat.ne_of_gt (Z33.bl BK101 Z33.z5)))
   clear BK101 HB
   have BK101 := n0_
   have HB := n1_
   have BK102 := n2_
   have GW102 := n3_
   have GE102 := n4_
   have NB101_102 := n5_
   have NB102_101 := n6_
   clear n0_ n1_ n2_ n3_ n4_ n5_ n6_ hb hbox hg
   refine hK.out _ _ Z33.z16 (fun hHeld => ?_)
   clear hK K
   refine norm_ (a' := ?_) ?_ ?_
   rotate_left
   ·show Act.put _ (some 6) _ = _
    simp only [Act.put, List.setIfInBounds_toArray, List.set_cons_zero, List.set_cons_succ, i64_w, i32_w]
    rfl
   refine one_ (i := 11) (N := none) (Z33.b 12 4095) rfl rfl (one_of HT_.out (by kernel_rfl)) (by decide) (fun K hK => ?_)
   have hs10 : w9.cell? ⟨gb102, 0, none⟩ = some (.int .i64 0) := (blk_cell BK102.out 0).trans rfl
   have hfs10 := blk_frozen BK102.out 0
   have hns10_0 := NB101_102.out
   have hms10_0 := NB102_101.out
   have hs11 : w9.cell? ⟨gb102, 1, none⟩ = some (.int .i64 0) := (blk_cell BK102.out 1).trans rfl
   have hfs11 := blk_frozen BK102.out 1
   have hns11_0 := NB101_102.out
   have hms11_0 := NB102_101.out
   have hs12 : w9.cell? ⟨gb102, 2, none⟩ = some (.int .i64 0) := (blk_cell BK102.out 2).trans rfl
   have hfs12 := blk_frozen BK102.out 2
   have hns12_0 := NB101_102.out
   have hms12_0 := NB102_101.out
   have hs13 : w9.cell? ⟨gb102, 3, none⟩ = some (.slice none 0 0) := (blk_cell BK102.out 3).trans rfl
   have hfs13 := blk_frozen BK102.out 3
   have hns13_0 := NB101_102.out
   have hms13_0 := NB102_101.out
   refine skip_ (w1 := ?_) (by rfl) rfl ?_ ?_
   rotate_left
   ·go_simp
    rfl
   refine hK.out _ _ ⟨((cell_far (p := ⟨gb102, _, none⟩) NB101_102.out _).trans (((cell_far (p := ⟨gb102, _, none⟩) NB101_102.out _).trans (((cell_far (p := ⟨gb102, _, none⟩) NB101_102.out _).trans (((cell_far (p := ⟨gb102, _, none⟩) NB101_102.out _).trans (hHeld.1)))))))), ((cell_far (p := ⟨gb102, _, none⟩) NB101_102.out _).trans (((cell_far (p := ⟨gb102, _, none⟩) NB101_102.out _).trans (((cell_far (p := ⟨gb102, _, none⟩) NB101_102.out _).trans (((cell_far (p := ⟨gb102, _, none⟩) NB101_102.out _).trans (hHeld.2.1)))))))), ((cell_far (p := ⟨gb102, _, none⟩) NB101_102.out _).trans (((cell_far (p := ⟨gb102, _, none⟩) NB101_102.out _).trans (((cell_far (p := ⟨gb102, _, none⟩) NB101_102.out _).trans (((cell_far (p := ⟨gb102, _, none⟩) NB101_102.out _).trans (hHeld.2.2.1)))))))), ((cell_far (p := ⟨gb102, _, none⟩) NB101_102.out _).trans (((cell_far (p := ⟨gb102, _, none⟩) NB101_102.out _).trans (((cell_far (p := ⟨gb102, _, none⟩) NB101_102.out _).trans (((cell_far (p := ⟨gb102, _, none⟩) NB101_102.out _).trans (hHeld.2.2.2))))))))⟩ (fun hHeld => ?_)
   clear hK K
   refine done_ (done_of HT_.out (by kernel_rfl)) ?_
   try go_wp2_with (first | ((with_reducible refine gate_callee (f := 56) rfl ?_); refine goesL_ (some 24) rfl rfl Try.func56 (by kernel_rfl) rfl #[.pointer (some ⟨g0_, 0, none⟩), .pointer (some ⟨gb102, 0, none⟩)] rfl Z33.z17 ?_; (with_reducible refine (spec_l03Join.calls k a0_0 a0_1 a0_2 A0_3 c0_3 l0_3 a0_0 a0_1 1 A1 c1 l1 t103 t104 t105 t106 _ ?side1 ?side2 ?side3 ?side4 ?side5 ?side6 A3.out).mono ?_); (case side1 => exact (by exact Kd.C_below HR0_3.out Z33.z2)); (case side2 => exact HC0_3.out); (case side3 => exact (by exact Kd.C_below HR1.out Z33.z2)); (case side4 => exact HC1.out); (case side5 => exact Z33.z15); (case side6 => exact Z33.z7); rintro e w14 ⟨v107, rfl, ho0, hb⟩; refine ⟨_, rfl, ?_⟩; have HO108 := Z33.k (Kd.R_lower ho0 (below_size Z33.z2)); replace BK101 := Z33.k (Z33.bb BK101 Z33.z15 hb); replace BK102 := Z33.k (blk_below (g := gb102) (o := .cells #[.int .i64 a0_0, .int .i64 a0_1, .int .i64 1, .slice A1 l1.length c1] 28 (0, 0)) Z33.z7 hb); replace HB := Z33.k (below_step Z33.z2 hb); (try clear hb); (try clear hb2); (try clear hk); (try clear hi); (try clear ho0)) | ((with_reducible refine gate_dst (N := 7) rfl ?_); refine box_event ?hg (N := 7) ?hd (cs := #[.int .i64 0, .int .i64 0, .int .i64 0, .slice none 0 0]) (t := 28) ?hr ?_; (case hd => rfl); (case hg => rfl); (case hr => first | (go_simp; done) | (go_simp; rfl)); intro gb109 hg w15 hbox hb; have BK109 := Z33.k (hbox); have GW109 := Z33.k (show w.heap.size ≤ gb109 from (by rw [hg]; exact (below_size Z33.z2))); have GE109 := Z33.k (show w.heap.size ≤ gb109 from (by rw [hg]; exact (below_size Z33.z2))); have NB101_109 := Z33.k (show g0_ ≠ gb109 from (by rw [hg]; exact Nat.ne_of_lt (Z33.bl BK101 Z33.z5))); have NB109_101 := Z33.k (show gb109 ≠ g0_ from (by rw [hg]; exact Nat.ne_of_gt (Z33.bl BK101 Z33.z5))); have NB102_109 := Z33.k (show gb102 ≠ gb109 from (by rw [hg]; exact Nat.ne_of_lt (Z33.bl BK102 Z33.z8))); have NB109_102 := Z33.k (show gb109 ≠ gb102 from (by rw [hg]; exact Nat.ne_of_gt (Z33.bl BK102 Z33.z8))); replace HO108 := Z33.k (Kd.R_below (by (with_reducible repeat (first | apply Kd.R_alloc | apply Kd.R_drewN | apply Kd.R_drew)); exact HO108.out) hb); replace BK101 := Z33.k (Z33.bb BK101 Z33.z5 hb); replace BK102 := Z33.k (Z33.bb BK102 Z33.z8 hb); replace HB := Z33.k (below_step Z33.z2 hb); clear hb hbox hg; have hnb16 := NB109_101.out; have hnc16 := NB101_109.out; have hnb17 := NB109_102.out; have hnc17 := NB102_109.out; obtain ⟨hcz18_0, hcz18_1, hcz18_2, hcz18_3, hfz18_0, hfz18_1, hfz18_2, hfz18_3⟩ := cells4 BK109.out; obtain ⟨Ao19, co19, eo19⟩ := Kd.R_slice HO108.out; subst eo19) | ((with_reducible refine gate_callee (f := 57) rfl ?_); refine goesL_ (some 26) rfl rfl Try.func57 (by kernel_rfl) rfl #[.pointer (some ⟨gb109, 0, none⟩)] rfl Z33.z17 ?_; (with_reducible refine (spec_l03Reduced.calls k t103 t104 t105 Ao19 co19 t106 t110 t111 t112 t113 t116 t119 _ ?side1 ?side2 ?side3 A4.out).mono ?_); (case side1 => exact (by refine (Kd.R_reads' (e := 2) (base := w.heap.size) (ok := fun k_ => True) (n := t106.length) (c := co19) ?_).2.2; exact Z33.z1)); (case side2 => exact (Kd.R_reads' HO108.out).2.1); (case side3 => exact Z33.z6); rintro e w20 ⟨v114, v117, rfl, ho0, ho1, hb⟩; refine ⟨_, rfl, ?_⟩; have HO115 := Z33.k (Kd.R_lower (Kd.R_new' ho0 (Kd.R_lt Z33.z1)) (below_size Z33.z3)); have HO118 := Z33.k (Kd.R_lower (Kd.R_new' ho1 (Kd.R_lt Z33.z1)) (below_size Z33.z3)); replace HO108 := Z33.k (Kd.R_mono (Kd.R_told (Kd.R_told (Kd.R_old Z33.z1 hb) (Kd.R_base ho0)) (Kd.R_base ho1)) (fun _ h_ => h_.1)); replace BK101 := Z33.k (Z33.bb BK101 (by (repeat (first | (with_reducible first | refine blk_drewN ?_ _ | refine blk_drew ?_ | refine blk_alloc ?_ _) | refine blk_far ?_ NB101_109.out _)); exact BK101.out) hb); replace BK102 := Z33.k (Z33.bb BK102 (by (repeat (first | (with_reducible first | refine blk_drewN ?_ _ | refine blk_drew ?_ | refine blk_alloc ?_ _) | refine blk_far ?_ NB102_109.out _)); exact BK102.out) hb); replace BK109 := Z33.k (blk_below (g := gb109) (o := .cells #[.int .i64 t103, .int .i64 t104, .int .i64 t105, .slice Ao19 t106.length co19] 28 (0, 0)) Z33.z6 hb); replace HB := Z33.k (below_step Z33.z3 hb); (try clear hb); (try clear hb2); (try clear hk); (try clear hi); (try clear ho0); (try clear ho1)) | ((with_reducible refine gate_dst (N := 8) rfl ?_); refine box_event ?hg (N := 8) ?hd (cs := #[.int .i64 0, .int .i64 0, .int .i64 0, .slice none 0 0]) (t := 28) ?hr ?_; (case hd => rfl); (case hg => rfl); (case hr => first | (go_simp; done) | (go_simp; rfl)); intro gb120 hg w21 hbox hb; have BK120 := Z33.k (hbox); have GW120 := Z33.k (show w.heap.size ≤ gb120 from (by rw [hg]; exact (below_size Z33.z3))); have GE120 := Z33.k (show w.heap.size ≤ gb120 from (by rw [hg]; exact (below_size Z33.z3))); have NB101_120 := Z33.k (show g0_ ≠ gb120 from (by rw [hg]; exact Nat.ne_of_lt (Z33.bl BK101 Z33.z5))); have NB120_101 := Z33.k (show gb120 ≠ g0_ from (by rw [hg]; exact Nat.ne_of_gt (Z33.bl BK101 Z33.z5))); have NB102_120 := Z33.k (show gb102 ≠ gb120 from (by rw [hg]; exact Nat.ne_of_lt (Z33.bl BK102 Z33.z8))); have NB120_102 := Z33.k (show gb120 ≠ gb102 from (by rw [hg]; exact Nat.ne_of_gt (Z33.bl BK102 Z33.z8))); have NB109_120 := Z33.k (show gb109 ≠ gb120 from (by rw [hg]; exact Nat.ne_of_lt (Z33.bl BK109 Z33.z13))); have NB120_109 := Z33.k (show gb120 ≠ gb109 from (by rw [hg]; exact Nat.ne_of_gt (Z33.bl BK109 Z33.z13))); replace HO108 := Z33.k (Kd.R_below (by (with_reducible repeat (first | apply Kd.R_alloc | apply Kd.R_drewN | apply Kd.R_drew)); exact HO108.out) hb); replace HO115 := Z33.k (Kd.R_below (by (with_reducible repeat (first | apply Kd.R_alloc | apply Kd.R_drewN | apply Kd.R_drew)); exact HO115.out) hb); replace HO118 := Z33.k (Kd.R_below (by (with_reducible repeat (first | apply Kd.R_alloc | apply Kd.R_drewN | apply Kd.R_drew)); exact HO118.out) hb); replace BK101 := Z33.k (Z33.bb BK101 Z33.z5 hb); replace BK102 := Z33.k (Z33.bb BK102 Z33.z8 hb); replace BK109 := Z33.k (Z33.bb BK109 Z33.z13 hb); replace HB := Z33.k (below_step Z33.z3 hb); clear hb hbox hg; have hnb22 := NB120_101.out; have hnc22 := NB101_120.out; have hnb23 := NB120_102.out; have hnc23 := NB102_120.out; have hnb24 := NB120_109.out; have hnc24 := NB109_120.out; obtain ⟨hcz25_0, hcz25_1, hcz25_2, hcz25_3, hfz25_0, hfz25_1, hfz25_2, hfz25_3⟩ := cells4 BK120.out; obtain ⟨Ao26, co26, eo26⟩ := Kd.R_slice HO115.out; subst eo26; have hnb27 := NB101_102.out; have hnc27 := NB102_101.out; obtain ⟨hcz28_0, hcz28_1, hcz28_2, hcz28_3, hfz28_0, hfz28_1, hfz28_2, hfz28_3⟩ := cells4 BK101.out) | ((with_reducible refine gate_dst (N := 34) rfl ?_); refine Kd.R_make (Kd.int .i64) _ 2 rfl (N := 34) rfl 22 _ _ rfl a0_2 rfl rfl Try.underlying22 (.int .i64 0) 8 info2 rfl (by decide) (by omega) 0 (ok := fun _ => True) (okp := fun _ => True) rfl (fun _ hk => hk) trivial (of_decide_eq_true Z33.z12) (Nat.le_trans (Nat.mul_le_mul_right _ (of_decide_eq_true Z33.z12 : a0_2.toNat ≤ 35184372088832)) (by omega)) (Below.refl _ _) (Nat.le_refl _) ?_; intro v122 w29 ho30 hb hg_ hnew_; clear hg_ hnew_; (first | rw [← Ny121.out] at ho30 | (simp only [Int.reduceToNat] at ho30; rw [← Ny121.out] at ho30)); have HO123 := Z33.k (Kd.R_lower (Kd.R_new' (Kd.R_new' (Kd.R_new' ho30 (Kd.R_lt Z33.z11)) (Kd.R_lt Z33.z10)) (Kd.R_lt Z33.z9)) (below_size Z33.z4)); replace HO108 := Z33.k (Kd.R_elder' Z33.z11 (Kd.R_base ho30) hb); replace HO115 := Z33.k (Kd.R_elder' Z33.z10 (Kd.R_base ho30) hb); replace HO118 := Z33.k (Kd.R_elder' Z33.z9 (Kd.R_base ho30) hb); replace BK101 := Z33.k (Z33.bb BK101 (by (repeat (first | (with_reducible first | refine blk_drewN ?_ _ | refine blk_drew ?_ | refine blk_alloc ?_ _) | refine blk_far ?_ NB101_120.out _)); exact BK101.out) hb); replace BK102 := Z33.k (Z33.bb BK102 (by (repeat (first | (with_reducible first | refine blk_drewN ?_ _ | refine blk_drew ?_ | refine blk_alloc ?_ _) | refine blk_far ?_ NB102_120.out _)); exact BK102.out) hb); replace BK109 := Z33.k (Z33.bb BK109 (by (repeat (first | (with_reducible first | refine blk_drewN ?_ _ | refine blk_drew ?_ | refine blk_alloc ?_ _) | refine blk_far ?_ NB109_120.out _)); exact BK109.out) hb); replace BK120 := Z33.k (blk_below (g := gb120) (o := .cells #[.int .i64 t110, .int .i64 t111, .int .i64 t112, .slice Ao26 t113.length co26] 28 (0, 0)) (by (with_reducible repeat (first | refine blk_drewN ?_ _ | refine blk_drew ?_ | refine blk_alloc ?_ _)); refine blk_put (cs := #[.int .i64 t110, .int .i64 t111, .int .i64 t112, .slice none 0 0]) ?_ 3 _ rfl; (with_reducible repeat (first | refine blk_drewN ?_ _ | refine blk_drew ?_ | refine blk_alloc ?_ _)); refine blk_put (cs := #[.int .i64 t110, .int .i64 t111, .int .i64 0, .slice none 0 0]) ?_ 2 _ rfl; (with_reducible repeat (first | refine blk_drewN ?_ _ | refine blk_drew ?_ | refine blk_alloc ?_ _)); refine blk_put (cs := #[.int .i64 t110, .int .i64 0, .int .i64 0, .slice none 0 0]) ?_ 1 _ rfl; (with_reducible repeat (first | refine blk_drewN ?_ _ | refine blk_drew ?_ | refine blk_alloc ?_ _)); refine blk_put (cs := #[.int .i64 0, .int .i64 0, .int .i64 0, .slice none 0 0]) ?_ 0 _ rfl; (with_reducible repeat (first | refine blk_drewN ?_ _ | refine blk_drew ?_ | refine blk_alloc ?_ _)); exact BK120.out) hb); replace HB := Z33.k (below_step Z33.z4 hb); clear hb ho30))
   go_loopg [12] k (fun kq v12 w' => ∃ (x11_1 : List Int) (x12_1 : Int), v12 = .int .i64 x12_1 ∧ Aside0 (spec_l03Solve.l0 kq t116 x11_1 x12_1 a0_0 a0_1 a0_2 l0_3 t103 t104 t105 t106 t110 t111 t112 t113 = some (r1, r2)) ∧ Aside0 (kq ≤ k) ∧ Aside0 (Kd.R (Kd.int .i64) 2 w' w.heap.size (fun k_ => some k_ ≠ (v122 : Value).ownBlock ∧ some k_ ≠ ((.slice Ao19 t106.length co19) : Value).ownBlock ∧ some k_ ≠ ((.slice Ao26 t113.length co26) : Value).ownBlock) v117 t116) ∧ Aside0 (Kd.R (Kd.int .i64) 2 w' w.heap.size (fun k_ => some k_ ≠ (v117 : Value).ownBlock ∧ some k_ ≠ ((.slice Ao19 t106.length co19) : Value).ownBlock ∧ some k_ ≠ ((.slice Ao26 t113.length co26) : Value).ownBlock) v122 x11_1) ∧ Aside0 (Kd.R (Kd.int .i64) 2 w' w.heap.size (fun k_ => some k_ ≠ (v117 : Value).ownBlock ∧ some k_ ≠ (v122 : Value).ownBlock ∧ some k_ ≠ ((.slice Ao26 t113.length co26) : Value).ownBlock) (.slice Ao19 t106.length co19) t106) ∧ Aside0 (Kd.R (Kd.int .i64) 2 w' w.heap.size (fun k_ => some k_ ≠ (v117 : Value).ownBlock ∧ some k_ ≠ (v122 : Value).ownBlock ∧ some k_ ≠ ((.slice Ao19 t106.length co19) : Value).ownBlock) (.slice Ao26 t113.length co26) t113) ∧ Aside0 (w'.heap[g0_]? = some (.cells #[.int .i64 a0_0, .int .i64 a0_1, .int .i64 a0_2, (.slice A0_3 l0_3.length c0_3)] 28 (0, 0))) ∧ Aside0 (w'.heap[gb102]? = some (.cells #[.int .i64 a0_0, .int .i64 a0_1, .int .i64 1, (.slice A1 l1.length c1)] 28 (0, 0))) ∧ Aside0 (w'.heap[gb109]? = some (.cells #[.int .i64 t103, .int .i64 t104, .int .i64 t105, (.slice Ao19 t106.length co19)] 28 (0, 0))) ∧ Aside0 (w'.heap[gb120]? = some (.cells #[.int .i64 t110, .int .i64 t111, .int .i64 t112, (.slice Ao26 t113.length co26)] 28 (0, 0))) ∧ Aside0 (Below w.heap.size w w'))
   case atStart => exact ⟨(y121), (0), (by first | rfl | (simp; done) | (simp [*]; done)), H', ⟨Nat.le_refl _⟩, ⟨(by (with_reducible repeat (first | apply Kd.R_alloc | apply Kd.R_drewN | apply Kd.R_drew)); exact Kd.R_mono HO118.out (fun _ hk => ⟨hk.2, ⟨hk.1.2, hk.1.1⟩⟩))⟩, ⟨(by (with_reducible repeat (first | apply Kd.R_alloc | apply Kd.R_drewN | apply Kd.R_drew)); exact Kd.R_mono HO123.out (fun _ hk => ⟨hk.2, ⟨hk.1.1.2, hk.1.2⟩⟩))⟩, ⟨(by (with_reducible repeat (first | apply Kd.R_alloc | apply Kd.R_drewN | apply Kd.R_drew)); exact Kd.R_mono HO108.out (fun _ hk => ⟨hk.1.2, ⟨hk.2, hk.1.1.2⟩⟩))⟩, ⟨(by (with_reducible repeat (first | apply Kd.R_alloc | apply Kd.R_drewN | apply Kd.R_drew)); exact Kd.R_mono HO115.out (fun _ hk => ⟨hk.1.1, ⟨hk.2, hk.1.2⟩⟩))⟩, ⟨Z33.z5⟩, ⟨Z33.z8⟩, ⟨Z33.z13⟩, ⟨(by (with_reducible repeat (first | refine blk_drewN ?_ _ | refine blk_drew ?_ | refine blk_alloc ?_ _)); exact BK120.out)⟩, ⟨Z33.z4⟩⟩
   case round =>
    clear H'
    try clear c1
    try clear c2
    try clear p2
    try clear c3
    try clear c5
    try clear c5b0
    try clear c5b1
    try clear c6
    try clear c6b0
    try clear c6b1
    try clear c16
    try clear c17
    try clear c22
    try clear c23
    try clear c24
    try clear c27
    try clear hcz18_0
    try clear hcz18_1
    try clear hcz18_2
    try clear hcz18_3
    try clear hcz25_0
    try clear hcz25_1
    try clear hcz25_2
    try clear hcz25_3
    try clear hcz28_0
    try clear hcz28_1
    try clear hcz28_2
    try clear hcz28_3
    try clear hfz18_0
    try clear hfz18_1
    try clear hfz18_2
    try clear hfz18_3
    try clear hfz25_0
    try clear hfz25_1
    try clear hfz25_2
    try clear hfz25_3
    try clear hfz28_0
    try clear hfz28_1
    try clear hfz28_2
    try clear hfz28_3
    obtain ⟨x11_1, x12_1, rfl, HA, HK1, HO_9, HO_11, HO_110003, HO_121003, BK101, BK102, BK109, BK120, HB⟩ := hrel
    cases gk with
    | zero => exact absurd HA.out (by simp [spec_l03Solve.l0])
    | succ k1 =>
     have H := HA.out
     clear HA
     simp only [spec_l03Solve.l0] at H
     by_cases c31 : x12_1 < (t116.length : Int)
     ·rw [if_pos c31] at H
      have c31b0 : decide (x12_1 < (t116.length : Int)) = true := decide_eq_true c31; clear c31
      by_cases c32 : 0 ≤ x12_1
      ·rw [if_pos c32] at H
       have c32b0 : decide (0 ≤ x12_1) = true := decide_eq_true c32; clear c32
       by_cases c33 : (rd t116 x12_1) = a0_2
       ·rw [if_pos c33] at H
        have c33b0 : ((rd t116 x12_1) == a0_2) = true := beq_iff_eq.mpr c33; have c33b1 : ((rd t116 x12_1) != a0_2) = false := bne_eq_false_iff_eq.mpr c33; clear c33; simp only [Option.some.injEq, Prod.mk.injEq] at H
        obtain ⟨rfl, rfl⟩ := H; obtain ⟨Ao34, co34, eo34⟩ := Kd.R_slice HO_9.out; subst eo34
        try go_wp2
        replace HO_9 := Z33.k (Kd.R_drew HO_9.out); replace HO_11 := Z33.k (Kd.R_drew HO_11.out); replace HO_110003 := Z33.k (Kd.R_drew HO_110003.out); replace HO_121003 := Z33.k (Kd.R_drew HO_121003.out); replace BK101 := Z33.k (blk_drew BK101.out); replace BK102 := Z33.k (blk_drew BK102.out); replace BK109 := Z33.k (blk_drew BK109.out); replace BK120 := Z33.k (blk_drew BK120.out); replace HB := Z33.k (below_drew1 HB.out); have p124 : 0 ≤ (x12_1 : Int) := of_decide_eq_true Z33.z12; have q124 : x12_1 < (t116.length : Int) := of_decide_eq_true Z33.z12; obtain ⟨ad124, e124, hx124_0⟩ := Kd.at_int (Kd.R_reads' HO_9.out).2.2 x12_1 p124 q124; cases e124; replace p124 := eq_true p124; replace q124 := eq_true q124; refine start_ (n := 9) (S := fun w' => w'.cell? ⟨g0_, 0, none⟩ = some (.int .i64 a0_0) ∧ w'.cell? ⟨g0_, 1, none⟩ = some (.int .i64 a0_1) ∧ w'.cell? ⟨g0_, 2, none⟩ = some (.int .i64 a0_2) ∧ w'.cell? ⟨g0_, 3, none⟩ = some (.slice A0_3 l0_3.length c0_3) ∧ w'.cell? (ad124.add (x12_1).toNat) = some (.int .i64 (rd t116 x12_1))) (ds := []) #[false, false, false, false, false, false, false, false, false] (by kernel_rfl) rfl rfl ⟨(blk_cell BK101.out 0).trans rfl, (blk_cell BK101.out 1).trans rfl, (blk_cell BK101.out 2).trans rfl, (blk_cell BK101.out 3).trans rfl, hx124_0⟩ (fun hHeld => ?_); refine with_tabW spec_l03Solve.tab8 spec_l03Solve.bits8 (fun HT_ HW_ => ?_); generalize wr.drew = w35 at HO_9 HO_11 HO_110003 HO_121003 BK101 BK102 BK109 BK120 HB hx124_0 hHeld ⊢
        refine Z33.pP 0 41 (Z33.b 9 1) (any_of HT_.out (by kernel_rfl)) ?_; refine Z33.pP 1 42 (Z33.b 9 3) (any_of HT_.out (by kernel_rfl)) ?_; refine Z33.pP 2 43 (Z33.b 9 7) (any_of HT_.out (by kernel_rfl)) ?_; refine Z33.pP 4 45 (Z33.b 9 23) (any_of HT_.out (by kernel_rfl)) ?_; refine Z33.pP 5 46 (Z33.b 9 55) (any_of HT_.out (by kernel_rfl)) ?_; refine Z33.pP 6 47 (Z33.b 9 119) (any_of HT_.out (by kernel_rfl)) ?_; refine Z33.pT5 3 44 (Z33.b 9 127) (take_ofW HT_.out HW_.out (by kernel_rfl)) hHeld ?_; refine Z33.pT5 7 48 (Z33.b 9 255) (take_ofW HT_.out HW_.out (by kernel_rfl)) hHeld ?_; refine Z33.pP 8 49 (Z33.b 9 511) (any_of HT_.out (by kernel_rfl)) ?_; refine done_ (done_of HT_.out (by kernel_rfl)) ?_
        try go_wp2
        go_ret2
        exact ⟨_, (by first | rfl | (simp [errW_none, errW_some] <;> rfl) | (simp [*, errW_none, errW_some] <;> rfl)), (by first | exact Kd.R_nil _ _ _ _ _ | exact Kd.N_nil _ _ _ _ _ | exact Kd.V_nil _ _ _ _ _ | exact Kd.Q_nil _ _ _ _ _ | exact Kd.S_nil _ _ _ _ _), Z33.z4⟩
       rw [if_neg c33] at H; have c33b0 : ((rd t116 x12_1) == a0_2) = false := beq_eq_false_iff_ne.mpr c33; have c33b1 : ((rd t116 x12_1) != a0_2) = true := bne_iff_ne.mpr c33; obtain ⟨ji36, hji36⟩ : ∃ j_ : Int, (wrap64 ((wrap64 (x12_1 * t105)) + a0_2)) = j_ := ⟨_, rfl⟩; replace H : (if 0 ≤ (ji36) then (if (ji36) < (t113.length : Int) then (if 0 ≤ (rd t116 x12_1) then (if (rd t116 x12_1) < (x11_1.length : Int) then (spec_l03Solve.l0 k1 t116 (x11_1.set ((rd t116 x12_1) : Int).toNat (rd t113 (ji36))) (wrap64 (x12_1 + 1)) a0_0 a0_1 a0_2 l0_3 t103 t104 t105 t106 t110 t111 t112 t113) else (none)) else (none)) else (none)) else (none)) = some (r1, r2) := by first | (rw [hji36] at H; exact H) | (simp only [hji36] at H ⊢; exact H)
       have hji36w : (IntKind.i64.wrap ((wrap64 (x12_1 * t105)) + a0_2)) = ji36 := (i64_w _).trans hji36
       by_cases c37 : 0 ≤ (ji36)
       ·rw [if_pos c37] at H
        have c37b0 : decide (0 ≤ (ji36)) = true := decide_eq_true c37; clear c37
        by_cases c38 : (ji36) < (t113.length : Int)
        ·rw [if_pos c38] at H
         have c38b0 : decide ((ji36) < (t113.length : Int)) = true := decide_eq_true c38; clear c38
         by_cases c39 : 0 ≤ (rd t116 x12_1)
         ·rw [if_pos c39] at H
          have c39b0 : decide (0 ≤ (rd t116 x12_1)) = true := decide_eq_true c39; clear c39
          by_cases c40 : (rd t116 x12_1) < (x11_1.length : Int)
          ·rw [if_pos c40] at H
           have c40b0 : decide ((rd t116 x12_1) < (x11_1.length : Int)) = true := decide_eq_true c40; clear c40; obtain ⟨y127, hy127⟩ : ∃ y_ : List Int, y_ = (x11_1.set ((rd t116 x12_1) : Int).toNat (rd t113 (ji36))) := ⟨_, rfl⟩; replace H : (spec_l03Solve.l0 k1 t116 y127 (wrap64 (x12_1 + 1)) a0_0 a0_1 a0_2 l0_3 t103 t104 t105 t106 t110 t111 t112 t113) = some (r1, r2) := by first | (rw [hy127]; with_reducible exact H) | (have H2_ := (Option.bind_some _ _).symm.trans H; rw [hy127]; with_reducible exact H2_) | (have H2_ := (Option.bind_some _ _).symm.trans H; with_reducible exact H2_) | with_reducible exact H | (rw [hy127]; exact H) | exact H
           have Ny127 := Z33.k hy127; clear hy127; have H' := Z33.k H; clear H; obtain ⟨Ao42, co42, eo42⟩ := Kd.R_slice HO_9.out; subst eo42
           try go_wp2
           replace HO_9 := Z33.k (Kd.R_drew HO_9.out); replace HO_11 := Z33.k (Kd.R_drew HO_11.out); replace HO_110003 := Z33.k (Kd.R_drew HO_110003.out); replace HO_121003 := Z33.k (Kd.R_drew HO_121003.out); replace BK101 := Z33.k (blk_drew BK101.out); replace BK102 := Z33.k (blk_drew BK102.out); replace BK109 := Z33.k (blk_drew BK109.out); replace BK120 := Z33.k (blk_drew BK120.out); replace HB := Z33.k (below_drew1 HB.out); have p124 : 0 ≤ (x12_1 : Int) := of_decide_eq_true Z33.z12; have q124 : x12_1 < (t116.length : Int) := of_decide_eq_true Z33.z12; obtain ⟨ad124, e124, hx124_0⟩ := Kd.at_int (Kd.R_reads' HO_9.out).2.2 x12_1 p124 q124; cases e124; replace p124 := eq_true p124; replace q124 := eq_true q124; refine start_ (n := 9) (S := fun w' => w'.cell? ⟨g0_, 0, none⟩ = some (.int .i64 a0_0) ∧ w'.cell? ⟨g0_, 1, none⟩ = some (.int .i64 a0_1) ∧ w'.cell? ⟨g0_, 2, none⟩ = some (.int .i64 a0_2) ∧ w'.cell? ⟨g0_, 3, none⟩ = some (.slice A0_3 l0_3.length c0_3) ∧ w'.cell? (ad124.add (x12_1).toNat) = some (.int .i64 (rd t116 x12_1))) (ds := []) #[false, false, false, false, false, false, false, false, false] (by kernel_rfl) rfl rfl ⟨(blk_cell BK101.out 0).trans rfl, (blk_cell BK101.out 1).trans rfl, (blk_cell BK101.out 2).trans rfl, (blk_cell BK101.out 3).trans rfl, hx124_0⟩ (fun hHeld => ?_); refine with_tabW spec_l03Solve.tab8 spec_l03Solve.bits8 (fun HT_ HW_ => ?_); generalize wr.drew = w43 at HO_9 HO_11 HO_110003 HO_121003 BK101 BK102 BK109 BK120 HB hx124_0 hHeld ⊢
           refine Z33.pP 0 41 (Z33.b 9 1) (any_of HT_.out (by kernel_rfl)) ?_; refine Z33.pP 1 42 (Z33.b 9 3) (any_of HT_.out (by kernel_rfl)) ?_; refine Z33.pP 2 43 (Z33.b 9 7) (any_of HT_.out (by kernel_rfl)) ?_; refine Z33.pP 4 45 (Z33.b 9 23) (any_of HT_.out (by kernel_rfl)) ?_; refine Z33.pP 5 46 (Z33.b 9 55) (any_of HT_.out (by kernel_rfl)) ?_; refine Z33.pP 6 47 (Z33.b 9 119) (any_of HT_.out (by kernel_rfl)) ?_; refine Z33.pT5 3 44 (Z33.b 9 127) (take_ofW HT_.out HW_.out (by kernel_rfl)) hHeld ?_; refine Z33.pT5 7 48 (Z33.b 9 255) (take_ofW HT_.out HW_.out (by kernel_rfl)) hHeld ?_; refine Z33.pP 8 49 (Z33.b 9 511) (any_of HT_.out (by kernel_rfl)) ?_; refine done_ (done_of HT_.out (by kernel_rfl)) ?_
           try go_wp2
           replace HO_9 := Z33.k (Kd.R_drew HO_9.out); replace HO_11 := Z33.k (Kd.R_drew HO_11.out); replace HO_110003 := Z33.k (Kd.R_drew HO_110003.out); replace HO_121003 := Z33.k (Kd.R_drew HO_121003.out); replace BK101 := Z33.k (blk_drew BK101.out); replace BK102 := Z33.k (blk_drew BK102.out); replace BK109 := Z33.k (blk_drew BK109.out); replace BK120 := Z33.k (blk_drew BK120.out); replace HB := Z33.k (below_drew1 HB.out); have p125 : 0 ≤ (x12_1 : Int) := of_decide_eq_true Z33.z12; have q125 : x12_1 < (t116.length : Int) := of_decide_eq_true Z33.z12; obtain ⟨ad125, e125, hx125_0⟩ := Kd.at_int (Kd.R_reads' HO_9.out).2.2 x12_1 p125 q125; obtain rfl : ad124 = ad125 := (by injection e125); replace p125 := eq_true p125; replace q125 := eq_true q125; have p126 : 0 ≤ ((ji36) : Int) := of_decide_eq_true Z33.z12; have q126 : (ji36) < (t113.length : Int) := of_decide_eq_true Z33.z12; obtain ⟨ad126, e126, hx126_0⟩ := Kd.at_int (Kd.R_reads' HO_121003.out).2.2 (ji36) p126 q126; cases e126; replace p126 := eq_true p126; replace q126 := eq_true q126; have p41 : 0 ≤ ((rd t116 x12_1) : Int) := of_decide_eq_true Z33.z12; have q41 : ((rd t116 x12_1) : Int) < ((x11_1.length : Int) : Int) := of_decide_eq_true Z33.z12; obtain ⟨go41, co41, eo41, gb41, gl41, cl41, HG41⟩ := Kd.R_form HO_11.out (by omega)
           (first | cases eo41 | (injection eo41 with ea_ en_ ec_; (first | subst ea_ | (injection ea_ with ea_; subst ea_)); subst ec_; clear en_))
           have GB41 := Z33.k gb41; have GG41 := Z33.k HG41; clear gb41 gl41 HG41; obtain ⟨hx41_0, hf41_0⟩ := Kd.R_celln 0 HO_11.out ((rd t116 x12_1) : Int) p41 q41; replace p41 := eq_true p41; replace q41 := eq_true q41; have HP45 := Kd.R_putn HO_11.out ((rd t116 x12_1) : Int) (rd t113 (ji36)); rw [← Ny127.out] at HP45; have HQ45 := Z33.k HP45; clear HP45; refine start_ (n := 20) (S := fun w' => w'.cell? ⟨gb120, 0, none⟩ = some (.int .i64 t110) ∧ w'.cell? ⟨gb120, 1, none⟩ = some (.int .i64 t111) ∧ w'.cell? ⟨gb120, 2, none⟩ = some (.int .i64 t112) ∧ w'.cell? ⟨gb120, 3, none⟩ = some (.slice (some ad126) t113.length co26) ∧ w'.cell? ⟨gb109, 0, none⟩ = some (.int .i64 t103) ∧ w'.cell? ⟨gb109, 1, none⟩ = some (.int .i64 t104) ∧ w'.cell? ⟨gb109, 2, none⟩ = some (.int .i64 t105) ∧ w'.cell? ⟨gb109, 3, none⟩ = some (.slice Ao19 t106.length co19) ∧ w'.cell? ⟨g0_, 0, none⟩ = some (.int .i64 a0_0) ∧ w'.cell? ⟨g0_, 1, none⟩ = some (.int .i64 a0_1) ∧ w'.cell? ⟨g0_, 2, none⟩ = some (.int .i64 a0_2) ∧ w'.cell? ⟨g0_, 3, none⟩ = some (.slice A0_3 l0_3.length c0_3) ∧ w'.cell? (ad124.add (x12_1).toNat) = some (.int .i64 (rd t116 x12_1)) ∧ w'.cell? (ad126.add ((ji36)).toNat) = some (.int .i64 (rd t113 (ji36)))) (ds := [19]) #[false, false, false, false, false, false, false, false, false, false, false, false, false, false, false, false, false, false, false, false] (by kernel_rfl) rfl rfl ⟨(blk_cell BK120.out 0).trans rfl, (blk_cell BK120.out 1).trans rfl, (blk_cell BK120.out 2).trans rfl, (blk_cell BK120.out 3).trans rfl, (blk_cell BK109.out 0).trans rfl, (blk_cell BK109.out 1).trans rfl, (blk_cell BK109.out 2).trans rfl, (blk_cell BK109.out 3).trans rfl, (blk_cell BK101.out 0).trans rfl, (blk_cell BK101.out 1).trans rfl, (blk_cell BK101.out 2).trans rfl, (blk_cell BK101.out 3).trans rfl, hx125_0, hx126_0⟩ (fun hHeld => ?_); refine with_tabW spec_l03Solve.tab10 spec_l03Solve.bits10 (fun HT_ HW_ => ?_); generalize w43.drew = w44 at HO_9 HO_11 HO_110003 HO_121003 BK101 BK102 BK109 BK120 HB GG41 HQ45 hf41_0 hx125_0 hx126_0 hx41_0 hHeld ⊢
           refine Z33.pP 0 50 (Z33.b 20 1) (any_of HT_.out (by kernel_rfl)) ?_; refine Z33.pP 1 51 (Z33.b 20 3) (any_of HT_.out (by kernel_rfl)) ?_; refine Z33.pP 2 52 (Z33.b 20 7) (any_of HT_.out (by kernel_rfl)) ?_; refine Z33.pP 3 53 (Z33.b 20 15) (any_of HT_.out (by kernel_rfl)) ?_; refine Z33.pP 5 55 (Z33.b 20 47) (any_of HT_.out (by kernel_rfl)) ?_; refine Z33.pP 7 57 (Z33.b 20 175) (any_of HT_.out (by kernel_rfl)) ?_; refine Z33.pP 8 58 (Z33.b 20 431) (any_of HT_.out (by kernel_rfl)) ?_; refine Z33.pP 11 61 (Z33.b 20 2479) (any_of HT_.out (by kernel_rfl)) ?_; refine Z33.pP 12 62 (Z33.b 20 6575) (any_of HT_.out (by kernel_rfl)) ?_; refine Z33.pP 13 63 (Z33.b 20 14767) (any_of HT_.out (by kernel_rfl)) ?_; refine Z33.pT14 4 54 (Z33.b 20 14783) (take_ofW HT_.out HW_.out (by kernel_rfl)) hHeld ?_; refine Z33.pT14 6 56 (Z33.b 20 14847) (take_ofW HT_.out HW_.out (by kernel_rfl)) hHeld ?_; refine Z33.pT14 9 59 (Z33.b 20 15359) (take_ofW HT_.out HW_.out (by kernel_rfl)) hHeld ?_; refine Z33.pP 10 60 (Z33.b 20 16383) (any_of HT_.out (by kernel_rfl)) ?_; refine Z33.pT14 14 64 (Z33.b 20 32767) (take_ofW HT_.out HW_.out (by kernel_rfl)) hHeld ?_; refine Z33.pP 15 65 (Z33.b 20 65535) (any_of HT_.out (by kernel_rfl)) ?_; refine Z33.pP 16 66 (Z33.b 20 131071) (any_of HT_.out (by kernel_rfl)) ?_; refine Z33.pT14 17 67 (Z33.b 20 262143) (take_ofW HT_.out HW_.out (by kernel_rfl)) hHeld ?_; refine Z33.pP 18 68 (Z33.b 20 524287) (any_of HT_.out (by kernel_rfl)) ?_; refine last_ (i := 19) (N := none) (Z33.b 20 1048575) rfl rfl (one_of HT_.out (by kernel_rfl)) (by decide) (fun K hK => ?_); refine skip_ (w1 := ?_) (by rfl) rfl ?_ ?_
           rotate_left
           ·go_simp
            rfl
           refine hK.out _ _ ?_; clear hK K; refine done_ (done_of HT_.out (by kernel_rfl)) ?_
           try go_wp2
           go_roundg k1
           case measure => have := HK1.out; omega
           case rel => exact ⟨(y127), (wrap64 (x12_1 + 1)), (by first | rfl | (simp; done) | (simp [*]; done)), H', ⟨(by have := HK1.out; omega)⟩, ⟨(by (with_reducible repeat (first | apply Kd.R_alloc | apply Kd.R_drewN | apply Kd.R_drew)); exact Kd.R_mono (Kd.R_far (p := ⟨go41, ((rd t116 x12_1) : Int).toNat, none⟩) (Kd.R_mono HO_9.out (fun k_ hk => (⟨hk, fun e_ => hk.1 (by rw [e_]; rfl)⟩ : _ ∧ k_ ≠ go41))) (fun _ hk => hk.2) (.int .i64 (rd t113 (ji36)))) (fun _ hk => ⟨hk.1.1, ⟨hk.1.2.1, hk.1.2.2⟩⟩))⟩, ⟨(by (with_reducible repeat (first | apply Kd.R_alloc | apply Kd.R_drewN | apply Kd.R_drew)); exact HQ45.out)⟩, ⟨(by (with_reducible repeat (first | apply Kd.R_alloc | apply Kd.R_drewN | apply Kd.R_drew)); exact Kd.R_mono (Kd.R_far (p := ⟨go41, ((rd t116 x12_1) : Int).toNat, none⟩) (Kd.R_mono HO_110003.out (fun k_ hk => (⟨hk, fun e_ => hk.2.1 (by rw [e_]; rfl)⟩ : _ ∧ k_ ≠ go41))) (fun _ hk => hk.2) (.int .i64 (rd t113 (ji36)))) (fun _ hk => ⟨hk.1.1, ⟨hk.1.2.1, hk.1.2.2⟩⟩))⟩, ⟨(by (with_reducible repeat (first | apply Kd.R_alloc | apply Kd.R_drewN | apply Kd.R_drew)); exact Kd.R_mono (Kd.R_far (p := ⟨go41, ((rd t116 x12_1) : Int).toNat, none⟩) (Kd.R_mono HO_121003.out (fun k_ hk => (⟨hk, fun e_ => hk.2.1 (by rw [e_]; rfl)⟩ : _ ∧ k_ ≠ go41))) (fun _ hk => hk.2) (.int .i64 (rd t113 (ji36)))) (fun _ hk => ⟨hk.1.1, ⟨hk.1.2.1, hk.1.2.2⟩⟩))⟩, ⟨(by (with_reducible repeat (first | refine blk_drewN ?_ _ | refine blk_drew ?_ | refine blk_alloc ?_ _)); refine blk_far ?_ (by have h_ := Kd.R_ne HO_11.out BK101.out (by decide); intro e_; exact h_ (by rw [e_]; rfl)) _; (with_reducible repeat (first | refine blk_drewN ?_ _ | refine blk_drew ?_ | refine blk_alloc ?_ _)); exact BK101.out)⟩, ⟨(by (with_reducible repeat (first | refine blk_drewN ?_ _ | refine blk_drew ?_ | refine blk_alloc ?_ _)); refine blk_far ?_ (by have h_ := Kd.R_ne HO_11.out BK102.out (by decide); intro e_; exact h_ (by rw [e_]; rfl)) _; (with_reducible repeat (first | refine blk_drewN ?_ _ | refine blk_drew ?_ | refine blk_alloc ?_ _)); exact BK102.out)⟩, ⟨(by (with_reducible repeat (first | refine blk_drewN ?_ _ | refine blk_drew ?_ | refine blk_alloc ?_ _)); refine blk_far ?_ (by have h_ := Kd.R_ne HO_11.out BK109.out (by decide); intro e_; exact h_ (by rw [e_]; rfl)) _; (with_reducible repeat (first | refine blk_drewN ?_ _ | refine blk_drew ?_ | refine blk_alloc ?_ _)); exact BK109.out)⟩, ⟨(by (with_reducible repeat (first | refine blk_drewN ?_ _ | refine blk_drew ?_ | refine blk_alloc ?_ _)); refine blk_far ?_ (by have h_ := Kd.R_ne HO_11.out BK120.out (by decide); intro e_; exact h_ (by rw [e_]; rfl)) _; (with_reducible repeat (first | refine blk_drewN ?_ _ | refine blk_drew ?_ | refine blk_alloc ?_ _)); exact BK120.out)⟩, ⟨(by repeat (first | (with_reducible first | exact HB.out | apply below_alloc | apply pw_below_drewN | apply below_drew1 | refine below_set ?_ GB41.out | refine below_set ?_ GE101.out | refine below_set ?_ GE102.out | refine below_set ?_ GE109.out | refine below_set ?_ GE120.out) | exact HB.out))⟩⟩
          rw [if_neg c40] at H; exact absurd H (by simp)
         rw [if_neg c39] at H; exact absurd H (by simp)
        rw [if_neg c38] at H; exact absurd H (by simp)
       rw [if_neg c37] at H; exact absurd H (by simp)
      rw [if_neg c32] at H; exact absurd H (by simp)
     rw [if_neg c31] at H
     have c31b0 : decide (x12_1 < (t116.length : Int)) = false := decide_eq_false c31
     clear c31
     simp only [Option.some.injEq, Prod.mk.injEq] at H
     obtain ⟨rfl, rfl⟩ := H
     obtain ⟨Ao46, co46, eo46⟩ := Kd.R_slice HO_9.out
     subst eo46
     go_wp2
     go_ret2
     exact ⟨_, (by first | rfl | (simp [errW_none, errW_some] <;> rfl) | (simp [*, errW_none, errW_some] <;> rfl)), (by (with_reducible repeat (first | apply Kd.R_alloc | apply Kd.R_drewN | apply Kd.R_drew)); exact Kd.R_mono HO_11.out (fun _ hk => trivial)), Z33.z4⟩
  rw [if_neg c6] at H
  exact absurd H (by simp)
 rw [if_neg c5] at H
 exact absurd H (by simp)
/-! ### spec_l04Columns: function 75 -/
mutual
def spec_l04Columns.l0 : Nat → List (List Int) → Int → Int → Int → Int → List Int → Option ((List (List Int)))
  | 0, _, _, _, _, _, _ => none
  | k + 1, x3, x4, x102000, x102001, x102002, x102003 => if x4 < x102002 then (spec_l04Columns.l1 k x3 x4 (([] : List Int)) 0 x102000 x102001 x102002 x102003) else (some x3)
def spec_l04Columns.l1 : Nat → List (List Int) → Int → List Int → Int → Int → Int → Int → List Int → Option ((List (List Int)))
  | 0, _, _, _, _, _, _, _, _ => none
  | k + 1, x3, x4, x5, x6, x102000, x102001, x102002, x102003 => if x6 < x102001 then (if 0 ≤ (wrap64 ((wrap64 (x6 * x102002)) + x4)) then (if (wrap64 ((wrap64 (x6 * x102002)) + x4)) < (x102003.length : Int) then (if x5.length < 17592186044416 then (spec_l04Columns.l1 k x3 x4 (x5 ++ [rd x102003 (wrap64 ((wrap64 (x6 * x102002)) + x4))]) (wrap64 (x6 + 1)) x102000 x102001 x102002 x102003) else (none)) else (none)) else (none)) else (if x3.length < 5864062014805 then (spec_l04Columns.l0 k (x3 ++ [x5]) (wrap64 (x4 + 1)) x102000 x102001 x102002 x102003) else (none))
end
def spec_l04Columns.f (k : Nat) (a0_0 : Int) (a0_1 : Int) (a0_2 : Int) (l0_3 : List Int) : Option ((List (List Int))) := spec_l04Columns.l0 k (([] : List (List Int))) 0 a0_0 a0_1 a0_2 l0_3
def spec_l04Columns.T9 : Bool × List (List Nat × List Nat) := (true, [([], []), ([], []), ([1], [1]), ([2], [2]), ([3], [3]), ([], []), ([], []), ([6], [6]), ([7], [7]), ([8], [8]), ([5, 9], [5, 9]), ([], []), ([10, 11], [10, 11]), ([4, 12], [4, 12]), ([13], [13]), ([14], [14]), ([0, 15], [0, 15]), ([16, 16, 0, 1, 2, 3, 4, 5, 6, 7, 8, 9, 10, 11, 12, 13, 14, 15, 16], [0, 16])])
def spec_l04Columns.B9 : List Nat := [0, 0, 2, 6, 14, 0, 0, 64, 192, 448, 992, 0, 4064, 8190, 16382, 32766, 65535, 131071]
theorem spec_l04Columns.tab9 : rtab .any (opsOf Try.f75 9) = spec_l04Columns.T9 := by kernel_rfl
theorem spec_l04Columns.bits9 : waitsOk spec_l04Columns.T9.2 spec_l04Columns.B9 = true := by kernel_rfl
def Z75.b (n x : Nat) : Array Bool := ((List.range n).map (fun i => x.testBit i)).toArray
theorem Z75.pP {P : Program} {ops : Array Oper} {Q : Exit → Act → World → Prop} {md : Region.Mode} {S : World → Prop} {ds : List Nat} (i N : Nat) {oi : Oper} {v : Value} {fuel : Nat} {l : Array Bool} {a : Act} {w : World} (l' : Array Bool) (hc : anyB md ops l l' i = true) {a' : Act} (h : wpAnyLast P md ops Q S ds fuel l' a' w) (hi : ops[i]? = some oi := by rfl) (hN : oi.dst = some N := by rfl) (hQ : ∀ c a w, Q (.panic c) (a.put oi.dst v) w → Q (.panic c) a w := by exact fun _ _ _ h => h) (hy : Yields P ops oi v a := by exact Or.inl ⟨(by rfl), by intro w'; go_simp; with_reducible rfl⟩) (ha : a.put (some N) v = a' := by simp only [Act.put, List.setIfInBounds_toArray, List.set_cons_zero, List.set_cons_succ, i64_w, i32_w]; rfl) : wpAnyLast P md ops Q S ds (fuel + 1) l a w := pure_ l' hi hN hc hQ hy ha h
theorem Z75.pT5 {P : Program} {ops : Array Oper} {Q : Exit → Act → World → Prop} {md : Region.Mode} {S : World → Prop} {ds : List Nat} (i N : Nat) {oi : Oper} {v : Value} {fuel : Nat} {l : Array Bool} {a : Act} {w : World} (l' : Array Bool) (hc : takeB md ops ds l l' i = true) (hS : S w) {a' : Act} (h : wpAnyLast P md ops Q S ds fuel l' a' w) (hi : ops[i]? = some oi := by rfl) (hN : oi.dst = some N := by rfl) (hQ : ∀ c a w, Q (.panic c) (a.put oi.dst v) w → Q (.panic c) a w := by exact fun _ _ _ h => h) (hy : YieldsIf P ops S oi v a := by exact Or.inl ⟨(by rfl), by rintro w' ⟨s0, s1, s2, s3, s4⟩; go_simp; with_reducible rfl⟩) (ha : a.put (some N) v = a' := by simp only [Act.put, List.setIfInBounds_toArray, List.set_cons_zero, List.set_cons_succ, i64_w, i32_w]; rfl) : wpAnyLast P md ops Q S ds (fuel + 1) l a w := take_ l' hi hN hc hQ hy hS ha h
theorem Z75.bb {w0 w w1 : World} {g : Nat} {o : Obj} (_B : Aside0 (w0.heap[g]? = some o)) (h : w.heap[g]? = some o) (hb : Below w.heap.size w w1) : w1.heap[g]? = some o := blk_below h hb
theorem Z75.bl {w0 w : World} {g : Nat} {o : Obj} (_B : Aside0 (w0.heap[g]? = some o)) (h : w.heap[g]? = some o) : g < w.heap.size := blk_lt h
theorem Z75.k {p : Prop} (h : p) : Aside0 p := ⟨h⟩
theorem Z75.z3 {P : Prop} (h : P := by (with_reducible repeat (first | apply Kd.S_alloc | apply Kd.S_drewN | apply Kd.S_drew)); exact Kd.S_mono HO_3.out (fun _ hk => hk.2)) : P := h
theorem Z75.z2 {P : Prop} (h : P := by (with_reducible repeat (first | refine blk_drewN ?_ _ | refine blk_drew ?_ | refine blk_alloc ?_ _)); exact BK101.out) : P := h
theorem Z75.z1 {P : Prop} (h : P := by simp only [Act.put, List.setIfInBounds_toArray, List.set_cons_zero, List.set_cons_succ, i64_w, i32_w]; rfl) : P := h
theorem Z75.z0 {P : Prop} (h : P := by repeat (first | (with_reducible first | exact HB.out | apply below_alloc | apply pw_below_drewN | apply below_drew1 | refine below_set ?_ GE101.out) | exact HB.out)) : P := h
set_option maxHeartbeats 8000000 in
set_option maxRecDepth 100000 in
theorem spec_l04Columns.calls (k : Nat) (a0_0 : Int) (a0_1 : Int) (a0_2 : Int) (A0_3 : Option Addr) (c0_3 : Nat) (l0_3 : List Int) (r : List (List Int)) (w : World) (hr0_3 : Kd.C (Kd.int .i64) w A0_3 l0_3.length l0_3) (hc0_3 : l0_3.length ≤ c0_3) {g0_ : Nat} (hbk0_ : w.heap[g0_]? = some (.cells #[.int .i64 a0_0, .int .i64 a0_1, .int .i64 a0_2, .slice A0_3 l0_3.length c0_3] 28 (0, 0))) (h : spec_l04Columns.f k a0_0 a0_1 a0_2 l0_3 = some r) :
  Calls Try.prog 75 #[.pointer (some ⟨g0_, 0, none⟩)] w fun e w' => ∃ v0_ : Value, e = .returned (v0_) ∧ Kd.S (Kd.slice 2 (Kd.int .i64)) 22 w' w.heap.size (fun _ => True) v0_ r ∧ Below w.heap.size w w' := by
 have hu28 := Try.underlying28
 have HR0_3 := Z75.k hr0_3
 have HC0_3 := Z75.k hc0_3
 clear hr0_3 hc0_3
 have HB := Z75.k (Below.refl w.heap.size w)
 have H : (spec_l04Columns.l0 k (([] : List (List Int))) 0 a0_0 a0_1 a0_2 l0_3) = some r := h
 clear h
 obtain ⟨y102, hy102⟩ : ∃ y_ : List (List Int), y_ = (([] : List (List Int))) := ⟨_, rfl⟩
 replace H : (spec_l04Columns.l0 k y102 0 a0_0 a0_1 a0_2 l0_3) = some r := by first | (rw [hy102]; with_reducible exact H) | (have H2_ := (Option.bind_some _ _).symm.trans H; rw [hy102]; with_reducible exact H2_) | (have H2_ := (Option.bind_some _ _).symm.trans H; with_reducible exact H2_) | with_reducible exact H | (rw [hy102]; exact H) | exact H
 have Ny102 := Z75.k hy102
 clear hy102
 have H' := Z75.k H
 clear H
 go_enter Try.func75, Try.ntmps75
 have BK101 := Z75.k hbk0_
 go_wp2_with (first | ((with_reducible refine gate_dst (N := 7) rfl ?_); refine Kd.S_lit (Kd.slice 2 (Kd.int .i64)) _ 22 ?hg (N := 7) ?hd (xs := ([] : List (List Int))) (inner := []) (ok := fun _ => True) (okp := fun _ => True) ?hr ?hp (fun _ hk => hk) trivial (Below.refl _ _) (Nat.le_refl _) (by simp) ?_; (case hd => rfl); (case hg => rfl); (case hr => first | (go_simp; done) | (go_simp; rfl)); (case hp => exact (Reps.none _ _)); intro v103 w3 ho4 hb hg_ hnew_; clear hg_ hnew_; (first | rw [← Ny102.out] at ho4 | (simp only [Int.reduceToNat] at ho4; rw [← Ny102.out] at ho4)); have HO104 := Z75.k (Kd.S_lower ho4 (below_size Z75.z0)); replace BK101 := Z75.k (Z75.bb BK101 Z75.z2 hb); replace HB := Z75.k (below_step Z75.z0 hb); clear hb ho4))
 go_loopg [3, 4] k (fun kq v3 v4 w' => ∃ (x3_1 : List (List Int)) (x4_1 : Int), v4 = .int .i64 x4_1 ∧ Aside0 (spec_l04Columns.l0 kq x3_1 x4_1 a0_0 a0_1 a0_2 l0_3 = some r) ∧ Aside0 (kq ≤ k) ∧ Aside0 (Kd.S (Kd.slice 2 (Kd.int .i64)) 22 w' w.heap.size (fun _ => True) v3 x3_1) ∧ Aside0 (w'.heap[g0_]? = some (.cells #[.int .i64 a0_0, .int .i64 a0_1, .int .i64 a0_2, (.slice A0_3 l0_3.length c0_3)] 28 (0, 0))) ∧ Aside0 (Below w.heap.size w w'))
 case atStart => exact ⟨(y102), (0), (by first | rfl | (simp; done) | (simp [*]; done)), H', ⟨Nat.le_refl _⟩, ⟨(by (with_reducible repeat (first | apply Kd.S_alloc | apply Kd.S_drewN | apply Kd.S_drew)); exact HO104.out)⟩, ⟨Z75.z2⟩, ⟨Z75.z0⟩⟩
 case round =>
  clear H'
  try clear p2
  obtain ⟨x3_1, x4_1, rfl, HA, HK1, HO_3, BK101, HB⟩ := hrel
  cases gk with
  | zero => exact absurd HA.out (by simp [spec_l04Columns.l0])
  | succ k1 =>
   have H := HA.out
   clear HA
   simp only [spec_l04Columns.l0] at H
   by_cases c5 : x4_1 < a0_2
   ·rw [if_pos c5] at H
    have c5b0 : decide (x4_1 < a0_2) = true := decide_eq_true c5
    clear c5
    obtain ⟨y105, hy105⟩ : ∃ y_ : List Int, y_ = (([] : List Int)) := ⟨_, rfl⟩
    replace H : (spec_l04Columns.l1 k1 x3_1 x4_1 y105 0 a0_0 a0_1 a0_2 l0_3) = some r := by first | (rw [hy105]; with_reducible exact H) | (have H2_ := (Option.bind_some _ _).symm.trans H; rw [hy105]; with_reducible exact H2_) | (have H2_ := (Option.bind_some _ _).symm.trans H; with_reducible exact H2_) | with_reducible exact H | (rw [hy105]; exact H) | exact H
    have Ny105 := Z75.k hy105
    clear hy105
    have H' := Z75.k H
    clear H
    obtain ⟨hcz6_0, hcz6_1, hcz6_2, hcz6_3, hfz6_0, hfz6_1, hfz6_2, hfz6_3⟩ := cells4 BK101.out
    go_wp2_with (first | ((with_reducible refine gate_dst (N := 16) rfl ?_); refine Kd.R_lit (Kd.int .i64) _ 2 ?hg (N := 16) ?hd (xs := ([] : List Int)) (inner := []) (ok := fun _ => True) (okp := fun _ => True) ?hr ?hp (fun _ hk => hk) trivial (Below.refl _ _) (Nat.le_refl _) (by simp) ?_; (case hd => rfl); (case hg => rfl); (case hr => first | (go_simp; done) | (go_simp; rfl)); (case hp => exact (Reps.none _ _)); intro v106 w7 ho8 hb hg_ hnew_; clear hg_ hnew_; (first | rw [← Ny105.out] at ho8 | (simp only [Int.reduceToNat] at ho8; rw [← Ny105.out] at ho8)); have HO107 := Z75.k (Kd.R_lower ho8 (below_size Z75.z0)); replace HO_3 := Z75.k (Kd.S_elder' (by (with_reducible repeat (first | apply Kd.S_alloc | apply Kd.S_drewN | apply Kd.S_drew)); exact HO_3.out) (Kd.R_base ho8) hb); replace BK101 := Z75.k (Z75.bb BK101 Z75.z2 hb); replace HB := Z75.k (below_step Z75.z0 hb); clear hb ho8))
    go_loopg [5, 6] k1 (fun kq v5 v6 w' => ∃ (x5_2 : List Int) (x6_2 : Int), v6 = .int .i64 x6_2 ∧ Aside0 (spec_l04Columns.l1 kq x3_1 x4_1 x5_2 x6_2 a0_0 a0_1 a0_2 l0_3 = some r) ∧ Aside0 (kq ≤ k1) ∧ Aside0 (Kd.S (Kd.slice 2 (Kd.int .i64)) 22 w' w.heap.size (fun k_ => some k_ ≠ (v5 : Value).ownBlock) u3 x3_1) ∧ Aside0 (Kd.R (Kd.int .i64) 2 w' w.heap.size (fun _ => True) v5 x5_2) ∧ Aside0 (w'.heap[g0_]? = some (.cells #[.int .i64 a0_0, .int .i64 a0_1, .int .i64 a0_2, (.slice A0_3 l0_3.length c0_3)] 28 (0, 0))) ∧ Aside0 (Below w.heap.size w w'))
    case atStart => exact ⟨(y105), (0), (by first | rfl | (simp; done) | (simp [*]; done)), H', ⟨Nat.le_refl _⟩, ⟨Z75.z3⟩, ⟨(by (with_reducible repeat (first | apply Kd.R_alloc | apply Kd.R_drewN | apply Kd.R_drew)); exact HO107.out)⟩, ⟨Z75.z2⟩, ⟨Z75.z0⟩⟩
    case round =>
     clear H'
     try clear p2
     try clear c5
     try clear c5b0
     try clear c7
     try clear hcz6_0
     try clear hcz6_1
     try clear hcz6_2
     try clear hcz6_3
     try clear hfz6_0
     try clear hfz6_1
     try clear hfz6_2
     try clear hfz6_3
     try clear p2
     obtain ⟨x5_2, x6_2, rfl, HA, HK2, HO_3, HO_5, BK101, HB⟩ := hrel
     cases gk with
     | zero => exact absurd HA.out (by simp [spec_l04Columns.l1])
     | succ k2 =>
      have H := HA.out
      clear HA; simp only [spec_l04Columns.l1] at H
      by_cases c9 : x6_2 < a0_1
      ·rw [if_pos c9] at H
       have c9b0 : decide (x6_2 < a0_1) = true := decide_eq_true c9; clear c9; obtain ⟨ji10, hji10⟩ : ∃ j_ : Int, (wrap64 ((wrap64 (x6_2 * a0_2)) + x4_1)) = j_ := ⟨_, rfl⟩; replace H : (if 0 ≤ (ji10) then (if (ji10) < (l0_3.length : Int) then (if x5_2.length < 17592186044416 then (spec_l04Columns.l1 k2 x3_1 x4_1 (x5_2 ++ [rd l0_3 (ji10)]) (wrap64 (x6_2 + 1)) a0_0 a0_1 a0_2 l0_3) else (none)) else (none)) else (none)) = some r := by first | (rw [hji10] at H; exact H) | (simp only [hji10] at H ⊢; exact H)
       have hji10w : (IntKind.i64.wrap ((wrap64 (x6_2 * a0_2)) + x4_1)) = ji10 := (i64_w _).trans hji10
       by_cases c11 : 0 ≤ (ji10)
       ·rw [if_pos c11] at H
        have c11b0 : decide (0 ≤ (ji10)) = true := decide_eq_true c11; clear c11
        by_cases c12 : (ji10) < (l0_3.length : Int)
        ·rw [if_pos c12] at H
         have c12b0 : decide ((ji10) < (l0_3.length : Int)) = true := decide_eq_true c12; clear c12
         by_cases c13 : x5_2.length < 17592186044416
         ·rw [if_pos c13] at H
          have LMc13 := Z75.k c13; clear c13; obtain ⟨y109, hy109⟩ : ∃ y_ : List Int, y_ = (x5_2 ++ [rd l0_3 (ji10)]) := ⟨_, rfl⟩; replace H : (spec_l04Columns.l1 k2 x3_1 x4_1 y109 (wrap64 (x6_2 + 1)) a0_0 a0_1 a0_2 l0_3) = some r := by first | (rw [hy109]; with_reducible exact H) | (have H2_ := (Option.bind_some _ _).symm.trans H; rw [hy109]; with_reducible exact H2_) | (have H2_ := (Option.bind_some _ _).symm.trans H; with_reducible exact H2_) | with_reducible exact H | (rw [hy109]; exact H) | exact H
          have Ny109 := Z75.k hy109; clear hy109; have H' := Z75.k H; clear H; obtain ⟨hcz14_0, hcz14_1, hcz14_2, hcz14_3, hfz14_0, hfz14_1, hfz14_2, hfz14_3⟩ := cells4 BK101.out
          try go_wp2
          replace HO_3 := Z75.k (Kd.S_drew HO_3.out); replace HO_5 := Z75.k (Kd.R_drew HO_5.out); replace BK101 := Z75.k (blk_drew BK101.out); replace HB := Z75.k (below_drew1 HB.out); have p108 : 0 ≤ ((ji10) : Int) := of_decide_eq_true (by first | (with_reducible assumption) | assumption); have q108 : (ji10) < (l0_3.length : Int) := of_decide_eq_true (by first | (with_reducible assumption) | assumption); obtain ⟨ad108, e108, hx108_0⟩ := Kd.at_int HR0_3.out (ji10) p108 q108; have hw108_0 := hx108_0; cases e108; replace hx108_0 := (HB.out.cell (World.block_lt_of_cell? w _ hx108_0)).trans hx108_0; replace p108 := eq_true p108; replace q108 := eq_true q108; refine start_ (n := 18) (S := fun w' => w'.cell? ⟨g0_, 0, none⟩ = some (.int .i64 a0_0) ∧ w'.cell? ⟨g0_, 1, none⟩ = some (.int .i64 a0_1) ∧ w'.cell? ⟨g0_, 2, none⟩ = some (.int .i64 a0_2) ∧ w'.cell? ⟨g0_, 3, none⟩ = some (.slice (some ad108) l0_3.length c0_3) ∧ w'.cell? (ad108.add ((ji10)).toNat) = some (.int .i64 (rd l0_3 (ji10)))) (ds := []) #[false, false, false, false, false, false, false, false, false, false, false, false, false, false, false, false, false, false] (by kernel_rfl) rfl rfl ⟨(blk_cell BK101.out 0).trans rfl, (blk_cell BK101.out 1).trans rfl, (blk_cell BK101.out 2).trans rfl, (blk_cell BK101.out 3).trans rfl, ((HB.out.cell (World.block_lt_of_cell? w _ hw108_0)).trans hw108_0)⟩ (fun hHeld => ?_); refine with_tabW spec_l04Columns.tab9 spec_l04Columns.bits9 (fun HT_ HW_ => ?_); generalize wr.drew = w15 at HO_3 HO_5 BK101 HB hx108_0 hHeld ⊢
          refine Z75.pP 0 25 (Z75.b 18 1) (any_of HT_.out (by kernel_rfl)) ?_; refine Z75.pP 1 26 (Z75.b 18 3) (any_of HT_.out (by kernel_rfl)) ?_; refine Z75.pP 2 27 (Z75.b 18 7) (any_of HT_.out (by kernel_rfl)) ?_; refine Z75.pP 3 28 (Z75.b 18 15) (any_of HT_.out (by kernel_rfl)) ?_; refine Z75.pP 5 30 (Z75.b 18 47) (any_of HT_.out (by kernel_rfl)) ?_; refine Z75.pP 6 31 (Z75.b 18 111) (any_of HT_.out (by kernel_rfl)) ?_; refine Z75.pP 7 32 (Z75.b 18 239) (any_of HT_.out (by kernel_rfl)) ?_; refine Z75.pP 8 33 (Z75.b 18 495) (any_of HT_.out (by kernel_rfl)) ?_; refine Z75.pP 11 36 (Z75.b 18 2543) (any_of HT_.out (by kernel_rfl)) ?_; refine Z75.pT5 4 29 (Z75.b 18 2559) (take_ofW HT_.out HW_.out (by kernel_rfl)) hHeld ?_; refine Z75.pT5 9 34 (Z75.b 18 3071) (take_ofW HT_.out HW_.out (by kernel_rfl)) hHeld ?_; refine Z75.pP 10 35 (Z75.b 18 4095) (any_of HT_.out (by kernel_rfl)) ?_; refine Z75.pP 12 37 (Z75.b 18 8191) (any_of HT_.out (by kernel_rfl)) ?_; refine Z75.pP 13 38 (Z75.b 18 16383) (any_of HT_.out (by kernel_rfl)) ?_; refine Z75.pT5 14 39 (Z75.b 18 32767) (take_ofW HT_.out HW_.out (by kernel_rfl)) hHeld ?_; refine one_ (i := 15) (N := some 40) (Z75.b 18 65535) rfl rfl (one_of HT_.out (by kernel_rfl)) (by decide) (fun K hK => ?_); refine value_ (w1 := ?_) (v := ?_) (by rfl) rfl ?_ ?_
          rotate_left 2
          ·go_simp
           constructor
           ·rfl
           rfl
          refine hK.out _ _ ⟨(blk_cell (blk_alloc BK101.out _) 0).trans rfl, (blk_cell (blk_alloc BK101.out _) 1).trans rfl, (blk_cell (blk_alloc BK101.out _) 2).trans rfl, (blk_cell (blk_alloc BK101.out _) 3).trans rfl, (World.cell?_alloc_lt _ _ _ (World.block_lt_of_cell? _ _ (((HB.out.cell (World.block_lt_of_cell? w _ hw108_0)).trans hw108_0)))).trans (((HB.out.cell (World.block_lt_of_cell? w _ hw108_0)).trans hw108_0))⟩ (fun hHeld => ?_); clear hK K; refine norm_ (a' := ?_) ?_ ?_
          rotate_left
          ·show Act.put _ (some 40) _ = _
           simp only [Act.put, List.setIfInBounds_toArray, List.set_cons_zero, List.set_cons_succ, i64_w, i32_w]
           rfl
          refine one_ (i := 16) (N := some 41) (Z75.b 18 131071) rfl rfl (one_of HT_.out (by kernel_rfl)) (by decide) (fun K hK => ?_); refine Kd.R_append_step (Kd.int .i64) (w0 := w) w.heap.size (by rfl) (.tmp 25) (.tmp 40) 22 2 (.int .i64 0) 8 rfl Try.underlying22 info2 rfl (by decide) (by omega) u5 x5_2 (rd l0_3 (ji10)) [.int .i64 (rd l0_3 (ji10))] (fun _ => True) (fun _ => False) rfl rfl ?aP (fun _ hk => hk.elim) ?aF ?aO ?aB ?aS ?aL ?_
          (case aP => exact rfl)
          (case aB => exact Z75.z0)
          (case aF => exact (fun _ _ => trivial))
          (case aO => exact (by (with_reducible repeat (first | apply Kd.R_alloc | apply Kd.R_drewN | apply Kd.R_drew)); exact HO_5.out))
          (case aS => exact (below_size Z75.z0))
          (case aL => have := LMc13.out; omega)
          intro v110 w16 ho hb hg hat
          rw [← Ny109.out] at ho; have n0_ := Z75.k (Kd.S_after (ok := (fun _ => True)) (by (with_reducible repeat (first | apply Kd.S_alloc | apply Kd.S_drewN | apply Kd.S_drew)); exact Kd.S_mono HO_3.out (fun _ hk => ⟨trivial, hk⟩)) hg hat); have n1_ := Z75.k (blk_grown (g := g0_) (o := .cells #[.int .i64 a0_0, .int .i64 a0_1, .int .i64 a0_2, .slice (some ad108) l0_3.length c0_3] 28 (0, 0)) Z75.z2 hg (Kd.R_ne HO_5.out BK101.out (by decide))); have n2_ := Z75.k (hb); have n3_ := Z75.k (ho); clear HO_3 BK101 HB HO_5; have HO_3 := n0_; have BK101 := n1_; have HB := n2_; have HO111 := n3_; clear n0_ n1_ n2_ n3_ ho hb hg hat; refine hK.out _ _ ⟨(blk_cell BK101.out 0).trans rfl, (blk_cell BK101.out 1).trans rfl, (blk_cell BK101.out 2).trans rfl, (blk_cell BK101.out 3).trans rfl, ((HB.out.cell (World.block_lt_of_cell? w _ hw108_0)).trans hw108_0)⟩ (fun hHeld => ?_); clear hK K; refine norm_ (a' := ?_) ?_ ?_
          rotate_left
          ·show Act.put _ (some 41) _ = _
           simp only [Act.put, List.setIfInBounds_toArray, List.set_cons_zero, List.set_cons_succ, i64_w, i32_w]
           rfl
          refine Z75.pP 17 5 (Z75.b 18 262143) (any_of HT_.out (by kernel_rfl)) ?_; refine done_ (done_of HT_.out (by kernel_rfl)) ?_
          try go_wp2
          go_roundg k2
          case measure => have := HK1.out; have := HK2.out; omega
          case rel => exact ⟨(y109), (wrap64 (x6_2 + 1)), (by first | rfl | (simp; done) | (simp [*]; done)), H', ⟨(by have := HK1.out; have := HK2.out; omega)⟩, ⟨Z75.z3⟩, ⟨(by (with_reducible repeat (first | apply Kd.R_alloc | apply Kd.R_drewN | apply Kd.R_drew)); exact HO111.out)⟩, ⟨Z75.z2⟩, ⟨Z75.z0⟩⟩
         rw [if_neg c13] at H; exact absurd H (by simp)
        rw [if_neg c12] at H; exact absurd H (by simp)
       rw [if_neg c11] at H; exact absurd H (by simp)
      rw [if_neg c9] at H; have c9b0 : decide (x6_2 < a0_1) = false := decide_eq_false c9; clear c9
      by_cases c17 : x3_1.length < 5864062014805
      ·rw [if_pos c17] at H
       have LMc17 := Z75.k c17; clear c17; obtain ⟨y112, hy112⟩ : ∃ y_ : List (List Int), y_ = (x3_1 ++ [x5_2]) := ⟨_, rfl⟩; replace H : (spec_l04Columns.l0 k2 y112 (wrap64 (x4_1 + 1)) a0_0 a0_1 a0_2 l0_3) = some r := by first | (rw [hy112]; with_reducible exact H) | (have H2_ := (Option.bind_some _ _).symm.trans H; rw [hy112]; with_reducible exact H2_) | (have H2_ := (Option.bind_some _ _).symm.trans H; with_reducible exact H2_) | with_reducible exact H | (rw [hy112]; exact H) | exact H
       have Ny112 := Z75.k hy112; clear hy112; have H' := Z75.k H; clear H; obtain ⟨hcz18_0, hcz18_1, hcz18_2, hcz18_3, hfz18_0, hfz18_1, hfz18_2, hfz18_3⟩ := cells4 BK101.out; obtain ⟨Ao20, co20, eo20⟩ := Kd.R_slice HO_5.out; subst eo20
       go_wp2_with (first | ((with_reducible refine gate_builtin (b := .append) (xs := #[.tmp 42, .tmp 44]) rfl ?_); at_builtin; refine Kd.S_append (Kd.slice 2 (Kd.int .i64)) (w0 := w) w.heap.size rfl (.tmp 42) (.tmp 44) 36 22 (.slice none 0 0) 24 rfl Try.underlying36 info22 rfl (by decide) (by omega) u3 x3_1 x5_2 [.slice Ao20 x5_2.length co20] (fun _ => True) (fun k_ => some k_ = (.slice Ao20 x5_2.length co20 : Value).ownBlock) rfl rfl ?aP (fun k_ hk_ => ((Kd.R_mono (ok' := fun k_ => ((fun _ => True)) k_ ∧ some k_ ≠ (u3 : Value).ownBlock) (Kd.R_apart' (HO_5.out) (Kd.S_typed HO_3.out) (by decide)) (fun k_ hk => ⟨trivial, hk.2⟩))).1 k_ hk_.symm) ?aF ?aO ?aB ?aS ?aL ?_; (case aP => exact Kd.M_row (Kd.R_mono (Kd.R_tight rfl (Kd.R_mono (ok' := fun k_ => ((fun _ => True)) k_ ∧ some k_ ≠ (u3 : Value).ownBlock) (Kd.R_apart' (HO_5.out) (Kd.S_typed HO_3.out) (by decide)) (fun k_ hk => ⟨trivial, hk.2⟩))) (fun _ h_ => h_))); (case aB => exact Z75.z0); (case aF => exact (fun _ _ => trivial)); (case aO => exact (by (with_reducible repeat (first | apply Kd.S_alloc | apply Kd.S_drewN | apply Kd.S_drew)); exact Kd.S_mono HO_3.out (fun k_ hk => ⟨trivial, fun e_ => hk e_⟩))); (case aS => exact (below_size Z75.z0)); (case aL => have := LMc17.out; omega); intro v113 w19 ho hb hg hat; rw [← Ny112.out] at ho; have HO114 := Z75.k (ho); replace BK101 := Z75.k (blk_grown (g := g0_) (o := .cells #[.int .i64 a0_0, .int .i64 a0_1, .int .i64 a0_2, .slice A0_3 l0_3.length c0_3] 28 (0, 0)) Z75.z2 hg (Kd.S_ne HO_3.out BK101.out (by decide))); replace HB := Z75.k (hb); clear HO_3 HO_5; clear ho hb hg hat))
       go_roundg k2
       case measure => have := HK1.out; have := HK2.out; omega
       case rel => exact ⟨(y112), (wrap64 (x4_1 + 1)), (by first | rfl | (simp; done) | (simp [*]; done)), H', ⟨(by have := HK1.out; have := HK2.out; omega)⟩, ⟨(by (with_reducible repeat (first | apply Kd.S_alloc | apply Kd.S_drewN | apply Kd.S_drew)); exact HO114.out)⟩, ⟨Z75.z2⟩, ⟨Z75.z0⟩⟩
      rw [if_neg c17] at H; exact absurd H (by simp)
   rw [if_neg c5] at H
   have c5b0 : decide (x4_1 < a0_2) = false := decide_eq_false c5
   clear c5
   obtain rfl := Option.some.inj H
   obtain ⟨hcz21_0, hcz21_1, hcz21_2, hcz21_3, hfz21_0, hfz21_1, hfz21_2, hfz21_3⟩ := cells4 BK101.out
   go_wp2
   go_ret
   exact ⟨_, (by first | rfl | (simp [errW_none, errW_some] <;> rfl) | (simp [*, errW_none, errW_some] <;> rfl)), (by (with_reducible repeat (first | apply Kd.S_alloc | apply Kd.S_drewN | apply Kd.S_drew)); exact HO_3.out), Z75.z0⟩
/-! ### spec_l04Rows: function 76 -/
def spec_l04Rows.l0 : Nat → List (List Int) → Int → Int → Int → Int → List Int → Option (Int × Int × Int × List Int)
  | 0, _, _, _, _, _, _ => none
  | k + 1, x2, x8, x106000, x106001, x106002, x106003 => if x8 < (x2.length : Int) then (if 0 ≤ x8 then (if x106003.length + (rd_L1 x2 x8).length < 17592186044416 then (spec_l04Rows.l0 k x2 (wrap64 (x8 + 1)) x106000 x106001 x106002 (x106003 ++ (rd_L1 x2 x8))) else (none)) else (none)) else (some (x106000, x106001, x106002, x106003))
def spec_l04Rows.f (k : Nat) (a0 : Int) (a1 : Int) (l2 : List (List Int)) : Option (Int × Int × Int × List Int) := spec_l04Rows.l0 k l2 0 a0 (l2.length : Int) a1 (([] : List Int))
def spec_l04Rows.T5 : Bool × List (List Nat × List Nat) := (true, [([], []), ([0], [0]), ([], []), ([], []), ([2, 3], [2, 3]), ([4], [4]), ([1, 5], [1, 5]), ([0, 1, 2, 3, 4, 5, 6], []), ([7, 6, 6, 0, 1, 2, 3, 4, 5, 6], [6, 7])])
def spec_l04Rows.B5 : List Nat := [0, 1, 0, 0, 12, 28, 63, 127, 255]
theorem spec_l04Rows.tab5 : rtab .any (opsOf Try.f76 5) = spec_l04Rows.T5 := by kernel_rfl
theorem spec_l04Rows.bits5 : waitsOk spec_l04Rows.T5.2 spec_l04Rows.B5 = true := by kernel_rfl
def Z76.b (n x : Nat) : Array Bool := ((List.range n).map (fun i => x.testBit i)).toArray
theorem Z76.pP {P : Program} {ops : Array Oper} {Q : Exit → Act → World → Prop} {md : Region.Mode} {S : World → Prop} {ds : List Nat} (i N : Nat) {oi : Oper} {v : Value} {fuel : Nat} {l : Array Bool} {a : Act} {w : World} (l' : Array Bool) (hc : anyB md ops l l' i = true) {a' : Act} (h : wpAnyLast P md ops Q S ds fuel l' a' w) (hi : ops[i]? = some oi := by rfl) (hN : oi.dst = some N := by rfl) (hQ : ∀ c a w, Q (.panic c) (a.put oi.dst v) w → Q (.panic c) a w := by exact fun _ _ _ h => h) (hy : Yields P ops oi v a := by exact Or.inl ⟨(by rfl), by intro w'; go_simp; with_reducible rfl⟩) (ha : a.put (some N) v = a' := by simp only [Act.put, List.setIfInBounds_toArray, List.set_cons_zero, List.set_cons_succ, i64_w, i32_w]; rfl) : wpAnyLast P md ops Q S ds (fuel + 1) l a w := pure_ l' hi hN hc hQ hy ha h
theorem Z76.pT5 {P : Program} {ops : Array Oper} {Q : Exit → Act → World → Prop} {md : Region.Mode} {S : World → Prop} {ds : List Nat} (i N : Nat) {oi : Oper} {v : Value} {fuel : Nat} {l : Array Bool} {a : Act} {w : World} (l' : Array Bool) (hc : takeB md ops ds l l' i = true) (hS : S w) {a' : Act} (h : wpAnyLast P md ops Q S ds fuel l' a' w) (hi : ops[i]? = some oi := by rfl) (hN : oi.dst = some N := by rfl) (hQ : ∀ c a w, Q (.panic c) (a.put oi.dst v) w → Q (.panic c) a w := by exact fun _ _ _ h => h) (hy : YieldsIf P ops S oi v a := by exact Or.inl ⟨(by rfl), by rintro w' ⟨s0, s1, s2, s3, s4⟩; go_simp; with_reducible rfl⟩) (ha : a.put (some N) v = a' := by simp only [Act.put, List.setIfInBounds_toArray, List.set_cons_zero, List.set_cons_succ, i64_w, i32_w]; rfl) : wpAnyLast P md ops Q S ds (fuel + 1) l a w := take_ l' hi hN hc hQ hy hS ha h
theorem Z76.bb {w0 w w1 : World} {g : Nat} {o : Obj} (_B : Aside0 (w0.heap[g]? = some o)) (h : w.heap[g]? = some o) (hb : Below w.heap.size w w1) : w1.heap[g]? = some o := blk_below h hb
theorem Z76.bl {w0 w : World} {g : Nat} {o : Obj} (_B : Aside0 (w0.heap[g]? = some o)) (h : w.heap[g]? = some o) : g < w.heap.size := blk_lt h
theorem Z76.k {p : Prop} (h : p) : Aside0 p := ⟨h⟩
theorem Z76.z5 {P : Prop} (h : P := by (repeat (first | (with_reducible first | refine blk_drewN ?_ _ | refine blk_drew ?_ | refine blk_alloc ?_ _) | refine blk_far ?_ NB101_105.out _)); exact BK101.out) : P := h
theorem Z76.z4 {P : Prop} (h : P := by repeat (first | (with_reducible first | exact HB.out | apply below_alloc | apply pw_below_drewN | apply below_drew1) | exact HB.out)) : P := h
theorem Z76.z3 {P : Prop} (h : P := by (with_reducible repeat (first | refine blk_drewN ?_ _ | refine blk_drew ?_ | refine blk_alloc ?_ _)); exact BK101.out) : P := h
theorem Z76.z2 {P : Prop} (h : P := by simp only [Act.put, List.setIfInBounds_toArray, List.set_cons_zero, List.set_cons_succ, i64_w, i32_w]; rfl) : P := h
theorem Z76.z1 {P : Prop} (h : P := by repeat (first | (with_reducible first | exact HB.out | apply below_alloc | apply pw_below_drewN | apply below_drew1 | refine below_set ?_ GE101.out) | exact HB.out)) : P := h
theorem Z76.z0 {P : Prop} (h : P := by repeat (first | (with_reducible first | exact HB.out | apply below_alloc | apply pw_below_drewN | apply below_drew1 | refine below_set ?_ GE101.out | refine below_set ?_ GE105.out) | exact HB.out)) : P := h
set_option maxHeartbeats 8000000 in
set_option maxRecDepth 100000 in
theorem spec_l04Rows.calls (k : Nat) (a0 : Int) (a1 : Int) (A2 : Option Addr) (c2 : Nat) (l2 : List (List Int)) (r1 : Int) (r2 : Int) (r3 : Int) (r4 : List Int) (w : World) (hr2 : Kd.C (Kd.slice 2 (Kd.int .i64)) w A2 l2.length l2) (hc2 : l2.length ≤ c2) (h : spec_l04Rows.f k a0 a1 l2 = some (r1, r2, r3, r4)) :
  Calls Try.prog 76 #[.int .i64 a0, .int .i64 a1, .slice A2 l2.length c2] w fun e w' => ∃ v3_ : Value, e = .returned (.agg #[.int .i64 r1, .int .i64 r2, .int .i64 r3, v3_]) ∧ Kd.R (Kd.int .i64) 2 w' w.heap.size (fun _ => True) v3_ r4 ∧ Below w.heap.size w w' := by
 have hu28 := Try.underlying28
 have HR2 := Z76.k hr2
 have HC2 := Z76.k hc2
 clear hr2 hc2
 have HB := Z76.k (Below.refl w.heap.size w)
 have H : (spec_l04Rows.l0 k l2 0 a0 (l2.length : Int) a1 (([] : List Int))) = some (r1, r2, r3, r4) := h
 clear h
 obtain ⟨y102, hy102⟩ : ∃ y_ : List Int, y_ = (([] : List Int)) := ⟨_, rfl⟩
 replace H : (spec_l04Rows.l0 k l2 0 a0 (l2.length : Int) a1 y102) = some (r1, r2, r3, r4) := by first | (rw [hy102]; with_reducible exact H) | (have H2_ := (Option.bind_some _ _).symm.trans H; rw [hy102]; with_reducible exact H2_) | (have H2_ := (Option.bind_some _ _).symm.trans H; with_reducible exact H2_) | with_reducible exact H | (rw [hy102]; exact H) | exact H
 have Ny102 := Z76.k hy102
 clear hy102
 have H' := Z76.k H
 clear H
 go_enter Try.func76, Try.ntmps76
 go_wp2_with (first | ((with_reducible refine gate_dst (N := 6) rfl ?_); refine box_event ?hg (N := 6) ?hd (cs := #[.int .i64 0, .int .i64 0, .int .i64 0, .slice none 0 0]) (t := 28) ?hr ?_; (case hd => rfl); (case hg => rfl); (case hr => first | (go_simp; done) | (go_simp; rfl)); intro gb101 hg w4 hbox hb; have BK101 := Z76.k (hbox); have GW101 := Z76.k (show w.heap.size ≤ gb101 from (by rw [hg]; exact (below_size Z76.z4))); have GE101 := Z76.k (show w.heap.size ≤ gb101 from (by rw [hg]; exact (below_size Z76.z4))); replace HB := Z76.k (below_step Z76.z4 hb); clear hb hbox hg) | ((with_reducible refine gate_dst (N := 13) rfl ?_); refine Kd.R_lit (Kd.int .i64) _ 2 ?hg (N := 13) ?hd (xs := ([] : List Int)) (inner := []) (ok := fun _ => True) (okp := fun _ => True) ?hr ?hp (fun _ hk => hk) trivial (Below.refl _ _) (Nat.le_refl _) (by simp) ?_; (case hd => rfl); (case hg => rfl); (case hr => first | (go_simp; done) | (go_simp; rfl)); (case hp => exact (Reps.none _ _)); intro v103 w5 ho6 hb hg_ hnew_; clear hg_ hnew_; (first | rw [← Ny102.out] at ho6 | (simp only [Int.reduceToNat] at ho6; rw [← Ny102.out] at ho6)); have HO104 := Z76.k (Kd.R_lower ho6 (below_size Z76.z1)); replace BK101 := Z76.k (Z76.bb BK101 Z76.z3 hb); replace HB := Z76.k (below_step Z76.z1 hb); clear hb ho6; obtain ⟨Ao7, co7, eo7⟩ := Kd.R_slice HO104.out; subst eo7) | ((with_reducible refine gate_dst (N := 7) rfl ?_); refine box_event ?hg (N := 7) ?hd (cs := #[.int .i64 0, .int .i64 0, .int .i64 0, .slice none 0 0]) (t := 28) ?hr ?_; (case hd => rfl); (case hg => rfl); (case hr => first | (go_simp; done) | (go_simp; rfl)); intro gb105 hg w8 hbox hb; have BK105 := Z76.k (hbox); have GW105 := Z76.k (show w.heap.size ≤ gb105 from (by rw [hg]; exact (below_size Z76.z1))); have GE105 := Z76.k (show w.heap.size ≤ gb105 from (by rw [hg]; exact (below_size Z76.z1))); have NB101_105 := Z76.k (show gb101 ≠ gb105 from (by rw [hg]; exact Nat.ne_of_lt (Z76.bl BK101 Z76.z3))); have NB105_101 := Z76.k (show gb105 ≠ gb101 from (by rw [hg]; exact Nat.ne_of_gt (Z76.bl BK101 Z76.z3))); replace HO104 := Z76.k (Kd.R_below (by (with_reducible repeat (first | apply Kd.R_alloc | apply Kd.R_drewN | apply Kd.R_drew)); exact HO104.out) hb); replace BK101 := Z76.k (Z76.bb BK101 Z76.z3 hb); replace HB := Z76.k (below_step Z76.z1 hb); clear hb hbox hg; have hnb9 := NB105_101.out; have hnc9 := NB101_105.out; obtain ⟨hcz10_0, hcz10_1, hcz10_2, hcz10_3, hfz10_0, hfz10_1, hfz10_2, hfz10_3⟩ := cells4 BK105.out))
 go_loopg [8] k (fun kq v8 w' => ∃ (x8_1 : Int) (x106003_1 : List Int) (u106003 : Value), v8 = .int .i64 x8_1 ∧ Aside0 (spec_l04Rows.l0 kq l2 x8_1 a0 (l2.length : Int) a1 x106003_1 = some (r1, r2, r3, r4)) ∧ Aside0 (kq ≤ k) ∧ Aside0 (Kd.R (Kd.int .i64) 2 w' w.heap.size (fun _ => True) u106003 x106003_1) ∧ Aside0 (w'.heap[gb101]? = some (.cells #[.int .i64 0, .int .i64 0, .int .i64 0, (.slice none 0 0)] 28 (0, 0))) ∧ Aside0 (w'.heap[gb105]? = some (.cells #[.int .i64 a0, .int .i64 (l2.length : Int), .int .i64 a1, u106003] 28 (0, 0))) ∧ Aside0 (Below w.heap.size w w'))
 case atStart => exact ⟨(0), (y102), (.slice Ao7 y102.length co7), (by first | rfl | (simp; done) | (simp [*]; done)), H', ⟨Nat.le_refl _⟩, ⟨(by (with_reducible repeat (first | apply Kd.R_alloc | apply Kd.R_drewN | apply Kd.R_drew)); exact Kd.R_mono (Kd.R_far (p := ⟨gb105, 3, none⟩) (Kd.R_far (p := ⟨gb105, 2, none⟩) (Kd.R_far (p := ⟨gb105, 1, none⟩) (Kd.R_far (p := ⟨gb105, 0, none⟩) (Kd.R_types HO104.out BK105.out (by decide)) (fun _ hk => hk.2) (.int .i64 a0)) (fun _ hk => hk.2) (.int .i64 (l2.length : Int))) (fun _ hk => hk.2) (.int .i64 a1)) (fun _ hk => hk.2) (.slice Ao7 y102.length co7)) (fun _ hk => trivial))⟩, ⟨Z76.z5⟩, ⟨(by (with_reducible repeat (first | refine blk_drewN ?_ _ | refine blk_drew ?_ | refine blk_alloc ?_ _)); refine blk_put (cs := #[.int .i64 a0, .int .i64 (l2.length : Int), .int .i64 a1, .slice none 0 0]) ?_ 3 _ rfl; (with_reducible repeat (first | refine blk_drewN ?_ _ | refine blk_drew ?_ | refine blk_alloc ?_ _)); refine blk_put (cs := #[.int .i64 a0, .int .i64 (l2.length : Int), .int .i64 0, .slice none 0 0]) ?_ 2 _ rfl; (with_reducible repeat (first | refine blk_drewN ?_ _ | refine blk_drew ?_ | refine blk_alloc ?_ _)); refine blk_put (cs := #[.int .i64 a0, .int .i64 0, .int .i64 0, .slice none 0 0]) ?_ 1 _ rfl; (with_reducible repeat (first | refine blk_drewN ?_ _ | refine blk_drew ?_ | refine blk_alloc ?_ _)); refine blk_put (cs := #[.int .i64 0, .int .i64 0, .int .i64 0, .slice none 0 0]) ?_ 0 _ rfl; (with_reducible repeat (first | refine blk_drewN ?_ _ | refine blk_drew ?_ | refine blk_alloc ?_ _)); exact BK105.out)⟩, ⟨Z76.z0⟩⟩
 case round =>
  clear H'
  try clear c2
  try clear p2
  try clear c7
  try clear c9
  try clear hcz10_0
  try clear hcz10_1
  try clear hcz10_2
  try clear hcz10_3
  try clear hfz10_0
  try clear hfz10_1
  try clear hfz10_2
  try clear hfz10_3
  obtain ⟨x8_1, x106003_1, u106003, rfl, HA, HK1, HO_106003, BK101, BK105, HB⟩ := hrel
  cases gk with
  | zero => exact absurd HA.out (by simp [spec_l04Rows.l0])
  | succ k1 =>
   have H := HA.out
   clear HA
   simp only [spec_l04Rows.l0] at H
   by_cases c11 : x8_1 < (l2.length : Int)
   ·rw [if_pos c11] at H
    have c11b0 : decide (x8_1 < (l2.length : Int)) = true := decide_eq_true c11
    clear c11
    by_cases c12 : 0 ≤ x8_1
    ·rw [if_pos c12] at H
     have c12b0 : decide (0 ≤ x8_1) = true := decide_eq_true c12
     clear c12
     by_cases c13 : x106003_1.length + (rd_L1 l2 x8_1).length < 17592186044416
     ·rw [if_pos c13] at H
      have LMc13 := Z76.k c13; clear c13; obtain ⟨y107, hy107⟩ : ∃ y_ : List Int, y_ = (x106003_1 ++ (rd_L1 l2 x8_1)) := ⟨_, rfl⟩; replace H : (spec_l04Rows.l0 k1 l2 (wrap64 (x8_1 + 1)) a0 (l2.length : Int) a1 y107) = some (r1, r2, r3, r4) := by first | (rw [hy107]; with_reducible exact H) | (have H2_ := (Option.bind_some _ _).symm.trans H; rw [hy107]; with_reducible exact H2_) | (have H2_ := (Option.bind_some _ _).symm.trans H; with_reducible exact H2_) | with_reducible exact H | (rw [hy107]; exact H) | exact H
      have Ny107 := Z76.k hy107; clear hy107; have H' := Z76.k H; clear H
      try go_wp2
      replace HO_106003 := Z76.k (Kd.R_drew HO_106003.out); replace BK101 := Z76.k (blk_drew BK101.out); replace BK105 := Z76.k (blk_drew BK105.out); replace HB := Z76.k (below_drew1 HB.out); have p106 : 0 ≤ (x8_1 : Int) := of_decide_eq_true (by first | (with_reducible assumption) | assumption); have q106 : x8_1 < (l2.length : Int) := of_decide_eq_true (by first | (with_reducible assumption) | assumption); obtain ⟨ad106, A106_0, c106_0, e106, hx106_0, hl106_0, hi106_0⟩ := at_L1 HR2.out x8_1 p106 q106; have hw106_0 := hx106_0; cases e106; replace hx106_0 := (HB.out.cell (World.block_lt_of_cell? w _ hx106_0)).trans hx106_0; have HR106_0 := Z76.k hi106_0; have HC106_0 := Z76.k hl106_0; clear hi106_0 hl106_0; replace p106 := eq_true p106; replace q106 := eq_true q106; refine start_ (n := 9) (S := fun w' => w'.cell? ⟨gb105, 0, none⟩ = some (.int .i64 a0) ∧ w'.cell? ⟨gb105, 1, none⟩ = some (.int .i64 (l2.length : Int)) ∧ w'.cell? ⟨gb105, 2, none⟩ = some (.int .i64 a1) ∧ w'.cell? ⟨gb105, 3, none⟩ = some (u106003) ∧ w'.cell? (ad106.add (x8_1).toNat) = some (.slice A106_0 (rd_L1 l2 x8_1).length c106_0)) (ds := [8]) #[false, false, false, false, false, false, false, false, false] (by kernel_rfl) rfl rfl ⟨(blk_cell BK105.out 0).trans rfl, (blk_cell BK105.out 1).trans rfl, (blk_cell BK105.out 2).trans rfl, (blk_cell BK105.out 3).trans rfl, ((HB.out.cell (World.block_lt_of_cell? w _ hw106_0)).trans hw106_0)⟩ (fun hHeld => ?_); refine with_tabW spec_l04Rows.tab5 spec_l04Rows.bits5 (fun HT_ HW_ => ?_); generalize wr.drew = w14 at HO_106003 BK101 BK105 HB HR106_0 hx106_0 hHeld ⊢
      refine Z76.pP 0 21 (Z76.b 9 1) (any_of HT_.out (by kernel_rfl)) ?_; refine Z76.pP 2 23 (Z76.b 9 5) (any_of HT_.out (by kernel_rfl)) ?_; refine Z76.pP 3 24 (Z76.b 9 13) (any_of HT_.out (by kernel_rfl)) ?_; refine Z76.pP 4 25 (Z76.b 9 29) (any_of HT_.out (by kernel_rfl)) ?_; refine Z76.pT5 1 22 (Z76.b 9 31) (take_ofW HT_.out HW_.out (by kernel_rfl)) hHeld ?_; refine Z76.pT5 5 26 (Z76.b 9 63) (take_ofW HT_.out HW_.out (by kernel_rfl)) hHeld ?_; refine one_ (i := 6) (N := some 27) (Z76.b 9 127) rfl rfl (one_of HT_.out (by kernel_rfl)) (by decide) (fun K hK => ?_); refine Kd.R_append_rows_step (Kd.int .i64) (w0 := w) w.heap.size (by rfl) (.tmp 22) (.tmp 26) 22 2 (.int .i64 0) 8 rfl Try.underlying22 info2 rfl (by decide) (by omega) u106003 x106003_1 (rd_L1 l2 x8_1) _ _ _ (fun _ => True) (fun _ => False) rfl rfl ?aO ?aR (fun _ _ h => h) (fun _ h => h.elim) ?aF ?aB ?aS ?aL ?_
      (case aR => repeat (first | exact (Kd.C_below HR106_0.out HB.out) | (with_reducible refine Kd.C_alloc ?_ _) | (with_reducible refine Kd.C_drewN ?_ _) | (with_reducible refine Kd.C_drew ?_)))
      (case aB => exact Z76.z0)
      (case aF => exact (fun _ _ => trivial))
      (case aO => exact (by (with_reducible repeat (first | apply Kd.R_alloc | apply Kd.R_drewN | apply Kd.R_drew)); exact HO_106003.out))
      (case aS => exact (below_size Z76.z0))
      (case aL => have := LMc13.out; omega)
      intro v108 w15 ho hb hg hat
      rw [← Ny107.out] at ho; have n0_ := Z76.k (blk_grown (g := gb101) (o := .cells #[.int .i64 0, .int .i64 0, .int .i64 0, .slice none 0 0] 28 (0, 0)) Z76.z3 hg (Kd.R_ne HO_106003.out BK101.out (by decide))); have n1_ := Z76.k (blk_grown (g := gb105) (o := .cells #[.int .i64 a0, .int .i64 (l2.length : Int), .int .i64 a1, u106003] 28 (0, 0)) (by (with_reducible repeat (first | refine blk_drewN ?_ _ | refine blk_drew ?_ | refine blk_alloc ?_ _)); exact BK105.out) hg (Kd.R_ne HO_106003.out BK105.out (by decide))); have n2_ := Z76.k (hb); have n3_ := Z76.k (ho); clear BK101 BK105 HB HO_106003; have BK101 := n0_; have BK105 := n1_; have HB := n2_; have HO109 := n3_; clear n0_ n1_ n2_ n3_ ho hb hg hat; obtain ⟨Ao16, co16, eo16⟩ := Kd.R_slice HO109.out
      (first | subst eo16 | (injection eo16 with f1_ f2_ f3_; have f4_ := f1_.symm; have f5_ := f3_.symm; clear f1_ f2_ f3_; subst f4_; subst f5_))
      refine hK.out _ _ ⟨(blk_cell BK105.out 0).trans rfl, (blk_cell BK105.out 1).trans rfl, (blk_cell BK105.out 2).trans rfl, (blk_cell BK105.out 3).trans rfl, ((HB.out.cell (World.block_lt_of_cell? w _ hw106_0)).trans hw106_0)⟩ (fun hHeld => ?_); clear hK K; refine norm_ (a' := ?_) ?_ ?_
      rotate_left
      ·show Act.put _ (some 27) _ = _
       simp only [Act.put, List.setIfInBounds_toArray, List.set_cons_zero, List.set_cons_succ, i64_w, i32_w]
       rfl
      refine Z76.pP 7 28 (Z76.b 9 255) (any_of HT_.out (by kernel_rfl)) ?_; refine last_ (i := 8) (N := none) (Z76.b 9 511) rfl rfl (one_of HT_.out (by kernel_rfl)) (by decide) (fun K hK => ?_); have hs17 : w15.cell? ⟨gb105, 3, none⟩ = some (u106003) := (blk_cell BK105.out 3).trans rfl; have hfs17 := blk_frozen BK105.out 3; have hns17_0 := NB101_105.out; have hms17_0 := NB105_101.out; refine skip_ (w1 := ?_) (by rfl) rfl ?_ ?_
      rotate_left
      ·go_simp
       rfl
      refine hK.out _ _ ?_; clear hK K; refine done_ (done_of HT_.out (by kernel_rfl)) ?_
      try go_wp2
      go_roundg k1
      case measure => have := HK1.out; omega
      case rel => exact ⟨(wrap64 (x8_1 + 1)), (y107), (.slice Ao16 y107.length co16), (by first | rfl | (simp; done) | (simp [*]; done)), H', ⟨(by have := HK1.out; omega)⟩, ⟨(by (with_reducible repeat (first | apply Kd.R_alloc | apply Kd.R_drewN | apply Kd.R_drew)); exact Kd.R_mono (Kd.R_far (p := ⟨gb105, 3, none⟩) (Kd.R_types HO109.out BK105.out (by decide)) (fun _ hk => hk.2) (.slice Ao16 y107.length co16)) (fun _ hk => trivial))⟩, ⟨Z76.z5⟩, ⟨(by (with_reducible repeat (first | refine blk_drewN ?_ _ | refine blk_drew ?_ | refine blk_alloc ?_ _)); refine blk_put (cs := #[.int .i64 a0, .int .i64 (l2.length : Int), .int .i64 a1, u106003]) ?_ 3 _ rfl; (with_reducible repeat (first | refine blk_drewN ?_ _ | refine blk_drew ?_ | refine blk_alloc ?_ _)); exact BK105.out)⟩, ⟨Z76.z0⟩⟩
     rw [if_neg c13] at H
     exact absurd H (by simp)
    rw [if_neg c12] at H
    exact absurd H (by simp)
   rw [if_neg c11] at H
   have c11b0 : decide (x8_1 < (l2.length : Int)) = false := decide_eq_false c11
   clear c11
   simp only [Option.some.injEq, Prod.mk.injEq] at H
   obtain ⟨rfl, rfl, rfl, rfl⟩ := H
   have hnb18 := NB105_101.out
   have hnc18 := NB101_105.out
   obtain ⟨hcz19_0, hcz19_1, hcz19_2, hcz19_3, hfz19_0, hfz19_1, hfz19_2, hfz19_3⟩ := cells4 BK105.out
   obtain ⟨hcz20_0, hcz20_1, hcz20_2, hcz20_3, hfz20_0, hfz20_1, hfz20_2, hfz20_3⟩ := cells4 BK101.out
   obtain ⟨Ao21, co21, eo21⟩ := Kd.R_slice HO_106003.out
   subst eo21
   go_wp2
   refine bodyPost_ret (results_cell_row rfl _ _ gb101 28 #[.int .i64 a0, .int .i64 (l2.length : Int), .int .i64 a1, .slice Ao21 x106003_1.length co21] (0, 0) _ rfl (by (with_reducible repeat (first | refine blk_drewN ?_ _ | refine blk_drew ?_ | refine blk_alloc ?_ _)); refine blk_put (cs := #[.int .i64 a0, .int .i64 (l2.length : Int), .int .i64 a1, .slice none 0 0]) ?_ 3 _ rfl; (with_reducible repeat (first | refine blk_drewN ?_ _ | refine blk_drew ?_ | refine blk_alloc ?_ _)); refine blk_put (cs := #[.int .i64 a0, .int .i64 (l2.length : Int), .int .i64 0, .slice none 0 0]) ?_ 2 _ rfl; (with_reducible repeat (first | refine blk_drewN ?_ _ | refine blk_drew ?_ | refine blk_alloc ?_ _)); refine blk_put (cs := #[.int .i64 a0, .int .i64 0, .int .i64 0, .slice none 0 0]) ?_ 1 _ rfl; (with_reducible repeat (first | refine blk_drewN ?_ _ | refine blk_drew ?_ | refine blk_alloc ?_ _)); refine blk_put (cs := #[.int .i64 0, .int .i64 0, .int .i64 0, .slice none 0 0]) ?_ 0 _ rfl; (with_reducible repeat (first | refine blk_drewN ?_ _ | refine blk_drew ?_ | refine blk_alloc ?_ _)); exact BK101.out) Try.underlying28 rfl (by kernel_rfl)) rfl ?_
   exact ⟨_, (by first | rfl | (simp [errW_none, errW_some] <;> rfl) | (simp [*, errW_none, errW_some] <;> rfl)), (by (with_reducible repeat (first | apply Kd.R_alloc | apply Kd.R_drewN | apply Kd.R_drew)); exact Kd.R_mono (Kd.R_far (p := ⟨gb101, 3, none⟩) (Kd.R_far (p := ⟨gb101, 2, none⟩) (Kd.R_far (p := ⟨gb101, 1, none⟩) (Kd.R_far (p := ⟨gb101, 0, none⟩) (Kd.R_types HO_106003.out BK101.out (by decide)) (fun _ hk => hk.2) (.int .i64 a0)) (fun _ hk => hk.2) (.int .i64 (l2.length : Int))) (fun _ hk => hk.2) (.int .i64 a1)) (fun _ hk => hk.2) (.slice Ao21 x106003_1.length co21)) (fun _ hk => trivial)), Z76.z0⟩
end Go.Proofs.Ytmbbjmkcbpefhaa.F
end
