-- Texts of this claim, merged by packw.py (a program of this session's).
import Derived.Test.YtbalikebmacldaaGreatDoorQFnMatrices2
import Derived.Test.YtbalikebmacldaaGreatDoorQFnMatrices3

section
namespace Go.Proofs.YtbalikebmacldaaGreatDoor.F
open Go.RowKit Go.Proofs.YtbalikebmacldaaGreatDoorW.PrintWords Go.Proofs.YtbalikebmacldaaGreatDoorW.PrintLast Go.Proofs.YtbalikebmacldaaGreatDoorW.PrintMore
attribute [local go_sem] max2_int min2_int max_two min_two max_three min_three max_four min_four   -- for this text's walks alone
set_option linter.unusedVariables false
set_option linter.unusedSimpArgs false
/-! ### spec_l00Src_one: function 44 -/
def spec_l00Src_one.f (s0_0 : List Int) (s0_1 : Int) (s0_2 : Int) (a1 : Int) : Option (Bool × Int × Int) := (spec_l00Src_pick.f s0_0 s0_1 s0_2 a1).bind fun bt101 => (some ((bt101.1 == 0), bt101.2.1, bt101.2.2))
theorem Z44.z2 {P : Prop} (h : P := by repeat (first | (with_reducible first | exact HK.out | apply KeepBut.set_ | apply keep_drewN | apply keep_drew | apply keep_alloc) | exact HK.out)) : P := h
theorem Z44.z1 {P : Prop} (h : P := by repeat (first | (with_reducible first | exact HI0.out | apply IsS74.alloc | apply IsS74.drewN | apply IsS74.drew | apply IsS74.set_1 | apply IsS74.set_2) | exact HI0.out)) : P := h
theorem Z44.z0 {P : Prop} (h : P := by repeat (first | (with_reducible first | exact HB.out | apply below_alloc | apply pw_below_drewN | apply below_drew1 | refine below_set ?_ (IsS74.ge HI0.out)) | exact HB.out)) : P := h
set_option maxHeartbeats 8000000 in
set_option maxRecDepth 100000 in
theorem spec_l00Src_one.calls (g : Nat) (s0_0 : List Int) (s0_1 : Int) (s0_2 : Int) (a1 : Int) (r1 : Bool) (r2 : Int) (r3 : Int) (w0 w : World) (hI : IsS74 w0 w g s0_0 s0_1 s0_2) (hB : Below w0.heap.size w0 w) (h : spec_l00Src_one.f s0_0 s0_1 s0_2 a1 = some (r1, r2, r3)) :
  Calls Tryz.prog 44 #[.pointer (some ⟨g, 0, none⟩), .int .i64 a1] w fun e w' => e = .returned (.bool r1) ∧ IsS74 w0 w' g s0_0 r2 r3 ∧ Below w0.heap.size w0 w' ∧ KeepBut w w' g none := by
 have HI0 := Aside0.mk hI
 have HK := Aside0.mk (KeepBut.refl w g none)
 have HL := Aside0.mk hB.size
 clear hI
 have HW0 := Aside0.mk hB.size
 have HB := Aside0.mk hB
 clear hB
 have H : ((spec_l00Src_pick.f s0_0 s0_1 s0_2 a1).bind fun bt101 => (some ((bt101.1 == 0), bt101.2.1, bt101.2.2))) = some (r1, r2, r3) := h
 clear h
 replace H := Option.bind_eq_some_iff.mp H
 obtain ⟨⟨t101, t102, t103⟩, A30, H⟩ := H
 replace H : (some ((t101 == 0), t102, t103)) = some (r1, r2, r3) := H
 have A3 := Aside0.mk A30
 clear A30
 simp only [Option.some.injEq, Prod.mk.injEq] at H
 obtain ⟨rfl, rfl, rfl⟩ := H
 go_enter Tryz.func44, Tryz.ntmps44
 go_wp2_with (first | ((with_reducible refine gate_callee (f := 33) rfl ?_); refine goesL_ (some 7) rfl rfl Tryz.func33 (by kernel_rfl) rfl #[.pointer (some ⟨g, 0, none⟩), .int .i64 a1] rfl (by (try simp only [List.map_toArray, List.map_cons, List.map_nil]); first | done | rfl | (simp only [List.length_drop, List.length_take]; rfl)) ?_; (with_reducible refine (spec_l00Src_pick.calls g s0_0 s0_1 s0_2 a1 t101 t102 t103 w0 _ ?side1 ?side2 A3.out).mono ?_); (case side1 => exact Z44.z1); (case side2 => exact Z44.z0); rintro e w4 ⟨rfl, hi, hb, hk⟩; refine ⟨_, rfl, ?_⟩; replace HK := Aside0.mk (KeepBut.trans Z44.z2 hk (.inl rfl)); replace HB := Aside0.mk (hb); replace HI0 := Aside0.mk (hi); (try clear hb); (try clear hk); (try clear hi)))
 go_ret
 exact ⟨(by first | rfl | (simp [errW_none, errW_some] <;> rfl) | (simp [*, errW_none, errW_some] <;> rfl)), Z44.z1, Z44.z0, Z44.z2⟩
/-! ### spec_l03Fill: function 21 -/
mutual
def spec_l03Fill.l0 : Nat → Int → Int → Int → Int → List Int → Int → Int → Int → Int → Int → List Int → Option (Int × Int × Int × List Int × Int × Int)
  | 0, _, _, _, _, _, _, _, _, _, _, _ => none
  | k + 1, x1, x2, x3, x10, x1000, x1001, x1002, x109000, x109001, x109002, x109003 => if x10 < (x109003.length : Int) then ((spec_l00Src_pick.f x1000 x1001 x1002 3).bind fun bt109 => (if bt109.1 > 0 then ((spec_l00Src_pick.f x1000 bt109.2.1 bt109.2.2 x1).bind fun bt112 => (if 0 ≤ x10 then (spec_l03Fill.l0 k x1 x2 x3 (wrap64 (x10 + 1)) x1000 bt112.2.1 bt112.2.2 x109000 x109001 x109002 (x109003.set (x10 : Int).toNat bt112.1)) else (none))) else (spec_l03Fill.l0 k x1 x2 x3 (wrap64 (x10 + 1)) x1000 bt109.2.1 bt109.2.2 x109000 x109001 x109002 x109003))) else (if x2 > 1 then ((spec_l00Src_one.f x1000 x1001 x1002 3).bind fun bt116 => (spec_l03Fill.j1 k x1 x2 x3 bt116.1 x1000 bt116.2.1 bt116.2.2 x109000 x109001 x109002 x109003)) else (spec_l03Fill.j1 k x1 x2 x3 false x1000 x1001 x1002 x109000 x109001 x109002 x109003))
def spec_l03Fill.j1 : Nat → Int → Int → Int → Bool → List Int → Int → Int → Int → Int → Int → List Int → Option (Int × Int × Int × List Int × Int × Int)
  | 0, _, _, _, _, _, _, _, _, _, _, _ => none
  | k + 1, x1, x2, x3, x38, x1000, x1001, x1002, x109000, x109001, x109002, x109003 => if x38 = true then (spec_l03Fill.l1 k x1 x2 x3 0 x1000 x1001 x1002 x109000 x109001 x109002 x109003) else (some (x109000, x109001, x109002, x109003, x1001, x1002))
def spec_l03Fill.l1 : Nat → Int → Int → Int → Int → List Int → Int → Int → Int → Int → Int → List Int → Option (Int × Int × Int × List Int × Int × Int)
  | 0, _, _, _, _, _, _, _, _, _, _, _ => none
  | k + 1, x1, x2, x3, x11, x1000, x1001, x1002, x109000, x109001, x109002, x109003 => if x11 < x3 then (if 0 ≤ x11 then (if x11 < (x109003.length : Int) then (if x1 = 0 then (none) else (if 0 ≤ (wrap64 ((wrap64 ((wrap64 (x2 - 1)) * x3)) + x11)) then (if (wrap64 ((wrap64 ((wrap64 (x2 - 1)) * x3)) + x11)) < (x109003.length : Int) then (spec_l03Fill.l1 k x1 x2 x3 (wrap64 (x11 + 1)) x1000 x1001 x1002 x109000 x109001 x109002 (x109003.set ((wrap64 ((wrap64 ((wrap64 (x2 - 1)) * x3)) + x11)) : Int).toNat (Int.tmod (wrap64 ((rd x109003 x11) * 2)) x1))) else (none)) else (none))) else (none)) else (none)) else (some (x109000, x109001, x109002, x109003, x1001, x1002))
end
def spec_l03Fill.f (k : Nat) (s0_0 : List Int) (s0_1 : Int) (s0_2 : Int) (a1 : Int) (a2 : Int) (a3 : Int) : Option (Int × Int × Int × List Int × Int × Int) := (spec_l03Zero.f a1 a2 a3).bind fun bt102 => (spec_l03Fill.l0 k a1 a2 a3 0 s0_0 s0_1 s0_2 bt102.1 bt102.2.1 bt102.2.2.1 bt102.2.2.2)
theorem spec_l03Fill.mono_l : ∀ k, (∀ y0 y1 y2 y3 y4 y5 y6 y7 y8 y9 y10, LeO (spec_l03Fill.l0 k y0 y1 y2 y3 y4 y5 y6 y7 y8 y9 y10) (spec_l03Fill.l0 (k + 1) y0 y1 y2 y3 y4 y5 y6 y7 y8 y9 y10)) ∧ (∀ y0 y1 y2 y3 y4 y5 y6 y7 y8 y9 y10, LeO (spec_l03Fill.j1 k y0 y1 y2 y3 y4 y5 y6 y7 y8 y9 y10) (spec_l03Fill.j1 (k + 1) y0 y1 y2 y3 y4 y5 y6 y7 y8 y9 y10)) ∧ (∀ y0 y1 y2 y3 y4 y5 y6 y7 y8 y9 y10, LeO (spec_l03Fill.l1 k y0 y1 y2 y3 y4 y5 y6 y7 y8 y9 y10) (spec_l03Fill.l1 (k + 1) y0 y1 y2 y3 y4 y5 y6 y7 y8 y9 y10))
  | 0 => ⟨fun _ _ _ _ _ _ _ _ _ _ _ r h => by simp [spec_l03Fill.l0] at h, fun _ _ _ _ _ _ _ _ _ _ _ r h => by simp [spec_l03Fill.j1] at h, fun _ _ _ _ _ _ _ _ _ _ _ r h => by simp [spec_l03Fill.l1] at h⟩
  | k + 1 => by
    obtain ⟨ih0, ih1, ih2⟩ := spec_l03Fill.mono_l k
    refine ⟨?_, ?_, ?_⟩
    · intro y0 y1 y2 y3 y4 y5 y6 y7 y8 y9 y10
      unfold spec_l03Fill.l0
      repeat' first
      | (with_reducible exact ih0 _ _ _ _ _ _ _ _ _ _ _)
      | (with_reducible exact ih1 _ _ _ _ _ _ _ _ _ _ _)
      | (with_reducible exact ih2 _ _ _ _ _ _ _ _ _ _ _)
      | (with_reducible exact LeO.refl _)
      | (with_reducible exact LeO.none _)
      | (with_reducible refine LeO.ite ?_ ?_)
      | (with_reducible refine LeO.bind ?_ (fun _ => ?_))
      | exact ih0 _ _ _ _ _ _ _ _ _ _ _
      | exact ih1 _ _ _ _ _ _ _ _ _ _ _
      | exact ih2 _ _ _ _ _ _ _ _ _ _ _
      | exact LeO.none _
      | refine LeO.ite ?_ ?_
      | refine LeO.bind ?_ (fun _ => ?_)
    · intro y0 y1 y2 y3 y4 y5 y6 y7 y8 y9 y10
      unfold spec_l03Fill.j1
      repeat' first
      | (with_reducible exact ih0 _ _ _ _ _ _ _ _ _ _ _)
      | (with_reducible exact ih1 _ _ _ _ _ _ _ _ _ _ _)
      | (with_reducible exact ih2 _ _ _ _ _ _ _ _ _ _ _)
      | (with_reducible exact LeO.refl _)
      | (with_reducible exact LeO.none _)
      | (with_reducible refine LeO.ite ?_ ?_)
      | (with_reducible refine LeO.bind ?_ (fun _ => ?_))
      | exact ih0 _ _ _ _ _ _ _ _ _ _ _
      | exact ih1 _ _ _ _ _ _ _ _ _ _ _
      | exact ih2 _ _ _ _ _ _ _ _ _ _ _
      | exact LeO.none _
      | refine LeO.ite ?_ ?_
      | refine LeO.bind ?_ (fun _ => ?_)
    · intro y0 y1 y2 y3 y4 y5 y6 y7 y8 y9 y10
      unfold spec_l03Fill.l1
      repeat' first
      | (with_reducible exact ih0 _ _ _ _ _ _ _ _ _ _ _)
      | (with_reducible exact ih1 _ _ _ _ _ _ _ _ _ _ _)
      | (with_reducible exact ih2 _ _ _ _ _ _ _ _ _ _ _)
      | (with_reducible exact LeO.refl _)
      | (with_reducible exact LeO.none _)
      | (with_reducible refine LeO.ite ?_ ?_)
      | (with_reducible refine LeO.bind ?_ (fun _ => ?_))
      | exact ih0 _ _ _ _ _ _ _ _ _ _ _
      | exact ih1 _ _ _ _ _ _ _ _ _ _ _
      | exact ih2 _ _ _ _ _ _ _ _ _ _ _
      | exact LeO.none _
      | refine LeO.ite ?_ ?_
      | refine LeO.bind ?_ (fun _ => ?_)
theorem spec_l03Fill.mono : ∀ a0 a1 a2 a3 a4 a5 k, LeO (spec_l03Fill.f k a0 a1 a2 a3 a4 a5) (spec_l03Fill.f (k + 1) a0 a1 a2 a3 a4 a5) := by
  intro a0 a1 a2 a3 a4 a5 k
  obtain ⟨ih0, ih1, ih2⟩ := spec_l03Fill.mono_l k
  unfold spec_l03Fill.f
  repeat' first
      | (with_reducible exact ih0 _ _ _ _ _ _ _ _ _ _ _)
      | (with_reducible exact ih1 _ _ _ _ _ _ _ _ _ _ _)
      | (with_reducible exact ih2 _ _ _ _ _ _ _ _ _ _ _)
      | (with_reducible exact LeO.refl _)
      | (with_reducible exact LeO.none _)
      | (with_reducible refine LeO.ite ?_ ?_)
      | (with_reducible refine LeO.bind ?_ (fun _ => ?_))
      | exact ih0 _ _ _ _ _ _ _ _ _ _ _
      | exact ih1 _ _ _ _ _ _ _ _ _ _ _
      | exact ih2 _ _ _ _ _ _ _ _ _ _ _
      | exact LeO.none _
      | refine LeO.ite ?_ ?_
      | refine LeO.bind ?_ (fun _ => ?_)
def spec_l03Fill.T6 : Bool × List (List Nat × List Nat) := (true, [([], []), ([0], [0]), ([], []), ([], []), ([], []), ([3, 4], [3, 4]), ([1, 2, 0, 1, 2, 3, 4, 5], [1, 2]), ([6, 5, 5, 0, 1, 2, 3, 4, 5], [5, 6])])
def spec_l03Fill.B6 : List Nat := [0, 1, 0, 0, 0, 24, 63, 127]
theorem spec_l03Fill.tab6 : rtab .any (opsOf Tryz.f21 6) = spec_l03Fill.T6 := by kernel_rfl
theorem spec_l03Fill.bits6 : waitsOk spec_l03Fill.T6.2 spec_l03Fill.B6 = true := by kernel_rfl
def spec_l03Fill.T11 : Bool × List (List Nat × List Nat) := (true, [([], []), ([0], [0]), ([], []), ([2], [2]), ([], []), ([3, 4], [3, 4]), ([], []), ([5, 6], [5, 6]), ([], []), ([8], [8]), ([], []), ([9, 10], [9, 10]), ([11], [11]), ([12], [12]), ([], []), ([13, 14], [13, 14]), ([1, 7, 0, 1, 2, 3, 4, 5, 6, 7, 8, 9, 10, 11, 12, 13, 14, 15], [1, 7]), ([16, 15, 0, 1, 2, 3, 4, 5, 6, 7, 8, 9, 10, 11, 12, 13, 14, 15], [15, 16])])
def spec_l03Fill.B11 : List Nat := [0, 1, 0, 4, 0, 28, 0, 124, 0, 256, 0, 1792, 3840, 7936, 0, 32512, 65535, 131071]
theorem spec_l03Fill.tab11 : rtab .any (opsOf Tryz.f21 11) = spec_l03Fill.T11 := by kernel_rfl
theorem spec_l03Fill.bits11 : waitsOk spec_l03Fill.T11.2 spec_l03Fill.B11 = true := by kernel_rfl
theorem Z21.z17 {P : Prop} (h : P := by exact ⟨(blk_cell BK108.out 0).trans rfl, (blk_cell BK108.out 1).trans rfl, (blk_cell BK108.out 2).trans rfl, (blk_cell BK108.out 3).trans rfl⟩) : P := h
theorem Z21.z16 {P : Prop} (h : P := by first | (with_reducible assumption) | assumption) : P := h
theorem Z21.z15 {P : Prop} (h : P := by first | rfl | (simp; done) | (simp [*]; done)) : P := h
theorem Z21.z14 {P : Prop} (h : P := by repeat (first | (with_reducible first | exact HB.out | apply below_alloc | apply pw_below_drewN | apply below_drew1 | refine below_set ?_ (IsS74.ge HI0.out) | refine below_set ?_ GE101.out) | exact HB.out)) : P := h
theorem Z21.z13 {P : Prop} (h : P := by repeat (first | (with_reducible first | exact HI0.out | apply IsS74.alloc | apply IsS74.drewN | apply IsS74.drew | apply IsS74.set_1 | apply IsS74.set_2 | refine IsS74.far ?_ NB0_101.out _) | exact HI0.out)) : P := h
theorem Z21.z12 {P : Prop} (h : P := by repeat (first | (with_reducible first | exact HK.out | apply KeepBut.set_ | apply keep_drewN | apply keep_drew | apply keep_alloc) | exact HK.out)) : P := h
theorem Z21.z11 {P : Prop} (h : P := by (with_reducible repeat (first | refine blk_drewN ?_ _ | refine blk_drew ?_ | refine blk_alloc ?_ _)); refine blk_far ?_ (by have h_ := Kd.R_ne HO_109003.out BK101.out (by decide); intro e_; exact h_ (by rw [e_]; rfl)) _; (with_reducible repeat (first | refine blk_drewN ?_ _ | refine blk_drew ?_ | refine blk_alloc ?_ _)); exact BK101.out) : P := h
theorem Z21.z10 {P : Prop} (h : P := by (with_reducible repeat (first | refine blk_drewN ?_ _ | refine blk_drew ?_ | refine blk_alloc ?_ _)); refine blk_far ?_ (by have h_ := Kd.R_ne HO_109003.out BK108.out (by decide); intro e_; exact h_ (by rw [e_]; rfl)) _; (with_reducible repeat (first | refine blk_drewN ?_ _ | refine blk_drew ?_ | refine blk_alloc ?_ _)); exact BK108.out) : P := h
theorem Z21.z9 {P : Prop} (h : P := by (try simp only [List.map_toArray, List.map_cons, List.map_nil]); first | done | rfl | (simp only [List.length_drop, List.length_take]; rfl)) : P := h
theorem Z21.z8 {P : Prop} (h : P := by repeat (first | (with_reducible first | exact HK.out | apply KeepBut.set_ | apply keep_drewN | apply keep_drew | apply keep_alloc | refine keep_far ?_ GW101.out _) | exact HK.out)) : P := h
theorem Z21.z7 {P : Prop} (h : P := by exact tgR HO_109003.out) : P := h
theorem Z21.z6 {P : Prop} (h : P := by exact tgB BK108.out) : P := h
theorem Z21.z5 {P : Prop} (h : P := by (with_reducible repeat (first | refine blk_drewN ?_ _ | refine blk_drew ?_ | refine blk_alloc ?_ _)); exact tgp BK101.out) : P := h
theorem Z21.z4 {P : Prop} (h : P := by exact tgB BK101.out) : P := h
theorem Z21.z3 {P : Prop} (h : P := by repeat (first | (with_reducible first | exact HK.out | apply KeepBut.set_ | apply keep_drewN | apply keep_drew | apply keep_alloc | refine keep_far ?_ GW101.out _ | refine keep_far ?_ GW108.out _) | exact HK.out)) : P := h
theorem Z21.z2 {P : Prop} (h : P := by simp only [Act.put, List.setIfInBounds_toArray, List.set_cons_zero, List.set_cons_succ, i64_w, i32_w]; rfl) : P := h
theorem Z21.z1 {P : Prop} (h : P := by repeat (first | (with_reducible first | exact HB.out | apply below_alloc | apply pw_below_drewN | apply below_drew1 | refine below_set ?_ (IsS74.ge HI0.out) | refine below_set ?_ GE101.out | refine below_set ?_ GE108.out) | exact HB.out)) : P := h
theorem Z21.z0 {P : Prop} (h : P := by repeat (first | (with_reducible first | exact HI0.out | apply IsS74.alloc | apply IsS74.drewN | apply IsS74.drew | apply IsS74.set_1 | apply IsS74.set_2 | refine IsS74.far ?_ NB0_101.out _ | refine IsS74.far ?_ NB0_108.out _) | exact HI0.out)) : P := h
set_option maxHeartbeats 8000000 in
set_option maxRecDepth 100000 in
theorem spec_l03Fill.calls (k : Nat) (g : Nat) (s0_0 : List Int) (s0_1 : Int) (s0_2 : Int) (a1 : Int) (a2 : Int) (a3 : Int) (r1 : Int) (r2 : Int) (r3 : Int) (r4 : List Int) (r5 : Int) (r6 : Int) (w0 w : World) (hI : IsS74 w0 w g s0_0 s0_1 s0_2) (hB : Below w0.heap.size w0 w) (h : spec_l03Fill.f k s0_0 s0_1 s0_2 a1 a2 a3 = some (r1, r2, r3, r4, r5, r6)) :
  Calls Tryz.prog 21 #[.pointer (some ⟨g, 0, none⟩), .int .i64 a1, .int .i64 a2, .int .i64 a3] w fun e w' => ∃ v3_ : Value, e = .returned (.agg #[.int .i64 r1, .int .i64 r2, .int .i64 r3, v3_]) ∧ Kd.R (Kd.int .i64) 2 w' w.heap.size (fun _ => True) v3_ r4 ∧ IsS74 w0 w' g s0_0 r5 r6 ∧ Below w0.heap.size w0 w' ∧ KeepBut w w' g none := by
 have hu28 := Tryz.underlying28
 have HI0 := tgk hI
 have HK := tgk (KeepBut.refl w g none)
 have HL := tgk hB.size
 clear hI
 have HW0 := tgk hB.size
 have HB := tgk hB
 clear hB
 have H : ((spec_l03Zero.f a1 a2 a3).bind fun bt102 => (spec_l03Fill.l0 k a1 a2 a3 0 s0_0 s0_1 s0_2 bt102.1 bt102.2.1 bt102.2.2.1 bt102.2.2.2)) = some (r1, r2, r3, r4, r5, r6) := h
 clear h
 obtain ⟨⟨t102, t103, t104, t105⟩, A5, H⟩ := tgbd H
 replace H : (spec_l03Fill.l0 k a1 a2 a3 0 s0_0 s0_1 s0_2 t102 t103 t104 t105) = some (r1, r2, r3, r4, r5, r6) := H
 have H' := tgk H
 clear H
 go_enter Tryz.func21, Tryz.ntmps21
 go_wp2_with (first | ((with_reducible refine gate_dst (N := 8) rfl ?_); refine box_event ?hg (N := 8) ?hd (cs := #[.int .i64 0, .int .i64 0, .int .i64 0, .slice none 0 0]) (t := 28) ?hr ?_; (case hd => rfl); (case hg => rfl); (case hr => first | (go_simp; done) | (go_simp; rfl)); intro gb101 hg w6 hbox hb; have BK101 := tgk (hbox); have GW101 := tgk (show w.heap.size ≤ gb101 from (by rw [hg]; exact (keep_size (w := w) (g := g) (row := none) Z21.z12))); have GE101 := tgk ((Nat.le_trans HW0.out (by rw [hg]; exact (keep_size (w := w) (g := g) (row := none) Z21.z12) : w.heap.size ≤ gb101) : w0.heap.size ≤ gb101)); have NB0_101 := tgk ((by rw [hg]; exact Nat.ne_of_lt (IsS74.lt (show IsS74 w0 _ g s0_0 s0_1 s0_2 from by repeat (first | (with_reducible first | exact HI0.out | apply IsS74.alloc | apply IsS74.drewN | apply IsS74.drew | apply IsS74.set_1 | apply IsS74.set_2) | exact HI0.out))) : g ≠ gb101)); have NB101_0 := tgk ((by rw [hg]; exact Nat.ne_of_gt (IsS74.lt (show IsS74 w0 _ g s0_0 s0_1 s0_2 from by repeat (first | (with_reducible first | exact HI0.out | apply IsS74.alloc | apply IsS74.drewN | apply IsS74.drew | apply IsS74.set_1 | apply IsS74.set_2) | exact HI0.out))) : gb101 ≠ g)); replace HK := tgk (KeepBut.trans Z21.z12 (KeepBut.of_below hb g none) (.inl rfl)); replace HB := tgk (below_step (by repeat (first | (with_reducible first | exact HB.out | apply below_alloc | apply pw_below_drewN | apply below_drew1 | refine below_set ?_ (IsS74.ge HI0.out)) | exact HB.out)) hb); replace HI0 := tgk (IsS74.below (by repeat (first | (with_reducible first | exact HI0.out | apply IsS74.alloc | apply IsS74.drewN | apply IsS74.drew | apply IsS74.set_1 | apply IsS74.set_2) | exact HI0.out)) hb); clear hb hbox hg) | ((with_reducible refine gate_callee (f := 43) rfl ?_); refine goesL_ (some 15) rfl rfl Tryz.func43 (by kernel_rfl) rfl #[.int .i64 a1, .int .i64 a2, .int .i64 a3] rfl Z21.z9 ?_; (with_reducible refine (spec_l03Zero.calls a1 a2 a3 t102 t103 t104 t105 _ A5.out).mono ?_); rintro e w7 ⟨v106, rfl, ho0, hb⟩; refine ⟨_, rfl, ?_⟩; have HO107 := tgk (Kd.R_lower ho0 (keep_size (w := w) (g := g) (row := none) Z21.z8)); replace BK101 := tgk (tgbb BK101 Z21.z4 hb); replace HK := tgk (KeepBut.trans Z21.z8 (KeepBut.of_below hb g none) (.inl rfl)); replace HB := tgk (below_step Z21.z14 hb); replace HI0 := tgk (IsS74.below Z21.z13 hb); (try clear hb); (try clear ho0)) | ((with_reducible refine gate_dst (N := 9) rfl ?_); refine box_event ?hg (N := 9) ?hd (cs := #[.int .i64 0, .int .i64 0, .int .i64 0, .slice none 0 0]) (t := 28) ?hr ?_; (case hd => rfl); (case hg => rfl); (case hr => first | (go_simp; done) | (go_simp; rfl)); intro gb108 hg w8 hbox hb; have BK108 := tgk (hbox); have GW108 := tgk (show w.heap.size ≤ gb108 from (by rw [hg]; exact (keep_size (w := w) (g := g) (row := none) Z21.z8))); have GE108 := tgk ((Nat.le_trans HW0.out (by rw [hg]; exact (keep_size (w := w) (g := g) (row := none) Z21.z8) : w.heap.size ≤ gb108) : w0.heap.size ≤ gb108)); have NB101_108 := tgk (show gb101 ≠ gb108 from (by rw [hg]; exact Nat.ne_of_lt (tgbl BK101 Z21.z4))); have NB108_101 := tgk (show gb108 ≠ gb101 from (by rw [hg]; exact Nat.ne_of_gt (tgbl BK101 Z21.z4))); have NB0_108 := tgk ((by rw [hg]; exact Nat.ne_of_lt (IsS74.lt (show IsS74 w0 _ g s0_0 s0_1 s0_2 from by repeat (first | (with_reducible first | exact HI0.out | apply IsS74.alloc | apply IsS74.drewN | apply IsS74.drew | apply IsS74.set_1 | apply IsS74.set_2 | refine IsS74.far ?_ NB0_101.out _) | exact HI0.out))) : g ≠ gb108)); have NB108_0 := tgk ((by rw [hg]; exact Nat.ne_of_gt (IsS74.lt (show IsS74 w0 _ g s0_0 s0_1 s0_2 from by repeat (first | (with_reducible first | exact HI0.out | apply IsS74.alloc | apply IsS74.drewN | apply IsS74.drew | apply IsS74.set_1 | apply IsS74.set_2 | refine IsS74.far ?_ NB0_101.out _) | exact HI0.out))) : gb108 ≠ g)); replace HO107 := tgk (Kd.R_below (tgR HO107.out) hb); replace BK101 := tgk (tgbb BK101 Z21.z4 hb); replace HK := tgk (KeepBut.trans Z21.z8 (KeepBut.of_below hb g none) (.inl rfl)); replace HB := tgk (below_step Z21.z14 hb); replace HI0 := tgk (IsS74.below Z21.z13 hb); clear hb hbox hg; have hnb9 := NB108_101.out; have hnc9 := NB101_108.out; have hnb10 := NB108_0.out; have hnc10 := NB0_108.out; obtain ⟨hcz11_0, hcz11_1, hcz11_2, hcz11_3, hfz11_0, hfz11_1, hfz11_2, hfz11_3⟩ := cells4 BK108.out; obtain ⟨Ao12, co12, eo12⟩ := Kd.R_slice HO107.out; subst eo12))
 go_loopg [10] k (fun kq v10 w' => ∃ (x10_1 : Int) (x1001_1 : Int) (x1002_1 : Int) (x109003_1 : List Int) (u109003 : Value), v10 = .int .i64 x10_1 ∧ Aside0 (spec_l03Fill.l0 kq a1 a2 a3 x10_1 s0_0 x1001_1 x1002_1 t102 t103 t104 x109003_1 = some (r1, r2, r3, r4, r5, r6)) ∧ Aside0 (kq ≤ k) ∧ Aside0 (Kd.R (Kd.int .i64) 2 w' w.heap.size (fun _ => True) u109003 x109003_1) ∧ Aside0 (w'.heap[gb101]? = some (.cells #[.int .i64 0, .int .i64 0, .int .i64 0, (.slice none 0 0)] 28 (0, 0))) ∧ Aside0 (w'.heap[gb108]? = some (.cells #[.int .i64 t102, .int .i64 t103, .int .i64 t104, u109003] 28 (0, 0))) ∧ Aside0 (IsS74 w0 w' g s0_0 x1001_1 x1002_1) ∧ Aside0 (KeepBut w w' g none) ∧ Aside0 (Below w0.heap.size w0 w'))
 case atStart => exact ⟨(0), (s0_1), (s0_2), (t105), (.slice Ao12 t105.length co12), Z21.z15, H', ⟨Nat.le_refl _⟩, ⟨(by (with_reducible repeat (first | apply Kd.R_alloc | apply Kd.R_drewN | apply Kd.R_drew)); exact Kd.R_mono (Kd.R_far (p := ⟨gb108, 3, none⟩) (Kd.R_far (p := ⟨gb108, 2, none⟩) (Kd.R_far (p := ⟨gb108, 1, none⟩) (Kd.R_far (p := ⟨gb108, 0, none⟩) (Kd.R_types HO107.out BK108.out (by decide)) (fun _ hk => hk.2) (.int .i64 t102)) (fun _ hk => hk.2) (.int .i64 t103)) (fun _ hk => hk.2) (.int .i64 t104)) (fun _ hk => hk.2) (.slice Ao12 t105.length co12)) (fun _ hk => trivial))⟩, ⟨(by (repeat (first | (with_reducible first | refine blk_drewN ?_ _ | refine blk_drew ?_ | refine blk_alloc ?_ _) | refine blk_far ?_ NB101_108.out _)); exact BK101.out)⟩, ⟨(by (with_reducible repeat (first | refine blk_drewN ?_ _ | refine blk_drew ?_ | refine blk_alloc ?_ _)); exact tgp BK108.out)⟩, ⟨Z21.z0⟩, ⟨Z21.z3⟩, ⟨Z21.z1⟩⟩
 case round =>
  clear H'
  try clear c1
  try clear c2
  try clear p2
  try clear c4
  try clear c9
  try clear c10
  try clear hcz11_0
  try clear hcz11_1
  try clear hcz11_2
  try clear hcz11_3
  try clear hfz11_0
  try clear hfz11_1
  try clear hfz11_2
  try clear hfz11_3
  obtain ⟨x10_1, x1001_1, x1002_1, x109003_1, u109003, rfl, HA, HK1, HO_109003, BK101, BK108, HI0, HK, HB⟩ := hrel
  cases gk with
  | zero => exact absurd HA.out (by simp [spec_l03Fill.l0])
  | succ k1 =>
   have H := HA.out
   clear HA
   simp only [spec_l03Fill.l0] at H
   by_cases c13 : x10_1 < (x109003_1.length : Int)
   ·rw [if_pos c13] at H
    have c13b0 := decide_eq_true c13
    clear c13
    obtain ⟨⟨t109, t110, t111⟩, A14, H⟩ := tgbd H
    (try dsimp only at H)
    by_cases c15 : t109 > 0
    ·rw [if_pos c15] at H
     have c15b0 : decide (0 < t109) = true := decide_eq_true c15
     clear c15
     obtain ⟨⟨t112, t113, t114⟩, A16, H⟩ := tgbd H
     (try dsimp only at H)
     by_cases c17 : 0 ≤ x10_1
     ·rw [if_pos c17] at H
      have c17b0 := decide_eq_true c17; clear c17; obtain ⟨y115, hy115⟩ : ∃ y_ : List Int, y_ = (x109003_1.set (x10_1 : Int).toNat t112) := ⟨_, rfl⟩; replace H : (spec_l03Fill.l0 k1 a1 a2 a3 (wrap64 (x10_1 + 1)) s0_0 t113 t114 t102 t103 t104 y115) = some (r1, r2, r3, r4, r5, r6) := by first | (rw [hy115]; with_reducible exact H) | (have H2_ := (Option.bind_some _ _).symm.trans H; rw [hy115]; with_reducible exact H2_) | (have H2_ := (Option.bind_some _ _).symm.trans H; with_reducible exact H2_) | with_reducible exact H | (rw [hy115]; exact H) | exact H
      have Ny115 := tgk hy115; clear hy115; have H' := tgk H; clear H; have hnb19 := NB108_101.out; have hnc19 := NB101_108.out; have hnb20 := NB108_0.out; have hnc20 := NB0_108.out; obtain ⟨hcz21_0, hcz21_1, hcz21_2, hcz21_3, hfz21_0, hfz21_1, hfz21_2, hfz21_3⟩ := cells4 BK108.out; obtain ⟨Ao22, co22, eo22⟩ := Kd.R_slice HO_109003.out; subst eo22
      try go_wp2_with (first | ((with_reducible refine gate_callee (f := 33) rfl ?_); refine goesL_ (some 24) rfl rfl Tryz.func33 (by kernel_rfl) rfl #[.pointer (some ⟨g, 0, none⟩), .int .i64 3] rfl Z21.z9 ?_; (with_reducible refine (spec_l00Src_pick.calls g s0_0 x1001_1 x1002_1 3 t109 t110 t111 w0 _ ?side1 ?side2 A14.out).mono ?_); (case side1 => exact Z21.z0); (case side2 => exact Z21.z1); rintro e w23 ⟨rfl, hi, hb, hk⟩; refine ⟨_, rfl, ?_⟩; replace HO_109003 := tgk (Kd.R_mono (Kd.R_keep (IsS74.apart (show IsS74 w0 _ g s0_0 x1001_1 x1002_1 from by repeat (first | (with_reducible first | exact HI0.out | apply IsS74.alloc | apply IsS74.drewN | apply IsS74.drew | apply IsS74.set_1 | apply IsS74.set_2 | refine IsS74.far ?_ NB0_101.out _ | refine IsS74.far ?_ NB0_108.out _) | exact HI0.out)) Z21.z7 (by decide)) hk (fun _ h => h.2)) (fun _ h => h.1)); replace BK101 := tgk (KeepBut.blk hk (g' := gb101) (o := .cells #[.int .i64 0, .int .i64 0, .int .i64 0, .slice none 0 0] 28 (0, 0)) Z21.z4 NB101_0.out (by simp)); replace BK108 := tgk (KeepBut.blk hk (g' := gb108) (o := .cells #[.int .i64 t102, .int .i64 t103, .int .i64 t104, .slice Ao22 x109003_1.length co22] 28 (0, 0)) Z21.z6 NB108_0.out (by simp)); replace HK := tgk (KeepBut.trans Z21.z3 hk (.inl rfl)); replace HB := tgk (hb); replace HI0 := tgk (hi); (try clear hb); (try clear hk); (try clear hi)))
      replace HO_109003 := tgk (Kd.R_drew HO_109003.out); replace BK101 := tgk (blk_drew BK101.out); replace BK108 := tgk (blk_drew BK108.out); replace HI0 := tgk (IsS74.drew HI0.out); replace HK := tgk (keep_drew HK.out); replace HB := tgk (below_drew1 HB.out); refine start_ (n := 8) (S := fun w' => w'.cell? ⟨gb108, 0, none⟩ = some (.int .i64 t102) ∧ w'.cell? ⟨gb108, 1, none⟩ = some (.int .i64 t103) ∧ w'.cell? ⟨gb108, 2, none⟩ = some (.int .i64 t104) ∧ w'.cell? ⟨gb108, 3, none⟩ = some (.slice Ao22 x109003_1.length co22)) (ds := [7]) #[false, false, false, false, false, false, false, false] (by kernel_rfl) rfl rfl Z21.z17 (fun hHeld => ?_); refine with_tabW spec_l03Fill.tab6 spec_l03Fill.bits6 (fun HT_ HW_ => ?_); generalize w23.drew = w24 at HO_109003 BK101 BK108 HI0 HK HB hHeld ⊢
      refine tgpP 0 26 (tgb 8 1) ?_; refine tgpP 2 28 (tgb 8 5) ?_; refine tgpP 3 29 (tgb 8 13) ?_; refine tgpP 4 30 (tgb 8 29) ?_; refine tgT4 1 27 (tgb 8 31) hHeld ?_; refine one_ (i := 5) (N := some 31) (tgb 8 63) rfl rfl (one_of HT_.out (by kernel_rfl)) (by decide) (fun K hK => ?_); refine goes_ Tryz.func33 (by kernel_rfl) rfl #[.pointer (some ⟨g, 0, none⟩), .int .i64 a1] (by rfl) rfl rfl Z21.z9 ?_
      with_reducible refine (spec_l00Src_pick.calls g s0_0 t110 t111 a1 t112 t113 t114 w0 _ ?side1 ?side2 A16.out).mono ?_
      (case side1 => exact Z21.z0)
      (case side2 => exact Z21.z1)
      rintro e w25 ⟨rfl, hi, hb, hk⟩
      refine ⟨_, rfl, ?_⟩; replace HO_109003 := tgk (Kd.R_mono (Kd.R_keep (IsS74.apart (show IsS74 w0 _ g s0_0 t110 t111 from by repeat (first | (with_reducible first | exact HI0.out | apply IsS74.alloc | apply IsS74.drewN | apply IsS74.drew | apply IsS74.set_1 | apply IsS74.set_2 | refine IsS74.far ?_ NB0_101.out _ | refine IsS74.far ?_ NB0_108.out _) | exact HI0.out)) Z21.z7 (by decide)) hk (fun _ h => h.2)) (fun _ h => h.1)); replace BK101 := tgk (KeepBut.blk hk (g' := gb101) (o := .cells #[.int .i64 0, .int .i64 0, .int .i64 0, .slice none 0 0] 28 (0, 0)) Z21.z4 NB101_0.out (by simp)); replace BK108 := tgk (KeepBut.blk hk (g' := gb108) (o := .cells #[.int .i64 t102, .int .i64 t103, .int .i64 t104, .slice Ao22 x109003_1.length co22] 28 (0, 0)) Z21.z6 NB108_0.out (by simp)); replace HK := tgk (KeepBut.trans Z21.z3 hk (.inl rfl)); replace HB := tgk (hb); replace HI0 := tgk (hi); (try clear hb); (try clear hb2); (try clear hk); (try clear hi); have p18 : 0 ≤ (x10_1 : Int) := of_decide_eq_true Z21.z16; have q18 : (x10_1 : Int) < ((x109003_1.length : Int) : Int) := of_decide_eq_true Z21.z16; obtain ⟨go18, co18, eo18, gb18, gl18, cl18, HG18⟩ := Kd.R_form HO_109003.out (by omega)
      (first | cases eo18 | (injection eo18 with ea_ en_ ec_; (first | subst ea_ | (injection ea_ with ea_; subst ea_)); subst ec_; clear en_))
      have GB18 := tgk gb18; have GG18 := tgk HG18; clear gb18 gl18 HG18; obtain ⟨hx18_0, hf18_0⟩ := Kd.R_celln 0 HO_109003.out (x10_1 : Int) p18 q18; replace p18 := eq_true p18; replace q18 := eq_true q18; have HN0_go18 := tgk (show g ≠ go18 from by have h_ := IsS74.own_ne HI0.out HO_109003.out (by decide); intro e_; exact h_ (by rw [e_]; rfl)); have HP26 := Kd.R_putn HO_109003.out (x10_1 : Int) t112; rw [← Ny115.out] at HP26; have HQ26 := tgk HP26; clear HP26; refine hK.out _ _ Z21.z17 (fun hHeld => ?_); clear hK K; refine tgnm 31 ?_; refine tgpP 6 32 (tgb 8 127) ?_; refine last_ (i := 7) (N := none) (tgb 8 255) rfl rfl (one_of HT_.out (by kernel_rfl)) (by decide) (fun K hK => ?_); refine skip_ (w1 := ?_) (by rfl) rfl ?_ ?_
      rotate_left
      ·go_simp
       rfl
      refine hK.out _ _ ?_; clear hK K; refine done_ (done_of HT_.out (by kernel_rfl)) ?_
      try go_wp2
      go_roundg k1
      case measure => have := HK1.out; omega
      case rel => exact ⟨(wrap64 (x10_1 + 1)), (t113), (t114), (y115), (.slice (some ⟨go18, 0, none⟩) x109003_1.length co22), Z21.z15, H', ⟨(by have := HK1.out; omega)⟩, ⟨(tgR HQ26.out)⟩, ⟨Z21.z11⟩, ⟨Z21.z10⟩, ⟨(by repeat (first | (with_reducible first | exact HI0.out | apply IsS74.alloc | apply IsS74.drewN | apply IsS74.drew | apply IsS74.set_1 | apply IsS74.set_2 | refine IsS74.far ?_ HN0_go18.out _ | refine IsS74.far ?_ NB0_101.out _ | refine IsS74.far ?_ NB0_108.out _) | exact HI0.out))⟩, ⟨(by repeat (first | (with_reducible first | exact HK.out | apply KeepBut.set_ | apply keep_drewN | apply keep_drew | apply keep_alloc | refine keep_far ?_ GB18.out _ | refine keep_far ?_ GW101.out _ | refine keep_far ?_ GW108.out _) | exact HK.out))⟩, ⟨(by repeat (first | (with_reducible first | exact HB.out | apply below_alloc | apply pw_below_drewN | apply below_drew1 | refine below_set ?_ (Nat.le_trans HL.out GB18.out) | refine below_set ?_ (IsS74.ge HI0.out) | refine below_set ?_ GE101.out | refine below_set ?_ GE108.out) | exact HB.out))⟩⟩
     rw [if_neg c17] at H
     exact absurd H (by simp)
    rw [if_neg c15] at H
    have c15b0 : decide (0 < t109) = false := decide_eq_false c15
    clear c15
    have H' := tgk H
    clear H
    have hnb27 := NB108_101.out
    have hnc27 := NB101_108.out
    have hnb28 := NB108_0.out
    have hnc28 := NB0_108.out
    obtain ⟨hcz29_0, hcz29_1, hcz29_2, hcz29_3, hfz29_0, hfz29_1, hfz29_2, hfz29_3⟩ := cells4 BK108.out
    obtain ⟨Ao30, co30, eo30⟩ := Kd.R_slice HO_109003.out
    subst eo30
    go_wp2_with (first | ((with_reducible refine gate_callee (f := 33) rfl ?_); refine goesL_ (some 24) rfl rfl Tryz.func33 (by kernel_rfl) rfl #[.pointer (some ⟨g, 0, none⟩), .int .i64 3] rfl Z21.z9 ?_; (with_reducible refine (spec_l00Src_pick.calls g s0_0 x1001_1 x1002_1 3 t109 t110 t111 w0 _ ?side1 ?side2 A14.out).mono ?_); (case side1 => exact Z21.z0); (case side2 => exact Z21.z1); rintro e w31 ⟨rfl, hi, hb, hk⟩; refine ⟨_, rfl, ?_⟩; replace HO_109003 := tgk (Kd.R_mono (Kd.R_keep (IsS74.apart (show IsS74 w0 _ g s0_0 x1001_1 x1002_1 from by repeat (first | (with_reducible first | exact HI0.out | apply IsS74.alloc | apply IsS74.drewN | apply IsS74.drew | apply IsS74.set_1 | apply IsS74.set_2 | refine IsS74.far ?_ NB0_101.out _ | refine IsS74.far ?_ NB0_108.out _) | exact HI0.out)) Z21.z7 (by decide)) hk (fun _ h => h.2)) (fun _ h => h.1)); replace BK101 := tgk (KeepBut.blk hk (g' := gb101) (o := .cells #[.int .i64 0, .int .i64 0, .int .i64 0, .slice none 0 0] 28 (0, 0)) Z21.z4 NB101_0.out (by simp)); replace BK108 := tgk (KeepBut.blk hk (g' := gb108) (o := .cells #[.int .i64 t102, .int .i64 t103, .int .i64 t104, .slice Ao30 x109003_1.length co30] 28 (0, 0)) Z21.z6 NB108_0.out (by simp)); replace HK := tgk (KeepBut.trans Z21.z3 hk (.inl rfl)); replace HB := tgk (hb); replace HI0 := tgk (hi); (try clear hb); (try clear hk); (try clear hi)))
    go_roundg k1
    case measure => have := HK1.out; omega
    case rel => exact ⟨(wrap64 (x10_1 + 1)), (t110), (t111), (x109003_1), (.slice Ao30 x109003_1.length co30), Z21.z15, H', ⟨(by have := HK1.out; omega)⟩, ⟨Z21.z7⟩, ⟨Z21.z4⟩, ⟨Z21.z6⟩, ⟨Z21.z0⟩, ⟨Z21.z3⟩, ⟨Z21.z1⟩⟩
   rw [if_neg c13] at H
   have c13b0 := decide_eq_false c13
   clear c13
   have HC32 := tgk H
   clear H
   have hnb33 := NB108_101.out
   have hnc33 := NB101_108.out
   have hnb34 := NB108_0.out
   have hnc34 := NB0_108.out
   obtain ⟨hcz35_0, hcz35_1, hcz35_2, hcz35_3, hfz35_0, hfz35_1, hfz35_2, hfz35_3⟩ := cells4 BK108.out
   obtain ⟨Ao36, co36, eo36⟩ := Kd.R_slice HO_109003.out
   subst eo36
   go_upto_region 7 with (fail)
   go_cut [38] (fun v38 wc => ∃ (kq : Nat) (x38_31 : Bool) (x1001_31 : Int) (x1002_31 : Int), v38 = .bool x38_31 ∧ Aside0 (spec_l03Fill.j1 kq a1 a2 a3 x38_31 s0_0 x1001_31 x1002_31 t102 t103 t104 x109003_1 = some (r1, r2, r3, r4, r5, r6)) ∧ Aside0 (kq ≤ k1) ∧ Aside0 (Kd.R (Kd.int .i64) 2 wc w.heap.size (fun _ => True) (.slice Ao36 x109003_1.length co36) x109003_1) ∧ Aside0 (wc.heap[gb101]? = some (.cells #[.int .i64 0, .int .i64 0, .int .i64 0, (.slice none 0 0)] 28 (0, 0))) ∧ Aside0 (wc.heap[gb108]? = some (.cells #[.int .i64 t102, .int .i64 t103, .int .i64 t104, (.slice Ao36 x109003_1.length co36)] 28 (0, 0))) ∧ Aside0 (IsS74 w0 wc g s0_0 x1001_31 x1002_31) ∧ Aside0 (KeepBut w wc g none) ∧ Aside0 (Below w0.heap.size w0 wc))
   case first =>
    have H := HC32.out
    clear HC32
    by_cases c37 : a2 > 1
    ·rw [if_pos c37] at H
     have c37b0 : decide (1 < a2) = true := decide_eq_true c37
     clear c37
     (first | rw [c37b0] | (simp only [i64_w, i32_w]; rw [c37b0]) | skip)
     obtain ⟨⟨t116, t117, t118⟩, A38, H⟩ := tgbd H
     (try dsimp only at H)
     have H' := tgk H
     clear H
     go_wp2_with (first | (go_at_call 44; (with_reducible refine (spec_l00Src_one.calls g s0_0 x1001_1 x1002_1 3 t116 t117 t118 w0 _ ?side1 ?side2 A38.out).mono ?_); (case side1 => exact Z21.z0); (case side2 => exact Z21.z1); rintro e w39 ⟨rfl, hi, hb, hk⟩; replace HO_109003 := tgk (Kd.R_mono (Kd.R_keep (IsS74.apart (show IsS74 w0 _ g s0_0 x1001_1 x1002_1 from by repeat (first | (with_reducible first | exact HI0.out | apply IsS74.alloc | apply IsS74.drewN | apply IsS74.drew | apply IsS74.set_1 | apply IsS74.set_2 | refine IsS74.far ?_ NB0_101.out _ | refine IsS74.far ?_ NB0_108.out _) | exact HI0.out)) Z21.z7 (by decide)) hk (fun _ h => h.2)) (fun _ h => h.1)); replace BK101 := tgk (KeepBut.blk hk (g' := gb101) (o := .cells #[.int .i64 0, .int .i64 0, .int .i64 0, .slice none 0 0] 28 (0, 0)) Z21.z4 NB101_0.out (by simp)); replace BK108 := tgk (KeepBut.blk hk (g' := gb108) (o := .cells #[.int .i64 t102, .int .i64 t103, .int .i64 t104, .slice Ao36 x109003_1.length co36] 28 (0, 0)) Z21.z6 NB108_0.out (by simp)); replace HK := tgk (KeepBut.trans Z21.z3 hk (.inl rfl)); replace HB := tgk (hb); replace HI0 := tgk (hi); (try clear hb); (try clear hk); (try clear hi)))
     go_meet
     case rel => exact ⟨_, (t116), (t117), (t118), Z21.z15, H', ⟨(by have := HK1.out; first | omega | exact Nat.le_refl _)⟩, ⟨Z21.z7⟩, ⟨Z21.z4⟩, ⟨Z21.z6⟩, ⟨Z21.z0⟩, ⟨Z21.z3⟩, ⟨Z21.z1⟩⟩
    rw [if_neg c37] at H
    have c37b0 : decide (1 < a2) = false := decide_eq_false c37
    clear c37
    (first | rw [c37b0] | (simp only [i64_w, i32_w]; rw [c37b0]) | skip)
    have H' := tgk H
    clear H
    go_wp2
    go_meet
    case rel => exact ⟨_, (false), (x1001_1), (x1002_1), Z21.z15, H', ⟨(by have := HK1.out; first | omega | exact Nat.le_refl _)⟩, ⟨Z21.z7⟩, ⟨Z21.z4⟩, ⟨Z21.z6⟩, ⟨Z21.z0⟩, ⟨Z21.z3⟩, ⟨Z21.z1⟩⟩
   case rest =>
    clear HC32
    try clear c1
    try clear p1
    try clear q1
    try clear hx1
    try clear c2
    try clear p2
    try clear c3
    try clear c4
    try clear p6
    try clear c9
    try clear c10
    try clear c13
    try clear c13b0
    try clear c15
    try clear c15b0
    try clear c17
    try clear c17b0
    try clear p18
    try clear q18
    try clear hx18
    try clear hf18
    try clear c19
    try clear c20
    try clear c21
    try clear c27
    try clear c28
    try clear c33
    try clear c34
    try clear c37
    try clear c37b0
    try clear hcz11_0
    try clear hcz11_1
    try clear hcz11_2
    try clear hcz11_3
    try clear hcz21_0
    try clear hcz21_1
    try clear hcz21_2
    try clear hcz21_3
    try clear hcz29_0
    try clear hcz29_1
    try clear hcz29_2
    try clear hcz29_3
    try clear hcz35_0
    try clear hcz35_1
    try clear hcz35_2
    try clear hcz35_3
    try clear hfz11_0
    try clear hfz11_1
    try clear hfz11_2
    try clear hfz11_3
    try clear hfz21_0
    try clear hfz21_1
    try clear hfz21_2
    try clear hfz21_3
    try clear hfz29_0
    try clear hfz29_1
    try clear hfz29_2
    try clear hfz29_3
    try clear hfz35_0
    try clear hfz35_1
    try clear hfz35_2
    try clear hfz35_3
    try clear hx18_0
    try clear p18
    try clear p2
    try clear q18
    obtain ⟨kq, x38_31, x1001_31, x1002_31, rfl, HA, HJ31, HO_109003, BK101, BK108, HI0, HK, HB⟩ := hcut
    cases kq with
    | zero => exact absurd HA.out (by simp [spec_l03Fill.j1])
    | succ kj31 =>
     have H := HA.out
     clear HA
     simp only [spec_l03Fill.j1] at H
     by_cases c40 : x38_31 = true
     ·subst c40
      rw [if_pos rfl] at H; have H' := tgk H; clear H
      go_wp2
      go_loopg [11] kj31 (fun kq v11 w' => ∃ (x11_3 : Int) (x109003_3 : List Int) (u109003 : Value), v11 = .int .i64 x11_3 ∧ Aside0 (spec_l03Fill.l1 kq a1 a2 a3 x11_3 s0_0 x1001_31 x1002_31 t102 t103 t104 x109003_3 = some (r1, r2, r3, r4, r5, r6)) ∧ Aside0 (kq ≤ kj31) ∧ Aside0 (Kd.R (Kd.int .i64) 2 w' w.heap.size (fun _ => True) u109003 x109003_3) ∧ Aside0 (w'.heap[gb101]? = some (.cells #[.int .i64 0, .int .i64 0, .int .i64 0, (.slice none 0 0)] 28 (0, 0))) ∧ Aside0 (w'.heap[gb108]? = some (.cells #[.int .i64 t102, .int .i64 t103, .int .i64 t104, u109003] 28 (0, 0))) ∧ Aside0 (IsS74 w0 w' g s0_0 x1001_31 x1002_31) ∧ Aside0 (KeepBut w w' g none) ∧ Aside0 (Below w0.heap.size w0 w'))
      case atStart => exact ⟨(0), (x109003_1), (.slice Ao36 x109003_1.length co36), Z21.z15, H', ⟨Nat.le_refl _⟩, ⟨Z21.z7⟩, ⟨Z21.z4⟩, ⟨Z21.z6⟩, ⟨Z21.z0⟩, ⟨Z21.z3⟩, ⟨Z21.z1⟩⟩
      case round =>
       clear H'; (try clear c1); (try clear p1); (try clear q1); (try clear hx1); (try clear c2); (try clear p2); (try clear c3); (try clear c4); (try clear p6); (try clear c9); (try clear c10); (try clear c13); (try clear c13b0); (try clear c15); (try clear c15b0); (try clear c17); (try clear c17b0); (try clear p18); (try clear q18); (try clear hx18); (try clear hf18); (try clear c19); (try clear c20); (try clear c21); (try clear c27); (try clear c28); (try clear c33); (try clear c34); (try clear c37); (try clear c37b0); (try clear c40); (try clear hcz11_0); (try clear hcz11_1); (try clear hcz11_2); (try clear hcz11_3); (try clear hcz21_0); (try clear hcz21_1); (try clear hcz21_2); (try clear hcz21_3); (try clear hcz29_0); (try clear hcz29_1); (try clear hcz29_2); (try clear hcz29_3); (try clear hcz35_0); (try clear hcz35_1); (try clear hcz35_2); (try clear hcz35_3); (try clear hfz11_0); (try clear hfz11_1); (try clear hfz11_2); (try clear hfz11_3); (try clear hfz21_0); (try clear hfz21_1); (try clear hfz21_2); (try clear hfz21_3); (try clear hfz29_0); (try clear hfz29_1); (try clear hfz29_2); (try clear hfz29_3); (try clear hfz35_0); (try clear hfz35_1); (try clear hfz35_2); (try clear hfz35_3); (try clear hx18_0); (try clear p1); (try clear p18); (try clear p2); (try clear p6); (try clear q1); (try clear q18); obtain ⟨x11_3, x109003_3, u109003, rfl, HA, HK3, HO_109003, BK101, BK108, HI0, HK, HB⟩ := hrel; cases gk with
       | zero => exact absurd HA.out (by simp [spec_l03Fill.l1])
       | succ k3 =>
        have H := HA.out
        clear HA; simp only [spec_l03Fill.l1] at H
        by_cases c41 : x11_3 < a3
        ·rw [if_pos c41] at H
         have c41b0 := decide_eq_true c41; clear c41
         by_cases c42 : 0 ≤ x11_3
         ·rw [if_pos c42] at H
          have c42b0 := decide_eq_true c42; clear c42
          by_cases c43 : x11_3 < (x109003_3.length : Int)
          ·rw [if_pos c43] at H
           have c43b0 := decide_eq_true c43; clear c43
           by_cases c44 : a1 = 0
           ·rw [if_pos c44] at H
            exact absurd H (by simp)
           rw [if_neg c44] at H; obtain ⟨c44b0, c44b1⟩ := tgn c44; obtain ⟨ji45, hji45⟩ : ∃ j_ : Int, (wrap64 ((wrap64 ((wrap64 (a2 - 1)) * a3)) + x11_3)) = j_ := ⟨_, rfl⟩; replace H : (if 0 ≤ (ji45) then (if (ji45) < (x109003_3.length : Int) then (spec_l03Fill.l1 k3 a1 a2 a3 (wrap64 (x11_3 + 1)) s0_0 x1001_31 x1002_31 t102 t103 t104 (x109003_3.set ((ji45) : Int).toNat (Int.tmod (wrap64 ((rd x109003_3 x11_3) * 2)) a1))) else (none)) else (none)) = some (r1, r2, r3, r4, r5, r6) := by first | (rw [hji45] at H; exact H) | (simp only [hji45] at H ⊢; exact H)
           have hji45w : (IntKind.i64.wrap ((wrap64 ((wrap64 (a2 - 1)) * a3)) + x11_3)) = ji45 := (i64_w _).trans hji45
           by_cases c46 : 0 ≤ (ji45)
           ·rw [if_pos c46] at H
            have c46b0 := decide_eq_true c46; clear c46
            by_cases c47 : (ji45) < (x109003_3.length : Int)
            ·rw [if_pos c47] at H
             have c47b0 := decide_eq_true c47; clear c47; obtain ⟨y120, hy120⟩ : ∃ y_ : List Int, y_ = (x109003_3.set ((ji45) : Int).toNat (Int.tmod (wrap64 ((rd x109003_3 x11_3) * 2)) a1)) := ⟨_, rfl⟩; replace H : (spec_l03Fill.l1 k3 a1 a2 a3 (wrap64 (x11_3 + 1)) s0_0 x1001_31 x1002_31 t102 t103 t104 y120) = some (r1, r2, r3, r4, r5, r6) := by first | (rw [hy120]; with_reducible exact H) | (have H2_ := (Option.bind_some _ _).symm.trans H; rw [hy120]; with_reducible exact H2_) | (have H2_ := (Option.bind_some _ _).symm.trans H; with_reducible exact H2_) | with_reducible exact H | (rw [hy120]; exact H) | exact H
             have Ny120 := tgk hy120; clear hy120; have H' := tgk H; clear H
             try go_wp2
             replace HO_109003 := tgk (Kd.R_drew HO_109003.out); replace BK101 := tgk (blk_drew BK101.out); replace BK108 := tgk (blk_drew BK108.out); replace HI0 := tgk (IsS74.drew HI0.out); replace HK := tgk (keep_drew HK.out); replace HB := tgk (below_drew1 HB.out); obtain ⟨Ao50, co50, eo50⟩ := Kd.R_slice HO_109003.out
             (first | subst eo50 | (injection eo50 with f1_ f2_ f3_; have f4_ := f1_.symm; have f5_ := f3_.symm; clear f1_ f2_ f3_; subst f4_; subst f5_))
             have p119 : 0 ≤ (x11_3 : Int) := of_decide_eq_true Z21.z16; have q119 : x11_3 < (x109003_3.length : Int) := of_decide_eq_true Z21.z16; obtain ⟨ad119, e119, hx119_0⟩ := Kd.at_int (Kd.R_reads' HO_109003.out).2.2 x11_3 p119 q119; cases e119; replace p119 := eq_true p119; replace q119 := eq_true q119; have p48 : 0 ≤ ((ji45) : Int) := of_decide_eq_true Z21.z16; have q48 : ((ji45) : Int) < ((x109003_3.length : Int) : Int) := of_decide_eq_true Z21.z16; obtain ⟨go48, co48, eo48, gb48, gl48, cl48, HG48⟩ := Kd.R_form HO_109003.out (by omega)
             (first | cases eo48 | (injection eo48 with ea_ en_ ec_; (first | subst ea_ | (injection ea_ with ea_; subst ea_)); subst ec_; clear en_))
             have GB48 := tgk gb48; have GG48 := tgk HG48; clear gb48 gl48 HG48
             (first | simp only [add_plain] at hx119_0 | skip)
             obtain ⟨hx48_0, hf48_0⟩ := Kd.R_celln 0 HO_109003.out ((ji45) : Int) p48 q48; replace p48 := eq_true p48; replace q48 := eq_true q48; have HN0_go48 := tgk (show g ≠ go48 from by have h_ := IsS74.own_ne HI0.out HO_109003.out (by decide); intro e_; exact h_ (by rw [e_]; rfl)); have HP51 := Kd.R_putn HO_109003.out ((ji45) : Int) (Int.tmod (wrap64 ((rd x109003_3 x11_3) * 2)) a1); rw [← Ny120.out] at HP51; have HQ51 := tgk HP51; clear HP51; refine start_ (n := 18) (S := fun w' => w'.cell? ⟨gb108, 0, none⟩ = some (.int .i64 t102) ∧ w'.cell? ⟨gb108, 1, none⟩ = some (.int .i64 t103) ∧ w'.cell? ⟨gb108, 2, none⟩ = some (.int .i64 t104) ∧ w'.cell? ⟨gb108, 3, none⟩ = some (.slice (some ⟨go48, 0, none⟩) x109003_3.length co50) ∧ w'.cell? ⟨go48, (x11_3).toNat, none⟩ = some (.int .i64 (rd x109003_3 x11_3))) (ds := [17]) #[false, false, false, false, false, false, false, false, false, false, false, false, false, false, false, false, false, false] (by kernel_rfl) rfl rfl ⟨(blk_cell BK108.out 0).trans rfl, (blk_cell BK108.out 1).trans rfl, (blk_cell BK108.out 2).trans rfl, (blk_cell BK108.out 3).trans rfl, hx119_0⟩ (fun hHeld => ?_); refine with_tabW spec_l03Fill.tab11 spec_l03Fill.bits11 (fun HT_ HW_ => ?_); generalize wr.drew = w49 at HO_109003 BK101 BK108 HI0 HK HB GG48 HQ51 hf48_0 hx119_0 hx48_0 hHeld ⊢
             refine tgpP 0 44 (tgb 18 1) ?_; refine tgpP 2 46 (tgb 18 5) ?_; refine tgpP 3 47 (tgb 18 13) ?_; refine tgpP 4 48 (tgb 18 29) ?_; refine tgpP 5 49 (tgb 18 61) ?_; refine tgpP 6 50 (tgb 18 125) ?_; refine tgpP 7 51 (tgb 18 253) ?_; refine tgpP 8 52 (tgb 18 509) ?_; refine tgpP 10 54 (tgb 18 1533) ?_; refine tgpP 14 58 (tgb 18 17917) ?_; refine tgT5 1 45 (tgb 18 17919) hHeld ?_; refine tgT5 9 53 (tgb 18 18431) hHeld ?_; refine tgpP 11 55 (tgb 18 20479) ?_; refine tgT5 12 56 (tgb 18 24575) hHeld ?_; refine tgpP 13 57 (tgb 18 32767) ?_; refine tgpP 15 59 (tgb 18 65535) ?_; refine tgpP 16 60 (tgb 18 131071) ?_; refine last_ (i := 17) (N := none) (tgb 18 262143) rfl rfl (one_of HT_.out (by kernel_rfl)) (by decide) (fun K hK => ?_); refine skip_ (w1 := ?_) (by rfl) rfl ?_ ?_
             rotate_left
             ·go_simp
              rfl
             refine hK.out _ _ ?_; clear hK K; refine done_ (done_of HT_.out (by kernel_rfl)) ?_
             try go_wp2
             go_roundg k3
             case measure => have := HK1.out; have := HJ31.out; have := HK3.out; omega
             case rel => exact ⟨(wrap64 (x11_3 + 1)), (y120), (.slice (some ⟨go48, 0, none⟩) x109003_3.length co50), Z21.z15, H', ⟨(by have := HK1.out; have := HJ31.out; have := HK3.out; omega)⟩, ⟨(tgR HQ51.out)⟩, ⟨Z21.z11⟩, ⟨Z21.z10⟩, ⟨(by repeat (first | (with_reducible first | exact HI0.out | apply IsS74.alloc | apply IsS74.drewN | apply IsS74.drew | apply IsS74.set_1 | apply IsS74.set_2 | refine IsS74.far ?_ HN0_go48.out _ | refine IsS74.far ?_ NB0_101.out _ | refine IsS74.far ?_ NB0_108.out _) | exact HI0.out))⟩, ⟨(by repeat (first | (with_reducible first | exact HK.out | apply KeepBut.set_ | apply keep_drewN | apply keep_drew | apply keep_alloc | refine keep_far ?_ GB48.out _ | refine keep_far ?_ GW101.out _ | refine keep_far ?_ GW108.out _) | exact HK.out))⟩, ⟨(by repeat (first | (with_reducible first | exact HB.out | apply below_alloc | apply pw_below_drewN | apply below_drew1 | refine below_set ?_ (Nat.le_trans HL.out GB48.out) | refine below_set ?_ (IsS74.ge HI0.out) | refine below_set ?_ GE101.out | refine below_set ?_ GE108.out) | exact HB.out))⟩⟩
            rw [if_neg c47] at H; exact absurd H (by simp)
           rw [if_neg c46] at H; exact absurd H (by simp)
          rw [if_neg c43] at H; exact absurd H (by simp)
         rw [if_neg c42] at H; exact absurd H (by simp)
        rw [if_neg c41] at H; have c41b0 := decide_eq_false c41; clear c41; simp only [Option.some.injEq, Prod.mk.injEq] at H
        obtain ⟨rfl, rfl, rfl, rfl, rfl, rfl⟩ := H; have hnb52 := NB108_101.out; have hnc52 := NB101_108.out; have hnb53 := NB108_0.out; have hnc53 := NB0_108.out; obtain ⟨hcz54_0, hcz54_1, hcz54_2, hcz54_3, hfz54_0, hfz54_1, hfz54_2, hfz54_3⟩ := cells4 BK108.out; have hnb55 := NB101_0.out; have hnc55 := NB0_101.out; obtain ⟨hcz56_0, hcz56_1, hcz56_2, hcz56_3, hfz56_0, hfz56_1, hfz56_2, hfz56_3⟩ := cells4 BK101.out; obtain ⟨Ao57, co57, eo57⟩ := Kd.R_slice HO_109003.out; subst eo57
        go_wp2
        refine bodyPost_ret (results_cell_row rfl _ _ gb101 28 #[.int .i64 t102, .int .i64 t103, .int .i64 t104, .slice Ao57 x109003_3.length co57] (0, 0) _ rfl Z21.z5 Tryz.underlying28 rfl (by kernel_rfl)) rfl ?_; exact ⟨_, (by first | rfl | (simp [errW_none, errW_some] <;> rfl) | (simp [*, errW_none, errW_some] <;> rfl)), (by (with_reducible repeat (first | apply Kd.R_alloc | apply Kd.R_drewN | apply Kd.R_drew)); exact Kd.R_mono (Kd.R_far (p := ⟨gb101, 3, none⟩) (Kd.R_far (p := ⟨gb101, 2, none⟩) (Kd.R_far (p := ⟨gb101, 1, none⟩) (Kd.R_far (p := ⟨gb101, 0, none⟩) (Kd.R_types HO_109003.out BK101.out (by decide)) (fun _ hk => hk.2) (.int .i64 t102)) (fun _ hk => hk.2) (.int .i64 t103)) (fun _ hk => hk.2) (.int .i64 t104)) (fun _ hk => hk.2) (.slice Ao57 x109003_3.length co57)) (fun _ hk => trivial)), Z21.z0, Z21.z1, Z21.z3⟩
     replace c40 := Bool.eq_false_iff.mpr c40
     subst c40
     rw [if_neg (show ¬ (false = true) by decide)] at H
     simp only [Option.some.injEq, Prod.mk.injEq] at H
     obtain ⟨rfl, rfl, rfl, rfl, rfl, rfl⟩ := H
     have hnb58 := NB108_101.out
     have hnc58 := NB101_108.out
     have hnb59 := NB108_0.out
     have hnc59 := NB0_108.out
     obtain ⟨hcz60_0, hcz60_1, hcz60_2, hcz60_3, hfz60_0, hfz60_1, hfz60_2, hfz60_3⟩ := cells4 BK108.out
     have hnb61 := NB101_0.out
     have hnc61 := NB0_101.out
     obtain ⟨hcz62_0, hcz62_1, hcz62_2, hcz62_3, hfz62_0, hfz62_1, hfz62_2, hfz62_3⟩ := cells4 BK101.out
     go_wp2
     refine bodyPost_ret (results_cell_row rfl _ _ gb101 28 #[.int .i64 t102, .int .i64 t103, .int .i64 t104, .slice Ao36 x109003_1.length co36] (0, 0) _ rfl Z21.z5 Tryz.underlying28 rfl (by kernel_rfl)) rfl ?_
     exact ⟨_, (by first | rfl | (simp [errW_none, errW_some] <;> rfl) | (simp [*, errW_none, errW_some] <;> rfl)), (by (with_reducible repeat (first | apply Kd.R_alloc | apply Kd.R_drewN | apply Kd.R_drew)); exact Kd.R_mono (Kd.R_far (p := ⟨gb101, 3, none⟩) (Kd.R_far (p := ⟨gb101, 2, none⟩) (Kd.R_far (p := ⟨gb101, 1, none⟩) (Kd.R_far (p := ⟨gb101, 0, none⟩) (Kd.R_types HO_109003.out BK101.out (by decide)) (fun _ hk => hk.2) (.int .i64 t102)) (fun _ hk => hk.2) (.int .i64 t103)) (fun _ hk => hk.2) (.int .i64 t104)) (fun _ hk => hk.2) (.slice Ao36 x109003_1.length co36)) (fun _ hk => trivial)), Z21.z0, Z21.z1, Z21.z3⟩
/-! ### spec_R8Matrix: function 7 -/
def spec_R8Matrix.f (k : Nat) (l0 : List Int) (a1 : Int) (a2 : Int) (a3 : Int) : Option (Int × Int × Int × List Int) := (spec_l00From.f l0).bind fun bt102 => ((spec_l03Fill.f k bt102.1 bt102.2.1 bt102.2.2 a1 a2 a3).bind fun bt106 => (some (bt106.1, bt106.2.1, bt106.2.2.1, bt106.2.2.2.1)))
theorem spec_R8Matrix.mono : ∀ a0 a1 a2 a3 k, LeO (spec_R8Matrix.f k a0 a1 a2 a3) (spec_R8Matrix.f (k + 1) a0 a1 a2 a3) := by
  intro a0 a1 a2 a3 k
  unfold spec_R8Matrix.f
  repeat' first
      | (with_reducible exact spec_l03Fill.mono _ _ _ _ _ _ _)
      | (with_reducible exact LeO.refl _)
      | (with_reducible exact LeO.none _)
      | (with_reducible refine LeO.ite ?_ ?_)
      | (with_reducible refine LeO.bind ?_ (fun _ => ?_))
      | exact spec_l03Fill.mono _ _ _ _ _ _ _
      | exact LeO.none _
      | refine LeO.ite ?_ ?_
      | refine LeO.bind ?_ (fun _ => ?_)
theorem Z7.z3 {P : Prop} (h : P := by (try simp only [List.map_toArray, List.map_cons, List.map_nil]); first | done | rfl | (simp only [List.length_drop, List.length_take]; rfl)) : P := h
theorem Z7.z2 {P : Prop} (h : P := by repeat (first | (with_reducible first | exact HB.out | apply below_alloc | apply pw_below_drewN | apply below_drew1) | exact HB.out)) : P := h
theorem Z7.z1 {P : Prop} (h : P := by exact tgB BK101.out) : P := h
theorem Z7.z0 {P : Prop} (h : P := by repeat (first | (with_reducible first | exact HB.out | apply below_alloc | apply pw_below_drewN | apply below_drew1 | refine below_set ?_ (IsS74.ge HI105.out) | refine below_set ?_ GE101.out) | exact HB.out)) : P := h
set_option maxHeartbeats 8000000 in
set_option maxRecDepth 100000 in
theorem spec_R8Matrix.calls (k : Nat) (A0 : Option Addr) (c0 : Nat) (l0 : List Int) (a1 : Int) (a2 : Int) (a3 : Int) (r1 : Int) (r2 : Int) (r3 : Int) (r4 : List Int) (w : World) (hr0 : Kd.C (Kd.int .u8) w A0 l0.length l0) (hc0 : l0.length ≤ c0) (h : spec_R8Matrix.f k l0 a1 a2 a3 = some (r1, r2, r3, r4)) :
  Calls Tryz.prog 7 #[.slice A0 l0.length c0, .int .i64 a1, .int .i64 a2, .int .i64 a3] w fun e w' => ∃ v3_ : Value, e = .returned (.agg #[.int .i64 r1, .int .i64 r2, .int .i64 r3, v3_]) ∧ Kd.R (Kd.int .i64) 2 w' w.heap.size (fun _ => True) v3_ r4 ∧ Below w.heap.size w w' := by
 have hu28 := Tryz.underlying28
 have HR0 := Aside0.mk hr0
 have HC0 := Aside0.mk hc0
 clear hr0 hc0
 have HB := Aside0.mk (Below.refl w.heap.size w)
 have H : ((spec_l00From.f l0).bind fun bt102 => ((spec_l03Fill.f k bt102.1 bt102.2.1 bt102.2.2 a1 a2 a3).bind fun bt106 => (some (bt106.1, bt106.2.1, bt106.2.2.1, bt106.2.2.2.1)))) = some (r1, r2, r3, r4) := h
 clear h
 replace H := Option.bind_eq_some_iff.mp H
 obtain ⟨⟨t102, t103, t104⟩, A50, H⟩ := H
 replace H : ((spec_l03Fill.f k t102 t103 t104 a1 a2 a3).bind fun bt106 => (some (bt106.1, bt106.2.1, bt106.2.2.1, bt106.2.2.2.1))) = some (r1, r2, r3, r4) := H
 have A5 := Aside0.mk A50
 clear A50
 replace H := Option.bind_eq_some_iff.mp H
 obtain ⟨⟨t106, t107, t108, t109, t112, t113⟩, A60, H⟩ := H
 (try dsimp only at H)
 have A6 := Aside0.mk A60
 clear A60
 simp only [Option.some.injEq, Prod.mk.injEq] at H
 obtain ⟨rfl, rfl, rfl, rfl⟩ := H
 go_enter Tryz.func7, Tryz.ntmps7
 go_wp2_with (first | ((with_reducible refine gate_dst (N := 8) rfl ?_); refine box_event ?hg (N := 8) ?hd (cs := #[.int .i64 0, .int .i64 0, .int .i64 0, .slice none 0 0]) (t := 28) ?hr ?_; (case hd => rfl); (case hg => rfl); (case hr => first | (go_simp; done) | (go_simp; rfl)); intro gb101 hg w7 hbox hb; have BK101 := Aside0.mk (hbox); have GW101 := Aside0.mk (show w.heap.size ≤ gb101 from (by rw [hg]; exact (below_size Z7.z2))); have GE101 := Aside0.mk (show w.heap.size ≤ gb101 from (by rw [hg]; exact (below_size Z7.z2))); replace HB := Aside0.mk (below_step Z7.z2 hb); clear hb hbox hg) | ((with_reducible refine gate_callee (f := 19) rfl ?_); refine goesL_ (some 11) rfl rfl Tryz.func19 (by kernel_rfl) rfl #[.slice A0 l0.length c0] rfl Z7.z3 ?_; (with_reducible refine (spec_l00From.calls _ _ l0 t102 t103 t104 w _ ?side1 ?side2 ?side3 A5.out).mono ?_); (case side1 => exact (by repeat (first | (with_reducible first | exact HB.out | apply below_alloc | apply pw_below_drewN | apply below_drew1 | refine below_set ?_ GE101.out) | exact HB.out))); (case side2 => exact HR0.out); (case side3 => exact HC0.out); rintro e w8 ⟨g105, rfl, hi, hb, hb2⟩; refine ⟨_, rfl, ?_⟩; have HI105 := Aside0.mk (hi); have NB105_101 := Aside0.mk (IsS74.ne_blk hi (tgbb BK101 Z7.z1 hb2) (by decide)); have NB101_105 := Aside0.mk (Ne.symm (IsS74.ne_blk hi (tgbb BK101 Z7.z1 hb2) (by decide))); replace BK101 := Aside0.mk (tgbb BK101 Z7.z1 hb2); replace HB := Aside0.mk (hb); (try clear hb); (try clear hb2); (try clear hi)) | ((with_reducible refine gate_callee (f := 21) rfl ?_); refine goesL_ (some 16) rfl rfl Tryz.func21 (by kernel_rfl) rfl #[.pointer (some ⟨g105, 0, none⟩), .int .i64 a1, .int .i64 a2, .int .i64 a3] rfl Z7.z3 ?_; (with_reducible refine (spec_l03Fill.calls k g105 t102 t103 t104 a1 a2 a3 t106 t107 t108 t109 t112 t113 w _ ?side1 ?side2 A6.out).mono ?_); (case side1 => exact (by repeat (first | (with_reducible first | exact HI105.out | apply IsS74.alloc | apply IsS74.drewN | apply IsS74.drew | apply IsS74.set_1 | apply IsS74.set_2 | refine IsS74.far ?_ NB105_101.out _) | exact HI105.out))); (case side2 => exact Z7.z0); rintro e w9 ⟨v110, rfl, ho0, hi, hb, hk⟩; refine ⟨_, rfl, ?_⟩; have HO111 := Aside0.mk (Kd.R_lower ho0 (below_size Z7.z0)); replace BK101 := Aside0.mk (KeepBut.blk hk (g' := gb101) (o := .cells #[.int .i64 0, .int .i64 0, .int .i64 0, .slice none 0 0] 28 (0, 0)) Z7.z1 NB101_105.out (by simp)); replace HB := Aside0.mk (hb); replace HI105 := Aside0.mk (hi); (try clear hb); (try clear hk); (try clear hi); (try clear ho0); have hnb10 := NB101_105.out; have hnc10 := NB105_101.out; obtain ⟨hcz11_0, hcz11_1, hcz11_2, hcz11_3, hfz11_0, hfz11_1, hfz11_2, hfz11_3⟩ := cells4 BK101.out; obtain ⟨Ao12, co12, eo12⟩ := Kd.R_slice HO111.out; subst eo12))
 refine bodyPost_ret (results_cell_row rfl _ _ gb101 28 #[.int .i64 t106, .int .i64 t107, .int .i64 t108, .slice Ao12 t109.length co12] (0, 0) _ rfl (by (with_reducible repeat (first | refine blk_drewN ?_ _ | refine blk_drew ?_ | refine blk_alloc ?_ _)); exact tgp BK101.out) Tryz.underlying28 rfl (by kernel_rfl)) rfl ?_
 exact ⟨_, (by first | rfl | (simp [errW_none, errW_some] <;> rfl) | (simp [*, errW_none, errW_some] <;> rfl)), (by (with_reducible repeat (first | apply Kd.R_alloc | apply Kd.R_drewN | apply Kd.R_drew)); exact Kd.R_mono (Kd.R_far (p := ⟨gb101, 3, none⟩) (Kd.R_far (p := ⟨gb101, 2, none⟩) (Kd.R_far (p := ⟨gb101, 1, none⟩) (Kd.R_far (p := ⟨gb101, 0, none⟩) (Kd.R_types HO111.out BK101.out (by decide)) (fun _ hk => hk.2) (.int .i64 t106)) (fun _ hk => hk.2) (.int .i64 t107)) (fun _ hk => hk.2) (.int .i64 t108)) (fun _ hk => hk.2) (.slice Ao12 t109.length co12)) (fun _ hk => trivial)), Z7.z0⟩
/-! ### impl_size_int64: function 34 -/
def impl_size_int64.f (l0 : List Int) : Option (Int) := some (l0.length : Int)
set_option maxHeartbeats 8000000 in
set_option maxRecDepth 100000 in
theorem impl_size_int64.calls (A0 : Option Addr) (c0 : Nat) (l0 : List Int) (r : Int) (w : World) (hr0 : Kd.C (Kd.int .i64) w A0 l0.length l0) (hc0 : l0.length ≤ c0) (h : impl_size_int64.f l0 = some r) :
  Calls Tryz.prog 34 #[.slice A0 l0.length c0] w fun e w' => e = .returned (.int .i64 r) ∧ Drawn0 w w' := by
 have HR0 := Aside0.mk hr0
 have HC0 := Aside0.mk hc0
 clear hr0 hc0
 have H : (some (l0.length : Int)) = some r := h
 clear h
 obtain rfl := Option.some.inj H
 go_enter Tryz.func34, Tryz.ntmps34
 go_wp2
 go_ret
 exact ⟨(by first | rfl | (simp; done) | (simp [*]; done)), (by repeat (first | exact Drawn0.refl _ | apply Drawn0.step))⟩
/-! ### slices_IndexFunc_int64_int64_85: function 85: ours -/
def idxOf {α : Type} (p : α → Bool) (l : List α) : Int := match l.findIdx? p with | some i => (i : Int) | none => -1
theorem idxOf_hit {α : Type} {p : α → Bool} {l : List α} {i : Nat} (hi : i < l.length) (h : p l[i] = true) (hb : ∀ j (hj : j < l.length), j < i → p l[j] = false) : idxOf p l = i := by
  have : l.findIdx? p = some i := List.findIdx?_eq_some_iff_getElem.mpr ⟨hi, h, fun j hj => by rw [hb j (by omega) hj]; simp⟩
  unfold idxOf; rw [this]
theorem idxOf_miss {α : Type} {p : α → Bool} {l : List α} (h : ∀ j (hj : j < l.length), p l[j] = false) : idxOf p l = -1 := by
  have : l.findIdx? p = none := List.findIdx?_eq_none_iff.mpr (fun x hx => by
    obtain ⟨j, hj, rfl⟩ := List.mem_iff_getElem.mp hx
    exact h j hj)
  unfold idxOf; rw [this]
theorem idxOf_nonneg {α : Type} (p : α → Bool) (l : List α) : decide (idxOf p l ≥ 0) = l.any p := by
  unfold idxOf
  cases h : l.findIdx? p with
  | none =>
    have h1 := List.findIdx?_eq_none_iff.mp h
    have h2 : l.any p = false := List.any_eq_false.mpr (fun x hx => by rw [h1 x hx]; simp)
    rw [h2]; simp
  | some i =>
    obtain ⟨hi, hp, _⟩ := List.findIdx?_eq_some_iff_getElem.mp h
    have h2 : l.any p = true := List.any_eq_true.mpr ⟨_, List.getElem_mem hi, hp⟩
    rw [h2]; simp
theorem rd_at (l : List Int) (i : Nat) (hi : i < l.length) : rd l (i : Int) = l[i] := by
  unfold rd; simp [List.getD_eq_getElem?_getD, List.getElem?_eq_getElem hi]
def AnsI (g : Nat) (lb : Array Value) (p : Int → Bool) (w : World) : Prop := ∀ (W : World) (x : Int), Below w.heap.size w W → Calls Tryz.prog g (#[.int .i64 x] ++ lb) W fun e w' => e = .returned (.bool (p x)) ∧ ∃ q, w' = W.drewN q
set_option maxHeartbeats 4000000 in
set_option maxRecDepth 100000 in
theorem slices_IndexFunc_int64_int64_85.tells (g : Nat) (lb : Array Value) (eg : ∀ args w, (callFunc g args).run Tryz.prog w = .ok (.enter g args) w) (p : Int → Bool) (A : Option Addr) (c : Nat) (l : List Int) (w : World)
    (hp : AnsI g lb p w) (hr : Kd.C (Kd.int .i64) w A l.length l) (hn : l.length ≤ 9223372036854775807) :
    Calls Tryz.prog 85 #[.slice A l.length c, .func (.func g) #[] lb] w fun e w' => e = .returned (.int .i64 (idxOf p l)) ∧ ∃ q, w' = w.drewN q := by
  have hpAt : ∀ (x : Int) (q : Nat), Calls Tryz.prog g (#[.int .i64 x] ++ lb) (w.drewN q) fun e w' => e = .returned (.bool (p x)) ∧ ∃ q', w' = (w.drewN q).drewN q' := fun x q => hp _ x (pw_below_drewN (Below.refl _ w) q)
  clear hp
  have HR := Aside0.mk hr
  clear hr
  go_enter Tryz.func85, Tryz.ntmps85
  go_wp2
  go_loopg [5, 8] l.length (fun gg _ s8 wr => ∃ kk q : Nat, kk ≤ l.length ∧ l.length - kk ≤ gg ∧ s8 = .int .i64 kk ∧ wr = w.drewN q ∧ Aside0 (∀ j (hj : j < l.length), j < kk → p l[j] = false))
  case atStart => exact ⟨0, 0, Nat.zero_le _, by omega, rfl, rfl, ⟨fun j _ hj => absurd hj (Nat.not_lt_zero _)⟩⟩
  case round =>
    obtain ⟨kk, q, hkk, hg, rfl, rfl, AB⟩ := hrel
    by_cases hlt : kk < l.length
    · have hltz : (kk : Int) < (l.length : Int) := by omega
      obtain ⟨ad, ea, hcell⟩ := Kd.at_int HR.out (kk : Int) (by omega) hltz
      cases ea
      simp only [Int.toNat_natCast] at hcell
      have hy := Aside0.mk (rd_at l kk hlt)
      generalize rd l (kk : Int) = y at hcell hy
      have hcall := hpAt y
      cases hq : p y with
      | true =>
        rw [hq] at hcall
        have BB := Aside0.mk hq
        clear hq
        go_wp2_with (go_at_fn g; refine (hcall _).mono ?_; rintro e w' ⟨rfl, q', rfl⟩)
        go_ret
        refine ⟨?_, _, rfl⟩
        rw [idxOf_hit hlt (by rw [← hy.out]; exact BB.out) AB.out]
        rfl
      | false =>
        rw [hq] at hcall
        have BB := Aside0.mk hq
        clear hq
        go_wp2_with (go_at_fn g; refine (hcall _).mono ?_; rintro e w' ⟨rfl, q', rfl⟩)
        go_roundg (l.length - (kk + 1))
        case measure => omega
        case rel =>
          refine ⟨kk + 1, _, by omega, by omega, (by first | (congr 1; done) | (congr 1; omega) | (congr 1; unfold wrap64; omega)), rfl, ⟨fun j hj hj2 => ?_⟩⟩
          by_cases e : j = kk
          · subst e
            rw [← hy.out]; exact BB.out
          · exact AB.out j hj (by omega)
    · have hltz : ¬ (kk : Int) < (l.length : Int) := by omega
      have hk : kk = l.length := by omega
      subst hk
      go_wp2
      go_ret
      refine ⟨?_, q, rfl⟩
      rw [idxOf_miss (fun j hj => AB.out j hj hj)]
      rfl
/-! ### slices_ContainsFunc_int64_int64: function 66: ours -/
set_option maxHeartbeats 4000000 in
set_option maxRecDepth 100000 in
theorem slices_ContainsFunc_int64_int64.tells (g : Nat) (lb : Array Value) (eg : ∀ args w, (callFunc g args).run Tryz.prog w = .ok (.enter g args) w) (p : Int → Bool) (A : Option Addr) (c : Nat) (l : List Int) (w : World)
    (hp : AnsI g lb p w) (hr : Kd.C (Kd.int .i64) w A l.length l) (hn : l.length ≤ 9223372036854775807) :
    Calls Tryz.prog 66 #[.slice A l.length c, .func (.func g) #[] lb] w fun e w' => e = .returned (.bool (l.any p)) ∧ ∃ q, w' = w.drewN q := by
  have hany := idxOf_nonneg p l
  have hC := slices_IndexFunc_int64_int64_85.tells g lb eg p A c l w hp hr hn
  generalize idxOf p l = z at hany hC
  generalize l.any p = b at hany
  clear hp
  go_enter Tryz.func66, Tryz.ntmps66
  go_wp2_with (go_at_call 85; refine hC.mono ?_; rintro e w' ⟨rfl, q, rfl⟩)
  go_ret
  exact ⟨by subst hany; simp, q, rfl⟩
/-! ### impl_areElements: function 35: ours -/
def impl_areElements.f (l0 : List Int) (a1 : Int) : Option Bool := some (!(l0.any fun x => !(decide (0 ≤ x) && decide (x ≤ wrap64 (a1 - 1)))))
set_option maxHeartbeats 4000000 in
set_option maxRecDepth 100000 in
theorem impl_areElements.ask (w : World) (B : Nat) (p : Int) (hB : B < w.heap.size) (hc : w.cell? ⟨B, 0, none⟩ = some (.int .i64 p)) :
    AnsI 67 #[.pointer (some ⟨B, 0, none⟩)] (fun x => !(decide (0 ≤ x) && decide (x ≤ wrap64 (p - 1)))) w := fun W x hb => by
  have hc' : W.cell? ⟨B, 0, none⟩ = some (.int .i64 p) := (hb.cell (p := ⟨B, 0, none⟩) hB).trans hc
  clear hc
  by_cases h1 : 0 ≤ x
  · have g1 := Aside0.mk h1
    have b1 : decide (0 ≤ x) = true := decide_eq_true h1
    clear h1
    by_cases h2 : x ≤ wrap64 (p - 1)
    · have g2 := Aside0.mk h2
      have b2 : decide (x ≤ wrap64 (p - 1)) = true := decide_eq_true h2
      clear h2
      go_enter Tryz.func67, Tryz.ntmps67
      go_wp2
      go_ret
      exact ⟨by first | rfl | (simp [g1.out, g2.out]; done) | (simp [*]; done), 0, rfl⟩
    · have g2 := Aside0.mk h2
      have b2 : decide (x ≤ wrap64 (p - 1)) = false := decide_eq_false h2
      clear h2
      go_enter Tryz.func67, Tryz.ntmps67
      go_wp2
      go_ret
      exact ⟨by first | rfl | (simp [g1.out, g2.out]; done) | (simp [*]; done), 0, rfl⟩
  · have g1 := Aside0.mk h1
    have g2 : Aside0 True := ⟨trivial⟩
    have b1 : decide (0 ≤ x) = false := decide_eq_false h1
    clear h1
    go_enter Tryz.func67, Tryz.ntmps67
    go_wp2
    go_ret
    exact ⟨by first | rfl | (simp [g1.out, g2.out]; done) | (simp [*]; done), 0, rfl⟩
set_option maxHeartbeats 4000000 in
set_option maxRecDepth 100000 in
theorem impl_areElements.calls (A0 : Option Addr) (c0 : Nat) (l0 : List Int) (a1 : Int) (r : Bool) (w : World) (hr0 : Kd.C (Kd.int .i64) w A0 l0.length l0) (hc0 : l0.length ≤ c0) (h : impl_areElements.f l0 a1 = some r) :
  Calls Tryz.prog 35 #[.slice A0 l0.length c0, .int .i64 a1] w fun e w' => e = .returned (.bool r) ∧ Below w.heap.size w w' := by
 have hn : l0.length ≤ 9223372036854775807 := hr0.2.1
 have hC := fun (W : World) (hbw : Below w.heap.size w W) (hB : w.heap.size < W.heap.size) (hc : W.cell? ⟨w.heap.size, 0, none⟩ = some (.int .i64 a1)) =>
  slices_ContainsFunc_int64_int64.tells 67 #[.pointer (some ⟨w.heap.size, 0, none⟩)] (enters_of Tryz.func67 (by kernel_rfl) rfl) _ A0 c0 l0 W (impl_areElements.ask W w.heap.size a1 hB hc) (Kd.C_below hr0 hbw) hn
 have hf := Option.some.inj h
 clear h hr0
 generalize (l0.any fun x => !(decide (0 ≤ x) && decide (x ≤ wrap64 (a1 - 1)))) = b at hf hC
 have hmf : ∀ (fn : Fn) (first cap : Array Value) (w : World), (Instr.makeFunc fn first cap).run Tryz.prog w = .ok (.func fn first cap) w := fun _ _ _ _ => rfl
 go_enter Tryz.func35, Tryz.ntmps35
 go_wp2_with (go_at_call 66; refine (hC _ ((Below.refl _ w).alloc (Nat.le_refl _) _) (by simp) (by simp)).mono ?_; rintro e w' ⟨rfl, q, rfl⟩)
 go_ret
 exact ⟨(by rw [← hf]; rfl), pw_below_drewN ((Below.refl _ w).alloc (Nat.le_refl _) _) q⟩
end Go.Proofs.YtbalikebmacldaaGreatDoor.F
end
