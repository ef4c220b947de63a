-- Texts of this claim, merged by packw.py (a program of this session's).
import Derived.Test.YtkndhjchlnepmaaGreatDoorQFnExactReadMatrix2
import Derived.Test.YtkndhjchlnepmaaGreatDoorQFnExactReadMatrix6
import Derived.Test.YtkndhjchlnepmaaGreatDoorQFnExactReadMatrix5
import Derived.Test.YtkndhjchlnepmaaGreatDoorQFnExactReadMatrix7

section
namespace Go.Proofs.YtkndhjchlnepmaaGreatDoor.F
open Go.RowKit Go.Proofs.YtkndhjchlnepmaaGreatDoorW.PrintWords Go.Proofs.YtkndhjchlnepmaaGreatDoorW.PrintLast Go.Proofs.YtkndhjchlnepmaaGreatDoorW.PrintMore
attribute [local go_sem] max2_int min2_int max_two min_two max_three min_three max_four min_four   -- for this text's walks alone
set_option linter.unusedVariables false
set_option linter.unusedSimpArgs false
/-! ### impl_MatrixText: function 16 -/
def impl_MatrixText.f (k : Nat) (a0_0 : Int) (a0_1 : Int) (a0_2 : Int) (l0_3 : List Int) : Option (ByteArray) := (impl_ValidMatrix.f k a0_0 a0_1 a0_2 l0_3).bind fun t102 => (if t102 = true then ((impl_Decimal.f a0_0).bind fun t103 => (if t103.size + 1 ≤ 9223372036854775807 then ((impl_Decimal.f a0_1).bind fun t104 => (if (t103 ++ (⟨#[32]⟩ : ByteArray)).size + t104.size ≤ 9223372036854775807 then (if ((t103 ++ (⟨#[32]⟩ : ByteArray)) ++ t104).size + 1 ≤ 9223372036854775807 then ((impl_Decimal.f a0_2).bind fun t105 => (if (((t103 ++ (⟨#[32]⟩ : ByteArray)) ++ t104) ++ (⟨#[120]⟩ : ByteArray)).size + t105.size ≤ 9223372036854775807 then ((impl_rowsOf.f k a0_0 a0_1 a0_2 l0_3).bind fun t106 => ((impl_slashed.f k t106).bind fun t109 => (if ((((t103 ++ (⟨#[32]⟩ : ByteArray)) ++ t104) ++ (⟨#[120]⟩ : ByteArray)) ++ t105).size + t109.size ≤ 9223372036854775807 then (some (((((t103 ++ (⟨#[32]⟩ : ByteArray)) ++ t104) ++ (⟨#[120]⟩ : ByteArray)) ++ t105) ++ t109)) else (none)))) else (none))) else (none)) else (none))) else (none))) else (some (⟨#[]⟩ : ByteArray)))
def impl_MatrixText.T3 : Bool × List (List Nat × List Nat) := (true, [([], []), ([0], [0]), ([1], [1]), ([2], [2]), ([], []), ([4], [4]), ([5, 2], [5]), ([3, 6], [3, 6]), ([7], [7]), ([], []), ([9], [9]), ([10, 6], [10]), ([8, 11], [8, 11]), ([], []), ([13, 11], [13]), ([14, 14], [14]), ([12, 15], [12, 15]), ([16, 15, 0, 1, 2, 3, 4, 5, 6, 7, 8, 9, 10, 11, 12, 13, 14, 15, 16], [16])])
def impl_MatrixText.B3 : List Nat := [0, 1, 3, 7, 0, 16, 55, 127, 255, 0, 512, 1655, 4095, 0, 11895, 28279, 65535, 131071]
theorem impl_MatrixText.tab3 : rtab .any (opsOf Tryz.f16 3) = impl_MatrixText.T3 := by kernel_rfl
theorem impl_MatrixText.bits3 : waitsOk impl_MatrixText.T3.2 impl_MatrixText.B3 = true := by kernel_rfl
theorem Z16.bb {w0 w w1 : World} {g : Nat} {o : Obj} (_B : Aside0 (w0.heap[g]? = some o)) (h : w.heap[g]? = some o) (hb : Below w.heap.size w w1) : w1.heap[g]? = some o := blk_below h hb
theorem Z16.bl {w0 w : World} {g : Nat} {o : Obj} (_B : Aside0 (w0.heap[g]? = some o)) (h : w.heap[g]? = some o) : g < w.heap.size := blk_lt h
theorem Z16.k {p : Prop} (h : p) : Aside0 p := ⟨h⟩
theorem Z16.z6 {P : Prop} (h : P := by repeat (first | exact (Kd.C_below HR0_3.out HB.out) | (with_reducible refine Kd.C_alloc ?_ _) | (with_reducible refine Kd.C_drewN ?_ _) | (with_reducible refine Kd.C_drew ?_))) : P := h
theorem Z16.z5 {P : Prop} (h : P := by repeat (first | (with_reducible first | exact HB.out | apply below_alloc | apply pw_below_drewN | apply below_drew1) | exact HB.out)) : P := h
theorem Z16.z4 {P : Prop} (h : P := by (with_reducible repeat (first | refine blk_drewN ?_ _ | refine blk_drew ?_ | refine blk_alloc ?_ _)); exact BK101.out) : P := h
theorem Z16.z3 {P : Prop} (h : P := by exact ⟨(blk_cell BK101.out 0).trans rfl, (blk_cell BK101.out 1).trans rfl, (blk_cell BK101.out 2).trans rfl, (blk_cell BK101.out 3).trans rfl⟩) : P := h
theorem Z16.z2 {P : Prop} (h : P := by (try simp only [List.map_toArray, List.map_cons, List.map_nil]); first | done | rfl | (simp only [List.length_drop, List.length_take]; rfl)) : P := h
theorem Z16.z1 {P : Prop} (h : P := by simp only [Act.put, List.setIfInBounds_toArray, List.set_cons_zero, List.set_cons_succ, i64_w, i32_w]; rfl) : P := h
theorem Z16.z0 {P : Prop} (h : P := by repeat (first | (with_reducible first | exact HB.out | apply below_alloc | apply pw_below_drewN | apply below_drew1 | refine below_set ?_ GE101.out) | exact HB.out)) : P := h
set_option maxHeartbeats 8000000 in
set_option maxRecDepth 100000 in
theorem impl_MatrixText.calls (k : Nat) (a0_0 : Int) (a0_1 : Int) (a0_2 : Int) (A0_3 : Option Addr) (c0_3 : Nat) (l0_3 : List Int) (r : ByteArray) (w : World) (hr0_3 : Kd.C (Kd.int .i64) w A0_3 l0_3.length l0_3) (hc0_3 : l0_3.length ≤ c0_3) (hlP_ : LaidP w) (h : impl_MatrixText.f k a0_0 a0_1 a0_2 l0_3 = some r) :
  Calls Tryz.prog 16 #[.agg #[.int .i64 a0_0, .int .i64 a0_1, .int .i64 a0_2, .slice A0_3 l0_3.length c0_3]] w fun e w' => e = .returned (.string r) ∧ Below w.heap.size w w' := by
 have hu24 := Tryz.underlying24
 have HR0_3 := Z16.k hr0_3
 have HC0_3 := Z16.k hc0_3
 clear hr0_3 hc0_3
 have HB := Z16.k (Below.refl w.heap.size w)
 have H : ((impl_ValidMatrix.f k a0_0 a0_1 a0_2 l0_3).bind fun t102 => (if t102 = true then ((impl_Decimal.f a0_0).bind fun t103 => (if t103.size + 1 ≤ 9223372036854775807 then ((impl_Decimal.f a0_1).bind fun t104 => (if (t103 ++ (⟨#[32]⟩ : ByteArray)).size + t104.size ≤ 9223372036854775807 then (if ((t103 ++ (⟨#[32]⟩ : ByteArray)) ++ t104).size + 1 ≤ 9223372036854775807 then ((impl_Decimal.f a0_2).bind fun t105 => (if (((t103 ++ (⟨#[32]⟩ : ByteArray)) ++ t104) ++ (⟨#[120]⟩ : ByteArray)).size + t105.size ≤ 9223372036854775807 then ((impl_rowsOf.f k a0_0 a0_1 a0_2 l0_3).bind fun t106 => ((impl_slashed.f k t106).bind fun t109 => (if ((((t103 ++ (⟨#[32]⟩ : ByteArray)) ++ t104) ++ (⟨#[120]⟩ : ByteArray)) ++ t105).size + t109.size ≤ 9223372036854775807 then (some (((((t103 ++ (⟨#[32]⟩ : ByteArray)) ++ t104) ++ (⟨#[120]⟩ : ByteArray)) ++ t105) ++ t109)) else (none)))) else (none))) else (none)) else (none))) else (none))) else (some (⟨#[]⟩ : ByteArray)))) = some r := h
 clear h
 replace H := Option.bind_eq_some_iff.mp H
 obtain ⟨t102, A20, H⟩ := H
 replace H : (if t102 = true then ((impl_Decimal.f a0_0).bind fun t103 => (if t103.size + 1 ≤ 9223372036854775807 then ((impl_Decimal.f a0_1).bind fun t104 => (if (t103 ++ (⟨#[32]⟩ : ByteArray)).size + t104.size ≤ 9223372036854775807 then (if ((t103 ++ (⟨#[32]⟩ : ByteArray)) ++ t104).size + 1 ≤ 9223372036854775807 then ((impl_Decimal.f a0_2).bind fun t105 => (if (((t103 ++ (⟨#[32]⟩ : ByteArray)) ++ t104) ++ (⟨#[120]⟩ : ByteArray)).size + t105.size ≤ 9223372036854775807 then ((impl_rowsOf.f k a0_0 a0_1 a0_2 l0_3).bind fun t106 => ((impl_slashed.f k t106).bind fun t109 => (if ((((t103 ++ (⟨#[32]⟩ : ByteArray)) ++ t104) ++ (⟨#[120]⟩ : ByteArray)) ++ t105).size + t109.size ≤ 9223372036854775807 then (some (((((t103 ++ (⟨#[32]⟩ : ByteArray)) ++ t104) ++ (⟨#[120]⟩ : ByteArray)) ++ t105) ++ t109)) else (none)))) else (none))) else (none)) else (none))) else (none))) else (some (⟨#[]⟩ : ByteArray))) = some r := H
 have A2 := Z16.k A20
 clear A20
 by_cases c3 : t102 = true
 ·subst c3
  have H1 : ((impl_Decimal.f a0_0).bind fun t103 => (if t103.size + 1 ≤ 9223372036854775807 then ((impl_Decimal.f a0_1).bind fun t104 => (if (t103 ++ (⟨#[32]⟩ : ByteArray)).size + t104.size ≤ 9223372036854775807 then (if ((t103 ++ (⟨#[32]⟩ : ByteArray)) ++ t104).size + 1 ≤ 9223372036854775807 then ((impl_Decimal.f a0_2).bind fun t105 => (if (((t103 ++ (⟨#[32]⟩ : ByteArray)) ++ t104) ++ (⟨#[120]⟩ : ByteArray)).size + t105.size ≤ 9223372036854775807 then ((impl_rowsOf.f k a0_0 a0_1 a0_2 l0_3).bind fun t106 => ((impl_slashed.f k t106).bind fun t109 => (if ((((t103 ++ (⟨#[32]⟩ : ByteArray)) ++ t104) ++ (⟨#[120]⟩ : ByteArray)) ++ t105).size + t109.size ≤ 9223372036854775807 then (some (((((t103 ++ (⟨#[32]⟩ : ByteArray)) ++ t104) ++ (⟨#[120]⟩ : ByteArray)) ++ t105) ++ t109)) else (none)))) else (none))) else (none)) else (none))) else (none))) = some r := by rw [if_pos rfl] at H; exact H
  clear H
  have H := H1
  clear H1
  replace H := Option.bind_eq_some_iff.mp H
  obtain ⟨t103, A40, H⟩ := H
  replace H : (if t103.size + 1 ≤ 9223372036854775807 then ((impl_Decimal.f a0_1).bind fun t104 => (if (t103 ++ (⟨#[32]⟩ : ByteArray)).size + t104.size ≤ 9223372036854775807 then (if ((t103 ++ (⟨#[32]⟩ : ByteArray)) ++ t104).size + 1 ≤ 9223372036854775807 then ((impl_Decimal.f a0_2).bind fun t105 => (if (((t103 ++ (⟨#[32]⟩ : ByteArray)) ++ t104) ++ (⟨#[120]⟩ : ByteArray)).size + t105.size ≤ 9223372036854775807 then ((impl_rowsOf.f k a0_0 a0_1 a0_2 l0_3).bind fun t106 => ((impl_slashed.f k t106).bind fun t109 => (if ((((t103 ++ (⟨#[32]⟩ : ByteArray)) ++ t104) ++ (⟨#[120]⟩ : ByteArray)) ++ t105).size + t109.size ≤ 9223372036854775807 then (some (((((t103 ++ (⟨#[32]⟩ : ByteArray)) ++ t104) ++ (⟨#[120]⟩ : ByteArray)) ++ t105) ++ t109)) else (none)))) else (none))) else (none)) else (none))) else (none)) = some r := H
  have A4 := Z16.k A40
  clear A40
  by_cases c5 : t103.size + 1 ≤ 9223372036854775807
  ·rw [if_pos c5] at H
   have c5b0 := eq_true c5
   have c5b1 : decide (t103.size + 1 ≤ 9223372036854775807) = true := decide_eq_true c5
   try have c5b2 : (9223372036854775807 < t103.size + 1) = False := eq_false (Nat.not_lt.2 c5)
   replace H := Option.bind_eq_some_iff.mp H
   obtain ⟨t104, A60, H⟩ := H
   replace H : (if (t103 ++ (⟨#[32]⟩ : ByteArray)).size + t104.size ≤ 9223372036854775807 then (if ((t103 ++ (⟨#[32]⟩ : ByteArray)) ++ t104).size + 1 ≤ 9223372036854775807 then ((impl_Decimal.f a0_2).bind fun t105 => (if (((t103 ++ (⟨#[32]⟩ : ByteArray)) ++ t104) ++ (⟨#[120]⟩ : ByteArray)).size + t105.size ≤ 9223372036854775807 then ((impl_rowsOf.f k a0_0 a0_1 a0_2 l0_3).bind fun t106 => ((impl_slashed.f k t106).bind fun t109 => (if ((((t103 ++ (⟨#[32]⟩ : ByteArray)) ++ t104) ++ (⟨#[120]⟩ : ByteArray)) ++ t105).size + t109.size ≤ 9223372036854775807 then (some (((((t103 ++ (⟨#[32]⟩ : ByteArray)) ++ t104) ++ (⟨#[120]⟩ : ByteArray)) ++ t105) ++ t109)) else (none)))) else (none))) else (none)) else (none)) = some r := H
   have A6 := Z16.k A60
   clear A60
   by_cases c7 : (t103 ++ (⟨#[32]⟩ : ByteArray)).size + t104.size ≤ 9223372036854775807
   ·rw [if_pos c7] at H
    have c7b0 := eq_true c7
    have c7b1 : decide ((t103 ++ (⟨#[32]⟩ : ByteArray)).size + t104.size ≤ 9223372036854775807) = true := decide_eq_true c7
    try have c7b2 : (9223372036854775807 < (t103 ++ (⟨#[32]⟩ : ByteArray)).size + t104.size) = False := eq_false (Nat.not_lt.2 c7)
    clear c7b0
    have c7s : t103.size + 1 + t104.size ≤ 9223372036854775807 := by have e_ := c7; simp only [ByteArray.size_append] at e_; exact e_
    have c7t := eq_true c7s
    try have c7u := eq_false (Nat.not_lt.2 c7s)
    clear c7s
    by_cases c8 : ((t103 ++ (⟨#[32]⟩ : ByteArray)) ++ t104).size + 1 ≤ 9223372036854775807
    ·rw [if_pos c8] at H
     have c8b0 := eq_true c8
     have c8b1 : decide (((t103 ++ (⟨#[32]⟩ : ByteArray)) ++ t104).size + 1 ≤ 9223372036854775807) = true := decide_eq_true c8
     try have c8b2 : (9223372036854775807 < ((t103 ++ (⟨#[32]⟩ : ByteArray)) ++ t104).size + 1) = False := eq_false (Nat.not_lt.2 c8)
     clear c8b0
     have c8s : t103.size + 1 + t104.size + 1 ≤ 9223372036854775807 := by have e_ := c8; simp only [ByteArray.size_append] at e_; exact e_
     have c8t := eq_true c8s
     try have c8u := eq_false (Nat.not_lt.2 c8s)
     clear c8s
     replace H := Option.bind_eq_some_iff.mp H
     obtain ⟨t105, A90, H⟩ := H
     replace H : (if (((t103 ++ (⟨#[32]⟩ : ByteArray)) ++ t104) ++ (⟨#[120]⟩ : ByteArray)).size + t105.size ≤ 9223372036854775807 then ((impl_rowsOf.f k a0_0 a0_1 a0_2 l0_3).bind fun t106 => ((impl_slashed.f k t106).bind fun t109 => (if ((((t103 ++ (⟨#[32]⟩ : ByteArray)) ++ t104) ++ (⟨#[120]⟩ : ByteArray)) ++ t105).size + t109.size ≤ 9223372036854775807 then (some (((((t103 ++ (⟨#[32]⟩ : ByteArray)) ++ t104) ++ (⟨#[120]⟩ : ByteArray)) ++ t105) ++ t109)) else (none)))) else (none)) = some r := H
     have A9 := Z16.k A90
     clear A90
     by_cases c10 : (((t103 ++ (⟨#[32]⟩ : ByteArray)) ++ t104) ++ (⟨#[120]⟩ : ByteArray)).size + t105.size ≤ 9223372036854775807
     ·rw [if_pos c10] at H
      have c10b0 := eq_true c10
      have c10b1 : decide ((((t103 ++ (⟨#[32]⟩ : ByteArray)) ++ t104) ++ (⟨#[120]⟩ : ByteArray)).size + t105.size ≤ 9223372036854775807) = true := decide_eq_true c10
      try have c10b2 : (9223372036854775807 < (((t103 ++ (⟨#[32]⟩ : ByteArray)) ++ t104) ++ (⟨#[120]⟩ : ByteArray)).size + t105.size) = False := eq_false (Nat.not_lt.2 c10)
      clear c10b0
      have c10s : t103.size + 1 + t104.size + 1 + t105.size ≤ 9223372036854775807 := by have e_ := c10; simp only [ByteArray.size_append] at e_; exact e_
      have c10t := eq_true c10s
      try have c10u := eq_false (Nat.not_lt.2 c10s)
      clear c10s
      replace H := Option.bind_eq_some_iff.mp H
      obtain ⟨t106, A110, H⟩ := H
      replace H : ((impl_slashed.f k t106).bind fun t109 => (if ((((t103 ++ (⟨#[32]⟩ : ByteArray)) ++ t104) ++ (⟨#[120]⟩ : ByteArray)) ++ t105).size + t109.size ≤ 9223372036854775807 then (some (((((t103 ++ (⟨#[32]⟩ : ByteArray)) ++ t104) ++ (⟨#[120]⟩ : ByteArray)) ++ t105) ++ t109)) else (none))) = some r := H
      have A11 := Z16.k A110
      clear A110
      replace H := Option.bind_eq_some_iff.mp H
      obtain ⟨t109, A120, H⟩ := H
      replace H : (if ((((t103 ++ (⟨#[32]⟩ : ByteArray)) ++ t104) ++ (⟨#[120]⟩ : ByteArray)) ++ t105).size + t109.size ≤ 9223372036854775807 then (some (((((t103 ++ (⟨#[32]⟩ : ByteArray)) ++ t104) ++ (⟨#[120]⟩ : ByteArray)) ++ t105) ++ t109)) else (none)) = some r := H
      have A12 := Z16.k A120
      clear A120
      by_cases c13 : ((((t103 ++ (⟨#[32]⟩ : ByteArray)) ++ t104) ++ (⟨#[120]⟩ : ByteArray)) ++ t105).size + t109.size ≤ 9223372036854775807
      ·rw [if_pos c13] at H
       have c13b0 := eq_true c13
       have c13b1 : decide (((((t103 ++ (⟨#[32]⟩ : ByteArray)) ++ t104) ++ (⟨#[120]⟩ : ByteArray)) ++ t105).size + t109.size ≤ 9223372036854775807) = true := decide_eq_true c13
       try have c13b2 : (9223372036854775807 < ((((t103 ++ (⟨#[32]⟩ : ByteArray)) ++ t104) ++ (⟨#[120]⟩ : ByteArray)) ++ t105).size + t109.size) = False := eq_false (Nat.not_lt.2 c13)
       clear c13b0
       have c13s : t103.size + 1 + t104.size + 1 + t105.size + t109.size ≤ 9223372036854775807 := by have e_ := c13; simp only [ByteArray.size_append] at e_; exact e_
       have c13t := eq_true c13s
       try have c13u := eq_false (Nat.not_lt.2 c13s)
       clear c13s
       obtain rfl := Option.some.inj H
       go_enter Tryz.func16, Tryz.ntmps16
       try go_wp2_with (first | ((with_reducible refine gate_dst (N := 1) rfl ?_); refine box_event ?hg (N := 1) ?hd (cs := #[.int .i64 a0_0, .int .i64 a0_1, .int .i64 a0_2, .slice A0_3 l0_3.length c0_3]) (t := 24) ?hr ?_; (case hd => rfl); (case hg => rfl); (case hr => first | (go_simp; done) | (go_simp; rfl)); intro gb101 hg w14 hbox hb; have n0_ := Z16.k (below_step Z16.z5 hb); have n1_ := Z16.k (hbox); have n2_ := Z16.k (show w.heap.size ≤ gb101 from (by rw [hg]; exact (below_size Z16.z5))); have n3_ := Z16.k (show w.heap.size ≤ gb101 from (by rw [hg]; exact (below_size Z16.z5))); clear HB; have HB := n0_; have BK101 := n1_; have GW101 := n2_; have GE101 := n3_; clear n0_ n1_ n2_ n3_; clear hb hbox hg; have hcz15_0 : w14.cell? ⟨gb101, 0, none⟩ = some (.int .i64 a0_0) := (blk_cell BK101.out 0).trans rfl; have hcz15_1 : w14.cell? ⟨gb101, 1, none⟩ = some (.int .i64 a0_1) := (blk_cell BK101.out 1).trans rfl; have hcz15_2 : w14.cell? ⟨gb101, 2, none⟩ = some (.int .i64 a0_2) := (blk_cell BK101.out 2).trans rfl; have hcz15_3 : w14.cell? ⟨gb101, 3, none⟩ = some (.slice A0_3 l0_3.length c0_3) := (blk_cell BK101.out 3).trans rfl; have hfz15_0 := blk_frozen BK101.out 0; have hfz15_1 := blk_frozen BK101.out 1; have hfz15_2 := blk_frozen BK101.out 2; have hfz15_3 := blk_frozen BK101.out 3) | ((with_reducible refine gate_callee (f := 29) rfl ?_); refine goesL_ (some 4) rfl rfl Tryz.func29 (by kernel_rfl) rfl #[.agg #[.int .i64 a0_0, .int .i64 a0_1, .int .i64 a0_2, .slice A0_3 l0_3.length c0_3]] rfl Z16.z2 ?_; (with_reducible refine (impl_ValidMatrix.calls k a0_0 a0_1 a0_2 _ _ l0_3 true _ ?side1 ?side2 A2.out).mono ?_); (case side1 => exact Z16.z6); (case side2 => exact HC0_3.out); rintro e w16 ⟨rfl, hb⟩; refine ⟨_, rfl, ?_⟩; have n0_ := Z16.k (Z16.bb BK101 Z16.z4 hb); have n1_ := Z16.k (below_step Z16.z0 hb); clear BK101 HB; have BK101 := n0_; have HB := n1_; clear n0_ n1_; (try clear hb); (try clear hb2); (try clear hk); (try clear hi)))
       have n0_ := Z16.k (blk_drew BK101.out)
       have n1_ := Z16.k (below_drew1 HB.out)
       clear BK101 HB
       have BK101 := n0_
       have HB := n1_
       clear n0_ n1_
       refine start_ (n := 18) (S := fun w' => w'.cell? ⟨gb101, 0, none⟩ = some (.int .i64 a0_0) ∧ w'.cell? ⟨gb101, 1, none⟩ = some (.int .i64 a0_1) ∧ w'.cell? ⟨gb101, 2, none⟩ = some (.int .i64 a0_2) ∧ w'.cell? ⟨gb101, 3, none⟩ = some (.slice A0_3 l0_3.length c0_3)) (ds := []) #[false, false, false, false, false, false, false, false, false, false, false, false, false, false, false, false, false, false] (by kernel_rfl) rfl rfl Z16.z3 (fun hHeld => ?_); refine with_tabW impl_MatrixText.tab3 impl_MatrixText.bits3 (fun HT_ HW_ => ?_)
       generalize w16.drew = w17 at BK101 HB hHeld ⊢
       refine pure_ (i := 0) (N := some 6) (v := ?_) (a' := ?_) #[true, false, false, false, false, false, false, false, false, false, false, false, false, false, false, false, false, false] rfl rfl (any_of HT_.out (by kernel_rfl)) (fun _ _ _ h => h) (Or.inl ⟨(by rfl), ?_⟩) ?_ ?_
       rotate_left
       ·intro w'
        go_simp
        with_reducible rfl
       rotate_left
       ·exact Z16.z1
       refine pure_ (i := 4) (N := some 10) (v := ?_) (a' := ?_) #[true, false, false, false, true, false, false, false, false, false, false, false, false, false, false, false, false, false] rfl rfl (any_of HT_.out (by kernel_rfl)) (fun _ _ _ h => h) (Or.inl ⟨(by rfl), ?_⟩) ?_ ?_
       rotate_left
       ·intro w'
        go_simp
        with_reducible rfl
       rotate_left
       ·exact Z16.z1
       refine pure_ (i := 9) (N := some 15) (v := ?_) (a' := ?_) #[true, false, false, false, true, false, false, false, false, true, false, false, false, false, false, false, false, false] rfl rfl (any_of HT_.out (by kernel_rfl)) (fun _ _ _ h => h) (Or.inl ⟨(by rfl), ?_⟩) ?_ ?_
       rotate_left
       ·intro w'
        go_simp
        with_reducible rfl
       rotate_left
       ·exact Z16.z1
       refine take_ (i := 1) (N := some 7) (v := ?_) (a' := ?_) #[true, true, false, false, true, false, false, false, false, true, false, false, false, false, false, false, false, false] rfl rfl (take_ofW HT_.out HW_.out (by kernel_rfl)) (fun _ _ _ h => h) (Or.inl ⟨(by rfl), ?_⟩) hHeld ?_ ?_
       rotate_left
       ·rintro w' ⟨s0, s1, s2, s3⟩
        go_simp
        with_reducible rfl
       rotate_left
       ·exact Z16.z1
       refine take_ (i := 5) (N := some 11) (v := ?_) (a' := ?_) #[true, true, false, false, true, true, false, false, false, true, false, false, false, false, false, false, false, false] rfl rfl (take_ofW HT_.out HW_.out (by kernel_rfl)) (fun _ _ _ h => h) (Or.inl ⟨(by rfl), ?_⟩) hHeld ?_ ?_
       rotate_left
       ·rintro w' ⟨s0, s1, s2, s3⟩
        go_simp
        with_reducible rfl
       rotate_left
       ·exact Z16.z1
       refine take_ (i := 10) (N := some 16) (v := ?_) (a' := ?_) #[true, true, false, false, true, true, false, false, false, true, true, false, false, false, false, false, false, false] rfl rfl (take_ofW HT_.out HW_.out (by kernel_rfl)) (fun _ _ _ h => h) (Or.inl ⟨(by rfl), ?_⟩) hHeld ?_ ?_
       rotate_left
       ·rintro w' ⟨s0, s1, s2, s3⟩
        go_simp
        with_reducible rfl
       rotate_left
       ·exact Z16.z1
       refine take_ (i := 13) (N := some 19) (v := ?_) (a' := ?_) #[true, true, false, false, true, true, false, false, false, true, true, false, false, true, false, false, false, false] rfl rfl (take_ofW HT_.out HW_.out (by kernel_rfl)) (fun _ _ _ h => h) (Or.inl ⟨(by rfl), ?_⟩) hHeld ?_ ?_
       rotate_left
       ·rintro w' ⟨s0, s1, s2, s3⟩
        go_simp
        with_reducible rfl
       rotate_left
       ·exact Z16.z1
       refine one_ (i := 2) (N := some 8) #[true, true, true, false, true, true, false, false, false, true, true, false, false, true, false, false, false, false] rfl rfl (one_of HT_.out (by kernel_rfl)) (by decide) (fun K hK => ?_)
       refine goes_ Tryz.func38 (by kernel_rfl) rfl #[.int .i64 a0_0] (by rfl) rfl rfl Z16.z2 ?_
       with_reducible refine (impl_Decimal.calls a0_0 t103 _ ?side1 A4.out).mono ?_
       (case side1 => exact (by exact LaidP.below hlP_ Z16.z0))
       rintro e w18 ⟨rfl, hb⟩
       refine ⟨_, rfl, ?_⟩
       have n0_ := Z16.k (Z16.bb BK101 Z16.z4 hb)
       have n1_ := Z16.k (below_step Z16.z0 hb)
       clear BK101 HB
       have BK101 := n0_
       have HB := n1_
       clear n0_ n1_
       (try clear hb)
       (try clear hb2)
       (try clear hk)
       (try clear hi)
       refine hK.out _ _ Z16.z3 (fun hHeld => ?_)
       clear hK K
       refine norm_ (a' := ?_) ?_ ?_
       rotate_left
       ·show Act.put _ (some 8) _ = _
        simp only [Act.put, List.setIfInBounds_toArray, List.set_cons_zero, List.set_cons_succ, i64_w, i32_w]
        rfl
       refine pure_ (i := 3) (N := some 9) (v := ?_) (a' := ?_) #[true, true, true, true, true, true, false, false, false, true, true, false, false, true, false, false, false, false] rfl rfl (any_of HT_.out (by kernel_rfl)) (fun _ _ _ h => h) (Or.inl ⟨(by rfl), ?_⟩) ?_ ?_
       rotate_left
       ·intro w'
        go_simp
        with_reducible rfl
       rotate_left
       ·exact Z16.z1
       refine one_ (i := 6) (N := some 12) #[true, true, true, true, true, true, true, false, false, true, true, false, false, true, false, false, false, false] rfl rfl (one_of HT_.out (by kernel_rfl)) (by decide) (fun K hK => ?_)
       refine goes_ Tryz.func38 (by kernel_rfl) rfl #[.int .i64 a0_1] (by rfl) rfl rfl Z16.z2 ?_
       with_reducible refine (impl_Decimal.calls a0_1 t104 _ ?side1 A6.out).mono ?_
       (case side1 => exact (by exact LaidP.below hlP_ Z16.z0))
       rintro e w19 ⟨rfl, hb⟩
       refine ⟨_, rfl, ?_⟩
       have n0_ := Z16.k (Z16.bb BK101 Z16.z4 hb)
       have n1_ := Z16.k (below_step Z16.z0 hb)
       clear BK101 HB
       have BK101 := n0_
       have HB := n1_
       clear n0_ n1_
       (try clear hb)
       (try clear hb2)
       (try clear hk)
       (try clear hi)
       refine hK.out _ _ Z16.z3 (fun hHeld => ?_)
       clear hK K
       refine norm_ (a' := ?_) ?_ ?_
       rotate_left
       ·show Act.put _ (some 12) _ = _
        simp only [Act.put, List.setIfInBounds_toArray, List.set_cons_zero, List.set_cons_succ, i64_w, i32_w]
        rfl
       refine pure_ (i := 7) (N := some 13) (v := ?_) (a' := ?_) #[true, true, true, true, true, true, true, true, false, true, true, false, false, true, false, false, false, false] rfl rfl (any_of HT_.out (by kernel_rfl)) (fun _ _ _ h => h) (Or.inl ⟨(by rfl), ?_⟩) ?_ ?_
       rotate_left
       ·intro w'
        go_simp
        with_reducible rfl
       rotate_left
       ·exact Z16.z1
       refine pure_ (i := 8) (N := some 14) (v := ?_) (a' := ?_) #[true, true, true, true, true, true, true, true, true, true, true, false, false, true, false, false, false, false] rfl rfl (any_of HT_.out (by kernel_rfl)) (fun _ _ _ h => h) (Or.inl ⟨(by rfl), ?_⟩) ?_ ?_
       rotate_left
       ·intro w'
        go_simp
        with_reducible rfl
       rotate_left
       ·exact Z16.z1
       refine one_ (i := 11) (N := some 17) #[true, true, true, true, true, true, true, true, true, true, true, true, false, true, false, false, false, false] rfl rfl (one_of HT_.out (by kernel_rfl)) (by decide) (fun K hK => ?_)
       refine goes_ Tryz.func38 (by kernel_rfl) rfl #[.int .i64 a0_2] (by rfl) rfl rfl Z16.z2 ?_
       with_reducible refine (impl_Decimal.calls a0_2 t105 _ ?side1 A9.out).mono ?_
       (case side1 => exact (by exact LaidP.below hlP_ Z16.z0))
       rintro e w20 ⟨rfl, hb⟩
       refine ⟨_, rfl, ?_⟩
       have n0_ := Z16.k (Z16.bb BK101 Z16.z4 hb)
       have n1_ := Z16.k (below_step Z16.z0 hb)
       clear BK101 HB
       have BK101 := n0_
       have HB := n1_
       clear n0_ n1_
       (try clear hb)
       (try clear hb2)
       (try clear hk)
       (try clear hi)
       refine hK.out _ _ Z16.z3 (fun hHeld => ?_)
       clear hK K
       refine norm_ (a' := ?_) ?_ ?_
       rotate_left
       ·show Act.put _ (some 17) _ = _
        simp only [Act.put, List.setIfInBounds_toArray, List.set_cons_zero, List.set_cons_succ, i64_w, i32_w]
        rfl
       refine pure_ (i := 12) (N := some 18) (v := ?_) (a' := ?_) #[true, true, true, true, true, true, true, true, true, true, true, true, true, true, false, false, false, false] rfl rfl (any_of HT_.out (by kernel_rfl)) (fun _ _ _ h => h) (Or.inl ⟨(by rfl), ?_⟩) ?_ ?_
       rotate_left
       ·intro w'
        go_simp
        with_reducible rfl
       rotate_left
       ·exact Z16.z1
       refine one_ (i := 14) (N := some 20) #[true, true, true, true, true, true, true, true, true, true, true, true, true, true, true, false, false, false] rfl rfl (one_of HT_.out (by kernel_rfl)) (by decide) (fun K hK => ?_)
       refine goes_ Tryz.func40 (by kernel_rfl) rfl #[.agg #[.int .i64 a0_0, .int .i64 a0_1, .int .i64 a0_2, .slice A0_3 l0_3.length c0_3]] (by rfl) rfl rfl Z16.z2 ?_
       with_reducible refine (impl_rowsOf.calls k a0_0 a0_1 a0_2 _ _ l0_3 t106 _ ?side1 ?side2 A11.out).mono ?_
       (case side1 => exact Z16.z6)
       (case side2 => exact HC0_3.out)
       rintro e w21 ⟨v107, rfl, ho0, hb⟩
       refine ⟨_, rfl, ?_⟩
       have n0_ := Z16.k (Kd.S_lower ho0 (below_size Z16.z0))
       have n1_ := Z16.k (Z16.bb BK101 Z16.z4 hb)
       have n2_ := Z16.k (below_step Z16.z0 hb)
       clear BK101 HB
       have HO108 := n0_
       have BK101 := n1_
       have HB := n2_
       clear n0_ n1_ n2_
       (try clear hb)
       (try clear hb2)
       (try clear hk)
       (try clear hi)
       (try clear ho0)
       obtain ⟨Ao22, co22, eo22⟩ := Kd.S_slice HO108.out
       (first | subst eo22 | (injection eo22 with f1_ f2_ f3_; have f4_ := f1_.symm; have f5_ := f3_.symm; clear f1_ f2_ f3_; subst f4_; subst f5_))
       refine hK.out _ _ Z16.z3 (fun hHeld => ?_)
       clear hK K
       refine norm_ (a' := ?_) ?_ ?_
       rotate_left
       ·show Act.put _ (some 20) _ = _
        simp only [Act.put, List.setIfInBounds_toArray, List.set_cons_zero, List.set_cons_succ, i64_w, i32_w]
        rfl
       refine one_ (i := 15) (N := some 21) #[true, true, true, true, true, true, true, true, true, true, true, true, true, true, true, true, false, false] rfl rfl (one_of HT_.out (by kernel_rfl)) (by decide) (fun K hK => ?_)
       refine goes_ Tryz.func39 (by kernel_rfl) rfl #[.slice Ao22 t106.length co22] (by rfl) rfl rfl Z16.z2 ?_
       with_reducible refine (impl_slashed.calls k _ _ t106 t109 _ ?side1 ?side2 ?side3 A12.out).mono ?_
       (case side1 => exact (by repeat (first | exact (Kd.S_reads' HO108.out).2.2 | (with_reducible refine Kd.C_alloc ?_ _) | (with_reducible refine Kd.C_drewN ?_ _) | (with_reducible refine Kd.C_drew ?_))))
       (case side2 => exact (Kd.S_reads' HO108.out).2.1)
       (case side3 => exact (by exact LaidP.below hlP_ Z16.z0))
       rintro e w23 ⟨rfl, hb⟩
       refine ⟨_, rfl, ?_⟩
       have n0_ := Z16.k (Kd.S_below (by (with_reducible repeat (first | apply Kd.S_alloc | apply Kd.S_drewN | apply Kd.S_drew)); exact HO108.out) hb)
       have n1_ := Z16.k (Z16.bb BK101 Z16.z4 hb)
       have n2_ := Z16.k (below_step Z16.z0 hb)
       clear HO108 BK101 HB
       have HO108 := n0_
       have BK101 := n1_
       have HB := n2_
       clear n0_ n1_ n2_
       (try clear hb)
       (try clear hb2)
       (try clear hk)
       (try clear hi)
       refine hK.out _ _ Z16.z3 (fun hHeld => ?_)
       clear hK K
       refine norm_ (a' := ?_) ?_ ?_
       rotate_left
       ·show Act.put _ (some 21) _ = _
        simp only [Act.put, List.setIfInBounds_toArray, List.set_cons_zero, List.set_cons_succ, i64_w, i32_w]
        rfl
       refine pure_ (i := 16) (N := some 22) (v := ?_) (a' := ?_) #[true, true, true, true, true, true, true, true, true, true, true, true, true, true, true, true, true, false] rfl rfl (any_of HT_.out (by kernel_rfl)) (fun _ _ _ h => h) (Or.inl ⟨(by rfl), ?_⟩) ?_ ?_
       rotate_left
       ·intro w'
        go_simp
        with_reducible rfl
       rotate_left
       ·exact Z16.z1
       refine pure_ (i := 17) (N := some 2) (v := ?_) (a' := ?_) #[true, true, true, true, true, true, true, true, true, true, true, true, true, true, true, true, true, true] rfl rfl (any_of HT_.out (by kernel_rfl)) (fun _ _ _ h => h) (Or.inl ⟨(by rfl), ?_⟩) ?_ ?_
       rotate_left
       ·intro w'
        go_simp
        with_reducible rfl
       rotate_left
       ·exact Z16.z1
       refine done_ (done_of HT_.out (by kernel_rfl)) ?_
       try go_wp2
       go_ret
       exact ⟨(by first | rfl | (simp [errW_none, errW_some] <;> rfl) | (simp [*, errW_none, errW_some] <;> rfl)), Z16.z0⟩
      rw [if_neg c13] at H
      exact absurd H (by simp)
     rw [if_neg c10] at H
     exact absurd H (by simp)
    rw [if_neg c8] at H
    exact absurd H (by simp)
   rw [if_neg c7] at H
   exact absurd H (by simp)
  rw [if_neg c5] at H
  exact absurd H (by simp)
 replace c3 := Bool.eq_false_iff.mpr c3
 subst c3
 have H1 : (some (⟨#[]⟩ : ByteArray)) = some r := by rw [if_neg (show ¬ (false = true) by decide)] at H; exact H
 clear H
 have H := H1
 clear H1
 obtain rfl := Option.some.inj H
 go_enter Tryz.func16, Tryz.ntmps16
 go_wp2_with (first | ((with_reducible refine gate_dst (N := 1) rfl ?_); refine box_event ?hg (N := 1) ?hd (cs := #[.int .i64 a0_0, .int .i64 a0_1, .int .i64 a0_2, .slice A0_3 l0_3.length c0_3]) (t := 24) ?hr ?_; (case hd => rfl); (case hg => rfl); (case hr => first | (go_simp; done) | (go_simp; rfl)); intro gb101 hg w24 hbox hb; have n0_ := Z16.k (below_step Z16.z5 hb); have n1_ := Z16.k (hbox); have n2_ := Z16.k (show w.heap.size ≤ gb101 from (by rw [hg]; exact (below_size Z16.z5))); have n3_ := Z16.k (show w.heap.size ≤ gb101 from (by rw [hg]; exact (below_size Z16.z5))); clear HB; have HB := n0_; have BK101 := n1_; have GW101 := n2_; have GE101 := n3_; clear n0_ n1_ n2_ n3_; clear hb hbox hg; have hcz25_0 : w24.cell? ⟨gb101, 0, none⟩ = some (.int .i64 a0_0) := (blk_cell BK101.out 0).trans rfl; have hcz25_1 : w24.cell? ⟨gb101, 1, none⟩ = some (.int .i64 a0_1) := (blk_cell BK101.out 1).trans rfl; have hcz25_2 : w24.cell? ⟨gb101, 2, none⟩ = some (.int .i64 a0_2) := (blk_cell BK101.out 2).trans rfl; have hcz25_3 : w24.cell? ⟨gb101, 3, none⟩ = some (.slice A0_3 l0_3.length c0_3) := (blk_cell BK101.out 3).trans rfl; have hfz25_0 := blk_frozen BK101.out 0; have hfz25_1 := blk_frozen BK101.out 1; have hfz25_2 := blk_frozen BK101.out 2; have hfz25_3 := blk_frozen BK101.out 3) | ((with_reducible refine gate_callee (f := 29) rfl ?_); refine goesL_ (some 4) rfl rfl Tryz.func29 (by kernel_rfl) rfl #[.agg #[.int .i64 a0_0, .int .i64 a0_1, .int .i64 a0_2, .slice A0_3 l0_3.length c0_3]] rfl Z16.z2 ?_; (with_reducible refine (impl_ValidMatrix.calls k a0_0 a0_1 a0_2 _ _ l0_3 false _ ?side1 ?side2 A2.out).mono ?_); (case side1 => exact Z16.z6); (case side2 => exact HC0_3.out); rintro e w26 ⟨rfl, hb⟩; refine ⟨_, rfl, ?_⟩; have n0_ := Z16.k (Z16.bb BK101 Z16.z4 hb); have n1_ := Z16.k (below_step Z16.z0 hb); clear BK101 HB; have BK101 := n0_; have HB := n1_; clear n0_ n1_; (try clear hb); (try clear hb2); (try clear hk); (try clear hi)))
 go_ret
 exact ⟨(by first | rfl | (simp [errW_none, errW_some] <;> rfl) | (simp [*, errW_none, errW_some] <;> rfl)), Z16.z0⟩
/-! ### impl_ReadList: function 56 -/
def impl_ReadList.l0 : Nat → ByteArray → List Int → List ByteArray → Int → Int → Option (List Int × Bool)
  | 0, _, _, _, _, _ => none
  | k + 1, x0, x4, x12, x13, x14 => if x14 < x13 then (if 0 ≤ x14 then (if x14 < (x12.length : Int) then ((impl_ReadDecimal.f (rdOf ByteArray.empty x12 x14)).bind fun bt105 => (if x4.length < 17592186044416 then (impl_ReadList.l0 k x0 (x4 ++ [bt105.1]) x12 x13 (wrap64 (x14 + 1))) else (none))) else (none)) else (none)) else ((impl_ListText.f k x4).bind fun t110 => (if t110.toList = x0.toList then (some (x4, true)) else (some (([] : List Int), false))))
def impl_ReadList.f (k : Nat) (a0 : ByteArray) : Option (List Int × Bool) := if a0.toList = ([45] : List UInt8) then (some (([] : List Int), true)) else ((strings_Split.f a0 (⟨#[44]⟩ : ByteArray)).bind fun t101 => (impl_ReadList.l0 k a0 ([] : List Int) t101 (t101.length : Int) 0))
theorem Z56.z6 {P : Prop} (h : P := by repeat (first | exact (Kd.R_reads' HO_4.out).2.2 | (with_reducible refine Kd.C_alloc ?_ _) | (with_reducible refine Kd.C_drewN ?_ _) | (with_reducible refine Kd.C_drew ?_))) : P := h
theorem Z56.z5 {P : Prop} (h : P := by first | rfl | (simp [errW_none, errW_some] <;> rfl) | (simp [*, errW_none, errW_some] <;> rfl)) : P := h
theorem Z56.z4 {P : Prop} (h : P := by first | exact Kd.R_nil _ _ _ _ _ | exact Kd.N_nil _ _ _ _ _ | exact Kd.V_nil _ _ _ _ _ | exact Kd.Q_nil _ _ _ _ _ | exact Kd.S_nil _ _ _ _ _) : P := h
theorem Z56.z3 {P : Prop} (h : P := by (with_reducible repeat (first | apply Kd.R_alloc | apply Kd.R_drewN | apply Kd.R_drew)); exact HO_12.out) : P := h
theorem Z56.z2 {P : Prop} (h : P := by (try simp only [List.map_toArray, List.map_cons, List.map_nil]); first | done | rfl | (simp only [List.length_drop, List.length_take]; rfl)) : P := h
theorem Z56.z1 {P : Prop} (h : P := by (with_reducible repeat (first | apply Kd.R_alloc | apply Kd.R_drewN | apply Kd.R_drew)); exact HO_4.out) : P := h
theorem Z56.z0 {P : Prop} (h : P := by repeat (first | (with_reducible first | exact HB.out | apply below_alloc | apply pw_below_drewN | apply below_drew1) | exact HB.out)) : P := h
set_option maxHeartbeats 8000000 in
set_option maxRecDepth 100000 in
theorem impl_ReadList.calls (k : Nat) (a0 : ByteArray) (r1 : List Int) (r2 : Bool) (w : World) (hlP_ : LaidP w) (hlE_ : LaidE w) (hlM_ : LaidM w) (h : impl_ReadList.f k a0 = some (r1, r2)) :
  Calls Tryz.prog 56 #[.string a0] w fun e w' => ∃ v0_ : Value, e = .returned (.tuple #[v0_, .bool r2]) ∧ Kd.R (Kd.int .i64) 2 w' w.heap.size (fun _ => True) v0_ r1 ∧ Below w.heap.size w w' := by
 have HB := Aside0.mk (Below.refl w.heap.size w)
 have H : (if a0.toList = ([45] : List UInt8) then (some (([] : List Int), true)) else ((strings_Split.f a0 (⟨#[44]⟩ : ByteArray)).bind fun t101 => (impl_ReadList.l0 k a0 ([] : List Int) t101 (t101.length : Int) 0))) = some (r1, r2) := h
 clear h
 by_cases c2 : a0.toList = ([45] : List UInt8)
 ·rw [if_pos c2] at H
  have c2b0 : (a0.toList == ([45] : List UInt8)) = true := beq_iff_eq.mpr c2
  have c2b1 : (a0.toList != ([45] : List UInt8)) = false := bne_eq_false_iff_eq.mpr c2
  clear c2
  simp only [Option.some.injEq, Prod.mk.injEq] at H
  obtain ⟨rfl, rfl⟩ := H
  go_enter Tryz.func56, Tryz.ntmps56
  go_wp2
  go_ret2
  exact ⟨_, Z56.z5, Z56.z4, Z56.z0⟩
 rw [if_neg c2] at H
 have c2b0 : (a0.toList == ([45] : List UInt8)) = false := beq_eq_false_iff_ne.mpr c2
 have c2b1 : (a0.toList != ([45] : List UInt8)) = true := bne_iff_ne.mpr c2
 replace H := Option.bind_eq_some_iff.mp H
 obtain ⟨t101, A30, H⟩ := H
 replace H : (impl_ReadList.l0 k a0 ([] : List Int) t101 (t101.length : Int) 0) = some (r1, r2) := H
 have A3 := Aside0.mk A30
 clear A30
 have H' := Aside0.mk H
 clear H
 go_enter Tryz.func56, Tryz.ntmps56
 go_wp2_with (first | ((with_reducible refine gate_callee (f := 55) rfl ?_); refine goesL_ (some 12) rfl rfl Tryz.func55 (by kernel_rfl) rfl #[.string a0, .string (⟨#[44]⟩ : ByteArray)] rfl Z56.z2 ?_; (with_reducible refine (strings_Split.calls a0 (⟨#[44]⟩ : ByteArray) t101 _ ?side1 A3.out).mono ?_); (case side1 => exact (by exact LaidM.below hlM_ Z56.z0)); rintro e w4 ⟨v102, rfl, ho0, hb⟩; refine ⟨_, rfl, ?_⟩; have n0_ := Aside0.mk (Kd.R_lower ho0 (below_size Z56.z0)); have n1_ := Aside0.mk (below_step Z56.z0 hb); clear HB; have HO103 := n0_; have HB := n1_; clear n0_ n1_; (try clear hb); (try clear hb2); (try clear hk); (try clear hi); (try clear ho0); obtain ⟨Ao5, co5, eo5⟩ := Kd.R_slice HO103.out; subst eo5))
 go_loopg [4, 14] k (fun kq v4 v14 w' => ∃ (x4_1 : List Int) (x14_1 : Int), v14 = .int .i64 x14_1 ∧ Aside0 (impl_ReadList.l0 kq a0 x4_1 t101 (t101.length : Int) x14_1 = some (r1, r2)) ∧ Aside0 (kq ≤ k) ∧ Aside0 (Kd.R (Kd.int .i64) 2 w' w.heap.size (fun _ => True) v4 x4_1) ∧ Aside0 (Kd.R Kd.string 9 w' w.heap.size (fun _ => True) (.slice Ao5 t101.length co5) t101) ∧ Aside0 (Below w.heap.size w w'))
 case atStart => exact ⟨(([] : List Int)), (0), (by first | rfl | (simp; done) | (simp [*]; done)), H', ⟨Nat.le_refl _⟩, ⟨Z56.z4⟩, ⟨(by (with_reducible repeat (first | apply Kd.R_alloc | apply Kd.R_drewN | apply Kd.R_drew)); exact HO103.out)⟩, ⟨Z56.z0⟩⟩
 case round =>
  clear H'
  try clear c2
  try clear c2b0
  try clear c2b1
  try clear p2
  try clear c5
  obtain ⟨x4_1, x14_1, rfl, HA, HK1, HO_4, HO_12, HB⟩ := hrel
  cases gk with
  | zero => exact absurd HA.out (by simp [impl_ReadList.l0])
  | succ k1 =>
   have H := HA.out
   clear HA
   simp only [impl_ReadList.l0] at H
   by_cases c6 : x14_1 < (t101.length : Int)
   ·rw [if_pos c6] at H
    have c6b0 : decide (x14_1 < (t101.length : Int)) = true := decide_eq_true c6
    clear c6
    by_cases c7 : 0 ≤ x14_1
    ·rw [if_pos c7] at H
     have c7b0 : decide (0 ≤ x14_1) = true := decide_eq_true c7
     clear c7
     by_cases c8 : x14_1 < (t101.length : Int)
     ·rw [if_pos c8] at H
      have c8b0 : decide (x14_1 < (t101.length : Int)) = true := decide_eq_true c8
      clear c8
      replace H := Option.bind_eq_some_iff.mp H
      obtain ⟨⟨t105, t106⟩, A90, H⟩ := H
      replace H : (if x4_1.length < 17592186044416 then (impl_ReadList.l0 k1 a0 (x4_1 ++ [t105]) t101 (t101.length : Int) (wrap64 (x14_1 + 1))) else (none)) = some (r1, r2) := H
      have A9 := Aside0.mk A90
      clear A90
      by_cases c10 : x4_1.length < 17592186044416
      ·rw [if_pos c10] at H
       have LMc10 := Aside0.mk c10
       clear c10
       obtain ⟨y107, hy107⟩ : ∃ y_ : List Int, y_ = (x4_1 ++ [t105]) := ⟨_, rfl⟩
       replace H : (impl_ReadList.l0 k1 a0 y107 t101 (t101.length : Int) (wrap64 (x14_1 + 1))) = some (r1, r2) := by first | (rw [hy107]; with_reducible exact H) | (have H2_ := (Option.bind_some _ _).symm.trans H; rw [hy107]; with_reducible exact H2_) | (have H2_ := (Option.bind_some _ _).symm.trans H; with_reducible exact H2_) | with_reducible exact H | (rw [hy107]; exact H) | exact H
       have Ny107 := Aside0.mk hy107
       clear hy107
       have H' := Aside0.mk H
       clear H
       have p104 : 0 ≤ (x14_1 : Int) := of_decide_eq_true (by first | (with_reducible assumption) | assumption)
       have q104 : x14_1 < (t101.length : Int) := of_decide_eq_true (by first | (with_reducible assumption) | assumption)
       obtain ⟨ad104, e104, hx104_0⟩ := Kd.at_string (Kd.R_reads' HO_12.out).2.2 x14_1 p104 q104
       cases e104
       replace p104 := eq_true p104
       replace q104 := eq_true q104
       go_wp2_with (first | ((with_reducible refine gate_callee (f := 27) rfl ?_); refine goesL_ (some 20) rfl rfl Tryz.func27 (by kernel_rfl) rfl #[.string (rdOf ByteArray.empty t101 x14_1)] rfl Z56.z2 ?_; (with_reducible refine (impl_ReadDecimal.calls (rdOf ByteArray.empty t101 x14_1) t105 t106 _ ?side1 ?side2 A9.out).mono ?_); (case side1 => exact (by exact LaidP.below hlP_ Z56.z0)); (case side2 => exact (by exact LaidE.below hlE_ Z56.z0)); rintro e w11 ⟨rfl, hb⟩; refine ⟨_, rfl, ?_⟩; have n0_ := Aside0.mk (Kd.R_below Z56.z1 hb); have n1_ := Aside0.mk (Kd.R_below Z56.z3 hb); have n2_ := Aside0.mk (below_step Z56.z0 hb); clear HO_4 HO_12 HB; have HO_4 := n0_; have HO_12 := n1_; have HB := n2_; clear n0_ n1_ n2_; (try clear hb); (try clear hb2); (try clear hk); (try clear hi)) | ((with_reducible refine gate_builtin (b := .append) (xs := #[.tmp 23, .tmp 25]) rfl ?_); at_builtin; refine Kd.R_append (Kd.int .i64) (w0 := w) w.heap.size rfl (.tmp 23) (.tmp 25) 22 2 (.int .i64 0) 8 rfl Tryz.underlying22 info2 rfl (by decide) (by omega) u4 x4_1 t105 [.int .i64 t105] (fun _ => True) (fun _ => False) rfl rfl ?aP (fun _ hk => hk.elim) ?aF ?aO ?aB ?aS ?aL ?_; (case aP => exact rfl); (case aB => exact Z56.z0); (case aF => exact (fun _ _ => trivial)); (case aO => exact Z56.z1); (case aS => exact (below_size Z56.z0)); (case aL => have := LMc10.out; omega); intro v108 w12 ho hb hg hat; rw [← Ny107.out] at ho; have n0_ := Aside0.mk (Kd.R_over' Z56.z3 (Kd.R_typed Z56.z1) (by decide) hg); have n1_ := Aside0.mk (hb); have n2_ := Aside0.mk (ho); clear HO_12 HB HO_4; have HO_12 := n0_; have HB := n1_; have HO109 := n2_; clear n0_ n1_ n2_; clear ho hb hg hat))
       go_roundg k1
       case measure => have := HK1.out; omega
       case rel => exact ⟨(y107), (wrap64 (x14_1 + 1)), (by first | rfl | (simp; done) | (simp [*]; done)), H', ⟨(by have := HK1.out; omega)⟩, ⟨(by (with_reducible repeat (first | apply Kd.R_alloc | apply Kd.R_drewN | apply Kd.R_drew)); exact HO109.out)⟩, ⟨Z56.z3⟩, ⟨Z56.z0⟩⟩
      rw [if_neg c10] at H
      exact absurd H (by simp)
     rw [if_neg c8] at H
     exact absurd H (by simp)
    rw [if_neg c7] at H
    exact absurd H (by simp)
   rw [if_neg c6] at H
   have c6b0 : decide (x14_1 < (t101.length : Int)) = false := decide_eq_false c6
   clear c6
   replace H := Option.bind_eq_some_iff.mp H
   obtain ⟨t110, A130, H⟩ := H
   replace H : (if t110.toList = a0.toList then (some (x4_1, true)) else (some (([] : List Int), false))) = some (r1, r2) := H
   have A13 := Aside0.mk A130
   clear A130
   by_cases c14 : t110.toList = a0.toList
   ·rw [if_pos c14] at H
    have c14b0 : (t110.toList == a0.toList) = true := beq_iff_eq.mpr c14
    have c14b1 : (t110.toList != a0.toList) = false := bne_eq_false_iff_eq.mpr c14
    clear c14
    simp only [Option.some.injEq, Prod.mk.injEq] at H
    obtain ⟨rfl, rfl⟩ := H
    obtain ⟨Ao15, co15, eo15⟩ := Kd.R_slice HO_4.out
    subst eo15
    go_wp2_with (first | ((with_reducible refine gate_callee (f := 75) rfl ?_); refine goesL_ (some 29) rfl rfl Tryz.func75 (by kernel_rfl) rfl #[.slice Ao15 x4_1.length co15] rfl Z56.z2 ?_; (with_reducible refine (impl_ListText.calls k1 _ _ x4_1 t110 _ ?side1 ?side2 ?side3 A13.out).mono ?_); (case side1 => exact Z56.z6); (case side2 => exact (Kd.R_reads' HO_4.out).2.1); (case side3 => exact (by exact LaidP.below hlP_ Z56.z0)); rintro e w16 ⟨rfl, hb⟩; refine ⟨_, rfl, ?_⟩; have n0_ := Aside0.mk (Kd.R_below Z56.z1 hb); have n1_ := Aside0.mk (Kd.R_below Z56.z3 hb); have n2_ := Aside0.mk (below_step Z56.z0 hb); clear HO_4 HO_12 HB; have HO_4 := n0_; have HO_12 := n1_; have HB := n2_; clear n0_ n1_ n2_; (try clear hb); (try clear hb2); (try clear hk); (try clear hi)))
    go_ret2
    exact ⟨_, Z56.z5, Z56.z1, Z56.z0⟩
   rw [if_neg c14] at H
   have c14b0 : (t110.toList == a0.toList) = false := beq_eq_false_iff_ne.mpr c14
   have c14b1 : (t110.toList != a0.toList) = true := bne_iff_ne.mpr c14
   simp only [Option.some.injEq, Prod.mk.injEq] at H
   obtain ⟨rfl, rfl⟩ := H
   obtain ⟨Ao17, co17, eo17⟩ := Kd.R_slice HO_4.out
   subst eo17
   go_wp2_with (first | ((with_reducible refine gate_callee (f := 75) rfl ?_); refine goesL_ (some 29) rfl rfl Tryz.func75 (by kernel_rfl) rfl #[.slice Ao17 x4_1.length co17] rfl Z56.z2 ?_; (with_reducible refine (impl_ListText.calls k1 _ _ x4_1 t110 _ ?side1 ?side2 ?side3 A13.out).mono ?_); (case side1 => exact Z56.z6); (case side2 => exact (Kd.R_reads' HO_4.out).2.1); (case side3 => exact (by exact LaidP.below hlP_ Z56.z0)); rintro e w18 ⟨rfl, hb⟩; refine ⟨_, rfl, ?_⟩; have n0_ := Aside0.mk (Kd.R_below Z56.z1 hb); have n1_ := Aside0.mk (Kd.R_below Z56.z3 hb); have n2_ := Aside0.mk (below_step Z56.z0 hb); clear HO_4 HO_12 HB; have HO_4 := n0_; have HO_12 := n1_; have HB := n2_; clear n0_ n1_ n2_; (try clear hb); (try clear hb2); (try clear hk); (try clear hi)))
   go_ret2
   exact ⟨_, Z56.z5, Z56.z4, Z56.z0⟩
/-! ### impl_readSlashed: function 25 -/
def impl_readSlashed.l0 : Nat → List ByteArray → List (List Int) → List ByteArray → Int → Int → Option (ByteArray × (List (List Int)))
  | 0, _, _, _, _, _ => none
  | k + 1, x4, x5, x13, x14, x15 => if x15 < x14 then (if 0 ≤ x15 then (if x15 < (x13.length : Int) then ((impl_ReadList.f k (rdOf ByteArray.empty x13 x15)).bind fun bt109 => (if x5.length < 5864062014805 then (impl_readSlashed.l0 k x4 (x5 ++ [bt109.1]) x13 x14 (wrap64 (x15 + 1))) else (none))) else (none)) else (none)) else (if 0 < (x4.length : Int) then (some (rdOf ByteArray.empty x4 0, x5)) else (none))
def impl_readSlashed.f (k : Nat) (a0 : ByteArray) : Option (ByteArray × (List (List Int))) := (strings_Split.f a0 (⟨#[47]⟩ : ByteArray)).bind fun t101 => (if 1 ≤ (t101.length : Int) then ((some (t101.drop 1 : List ByteArray)).bind fun y104 => (impl_readSlashed.l0 k t101 ([] : List (List Int)) y104 (y104.length : Int) 0)) else (none))
theorem Z25.z3 {P : Prop} (h : P := by (try simp only [List.map_toArray, List.map_cons, List.map_nil]); first | done | rfl | (simp only [List.length_drop, List.length_take]; rfl)) : P := h
theorem Z25.z2 {P : Prop} (h : P := by (with_reducible repeat (first | apply Kd.R_alloc | apply Kd.R_drewN | apply Kd.R_drew)); exact HO_4.out) : P := h
theorem Z25.z1 {P : Prop} (h : P := by (with_reducible repeat (first | apply Kd.S_alloc | apply Kd.S_drewN | apply Kd.S_drew)); exact HO_5.out) : P := h
theorem Z25.z0 {P : Prop} (h : P := by repeat (first | (with_reducible first | exact HB.out | apply below_alloc | apply pw_below_drewN | apply below_drew1) | exact HB.out)) : P := h
set_option maxHeartbeats 8000000 in
set_option maxRecDepth 100000 in
theorem impl_readSlashed.calls (k : Nat) (a0 : ByteArray) (r1 : ByteArray) (r2 : List (List Int)) (w : World) (hlP_ : LaidP w) (hlE_ : LaidE w) (hlM_ : LaidM w) (h : impl_readSlashed.f k a0 = some (r1, r2)) :
  Calls Tryz.prog 25 #[.string a0] w fun e w' => ∃ v1_ : Value, e = .returned (.tuple #[.string r1, v1_]) ∧ Kd.S (Kd.slice 2 (Kd.int .i64)) 22 w' w.heap.size (fun _ => True) v1_ r2 ∧ Below w.heap.size w w' := by
 have HB := Aside0.mk (Below.refl w.heap.size w)
 have H : ((strings_Split.f a0 (⟨#[47]⟩ : ByteArray)).bind fun t101 => (if 1 ≤ (t101.length : Int) then ((some (t101.drop 1 : List ByteArray)).bind fun y104 => (impl_readSlashed.l0 k t101 ([] : List (List Int)) y104 (y104.length : Int) 0)) else (none))) = some (r1, r2) := h
 clear h
 replace H := Option.bind_eq_some_iff.mp H
 obtain ⟨t101, A20, H⟩ := H
 replace H : (if 1 ≤ (t101.length : Int) then ((some (t101.drop 1 : List ByteArray)).bind fun y104 => (impl_readSlashed.l0 k t101 ([] : List (List Int)) y104 (y104.length : Int) 0)) else (none)) = some (r1, r2) := H
 have A2 := Aside0.mk A20
 clear A20
 by_cases c3 : 1 ≤ (t101.length : Int)
 ·rw [if_pos c3] at H
  have c3b0 := eq_true c3
  have c3b1 : decide (1 ≤ (t101.length : Int)) = true := decide_eq_true c3
  clear c3
  obtain ⟨y104, hy104⟩ : ∃ y_ : List ByteArray, y_ = (t101.drop 1) := ⟨_, rfl⟩
  replace H : (impl_readSlashed.l0 k t101 ([] : List (List Int)) y104 (y104.length : Int) 0) = some (r1, r2) := by first | (rw [hy104]; with_reducible exact H) | (have H2_ := (Option.bind_some _ _).symm.trans H; rw [hy104]; with_reducible exact H2_) | (have H2_ := (Option.bind_some _ _).symm.trans H; with_reducible exact H2_) | with_reducible exact H | (rw [hy104]; exact H) | exact H
  have Ny104 := Aside0.mk hy104
  clear hy104
  have H' := Aside0.mk H
  clear H
  go_enter Tryz.func25, Tryz.ntmps25
  go_wp2_with (first | ((with_reducible refine gate_callee (f := 55) rfl ?_); refine goesL_ (some 11) rfl rfl Tryz.func55 (by kernel_rfl) rfl #[.string a0, .string (⟨#[47]⟩ : ByteArray)] rfl Z25.z3 ?_; (with_reducible refine (strings_Split.calls a0 (⟨#[47]⟩ : ByteArray) t101 _ ?side1 A2.out).mono ?_); (case side1 => exact (by exact LaidM.below hlM_ Z25.z0)); rintro e w4 ⟨v102, rfl, ho0, hb⟩; refine ⟨_, rfl, ?_⟩; have n0_ := Aside0.mk (Kd.R_lower ho0 (below_size Z25.z0)); have n1_ := Aside0.mk (below_step Z25.z0 hb); clear HB; have HO103 := n0_; have HB := n1_; clear n0_ n1_; (try clear hb); (try clear hb2); (try clear hk); (try clear hi); (try clear ho0); obtain ⟨Ao6, co6, eo6⟩ := Kd.R_slice HO103.out; subst eo6; have q5 : (1 : Int) ≤ ((t101.length : Int) : Int) := of_decide_eq_true (by first | (with_reducible assumption) | assumption); obtain ⟨i05, hi05, _, hsz5, _⟩ := info_parts info9; have hroom5 : t101.length ≤ co6 := (Kd.R_reads' HO103.out).2.1; have hC5 : Kd.C Kd.string _ Ao6 t101.length t101 := (Kd.R_reads' HO103.out).2.2; have hcut5 := cut_from (P := Tryz.prog) 75 9 .i64 Tryz.underlying75 hi05 1 hsz5 Ao6 t101.length co6 1 (by omega) q5; have hr5 := Kd.C_drop (m := (1 : Int).toNat) (c := co6) hC5 (by omega) hroom5; obtain ⟨A5, hA5⟩ : ∃ A1, A1 = (if co6 = (1 : Int).toNat then Ao6 else (Ao6 : Option Addr).map (·.add ((1 : Int).toNat * 1))) := ⟨_, rfl⟩; obtain ⟨c5, hc5⟩ : ∃ c1, c1 = co6 - (1 : Int).toNat := ⟨_, rfl⟩; have hy5 : y104.length = t101.length - (1 : Int).toNat := (by rw [Ny104.out, List.length_drop] <;> omega); rw [show (t101).drop (1 : Int).toNat = y104 from Ny104.out.symm] at hr5; replace hr5 : Kd.C Kd.string _ A5 y104.length y104 := (by rw [hA5]; exact hr5); rw [← hy5, ← hA5, ← hc5] at hcut5; have HR107 := Aside0.mk hr5; have HC107 := Aside0.mk (show y104.length ≤ c5 from by rw [hy5, hc5]; exact Nat.sub_le_sub_right hroom5 _); clear hr5 hC5 hroom5 hi05 hsz5 hc5; have KY5 := Aside0.mk hy5; have KA5 := Aside0.mk hA5; clear hy5 hA5; have KL5 := Aside0.mk (show 1 ≤ t101.length from by omega); replace q5 := eq_true q5))
  go_loopg [5, 15] k (fun kq v5 v15 w' => ∃ (x5_1 : List (List Int)) (x15_1 : Int), v15 = .int .i64 x15_1 ∧ Aside0 (impl_readSlashed.l0 kq t101 x5_1 y104 (y104.length : Int) x15_1 = some (r1, r2)) ∧ Aside0 (kq ≤ k) ∧ Aside0 (Kd.R Kd.string 9 w' w.heap.size (fun _ => True) (.slice Ao6 t101.length co6) t101) ∧ Aside0 (Kd.S (Kd.slice 2 (Kd.int .i64)) 22 w' w.heap.size (fun _ => True) v5 x5_1) ∧ Aside0 (Below w.heap.size w w'))
  case atStart => exact ⟨(([] : List (List Int))), (0), (by first | rfl | (simp; done) | (simp [*]; done)), H', ⟨Nat.le_refl _⟩, ⟨(by (with_reducible repeat (first | apply Kd.R_alloc | apply Kd.R_drewN | apply Kd.R_drew)); exact HO103.out)⟩, ⟨(by first | exact Kd.S_nil _ _ _ _ _ | exact Kd.N_nil _ _ _ _ _ | exact Kd.V_nil _ _ _ _ _ | exact Kd.Q_nil _ _ _ _ _ | exact Kd.R_nil _ _ _ _ _)⟩, ⟨Z25.z0⟩⟩
  case round =>
   clear H'
   try clear c1
   try clear c2
   try clear p2
   try clear c3
   try clear c3b0
   try clear c3b1
   try clear c5
   try clear q5
   try clear q5
   obtain ⟨x5_1, x15_1, rfl, HA, HK1, HO_4, HO_5, HB⟩ := hrel
   cases gk with
   | zero => exact absurd HA.out (by simp [impl_readSlashed.l0])
   | succ k1 =>
    have H := HA.out
    clear HA
    simp only [impl_readSlashed.l0] at H
    by_cases c7 : x15_1 < (y104.length : Int)
    ·rw [if_pos c7] at H
     have c7b0 : decide (x15_1 < (y104.length : Int)) = true := decide_eq_true c7
     clear c7
     by_cases c8 : 0 ≤ x15_1
     ·rw [if_pos c8] at H
      have c8b0 : decide (0 ≤ x15_1) = true := decide_eq_true c8
      clear c8
      by_cases c9 : x15_1 < (y104.length : Int)
      ·rw [if_pos c9] at H
       have c9b0 : decide (x15_1 < (y104.length : Int)) = true := decide_eq_true c9
       clear c9
       replace H := Option.bind_eq_some_iff.mp H
       obtain ⟨⟨t109, t110⟩, A100, H⟩ := H
       replace H : (if x5_1.length < 5864062014805 then (impl_readSlashed.l0 k1 t101 (x5_1 ++ [t109]) y104 (y104.length : Int) (wrap64 (x15_1 + 1))) else (none)) = some (r1, r2) := H
       have A10 := Aside0.mk A100
       clear A100
       by_cases c11 : x5_1.length < 5864062014805
       ·rw [if_pos c11] at H
        have LMc11 := Aside0.mk c11
        clear c11
        obtain ⟨y113, hy113⟩ : ∃ y_ : List (List Int), y_ = (x5_1 ++ [t109]) := ⟨_, rfl⟩
        replace H : (impl_readSlashed.l0 k1 t101 y113 y104 (y104.length : Int) (wrap64 (x15_1 + 1))) = some (r1, r2) := by first | (rw [hy113]; with_reducible exact H) | (have H2_ := (Option.bind_some _ _).symm.trans H; rw [hy113]; with_reducible exact H2_) | (have H2_ := (Option.bind_some _ _).symm.trans H; with_reducible exact H2_) | with_reducible exact H | (rw [hy113]; exact H) | exact H
        have Ny113 := Aside0.mk hy113
        clear hy113
        have H' := Aside0.mk H
        clear H
        have p108 : 0 ≤ (x15_1 : Int) := of_decide_eq_true (by first | (with_reducible assumption) | assumption)
        have q108 : x15_1 < (y104.length : Int) := of_decide_eq_true (by first | (with_reducible assumption) | assumption)
        have hrQ : Kd.C Kd.string wr A5 y104.length y104 := by
         have hr_ := Kd.C_drop (m := (1 : Int).toNat) (c := co6) (Kd.R_reads' HO_4.out).2.2 (by have := KL5.out; show 1 ≤ _; omega) (Kd.R_reads' HO_4.out).2.1
         rw [show (t101).drop (1 : Int).toNat = y104 from Ny104.out.symm] at hr_
         rw [KA5.out]; exact hr_
        obtain ⟨ad108, e108, hx108_0⟩ := Kd.at_string hrQ x15_1 p108 q108
        cases e108
        replace p108 := eq_true p108
        replace q108 := eq_true q108
        go_wp2_with (first | ((with_reducible refine gate_callee (f := 56) rfl ?_); refine goesL_ (some 21) rfl rfl Tryz.func56 (by kernel_rfl) rfl #[.string (rdOf ByteArray.empty y104 x15_1)] rfl Z25.z3 ?_; (with_reducible refine (impl_ReadList.calls k1 (rdOf ByteArray.empty y104 x15_1) t109 t110 _ ?side1 ?side2 ?side3 A10.out).mono ?_); (case side1 => exact (by exact LaidP.below hlP_ Z25.z0)); (case side2 => exact (by exact LaidE.below hlE_ Z25.z0)); (case side3 => exact (by exact LaidM.below hlM_ Z25.z0)); rintro e w12 ⟨v111, rfl, ho0, hb⟩; refine ⟨_, rfl, ?_⟩; have n0_ := Aside0.mk (Kd.R_below Z25.z2 hb); have n1_ := Aside0.mk (Kd.S_elder' Z25.z1 (Kd.R_base ho0) hb); have n2_ := Aside0.mk (Kd.R_lower ho0 (below_size Z25.z0)); have n3_ := Aside0.mk (below_step Z25.z0 hb); clear HO_4 HO_5 HB; have HO_4 := n0_; have HO_5 := n1_; have HO112 := n2_; have HB := n3_; clear n0_ n1_ n2_ n3_; (try clear hb); (try clear hb2); (try clear hk); (try clear hi); (try clear ho0); obtain ⟨Ao14, co14, eo14⟩ := Kd.R_slice HO112.out; subst eo14) | ((with_reducible refine gate_builtin (b := .append) (xs := #[.tmp 24, .tmp 26]) rfl ?_); at_builtin; refine Kd.S_append (Kd.slice 2 (Kd.int .i64)) (w0 := w) w.heap.size rfl (.tmp 24) (.tmp 26) 46 22 (.slice none 0 0) 24 rfl Tryz.underlying46 info22 rfl (by decide) (by omega) u5 x5_1 t109 [.slice Ao14 t109.length co14] (fun _ => True) (fun k_ => some k_ = (.slice Ao14 t109.length co14 : Value).ownBlock) rfl rfl ?aP (fun k_ hk_ => ((Kd.R_mono (ok' := fun k_ => ((fun _ => True)) k_ ∧ some k_ ≠ (u5 : Value).ownBlock) (Kd.R_apart' (HO112.out) (Kd.S_typed HO_5.out) (by decide)) (fun k_ hk => ⟨trivial, hk.2⟩))).1 k_ hk_.symm) ?aF ?aO ?aB ?aS ?aL ?_; (case aP => exact Kd.M_row (Kd.R_mono (Kd.R_tight rfl (Kd.R_mono (ok' := fun k_ => ((fun _ => True)) k_ ∧ some k_ ≠ (u5 : Value).ownBlock) (Kd.R_apart' (HO112.out) (Kd.S_typed HO_5.out) (by decide)) (fun k_ hk => ⟨trivial, hk.2⟩))) (fun _ h_ => h_))); (case aB => exact Z25.z0); (case aF => exact (fun _ _ => trivial)); (case aO => exact (by (with_reducible repeat (first | apply Kd.S_alloc | apply Kd.S_drewN | apply Kd.S_drew)); exact Kd.S_mono HO_5.out (fun k_ hk => ⟨trivial, fun e_ => hk.2 e_⟩))); (case aS => exact (below_size Z25.z0)); (case aL => have := LMc11.out; omega); intro v114 w13 ho hb hg hat; rw [← Ny113.out] at ho; have n0_ := Aside0.mk (Kd.R_over' Z25.z2 (Kd.S_typed Z25.z1) (by decide) hg); have n1_ := Aside0.mk (hb); have n2_ := Aside0.mk (ho); clear HO_4 HB HO_5 HO112; have HO_4 := n0_; have HB := n1_; have HO115 := n2_; clear n0_ n1_ n2_; clear ho hb hg hat))
        go_roundg k1
        case measure => have := HK1.out; omega
        case rel => exact ⟨(y113), (wrap64 (x15_1 + 1)), (by first | rfl | (simp; done) | (simp [*]; done)), H', ⟨(by have := HK1.out; omega)⟩, ⟨Z25.z2⟩, ⟨(by (with_reducible repeat (first | apply Kd.S_alloc | apply Kd.S_drewN | apply Kd.S_drew)); exact HO115.out)⟩, ⟨Z25.z0⟩⟩
       rw [if_neg c11] at H
       exact absurd H (by simp)
      rw [if_neg c9] at H
      exact absurd H (by simp)
     rw [if_neg c8] at H
     exact absurd H (by simp)
    rw [if_neg c7] at H
    have c7b0 : decide (x15_1 < (y104.length : Int)) = false := decide_eq_false c7
    clear c7
    by_cases c15 : 0 < (t101.length : Int)
    ·rw [if_pos c15] at H
     have c15b0 : decide (0 < (t101.length : Int)) = true := decide_eq_true c15
     have c15b1 : decide (0 < t101.length) = true := decide_eq_true (by omega)
     clear c15
     simp only [Option.some.injEq, Prod.mk.injEq] at H
     obtain ⟨rfl, rfl⟩ := H
     have p116 : 0 ≤ (0 : Int) := (by omega)
     have q116 : 0 < (t101.length : Int) := of_decide_eq_true (by first | (with_reducible assumption) | assumption)
     obtain ⟨ad116, e116, hx116_0⟩ := Kd.at_string (Kd.R_reads' HO_4.out).2.2 0 p116 q116
     cases e116
     have qi116 : (0 < t101.length) = True := eq_true (by omega)
     (try rw [show ((0 : Int)).toNat = 0 from rfl] at hx116_0)
     (try rw [Addr.add_zero'] at hx116_0)
     replace p116 := eq_true p116
     replace q116 := eq_true q116
     go_wp2
     go_ret2
     exact ⟨_, (by first | rfl | (simp [errW_none, errW_some] <;> rfl) | (simp [*, errW_none, errW_some] <;> rfl)), Z25.z1, Z25.z0⟩
    rw [if_neg c15] at H
    exact absurd H (by simp)
 rw [if_neg c3] at H
 exact absurd H (by simp)
end Go.Proofs.YtkndhjchlnepmaaGreatDoor.F
end
