-- Texts of this claim, merged by pack.py (a program of this session's).
import Derived.Test.YthnijchgjfmgaaaQFnExactStackRows0
import Derived.Test.YthnijchgjfmgaaaQFnExactStackRows7
import Derived.KernelRfl
import Derived.Test.YthnijchgjfmgaaaQFnExactStackRows4
import Derived.Test.YthnijchgjfmgaaaQFnExactStackRows1
import Derived.Test.YthnijchgjfmgaaaQFnExactStackRows3
import Derived.Test.YthnijchgjfmgaaaQFnExactStackRows2
import Derived.Test.YthnijchgjfmgaaaQFnExactStackRows6
import Derived.Test.YthnijchgjfmgaaaQFnExactStackRows5
import Derived.Test.YthnijchgjfmgaaaRows
import Derived.WalkKit
import Derived.ProofKit
import Derived.OpenShut
import Derived.ShutString
import Derived.ChangeOld
import Derived.Below
import Derived.SizedLaws
import Derived.Lib.SmallJoins
import Derived.Test.YthnijchgjfmgaaaWSized

section
namespace Go.Proofs.Ythnijchgjfmgaaa.F
open Go.RowKit Go.Proofs.YthnijchgjfmgaaaW.PrintWords Go.Proofs.YthnijchgjfmgaaaW.PrintLast Go.Proofs.YthnijchgjfmgaaaW.PrintMore
attribute [local go_sem] max2_int min2_int max_two min_two max_three min_three max_four min_four   -- for this text's walks alone
set_option linter.unusedVariables false
set_option linter.unusedSimpArgs false

/-! ### impl_Matrix_row: function 56: ours -/
/-- What a row of a matrix and a list make (the row is cut out of the matrix). -/
def impl_Matrix_row.f (k : Nat) (p r c : Int) (l : List Int) (i : Int) (v : List Int) (q : Int) : Option Int :=
  if 0 ≤ wrap64 (i * c) then (if wrap64 (i * c) ≤ wrap64 (wrap64 (i + 1) * c) then (if wrap64 (wrap64 (i + 1) * c) ≤ (l.length : Int) then impl_dot.f k ((l.take (wrap64 (wrap64 (i + 1) * c)).toNat).drop (wrap64 (i * c)).toNat) v q else none) else none) else none
theorem impl_Matrix_row.mono : ∀ p r c l i v q k, LeO (impl_Matrix_row.f k p r c l i v q) (impl_Matrix_row.f (k + 1) p r c l i v q) := by
  intro p r c l i v q k
  unfold impl_Matrix_row.f
  refine LeO.ite (LeO.ite (LeO.ite (impl_dot.mono _ _ _ _) (LeO.refl _)) (LeO.refl _)) (LeO.refl _)
set_option maxHeartbeats 4000000 in
set_option maxRecDepth 100000 in
theorem impl_Matrix_row.calls (p r c : Int) (A : Option Addr) (cap : Nat) (l : List Int) (i : Int) (w : World) (hr : Kd.C (Kd.int .i64) w A l.length l) (hc : l.length ≤ cap)
  (h0 : 0 ≤ wrap64 (i * c)) (h1 : wrap64 (i * c) ≤ wrap64 (wrap64 (i + 1) * c)) (h2 : wrap64 (wrap64 (i + 1) * c) ≤ (l.length : Int)) :
  Calls Try.prog 56 #[.agg #[.int .i64 p, .int .i64 r, .int .i64 c, .slice A l.length cap], .int .i64 i] w fun e w' => ∃ A' c', e = .returned (.slice A' ((l.take (wrap64 (wrap64 (i + 1) * c)).toNat).drop (wrap64 (i * c)).toNat).length c') ∧
   Kd.C (Kd.int .i64) w' A' ((l.take (wrap64 (wrap64 (i + 1) * c)).toNat).drop (wrap64 (i * c)).toNat).length ((l.take (wrap64 (wrap64 (i + 1) * c)).toNat).drop (wrap64 (i * c)).toNat) ∧ ((l.take (wrap64 (wrap64 (i + 1) * c)).toNat).drop (wrap64 (i * c)).toNat).length ≤ c' ∧ Below w.heap.size w w' := by
 have hu28 := Try.underlying28
 obtain ⟨lo, hlo⟩ : ∃ j_ : Int, wrap64 (i * c) = j_ := ⟨_, rfl⟩
 obtain ⟨i1, hi1⟩ : ∃ j_ : Int, wrap64 (i + 1) = j_ := ⟨_, rfl⟩
 obtain ⟨hi, hhi⟩ : ∃ j_ : Int, wrap64 (i1 * c) = j_ := ⟨_, rfl⟩
 rw [hlo] at h0
 rw [hlo, hi1, hhi] at h1
 rw [hi1, hhi] at h2
 rw [hlo, hi1, hhi]
 have hlow : IntKind.i64.wrap (i * c) = lo := (i64_w _).trans hlo
 have hi1w : IntKind.i64.wrap (i + 1) = i1 := (i64_w _).trans hi1
 have hhiw : IntKind.i64.wrap (i1 * c) = hi := (i64_w _).trans hhi
 obtain ⟨i033, hi033, _, hsz33, _⟩ := info_parts info2
 obtain ⟨A33, hcut33, hA33, hC33⟩ := print_mid_of (P := Try.prog) (Value.int .i64) 0 22 2 .i64 .i64 Try.underlying22 hi033 hsz33 A cap l lo hi h0 h1 h2 hc
 have HR := Aside0.mk (Kd.C_of_reads (h1 := fun _ => rfl) (hA33 _ (Kd.reads_of_C hr)) : Kd.C (Kd.int .i64) w A33 ((l.take hi.toNat).drop lo.toNat).length ((l.take hi.toNat).drop lo.toNat))
 have HL := Aside0.mk hC33
 clear hA33 hC33 hi033 hsz33 h0 h1 h2 hr hc hlo hi1 hhi
 generalize (l.take hi.toNat).drop lo.toNat = z at HR HL hcut33 ⊢
 go_enter Try.func56, Try.ntmps56
 go_wp2_with (first | ((with_reducible refine gate_dst (N := 2) rfl ?_); refine box_event ?hg (N := 2) ?hd (cs := #[.int .i64 p, .int .i64 r, .int .i64 c, .slice A l.length cap]) (t := 28) ?hr ?_; (case hd => rfl); (case hg => rfl); (case hr => first | (go_simp; done) | (go_simp; rfl)); intro gb hg w1 hbox hb; have hcz_0 : w1.cell? ⟨gb, 0, none⟩ = some (.int .i64 p) := (blk_cell hbox 0).trans rfl; have hcz_1 : w1.cell? ⟨gb, 1, none⟩ = some (.int .i64 r) := (blk_cell hbox 1).trans rfl; have hcz_2 : w1.cell? ⟨gb, 2, none⟩ = some (.int .i64 c) := (blk_cell hbox 2).trans rfl; have hcz_3 : w1.cell? ⟨gb, 3, none⟩ = some (.slice A l.length cap) := (blk_cell hbox 3).trans rfl; have HR1 := Aside0.mk (Kd.C_below HR.out hb); have HB1 := Aside0.mk hb; clear hb hbox hg))
 go_ret
 exact ⟨A33, _, rfl, HR1.out, HL.out, HB1.out⟩
theorem impl_Matrix_row.parts {k : Nat} {p r c : Int} {l : List Int} {i : Int} {v : List Int} {q t : Int} (h : impl_Matrix_row.f k p r c l i v q = some t) :
    0 ≤ wrap64 (i * c) ∧ wrap64 (i * c) ≤ wrap64 (wrap64 (i + 1) * c) ∧ wrap64 (wrap64 (i + 1) * c) ≤ (l.length : Int) ∧ impl_dot.f k ((l.take (wrap64 (wrap64 (i + 1) * c)).toNat).drop (wrap64 (i * c)).toNat) v q = some t := by
  unfold impl_Matrix_row.f at h
  by_cases h0 : 0 ≤ wrap64 (i * c)
  · rw [if_pos h0] at h
    by_cases h1 : wrap64 (i * c) ≤ wrap64 (wrap64 (i + 1) * c)
    · rw [if_pos h1] at h
      by_cases h2 : wrap64 (wrap64 (i + 1) * c) ≤ (l.length : Int)
      · rw [if_pos h2] at h
        exact ⟨h0, h1, h2, h⟩
      · rw [if_neg h2] at h; cases h
    · rw [if_neg h1] at h; cases h
  · rw [if_neg h0] at h; cases h


/-! ### impl_rowsOf: function 34 -/
def impl_rowsOf.l0 : Nat → List (List Int) → Int → Int → Int → Int → Int → List Int → Option ((List (List Int)))
  | 0, _, _, _, _, _, _, _ => none
  | k + 1, x3, x6, x7, x102000, x102001, x102002, x102003 => if x7 < x6 then ((slices_Clone_int64_int64.f x102000 x102001 x102002 x102003 x7).bind fun t102 => (if x3.length < 5864062014805 then (impl_rowsOf.l0 k (x3 ++ [t102]) x6 (wrap64 (x7 + 1)) x102000 x102001 x102002 x102003) else (none))) else (some x3)
def impl_rowsOf.f (k : Nat) (a0_0 : Int) (a0_1 : Int) (a0_2 : Int) (l0_3 : List Int) : Option ((List (List Int))) := impl_rowsOf.l0 k ([] : List (List Int)) a0_1 0 a0_0 a0_1 a0_2 l0_3
theorem impl_rowsOf.mono_l : ∀ k, (∀ y0 y1 y2 y3 y4 y5 y6, LeO (impl_rowsOf.l0 k y0 y1 y2 y3 y4 y5 y6) (impl_rowsOf.l0 (k + 1) y0 y1 y2 y3 y4 y5 y6))
  | 0 => fun _ _ _ _ _ _ _ r h => by simp [impl_rowsOf.l0] at h
  | k + 1 => by
    have ih0 := impl_rowsOf.mono_l k
    · intro y0 y1 y2 y3 y4 y5 y6
      unfold impl_rowsOf.l0
      repeat' first
      | (with_reducible exact ih0 _ _ _ _ _ _ _)
      | (with_reducible exact LeO.refl _)
      | (with_reducible exact LeO.none _)
      | (with_reducible refine LeO.ite ?_ ?_)
      | (with_reducible refine LeO.bind ?_ (fun _ => ?_))
      | exact ih0 _ _ _ _ _ _ _
      | exact LeO.none _
      | refine LeO.ite ?_ ?_
      | refine LeO.bind ?_ (fun _ => ?_)
theorem impl_rowsOf.mono : ∀ a0 a1 a2 a3 k, LeO (impl_rowsOf.f k a0 a1 a2 a3) (impl_rowsOf.f (k + 1) a0 a1 a2 a3) := by
  intro a0 a1 a2 a3 k
  have ih0 := impl_rowsOf.mono_l k
  unfold impl_rowsOf.f
  repeat' first
      | (with_reducible exact ih0 _ _ _ _ _ _ _)
      | (with_reducible exact LeO.refl _)
      | (with_reducible exact LeO.none _)
      | (with_reducible refine LeO.ite ?_ ?_)
      | (with_reducible refine LeO.bind ?_ (fun _ => ?_))
      | exact ih0 _ _ _ _ _ _ _
      | exact LeO.none _
      | refine LeO.ite ?_ ?_
      | refine LeO.bind ?_ (fun _ => ?_)
theorem Z34.bb {w0 w w1 : World} {g : Nat} {o : Obj} (_B : Aside0 (w0.heap[g]? = some o)) (h : w.heap[g]? = some o) (hb : Below w.heap.size w w1) : w1.heap[g]? = some o := blk_below h hb
theorem Z34.bl {w0 w : World} {g : Nat} {o : Obj} (_B : Aside0 (w0.heap[g]? = some o)) (h : w.heap[g]? = some o) : g < w.heap.size := blk_lt h
theorem Z34.z4 {P : Prop} (h : P := by (try simp only [List.map_toArray, List.map_cons, List.map_nil]); first | done | rfl | (simp only [List.length_drop, List.length_take]; rfl)) : P := h
theorem Z34.z3 {P : Prop} (h : P := by (with_reducible repeat (first | apply Kd.S_alloc | apply Kd.S_drewN | apply Kd.S_drew)); exact HO_3.out) : P := h
theorem Z34.z2 {P : Prop} (h : P := by repeat (first | (with_reducible first | exact HB.out | apply below_alloc | apply pw_below_drewN | apply below_drew1) | exact HB.out)) : P := h
theorem Z34.z1 {P : Prop} (h : P := by (with_reducible repeat (first | refine blk_drewN ?_ _ | refine blk_drew ?_ | refine blk_alloc ?_ _)); exact BK101.out) : P := h
theorem Z34.z0 {P : Prop} (h : P := by repeat (first | (with_reducible first | exact HB.out | apply below_alloc | apply pw_below_drewN | apply below_drew1 | refine below_set ?_ GE101.out) | exact HB.out)) : P := h
set_option maxHeartbeats 8000000 in
set_option maxRecDepth 100000 in
theorem impl_rowsOf.calls (k : Nat) (a0_0 : Int) (a0_1 : Int) (a0_2 : Int) (A0_3 : Option Addr) (c0_3 : Nat) (l0_3 : List Int) (r : List (List Int)) (w : World) (hr0_3 : Kd.C (Kd.int .i64) w A0_3 l0_3.length l0_3) (hc0_3 : l0_3.length ≤ c0_3) (h : impl_rowsOf.f k a0_0 a0_1 a0_2 l0_3 = some r) :
  Calls Try.prog 34 #[.agg #[.int .i64 a0_0, .int .i64 a0_1, .int .i64 a0_2, .slice A0_3 l0_3.length c0_3]] w fun e w' => ∃ v0_ : Value, e = .returned (v0_) ∧ Kd.S (Kd.slice 2 (Kd.int .i64)) 22 w' w.heap.size (fun _ => True) v0_ r ∧ Below w.heap.size w w' := by
 have hu28 := Try.underlying28
 have HR0_3 := Aside0.mk hr0_3
 have HC0_3 := Aside0.mk hc0_3
 clear hr0_3 hc0_3
 have HB := Aside0.mk (Below.refl w.heap.size w)
 have H : (impl_rowsOf.l0 k ([] : List (List Int)) a0_1 0 a0_0 a0_1 a0_2 l0_3) = some r := h
 clear h
 have H' := Aside0.mk H
 clear H
 go_enter Try.func34, Try.ntmps34
 go_wp2_with (first | ((with_reducible refine gate_dst (N := 1) rfl ?_); refine box_event ?hg (N := 1) ?hd (cs := #[.int .i64 a0_0, .int .i64 a0_1, .int .i64 a0_2, .slice A0_3 l0_3.length c0_3]) (t := 28) ?hr ?_; (case hd => rfl); (case hg => rfl); (case hr => first | (go_simp; done) | (go_simp; rfl)); intro gb101 hg w2 hbox hb; have n0_ := Aside0.mk (below_step Z34.z2 hb); have n1_ := Aside0.mk (hbox); have n2_ := Aside0.mk (show w.heap.size ≤ gb101 from (by rw [hg]; exact (below_size Z34.z2))); have n3_ := Aside0.mk (show w.heap.size ≤ gb101 from (by rw [hg]; exact (below_size Z34.z2))); clear HB; have HB := n0_; have BK101 := n1_; have GW101 := n2_; have GE101 := n3_; clear n0_ n1_ n2_ n3_; clear hb hbox hg; have hcz3_0 : w2.cell? ⟨gb101, 0, none⟩ = some (.int .i64 a0_0) := (blk_cell BK101.out 0).trans rfl; have hcz3_1 : w2.cell? ⟨gb101, 1, none⟩ = some (.int .i64 a0_1) := (blk_cell BK101.out 1).trans rfl; have hcz3_2 : w2.cell? ⟨gb101, 2, none⟩ = some (.int .i64 a0_2) := (blk_cell BK101.out 2).trans rfl; have hcz3_3 : w2.cell? ⟨gb101, 3, none⟩ = some (.slice A0_3 l0_3.length c0_3) := (blk_cell BK101.out 3).trans rfl; have hfz3_0 := blk_frozen BK101.out 0; have hfz3_1 := blk_frozen BK101.out 1; have hfz3_2 := blk_frozen BK101.out 2; have hfz3_3 := blk_frozen BK101.out 3))
 go_loopg [3, 7] k (fun kq v3 v7 w' => ∃ (x3_1 : List (List Int)) (x7_1 : Int), v7 = .int .i64 x7_1 ∧ Aside0 (impl_rowsOf.l0 kq x3_1 a0_1 x7_1 a0_0 a0_1 a0_2 l0_3 = some r) ∧ Aside0 (kq ≤ k) ∧ Aside0 (Kd.S (Kd.slice 2 (Kd.int .i64)) 22 w' w.heap.size (fun _ => True) v3 x3_1) ∧ Aside0 (w'.heap[gb101]? = some (.cells #[.int .i64 a0_0, .int .i64 a0_1, .int .i64 a0_2, (.slice A0_3 l0_3.length c0_3)] 28 (0, 0))) ∧ Aside0 (Below w.heap.size w w'))
 case atStart => exact ⟨(([] : List (List Int))), (0), (by first | rfl | (simp; done) | (simp [*]; done)), H', ⟨Nat.le_refl _⟩, ⟨(by first | exact Kd.S_nil _ _ _ _ _ | exact Kd.N_nil _ _ _ _ _ | exact Kd.V_nil _ _ _ _ _ | exact Kd.Q_nil _ _ _ _ _ | exact Kd.R_nil _ _ _ _ _)⟩, ⟨Z34.z1⟩, ⟨Z34.z0⟩⟩
 case round =>
  clear H'
  try clear p2
  try clear c3
  try clear hcz3_0
  try clear hcz3_1
  try clear hcz3_2
  try clear hcz3_3
  try clear hfz3_0
  try clear hfz3_1
  try clear hfz3_2
  try clear hfz3_3
  obtain ⟨x3_1, x7_1, rfl, HA, HK1, HO_3, BK101, HB⟩ := hrel
  cases gk with
  | zero => exact absurd HA.out (by simp [impl_rowsOf.l0])
  | succ k1 =>
   have H := HA.out
   clear HA
   simp only [impl_rowsOf.l0] at H
   by_cases c4 : x7_1 < a0_1
   ·rw [if_pos c4] at H
    have c4b0 : decide (x7_1 < a0_1) = true := decide_eq_true c4
    clear c4
    replace H := Option.bind_eq_some_iff.mp H
    obtain ⟨t102, A50, H⟩ := H
    replace H : (if x3_1.length < 5864062014805 then (impl_rowsOf.l0 k1 (x3_1 ++ [t102]) a0_1 (wrap64 (x7_1 + 1)) a0_0 a0_1 a0_2 l0_3) else (none)) = some r := H
    have A5 := Aside0.mk A50
    clear A50
    by_cases c6 : x3_1.length < 5864062014805
    ·rw [if_pos c6] at H
     have LMc6 := Aside0.mk c6
     clear c6
     obtain ⟨y105, hy105⟩ : ∃ y_ : List (List Int), y_ = (x3_1 ++ [t102]) := ⟨_, rfl⟩
     replace H : (impl_rowsOf.l0 k1 y105 a0_1 (wrap64 (x7_1 + 1)) a0_0 a0_1 a0_2 l0_3) = some r := by first | (rw [hy105]; with_reducible exact H) | (have H2_ := (Option.bind_some _ _).symm.trans H; rw [hy105]; with_reducible exact H2_) | (have H2_ := (Option.bind_some _ _).symm.trans H; with_reducible exact H2_) | with_reducible exact H | (rw [hy105]; exact H) | exact H
     have Ny105 := Aside0.mk hy105
     clear hy105
     have H' := Aside0.mk H
     clear H
     have hcz7_0 : wr.cell? ⟨gb101, 0, none⟩ = some (.int .i64 a0_0) := (blk_cell BK101.out 0).trans rfl
     have hcz7_1 : wr.cell? ⟨gb101, 1, none⟩ = some (.int .i64 a0_1) := (blk_cell BK101.out 1).trans rfl
     have hcz7_2 : wr.cell? ⟨gb101, 2, none⟩ = some (.int .i64 a0_2) := (blk_cell BK101.out 2).trans rfl
     have hcz7_3 : wr.cell? ⟨gb101, 3, none⟩ = some (.slice A0_3 l0_3.length c0_3) := (blk_cell BK101.out 3).trans rfl
     have hfz7_0 := blk_frozen BK101.out 0
     have hfz7_1 := blk_frozen BK101.out 1
     have hfz7_2 := blk_frozen BK101.out 2
     have hfz7_3 := blk_frozen BK101.out 3
     have AP := Aside0.mk (slices_Clone_int64_int64.parts A5.out)
     go_wp2_with (first | ((with_reducible refine gate_callee (f := 56) rfl ?_); refine goesL_ (some 13) rfl rfl Try.func56 (by kernel_rfl) rfl #[.agg #[.int .i64 a0_0, .int .i64 a0_1, .int .i64 a0_2, .slice A0_3 l0_3.length c0_3], .int .i64 x7_1] rfl Z34.z4 ?_; (with_reducible refine (impl_Matrix_row.calls a0_0 a0_1 a0_2 _ _ l0_3 x7_1 _ ?side1 ?side2 AP.out.1 AP.out.2.1 AP.out.2.2.1).mono ?_); (case side1 => exact (by repeat (first | exact (Kd.C_below HR0_3.out HB.out) | (with_reducible refine Kd.C_alloc ?_ _) | (with_reducible refine Kd.C_drewN ?_ _) | (with_reducible refine Kd.C_drew ?_)))); (case side2 => exact HC0_3.out); rintro e w8a ⟨Ar, cr, rfl, HRr, HLr, hb⟩; rw [AP.out.2.2.2.1] at HRr HLr ⊢; have HRr := Aside0.mk HRr; have HLr := Aside0.mk HLr; refine ⟨_, rfl, ?_⟩; have n0_ := Aside0.mk (Kd.S_below Z34.z3 hb); have n1_ := Aside0.mk (Z34.bb BK101 Z34.z1 hb); have n2_ := Aside0.mk (below_step Z34.z0 hb); clear HO_3 BK101 HB; have HO_3 := n0_; have BK101 := n1_; have HB := n2_; clear n0_ n1_ n2_; clear hb) | ((with_reducible refine gate_callee (f := 55) rfl ?_); refine goesL_ (some 14) rfl rfl Try.func55 (by kernel_rfl) rfl #[.slice Ar _ cr] rfl Z34.z4 ?_; (with_reducible refine (slices_Clone_int64_int64.calls Ar cr t102 _ ?side1 ?side2 AP.out.2.2.2.2).mono ?_); (case side1 => exact (by repeat (first | exact HRr.out | (with_reducible refine Kd.C_alloc ?_ _) | (with_reducible refine Kd.C_drewN ?_ _) | (with_reducible refine Kd.C_drew ?_)))); (case side2 => exact HLr.out); rintro e w8 ⟨v103, rfl, ho0, hb⟩; refine ⟨_, rfl, ?_⟩; have n0_ := Aside0.mk (Kd.S_elder' Z34.z3 (Kd.R_base ho0) hb); have n1_ := Aside0.mk (Kd.R_lower ho0 (below_size Z34.z0)); have n2_ := Aside0.mk (Z34.bb BK101 Z34.z1 hb); have n3_ := Aside0.mk (below_step Z34.z0 hb); clear HO_3 BK101 HB; have HO_3 := n0_; have HO104 := n1_; have BK101 := n2_; have HB := n3_; clear n0_ n1_ n2_ n3_; (try clear hb); (try clear hb2); (try clear hk); (try clear hi); (try clear ho0); obtain ⟨Ao10, co10, eo10⟩ := Kd.R_slice HO104.out; subst eo10) | ((with_reducible refine gate_builtin (b := .append) (xs := #[.tmp 10, .tmp 15]) rfl ?_); at_builtin; refine Kd.S_append (Kd.slice 2 (Kd.int .i64)) (w0 := w) w.heap.size rfl (.tmp 10) (.tmp 15) 49 22 (.slice none 0 0) 24 rfl Try.underlying49 info22 rfl (by decide) (by omega) u3 x3_1 t102 [.slice Ao10 t102.length co10] (fun _ => True) (fun k_ => some k_ = (.slice Ao10 t102.length co10 : Value).ownBlock) rfl rfl ?aP (fun k_ hk_ => ((Kd.R_mono (ok' := fun k_ => ((fun _ => True)) k_ ∧ some k_ ≠ (u3 : Value).ownBlock) (Kd.R_apart' (HO104.out) (Kd.S_typed HO_3.out) (by decide)) (fun k_ hk => ⟨trivial, hk.2⟩))).1 k_ hk_.symm) ?aF ?aO ?aB ?aS ?aL ?_; (case aP => exact Kd.M_row (Kd.R_mono (Kd.R_tight rfl (Kd.R_mono (ok' := fun k_ => ((fun _ => True)) k_ ∧ some k_ ≠ (u3 : Value).ownBlock) (Kd.R_apart' (HO104.out) (Kd.S_typed HO_3.out) (by decide)) (fun k_ hk => ⟨trivial, hk.2⟩))) (fun _ h_ => h_))); (case aB => exact Z34.z0); (case aF => exact (fun _ _ => trivial)); (case aO => exact (by (with_reducible repeat (first | apply Kd.S_alloc | apply Kd.S_drewN | apply Kd.S_drew)); exact Kd.S_mono HO_3.out (fun k_ hk => ⟨trivial, fun e_ => hk.2 e_⟩))); (case aS => exact (below_size Z34.z0)); (case aL => have := LMc6.out; omega); intro v106 w9 ho hb hg hat; rw [← Ny105.out] at ho; have n0_ := Aside0.mk (blk_grown (g := gb101) (o := .cells #[.int .i64 a0_0, .int .i64 a0_1, .int .i64 a0_2, .slice A0_3 l0_3.length c0_3] 28 (0, 0)) Z34.z1 hg (Kd.S_ne HO_3.out BK101.out (by decide))); have n1_ := Aside0.mk (hb); have n2_ := Aside0.mk (ho); clear BK101 HB HO_3 HO104; have BK101 := n0_; have HB := n1_; have HO107 := n2_; clear n0_ n1_ n2_; clear ho hb hg hat))
     go_roundg k1
     case measure => have := HK1.out; omega
     case rel => exact ⟨(y105), (wrap64 (x7_1 + 1)), (by first | rfl | (simp; done) | (simp [*]; done)), H', ⟨(by have := HK1.out; omega)⟩, ⟨(by (with_reducible repeat (first | apply Kd.S_alloc | apply Kd.S_drewN | apply Kd.S_drew)); exact HO107.out)⟩, ⟨Z34.z1⟩, ⟨Z34.z0⟩⟩
    rw [if_neg c6] at H
    exact absurd H (by simp)
   rw [if_neg c4] at H
   have c4b0 : decide (x7_1 < a0_1) = false := decide_eq_false c4
   clear c4
   obtain rfl := Option.some.inj H
   go_wp2
   go_ret
   exact ⟨_, (by first | rfl | (simp [errW_none, errW_some] <;> rfl) | (simp [*, errW_none, errW_some] <;> rfl)), Z34.z3, Z34.z0⟩

end Go.Proofs.Ythnijchgjfmgaaa.F
end

section
set_option linter.unusedVariables false
set_option linter.unusedSimpArgs false
set_option linter.unusedSectionVars false
namespace Go.Proofs.Ythnijchgjfmgaaa.F
open Go.RowKit Go.Proofs.YthnijchgjfmgaaaW.PrintWords Go.Proofs.YthnijchgjfmgaaaW.PrintLast Go.Proofs.Ythnijchgjfmgaaa.Lin

theorem slice_row {l : List Int} {r c i : Nat} (hl : l.length = r * c) (hi : i < r) : (l.take ((i + 1) * c)).drop (i * c) = (List.range c).map (fun j => l.getD (i * c + j) 0) := by
  have h1 : (i + 1) * c ≤ r * c := Nat.mul_le_mul_right _ hi
  have h2 := Nat.succ_mul i c
  have h4 : ((l.take ((i + 1) * c)).drop (i * c)).length = c := by
    rw [List.length_drop, List.length_take, Nat.min_eq_left (by rw [hl]; exact h1), h2, Nat.add_sub_cancel_left]
  refine List.ext_getElem (by rw [h4]; simp) (fun j hj hj' => ?_)
  have hj2 : j < c := by rw [h4] at hj; exact hj
  have h3 := at_lt hi hj2
  rw [List.getElem_drop, List.getElem_take, List.getElem_map, List.getElem_range, List.getD_eq_getElem?_getD, List.getElem?_eq_getElem (by omega)]
  rfl
end Go.Proofs.Ythnijchgjfmgaaa.F
end

section
set_option linter.unusedVariables false
set_option linter.unusedSimpArgs false
set_option linter.unusedSectionVars false
namespace Go.Proofs.Ythnijchgjfmgaaa.Lin

/-- The inverse of a number that is not 0. -/
def pinv (p a : Int) : Int := a ^ (p - 2).toNat % p
theorem pinv_range {p a : Int} (hp : isP p = true) : 0 ≤ pinv p a ∧ pinv p a < p := by
  have hp2 := isP_ge hp
  exact ⟨Int.emod_nonneg _ (by omega), Int.emod_lt_of_pos _ (by omega)⟩

/-! ### Rows as lists -/
/-- A row of n numbers modulo p. -/
def RowOk (p : Int) (n : Nat) (r : List Int) : Prop := r.length = n ∧ ∀ x, x ∈ r → 0 ≤ x ∧ x < p
def RowsOk (p : Int) (n : Nat) (rows : List (List Int)) : Prop := ∀ r, r ∈ rows → RowOk p n r
def cell (rows : List (List Int)) (i j : Nat) : Int := (rows.getD i []).getD j 0
theorem RowsOk.cell {p : Int} {n : Nat} {rows : List (List Int)} (h : RowsOk p n rows) (hp : 0 < p) (i j : Nat) : 0 ≤ cell rows i j ∧ cell rows i j < p := by
  unfold Lin.cell
  rw [List.getD_eq_getElem?_getD, List.getD_eq_getElem?_getD]
  by_cases hi : i < rows.length
  · rw [List.getElem?_eq_getElem hi]
    simp only [Option.getD_some]
    by_cases hj : j < (rows[i]).length
    · rw [List.getElem?_eq_getElem hj]
      exact (h _ (List.getElem_mem hi)).2 _ (List.getElem_mem hj)
    · rw [List.getElem?_eq_none (by omega)]; exact ⟨Int.le_refl 0, hp⟩
  · rw [List.getElem?_eq_none (show rows.length ≤ i by omega)]; simp; omega

/-- The rows below the first ones: where is the first number at c that is not 0? -/
def findPivot (rows : List (List Int)) (top c : Nat) : Option Nat := (rows.drop top).findIdx? (fun r => decide (r.getD c 0 ≠ 0))
def swapRows (rows : List (List Int)) (a b : Nat) : List (List Int) := (rows.set a (rows.getD b [])).set b (rows.getD a [])
def clearRow (p : Int) (c : Nat) (q r : List Int) : List Int := if r.getD c 0 = 0 then r else addRow p r q (p - r.getD c 0)
def clearAll (p : Int) (c top : Nat) (q : List Int) (rows : List (List Int)) : List (List Int) := rows.mapIdx (fun i r => if i = top then r else clearRow p c q r)
/-- A column of the elimination: rows, pivots, determinant. -/
def elimStep (p : Int) (s : List (List Int) × List Int × Int) (c : Nat) : List (List Int) × List Int × Int :=
  match findPivot s.1 s.2.1.length c with
  | none => (s.1, s.2.1, 0)
  | some k =>
    let top := s.2.1.length
    let rows := if k = 0 then s.1 else swapRows s.1 top (top + k)
    let lead := cell rows top c
    let q := (rows.getD top []).map (fun x => pinv p lead * x % p)
    (clearAll p c top q (rows.set top q), s.2.1 ++ [(c : Int)], (if k = 0 then s.2.2 else -s.2.2 % p) * lead % p)
def elimTo (p : Int) (rows : List (List Int)) (c : Nat) : List (List Int) × List Int × Int := (List.range c).foldl (elimStep p) (rows, [], 1)
theorem elimTo_succ (p : Int) (rows : List (List Int)) (c : Nat) : elimTo p rows (c + 1) = elimStep p (elimTo p rows c) c := by
  unfold elimTo; rw [List.range_succ, List.foldl_append]; rfl
/-- The reduced rows, the pivots, the determinant. -/
def elim (p : Int) (n : Nat) (rows : List (List Int)) : List (List Int) × List Int × Int := elimTo p rows n

theorem swapRows_length (rows : List (List Int)) (a b : Nat) : (swapRows rows a b).length = rows.length := by unfold swapRows; simp
theorem clearAll_length (p : Int) (c top : Nat) (q : List Int) (rows : List (List Int)) : (clearAll p c top q rows).length = rows.length := by unfold clearAll; simp
theorem swapRows_get (rows : List (List Int)) {a b : Nat} (ha : a < rows.length) (hb : b < rows.length) (i : Nat) : (swapRows rows a b).getD i [] = if i = b then rows.getD a [] else if i = a then rows.getD b [] else rows.getD i [] := by
  unfold swapRows
  simp only [List.getD_eq_getElem?_getD, List.getElem?_set, List.length_set]
  by_cases h1 : b = i
  · subst h1; simp [hb]
  · by_cases h2 : a = i
    · subst h2; simp [h1, ha, Ne.symm h1]
    · simp [h1, h2, Ne.symm h1, Ne.symm h2]
theorem getD_mem {α : Type} {l : List α} {i : Nat} {d : α} (h : i < l.length) : l.getD i d ∈ l := by
  rw [List.getD_eq_getElem?_getD, List.getElem?_eq_getElem h]; exact List.getElem_mem h
theorem findPivot_some {rows : List (List Int)} {top c k : Nat} (h : findPivot rows top c = some k) : top + k < rows.length ∧ cell rows (top + k) c ≠ 0 := by
  unfold findPivot at h
  obtain ⟨hk, hp, _⟩ := List.findIdx?_eq_some_iff_getElem.mp h
  rw [List.length_drop] at hk
  refine ⟨by omega, ?_⟩
  rw [List.getElem_drop] at hp
  unfold cell
  rw [List.getD_eq_getElem?_getD (l := rows), List.getElem?_eq_getElem (show top + k < rows.length by omega)]
  simpa using hp
theorem findPivot_none {rows : List (List Int)} {top c : Nat} (h : findPivot rows top c = none) (i : Nat) (h1 : top ≤ i) (h2 : i < rows.length) : cell rows i c = 0 := by
  unfold findPivot at h
  have h3 := List.findIdx?_eq_none_iff.mp h (rows[i]) (by
    rw [List.mem_iff_getElem]
    exact ⟨i - top, by rw [List.length_drop]; omega, by rw [List.getElem_drop]; congr 1; omega⟩)
  unfold cell
  rw [List.getD_eq_getElem?_getD (l := rows), List.getElem?_eq_getElem h2]
  simpa using h3
theorem addRow_ok {p : Int} {n : Nat} {a b : List Int} (c : Int) (hp : 0 < p) (ha : a.length = n) (hb : b.length = n) : RowOk p n (addRow p a b c) := by
  refine ⟨by unfold addRow; simp [ha, hb], fun x hx => ?_⟩
  unfold addRow at hx
  rw [List.mem_iff_getElem] at hx
  obtain ⟨j, hj, rfl⟩ := hx
  rw [List.getElem_zipWith]
  exact ⟨Int.emod_nonneg _ (by omega), Int.emod_lt_of_pos _ hp⟩
theorem scale_ok {p : Int} {n : Nat} {a : List Int} (c : Int) (hp : 0 < p) (ha : a.length = n) : RowOk p n (a.map (fun x => c * x % p)) := by
  refine ⟨by simp [ha], fun x hx => ?_⟩
  obtain ⟨y, _, rfl⟩ := List.mem_map.mp hx
  exact ⟨Int.emod_nonneg _ (by omega), Int.emod_lt_of_pos _ hp⟩
theorem RowsOk.set {p : Int} {n : Nat} {rows : List (List Int)} (h : RowsOk p n rows) {r : List Int} (hr : RowOk p n r) (k : Nat) : RowsOk p n (rows.set k r) := fun x hx => by
  rcases List.mem_or_eq_of_mem_set hx with h1 | h1
  · exact h x h1
  · rw [h1]; exact hr
theorem RowsOk.swap {p : Int} {n : Nat} {rows : List (List Int)} (h : RowsOk p n rows) {a b : Nat} (ha : a < rows.length) (hb : b < rows.length) : RowsOk p n (swapRows rows a b) :=
  (h.set (h _ (getD_mem hb)) a).set (h _ (getD_mem ha)) b
theorem clearRow_ok {p : Int} {n : Nat} {q r : List Int} (c : Nat) (hp : 0 < p) (hq : q.length = n) (hr : RowOk p n r) : RowOk p n (clearRow p c q r) := by
  unfold clearRow
  split
  · exact hr
  · exact addRow_ok _ hp hr.1 hq
theorem RowsOk.clear {p : Int} {n : Nat} {rows : List (List Int)} (h : RowsOk p n rows) (hp : 0 < p) {q : List Int} (hq : q.length = n) (c top : Nat) : RowsOk p n (clearAll p c top q rows) := fun x hx => by
  unfold clearAll at hx
  obtain ⟨i, hi, rfl⟩ := List.mem_mapIdx.mp hx
  split
  · exact h _ (List.getElem_mem hi)
  · exact clearRow_ok c hp hq (h _ (List.getElem_mem hi))
theorem clearAll_get {p : Int} {c top : Nat} {q : List Int} {rows : List (List Int)} {i : Nat} (hi : i < rows.length) : (clearAll p c top q rows).getD i [] = if i = top then rows.getD i [] else clearRow p c q (rows.getD i []) := by
  unfold clearAll
  simp only [List.getD_eq_getElem?_getD, List.getElem?_mapIdx, List.getElem?_eq_getElem hi, Option.map_some, Option.getD_some]
theorem elimStep_none {p : Int} {c : Nat} {rows : List (List Int)} {piv : List Int} {d : Int} (h : findPivot rows piv.length c = none) : elimStep p (rows, piv, d) c = (rows, piv, 0) := by
  unfold elimStep
  dsimp only
  rw [h]
/-- What every step of the elimination keeps. -/
theorem elimTo_small {p : Int} {n : Nat} {rows : List (List Int)} (hp : isP p = true) (hok : RowsOk p n rows) (c : Nat) (hc : c ≤ n) :
    RowsOk p n (elimTo p rows c).1 ∧ (elimTo p rows c).1.length = rows.length ∧ (elimTo p rows c).2.1.length ≤ c ∧ (elimTo p rows c).2.1.length ≤ rows.length ∧ (0 ≤ (elimTo p rows c).2.2 ∧ (elimTo p rows c).2.2 < p) ∧ ((elimTo p rows c).2.1.length < c → (elimTo p rows c).2.2 = 0) := by
  have hp2 := isP_ge hp
  induction c with
  | zero => exact ⟨hok, rfl, Nat.le_refl _, Nat.zero_le _, ⟨by show (0:Int) ≤ 1; omega, by show (1:Int) < p; omega⟩, fun h => absurd h (Nat.not_lt_zero _)⟩
  | succ c ih =>
    obtain ⟨h1, h2, h3, h4, h5, h6⟩ := ih (by omega)
    rw [elimTo_succ]
    generalize elimTo p rows c = s at *
    obtain ⟨R, piv, d⟩ := s
    dsimp only at *
    cases hf : findPivot R piv.length c with
    | none =>
      rw [elimStep_none hf]
      exact ⟨h1, h2, Nat.le_succ_of_le h3, h4, ⟨Int.le_refl 0, by show (0:Int) < p; omega⟩, fun _ => rfl⟩
    | some k =>
      obtain ⟨b1, b2⟩ := findPivot_some hf
      have hst : elimStep p (R, piv, d) c = (clearAll p c piv.length (((if k = 0 then R else swapRows R piv.length (piv.length + k)).getD piv.length []).map (fun x => pinv p (cell (if k = 0 then R else swapRows R piv.length (piv.length + k)) piv.length c) * x % p)) ((if k = 0 then R else swapRows R piv.length (piv.length + k)).set piv.length (((if k = 0 then R else swapRows R piv.length (piv.length + k)).getD piv.length []).map (fun x => pinv p (cell (if k = 0 then R else swapRows R piv.length (piv.length + k)) piv.length c) * x % p))), piv ++ [(c : Int)], (if k = 0 then d else -d % p) * cell (if k = 0 then R else swapRows R piv.length (piv.length + k)) piv.length c % p) := by
        unfold elimStep; simp only [hf]
      rw [hst]
      have hW : RowsOk p n (if k = 0 then R else swapRows R piv.length (piv.length + k)) ∧ (if k = 0 then R else swapRows R piv.length (piv.length + k)).length = R.length := by
        by_cases e : k = 0
        · rw [if_pos e]; exact ⟨h1, rfl⟩
        · rw [if_neg e]; exact ⟨RowsOk.swap h1 (by omega) b1, swapRows_length _ _ _⟩
      have hz : (if k = 0 then d else -d % p) = 0 ∨ ¬ piv.length < c := by
        by_cases e : piv.length < c
        · left; rw [h6 e]; simp
        · exact .inr e
      generalize (if k = 0 then R else swapRows R piv.length (piv.length + k)) = W at hW ⊢
      generalize (if k = 0 then d else -d % p) = e at hz ⊢
      have okT : RowOk p n (W.getD piv.length []) := hW.1 _ (getD_mem (by omega))
      have hq : RowOk p n ((W.getD piv.length []).map (fun x => pinv p (cell W piv.length c) * x % p)) := scale_ok _ (by omega) okT.1
      refine ⟨RowsOk.clear (RowsOk.set hW.1 hq _) (by omega) hq.1 c _, ?_, ?_, ?_, ⟨Int.emod_nonneg _ (by omega), Int.emod_lt_of_pos _ (by omega)⟩, fun h => ?_⟩
      · rw [clearAll_length, List.length_set]; omega
      · simp; omega
      · simp; omega
      · rcases hz with hz | hz
        · show e * _ % p = 0
          rw [hz]; simp
        · exfalso; simp at h; omega
end Go.Proofs.Ythnijchgjfmgaaa.Lin
end

section
set_option linter.unusedVariables false
set_option linter.unusedSimpArgs false
set_option linter.unusedSectionVars false
namespace Go.Proofs.Ythnijchgjfmgaaa.F
open Go.RowKit Go.Proofs.YthnijchgjfmgaaaW.PrintWords Go.Proofs.YthnijchgjfmgaaaW.PrintLast Go.Proofs.Ythnijchgjfmgaaa.Lin

theorem rdL_nat (l : List (List Int)) (i : Nat) : rd_L1 l (i : Int) = l.getD i [] := by unfold rd_L1; rw [Int.toNat_natCast]
/-- The rows of a matrix. -/
def rowsM (R C : Nat) (l : List Int) : List (List Int) := (List.range R).map (fun i => (List.range C).map (fun j => l.getD (i * C + j) 0))
theorem rowsM_length (R C : Nat) (l : List Int) : (rowsM R C l).length = R := by unfold rowsM; simp
theorem rowsM_snoc (R C : Nat) (l : List Int) : rowsM R C l ++ [(List.range C).map (fun j => l.getD (R * C + j) 0)] = rowsM (R + 1) C l := by
  unfold rowsM; rw [List.range_succ, List.map_append]; rfl
theorem rowsM_ok {p : Int} {R C : Nat} {l : List Int} (h : ∀ j, 0 ≤ l.getD j 0 ∧ l.getD j 0 < p) : RowsOk p C (rowsM R C l) := fun r hr => by
  unfold rowsM at hr
  obtain ⟨i, _, rfl⟩ := List.mem_map.mp hr
  refine ⟨by simp, fun x hx => ?_⟩
  obtain ⟨j, _, rfl⟩ := List.mem_map.mp hx
  exact h _
theorem rowsM_cell {R C i j : Nat} (l : List Int) (hi : i < R) (hj : j < C) : cell (rowsM R C l) i j = l.getD (i * C + j) 0 := by
  unfold cell rowsM
  simp [List.getD_eq_getElem?_getD, hi, hj]
theorem rowsM_tab {R C : Nat} {l : List Int} (hl : l.length = R * C) : tab R C (cell (rowsM R C l)) = l :=
  (tab_ext hl (fun i j hi hj => (rowsM_cell l hi hj).symm)).symm
theorem clone_tells {p r : Int} {R C : Nat} {l : List Int} (hR : R ≤ 64) (hC : C ≤ 70) (hl : l.length = R * C) {i : Nat} (hi : i < R) :
    slices_Clone_int64_int64.f p r C l i = some ((List.range C).map (fun j => l.getD (i * C + j) 0)) := by
  unfold slices_Clone_int64_int64.f
  have h1 : (i + 1) * C ≤ R * C := Nat.mul_le_mul_right _ hi
  have h2 : i * C ≤ (i + 1) * C := Nat.mul_le_mul_right _ (by omega)
  rw [w64_succ (n := 64) (i := i) (by omega) (by omega), w64_mulN (r := i) (by omega) (by omega), w64_mulN (r := i + 1) (by omega) (by omega), if_pos (idx0 _), if_pos (by omega), if_pos (by omega), Int.toNat_natCast, Int.toNat_natCast, slice_row hl hi]
  rw [if_pos (by simp; omega)]
theorem rowsOf_loop {p r : Int} {R C : Nat} {l : List Int} (hR : R ≤ 64) (hC : C ≤ 70) (hl : l.length = R * C) (d : Nat) : ∀ k i, R - i = d → i ≤ R → d < k → impl_rowsOf.l0 k (rowsM i C l) R i p r C l = some (rowsM R C l) := by
  induction d with
  | zero =>
    intro k i hd hi hk
    obtain ⟨k, rfl⟩ : ∃ m, k = m + 1 := ⟨k - 1, by omega⟩
    obtain rfl : i = R := by omega
    simp only [impl_rowsOf.l0]
    rw [if_neg (nlt_nat (Nat.le_refl _))]
  | succ d ih =>
    intro k i hd hi hk
    obtain ⟨k, rfl⟩ : ∃ m, k = m + 1 := ⟨k - 1, by omega⟩
    have hiR : i < R := by omega
    simp only [impl_rowsOf.l0]
    rw [if_pos (lt_nat hiR), clone_tells hR hC hl hiR, Option.bind_some, if_pos (by rw [rowsM_length]; omega), rowsM_snoc, w64_succ (n := 64) (by omega) (by omega)]
    exact ih k (i + 1) (by omega) (by omega) (by omega)
theorem rowsOf_tells {p : Int} {R C : Nat} {l : List Int} (hR : R ≤ 64) (hC : C ≤ 70) (hl : l.length = R * C) {k : Nat} (hk : R < k) : impl_rowsOf.f k p R C l = some (rowsM R C l) := by
  unfold impl_rowsOf.f
  exact rowsOf_loop hR hC hl R k 0 (by omega) (by omega) hk

theorem take_flatten_succ {α : Type} (rs : List (List α)) {i : Nat} (hi : i < rs.length) : (rs.take (i + 1)).flatten = (rs.take i).flatten ++ rs.getD i [] := by
  rw [List.take_add_one, List.getElem?_eq_getElem hi, List.flatten_append, getD_at hi]
  simp
theorem concat_size {rs : List (List Int)} (hr : rs.length ≤ 100) (hl : rs.flatten.length ≤ 100000) (d : Nat) : ∀ k i, rs.length - i = d → i ≤ rs.length → d < k →
    ∃ k', k = k' + d + 1 ∧ slices_Concat_int64_int64.l0 k rs ((rs.take i).flatten.length : Int) rs rs.length i = slices_Concat_int64_int64.l1 k' [] rs rs.length 0 := by
  have hle : ∀ i, (rs.take i).flatten.length ≤ rs.flatten.length := fun i => by
    have : rs.flatten = (rs.take i).flatten ++ (rs.drop i).flatten := by rw [← List.flatten_append, List.take_append_drop]
    rw [this, List.length_append]; omega
  induction d with
  | zero =>
    intro k i hd hi hk
    obtain ⟨k, rfl⟩ : ∃ m, k = m + 1 := ⟨k - 1, by omega⟩
    refine ⟨k, by omega, ?_⟩
    have h1 := hle i
    simp only [slices_Concat_int64_int64.l0]
    rw [if_neg (nlt_nat (by omega))]
    have g : slices_Grow_int64_int64.f [] ((rs.take i).flatten.length : Int) = some [] := by
      unfold slices_Grow_int64_int64.f
      rw [if_pos (show ([] : List Int).length = 0 from rfl), if_pos (by omega), if_pos (by omega)]
    rw [g, Option.bind_some]
  | succ d ih =>
    intro k i hd hi hk
    obtain ⟨k, rfl⟩ : ∃ m, k = m + 1 := ⟨k - 1, by omega⟩
    obtain ⟨k', e1, e2⟩ := ih k (i + 1) (by omega) (by omega) (by omega)
    refine ⟨k', by omega, ?_⟩
    have hiR : i < rs.length := by omega
    have h1 := hle (i + 1)
    rw [← e2, take_flatten_succ rs hiR, List.length_append]
    rw [take_flatten_succ rs hiR, List.length_append] at h1
    have e3 : ((rs.take i).flatten.length : Int) + ((rs.getD i []).length : Int) = (((rs.take i).flatten.length + (rs.getD i []).length : Nat) : Int) := by omega
    simp only [slices_Concat_int64_int64.l0]
    rw [if_pos (lt_nat hiR), if_pos (idx0 _), if_pos (lt_nat hiR), rdL_nat, e3, w64_idV (x := (((rs.take i).flatten.length + (rs.getD i []).length : Nat) : Int)) (by omega) (by omega), if_neg (by omega), w64_succ (n := 100) (by omega) (by omega)]
theorem concat_rows {rs : List (List Int)} (hr : rs.length ≤ 100) (hl : rs.flatten.length ≤ 100000) (d : Nat) : ∀ k i, rs.length - i = d → i ≤ rs.length → d < k →
    slices_Concat_int64_int64.l1 k (rs.take i).flatten rs rs.length i = some rs.flatten := by
  have hle : ∀ i, (rs.take i).flatten.length ≤ rs.flatten.length := fun i => by
    have : rs.flatten = (rs.take i).flatten ++ (rs.drop i).flatten := by rw [← List.flatten_append, List.take_append_drop]
    rw [this, List.length_append]; omega
  induction d with
  | zero =>
    intro k i hd hi hk
    obtain ⟨k, rfl⟩ : ∃ m, k = m + 1 := ⟨k - 1, by omega⟩
    simp only [slices_Concat_int64_int64.l1]
    rw [if_neg (nlt_nat (by omega)), List.take_of_length_le (by omega)]
  | succ d ih =>
    intro k i hd hi hk
    obtain ⟨k, rfl⟩ : ∃ m, k = m + 1 := ⟨k - 1, by omega⟩
    have hiR : i < rs.length := by omega
    have h1 := hle (i + 1)
    have e2 := ih k (i + 1) (by omega) (by omega) (by omega)
    rw [take_flatten_succ rs hiR] at h1 e2
    rw [List.length_append] at h1
    simp only [slices_Concat_int64_int64.l1]
    rw [if_pos (lt_nat hiR), if_pos (idx0 _), if_pos (lt_nat hiR), rdL_nat, if_pos (by omega), w64_succ (n := 100) (by omega) (by omega)]
    exact e2
theorem concat_tells {rs : List (List Int)} (hr : rs.length ≤ 100) (hl : rs.flatten.length ≤ 100000) {k : Nat} (hk : 300 ≤ k) : slices_Concat_int64_int64.f k rs = some rs.flatten := by
  unfold slices_Concat_int64_int64.f
  obtain ⟨k', e1, e2⟩ := concat_size hr hl rs.length k 0 (by omega) (by omega) (by omega)
  refine e2.trans ?_
  exact concat_rows hr hl rs.length k' 0 (by omega) (by omega) (by omega)
theorem tab_snoc (r c : Nat) (f : Nat → Nat → Int) : tab (r + 1) c f = tab r c f ++ (List.range c).map (f r) := by
  symm
  refine tab_ext (by rw [List.length_append, tab_length]; simp [Nat.succ_mul]) (fun i j hi hj => ?_)
  rw [List.getD_eq_getElem?_getD, List.getElem?_append, tab_length]
  by_cases h : i < r
  · have := at_lt h hj
    rw [if_pos this, ← List.getD_eq_getElem?_getD, tab_at f h hj]
  · obtain rfl : i = r := by omega
    rw [if_neg (by omega)]
    have e : i * c + j - i * c = j := by omega
    rw [e]
    simp [hj]
theorem flatten_tab {p : Int} {C : Nat} {rs : List (List Int)} (hok : RowsOk p C rs) (i : Nat) (hi : i ≤ rs.length) : (rs.take i).flatten = tab i C (cell rs) := by
  induction i with
  | zero => unfold tab; simp
  | succ i ih =>
    have hiR : i < rs.length := by omega
    rw [take_flatten_succ rs hiR, ih (by omega), tab_snoc]
    congr 1
    have h := (hok _ (getD_mem (d := []) hiR)).1
    refine ext_getD (by simpa using h) (fun j hj => ?_)
    rw [h] at hj
    show cell rs i j = _
    simp [List.getD_eq_getElem?_getD, hj]
theorem flatten_rows {p : Int} {C : Nat} {rs : List (List Int)} (hok : RowsOk p C rs) : rs.flatten = tab rs.length C (cell rs) := by
  have := flatten_tab hok rs.length (Nat.le_refl _)
  rwa [List.take_length] at this
theorem matrixOf_tells {p q : Int} {C : Nat} (c : Int) {rs : List (List Int)} (hok : RowsOk p C rs) (hr : rs.length ≤ 100) (hC : C ≤ 100) {k : Nat} (hk : 300 ≤ k) : impl_matrixOf.f k q c rs = some (q, (rs.length : Int), c, tab rs.length C (cell rs)) := by
  have hl : rs.flatten.length ≤ 100000 := by
    rw [flatten_rows hok, tab_length]
    have : rs.length * C ≤ 100 * 100 := Nat.mul_le_mul hr hC
    omega
  unfold impl_matrixOf.f
  show Option.bind (some (rs.length : Int)) _ = _
  rw [Option.bind_some, concat_tells hr hl hk, Option.bind_some, flatten_rows hok]

def stackOut (p r c : Int) (a : List Int) (p' r' c' : Int) (b : List Int) : Int × Int × Int × List Int × Int := if (matOk p r c a && matOk p' r' c' b) = true then if p = p' ∧ c = c' then if r + r' ≤ 32 then (p, r + r', c, a ++ b, 0) else (0, 0, 0, [], 5) else (0, 0, 0, [], 6) else (0, 0, 0, [], 1)
theorem spec_stackM (p r c p' r' c' : Int) {a b : List Int} (hl : a.length ≤ 1048576) (hl' : b.length ≤ 1048576) {k : Nat} (hk : a.length + b.length + 17000 ≤ k) : spec_StackRows.f k p r c a p' r' c' b = some (stackOut p r c a p' r' c' b) := by
  unfold spec_StackRows.f stackOut
  obtain ⟨k, rfl⟩ : ∃ m, k = m + 1 := ⟨k - 1, by omega⟩
  rw [both_tells p r c p' r' c' (by omega) (by omega) (by omega) (by omega)]
  cases h : (matOk p r c a && matOk p' r' c' b) with
  | false => simp
  | true =>
    rw [Bool.and_eq_true] at h
    obtain ⟨R, C, rfl, rfl, h1, h2, h3, hp, hx⟩ := dimsM h.1
    obtain ⟨R', C', rfl, rfl, h1', h2', h3', hp', hx'⟩ := dimsM h.2
    simp only [Option.bind_some, if_true, spec_StackRows.j0]
    have b1 : -9223372036854775808 ≤ (R : Int) + (R' : Int) := by omega
    have b2 : (R : Int) + (R' : Int) ≤ 9223372036854775807 := by omega
    have o : spec_l00Own.f a = some a := by
      unfold spec_l00Own.f
      simp only [Option.bind_some, List.nil_append, List.length_nil]
      rw [if_pos (by omega)]
    by_cases e1 : p = p'
    · subst e1
      by_cases e2 : (C : Int) = (C' : Int)
      · by_cases e3 : (R : Int) + (R' : Int) ≤ 32
        · have g : ¬ (R : Int) + (R' : Int) > 32 := by omega
          have g2 : a.length + b.length < 17592186044416 := by omega
          have w := w64_id b1 b2
          simp only [w, g, e2, bne_self_eq_false, Bool.false_eq_true, if_false, if_true, and_self, e3, o, Option.bind_some, g2]
        · have g : (R : Int) + (R' : Int) > 32 := by omega
          have w := w64_id b1 b2
          simp only [w, g, e2, bne_self_eq_false, Bool.false_eq_true, if_false, if_true, and_self, e3]
      · simp [e2]
    · simp [e1]
theorem impl_stackM (p r c p' r' c' : Int) {a b : List Int} {k : Nat} (hk : 18000 ≤ k) : impl_StackRows.f k p r c a p' r' c' b = some (stackOut p r c a p' r' c' b) := by
  unfold impl_StackRows.f stackOut
  obtain ⟨k, rfl⟩ : ∃ m, k = m + 1 + 1 := ⟨k - 2, by omega⟩
  rw [implOk_tells p r c (by omega), implOk_tells p' r' c' (by omega)]
  cases h : matOk p r c a with
  | false => simp [impl_StackRows.j0]
  | true =>
    cases h' : matOk p' r' c' b with
    | false => simp [impl_StackRows.j0]
    | true =>
      obtain ⟨R, C, rfl, rfl, h1, h2, h3, hp, hx⟩ := dimsM h
      obtain ⟨R', C', rfl, rfl, h1', h2', h3', hp', hx'⟩ := dimsM h'
      simp only [Option.bind_some, if_true, impl_StackRows.j0, Bool.not_true, Bool.false_eq_true, if_false, Bool.and_self]
      have b1 : -9223372036854775808 ≤ (R : Int) + (R' : Int) := by omega
      have b2 : (R : Int) + (R' : Int) ≤ 9223372036854775807 := by omega
      have m1 := side_mul (r := R) (c := C) (by omega) (by omega)
      have m2 := side_mul (r := R') (c := C') (by omega) (by omega)
      have cc : slices_Concat_int64_int64.f k [a, b] = some (a ++ b) := by
        have hf : ([a, b] : List (List Int)).flatten = a ++ b := by simp
        have := concat_tells (rs := [a, b]) (by simp) (by rw [hf, List.length_append]; omega) (k := k) (by omega)
        rwa [hf] at this
      by_cases e1 : p = p'
      · subst e1
        by_cases e2 : (C : Int) = (C' : Int)
        · rw [e2]
          simp only [bne_self_eq_false, impl_StackRows.j1, Bool.false_eq_true, if_false, if_true, and_self, w64_id b1 b2, side_tells, Option.bind_some]
          by_cases e3 : (R : Int) + (R' : Int) ≤ 32
          · have g : 0 ≤ (R : Int) + (R' : Int) ∧ (R : Int) + (R' : Int) ≤ 32 := by omega
            simp only [g, and_self, decide_true, if_true, cc, Option.bind_some]
          · have g : ¬ (0 ≤ (R : Int) + (R' : Int) ∧ (R : Int) + (R' : Int) ≤ 32) := by omega
            simp only [decide_eq_false g, Bool.false_eq_true, if_false, if_neg e3]
        · simp [e2, impl_StackRows.j1]
      · simp [e1, impl_StackRows.j1]
theorem stackOut_length (p r c p' r' c' : Int) (a b : List Int) : (stackOut p r c a p' r' c' b).2.2.2.1.length ≤ 32768 := by
  unfold stackOut
  split
  · rename_i h
    rw [Bool.and_eq_true] at h
    obtain ⟨R, C, rfl, rfl, h1, h2, h3, hp, hx⟩ := dimsM h.1
    obtain ⟨R', C', rfl, rfl, h1', h2', h3', hp', hx'⟩ := dimsM h.2
    have m1 := side_mul (r := R) (c := C) (by omega) (by omega)
    have m2 := side_mul (r := R') (c := C') (by omega) (by omega)
    split
    · split
      · simp only [List.length_append]; omega
      · simp
    · simp
  · simp
end Go.Proofs.Ythnijchgjfmgaaa.F
end

section
/- Both functions refuse the same pairs of matrices and return the same matrix of the rows of both, in memory of its own; the matrices stay as they are. -/
set_option linter.unusedVariables false
set_option linter.unusedSimpArgs false
set_option linter.unusedSectionVars false
namespace Go.Proofs.Ythnijchgjfmgaaa.F
open Go.RowKit Go.Proofs.YthnijchgjfmgaaaW.PrintWords Go.Proofs.YthnijchgjfmgaaaW.PrintLast Go.Proofs.Ythnijchgjfmgaaa.Lin

theorem FnExactStackRows_pure : laws_FnExactStackRows.Pure := by
  intro p r c a p' r' c' b _ _ _ hm _ _ _ _ hm' _
  by_cases hl : a.length ≤ 1048576
  · by_cases hl' : b.length ≤ 1048576 - a.length
    · have ho := stackOut_length p r c p' r' c' a b
      obtain ⟨B, hB⟩ : ∃ B, B = a.length + b.length + 40000 := ⟨_, rfl⟩
      have c1 : ∀ k, B ≤ k → laws_toMatrix.f k p r c a = some (p, r, c, a) := fun k hk => toMatrix_tells p r c (by omega) (by omega)
      have c1' : ∀ k, B ≤ k → laws_toMatrix.f k p' r' c' b = some (p', r', c', b) := fun k hk => toMatrix_tells p' r' c' (by omega) (by omega)
      have c2 : ∀ k, B ≤ k → spec_StackRows.f k p r c a p' r' c' b = some (stackOut p r c a p' r' c' b) := fun k hk => spec_stackM p r c p' r' c' (by omega) (by omega) (by omega)
      have c3 : ∀ k, B ≤ k → impl_StackRows.f k p r c a p' r' c' b = some (stackOut p r c a p' r' c' b) := fun k hk => impl_stackM p r c p' r' c' (by omega)
      generalize stackOut p r c a p' r' c' b = o at *
      obtain ⟨o1, o2, o3, o, code⟩ := o
      dsimp only at ho
      have c4 : ∀ k, B ≤ k → laws_eqMatrix.f k p r c a p r c a = some true := fun k hk => eqMatrix_tells (by omega) (by omega)
      have c4' : ∀ k, B ≤ k → laws_eqMatrix.f k p' r' c' b p' r' c' b = some true := fun k hk => eqMatrix_tells (by omega) (by omega)
      have c5 : ∀ k, B ≤ k → laws_eqMatrix.f k o1 o2 o3 o o1 o2 o3 o = some true := fun k hk => eqMatrix_tells (by omega) (by omega)
      have c6 : ∀ k, B ≤ k → laws_markMatrix.f k p r c a 1 = some (1 + (a.length : Int), iota 1 a.length) := fun k hk => markMatrix_tells (by omega) (by omega)
      have c6' : ∀ k, B ≤ k → laws_markMatrix.f k p' r' c' b (1 + (a.length : Int)) = some (1 + (a.length : Int) + (b.length : Int), iota (1 + (a.length : Int)) b.length) := fun k hk => markMatrix_at (by omega) (by omega) (by omega) (by omega)
      have c7 : ∀ k, B ≤ k → laws_markMatrix.f k o1 o2 o3 o 1 = some (1 + (o.length : Int), iota 1 o.length) := fun k hk => markMatrix_tells (by omega) (by omega)
      have c8 : ∀ k, B ≤ k → laws_heldMatrix.f k o1 o2 o3 (iota 1 o.length) 1 = some (1 + (o.length : Int)) := fun k hk => heldMatrix_tells (by omega) (by omega)
      have n0 : ¬ (1048576 - (a.length : Int) < 0) := by omega
      have n0' : ¬ (1048576 - (a.length : Int) - (b.length : Int) < 0) := by omega
      have n1 : ¬ (1 + (a.length : Int) + (b.length : Int) < 0) := by omega
      have n2 : ¬ (1 + (o.length : Int) < 0) := by omega
      have z1 : laws_szMatrix.f p r c a 1048576 = some (1048576 - (a.length : Int)) := by rw [szMatrix_tells p r c hm, if_pos hl]
      have z2 : laws_szMatrix.f p' r' c' b (1048576 - (a.length : Int)) = some (1048576 - (a.length : Int) - (b.length : Int)) := by rw [szMatrix_at p' r' c' hm' (by omega) (by omega), if_pos (by omega)]
      refine ⟨B + 1 + 1 + 1, ?_⟩
      unfold laws_FnExactStackRows.f
      simp (disch := omega) only [z1, z2, Option.bind_some, if_true, if_false, bne_self_eq_false, Bool.false_eq_true, c1, c1', c2, c3, c4, c4', c5, c6, c6', c7, c8, n0, n0', n1, n2]
      simp only [laws_FnExactStackRows.j0]
      simp (disch := omega) only [Option.bind_some, if_true, if_false, bne_self_eq_false, Bool.false_eq_true, c1, c1', c2, c3, c4, c4', c5, c6, c6', c7, c8, n0, n0', n1, n2]
      simp only [laws_FnExactStackRows.j1]
      simp (disch := omega) only [Option.bind_some, if_true, if_false, bne_self_eq_false, Bool.false_eq_true, c1, c1', c2, c3, c4, c4', c5, c6, c6', c7, c8, n0, n0', n1, n2]
      simp only [laws_FnExactStackRows.j2]
      simp (disch := omega) only [Option.bind_some, if_true, if_false, bne_self_eq_false, Bool.false_eq_true, c1, c1', c2, c3, c4, c4', c5, c6, c6', c7, c8, n0, n0', n1, n2]
    · refine ⟨0, ?_⟩
      unfold laws_FnExactStackRows.f
      have n0 : ¬ (1048576 - (a.length : Int) < 0) := by omega
      rw [szMatrix_tells p r c hm, if_pos hl]
      simp only [Option.bind_some, n0, if_false]
      rw [szMatrix_at p' r' c' hm' (by omega) (by omega), if_neg (by omega)]
      rfl
  · refine ⟨0, ?_⟩
    unfold laws_FnExactStackRows.f
    rw [szMatrix_tells p r c hm, if_neg hl]
    rfl
end Go.Proofs.Ythnijchgjfmgaaa.F
namespace Go.Proofs.Ythnijchgjfmgaaa.Pure
theorem FnExactStackRows : F.laws_FnExactStackRows.Pure := F.FnExactStackRows_pure
end Go.Proofs.Ythnijchgjfmgaaa.Pure
end

section
namespace Go.Proofs.Ythnijchgjfmgaaa.fnExactStackRows
open Go.ChangeShapes Go.WideShapes Go.ChangeAt Go.RowKit Go.Joins
open Go.ChangeMaps (open_string shut_string)
set_option linter.unusedVariables false
theorem own : ownKnob Try.prog.godebug = none := by kernel_rfl
theorem laidOut : laidOutB Try.prog = true := by kernel_rfl
/-- A slice's row of whole numbers in memory. -/
def IsRow (k : IntKind) (w : World) (a : Option Addr) (len cap : Nat) (zs : List Int) : Prop :=
  (a = none ∧ len = 0 ∧ cap = 0 ∧ zs = []) ∨
  ∃ x, a = some x ∧ len ≤ cap ∧ cap ≤ maxLen ∧ zs.length = cap ∧ (∀ i, i < zs.length → w.cell? (x.add i) = some (.int k (zs.getD i 0))) ∧ ∀ n ∈ zs, (Lit.int k n).wf = true
/-- A cell that reads as a slice of whole numbers holds one. -/
theorem row_of {H : Type} {enc : TypeId × Value → H} {P : Program} {W : World} {n : Nat} {t e : TypeId} {k : IntKind} {v : Value} {y : DataW H × List MemPlace} (hs : P.underlying t = some (.slice e)) (hi : P.underlying e = some (.int k)) (hc : P.cellsOf e = 1)
    (hf : DataW.trod enc P W 0 (fun _ => true) true n t [v] = some y) : ∃ a len cap zs, v = .slice a len cap ∧ IsRow k W a len cap zs := by
  rcases open_ints hs hi hc hf with ⟨hcs, _⟩ | ⟨x, l, c, zs, hcs, _, hl, hm, hz, _, hcell, hwz⟩
  · simp at hcs
    exact ⟨_, _, _, [], hcs, .inl ⟨rfl, rfl, rfl, rfl⟩⟩
  · simp at hcs
    exact ⟨_, _, _, zs, hcs, .inr ⟨_, rfl, hl, hm, by simpa using hz, hcell, hwz⟩⟩
set_option maxRecDepth 100000 in
theorem lifted (os : Os) (started : os.Started) (H : Type) (enc : TypeId × Value → H) :
    ReturnsInHanded {} Try.checked os 6 .any (Rows.fnExactStackRowsSpec.pre6 enc Try.prog Try.f6 Rows.fnExactStackRowsRow.domain false) (Rows.fnExactStackRowsSpec.post enc Try.prog Try.f6 false true false false) := by
  refine returnsInHanded_of_change_sized (C := Try.checked) own started (by kernel_rfl) Try.func6
    (ChangeSpec.witness6 (enc := enc) (C := Try.checked) false ⟨#[], #[.agg #[.int .i64 0, .int .i64 0, .int .i64 0, .slice none 0 0], .agg #[.int .i64 0, .int .i64 0, .int .i64 0, .slice none 0 0]], []⟩ 8 (by kernel_rfl) (by kernel_rfl) (by kernel_rfl) (by kernel_rfl)) ?_
  intro W base args ds gs before hval0 hW hcnd hsz0 _
  have hsz : (DataW.weightsEach Try.prog (Try.f6.params.toList ++ Rows.fnExactStackRowsSpec.plain.varTypes Try.prog) (ds ++ gs)).all (· ≤ reachBytes) = true := hsz0
  have hval : ∀ (j : Nat) t v, Try.f6.params[j]? = some t → args[j]? = some v → Value.okWide Try.prog W .any base t v := hval0
  have hW' := hW
  obtain ⟨p, q, hA0, hV, rfl, hfz, hnd⟩ := hW
  have hA : DataW.TrodAll enc Try.prog W 0 (fun _ => true) true Try.f6.params.toList args.toList ds p := hA0
  rw [Try.params6] at hA hval hsz
  obtain ⟨v0, vs0, d0, ds0, p0, q0, hargs, rfl, rfl, h0, r0⟩ := trodAll_cons hA
  obtain ⟨v1, vs1, d1, ds1, p1, q1, rfl, rfl, rfl, h1, r1⟩ := trodAll_cons r0
  obtain ⟨rfl, rfl, rfl⟩ := trodAll_nil r1
  obtain rfl : args = #[v0, v1] := by cases args; simp_all
  obtain ⟨rfl, rfl⟩ := trodVars_none hV
  have k0 := h0
  have lt0 : ∀ x ∈ p0, x.block < W.heap.size := by obtain ⟨m, hm⟩ := k0; exact DataW.trod_lt m _ _ _ hm
  obtain ⟨c0_0, c0_1, c0_2, c0_3, y0_0, y0_1, y0_2, y0_3, m0, rfl, _, _, g0_0, g0_1, g0_2, g0_3⟩ := open_agg4 Try.underlying24 (by kernel_rfl) (show Try.prog.cellsOf 24 = 4 by kernel_rfl) (hval 0 24 v0 rfl rfl) h0
  obtain ⟨a0_0, e0_0, _, w0_0⟩ := DataW.trod_int Try.underlying2 g0_0
  simp at e0_0
  subst e0_0
  obtain ⟨a0_1, e0_1, _, w0_1⟩ := DataW.trod_int Try.underlying2 g0_1
  simp at e0_1
  subst e0_1
  obtain ⟨a0_2, e0_2, _, w0_2⟩ := DataW.trod_int Try.underlying2 g0_2
  simp at e0_2
  subst e0_2
  obtain ⟨a0_3, len0_3, cap0_3, z0_3, rfl, w0_3⟩ := row_of Try.underlying22 Try.underlying2 (by kernel_rfl) g0_3
  have k1 := h1
  have lt1 : ∀ x ∈ p1, x.block < W.heap.size := by obtain ⟨m, hm⟩ := k1; exact DataW.trod_lt m _ _ _ hm
  obtain ⟨c1_0, c1_1, c1_2, c1_3, y1_0, y1_1, y1_2, y1_3, m1, rfl, _, _, g1_0, g1_1, g1_2, g1_3⟩ := open_agg4 Try.underlying24 (by kernel_rfl) (show Try.prog.cellsOf 24 = 4 by kernel_rfl) (hval 1 24 v1 rfl rfl) h1
  obtain ⟨a1_0, e1_0, _, w1_0⟩ := DataW.trod_int Try.underlying2 g1_0
  simp at e1_0
  subst e1_0
  obtain ⟨a1_1, e1_1, _, w1_1⟩ := DataW.trod_int Try.underlying2 g1_1
  simp at e1_1
  subst e1_1
  obtain ⟨a1_2, e1_2, _, w1_2⟩ := DataW.trod_int Try.underlying2 g1_2
  simp at e1_2
  subst e1_2
  obtain ⟨a1_3, len1_3, cap1_3, z1_3, rfl, w1_3⟩ := row_of Try.underlying22 Try.underlying2 (by kernel_rfl) g1_3
  clear hA0 hval0 hsz0 hsz
  refine (F.laws_FnExactStackRows.walk Pure.FnExactStackRows a0_0 a0_1 a0_2 a0_3 len0_3 cap0_3 z0_3 a1_0 a1_1 a1_2 a1_3 len1_3 cap1_3 z1_3 W w0_0 w0_1 w0_2 w0_3 w1_0 w1_1 w1_2 w1_3).mono fun e W' ⟨he, bel⟩ => ?_
  subst he
  exact ⟨_, rfl, _, _, _, [], _, [], hW', trodAll_mk1 (shut_bool Try.underlying4 _), (trodAll_cons_mk (Below.trod laidOut (by kernel_rfl) (of_decide_eq_true (by kernel_rfl)) k0 bel lt0) (trodAll_cons_mk (Below.trod laidOut (by kernel_rfl) (of_decide_eq_true (by kernel_rfl)) k1 bel lt1) trodAll_mk0)), rfl, bel.frame _, fun h => by cases h⟩
theorem over : Rows.fnExactStackRowsRow.holds Try.pinned (OpenSpec.ofChange Rows.fnExactStackRowsSpec) :=
  OpenClaim.holds_of_wide 6 Try.f6 rfl rfl rfl rfl rfl rfl rfl ⟨rfl, rfl, rfl, rfl, rfl⟩ rfl rfl rfl rfl rfl (by kernel_rfl) Try.func6 (by kernel_rfl)
    (of_decide_eq_true (by kernel_rfl)) (by unfold Func.isWrapper; first | (rw [if_pos (by decide +kernel)]; kernel_rfl) | (rw [if_neg (by decide +kernel)]; exact ⟨rfl, rfl⟩))
    (fun os started H enc _ => lifted os started H enc)
theorem proved : Rows.FnExactStackRowsSaid := over
#print axioms proved
end Go.Proofs.Ythnijchgjfmgaaa.fnExactStackRows
namespace Go.Proofs.Ythnijchgjfmgaaa
/-- The row, under a short name, for the claim. -/
theorem fnExactStackRows_holds : Rows.FnExactStackRowsSaid := fnExactStackRows.proved
end Go.Proofs.Ythnijchgjfmgaaa
end
