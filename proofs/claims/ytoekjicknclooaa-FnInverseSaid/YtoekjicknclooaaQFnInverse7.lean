-- Texts of this claim, merged by packw.py (a program of this session's).
import Derived.Test.YtoekjicknclooaaQFnInverse2
import Derived.Test.YtoekjicknclooaaQFnInverse6
import Derived.Test.YtoekjicknclooaaQFnInverse5

section
namespace Go.Proofs.Ytoekjicknclooaa.F
open Go.RowKit Go.Proofs.YtoekjicknclooaaW.PrintWords Go.Proofs.YtoekjicknclooaaW.PrintLast Go.Proofs.YtoekjicknclooaaW.PrintMore
attribute [local go_sem] max2_int min2_int max_two min_two max_three min_three max_four min_four   -- for this text's walks alone
set_option linter.unusedVariables false
set_option linter.unusedSimpArgs false
/-! ### impl_Matrix_at: function 64 -/
def impl_Matrix_at.f (a0_0 : Int) (a0_1 : Int) (a0_2 : Int) (l0_3 : List Int) (a1 : Int) (a2 : Int) : Option (Int) := if 0 ≤ (wrap64 ((wrap64 (a1 * a0_2)) + a2)) then (if (wrap64 ((wrap64 (a1 * a0_2)) + a2)) < (l0_3.length : Int) then (some (rd l0_3 (wrap64 ((wrap64 (a1 * a0_2)) + a2)))) else (none)) else (none)
theorem Z64.z0 {P : Prop} (h : P := by repeat (first | (with_reducible first | exact HB.out | apply below_alloc | apply pw_below_drewN | apply below_drew1) | exact HB.out)) : P := h
set_option maxHeartbeats 8000000 in
set_option maxRecDepth 100000 in
theorem impl_Matrix_at.calls (a0_0 : Int) (a0_1 : Int) (a0_2 : Int) (A0_3 : Option Addr) (c0_3 : Nat) (l0_3 : List Int) (a1 : Int) (a2 : Int) (r : Int) (w : World) (hr0_3 : Kd.C (Kd.int .i64) w A0_3 l0_3.length l0_3) (hc0_3 : l0_3.length ≤ c0_3) (h : impl_Matrix_at.f a0_0 a0_1 a0_2 l0_3 a1 a2 = some r) :
  Calls Try.prog 64 #[.agg #[.int .i64 a0_0, .int .i64 a0_1, .int .i64 a0_2, .slice A0_3 l0_3.length c0_3], .int .i64 a1, .int .i64 a2] w fun e w' => e = .returned (.int .i64 r) ∧ Below w.heap.size w w' := by
 have hu27 := Try.underlying27
 have HR0_3 := Aside0.mk hr0_3
 have HC0_3 := Aside0.mk hc0_3
 clear hr0_3 hc0_3
 have HB := Aside0.mk (Below.refl w.heap.size w)
 have H : (if 0 ≤ (wrap64 ((wrap64 (a1 * a0_2)) + a2)) then (if (wrap64 ((wrap64 (a1 * a0_2)) + a2)) < (l0_3.length : Int) then (some (rd l0_3 (wrap64 ((wrap64 (a1 * a0_2)) + a2)))) else (none)) else (none)) = some r := h
 clear h
 obtain ⟨ji4, hji4⟩ : ∃ j_ : Int, (wrap64 ((wrap64 (a1 * a0_2)) + a2)) = j_ := ⟨_, rfl⟩
 replace H : (if 0 ≤ (ji4) then (if (ji4) < (l0_3.length : Int) then (some (rd l0_3 (ji4))) else (none)) else (none)) = some r := by first | (rw [hji4] at H; exact H) | (simp only [hji4] at H ⊢; exact H)
 have hji4w : (IntKind.i64.wrap ((wrap64 (a1 * a0_2)) + a2)) = ji4 := (i64_w _).trans hji4
 by_cases c5 : 0 ≤ (ji4)
 ·rw [if_pos c5] at H
  have c5b0 : decide (0 ≤ (ji4)) = true := decide_eq_true c5
  clear c5
  by_cases c6 : (ji4) < (l0_3.length : Int)
  ·rw [if_pos c6] at H
   have c6b0 : decide ((ji4) < (l0_3.length : Int)) = true := decide_eq_true c6
   clear c6
   obtain rfl := Option.some.inj H
   go_enter Try.func64, Try.ntmps64
   go_wp2_with (first | ((with_reducible refine gate_dst (N := 3) rfl ?_); refine box_event ?hg (N := 3) ?hd (cs := #[.int .i64 a0_0, .int .i64 a0_1, .int .i64 a0_2, .slice A0_3 l0_3.length c0_3]) (t := 27) ?hr ?_; (case hd => rfl); (case hg => rfl); (case hr => first | (go_simp; done) | (go_simp; rfl)); intro gb101 hg w7 hbox hb; have n0_ := Aside0.mk (below_step Z64.z0 hb); have n1_ := Aside0.mk (hbox); have n2_ := Aside0.mk (show w.heap.size ≤ gb101 from (by rw [hg]; exact (below_size Z64.z0))); have n3_ := Aside0.mk (show w.heap.size ≤ gb101 from (by rw [hg]; exact (below_size Z64.z0))); clear HB; have HB := n0_; have BK101 := n1_; have GW101 := n2_; have GE101 := n3_; clear n0_ n1_ n2_ n3_; clear hb hbox hg; have hcz8_0 : w7.cell? ⟨gb101, 0, none⟩ = some (.int .i64 a0_0) := (blk_cell BK101.out 0).trans rfl; have hcz8_1 : w7.cell? ⟨gb101, 1, none⟩ = some (.int .i64 a0_1) := (blk_cell BK101.out 1).trans rfl; have hcz8_2 : w7.cell? ⟨gb101, 2, none⟩ = some (.int .i64 a0_2) := (blk_cell BK101.out 2).trans rfl; have hcz8_3 : w7.cell? ⟨gb101, 3, none⟩ = some (.slice A0_3 l0_3.length c0_3) := (blk_cell BK101.out 3).trans rfl; have hfz8_0 := blk_frozen BK101.out 0; have hfz8_1 := blk_frozen BK101.out 1; have hfz8_2 := blk_frozen BK101.out 2; have hfz8_3 := blk_frozen BK101.out 3; have p102 : 0 ≤ ((ji4) : Int) := of_decide_eq_true (by first | (with_reducible assumption) | assumption); have q102 : (ji4) < (l0_3.length : Int) := of_decide_eq_true (by first | (with_reducible assumption) | assumption); obtain ⟨ad102, e102, hx102_0⟩ := Kd.at_int HR0_3.out (ji4) p102 q102; cases e102; replace hx102_0 := (HB.out.cell (World.block_lt_of_cell? w _ hx102_0)).trans hx102_0; replace p102 := eq_true p102; replace q102 := eq_true q102))
   go_ret
   exact ⟨(by first | rfl | (simp [errW_none, errW_some] <;> rfl) | (simp only [← hji4]; first | rfl | (simp [errW_none, errW_some] <;> rfl)) | (simp [*, errW_none, errW_some] <;> rfl)), (by repeat (first | (with_reducible first | exact HB.out | apply below_alloc | apply pw_below_drewN | apply below_drew1 | refine below_set ?_ GE101.out) | exact HB.out))⟩
  rw [if_neg c6] at H
  exact absurd H (by simp)
 rw [if_neg c5] at H
 exact absurd H (by simp)
/-! ### impl_unit_1: function 116: ours -/
def impl_unit_1.cell : Cell2 := ⟨fun i j => if i = j then some 1 else some 0⟩
set_option maxRecDepth 100000 in
theorem impl_unit_1.cells (w : World) : ∀ (W : World) (i j v : Int), Below w.heap.size w W → impl_unit_1.cell.f i j = some v → Calls Try.prog 116 (#[.int .i64 i, .int .i64 j] ++ #[]) W fun e w' => e = .returned (.int .i64 v) ∧ Below W.heap.size W w' := by
  intro W i j v hB h
  have H : (if i = j then some (1 : Int) else some 0) = some v := h
  clear h hB
  by_cases c : i = j
  · rw [if_pos c] at H
    obtain rfl := Option.some.inj H
    have b : (i == j) = true := beq_iff_eq.mpr c
    clear c H
    go_enter Try.func116, Try.ntmps116
    go_wp2
    go_ret
    exact ⟨rfl, Below.refl _ _⟩
  · rw [if_neg c] at H
    obtain rfl := Option.some.inj H
    have b : (i == j) = false := beq_eq_false_iff_ne.mpr c
    clear c H
    go_enter Try.func116, Try.ntmps116
    go_wp2
    go_ret
    exact ⟨rfl, Below.refl _ _⟩
/-! ### impl_unit: function 68 -/
def impl_unit.f (k : Nat) (a0 : Int) (a1 : Int) : Option (Int × Int × Int × List Int) := (impl_filled.f (impl_unit_1.cell) k a0 a1 a1 0).bind fun bt102 => (some (bt102.1, bt102.2.1, bt102.2.2.1, bt102.2.2.2))
theorem Z68.bb {w0 w w1 : World} {g : Nat} {o : Obj} (_B : Aside0 (w0.heap[g]? = some o)) (h : w.heap[g]? = some o) (hb : Below w.heap.size w w1) : w1.heap[g]? = some o := blk_below h hb
theorem Z68.bl {w0 w : World} {g : Nat} {o : Obj} (_B : Aside0 (w0.heap[g]? = some o)) (h : w.heap[g]? = some o) : g < w.heap.size := blk_lt h
theorem Z68.z1 {P : Prop} (h : P := by repeat (first | (with_reducible first | exact HB.out | apply below_alloc | apply pw_below_drewN | apply below_drew1) | exact HB.out)) : P := h
theorem Z68.z0 {P : Prop} (h : P := by repeat (first | (with_reducible first | exact HB.out | apply below_alloc | apply pw_below_drewN | apply below_drew1 | refine below_set ?_ GE101.out) | exact HB.out)) : P := h
set_option maxHeartbeats 8000000 in
set_option maxRecDepth 100000 in
theorem impl_unit.calls (k : Nat) (a0 : Int) (a1 : Int) (r1 : Int) (r2 : Int) (r3 : Int) (r4 : List Int) (w : World) (h : impl_unit.f k a0 a1 = some (r1, r2, r3, r4)) :
  Calls Try.prog 68 #[.int .i64 a0, .int .i64 a1] w fun e w' => ∃ v3_ : Value, e = .returned (.agg #[.int .i64 r1, .int .i64 r2, .int .i64 r3, v3_]) ∧ Kd.R (Kd.int .i64) 2 w' w.heap.size (fun _ => True) v3_ r4 ∧ Below w.heap.size w w' := by
 have hu27 := Try.underlying27
 have HB := Aside0.mk (Below.refl w.heap.size w)
 have H : ((impl_filled.f (impl_unit_1.cell) k a0 a1 a1 0).bind fun bt102 => (some (bt102.1, bt102.2.1, bt102.2.2.1, bt102.2.2.2))) = some (r1, r2, r3, r4) := h
 clear h
 replace H := Option.bind_eq_some_iff.mp H
 obtain ⟨⟨t102, t103, t104, t105⟩, A30, H⟩ := H
 replace H : (some (t102, t103, t104, t105)) = some (r1, r2, r3, r4) := H
 have A3 := Aside0.mk A30
 clear A30
 simp only [Option.some.injEq, Prod.mk.injEq] at H
 obtain ⟨rfl, rfl, rfl, rfl⟩ := H
 go_enter Try.func68, Try.ntmps68
 go_wp2_with (first | ((with_reducible refine gate_dst (N := 4) rfl ?_); refine box_event ?hg (N := 4) ?hd (cs := #[.int .i64 0, .int .i64 0, .int .i64 0, .slice none 0 0]) (t := 27) ?hr ?_; (case hd => rfl); (case hg => rfl); (case hr => first | (go_simp; done) | (go_simp; rfl)); intro gb101 hg w4 hbox hb; have n0_ := Aside0.mk (below_step Z68.z1 hb); have n1_ := Aside0.mk (hbox); have n2_ := Aside0.mk (show w.heap.size ≤ gb101 from (by rw [hg]; exact (below_size Z68.z1))); have n3_ := Aside0.mk (show w.heap.size ≤ gb101 from (by rw [hg]; exact (below_size Z68.z1))); clear HB; have HB := n0_; have BK101 := n1_; have GW101 := n2_; have GE101 := n3_; clear n0_ n1_ n2_ n3_; clear hb hbox hg) | ((with_reducible refine gate_callee (f := 62) rfl ?_); refine goesL_ (some 8) rfl rfl Try.func62 (by kernel_rfl) rfl #[.int .i64 a0, .int .i64 a1, .int .i64 a1, .func (.func 116) #[] #[]] rfl (by (try simp only [List.map_toArray, List.map_cons, List.map_nil]); first | done | rfl | (simp only [List.length_drop, List.length_take]; rfl)) ?_; (refine (impl_filled.calls (impl_unit_1.cell) 116 #[] (enters_of Try.func116 (by kernel_rfl) rfl) k a0 a1 a1 0 t102 t103 t104 t105 _ (impl_unit_1.cells _ ) A3.out).mono ?_); rintro e w5 ⟨v106, rfl, ho0, hb⟩; refine ⟨_, rfl, ?_⟩; have n0_ := Aside0.mk (Kd.R_lower ho0 (below_size Z68.z0)); have n1_ := Aside0.mk (Z68.bb BK101 (by (with_reducible repeat (first | refine blk_drewN ?_ _ | refine blk_drew ?_ | refine blk_alloc ?_ _)); exact BK101.out) hb); have n2_ := Aside0.mk (below_step Z68.z0 hb); clear BK101 HB; have HO107 := n0_; have BK101 := n1_; have HB := n2_; clear n0_ n1_ n2_; (try clear hb); (try clear hb2); (try clear hk); (try clear hi); (try clear ho0); have hcz6_0 : w5.cell? ⟨gb101, 0, none⟩ = some (.int .i64 0) := (blk_cell BK101.out 0).trans rfl; have hcz6_1 : w5.cell? ⟨gb101, 1, none⟩ = some (.int .i64 0) := (blk_cell BK101.out 1).trans rfl; have hcz6_2 : w5.cell? ⟨gb101, 2, none⟩ = some (.int .i64 0) := (blk_cell BK101.out 2).trans rfl; have hcz6_3 : w5.cell? ⟨gb101, 3, none⟩ = some (.slice none 0 0) := (blk_cell BK101.out 3).trans rfl; have hfz6_0 := blk_frozen BK101.out 0; have hfz6_1 := blk_frozen BK101.out 1; have hfz6_2 := blk_frozen BK101.out 2; have hfz6_3 := blk_frozen BK101.out 3; obtain ⟨Ao7, co7, eo7⟩ := Kd.R_slice HO107.out; subst eo7))
 refine bodyPost_ret (results_cell_row rfl _ _ gb101 27 #[.int .i64 t102, .int .i64 t103, .int .i64 t104, .slice Ao7 t105.length co7] (0, 0) _ rfl (by (with_reducible repeat (first | refine blk_drewN ?_ _ | refine blk_drew ?_ | refine blk_alloc ?_ _)); refine blk_put (cs := #[.int .i64 t102, .int .i64 t103, .int .i64 t104, .slice none 0 0]) ?_ 3 _ rfl; (with_reducible repeat (first | refine blk_drewN ?_ _ | refine blk_drew ?_ | refine blk_alloc ?_ _)); refine blk_put (cs := #[.int .i64 t102, .int .i64 t103, .int .i64 0, .slice none 0 0]) ?_ 2 _ rfl; (with_reducible repeat (first | refine blk_drewN ?_ _ | refine blk_drew ?_ | refine blk_alloc ?_ _)); refine blk_put (cs := #[.int .i64 t102, .int .i64 0, .int .i64 0, .slice none 0 0]) ?_ 1 _ rfl; (with_reducible repeat (first | refine blk_drewN ?_ _ | refine blk_drew ?_ | refine blk_alloc ?_ _)); refine blk_put (cs := #[.int .i64 0, .int .i64 0, .int .i64 0, .slice none 0 0]) ?_ 0 _ rfl; (with_reducible repeat (first | refine blk_drewN ?_ _ | refine blk_drew ?_ | refine blk_alloc ?_ _)); exact BK101.out) Try.underlying27 rfl (by kernel_rfl)) rfl ?_
 exact ⟨_, (by first | rfl | (simp [errW_none, errW_some] <;> rfl) | (simp [*, errW_none, errW_some] <;> rfl)), (by (with_reducible repeat (first | apply Kd.R_alloc | apply Kd.R_drewN | apply Kd.R_drew)); exact Kd.R_mono (Kd.R_far (p := ⟨gb101, 3, none⟩) (Kd.R_far (p := ⟨gb101, 2, none⟩) (Kd.R_far (p := ⟨gb101, 1, none⟩) (Kd.R_far (p := ⟨gb101, 0, none⟩) (Kd.R_types HO107.out BK101.out (by decide)) (fun _ hk => hk.2) (.int .i64 t102)) (fun _ hk => hk.2) (.int .i64 t103)) (fun _ hk => hk.2) (.int .i64 t104)) (fun _ hk => hk.2) (.slice Ao7 t105.length co7)) (fun _ hk => trivial)), Z68.z0⟩
/-! ### impl_inverse_1: function 115: ours -/
def impl_inverse_1.cell (n : Int) (p r c : Int) (l : List Int) : Cell2 := ⟨fun i j => if j < n then impl_Matrix_at.f p r c l i j else (impl_unit.f 20000 p n).bind fun u => impl_Matrix_at.f u.1 u.2.1 u.2.2.1 u.2.2.2 i (wrap64 (j - n))⟩
def impl_inverse_1.T1 : Bool × List (List Nat × List Nat) := (true, [([], []), ([0], [0]), ([], []), ([1, 2], [1, 2]), ([], []), ([], []), ([], []), ([5, 6], [5, 6]), ([3, 4, 7, 3], [3, 4, 7]), ([8, 8, 0, 1, 2, 3, 4, 5, 6, 7, 8], [8])])
def impl_inverse_1.B1 : List Nat := [0, 1, 0, 7, 0, 0, 0, 96, 255, 511]
theorem impl_inverse_1.tab1 : rtab .any (opsOf Try.f115 3) = impl_inverse_1.T1 := by kernel_rfl
theorem impl_inverse_1.bits1 : waitsOk impl_inverse_1.T1.2 impl_inverse_1.B1 = true := by kernel_rfl
set_option maxHeartbeats 4000000 in
set_option maxRecDepth 100000 in
theorem impl_inverse_1.cells (gn gb : Nat) (n : Int) (p r c : Int) (A : Option Addr) (cap : Nat) (l : List Int) (w : World)
    (hn : w.heap[gn]? = some (.cells #[.int .i64 n] 2 (0, 0))) (hb : w.heap[gb]? = some (.cells #[.int .i64 p, .int .i64 r, .int .i64 c, .slice A l.length cap] 27 (0, 0))) (hr : Kd.C (Kd.int .i64) w A l.length l) (hc : l.length ≤ cap) :
    ∀ (W : World) (i j v : Int), Below w.heap.size w W → (impl_inverse_1.cell n p r c l).f i j = some v → Calls Try.prog 115 (#[.int .i64 i, .int .i64 j] ++ #[.pointer (some ⟨gn, 0, none⟩), .pointer (some ⟨gb, 0, none⟩)]) W fun e w' => e = .returned (.int .i64 v) ∧ Below W.heap.size W w' := by
  intro W i j v hB h
  have H : (if j < n then impl_Matrix_at.f p r c l i j else (impl_unit.f 20000 p n).bind fun u => impl_Matrix_at.f u.1 u.2.1 u.2.2.1 u.2.2.2 i (wrap64 (j - n))) = some v := h
  clear h
  by_cases c0 : j < n
  · rw [if_pos c0] at H
    have HH := Aside0.mk H
    have BK := Aside0.mk (blk_below hb hB)
    have BN := Aside0.mk (blk_below hn hB)
    have HC := Aside0.mk (Kd.C_below hr hB)
    have HL := Aside0.mk hc
    have b0 : decide (j < n) = true := decide_eq_true c0
    clear H c0 hb hn hr hc hB
    have hcz_0 : W.cell? ⟨gb, 0, none⟩ = some (.int .i64 p) := (blk_cell BK.out 0).trans rfl
    have hcz_1 : W.cell? ⟨gb, 1, none⟩ = some (.int .i64 r) := (blk_cell BK.out 1).trans rfl
    have hcz_2 : W.cell? ⟨gb, 2, none⟩ = some (.int .i64 c) := (blk_cell BK.out 2).trans rfl
    have hcz_3 : W.cell? ⟨gb, 3, none⟩ = some (.slice A l.length cap) := (blk_cell BK.out 3).trans rfl
    have hcy_0 : W.cell? ⟨gn, 0, none⟩ = some (.int .i64 n) := (blk_cell BN.out 0).trans rfl
    go_enter Try.func115, Try.ntmps115
    go_wp2_with (go_at_call 64; refine (impl_Matrix_at.calls p r c A cap l i j v _ HC.out HL.out HH.out).mono ?_; rintro e w' ⟨rfl, hb⟩)
    go_ret
    exact ⟨rfl, hb⟩
  · rw [if_neg c0] at H
    obtain ⟨⟨u1, u2, u3, u4⟩, AU0, AT0⟩ := Option.bind_eq_some_iff.mp H
    have AU := Aside0.mk AU0
    have AT := Aside0.mk (show impl_Matrix_at.f u1 u2 u3 u4 i (wrap64 (j - n)) = some v from AT0)
    have b0 : decide (j < n) = false := decide_eq_false c0
    have BK := Aside0.mk (blk_drew (blk_below hb hB))
    have BN := Aside0.mk (blk_drew (blk_below hn hB))
    have hcy_0 : W.cell? ⟨gn, 0, none⟩ = some (.int .i64 n) := (blk_cell (blk_below hn hB) 0).trans rfl
    have HB := Aside0.mk (below_drew1 (Below.refl W.heap.size W))
    clear H AU0 AT0 c0 hb hn hr hc hB
    go_enter Try.func115, Try.ntmps115
    try go_wp2
    refine start_ (n := 10) (S := fun w' => w'.cell? ⟨gb, 0, none⟩ = some (.int .i64 p) ∧ w'.cell? ⟨gn, 0, none⟩ = some (.int .i64 n)) (ds := []) #[false, false, false, false, false, false, false, false, false, false] (by kernel_rfl) rfl rfl ⟨(blk_cell BK.out 0).trans rfl, (blk_cell BN.out 0).trans rfl⟩ (fun hHeld => ?_); refine with_tabW impl_inverse_1.tab1 impl_inverse_1.bits1 (fun HT_ HW_ => ?_)
    generalize W.drew = w1 at BK BN HB hHeld ⊢
    refine pure_ (i := 0) (N := some 14) (v := ?_) (a' := ?_) #[true, false, false, false, false, false, false, false, false, false] rfl rfl (any_of HT_.out (by kernel_rfl)) (fun _ _ _ h => h) (Or.inl ⟨(by rfl), ?_⟩) ?_ ?_
    rotate_left
    · intro w'
      go_simp
      with_reducible rfl
    rotate_left
    · simp only [Act.put, List.setIfInBounds_toArray, List.set_cons_zero, List.set_cons_succ, i64_w, i32_w]
      rfl
    refine pure_ (i := 4) (N := some 18) (v := ?_) (a' := ?_) #[true, false, false, false, true, false, false, false, false, false] rfl rfl (any_of HT_.out (by kernel_rfl)) (fun _ _ _ h => h) (Or.inl ⟨(by rfl), ?_⟩) ?_ ?_
    rotate_left
    · intro w'
      go_simp
      with_reducible rfl
    rotate_left
    · simp only [Act.put, List.setIfInBounds_toArray, List.set_cons_zero, List.set_cons_succ, i64_w, i32_w]
      rfl
    refine pure_ (i := 5) (N := some 19) (v := ?_) (a' := ?_) #[true, false, false, false, true, true, false, false, false, false] rfl rfl (any_of HT_.out (by kernel_rfl)) (fun _ _ _ h => h) (Or.inl ⟨(by rfl), ?_⟩) ?_ ?_
    rotate_left
    · intro w'
      go_simp
      with_reducible rfl
    rotate_left
    · simp only [Act.put, List.setIfInBounds_toArray, List.set_cons_zero, List.set_cons_succ, i64_w, i32_w]
      rfl
    refine take_ (i := 1) (N := some 15) (v := ?_) (a' := ?_) #[true, true, false, false, true, true, false, false, false, false] rfl rfl (take_ofW HT_.out HW_.out (by kernel_rfl)) (fun _ _ _ h => h) (Or.inl ⟨(by rfl), ?_⟩) hHeld ?_ ?_
    rotate_left
    · rintro w' ⟨s0, s1⟩
      go_simp
      with_reducible rfl
    rotate_left
    · simp only [Act.put, List.setIfInBounds_toArray, List.set_cons_zero, List.set_cons_succ, i64_w, i32_w]
      rfl
    refine take_ (i := 2) (N := some 16) (v := ?_) (a' := ?_) #[true, true, true, false, true, true, false, false, false, false] rfl rfl (take_ofW HT_.out HW_.out (by kernel_rfl)) (fun _ _ _ h => h) (Or.inl ⟨(by rfl), ?_⟩) hHeld ?_ ?_
    rotate_left
    · rintro w' ⟨s0, s1⟩
      go_simp
      with_reducible rfl
    rotate_left
    · simp only [Act.put, List.setIfInBounds_toArray, List.set_cons_zero, List.set_cons_succ, i64_w, i32_w]
      rfl
    refine take_ (i := 6) (N := some 20) (v := ?_) (a' := ?_) #[true, true, true, false, true, true, true, false, false, false] rfl rfl (take_ofW HT_.out HW_.out (by kernel_rfl)) (fun _ _ _ h => h) (Or.inl ⟨(by rfl), ?_⟩) hHeld ?_ ?_
    rotate_left
    · rintro w' ⟨s0, s1⟩
      go_simp
      with_reducible rfl
    rotate_left
    · simp only [Act.put, List.setIfInBounds_toArray, List.set_cons_zero, List.set_cons_succ, i64_w, i32_w]
      rfl
    refine pure_ (i := 7) (N := some 21) (v := ?_) (a' := ?_) #[true, true, true, false, true, true, true, true, false, false] rfl rfl (any_of HT_.out (by kernel_rfl)) (fun _ _ _ h => h) (Or.inl ⟨(by rfl), ?_⟩) ?_ ?_
    rotate_left
    · intro w'
      go_simp
      with_reducible rfl
    rotate_left
    · simp only [Act.put, List.setIfInBounds_toArray, List.set_cons_zero, List.set_cons_succ, i64_w, i32_w]
      rfl
    refine one_ (i := 3) (N := some 17) #[true, true, true, true, true, true, true, true, false, false] rfl rfl (one_of HT_.out (by kernel_rfl)) (by decide) (fun K hK => ?_)
    refine goes_ Try.func68 (by kernel_rfl) rfl #[.int .i64 p, .int .i64 n] (by rfl) rfl rfl (by (try simp only [List.map_toArray, List.map_cons, List.map_nil]); first | done | rfl | (simp only [List.length_drop, List.length_take]; rfl)) ?_
    with_reducible refine (impl_unit.calls 20000 p n u1 u2 u3 u4 _ AU.out).mono ?_
    rintro e w8a ⟨vu, rfl, HRu, hb⟩
    obtain ⟨Au, cu, eu⟩ := Kd.R_slice HRu
    subst eu
    have HCu := Aside0.mk (Kd.R_reads' HRu).2.2
    have HLu := Aside0.mk (Kd.R_reads' HRu).2.1
    clear HRu
    refine ⟨_, rfl, ?_⟩
    have n0_ := Aside0.mk (blk_below BK.out hb)
    have n1_ := Aside0.mk (blk_below BN.out hb)
    have n4_ := Aside0.mk (below_step HB.out hb)
    clear BK BN HB hb
    have BK := n0_
    have BN := n1_
    have HB := n4_
    clear n0_ n1_ n4_
    refine hK.out _ _ ⟨(blk_cell BK.out 0).trans rfl, (blk_cell BN.out 0).trans rfl⟩ (fun hHeld => ?_)
    clear hK K
    refine norm_ (a' := ?_) ?_ ?_
    rotate_left
    · show Act.put _ (some 17) _ = _
      simp only [Act.put, List.setIfInBounds_toArray, List.set_cons_zero, List.set_cons_succ, i64_w, i32_w]
      rfl
    refine one_ (i := 8) (N := some 22) #[true, true, true, true, true, true, true, true, true, false] rfl rfl (one_of HT_.out (by kernel_rfl)) (by decide) (fun K hK => ?_)
    refine goes_ Try.func64 (by kernel_rfl) rfl #[.agg #[.int .i64 u1, .int .i64 u2, .int .i64 u3, .slice Au u4.length cu], .int .i64 i, .int .i64 (wrap64 (j - n))] (by rfl) rfl rfl (by (try simp only [List.map_toArray, List.map_cons, List.map_nil]); first | done | rfl | (simp only [List.length_drop, List.length_take]; rfl)) ?_
    with_reducible refine (impl_Matrix_at.calls u1 u2 u3 Au cu u4 i (wrap64 (j - n)) v _ HCu.out HLu.out AT.out).mono ?_
    rintro e w9 ⟨rfl, hb⟩
    refine ⟨_, rfl, ?_⟩
    have n0_ := Aside0.mk (blk_below BK.out hb)
    have n1_ := Aside0.mk (blk_below BN.out hb)
    have n4_ := Aside0.mk (below_step HB.out hb)
    clear BK BN HB hb
    have BK := n0_
    have BN := n1_
    have HB := n4_
    clear n0_ n1_ n4_
    refine hK.out _ _ ⟨(blk_cell BK.out 0).trans rfl, (blk_cell BN.out 0).trans rfl⟩ (fun hHeld => ?_)
    clear hK K
    refine norm_ (a' := ?_) ?_ ?_
    rotate_left
    · show Act.put _ (some 22) _ = _
      simp only [Act.put, List.setIfInBounds_toArray, List.set_cons_zero, List.set_cons_succ, i64_w, i32_w]
      rfl
    refine pure_ (i := 9) (N := some 6) (v := ?_) (a' := ?_) #[true, true, true, true, true, true, true, true, true, true] rfl rfl (any_of HT_.out (by kernel_rfl)) (fun _ _ _ h => h) (Or.inl ⟨(by rfl), ?_⟩) ?_ ?_
    rotate_left
    · intro w'
      go_simp
      with_reducible rfl
    rotate_left
    · simp only [Act.put, List.setIfInBounds_toArray, List.set_cons_zero, List.set_cons_succ, i64_w, i32_w]
      rfl
    refine done_ (done_of HT_.out (by kernel_rfl)) ?_
    try go_wp2
    go_ret
    exact ⟨rfl, HB.out⟩
/-! ### impl_inverse: function 66 -/
def impl_inverse.cutR (l : List Int) (n : Int) : Option (List Int) := if 0 ≤ n then (if n ≤ (l.length : Int) then some (l.drop n.toNat) else none) else none
theorem impl_inverse.parts {l : List Int} {n : Int} {t : List Int} (h : impl_inverse.cutR l n = some t) : 0 ≤ n ∧ n ≤ (l.length : Int) ∧ l.drop n.toNat = t := by
  unfold impl_inverse.cutR at h
  by_cases h0 : 0 ≤ n
  · rw [if_pos h0] at h
    by_cases h1 : n ≤ (l.length : Int)
    · rw [if_pos h1] at h; exact ⟨h0, h1, Option.some.inj h⟩
    · rw [if_neg h1] at h; cases h
  · rw [if_neg h0] at h; cases h
theorem impl_inverse.cut (A : Option Addr) (cap : Nat) (l : List Int) (n : Int) (h0 : 0 ≤ n) (h1 : n ≤ (l.length : Int)) (hcap : l.length ≤ cap) :
    ∃ A' : Option Addr, (∀ W : World, (Instr.slice 25 (.slice A l.length cap) (some (.int .i64 n)) none none).run Try.prog W = .ok (.slice A' (l.drop n.toNat).length (cap - n.toNat)) W) ∧
      ∀ (W : World) (e b : Nat) (ok : Nat → Prop), Kd.V (Kd.int .i64) e W b ok (.slice A l.length cap) l → Kd.FK (Kd.slice 2 (Kd.int .i64)) W ok (l.drop n.toNat) [.slice A' (l.drop n.toNat).length (cap - n.toNat)] := by
  obtain ⟨i033, hi033, _, hsz33, _⟩ := info_parts info2
  obtain ⟨m, rfl⟩ := Int.eq_ofNat_of_zero_le h0
  simp only [Int.toNat_natCast] at *
  have hm : m ≤ l.length := by omega
  refine ⟨if cap = m then A else A.map (·.add m), fun W => ?_, fun W e b ok hV => ?_⟩
  · have hel : Try.prog.elem 25 = 2 := by simp [Program.elem, Try.underlying25]
    have hu : Try.prog.underlying 25 = some (.slice (Try.prog.elem 25)) := by rw [hel]; exact Try.underlying25
    rw [run_slice_l W 25 A l.length cap hu .i64 (m : Int) (Int.natCast_nonneg _) (by omega), hel]
    simp [sizeOf, typeInfo, hi033, hsz33, sliced, Result.andThen, List.length_drop]
  · obtain ⟨A2, c2, hv, hl, hf⟩ := hV
    injection hv with hA hn hc
    subst hA hc
    refine Kd.FK_slice_mk (by rw [List.length_drop]; omega) ?_
    have := Kd.F_cut hf hm hcap
    simpa [show (Kd.int .i64).sz = 1 from rfl] using this
def impl_inverse.l0 : Nat → List (List Int) → Int → Int → Int → Int → Int → List Int → Int → Option (Int × Int × Int × List Int × Bool)
  | 0, _, _, _, _, _, _, _, _ => none
  | k + 1, x6, x27, x28, x102000, x102001, x102002, x102003, x104000 => if x28 < x27 then (if 0 ≤ x28 then (if x28 < (x6.length : Int) then (if x28 < ((rd_L2 x6 x28).length : Int) then (if (rd (rd_L2 x6 x28) x28) = 1 then ((impl_inverse.cutR (rd_L2 x6 x28) x104000).bind fun t120 => (impl_inverse.l0 k (x6.set (x28 : Int).toNat t120) x27 (wrap64 (x28 + 1)) x102000 x102001 x102002 x102003 x104000)) else (some (0, 0, 0, ([] : List Int), false))) else (none)) else (none)) else (none)) else ((impl_matrixOf.f k x102000 x104000 x6).bind fun bt124 => (some (bt124.1, bt124.2.1, bt124.2.2.1, bt124.2.2.2, true)))
def impl_inverse.f (k : Nat) (a0_0 : Int) (a0_1 : Int) (a0_2 : Int) (l0_3 : List Int) : Option (Int × Int × Int × List Int × Bool) := (impl_filled.f (impl_inverse_1.cell a0_1 a0_0 a0_1 a0_2 l0_3) k a0_0 a0_1 (wrap64 (2 * a0_1)) 0).bind fun bt104 => ((impl_eliminate.f k bt104.1 bt104.2.1 bt104.2.2.1 bt104.2.2.2 (wrap64 (2 * a0_1)) a0_0).bind fun bt111 => (impl_inverse.l0 k bt111.2.2 (bt111.2.2.length : Int) 0 a0_0 a0_1 a0_2 l0_3 a0_1))
theorem Z66.bb {w0 w w1 : World} {g : Nat} {o : Obj} (_B : Aside0 (w0.heap[g]? = some o)) (h : w.heap[g]? = some o) (hb : Below w.heap.size w w1) : w1.heap[g]? = some o := blk_below h hb
theorem Z66.bl {w0 w : World} {g : Nat} {o : Obj} (_B : Aside0 (w0.heap[g]? = some o)) (h : w.heap[g]? = some o) : g < w.heap.size := blk_lt h
theorem Z66.k {p : Prop} (h : p) : Aside0 p := ⟨h⟩
theorem Z66.z19 {P : Prop} (h : P := by (repeat (first | (with_reducible first | refine blk_drewN ?_ _ | refine blk_drew ?_ | refine blk_alloc ?_ _) | refine blk_far ?_ NB101_103.out _)); exact BK101.out) : P := h
theorem Z66.z18 {P : Prop} (h : P := by (repeat (first | (with_reducible first | refine blk_drewN ?_ _ | refine blk_drew ?_ | refine blk_alloc ?_ _) | refine blk_far ?_ NB102_110.out _)); exact BK102.out) : P := h
theorem Z66.z17 {P : Prop} (h : P := by repeat (first | (with_reducible exact HR118_0.out) | (with_reducible refine Kd.C_alloc ?_ _) | (with_reducible refine Kd.C_drewN ?_ _) | (with_reducible refine Kd.C_drew ?_) | exact HR118_0.out)) : P := h
theorem Z66.z16 {P : Prop} (h : P := by (with_reducible repeat (first | apply Kd.R_alloc | apply Kd.R_drewN | apply Kd.R_drew)); exact HO_111003.out) : P := h
theorem Z66.z15 {P : Prop} (h : P := by (with_reducible repeat (first | refine blk_drewN ?_ _ | refine blk_drew ?_ | refine blk_alloc ?_ _)); exact BK110.out) : P := h
theorem Z66.z14 {P : Prop} (h : P := by repeat (first | (with_reducible first | exact HB.out | apply below_alloc | apply pw_below_drewN | apply below_drew1) | exact HB.out)) : P := h
theorem Z66.z13 {P : Prop} (h : P := by repeat (first | (with_reducible first | exact HB.out | apply below_alloc | apply pw_below_drewN | apply below_drew1 | refine below_set ?_ GE101.out) | exact HB.out)) : P := h
theorem Z66.z12 {P : Prop} (h : P := by repeat (first | (with_reducible first | exact HB.out | apply below_alloc | apply pw_below_drewN | apply below_drew1 | refine below_set ?_ GE101.out | refine below_set ?_ GE102.out) | exact HB.out)) : P := h
theorem Z66.z11 {P : Prop} (h : P := by (try simp only [List.map_toArray, List.map_cons, List.map_nil]); first | done | rfl | (simp only [List.length_drop, List.length_take]; rfl)) : P := h
theorem Z66.z10 {P : Prop} (h : P := by (with_reducible repeat (first | refine blk_drewN ?_ _ | refine blk_drew ?_ | refine blk_alloc ?_ _)); refine blk_put (cs := #[.int .i64 0]) ?_ 0 _ rfl; (with_reducible repeat (first | refine blk_drewN ?_ _ | refine blk_drew ?_ | refine blk_alloc ?_ _)); exact BK103.out) : P := h
theorem Z66.z9 {P : Prop} (h : P := by first | (with_reducible assumption) | assumption) : P := h
theorem Z66.z8 {P : Prop} (h : P := by (repeat (first | (with_reducible first | refine blk_drewN ?_ _ | refine blk_drew ?_ | refine blk_alloc ?_ _) | refine blk_far ?_ NB103_110.out _)); exact BK103.out) : P := h
theorem Z66.z7 {P : Prop} (h : P := by (with_reducible repeat (first | refine blk_drewN ?_ _ | refine blk_drew ?_ | refine blk_alloc ?_ _)); exact BK103.out) : P := h
theorem Z66.z6 {P : Prop} (h : P := by (with_reducible repeat (first | refine blk_drewN ?_ _ | refine blk_drew ?_ | refine blk_alloc ?_ _)); exact BK102.out) : P := h
theorem Z66.z5 {P : Prop} (h : P := by repeat (first | (with_reducible first | exact HB.out | apply below_alloc | apply pw_below_drewN | apply below_drew1 | refine below_set ?_ GE101.out | refine below_set ?_ GE102.out | refine below_set ?_ GE103.out) | exact HB.out)) : P := h
theorem Z66.z4 {P : Prop} (h : P := by (with_reducible repeat (first | refine blk_drewN ?_ _ | refine blk_drew ?_ | refine blk_alloc ?_ _)); exact BK101.out) : P := h
theorem Z66.z3 {P : Prop} (h : P := by (repeat (first | (with_reducible first | refine blk_drewN ?_ _ | refine blk_drew ?_ | refine blk_alloc ?_ _) | refine blk_far ?_ NB101_110.out _)); exact BK101.out) : P := h
theorem Z66.z2 {P : Prop} (h : P := by (with_reducible repeat (first | apply Kd.R_alloc | apply Kd.R_drewN | apply Kd.R_drew)); exact (Kd.R_mono (Kd.R_far (p := ⟨gb110, 3, none⟩) (Kd.R_far (p := ⟨gb110, 2, none⟩) (Kd.R_far (p := ⟨gb110, 1, none⟩) (Kd.R_far (p := ⟨gb110, 0, none⟩) (Kd.R_types HO109.out BK110.out (by decide)) (fun _ hk => hk.2) (.int .i64 t104)) (fun _ hk => hk.2) (.int .i64 t105)) (fun _ hk => hk.2) (.int .i64 t106)) (fun _ hk => hk.2) (.slice Ao19 t107.length co19)) (fun _ h_ => h_.1))) : P := h
theorem Z66.z1 {P : Prop} (h : P := by repeat (first | (with_reducible first | exact HB.out | apply below_alloc | apply pw_below_drewN | apply below_drew1 | refine below_set ?_ GE101.out | refine below_set ?_ GE102.out | refine below_set ?_ GE103.out | refine below_set ?_ GE110.out) | exact HB.out)) : P := h
theorem Z66.z0 {P : Prop} (h : P := by (with_reducible repeat (first | refine blk_drewN ?_ _ | refine blk_drew ?_ | refine blk_alloc ?_ _)); refine blk_put (cs := #[.int .i64 t104, .int .i64 t105, .int .i64 t106, .slice none 0 0]) ?_ 3 _ rfl; (with_reducible repeat (first | refine blk_drewN ?_ _ | refine blk_drew ?_ | refine blk_alloc ?_ _)); refine blk_put (cs := #[.int .i64 t104, .int .i64 t105, .int .i64 0, .slice none 0 0]) ?_ 2 _ rfl; (with_reducible repeat (first | refine blk_drewN ?_ _ | refine blk_drew ?_ | refine blk_alloc ?_ _)); refine blk_put (cs := #[.int .i64 t104, .int .i64 0, .int .i64 0, .slice none 0 0]) ?_ 1 _ rfl; (with_reducible repeat (first | refine blk_drewN ?_ _ | refine blk_drew ?_ | refine blk_alloc ?_ _)); refine blk_put (cs := #[.int .i64 0, .int .i64 0, .int .i64 0, .slice none 0 0]) ?_ 0 _ rfl; (with_reducible repeat (first | refine blk_drewN ?_ _ | refine blk_drew ?_ | refine blk_alloc ?_ _)); exact BK110.out) : P := h
set_option maxHeartbeats 8000000 in
set_option maxRecDepth 100000 in
theorem impl_inverse.calls (k : Nat) (a0_0 : Int) (a0_1 : Int) (a0_2 : Int) (A0_3 : Option Addr) (c0_3 : Nat) (l0_3 : List Int) (r1 : Int) (r2 : Int) (r3 : Int) (r4 : List Int) (r5 : Bool) (w : World) (hr0_3 : Kd.C (Kd.int .i64) w A0_3 l0_3.length l0_3) (hc0_3 : l0_3.length ≤ c0_3) (h : impl_inverse.f k a0_0 a0_1 a0_2 l0_3 = some (r1, r2, r3, r4, r5)) :
  Calls Try.prog 66 #[.agg #[.int .i64 a0_0, .int .i64 a0_1, .int .i64 a0_2, .slice A0_3 l0_3.length c0_3]] w fun e w' => ∃ v3_ : Value, e = .returned (.tuple #[.agg #[.int .i64 r1, .int .i64 r2, .int .i64 r3, v3_], .bool r5]) ∧ Kd.R (Kd.int .i64) 2 w' w.heap.size (fun _ => True) v3_ r4 ∧ Below w.heap.size w w' := by
 have hu27 := Try.underlying27
 have HR0_3 := Z66.k hr0_3
 have HC0_3 := Z66.k hc0_3
 clear hr0_3 hc0_3
 have HB := Z66.k (Below.refl w.heap.size w)
 have H : ((impl_filled.f (impl_inverse_1.cell a0_1 a0_0 a0_1 a0_2 l0_3) k a0_0 a0_1 (wrap64 (2 * a0_1)) 0).bind fun bt104 => ((impl_eliminate.f k bt104.1 bt104.2.1 bt104.2.2.1 bt104.2.2.2 (wrap64 (2 * a0_1)) a0_0).bind fun bt111 => (impl_inverse.l0 k bt111.2.2 (bt111.2.2.length : Int) 0 a0_0 a0_1 a0_2 l0_3 a0_1))) = some (r1, r2, r3, r4, r5) := h
 clear h
 replace H := Option.bind_eq_some_iff.mp H
 obtain ⟨⟨t104, t105, t106, t107⟩, A20, H⟩ := H
 replace H : ((impl_eliminate.f k t104 t105 t106 t107 (wrap64 (2 * a0_1)) a0_0).bind fun bt111 => (impl_inverse.l0 k bt111.2.2 (bt111.2.2.length : Int) 0 a0_0 a0_1 a0_2 l0_3 a0_1)) = some (r1, r2, r3, r4, r5) := H
 have A2 := Z66.k A20
 clear A20
 replace H := Option.bind_eq_some_iff.mp H
 obtain ⟨⟨t111, t114, t115⟩, A30, H⟩ := H
 replace H : (impl_inverse.l0 k t115 (t115.length : Int) 0 a0_0 a0_1 a0_2 l0_3 a0_1) = some (r1, r2, r3, r4, r5) := H
 have A3 := Z66.k A30
 clear A30
 have H' := Z66.k H
 clear H
 obtain ⟨tR_, AR_, AE_⟩ := Option.bind_eq_some_iff.mp A3.out
 replace AR_ := Z66.k AR_
 replace AE_ := Z66.k AE_
 go_enter Try.func66, Try.ntmps66
 go_wp2_with (first | ((with_reducible refine gate_dst (N := 1) rfl ?_); refine box_event ?hg (N := 1) ?hd (cs := #[.int .i64 a0_0, .int .i64 a0_1, .int .i64 a0_2, .slice A0_3 l0_3.length c0_3]) (t := 27) ?hr ?_; (case hd => rfl); (case hg => rfl); (case hr => first | (go_simp; done) | (go_simp; rfl)); intro gb101 hg w4 hbox hb; have n0_ := Z66.k (below_step Z66.z14 hb); have n1_ := Z66.k (hbox); have n2_ := Z66.k (show w.heap.size ≤ gb101 from (by rw [hg]; exact (below_size Z66.z14))); have n3_ := Z66.k (show w.heap.size ≤ gb101 from (by rw [hg]; exact (below_size Z66.z14))); clear HB; have HB := n0_; have BK101 := n1_; have GW101 := n2_; have GE101 := n3_; clear n0_ n1_ n2_ n3_; clear hb hbox hg) | ((with_reducible refine gate_dst (N := 2) rfl ?_); refine box_event ?hg (N := 2) ?hd (cs := #[.int .i64 0, .int .i64 0, .int .i64 0, .slice none 0 0]) (t := 27) ?hr ?_; (case hd => rfl); (case hg => rfl); (case hr => first | (go_simp; done) | (go_simp; rfl)); intro gb102 hg w5 hbox hb; have n0_ := Z66.k (Z66.bb BK101 Z66.z4 hb); have n1_ := Z66.k (below_step Z66.z13 hb); have n2_ := Z66.k (hbox); have n3_ := Z66.k (show w.heap.size ≤ gb102 from (by rw [hg]; exact (below_size Z66.z13))); have n4_ := Z66.k (show w.heap.size ≤ gb102 from (by rw [hg]; exact (below_size Z66.z13))); have n5_ := Z66.k (show gb101 ≠ gb102 from (by rw [hg]; exact Nat.ne_of_lt (Z66.bl BK101 Z66.z4))); have n6_ := Z66.k (show gb102 ≠ gb101 from (by rw [hg]; exact Nat.ne_of_gt (Z66.bl BK101 Z66.z4))); clear BK101 HB; have BK101 := n0_; have HB := n1_; have BK102 := n2_; have GW102 := n3_; have GE102 := n4_; have NB101_102 := n5_; have NB102_101 := n6_; clear n0_ n1_ n2_ n3_ n4_ n5_ n6_; clear hb hbox hg; have hnb6 := NB101_102.out; have hnc6 := NB102_101.out; have hcz7_0 : w5.cell? ⟨gb101, 0, none⟩ = some (.int .i64 a0_0) := (blk_cell BK101.out 0).trans rfl; have hcz7_1 : w5.cell? ⟨gb101, 1, none⟩ = some (.int .i64 a0_1) := (blk_cell BK101.out 1).trans rfl; have hcz7_2 : w5.cell? ⟨gb101, 2, none⟩ = some (.int .i64 a0_2) := (blk_cell BK101.out 2).trans rfl; have hcz7_3 : w5.cell? ⟨gb101, 3, none⟩ = some (.slice A0_3 l0_3.length c0_3) := (blk_cell BK101.out 3).trans rfl; have hfz7_0 := blk_frozen BK101.out 0; have hfz7_1 := blk_frozen BK101.out 1; have hfz7_2 := blk_frozen BK101.out 2; have hfz7_3 := blk_frozen BK101.out 3) | ((with_reducible refine gate_dst (N := 4) rfl ?_); refine box_event ?hg (N := 4) ?hd (cs := #[.int .i64 0]) (t := 2) ?hr ?_; (case hd => rfl); (case hg => rfl); (case hr => first | (go_simp; done) | (go_simp; rfl)); intro gb103 hg w8 hbox hb; have n0_ := Z66.k (Z66.bb BK101 Z66.z4 hb); have n1_ := Z66.k (Z66.bb BK102 Z66.z6 hb); have n2_ := Z66.k (below_step Z66.z12 hb); have n3_ := Z66.k (hbox); have n4_ := Z66.k (show w.heap.size ≤ gb103 from (by rw [hg]; exact (below_size Z66.z12))); have n5_ := Z66.k (show w.heap.size ≤ gb103 from (by rw [hg]; exact (below_size Z66.z12))); have n6_ := Z66.k (show gb101 ≠ gb103 from (by rw [hg]; exact Nat.ne_of_lt (Z66.bl BK101 Z66.z4))); have n7_ := Z66.k (show gb103 ≠ gb101 from (by rw [hg]; exact Nat.ne_of_gt (Z66.bl BK101 Z66.z4))); have n8_ := Z66.k (show gb102 ≠ gb103 from (by rw [hg]; exact Nat.ne_of_lt (Z66.bl BK102 Z66.z6))); have n9_ := Z66.k (show gb103 ≠ gb102 from (by rw [hg]; exact Nat.ne_of_gt (Z66.bl BK102 Z66.z6))); clear BK101 BK102 HB; have BK101 := n0_; have BK102 := n1_; have HB := n2_; have BK103 := n3_; have GW103 := n4_; have GE103 := n5_; have NB101_103 := n6_; have NB103_101 := n7_; have NB102_103 := n8_; have NB103_102 := n9_; clear n0_ n1_ n2_ n3_ n4_ n5_ n6_ n7_ n8_ n9_; clear hb hbox hg; have hnb9 := NB103_101.out; have hnc9 := NB101_103.out; have hnb10 := NB103_102.out; have hnc10 := NB102_103.out; have hcz11_0 : w8.cell? ⟨gb103, 0, none⟩ = some (.int .i64 0) := (blk_cell BK103.out 0).trans rfl; have hfz11_0 := blk_frozen BK103.out 0; have hcz12_0 : w8.cell? ⟨gb101, 0, none⟩ = some (.int .i64 a0_0) := (blk_cell BK101.out 0).trans rfl; have hcz12_1 : w8.cell? ⟨gb101, 1, none⟩ = some (.int .i64 a0_1) := (blk_cell BK101.out 1).trans rfl; have hcz12_2 : w8.cell? ⟨gb101, 2, none⟩ = some (.int .i64 a0_2) := (blk_cell BK101.out 2).trans rfl; have hcz12_3 : w8.cell? ⟨gb101, 3, none⟩ = some (.slice A0_3 l0_3.length c0_3) := (blk_cell BK101.out 3).trans rfl; have hfz12_0 := blk_frozen BK101.out 0; have hfz12_1 := blk_frozen BK101.out 1; have hfz12_2 := blk_frozen BK101.out 2; have hfz12_3 := blk_frozen BK101.out 3) | ((with_reducible refine gate_callee (f := 62) rfl ?_); refine goesL_ (some 17) rfl rfl Try.func62 (by kernel_rfl) rfl #[.int .i64 a0_0, .int .i64 a0_1, .int .i64 (wrap64 (2 * a0_1)), .func (.func 115) #[] #[.pointer (some ⟨gb103, 0, none⟩), .pointer (some ⟨gb101, 0, none⟩)]] rfl Z66.z11 ?_; (refine (impl_filled.calls (impl_inverse_1.cell a0_1 a0_0 a0_1 a0_2 l0_3) 115 #[.pointer (some ⟨gb103, 0, none⟩), .pointer (some ⟨gb101, 0, none⟩)] (enters_of Try.func115 (by kernel_rfl) rfl) k a0_0 a0_1 (wrap64 (2 * a0_1)) 0 t104 t105 t106 t107 _ (impl_inverse_1.cells gb103 gb101 a0_1 a0_0 a0_1 a0_2 A0_3 c0_3 l0_3 _ Z66.z10 Z66.z19 (Kd.C_below HR0_3.out Z66.z5) HC0_3.out) A2.out).mono ?_); rintro e w13 ⟨v108, rfl, ho0, hb⟩; refine ⟨_, rfl, ?_⟩; have n0_ := Z66.k (Kd.R_lower (Kd.R_newB ho0 (g := gb103) (o := .cells #[.int .i64 a0_1] 2 (0, 0)) Z66.z10) (below_size Z66.z5)); have n1_ := Z66.k (Z66.bb BK101 Z66.z19 hb); have n2_ := Z66.k (Z66.bb BK102 (by (repeat (first | (with_reducible first | refine blk_drewN ?_ _ | refine blk_drew ?_ | refine blk_alloc ?_ _) | refine blk_far ?_ NB102_103.out _)); exact BK102.out) hb); have n3_ := Z66.k (blk_below (g := gb103) (o := .cells #[.int .i64 a0_1] 2 (0, 0)) Z66.z10 hb); have n4_ := Z66.k (below_step Z66.z5 hb); clear BK101 BK102 BK103 HB; have HO109 := n0_; have BK101 := n1_; have BK102 := n2_; have BK103 := n3_; have HB := n4_; clear n0_ n1_ n2_ n3_ n4_; (try clear hb); (try clear hb2); (try clear hk); (try clear hi); (try clear ho0)) | ((with_reducible refine gate_dst (N := 5) rfl ?_); refine box_event ?hg (N := 5) ?hd (cs := #[.int .i64 0, .int .i64 0, .int .i64 0, .slice none 0 0]) (t := 27) ?hr ?_; (case hd => rfl); (case hg => rfl); (case hr => first | (go_simp; done) | (go_simp; rfl)); intro gb110 hg w14 hbox hb; have n0_ := Z66.k (Kd.R_below (by (with_reducible repeat (first | apply Kd.R_alloc | apply Kd.R_drewN | apply Kd.R_drew)); exact HO109.out) hb); have n1_ := Z66.k (Z66.bb BK101 Z66.z4 hb); have n2_ := Z66.k (Z66.bb BK102 Z66.z6 hb); have n3_ := Z66.k (Z66.bb BK103 Z66.z7 hb); have n4_ := Z66.k (below_step Z66.z5 hb); have n5_ := Z66.k (hbox); have n6_ := Z66.k (show w.heap.size ≤ gb110 from (by rw [hg]; exact (below_size Z66.z5))); have n7_ := Z66.k (show w.heap.size ≤ gb110 from (by rw [hg]; exact (below_size Z66.z5))); have n8_ := Z66.k (show gb101 ≠ gb110 from (by rw [hg]; exact Nat.ne_of_lt (Z66.bl BK101 Z66.z4))); have n9_ := Z66.k (show gb110 ≠ gb101 from (by rw [hg]; exact Nat.ne_of_gt (Z66.bl BK101 Z66.z4))); have n10_ := Z66.k (show gb102 ≠ gb110 from (by rw [hg]; exact Nat.ne_of_lt (Z66.bl BK102 Z66.z6))); have n11_ := Z66.k (show gb110 ≠ gb102 from (by rw [hg]; exact Nat.ne_of_gt (Z66.bl BK102 Z66.z6))); have n12_ := Z66.k (show gb103 ≠ gb110 from (by rw [hg]; exact Nat.ne_of_lt (Z66.bl BK103 Z66.z7))); have n13_ := Z66.k (show gb110 ≠ gb103 from (by rw [hg]; exact Nat.ne_of_gt (Z66.bl BK103 Z66.z7))); clear HO109 BK101 BK102 BK103 HB; have HO109 := n0_; have BK101 := n1_; have BK102 := n2_; have BK103 := n3_; have HB := n4_; have BK110 := n5_; have GW110 := n6_; have GE110 := n7_; have NB101_110 := n8_; have NB110_101 := n9_; have NB102_110 := n10_; have NB110_102 := n11_; have NB103_110 := n12_; have NB110_103 := n13_; clear n0_ n1_ n2_ n3_ n4_ n5_ n6_ n7_ n8_ n9_ n10_ n11_ n12_ n13_; clear hb hbox hg; have hnb15 := NB110_101.out; have hnc15 := NB101_110.out; have hnb16 := NB110_102.out; have hnc16 := NB102_110.out; have hnb17 := NB110_103.out; have hnc17 := NB103_110.out; have hcz18_0 : w14.cell? ⟨gb110, 0, none⟩ = some (.int .i64 0) := (blk_cell BK110.out 0).trans rfl; have hcz18_1 : w14.cell? ⟨gb110, 1, none⟩ = some (.int .i64 0) := (blk_cell BK110.out 1).trans rfl; have hcz18_2 : w14.cell? ⟨gb110, 2, none⟩ = some (.int .i64 0) := (blk_cell BK110.out 2).trans rfl; have hcz18_3 : w14.cell? ⟨gb110, 3, none⟩ = some (.slice none 0 0) := (blk_cell BK110.out 3).trans rfl; have hfz18_0 := blk_frozen BK110.out 0; have hfz18_1 := blk_frozen BK110.out 1; have hfz18_2 := blk_frozen BK110.out 2; have hfz18_3 := blk_frozen BK110.out 3; obtain ⟨Ao19, co19, eo19⟩ := Kd.R_slice HO109.out; subst eo19; have hcz20_0 : w14.cell? ⟨gb103, 0, none⟩ = some (.int .i64 a0_1) := (blk_cell BK103.out 0).trans rfl; have hfz20_0 := blk_frozen BK103.out 0; have hcz21_0 : w14.cell? ⟨gb101, 0, none⟩ = some (.int .i64 a0_0) := (blk_cell BK101.out 0).trans rfl; have hcz21_1 : w14.cell? ⟨gb101, 1, none⟩ = some (.int .i64 a0_1) := (blk_cell BK101.out 1).trans rfl; have hcz21_2 : w14.cell? ⟨gb101, 2, none⟩ = some (.int .i64 a0_2) := (blk_cell BK101.out 2).trans rfl; have hcz21_3 : w14.cell? ⟨gb101, 3, none⟩ = some (.slice A0_3 l0_3.length c0_3) := (blk_cell BK101.out 3).trans rfl; have hfz21_0 := blk_frozen BK101.out 0; have hfz21_1 := blk_frozen BK101.out 1; have hfz21_2 := blk_frozen BK101.out 2; have hfz21_3 := blk_frozen BK101.out 3) | ((with_reducible refine gate_callee (f := 55) rfl ?_); refine goesL_ (some 19) rfl rfl Try.func55 (by kernel_rfl) rfl #[.agg #[.int .i64 t104, .int .i64 t105, .int .i64 t106, .slice Ao19 t107.length co19]] rfl Z66.z11 ?_; (with_reducible refine (impl_rowsOf.calls k t104 t105 t106 _ _ t107 tR_ _ ?side1 ?side2 AR_.out).mono ?_); (case side1 => exact (by refine (Kd.R_reads' (e := 2) (base := w.heap.size) (ok := fun k_ => (True ∧ k_ ≠ gb103)) (n := t107.length) (c := co19) ?_).2.2; exact Z66.z2)); (case side2 => exact (Kd.R_reads' HO109.out).2.1); rintro e w8a ⟨vR_, rfl, hoR_, hbR_⟩; refine ⟨_, rfl, ?_⟩; have HOR_ := Z66.k (Kd.N_mono (ok' := fun k_ => _ ≤ k_) (Kd.S_N (Kd.S_bound hoR_)) (fun k_ hk_ => hk_.2.1)); have HBR_ := Z66.k hbR_; have hczRgb101_0 : w8a.cell? ⟨gb101, 0, none⟩ = some (.int .i64 a0_0) := (blk_cell (Z66.bb BK101 Z66.z3 hbR_) 0).trans rfl; have hfzRgb101_0 := blk_frozen (Z66.bb BK101 Z66.z3 hbR_) 0; have hczRgb101_1 : w8a.cell? ⟨gb101, 1, none⟩ = some (.int .i64 a0_1) := (blk_cell (Z66.bb BK101 Z66.z3 hbR_) 1).trans rfl; have hfzRgb101_1 := blk_frozen (Z66.bb BK101 Z66.z3 hbR_) 1; have hczRgb101_2 : w8a.cell? ⟨gb101, 2, none⟩ = some (.int .i64 a0_2) := (blk_cell (Z66.bb BK101 Z66.z3 hbR_) 2).trans rfl; have hfzRgb101_2 := blk_frozen (Z66.bb BK101 Z66.z3 hbR_) 2; have hczRgb101_3 : w8a.cell? ⟨gb101, 3, none⟩ = some (.slice A0_3 l0_3.length c0_3) := (blk_cell (Z66.bb BK101 Z66.z3 hbR_) 3).trans rfl; have hfzRgb101_3 := blk_frozen (Z66.bb BK101 Z66.z3 hbR_) 3; have hczRgb103_0 : w8a.cell? ⟨gb103, 0, none⟩ = some (.int .i64 a0_1) := (blk_cell (Z66.bb BK103 Z66.z8 hbR_) 0).trans rfl; have hfzRgb103_0 := blk_frozen (Z66.bb BK103 Z66.z8 hbR_) 0; have hczRgb110_0 : w8a.cell? ⟨gb110, 0, none⟩ = some (.int .i64 t104) := (blk_cell (blk_below (g := gb110) (o := .cells #[.int .i64 t104, .int .i64 t105, .int .i64 t106, .slice Ao19 t107.length co19] 27 (0, 0)) Z66.z0 hbR_) 0).trans rfl; have hfzRgb110_0 := blk_frozen (blk_below (g := gb110) (o := .cells #[.int .i64 t104, .int .i64 t105, .int .i64 t106, .slice Ao19 t107.length co19] 27 (0, 0)) Z66.z0 hbR_) 0; have hczRgb110_1 : w8a.cell? ⟨gb110, 1, none⟩ = some (.int .i64 t105) := (blk_cell (blk_below (g := gb110) (o := .cells #[.int .i64 t104, .int .i64 t105, .int .i64 t106, .slice Ao19 t107.length co19] 27 (0, 0)) Z66.z0 hbR_) 1).trans rfl; have hfzRgb110_1 := blk_frozen (blk_below (g := gb110) (o := .cells #[.int .i64 t104, .int .i64 t105, .int .i64 t106, .slice Ao19 t107.length co19] 27 (0, 0)) Z66.z0 hbR_) 1; have hczRgb110_2 : w8a.cell? ⟨gb110, 2, none⟩ = some (.int .i64 t106) := (blk_cell (blk_below (g := gb110) (o := .cells #[.int .i64 t104, .int .i64 t105, .int .i64 t106, .slice Ao19 t107.length co19] 27 (0, 0)) Z66.z0 hbR_) 2).trans rfl; have hfzRgb110_2 := blk_frozen (blk_below (g := gb110) (o := .cells #[.int .i64 t104, .int .i64 t105, .int .i64 t106, .slice Ao19 t107.length co19] 27 (0, 0)) Z66.z0 hbR_) 2; have hczRgb110_3 : w8a.cell? ⟨gb110, 3, none⟩ = some (.slice Ao19 t107.length co19) := (blk_cell (blk_below (g := gb110) (o := .cells #[.int .i64 t104, .int .i64 t105, .int .i64 t106, .slice Ao19 t107.length co19] 27 (0, 0)) Z66.z0 hbR_) 3).trans rfl; have hfzRgb110_3 := blk_frozen (blk_below (g := gb110) (o := .cells #[.int .i64 t104, .int .i64 t105, .int .i64 t106, .slice Ao19 t107.length co19] 27 (0, 0)) Z66.z0 hbR_) 3; clear hoR_ hbR_) | ((with_reducible refine gate_callee (f := 56) rfl ?_); refine goesL_ (some 25) rfl rfl Try.func56 (by kernel_rfl) rfl #[vR_, .int .i64 (wrap64 (2 * a0_1)), .int .i64 a0_0] rfl Z66.z11 ?_; (with_reducible refine (impl_eliminate.calls k vR_ tR_ (wrap64 (2 * a0_1)) a0_0 t111 t114 t115 _ _ HBR_.out HOR_.out AE_.out).mono ?_); rintro e w22 ⟨v112, rfl, ho0, ho1, hb⟩; refine ⟨_, rfl, ?_⟩; have n0_ := Z66.k (Kd.R_elder' Z66.z2 (Kd.R_base ho0) hb); have n1_ := Z66.k (Kd.R_lower (Kd.R_newB (Kd.R_new' (Kd.R_mono (ok' := fun k_ => True) ho0 (fun _ hk_ => trivial)) (Kd.R_lt Z66.z2)) (g := gb103) (o := .cells #[.int .i64 a0_1] 2 (0, 0)) Z66.z8) (below_size Z66.z1)); have n2_ := Z66.k (Kd.N_lower (Kd.N_mono (ok' := fun k_ => some k_ ≠ (v112 : Value).ownBlock ∧ some k_ ≠ (.slice Ao19 t107.length co19 : Value).ownBlock ∧ k_ ≠ gb101 ∧ k_ ≠ gb102 ∧ k_ ≠ gb103 ∧ k_ ≠ gb110) ho1 (fun k_ hk_ => ⟨hk_.2, (Kd.fresh' (Kd.R_lt Z66.z2) k_ hk_.1), (Kd.freshB (g := gb101) (o := .cells #[.int .i64 a0_0, .int .i64 a0_1, .int .i64 a0_2, .slice A0_3 l0_3.length c0_3] 27 (0, 0)) Z66.z3 k_ hk_.1), (Kd.freshB (g := gb102) (o := .cells #[.int .i64 0, .int .i64 0, .int .i64 0, .slice none 0 0] 27 (0, 0)) Z66.z18 k_ hk_.1), (Kd.freshB (g := gb103) (o := .cells #[.int .i64 a0_1] 2 (0, 0)) Z66.z8 k_ hk_.1), (Kd.freshB (g := gb110) (o := .cells #[.int .i64 t104, .int .i64 t105, .int .i64 t106, .slice Ao19 t107.length co19] 27 (0, 0)) Z66.z0 k_ hk_.1)⟩)) (below_size Z66.z1)); have n3_ := Z66.k (Z66.bb BK101 Z66.z3 hb); have n4_ := Z66.k (Z66.bb BK102 Z66.z18 hb); have n5_ := Z66.k (Z66.bb BK103 Z66.z8 hb); have n6_ := Z66.k (blk_below (g := gb110) (o := .cells #[.int .i64 t104, .int .i64 t105, .int .i64 t106, .slice Ao19 t107.length co19] 27 (0, 0)) Z66.z0 hb); have n7_ := Z66.k (below_step Z66.z1 hb); clear HO109 BK101 BK102 BK103 BK110 HB; have HO109 := n0_; have HO113 := n1_; have HO117 := n2_; have BK101 := n3_; have BK102 := n4_; have BK103 := n5_; have BK110 := n6_; have HB := n7_; clear n0_ n1_ n2_ n3_ n4_ n5_ n6_ n7_; (try clear hb); (try clear hb2); (try clear hk); (try clear hi); (try clear ho0); (try clear ho1); obtain ⟨Ao23, co23, eo23⟩ := Kd.N_slice HO117.out; subst eo23))
 go_loopg [28] k (fun kq v28 w' => ∃ (x6_1 : List (List Int)) (x28_1 : Int) (x103000_1 : Int) (x103001_1 : Int) (x103002_1 : Int), v28 = .int .i64 x28_1 ∧ Aside0 (impl_inverse.l0 kq x6_1 (t115.length : Int) x28_1 a0_0 a0_1 a0_2 l0_3 a0_1 = some (r1, r2, r3, r4, r5)) ∧ Aside0 (kq ≤ k) ∧ Aside0 (Kd.N (Kd.slice 2 (Kd.int .i64)) 25 w' w.heap.size (fun k_ => some k_ ≠ ((.slice Ao19 t107.length co19) : Value).ownBlock ∧ k_ ≠ gb101 ∧ k_ ≠ gb102 ∧ k_ ≠ gb103 ∧ k_ ≠ gb110) (.slice Ao23 t115.length co23) x6_1) ∧ Aside0 (Kd.R (Kd.int .i64) 2 w' w.heap.size (fun k_ => k_ ≠ gb103) (.slice Ao19 t107.length co19) t107) ∧ Aside0 (w'.heap[gb101]? = some (.cells #[.int .i64 a0_0, .int .i64 a0_1, .int .i64 a0_2, (.slice A0_3 l0_3.length c0_3)] 27 (0, 0))) ∧ Aside0 (w'.heap[gb102]? = some (.cells #[.int .i64 x103000_1, .int .i64 x103001_1, .int .i64 x103002_1, (.slice none 0 0)] 27 (0, 0))) ∧ Aside0 (w'.heap[gb103]? = some (.cells #[.int .i64 a0_1] 2 (0, 0))) ∧ Aside0 (w'.heap[gb110]? = some (.cells #[.int .i64 t104, .int .i64 t105, .int .i64 t106, (.slice Ao19 t107.length co19)] 27 (0, 0))) ∧ Aside0 (Below w.heap.size w w'))
 case atStart => exact ⟨(t115), (0), (0), (0), (0), (by first | rfl | (simp; done) | (simp [*]; done)), H', ⟨Nat.le_refl _⟩, ⟨(by (with_reducible repeat (first | apply Kd.N_alloc | apply Kd.N_drewN | apply Kd.N_drew)); exact Kd.N_mono HO117.out (fun _ hk => ⟨hk.2.1, ⟨hk.2.2.1, ⟨hk.2.2.2.1, ⟨hk.2.2.2.2.1, hk.2.2.2.2.2⟩⟩⟩⟩))⟩, ⟨(by (with_reducible repeat (first | apply Kd.R_alloc | apply Kd.R_drewN | apply Kd.R_drew)); exact Kd.R_mono HO109.out (fun _ hk => hk.1.2))⟩, ⟨Z66.z4⟩, ⟨Z66.z6⟩, ⟨Z66.z7⟩, ⟨Z66.z15⟩, ⟨Z66.z1⟩⟩
 case round =>
  clear H'
  try clear c1
  try clear p2
  try clear c5
  try clear c6
  try clear p6
  try clear c9
  try clear c10
  try clear c15
  try clear c16
  try clear c17
  try clear hcz11_0
  try clear hcz12_0
  try clear hcz12_1
  try clear hcz12_2
  try clear hcz12_3
  try clear hcz18_0
  try clear hcz18_1
  try clear hcz18_2
  try clear hcz18_3
  try clear hcz20_0
  try clear hcz21_0
  try clear hcz21_1
  try clear hcz21_2
  try clear hcz21_3
  try clear hcz7_0
  try clear hcz7_1
  try clear hcz7_2
  try clear hcz7_3
  try clear hfz11_0
  try clear hfz12_0
  try clear hfz12_1
  try clear hfz12_2
  try clear hfz12_3
  try clear hfz18_0
  try clear hfz18_1
  try clear hfz18_2
  try clear hfz18_3
  try clear hfz20_0
  try clear hfz21_0
  try clear hfz21_1
  try clear hfz21_2
  try clear hfz21_3
  try clear hfz7_0
  try clear hfz7_1
  try clear hfz7_2
  try clear hfz7_3
  obtain ⟨x6_1, x28_1, x103000_1, x103001_1, x103002_1, rfl, HA, HK1, HO_6, HO_111003, BK101, BK102, BK103, BK110, HB⟩ := hrel
  have hl6_1 := (Kd.N_reads' HO_6.out).1
  rw [hl6_1] at HO_6
  (try simp only [hl6_1])
  (try simp only [hl6_1] at BK101)
  (try simp only [hl6_1] at BK102)
  (try simp only [hl6_1] at BK103)
  (try simp only [hl6_1] at BK110)
  (try simp only [hl6_1] at HO_111003)
  cases gk with
  | zero => exact absurd HA.out (by simp [impl_inverse.l0])
  | succ k1 =>
   have H := HA.out
   clear HA
   simp only [impl_inverse.l0] at H
   by_cases c24 : x28_1 < (t115.length : Int)
   ·rw [if_pos c24] at H
    have c24b0 : decide (x28_1 < (t115.length : Int)) = true := decide_eq_true c24
    clear c24
    by_cases c25 : 0 ≤ x28_1
    ·rw [if_pos c25] at H
     have c25b0 : decide (0 ≤ x28_1) = true := decide_eq_true c25
     clear c25
     by_cases c26 : x28_1 < (x6_1.length : Int)
     ·rw [if_pos c26] at H
      have c26b0 : decide (x28_1 < (x6_1.length : Int)) = true := decide_eq_true c26
      clear c26
      by_cases c27 : x28_1 < ((rd_L2 x6_1 x28_1).length : Int)
      ·rw [if_pos c27] at H
       have c27b0 : decide (x28_1 < ((rd_L2 x6_1 x28_1).length : Int)) = true := decide_eq_true c27
       clear c27
       by_cases c28 : (rd (rd_L2 x6_1 x28_1) x28_1) = 1
       ·rw [if_pos c28] at H
        have c28b0 : ((rd (rd_L2 x6_1 x28_1) x28_1) == 1) = true := beq_iff_eq.mpr c28
        have c28b1 : ((rd (rd_L2 x6_1 x28_1) x28_1) != 1) = false := bne_eq_false_iff_eq.mpr c28
        clear c28
        replace H := Option.bind_eq_some_iff.mp H
        obtain ⟨t120, A290, H⟩ := H
        replace H : (impl_inverse.l0 k1 (x6_1.set (x28_1 : Int).toNat t120) (t115.length : Int) (wrap64 (x28_1 + 1)) a0_0 a0_1 a0_2 l0_3 a0_1) = some (r1, r2, r3, r4, r5) := H
        have A29 := Z66.k A290
        clear A290
        obtain ⟨y123, hy123⟩ : ∃ y_ : List (List Int), y_ = (x6_1.set (x28_1 : Int).toNat t120) := ⟨_, rfl⟩
        replace H : (impl_inverse.l0 k1 y123 (t115.length : Int) (wrap64 (x28_1 + 1)) a0_0 a0_1 a0_2 l0_3 a0_1) = some (r1, r2, r3, r4, r5) := by first | (rw [hy123]; with_reducible exact H) | (have H2_ := (Option.bind_some _ _).symm.trans H; rw [hy123]; with_reducible exact H2_) | (have H2_ := (Option.bind_some _ _).symm.trans H; with_reducible exact H2_) | with_reducible exact H | (rw [hy123]; exact H) | exact H
        have Ny123 := Z66.k hy123
        clear hy123
        have H' := Z66.k H
        clear H
        have p118 : 0 ≤ (x28_1 : Int) := of_decide_eq_true Z66.z9
        have q118 : x28_1 < (x6_1.length : Int) := of_decide_eq_true Z66.z9
        obtain ⟨ad118, A118_0, c118_0, e118, hx118_0, hl118_0, hi118_0⟩ := at_L2 (Kd.N_reads' HO_6.out).2.2 x28_1 p118 q118
        cases e118
        obtain ⟨ce118, hce118, hMe118, hcc118⟩ := Kd.N_get HO_6.out [] x28_1 p118 (by first | exact q118 | exact of_decide_eq_true Z66.z9 | (have e_ := (Kd.N_reads' HO_6.out).1; omega))
        obtain ⟨ua118_0, uc118_0, rfl, ul118_0, ge118_0⟩ := Kd.FK_slice_open hMe118
        have hv118_0 := hcc118 0 _ rfl
        rw [Nat.add_zero, show ((Kd.slice 2 (Kd.int .i64))).sz = 1 from rfl, Nat.mul_one] at hv118_0
        replace hv118_0 := Option.some.inj (hv118_0.symm.trans hx118_0)
        injection hv118_0 with hva_ hvn_ hvc_
        rw [hva_] at ge118_0
        rw [hvc_] at ul118_0
        have HL118_0 := Z66.k (show Kd.V (Kd.int .i64) 2 _ w.heap.size _ _ (rd_L2 x6_1 x28_1) from Kd.V_mk ul118_0 ge118_0)
        clear hva_ hvn_ hvc_ ge118_0 ul118_0 hcc118 hce118
        have HR118_0 := Z66.k hi118_0
        have HC118_0 := Z66.k hl118_0
        clear hi118_0 hl118_0
        replace p118 := eq_true p118
        replace q118 := eq_true q118
        have p119 : 0 ≤ (x28_1 : Int) := of_decide_eq_true Z66.z9
        have q119 : x28_1 < ((rd_L2 x6_1 x28_1).length : Int) := of_decide_eq_true Z66.z9
        obtain ⟨ad119, e119, hx119_0⟩ := Kd.at_int Z66.z17 x28_1 p119 q119
        cases e119
        replace p119 := eq_true p119
        replace q119 := eq_true q119
        have hnb31 := NB103_101.out
        have hnc31 := NB101_103.out
        have hnb32 := NB103_102.out
        have hnc32 := NB102_103.out
        have hnb33 := NB103_110.out
        have hnc33 := NB110_103.out
        have hcz34_0 : wr.cell? ⟨gb103, 0, none⟩ = some (.int .i64 a0_1) := (blk_cell BK103.out 0).trans rfl
        have hfz34_0 := blk_frozen BK103.out 0
        obtain ⟨ch0_, ch1_, hcc_⟩ := impl_inverse.parts A29.out
        subst hcc_
        obtain ⟨Acut_, hcut_, hcf_⟩ := impl_inverse.cut (some ad119) c118_0 (rd_L2 x6_1 x28_1) a0_1 ch0_ ch1_ HC118_0.out
        have p30 : 0 ≤ (x28_1 : Int) := of_decide_eq_true Z66.z9
        have q30 : (x28_1 : Int) < ((x6_1.length : Int) : Int) := of_decide_eq_true Z66.z9
        obtain ⟨go30, co30, eo30, gb30, gl30, cl30, HG30⟩ := Kd.N_form HO_6.out (by omega)
        (first | cases eo30 | (injection eo30 with ea_ en_ ec_; (first | subst ea_ | (injection ea_ with ea_; subst ea_)); subst ec_; clear en_))
        have GB30 := Z66.k gb30
        have GG30 := Z66.k HG30
        clear gb30 gl30 HG30
        (first | simp only [add_plain] at hx118_0 | skip)
        obtain ⟨ce30, hcl30, hM30, hcc30, hfr30⟩ := Kd.N_elem HO_6.out [] (x28_1 : Int) p30 q30
        obtain ⟨ua30_0, uc30_0, rfl, ul30_0, ge30_0⟩ := Kd.FK_slice_open hM30
        have hx30_0 := hcc30 0 _ rfl
        have hf30_0 := hfr30 0
        (try simp only [show ((Kd.slice 2 (Kd.int .i64))).sz = 1 from rfl, Nat.mul_one, Nat.add_zero] at hx30_0)
        (try simp only [show ((Kd.slice 2 (Kd.int .i64))).sz = 1 from rfl, Nat.mul_one, Nat.add_zero] at hf30_0)
        clear hcl30 hcc30 hfr30 hM30
        replace p30 := eq_true p30
        replace q30 := eq_true q30
        have HX36 := Z66.k (show Kd.N (Kd.slice 2 (Kd.int .i64)) 25 wr w.heap.size (fun k_ => some k_ ≠ (.slice Ao19 t107.length co19 : Value).ownBlock ∧ k_ ≠ gb101 ∧ k_ ≠ gb102 ∧ k_ ≠ gb103 ∧ k_ ≠ gb110) (.slice (some ⟨go30, 0, none⟩) x6_1.length co23) x6_1 from HO_6.out)
        obtain ⟨ce36, hcl36, hM36, hcc36, hfr36⟩ := Kd.N_elem HX36.out [] (x28_1 : Int) (of_decide_eq_true Z66.z9) (by have h_ : (x28_1 : Int) < ((x6_1.length : Int) : Int) := of_decide_eq_true Z66.z9; first | exact h_ | (have e_ := (Kd.N_reads' HO_6.out).1; omega) | simpa using h_)
        obtain ⟨ua36_0, uc36_0, rfl, ul36_0, ge36_0⟩ := Kd.FK_slice_open hM36
        have HP36 := Kd.N_seg HX36.out (x28_1 : Int) (of_decide_eq_true Z66.z9) (by have h_ : (x28_1 : Int) < ((x6_1.length : Int) : Int) := of_decide_eq_true Z66.z9; first | exact h_ | (have e_ := (Kd.N_reads' HO_6.out).1; omega) | simpa using h_) (seg := [.slice Acut_ ((rd_L2 x6_1 x28_1).drop (a0_1 : Int).toNat).length (c118_0 - (a0_1 : Int).toNat)]) (j := 0) hcl36 hcc36 (show 1 ≤ 1 from by decide) (x' := (rd_L2 x6_1 x28_1).drop (a0_1 : Int).toNat) (Kd.FK_mono (ok' := (fun k_ => ((fun k_ => some k_ ≠ (.slice Ao19 t107.length co19 : Value).ownBlock ∧ k_ ≠ gb101 ∧ k_ ≠ gb102 ∧ k_ ≠ gb103 ∧ k_ ≠ gb110)) k_ ∧ k_ ≠ go30)) (hcf_ _ _ _ _ HL118_0.out) (fun k_ hk => ⟨hk.1, fun e_ => hk.2 (by rw [e_]; rfl)⟩)) (fun _ hk => hk)
        have hx36_0 := hcc36 0 _ rfl
        (try simp only [show ((Kd.slice 2 (Kd.int .i64))).sz = 1 from rfl, Nat.mul_one, Nat.add_zero] at hx36_0)
        have hf36_0 := hfr36 0
        (try simp only [show ((Kd.slice 2 (Kd.int .i64))).sz = 1 from rfl, Nat.mul_one, Nat.add_zero] at hf36_0)
        clear hcl36 hcc36 hfr36 hM36
        (try simp only [show ((Kd.slice 2 (Kd.int .i64))).sz = 1 from rfl, Nat.mul_one, Nat.add_zero] at HP36)
        (try simp only [show ((Kd.slice 2 (Kd.int .i64))).sz = 1 from rfl, Nat.mul_one, Nat.add_zero] at HP36)
        go_wp2_with (first | ((with_reducible refine gate_store (t := 25) (p := 44) rfl ?_); refine store_event (t := 25) (p := 44) (v := ?vo_w37) (w1 := (wr.setCell ⟨go30, (x28_1 : Int).toNat, none⟩ (.slice Acut_ ((rd_L2 x6_1 x28_1).drop (a0_1 : Int).toNat).length (c118_0 - (a0_1 : Int).toNat)))) ?hg ?ho ?hn ?hr ?_; (case ho => rfl); (case hg => rfl); (case hn => rfl); (case hr => first | (go_simp; done) | (go_simp; rfl)); intro w37 hw; have hg : wr.grownBy w37 (some go30) := (by rw [hw]; exact HP36.2); have hp_ : Kd.N (Kd.slice 2 (Kd.int .i64)) 25 w37 w.heap.size (fun k_ => some k_ ≠ (.slice Ao19 t107.length co19 : Value).ownBlock ∧ k_ ≠ gb101 ∧ k_ ≠ gb102 ∧ k_ ≠ gb103 ∧ k_ ≠ gb110) (.slice (some ⟨go30, 0, none⟩) x6_1.length co23) y123 := (by rw [hw, Ny123.out]; exact HP36.1); clear HP36; have n0_ := Z66.k (hp_); have n1_ := Z66.k (Kd.R_over' (v := (.slice (some ⟨go30, 0, none⟩) x6_1.length co23)) Z66.z16 (Kd.N_typed HO_6.out) (by decide) hg); have n2_ := Z66.k (blk_grown (g := gb101) (o := .cells #[.int .i64 a0_0, .int .i64 a0_1, .int .i64 a0_2, .slice A0_3 l0_3.length c0_3] 27 (0, 0)) Z66.z4 hg (Kd.N_ne HO_6.out BK101.out (by decide))); have n3_ := Z66.k (blk_grown (g := gb102) (o := .cells #[.int .i64 x103000_1, .int .i64 x103001_1, .int .i64 x103002_1, .slice none 0 0] 27 (0, 0)) Z66.z6 hg (Kd.N_ne HO_6.out BK102.out (by decide))); have n4_ := Z66.k (blk_grown (g := gb103) (o := .cells #[.int .i64 a0_1] 2 (0, 0)) Z66.z7 hg (Kd.N_ne HO_6.out BK103.out (by decide))); have n5_ := Z66.k (blk_grown (g := gb110) (o := .cells #[.int .i64 t104, .int .i64 t105, .int .i64 t106, .slice Ao19 t107.length co19] 27 (0, 0)) Z66.z15 hg (Kd.N_ne HO_6.out BK110.out (by decide))); have n7_ := Z66.k ((by rw [hw]; exact below_set (HB.out) GB30.out : Below w.heap.size w w37)); clear HO_6 HO_111003 BK101 BK102 BK103 BK110 HL118_0 HB; have HO_6 := n0_; have HO_111003 := n1_; have BK101 := n2_; have BK102 := n3_; have BK103 := n4_; have BK110 := n5_; have HB := n7_; clear n0_ n1_ n2_ n3_ n4_ n5_ n7_; clear hg hw hp_))
        (try simp only [← hl6_1])
        go_roundg k1
        case measure => have := HK1.out; omega
        case rel => exact ⟨(y123), (wrap64 (x28_1 + 1)), (x103000_1), (x103001_1), (x103002_1), (by first | rfl | (simp; done) | (simp [*]; done)), H', ⟨(by have := HK1.out; omega)⟩, ⟨(by (try simp only [hl6_1]); (with_reducible repeat (first | apply Kd.N_alloc | apply Kd.N_drewN | apply Kd.N_drew)); exact HO_6.out)⟩, ⟨(by (try simp only [hl6_1]); (with_reducible repeat (first | apply Kd.R_alloc | apply Kd.R_drewN | apply Kd.R_drew)); exact Kd.R_mono HO_111003.out (fun _ hk => hk))⟩, ⟨(by (try simp only [hl6_1]); (with_reducible repeat (first | refine blk_drewN ?_ _ | refine blk_drew ?_ | refine blk_alloc ?_ _)); exact BK101.out)⟩, ⟨(by (try simp only [hl6_1]); (with_reducible repeat (first | refine blk_drewN ?_ _ | refine blk_drew ?_ | refine blk_alloc ?_ _)); exact BK102.out)⟩, ⟨(by (try simp only [hl6_1]); (with_reducible repeat (first | refine blk_drewN ?_ _ | refine blk_drew ?_ | refine blk_alloc ?_ _)); exact BK103.out)⟩, ⟨(by (try simp only [hl6_1]); (with_reducible repeat (first | refine blk_drewN ?_ _ | refine blk_drew ?_ | refine blk_alloc ?_ _)); exact BK110.out)⟩, ⟨Z66.z1⟩⟩
       rw [if_neg c28] at H
       have c28b0 : ((rd (rd_L2 x6_1 x28_1) x28_1) == 1) = false := beq_eq_false_iff_ne.mpr c28
       have c28b1 : ((rd (rd_L2 x6_1 x28_1) x28_1) != 1) = true := bne_iff_ne.mpr c28
       simp only [Option.some.injEq, Prod.mk.injEq] at H
       obtain ⟨rfl, rfl, rfl, rfl, rfl⟩ := H
       have p118 : 0 ≤ (x28_1 : Int) := of_decide_eq_true Z66.z9
       have q118 : x28_1 < (x6_1.length : Int) := of_decide_eq_true Z66.z9
       obtain ⟨ad118, A118_0, c118_0, e118, hx118_0, hl118_0, hi118_0⟩ := at_L2 (Kd.N_reads' HO_6.out).2.2 x28_1 p118 q118
       cases e118
       obtain ⟨ce118, hce118, hMe118, hcc118⟩ := Kd.N_get HO_6.out [] x28_1 p118 (by first | exact q118 | exact of_decide_eq_true Z66.z9 | (have e_ := (Kd.N_reads' HO_6.out).1; omega))
       obtain ⟨ua118_0, uc118_0, rfl, ul118_0, ge118_0⟩ := Kd.FK_slice_open hMe118
       have hv118_0 := hcc118 0 _ rfl
       rw [Nat.add_zero, show ((Kd.slice 2 (Kd.int .i64))).sz = 1 from rfl, Nat.mul_one] at hv118_0
       replace hv118_0 := Option.some.inj (hv118_0.symm.trans hx118_0)
       injection hv118_0 with hva_ hvn_ hvc_
       rw [hva_] at ge118_0
       rw [hvc_] at ul118_0
       have HL118_0 := Z66.k (show Kd.V (Kd.int .i64) 2 _ w.heap.size _ _ (rd_L2 x6_1 x28_1) from Kd.V_mk ul118_0 ge118_0)
       clear hva_ hvn_ hvc_ ge118_0 ul118_0 hcc118 hce118
       have HR118_0 := Z66.k hi118_0
       have HC118_0 := Z66.k hl118_0
       clear hi118_0 hl118_0
       replace p118 := eq_true p118
       replace q118 := eq_true q118
       have p119 : 0 ≤ (x28_1 : Int) := of_decide_eq_true Z66.z9
       have q119 : x28_1 < ((rd_L2 x6_1 x28_1).length : Int) := of_decide_eq_true Z66.z9
       obtain ⟨ad119, e119, hx119_0⟩ := Kd.at_int Z66.z17 x28_1 p119 q119
       cases e119
       replace p119 := eq_true p119
       replace q119 := eq_true q119
       have hnb38 := NB102_101.out
       have hnc38 := NB101_102.out
       have hnb39 := NB102_103.out
       have hnc39 := NB103_102.out
       have hnb40 := NB102_110.out
       have hnc40 := NB110_102.out
       have hcz41_0 : wr.cell? ⟨gb102, 0, none⟩ = some (.int .i64 x103000_1) := (blk_cell BK102.out 0).trans rfl
       have hcz41_1 : wr.cell? ⟨gb102, 1, none⟩ = some (.int .i64 x103001_1) := (blk_cell BK102.out 1).trans rfl
       have hcz41_2 : wr.cell? ⟨gb102, 2, none⟩ = some (.int .i64 x103002_1) := (blk_cell BK102.out 2).trans rfl
       have hcz41_3 : wr.cell? ⟨gb102, 3, none⟩ = some (.slice none 0 0) := (blk_cell BK102.out 3).trans rfl
       have hfz41_0 := blk_frozen BK102.out 0
       have hfz41_1 := blk_frozen BK102.out 1
       have hfz41_2 := blk_frozen BK102.out 2
       have hfz41_3 := blk_frozen BK102.out 3
       go_wp2
       refine bodyPost_ret (results_ct rfl _ _ gb102 27 #[.int .i64 0, .int .i64 0, .int .i64 0, .slice none 0 0] (0, 0) _ rfl (by (with_reducible repeat (first | refine blk_drewN ?_ _ | refine blk_drew ?_ | refine blk_alloc ?_ _)); refine blk_put (cs := #[.int .i64 0, .int .i64 0, .int .i64 0, .slice none 0 0]) ?_ 3 _ rfl; (with_reducible repeat (first | refine blk_drewN ?_ _ | refine blk_drew ?_ | refine blk_alloc ?_ _)); refine blk_put (cs := #[.int .i64 0, .int .i64 0, .int .i64 x103002_1, .slice none 0 0]) ?_ 2 _ rfl; (with_reducible repeat (first | refine blk_drewN ?_ _ | refine blk_drew ?_ | refine blk_alloc ?_ _)); refine blk_put (cs := #[.int .i64 0, .int .i64 x103001_1, .int .i64 x103002_1, .slice none 0 0]) ?_ 1 _ rfl; (with_reducible repeat (first | refine blk_drewN ?_ _ | refine blk_drew ?_ | refine blk_alloc ?_ _)); refine blk_put (cs := #[.int .i64 x103000_1, .int .i64 x103001_1, .int .i64 x103002_1, .slice none 0 0]) ?_ 0 _ rfl; (with_reducible repeat (first | refine blk_drewN ?_ _ | refine blk_drew ?_ | refine blk_alloc ?_ _)); exact BK102.out) Try.underlying27 rfl (by kernel_rfl)) rfl ?_
       exact ⟨_, (by first | rfl | (simp [errW_none, errW_some] <;> rfl) | (simp [*, errW_none, errW_some] <;> rfl)), (by first | exact Kd.R_nil _ _ _ _ _ | exact Kd.N_nil _ _ _ _ _ | exact Kd.V_nil _ _ _ _ _ | exact Kd.Q_nil _ _ _ _ _ | exact Kd.S_nil _ _ _ _ _), Z66.z1⟩
      rw [if_neg c27] at H
      exact absurd H (by simp)
     rw [if_neg c26] at H
     exact absurd H (by simp)
    rw [if_neg c25] at H
    exact absurd H (by simp)
   rw [if_neg c24] at H
   have c24b0 : decide (x28_1 < (t115.length : Int)) = false := decide_eq_false c24
   have cx_ := c24b0
   rw [hl6_1] at cx_
   clear c24
   replace H := Option.bind_eq_some_iff.mp H
   obtain ⟨⟨t124, t125, t126, t127⟩, A420, H⟩ := H
   replace H : (some (t124, t125, t126, t127, true)) = some (r1, r2, r3, r4, r5) := H
   have A42 := Z66.k A420
   clear A420
   simp only [Option.some.injEq, Prod.mk.injEq] at H
   obtain ⟨rfl, rfl, rfl, rfl, rfl⟩ := H
   have hnb43 := NB101_102.out
   have hnc43 := NB102_101.out
   have hnb44 := NB101_103.out
   have hnc44 := NB103_101.out
   have hnb45 := NB101_110.out
   have hnc45 := NB110_101.out
   have hcz46_0 : wr.cell? ⟨gb101, 0, none⟩ = some (.int .i64 a0_0) := (blk_cell BK101.out 0).trans rfl
   have hcz46_1 : wr.cell? ⟨gb101, 1, none⟩ = some (.int .i64 a0_1) := (blk_cell BK101.out 1).trans rfl
   have hcz46_2 : wr.cell? ⟨gb101, 2, none⟩ = some (.int .i64 a0_2) := (blk_cell BK101.out 2).trans rfl
   have hcz46_3 : wr.cell? ⟨gb101, 3, none⟩ = some (.slice A0_3 l0_3.length c0_3) := (blk_cell BK101.out 3).trans rfl
   have hfz46_0 := blk_frozen BK101.out 0
   have hfz46_1 := blk_frozen BK101.out 1
   have hfz46_2 := blk_frozen BK101.out 2
   have hfz46_3 := blk_frozen BK101.out 3
   have hnb47 := NB103_102.out
   have hnc47 := NB102_103.out
   have hnb48 := NB103_110.out
   have hnc48 := NB110_103.out
   have hcz49_0 : wr.cell? ⟨gb103, 0, none⟩ = some (.int .i64 a0_1) := (blk_cell BK103.out 0).trans rfl
   have hfz49_0 := blk_frozen BK103.out 0
   go_wp2_with (first | ((with_reducible refine gate_callee (f := 57) rfl ?_); refine goesL_ (some 50) rfl rfl Try.func57 (by kernel_rfl) rfl #[.int .i64 a0_0, .int .i64 a0_1, .slice Ao23 x6_1.length co23] rfl Z66.z11 ?_; (with_reducible refine (impl_matrixOf.calls k1 a0_0 a0_1 _ _ x6_1 t124 t125 t126 t127 _ ?side1 ?side2 A42.out).mono ?_); (case side1 => exact (by repeat (first | exact (Kd.N_reads' HO_6.out).2.2 | (with_reducible refine Kd.C_alloc ?_ _) | (with_reducible refine Kd.C_drewN ?_ _) | (with_reducible refine Kd.C_drew ?_)))); (case side2 => exact (Kd.N_reads' HO_6.out).2.1); rintro e w50 ⟨v128, rfl, ho0, hb⟩; refine ⟨_, rfl, ?_⟩; have n0_ := Z66.k (Kd.N_elder' (by (with_reducible repeat (first | apply Kd.N_alloc | apply Kd.N_drewN | apply Kd.N_drew)); exact HO_6.out) (Kd.R_base ho0) hb); have n1_ := Z66.k (Kd.R_elder' Z66.z16 (Kd.R_base ho0) hb); have n2_ := Z66.k (Kd.R_lower (Kd.R_newB (Kd.R_new' ho0 (Kd.R_lt Z66.z16)) (g := gb103) (o := .cells #[.int .i64 a0_1] 2 (0, 0)) Z66.z7) (below_size Z66.z1)); have n3_ := Z66.k (Z66.bb BK101 Z66.z4 hb); have n4_ := Z66.k (Z66.bb BK102 Z66.z6 hb); have n5_ := Z66.k (Z66.bb BK103 Z66.z7 hb); have n6_ := Z66.k (Z66.bb BK110 Z66.z15 hb); have n7_ := Z66.k (below_step Z66.z1 hb); clear HO_6 HO_111003 BK101 BK102 BK103 BK110 HB; have HO_6 := n0_; have HO_111003 := n1_; have HO129 := n2_; have BK101 := n3_; have BK102 := n4_; have BK103 := n5_; have BK110 := n6_; have HB := n7_; clear n0_ n1_ n2_ n3_ n4_ n5_ n6_ n7_; (try clear hb); (try clear hb2); (try clear hk); (try clear hi); (try clear ho0); have hnb51 := NB102_110.out; have hnc51 := NB110_102.out; have hcz52_0 : w50.cell? ⟨gb102, 0, none⟩ = some (.int .i64 x103000_1) := (blk_cell BK102.out 0).trans rfl; have hcz52_1 : w50.cell? ⟨gb102, 1, none⟩ = some (.int .i64 x103001_1) := (blk_cell BK102.out 1).trans rfl; have hcz52_2 : w50.cell? ⟨gb102, 2, none⟩ = some (.int .i64 x103002_1) := (blk_cell BK102.out 2).trans rfl; have hcz52_3 : w50.cell? ⟨gb102, 3, none⟩ = some (.slice none 0 0) := (blk_cell BK102.out 3).trans rfl; have hfz52_0 := blk_frozen BK102.out 0; have hfz52_1 := blk_frozen BK102.out 1; have hfz52_2 := blk_frozen BK102.out 2; have hfz52_3 := blk_frozen BK102.out 3; obtain ⟨Ao53, co53, eo53⟩ := Kd.R_slice HO129.out; subst eo53))
   refine bodyPost_ret (results_ct rfl _ _ gb102 27 #[.int .i64 t124, .int .i64 t125, .int .i64 t126, .slice Ao53 t127.length co53] (0, 0) _ rfl (by (with_reducible repeat (first | refine blk_drewN ?_ _ | refine blk_drew ?_ | refine blk_alloc ?_ _)); refine blk_put (cs := #[.int .i64 t124, .int .i64 t125, .int .i64 t126, .slice none 0 0]) ?_ 3 _ rfl; (with_reducible repeat (first | refine blk_drewN ?_ _ | refine blk_drew ?_ | refine blk_alloc ?_ _)); refine blk_put (cs := #[.int .i64 t124, .int .i64 t125, .int .i64 x103002_1, .slice none 0 0]) ?_ 2 _ rfl; (with_reducible repeat (first | refine blk_drewN ?_ _ | refine blk_drew ?_ | refine blk_alloc ?_ _)); refine blk_put (cs := #[.int .i64 t124, .int .i64 x103001_1, .int .i64 x103002_1, .slice none 0 0]) ?_ 1 _ rfl; (with_reducible repeat (first | refine blk_drewN ?_ _ | refine blk_drew ?_ | refine blk_alloc ?_ _)); refine blk_put (cs := #[.int .i64 x103000_1, .int .i64 x103001_1, .int .i64 x103002_1, .slice none 0 0]) ?_ 0 _ rfl; (with_reducible repeat (first | refine blk_drewN ?_ _ | refine blk_drew ?_ | refine blk_alloc ?_ _)); exact BK102.out) Try.underlying27 rfl (by kernel_rfl)) rfl ?_
   exact ⟨_, (by first | rfl | (simp [errW_none, errW_some] <;> rfl) | (simp [*, errW_none, errW_some] <;> rfl)), (by (with_reducible repeat (first | apply Kd.R_alloc | apply Kd.R_drewN | apply Kd.R_drew)); exact Kd.R_mono (Kd.R_far (p := ⟨gb102, 3, none⟩) (Kd.R_far (p := ⟨gb102, 2, none⟩) (Kd.R_far (p := ⟨gb102, 1, none⟩) (Kd.R_far (p := ⟨gb102, 0, none⟩) (Kd.R_types HO129.out BK102.out (by decide)) (fun _ hk => hk.2) (.int .i64 t124)) (fun _ hk => hk.2) (.int .i64 t125)) (fun _ hk => hk.2) (.int .i64 t126)) (fun _ hk => hk.2) (.slice Ao53 t127.length co53)) (fun _ hk => trivial)), Z66.z1⟩
end Go.Proofs.Ytoekjicknclooaa.F
end
