-- Texts of this claim, merged by packw.py (a program of this session's).
import Derived.Test.YtmbbjmkcbpefhaaQFnSolve1
import Derived.Test.YtmbbjmkcbpefhaaQFnSolve2
import Derived.Test.YtmbbjmkcbpefhaaQFnSolve5
import Derived.Test.YtmbbjmkcbpefhaaQFnSolve9
import Derived.Test.YtmbbjmkcbpefhaaQFnSolve6
import Derived.Test.YtmbbjmkcbpefhaaQFnSolve7

section
namespace Go.Proofs.Ytmbbjmkcbpefhaa.F
open Go.RowKit Go.Proofs.YtmbbjmkcbpefhaaW.PrintWords Go.Proofs.YtmbbjmkcbpefhaaW.PrintLast Go.Proofs.YtmbbjmkcbpefhaaW.PrintMore
attribute [local go_sem] max2_int min2_int max_two min_two max_three min_three max_four min_four   -- for this text's walks alone
set_option linter.unusedVariables false
set_option linter.unusedSimpArgs false
/-! ### spec_DrawSolve: function 25 -/
def spec_DrawSolve.f (k : Nat) (l0 : List Int) : Option (Int × Int × Int × List Int × List Int) := (spec_l00From.f l0).bind fun bt102 => ((spec_l04DrawSystem.f k bt102.1 bt102.2.1 bt102.2.2).bind fun bt106 => (some (bt106.1, bt106.2.1, bt106.2.2.1, bt106.2.2.2.1, bt106.2.2.2.2.1)))
theorem Z25.bb {w0 w w1 : World} {g : Nat} {o : Obj} (_B : Aside0 (w0.heap[g]? = some o)) (h : w.heap[g]? = some o) (hb : Below w.heap.size w w1) : w1.heap[g]? = some o := blk_below h hb
theorem Z25.bl {w0 w : World} {g : Nat} {o : Obj} (_B : Aside0 (w0.heap[g]? = some o)) (h : w.heap[g]? = some o) : g < w.heap.size := blk_lt h
theorem Z25.z3 {P : Prop} (h : P := by (try simp only [List.map_toArray, List.map_cons, List.map_nil]); first | done | rfl | (simp only [List.length_drop, List.length_take]; rfl)) : P := h
theorem Z25.z2 {P : Prop} (h : P := by repeat (first | (with_reducible first | exact HB.out | apply below_alloc | apply pw_below_drewN | apply below_drew1) | exact HB.out)) : P := h
theorem Z25.z1 {P : Prop} (h : P := by (with_reducible repeat (first | refine blk_drewN ?_ _ | refine blk_drew ?_ | refine blk_alloc ?_ _)); exact BK101.out) : P := h
theorem Z25.z0 {P : Prop} (h : P := by repeat (first | (with_reducible first | exact HB.out | apply below_alloc | apply pw_below_drewN | apply below_drew1 | refine below_set ?_ (IsS95.ge HI105.out) | refine below_set ?_ GE101.out) | exact HB.out)) : P := h
set_option maxHeartbeats 8000000 in
set_option maxRecDepth 100000 in
theorem spec_DrawSolve.calls (k : Nat) (A0 : Option Addr) (c0 : Nat) (l0 : List Int) (r1 : Int) (r2 : Int) (r3 : Int) (r4 : List Int) (r5 : List Int) (w : World) (hr0 : Kd.C (Kd.int .u8) w A0 l0.length l0) (hc0 : l0.length ≤ c0) (h : spec_DrawSolve.f k l0 = some (r1, r2, r3, r4, r5)) :
  Calls Try.prog 25 #[.slice A0 l0.length c0] w fun e w' => ∃ v3_ v4_ : Value, e = .returned (.tuple #[.agg #[.int .i64 r1, .int .i64 r2, .int .i64 r3, v3_], v4_]) ∧ Kd.R (Kd.int .i64) 2 w' w.heap.size (fun k_ => some k_ ≠ (v4_ : Value).ownBlock) v3_ r4 ∧ Kd.R (Kd.int .i64) 2 w' w.heap.size (fun k_ => some k_ ≠ (v3_ : Value).ownBlock) v4_ r5 ∧ Below w.heap.size w w' := by
 have hu28 := Try.underlying28
 have HR0 := Aside0.mk hr0
 have HC0 := Aside0.mk hc0
 clear hr0 hc0
 have HB := Aside0.mk (Below.refl w.heap.size w)
 have H : ((spec_l00From.f l0).bind fun bt102 => ((spec_l04DrawSystem.f k bt102.1 bt102.2.1 bt102.2.2).bind fun bt106 => (some (bt106.1, bt106.2.1, bt106.2.2.1, bt106.2.2.2.1, bt106.2.2.2.2.1)))) = some (r1, r2, r3, r4, r5) := h
 clear h
 replace H := Option.bind_eq_some_iff.mp H
 obtain ⟨⟨t102, t103, t104⟩, A20, H⟩ := H
 replace H : ((spec_l04DrawSystem.f k t102 t103 t104).bind fun bt106 => (some (bt106.1, bt106.2.1, bt106.2.2.1, bt106.2.2.2.1, bt106.2.2.2.2.1))) = some (r1, r2, r3, r4, r5) := H
 have A2 := Aside0.mk A20
 clear A20
 replace H := Option.bind_eq_some_iff.mp H
 obtain ⟨⟨t106, t107, t108, t109, t112, t115, t116⟩, A30, H⟩ := H
 (try dsimp only at H)
 have A3 := Aside0.mk A30
 clear A30
 simp only [Option.some.injEq, Prod.mk.injEq] at H
 obtain ⟨rfl, rfl, rfl, rfl, rfl⟩ := H
 go_enter Try.func25, Try.ntmps25
 go_wp2_with (first | ((with_reducible refine gate_dst (N := 2) rfl ?_); refine box_event ?hg (N := 2) ?hd (cs := #[.int .i64 0, .int .i64 0, .int .i64 0, .slice none 0 0]) (t := 28) ?hr ?_; (case hd => rfl); (case hg => rfl); (case hr => first | (go_simp; done) | (go_simp; rfl)); intro gb101 hg w4 hbox hb; have BK101 := Aside0.mk (hbox); have GW101 := Aside0.mk (show w.heap.size ≤ gb101 from (by rw [hg]; exact (below_size Z25.z2))); have GE101 := Aside0.mk (show w.heap.size ≤ gb101 from (by rw [hg]; exact (below_size Z25.z2))); replace HB := Aside0.mk (below_step Z25.z2 hb); clear hb hbox hg) | ((with_reducible refine gate_callee (f := 48) rfl ?_); refine goesL_ (some 6) rfl rfl Try.func48 (by kernel_rfl) rfl #[.slice A0 l0.length c0] rfl Z25.z3 ?_; (with_reducible refine (spec_l00From.calls _ _ l0 t102 t103 t104 w _ ?side1 ?side2 ?side3 A2.out).mono ?_); (case side1 => exact (by repeat (first | (with_reducible first | exact HB.out | apply below_alloc | apply pw_below_drewN | apply below_drew1 | refine below_set ?_ GE101.out) | exact HB.out))); (case side2 => exact HR0.out); (case side3 => exact HC0.out); rintro e w5 ⟨g105, rfl, hi, hb, hb2⟩; refine ⟨_, rfl, ?_⟩; have HI105 := Aside0.mk (hi); have NB105_101 := Aside0.mk (IsS95.ne_blk hi (Z25.bb BK101 Z25.z1 hb2) (by decide)); have NB101_105 := Aside0.mk (Ne.symm (IsS95.ne_blk hi (Z25.bb BK101 Z25.z1 hb2) (by decide))); replace BK101 := Aside0.mk (Z25.bb BK101 Z25.z1 hb2); replace HB := Aside0.mk (hb); (try clear hb); (try clear hb2); (try clear hk); (try clear hi)) | ((with_reducible refine gate_callee (f := 49) rfl ?_); refine goesL_ (some 8) rfl rfl Try.func49 (by kernel_rfl) rfl #[.pointer (some ⟨g105, 0, none⟩)] rfl Z25.z3 ?_; (with_reducible refine (spec_l04DrawSystem.calls k g105 t102 t103 t104 t106 t107 t108 t109 t112 t115 t116 w _ ?side1 ?side2 A3.out).mono ?_); (case side1 => exact (by repeat (first | (with_reducible first | exact HI105.out | apply IsS95.alloc | apply IsS95.drewN | apply IsS95.drew | apply IsS95.set_1 | apply IsS95.set_2 | refine IsS95.far ?_ NB105_101.out _) | exact HI105.out))); (case side2 => exact Z25.z0); rintro e w6 ⟨v110, v113, rfl, ho0, ho1, hi, hb, hk⟩; refine ⟨_, rfl, ?_⟩; have HO111 := Aside0.mk (Kd.R_lower ho0 (below_size Z25.z0)); have HO114 := Aside0.mk (Kd.R_lower ho1 (below_size Z25.z0)); replace BK101 := Aside0.mk (KeepBut.blk hk (g' := gb101) (o := .cells #[.int .i64 0, .int .i64 0, .int .i64 0, .slice none 0 0] 28 (0, 0)) Z25.z1 NB101_105.out (by simp)); replace HB := Aside0.mk (hb); replace HI105 := Aside0.mk (hi); (try clear hb); (try clear hb2); (try clear hk); (try clear hi); (try clear ho0); (try clear ho1); have hnb7 := NB101_105.out; have hnc7 := NB105_101.out; obtain ⟨hcz8_0, hcz8_1, hcz8_2, hcz8_3, hfz8_0, hfz8_1, hfz8_2, hfz8_3⟩ := cells4 BK101.out; obtain ⟨Ao9, co9, eo9⟩ := Kd.R_slice HO111.out; subst eo9))
 refine bodyPost_ret (results_ct rfl _ _ gb101 28 #[.int .i64 t106, .int .i64 t107, .int .i64 t108, .slice Ao9 t109.length co9] (0, 0) _ rfl (by (with_reducible repeat (first | refine blk_drewN ?_ _ | refine blk_drew ?_ | refine blk_alloc ?_ _)); refine blk_put (cs := #[.int .i64 t106, .int .i64 t107, .int .i64 t108, .slice none 0 0]) ?_ 3 _ rfl; (with_reducible repeat (first | refine blk_drewN ?_ _ | refine blk_drew ?_ | refine blk_alloc ?_ _)); refine blk_put (cs := #[.int .i64 t106, .int .i64 t107, .int .i64 0, .slice none 0 0]) ?_ 2 _ rfl; (with_reducible repeat (first | refine blk_drewN ?_ _ | refine blk_drew ?_ | refine blk_alloc ?_ _)); refine blk_put (cs := #[.int .i64 t106, .int .i64 0, .int .i64 0, .slice none 0 0]) ?_ 1 _ rfl; (with_reducible repeat (first | refine blk_drewN ?_ _ | refine blk_drew ?_ | refine blk_alloc ?_ _)); refine blk_put (cs := #[.int .i64 0, .int .i64 0, .int .i64 0, .slice none 0 0]) ?_ 0 _ rfl; (with_reducible repeat (first | refine blk_drewN ?_ _ | refine blk_drew ?_ | refine blk_alloc ?_ _)); exact BK101.out) Try.underlying28 rfl (by kernel_rfl)) rfl ?_
 exact ⟨_, _, (by first | rfl | (simp [errW_none, errW_some] <;> rfl) | (simp [*, errW_none, errW_some] <;> rfl)), (by (with_reducible repeat (first | apply Kd.R_alloc | apply Kd.R_drewN | apply Kd.R_drew)); exact Kd.R_mono (Kd.R_far (p := ⟨gb101, 3, none⟩) (Kd.R_far (p := ⟨gb101, 2, none⟩) (Kd.R_far (p := ⟨gb101, 1, none⟩) (Kd.R_far (p := ⟨gb101, 0, none⟩) (Kd.R_types HO111.out BK101.out (by decide)) (fun _ hk => hk.2) (.int .i64 t106)) (fun _ hk => hk.2) (.int .i64 t107)) (fun _ hk => hk.2) (.int .i64 t108)) (fun _ hk => hk.2) (.slice Ao9 t109.length co9)) (fun _ hk => hk.1)), (by (with_reducible repeat (first | apply Kd.R_alloc | apply Kd.R_drewN | apply Kd.R_drew)); exact Kd.R_mono (Kd.R_far (p := ⟨gb101, 3, none⟩) (Kd.R_far (p := ⟨gb101, 2, none⟩) (Kd.R_far (p := ⟨gb101, 1, none⟩) (Kd.R_far (p := ⟨gb101, 0, none⟩) (Kd.R_types HO114.out BK101.out (by decide)) (fun _ hk => hk.2) (.int .i64 t106)) (fun _ hk => hk.2) (.int .i64 t107)) (fun _ hk => hk.2) (.int .i64 t108)) (fun _ hk => hk.2) (.slice Ao9 t109.length co9)) (fun _ hk => hk.1)), Z25.z0⟩
/-! ### spec_l03Apply: function 52 -/
mutual
def spec_l03Apply.l0 : Nat → List Int → List Int → Int → Int → Int → Int → List Int → Option (List Int)
  | 0, _, _, _, _, _, _, _ => none
  | k + 1, x1, x5, x6, x102000, x102001, x102002, x102003 => if x6 < x102001 then (spec_l03Apply.l1 k x1 x5 x6 0 0 x102000 x102001 x102002 x102003) else (some x5)
def spec_l03Apply.l1 : Nat → List Int → List Int → Int → Int → Int → Int → Int → Int → List Int → Option (List Int)
  | 0, _, _, _, _, _, _, _, _, _ => none
  | k + 1, x1, x5, x6, x7, x8, x102000, x102001, x102002, x102003 => if x8 < x102002 then (if 0 ≤ (wrap64 ((wrap64 (x6 * x102002)) + x8)) then (if (wrap64 ((wrap64 (x6 * x102002)) + x8)) < (x102003.length : Int) then (if 0 ≤ x8 then (if x8 < (x1.length : Int) then (spec_l03Apply.l1 k x1 x5 x6 (wrap64 (x7 + (wrap64 ((rd x102003 (wrap64 ((wrap64 (x6 * x102002)) + x8))) * (rd x1 x8))))) (wrap64 (x8 + 1)) x102000 x102001 x102002 x102003) else (none)) else (none)) else (none)) else (none)) else (if x102000 = 0 then (none) else (if x5.length < 17592186044416 then (spec_l03Apply.l0 k x1 (x5 ++ [Int.tmod x7 x102000]) (wrap64 (x6 + 1)) x102000 x102001 x102002 x102003) else (none)))
end
def spec_l03Apply.f (k : Nat) (a0_0 : Int) (a0_1 : Int) (a0_2 : Int) (l0_3 : List Int) (l1 : List Int) : Option (List Int) := spec_l03Apply.l0 k l1 (([] : List Int)) 0 a0_0 a0_1 a0_2 l0_3
theorem Z52.bb {w0 w w1 : World} {g : Nat} {o : Obj} (_B : Aside0 (w0.heap[g]? = some o)) (h : w.heap[g]? = some o) (hb : Below w.heap.size w w1) : w1.heap[g]? = some o := blk_below h hb
theorem Z52.bl {w0 w : World} {g : Nat} {o : Obj} (_B : Aside0 (w0.heap[g]? = some o)) (h : w.heap[g]? = some o) : g < w.heap.size := blk_lt h
theorem Z52.k {p : Prop} (h : p) : Aside0 p := ⟨h⟩
theorem Z52.z3 {P : Prop} (h : P := by first | rfl | (simp; done) | (simp [*]; done)) : P := h
theorem Z52.z2 {P : Prop} (h : P := by (with_reducible repeat (first | apply Kd.R_alloc | apply Kd.R_drewN | apply Kd.R_drew)); exact HO_5.out) : P := h
theorem Z52.z1 {P : Prop} (h : P := by (with_reducible repeat (first | refine blk_drewN ?_ _ | refine blk_drew ?_ | refine blk_alloc ?_ _)); exact BK101.out) : P := h
theorem Z52.z0 {P : Prop} (h : P := by repeat (first | (with_reducible first | exact HB.out | apply below_alloc | apply pw_below_drewN | apply below_drew1 | refine below_set ?_ GE101.out) | exact HB.out)) : P := h
set_option maxHeartbeats 8000000 in
set_option maxRecDepth 100000 in
theorem spec_l03Apply.calls (k : Nat) (a0_0 : Int) (a0_1 : Int) (a0_2 : Int) (A0_3 : Option Addr) (c0_3 : Nat) (l0_3 : List Int) (A1 : Option Addr) (c1 : Nat) (l1 : List Int) (r : List Int) (w : World) (hr0_3 : Kd.C (Kd.int .i64) w A0_3 l0_3.length l0_3) (hc0_3 : l0_3.length ≤ c0_3) (hr1 : Kd.C (Kd.int .i64) w A1 l1.length l1) (hc1 : l1.length ≤ c1) {g0_ : Nat} (hbk0_ : w.heap[g0_]? = some (.cells #[.int .i64 a0_0, .int .i64 a0_1, .int .i64 a0_2, .slice A0_3 l0_3.length c0_3] 28 (0, 0))) (h : spec_l03Apply.f k a0_0 a0_1 a0_2 l0_3 l1 = some r) :
  Calls Try.prog 52 #[.pointer (some ⟨g0_, 0, none⟩), .slice A1 l1.length c1] w fun e w' => ∃ v0_ : Value, e = .returned (v0_) ∧ Kd.R (Kd.int .i64) 2 w' w.heap.size (fun _ => True) v0_ r ∧ Below w.heap.size w w' := by
 have hu28 := Try.underlying28
 have HR0_3 := Z52.k hr0_3
 have HC0_3 := Z52.k hc0_3
 clear hr0_3 hc0_3
 have HR1 := Z52.k hr1
 have HC1 := Z52.k hc1
 clear hr1 hc1
 have HB := Z52.k (Below.refl w.heap.size w)
 have H : (spec_l03Apply.l0 k l1 (([] : List Int)) 0 a0_0 a0_1 a0_2 l0_3) = some r := h
 clear h
 obtain ⟨y102, hy102⟩ : ∃ y_ : List Int, y_ = (([] : List Int)) := ⟨_, rfl⟩
 replace H : (spec_l03Apply.l0 k l1 y102 0 a0_0 a0_1 a0_2 l0_3) = some r := by first | (rw [hy102]; with_reducible exact H) | (have H2_ := (Option.bind_some _ _).symm.trans H; rw [hy102]; with_reducible exact H2_) | (have H2_ := (Option.bind_some _ _).symm.trans H; with_reducible exact H2_) | with_reducible exact H | (rw [hy102]; exact H) | exact H
 have Ny102 := Z52.k hy102
 clear hy102
 have H' := Z52.k H
 clear H
 go_enter Try.func52, Try.ntmps52
 have BK101 := Z52.k hbk0_
 go_wp2_with (first | ((with_reducible refine gate_dst (N := 9) rfl ?_); refine Kd.R_lit (Kd.int .i64) _ 2 ?hg (N := 9) ?hd (xs := ([] : List Int)) (inner := []) (ok := fun _ => True) (okp := fun _ => True) ?hr ?hp (fun _ hk => hk) trivial (Below.refl _ _) (Nat.le_refl _) (by simp) ?_; (case hd => rfl); (case hg => rfl); (case hr => first | (go_simp; done) | (go_simp; rfl)); (case hp => exact (Reps.none _ _)); intro v103 w4 ho5 hb hg_ hnew_; clear hg_ hnew_; (first | rw [← Ny102.out] at ho5 | (simp only [Int.reduceToNat] at ho5; rw [← Ny102.out] at ho5)); have HO104 := Z52.k (Kd.R_lower ho5 (below_size Z52.z0)); replace BK101 := Z52.k (Z52.bb BK101 Z52.z1 hb); replace HB := Z52.k (below_step Z52.z0 hb); clear hb ho5))
 repeat (go_quiet (first | ((with_reducible refine gate_dst (N := 9) rfl ?_); refine Kd.R_lit (Kd.int .i64) _ 2 ?hg (N := 9) ?hd (xs := ([] : List Int)) (inner := []) (ok := fun _ => True) (okp := fun _ => True) ?hr ?hp (fun _ hk => hk) trivial (Below.refl _ _) (Nat.le_refl _) (by simp) ?_; (case hd => rfl); (case hg => rfl); (case hr => first | (go_simp; done) | (go_simp; rfl)); (case hp => exact (Reps.none _ _)); intro v103 w4 ho5 hb hg_ hnew_; clear hg_ hnew_; (first | rw [← Ny102.out] at ho5 | (simp only [Int.reduceToNat] at ho5; rw [← Ny102.out] at ho5)); have HO104 := Z52.k (Kd.R_lower ho5 (below_size Z52.z0)); replace BK101 := Z52.k (Z52.bb BK101 Z52.z1 hb); replace HB := Z52.k (below_step Z52.z0 hb); clear hb ho5)); try go_wp2_with (first | ((with_reducible refine gate_dst (N := 9) rfl ?_); refine Kd.R_lit (Kd.int .i64) _ 2 ?hg (N := 9) ?hd (xs := ([] : List Int)) (inner := []) (ok := fun _ => True) (okp := fun _ => True) ?hr ?hp (fun _ hk => hk) trivial (Below.refl _ _) (Nat.le_refl _) (by simp) ?_; (case hd => rfl); (case hg => rfl); (case hr => first | (go_simp; done) | (go_simp; rfl)); (case hp => exact (Reps.none _ _)); intro v103 w4 ho5 hb hg_ hnew_; clear hg_ hnew_; (first | rw [← Ny102.out] at ho5 | (simp only [Int.reduceToNat] at ho5; rw [← Ny102.out] at ho5)); have HO104 := Z52.k (Kd.R_lower ho5 (below_size Z52.z0)); replace BK101 := Z52.k (Z52.bb BK101 Z52.z1 hb); replace HB := Z52.k (below_step Z52.z0 hb); clear hb ho5)))
 go_loopg [5, 6] k (fun kq v5 v6 w' => ∃ (x5_1 : List Int) (x6_1 : Int), v6 = .int .i64 x6_1 ∧ Aside0 (spec_l03Apply.l0 kq l1 x5_1 x6_1 a0_0 a0_1 a0_2 l0_3 = some r) ∧ Aside0 (kq ≤ k) ∧ Aside0 (Kd.R (Kd.int .i64) 2 w' w.heap.size (fun _ => True) v5 x5_1) ∧ Aside0 (w'.heap[g0_]? = some (.cells #[.int .i64 a0_0, .int .i64 a0_1, .int .i64 a0_2, (.slice A0_3 l0_3.length c0_3)] 28 (0, 0))) ∧ Aside0 (Below w.heap.size w w'))
 case atStart => exact ⟨(y102), (0), Z52.z3, H', ⟨Nat.le_refl _⟩, ⟨(by (with_reducible repeat (first | apply Kd.R_alloc | apply Kd.R_drewN | apply Kd.R_drew)); exact HO104.out)⟩, ⟨Z52.z1⟩, ⟨Z52.z0⟩⟩
 case round =>
  clear H'
  try clear c1
  try clear p2
  try clear c5
  obtain ⟨x5_1, x6_1, rfl, HA, HK1, HO_5, BK101, HB⟩ := hrel
  cases gk with
  | zero => exact absurd HA.out (by simp [spec_l03Apply.l0])
  | succ k1 =>
   have H := HA.out
   clear HA
   simp only [spec_l03Apply.l0] at H
   by_cases c6 : x6_1 < a0_1
   ·rw [if_pos c6] at H
    have c6b0 : decide (x6_1 < a0_1) = true := decide_eq_true c6
    clear c6
    have H' := Z52.k H
    clear H
    obtain ⟨hcz7_0, hcz7_1, hcz7_2, hcz7_3, hfz7_0, hfz7_1, hfz7_2, hfz7_3⟩ := cells4 BK101.out
    go_wp2
    repeat (go_quiet (fail); try go_wp2)
    go_loopg [7, 8] k1 (fun kq v7 v8 w' => ∃ (x7_2 : Int) (x8_2 : Int), v7 = .int .i64 x7_2 ∧ v8 = .int .i64 x8_2 ∧ Aside0 (spec_l03Apply.l1 kq l1 x5_1 x6_1 x7_2 x8_2 a0_0 a0_1 a0_2 l0_3 = some r) ∧ Aside0 (kq ≤ k1) ∧ Aside0 (Kd.R (Kd.int .i64) 2 w' w.heap.size (fun _ => True) u5 x5_1) ∧ Aside0 (w'.heap[g0_]? = some (.cells #[.int .i64 a0_0, .int .i64 a0_1, .int .i64 a0_2, (.slice A0_3 l0_3.length c0_3)] 28 (0, 0))) ∧ Aside0 (Below w.heap.size w w'))
    case atStart => exact ⟨(0), (0), Z52.z3, Z52.z3, H', ⟨Nat.le_refl _⟩, ⟨Z52.z2⟩, ⟨Z52.z1⟩, ⟨Z52.z0⟩⟩
    case round =>
     clear H'
     try clear c1
     try clear p2
     try clear c5
     try clear c6
     try clear c6b0
     try clear hcz7_0
     try clear hcz7_1
     try clear hcz7_2
     try clear hcz7_3
     try clear hfz7_0
     try clear hfz7_1
     try clear hfz7_2
     try clear hfz7_3
     try clear p2
     obtain ⟨x7_2, x8_2, rfl, rfl, HA, HK2, HO_5, BK101, HB⟩ := hrel
     cases gk with
     | zero => exact absurd HA.out (by simp [spec_l03Apply.l1])
     | succ k2 =>
      have H := HA.out
      clear HA; simp only [spec_l03Apply.l1] at H
      by_cases c8 : x8_2 < a0_2
      ·rw [if_pos c8] at H
       have c8b0 : decide (x8_2 < a0_2) = true := decide_eq_true c8; clear c8; obtain ⟨ji9, hji9⟩ : ∃ j_ : Int, (wrap64 ((wrap64 (x6_1 * a0_2)) + x8_2)) = j_ := ⟨_, rfl⟩; replace H : (if 0 ≤ (ji9) then (if (ji9) < (l0_3.length : Int) then (if 0 ≤ x8_2 then (if x8_2 < (l1.length : Int) then (spec_l03Apply.l1 k2 l1 x5_1 x6_1 (wrap64 (x7_2 + (wrap64 ((rd l0_3 (ji9)) * (rd l1 x8_2))))) (wrap64 (x8_2 + 1)) a0_0 a0_1 a0_2 l0_3) else (none)) else (none)) else (none)) else (none)) = some r := by first | (rw [hji9] at H; exact H) | (simp only [hji9] at H ⊢; exact H)
       have hji9w : (IntKind.i64.wrap ((wrap64 (x6_1 * a0_2)) + x8_2)) = ji9 := (i64_w _).trans hji9
       by_cases c10 : 0 ≤ (ji9)
       ·rw [if_pos c10] at H
        have c10b0 : decide (0 ≤ (ji9)) = true := decide_eq_true c10; clear c10
        by_cases c11 : (ji9) < (l0_3.length : Int)
        ·rw [if_pos c11] at H
         have c11b0 : decide ((ji9) < (l0_3.length : Int)) = true := decide_eq_true c11; clear c11
         by_cases c12 : 0 ≤ x8_2
         ·rw [if_pos c12] at H
          have c12b0 : decide (0 ≤ x8_2) = true := decide_eq_true c12; clear c12
          by_cases c13 : x8_2 < (l1.length : Int)
          ·rw [if_pos c13] at H
           have c13b0 : decide (x8_2 < (l1.length : Int)) = true := decide_eq_true c13; clear c13; have H' := Z52.k H; clear H; obtain ⟨hcz14_0, hcz14_1, hcz14_2, hcz14_3, hfz14_0, hfz14_1, hfz14_2, hfz14_3⟩ := cells4 BK101.out; have p105 : 0 ≤ ((ji9) : Int) := of_decide_eq_true (by first | (with_reducible assumption) | assumption); have q105 : (ji9) < (l0_3.length : Int) := of_decide_eq_true (by first | (with_reducible assumption) | assumption); obtain ⟨ad105, e105, hx105_0⟩ := Kd.at_int HR0_3.out (ji9) p105 q105; cases e105; replace hx105_0 := (HB.out.cell (World.block_lt_of_cell? w _ hx105_0)).trans hx105_0; replace p105 := eq_true p105; replace q105 := eq_true q105; have p106 : 0 ≤ (x8_2 : Int) := of_decide_eq_true (by first | (with_reducible assumption) | assumption); have q106 : x8_2 < (l1.length : Int) := of_decide_eq_true (by first | (with_reducible assumption) | assumption); obtain ⟨ad106, e106, hx106_0⟩ := Kd.at_int HR1.out x8_2 p106 q106; cases e106; replace hx106_0 := (HB.out.cell (World.block_lt_of_cell? w _ hx106_0)).trans hx106_0; replace p106 := eq_true p106; replace q106 := eq_true q106
           go_wp2
           repeat (go_quiet (fail); try go_wp2)
           go_roundg k2
           case measure => have := HK1.out; have := HK2.out; omega
           case rel => exact ⟨(wrap64 (x7_2 + (wrap64 ((rd l0_3 (ji9)) * (rd l1 x8_2))))), (wrap64 (x8_2 + 1)), (by first | rfl | (simp; done) | (simp only [← hji9] <;> (first | rfl | simp)) | (simp [*]; done)), Z52.z3, H', ⟨(by have := HK1.out; have := HK2.out; omega)⟩, ⟨Z52.z2⟩, ⟨Z52.z1⟩, ⟨Z52.z0⟩⟩
          rw [if_neg c13] at H; exact absurd H (by simp)
         rw [if_neg c12] at H; exact absurd H (by simp)
        rw [if_neg c11] at H; exact absurd H (by simp)
       rw [if_neg c10] at H; exact absurd H (by simp)
      rw [if_neg c8] at H; have c8b0 : decide (x8_2 < a0_2) = false := decide_eq_false c8; clear c8
      by_cases c15 : a0_0 = 0
      ·rw [if_pos c15] at H
       exact absurd H (by simp)
      rw [if_neg c15] at H; have c15b0 : (a0_0 == 0) = false := beq_eq_false_iff_ne.mpr c15; have c15b1 : (a0_0 != 0) = true := bne_iff_ne.mpr c15
      by_cases c16 : x5_1.length < 17592186044416
      ·rw [if_pos c16] at H
       have LMc16 := Z52.k c16; clear c16; obtain ⟨y107, hy107⟩ : ∃ y_ : List Int, y_ = (x5_1 ++ [Int.tmod x7_2 a0_0]) := ⟨_, rfl⟩; replace H : (spec_l03Apply.l0 k2 l1 y107 (wrap64 (x6_1 + 1)) a0_0 a0_1 a0_2 l0_3) = some r := by first | (rw [hy107]; with_reducible exact H) | (have H2_ := (Option.bind_some _ _).symm.trans H; rw [hy107]; with_reducible exact H2_) | (have H2_ := (Option.bind_some _ _).symm.trans H; with_reducible exact H2_) | with_reducible exact H | (rw [hy107]; exact H) | exact H
       have Ny107 := Z52.k hy107; clear hy107; have H' := Z52.k H; clear H; obtain ⟨hcz17_0, hcz17_1, hcz17_2, hcz17_3, hfz17_0, hfz17_1, hfz17_2, hfz17_3⟩ := cells4 BK101.out
       go_wp2_with (first | ((with_reducible refine gate_builtin (b := .append) (xs := #[.tmp 47, .tmp 54]) rfl ?_); at_builtin; refine Kd.R_append (Kd.int .i64) (w0 := w) w.heap.size rfl (.tmp 47) (.tmp 54) 22 2 (.int .i64 0) 8 rfl Try.underlying22 info2 rfl (by decide) (by omega) u5 x5_1 (Int.tmod x7_2 a0_0) [.int .i64 (Int.tmod x7_2 a0_0)] (fun _ => True) (fun _ => False) rfl rfl ?aP (fun _ hk => hk.elim) ?aF ?aO ?aB ?aS ?aL ?_; (case aP => exact rfl); (case aB => exact Z52.z0); (case aF => exact (fun _ _ => trivial)); (case aO => exact Z52.z2); (case aS => exact (below_size Z52.z0)); (case aL => have := LMc16.out; omega); intro v108 w18 ho hb hg hat; rw [← Ny107.out] at ho; have HO109 := Z52.k (ho); replace BK101 := Z52.k (blk_grown (g := g0_) (o := .cells #[.int .i64 a0_0, .int .i64 a0_1, .int .i64 a0_2, .slice A0_3 l0_3.length c0_3] 28 (0, 0)) Z52.z1 hg (Kd.R_ne HO_5.out BK101.out (by decide))); replace HB := Z52.k (hb); clear HO_5; clear ho hb hg hat))
       repeat (go_quiet (first | ((with_reducible refine gate_builtin (b := .append) (xs := #[.tmp 47, .tmp 54]) rfl ?_); at_builtin; refine Kd.R_append (Kd.int .i64) (w0 := w) w.heap.size rfl (.tmp 47) (.tmp 54) 22 2 (.int .i64 0) 8 rfl Try.underlying22 info2 rfl (by decide) (by omega) u5 x5_1 (Int.tmod x7_2 a0_0) [.int .i64 (Int.tmod x7_2 a0_0)] (fun _ => True) (fun _ => False) rfl rfl ?aP (fun _ hk => hk.elim) ?aF ?aO ?aB ?aS ?aL ?_; (case aP => exact rfl); (case aB => exact Z52.z0); (case aF => exact (fun _ _ => trivial)); (case aO => exact Z52.z2); (case aS => exact (below_size Z52.z0)); (case aL => have := LMc16.out; omega); intro v108 w18 ho hb hg hat; rw [← Ny107.out] at ho; have HO109 := Z52.k (ho); replace BK101 := Z52.k (blk_grown (g := g0_) (o := .cells #[.int .i64 a0_0, .int .i64 a0_1, .int .i64 a0_2, .slice A0_3 l0_3.length c0_3] 28 (0, 0)) Z52.z1 hg (Kd.R_ne HO_5.out BK101.out (by decide))); replace HB := Z52.k (hb); clear HO_5; clear ho hb hg hat)); try go_wp2_with (first | ((with_reducible refine gate_builtin (b := .append) (xs := #[.tmp 47, .tmp 54]) rfl ?_); at_builtin; refine Kd.R_append (Kd.int .i64) (w0 := w) w.heap.size rfl (.tmp 47) (.tmp 54) 22 2 (.int .i64 0) 8 rfl Try.underlying22 info2 rfl (by decide) (by omega) u5 x5_1 (Int.tmod x7_2 a0_0) [.int .i64 (Int.tmod x7_2 a0_0)] (fun _ => True) (fun _ => False) rfl rfl ?aP (fun _ hk => hk.elim) ?aF ?aO ?aB ?aS ?aL ?_; (case aP => exact rfl); (case aB => exact Z52.z0); (case aF => exact (fun _ _ => trivial)); (case aO => exact Z52.z2); (case aS => exact (below_size Z52.z0)); (case aL => have := LMc16.out; omega); intro v108 w18 ho hb hg hat; rw [← Ny107.out] at ho; have HO109 := Z52.k (ho); replace BK101 := Z52.k (blk_grown (g := g0_) (o := .cells #[.int .i64 a0_0, .int .i64 a0_1, .int .i64 a0_2, .slice A0_3 l0_3.length c0_3] 28 (0, 0)) Z52.z1 hg (Kd.R_ne HO_5.out BK101.out (by decide))); replace HB := Z52.k (hb); clear HO_5; clear ho hb hg hat)))
       go_roundg k2
       case measure => have := HK1.out; have := HK2.out; omega
       case rel => exact ⟨(y107), (wrap64 (x6_1 + 1)), Z52.z3, H', ⟨(by have := HK1.out; have := HK2.out; omega)⟩, ⟨(by (with_reducible repeat (first | apply Kd.R_alloc | apply Kd.R_drewN | apply Kd.R_drew)); exact HO109.out)⟩, ⟨Z52.z1⟩, ⟨Z52.z0⟩⟩
      rw [if_neg c16] at H; exact absurd H (by simp)
   rw [if_neg c6] at H
   have c6b0 : decide (x6_1 < a0_1) = false := decide_eq_false c6
   clear c6
   obtain rfl := Option.some.inj H
   obtain ⟨hcz19_0, hcz19_1, hcz19_2, hcz19_3, hfz19_0, hfz19_1, hfz19_2, hfz19_3⟩ := cells4 BK101.out
   go_wp2
   repeat (go_quiet (fail); try go_wp2)
   go_ret
   exact ⟨_, (by first | rfl | (simp [errW_none, errW_some] <;> rfl) | (simp [*, errW_none, errW_some] <;> rfl)), Z52.z2, Z52.z0⟩
/-! ### spec_ApplyMatrix: function 26 -/
def spec_ApplyMatrix.f (k : Nat) (a0_0 : Int) (a0_1 : Int) (a0_2 : Int) (l0_3 : List Int) (l1 : List Int) : Option (List Int × Int) := (spec_l03Ok.f k a0_0 a0_1 a0_2 l0_3).bind fun t102 => (if t102 = true then ((spec_l03Column.f k l1 a0_2 a0_0).bind fun t103 => (if t103 = true then ((spec_l03Apply.f k a0_0 a0_1 a0_2 l0_3 l1).bind fun t104 => (some (t104, 0))) else (some (([] : List Int), 1)))) else (some (([] : List Int), 1)))
theorem Z26.bb {w0 w w1 : World} {g : Nat} {o : Obj} (_B : Aside0 (w0.heap[g]? = some o)) (h : w.heap[g]? = some o) (hb : Below w.heap.size w w1) : w1.heap[g]? = some o := blk_below h hb
theorem Z26.bl {w0 w : World} {g : Nat} {o : Obj} (_B : Aside0 (w0.heap[g]? = some o)) (h : w.heap[g]? = some o) : g < w.heap.size := blk_lt h
theorem Z26.z7 {P : Prop} (h : P := by first | exact Kd.R_nil _ _ _ _ _ | exact Kd.N_nil _ _ _ _ _ | exact Kd.V_nil _ _ _ _ _ | exact Kd.Q_nil _ _ _ _ _ | exact Kd.S_nil _ _ _ _ _) : P := h
theorem Z26.z6 {P : Prop} (h : P := by first | rfl | (simp [errW_none, errW_some] <;> rfl) | (simp [*, errW_none, errW_some] <;> rfl)) : P := h
theorem Z26.z5 {P : Prop} (h : P := by repeat (first | exact (Kd.C_below HR1.out HB.out) | (with_reducible refine Kd.C_alloc ?_ _) | (with_reducible refine Kd.C_drewN ?_ _) | (with_reducible refine Kd.C_drew ?_))) : P := h
theorem Z26.z4 {P : Prop} (h : P := by repeat (first | exact (Kd.C_below HR0_3.out HB.out) | (with_reducible refine Kd.C_alloc ?_ _) | (with_reducible refine Kd.C_drewN ?_ _) | (with_reducible refine Kd.C_drew ?_))) : P := h
theorem Z26.z3 {P : Prop} (h : P := by (try simp only [List.map_toArray, List.map_cons, List.map_nil]); first | done | rfl | (simp only [List.length_drop, List.length_take]; rfl)) : P := h
theorem Z26.z2 {P : Prop} (h : P := by (with_reducible repeat (first | refine blk_drewN ?_ _ | refine blk_drew ?_ | refine blk_alloc ?_ _)); exact BK101.out) : P := h
theorem Z26.z1 {P : Prop} (h : P := by repeat (first | (with_reducible first | exact HB.out | apply below_alloc | apply pw_below_drewN | apply below_drew1) | exact HB.out)) : P := h
theorem Z26.z0 {P : Prop} (h : P := by repeat (first | (with_reducible first | exact HB.out | apply below_alloc | apply pw_below_drewN | apply below_drew1 | refine below_set ?_ GE101.out) | exact HB.out)) : P := h
set_option maxHeartbeats 8000000 in
set_option maxRecDepth 100000 in
theorem spec_ApplyMatrix.calls (k : Nat) (a0_0 : Int) (a0_1 : Int) (a0_2 : Int) (A0_3 : Option Addr) (c0_3 : Nat) (l0_3 : List Int) (A1 : Option Addr) (c1 : Nat) (l1 : List Int) (r1 : List Int) (r2 : Int) (w : World) (hr0_3 : Kd.C (Kd.int .i64) w A0_3 l0_3.length l0_3) (hc0_3 : l0_3.length ≤ c0_3) (hr1 : Kd.C (Kd.int .i64) w A1 l1.length l1) (hc1 : l1.length ≤ c1) (h : spec_ApplyMatrix.f k a0_0 a0_1 a0_2 l0_3 l1 = some (r1, r2)) :
  Calls Try.prog 26 #[.agg #[.int .i64 a0_0, .int .i64 a0_1, .int .i64 a0_2, .slice A0_3 l0_3.length c0_3], .slice A1 l1.length c1] w fun e w' => ∃ v0_ : Value, e = .returned (.tuple #[v0_, .int .i64 r2]) ∧ Kd.R (Kd.int .i64) 2 w' w.heap.size (fun _ => True) v0_ r1 ∧ Below w.heap.size w w' := by
 have hu28 := Try.underlying28
 have HR0_3 := Aside0.mk hr0_3
 have HC0_3 := Aside0.mk hc0_3
 clear hr0_3 hc0_3
 have HR1 := Aside0.mk hr1
 have HC1 := Aside0.mk hc1
 clear hr1 hc1
 have HB := Aside0.mk (Below.refl w.heap.size w)
 have H : ((spec_l03Ok.f k a0_0 a0_1 a0_2 l0_3).bind fun t102 => (if t102 = true then ((spec_l03Column.f k l1 a0_2 a0_0).bind fun t103 => (if t103 = true then ((spec_l03Apply.f k a0_0 a0_1 a0_2 l0_3 l1).bind fun t104 => (some (t104, 0))) else (some (([] : List Int), 1)))) else (some (([] : List Int), 1)))) = some (r1, r2) := h
 clear h
 replace H := Option.bind_eq_some_iff.mp H
 obtain ⟨t102, A30, H⟩ := H
 replace H : (if t102 = true then ((spec_l03Column.f k l1 a0_2 a0_0).bind fun t103 => (if t103 = true then ((spec_l03Apply.f k a0_0 a0_1 a0_2 l0_3 l1).bind fun t104 => (some (t104, 0))) else (some (([] : List Int), 1)))) else (some (([] : List Int), 1))) = some (r1, r2) := H
 have A3 := Aside0.mk A30
 clear A30
 by_cases c4 : t102 = true
 ·subst c4
  rw [if_pos rfl] at H
  replace H := Option.bind_eq_some_iff.mp H
  obtain ⟨t103, A50, H⟩ := H
  (try dsimp only at H)
  have A5 := Aside0.mk A50
  clear A50
  by_cases c6 : t103 = true
  ·subst c6
   rw [if_pos rfl] at H
   replace H := Option.bind_eq_some_iff.mp H
   obtain ⟨t104, A70, H⟩ := H
   (try dsimp only at H)
   have A7 := Aside0.mk A70
   clear A70
   simp only [Option.some.injEq, Prod.mk.injEq] at H
   obtain ⟨rfl, rfl⟩ := H
   go_enter Try.func26, Try.ntmps26
   go_wp2_with (first | ((with_reducible refine gate_dst (N := 2) rfl ?_); refine box_event ?hg (N := 2) ?hd (cs := #[.int .i64 a0_0, .int .i64 a0_1, .int .i64 a0_2, .slice A0_3 l0_3.length c0_3]) (t := 28) ?hr ?_; (case hd => rfl); (case hg => rfl); (case hr => first | (go_simp; done) | (go_simp; rfl)); intro gb101 hg w8 hbox hb; have BK101 := Aside0.mk (hbox); have GW101 := Aside0.mk (show w.heap.size ≤ gb101 from (by rw [hg]; exact (below_size Z26.z1))); have GE101 := Aside0.mk (show w.heap.size ≤ gb101 from (by rw [hg]; exact (below_size Z26.z1))); replace HB := Aside0.mk (below_step Z26.z1 hb); clear hb hbox hg) | ((with_reducible refine gate_callee (f := 50) rfl ?_); refine goesL_ (some 6) rfl rfl Try.func50 (by kernel_rfl) rfl #[.pointer (some ⟨gb101, 0, none⟩)] rfl Z26.z3 ?_; (with_reducible refine (spec_l03Ok.calls k a0_0 a0_1 a0_2 A0_3 c0_3 l0_3 true _ ?side1 ?side2 ?side3 A3.out).mono ?_); (case side1 => exact Z26.z4); (case side2 => exact HC0_3.out); (case side3 => exact Z26.z2); rintro e w9 ⟨rfl, hb⟩; refine ⟨_, rfl, ?_⟩; replace BK101 := Aside0.mk (Z26.bb BK101 Z26.z2 hb); replace HB := Aside0.mk (below_step Z26.z0 hb); (try clear hb); (try clear hb2); (try clear hk); (try clear hi); obtain ⟨hcz10_0, hcz10_1, hcz10_2, hcz10_3, hfz10_0, hfz10_1, hfz10_2, hfz10_3⟩ := cells4 BK101.out) | (go_at_call 51; (with_reducible refine (spec_l03Column.calls k _ _ l1 a0_2 a0_0 true _ ?side1 ?side2 A5.out).mono ?_); (case side1 => exact Z26.z5); (case side2 => exact HC1.out); rintro e w' ⟨rfl, ⟨nd, rfl⟩⟩) | ((with_reducible refine gate_callee (f := 52) rfl ?_); refine goesL_ (some 18) rfl rfl Try.func52 (by kernel_rfl) rfl #[.pointer (some ⟨gb101, 0, none⟩), .slice A1 l1.length c1] rfl Z26.z3 ?_; (with_reducible refine (spec_l03Apply.calls k a0_0 a0_1 a0_2 A0_3 c0_3 l0_3 _ _ l1 t104 _ ?side1 ?side2 ?side3 ?side4 ?side5 A7.out).mono ?_); (case side1 => exact (by repeat (first | exact (Kd.C_below HR0_3.out Z26.z0) | (with_reducible refine Kd.C_alloc ?_ _) | (with_reducible refine Kd.C_drewN ?_ _) | (with_reducible refine Kd.C_drew ?_)))); (case side2 => exact HC0_3.out); (case side3 => exact (by repeat (first | exact (Kd.C_below HR1.out Z26.z0) | (with_reducible refine Kd.C_alloc ?_ _) | (with_reducible refine Kd.C_drewN ?_ _) | (with_reducible refine Kd.C_drew ?_)))); (case side4 => exact HC1.out); (case side5 => exact Z26.z2); rintro e w11 ⟨v105, rfl, ho0, hb⟩; refine ⟨_, rfl, ?_⟩; have HO106 := Aside0.mk (Kd.R_lower ho0 (below_size Z26.z0)); replace BK101 := Aside0.mk (Z26.bb BK101 Z26.z2 hb); replace HB := Aside0.mk (below_step Z26.z0 hb); (try clear hb); (try clear hb2); (try clear hk); (try clear hi); (try clear ho0)))
   go_ret2
   exact ⟨_, Z26.z6, (by (with_reducible repeat (first | apply Kd.R_alloc | apply Kd.R_drewN | apply Kd.R_drew)); exact HO106.out), Z26.z0⟩
  replace c6 := Bool.eq_false_iff.mpr c6
  subst c6
  rw [if_neg (show ¬ (false = true) by decide)] at H
  simp only [Option.some.injEq, Prod.mk.injEq] at H
  obtain ⟨rfl, rfl⟩ := H
  go_enter Try.func26, Try.ntmps26
  go_wp2_with (first | ((with_reducible refine gate_dst (N := 2) rfl ?_); refine box_event ?hg (N := 2) ?hd (cs := #[.int .i64 a0_0, .int .i64 a0_1, .int .i64 a0_2, .slice A0_3 l0_3.length c0_3]) (t := 28) ?hr ?_; (case hd => rfl); (case hg => rfl); (case hr => first | (go_simp; done) | (go_simp; rfl)); intro gb101 hg w12 hbox hb; have BK101 := Aside0.mk (hbox); have GW101 := Aside0.mk (show w.heap.size ≤ gb101 from (by rw [hg]; exact (below_size Z26.z1))); have GE101 := Aside0.mk (show w.heap.size ≤ gb101 from (by rw [hg]; exact (below_size Z26.z1))); replace HB := Aside0.mk (below_step Z26.z1 hb); clear hb hbox hg) | ((with_reducible refine gate_callee (f := 50) rfl ?_); refine goesL_ (some 6) rfl rfl Try.func50 (by kernel_rfl) rfl #[.pointer (some ⟨gb101, 0, none⟩)] rfl Z26.z3 ?_; (with_reducible refine (spec_l03Ok.calls k a0_0 a0_1 a0_2 A0_3 c0_3 l0_3 true _ ?side1 ?side2 ?side3 A3.out).mono ?_); (case side1 => exact Z26.z4); (case side2 => exact HC0_3.out); (case side3 => exact Z26.z2); rintro e w13 ⟨rfl, hb⟩; refine ⟨_, rfl, ?_⟩; replace BK101 := Aside0.mk (Z26.bb BK101 Z26.z2 hb); replace HB := Aside0.mk (below_step Z26.z0 hb); (try clear hb); (try clear hb2); (try clear hk); (try clear hi); obtain ⟨hcz14_0, hcz14_1, hcz14_2, hcz14_3, hfz14_0, hfz14_1, hfz14_2, hfz14_3⟩ := cells4 BK101.out) | (go_at_call 51; (with_reducible refine (spec_l03Column.calls k _ _ l1 a0_2 a0_0 false _ ?side1 ?side2 A5.out).mono ?_); (case side1 => exact Z26.z5); (case side2 => exact HC1.out); rintro e w' ⟨rfl, ⟨nd, rfl⟩⟩))
  go_ret2
  exact ⟨_, Z26.z6, Z26.z7, Z26.z0⟩
 replace c4 := Bool.eq_false_iff.mpr c4
 subst c4
 rw [if_neg (show ¬ (false = true) by decide)] at H
 simp only [Option.some.injEq, Prod.mk.injEq] at H
 obtain ⟨rfl, rfl⟩ := H
 go_enter Try.func26, Try.ntmps26
 go_wp2_with (first | ((with_reducible refine gate_dst (N := 2) rfl ?_); refine box_event ?hg (N := 2) ?hd (cs := #[.int .i64 a0_0, .int .i64 a0_1, .int .i64 a0_2, .slice A0_3 l0_3.length c0_3]) (t := 28) ?hr ?_; (case hd => rfl); (case hg => rfl); (case hr => first | (go_simp; done) | (go_simp; rfl)); intro gb101 hg w15 hbox hb; have BK101 := Aside0.mk (hbox); have GW101 := Aside0.mk (show w.heap.size ≤ gb101 from (by rw [hg]; exact (below_size Z26.z1))); have GE101 := Aside0.mk (show w.heap.size ≤ gb101 from (by rw [hg]; exact (below_size Z26.z1))); replace HB := Aside0.mk (below_step Z26.z1 hb); clear hb hbox hg) | ((with_reducible refine gate_callee (f := 50) rfl ?_); refine goesL_ (some 6) rfl rfl Try.func50 (by kernel_rfl) rfl #[.pointer (some ⟨gb101, 0, none⟩)] rfl Z26.z3 ?_; (with_reducible refine (spec_l03Ok.calls k a0_0 a0_1 a0_2 A0_3 c0_3 l0_3 false _ ?side1 ?side2 ?side3 A3.out).mono ?_); (case side1 => exact Z26.z4); (case side2 => exact HC0_3.out); (case side3 => exact Z26.z2); rintro e w16 ⟨rfl, hb⟩; refine ⟨_, rfl, ?_⟩; replace BK101 := Aside0.mk (Z26.bb BK101 Z26.z2 hb); replace HB := Aside0.mk (below_step Z26.z0 hb); (try clear hb); (try clear hb2); (try clear hk); (try clear hi)))
 go_ret2
 exact ⟨_, Z26.z6, Z26.z7, Z26.z0⟩
/-! ### laws_b10Nums: function 27 -/
def laws_b10Nums.l0 : Nat → List Int → List Int → Int → Option (Bool)
  | 0, _, _, _ => none
  | k + 1, x0, x1, x5 => if x5 < (x0.length : Int) then (if 0 ≤ x5 then (if x5 < (x1.length : Int) then (if (rd x0 x5) = (rd x1 x5) then (laws_b10Nums.l0 k x0 x1 (wrap64 (x5 + 1))) else (some false)) else (none)) else (none)) else (some true)
def laws_b10Nums.f (k : Nat) (l0 : List Int) (l1 : List Int) : Option (Bool) := if (l0.length : Int) = (l1.length : Int) then (laws_b10Nums.l0 k l0 l1 0) else (some false)
theorem Z27.z2 {P : Prop} (h : P := by first | rfl | (simp; done) | (simp [*]; done)) : P := h
theorem Z27.z1 {P : Prop} (h : P := by repeat (first | exact Drawn0.refl _ | apply Drawn0.step)) : P := h
theorem Z27.z0 {P : Prop} (h : P := by first | (with_reducible assumption) | assumption) : P := h
set_option maxHeartbeats 8000000 in
set_option maxRecDepth 100000 in
theorem laws_b10Nums.calls (k : Nat) (A0 : Option Addr) (c0 : Nat) (l0 : List Int) (A1 : Option Addr) (c1 : Nat) (l1 : List Int) (r : Bool) (w : World) (hr0 : Kd.C (Kd.int .i64) w A0 l0.length l0) (hc0 : l0.length ≤ c0) (hr1 : Kd.C (Kd.int .i64) w A1 l1.length l1) (hc1 : l1.length ≤ c1) (h : laws_b10Nums.f k l0 l1 = some r) :
  Calls Try.prog 27 #[.slice A0 l0.length c0, .slice A1 l1.length c1] w fun e w' => e = .returned (.bool r) ∧ Drawn0 w w' := by
 have HR0 := Aside0.mk hr0
 have HC0 := Aside0.mk hc0
 clear hr0 hc0
 have HR1 := Aside0.mk hr1
 have HC1 := Aside0.mk hc1
 clear hr1 hc1
 have H : (if (l0.length : Int) = (l1.length : Int) then (laws_b10Nums.l0 k l0 l1 0) else (some false)) = some r := h
 clear h
 by_cases c3 : (l0.length : Int) = (l1.length : Int)
 ·rw [if_pos c3] at H
  have c3b0 : ((l0.length : Int) == (l1.length : Int)) = true := beq_iff_eq.mpr c3
  have c3b1 : ((l0.length : Int) != (l1.length : Int)) = false := bne_eq_false_iff_eq.mpr c3
  have c3b2 : (l0.length == l1.length) = true := by first | simpa using c3 | (simp at c3 ⊢; omega)
  clear c3
  have H' := Aside0.mk H
  clear H
  go_enter Try.func27, Try.ntmps27
  go_wp2
  repeat (go_quiet (fail); try go_wp2)
  go_loopg [5] k (fun kq v5 w' => ∃ (x5_1 : Int), v5 = .int .i64 x5_1 ∧ Aside0 (laws_b10Nums.l0 kq l0 l1 x5_1 = some r) ∧ Aside0 (kq ≤ k) ∧ Drawn0 w w')
  case atStart => exact ⟨(0), Z27.z2, H', ⟨Nat.le_refl _⟩, Z27.z1⟩
  case round =>
   clear H'
   try clear c1
   try clear c2
   try clear p2
   try clear c3
   try clear c3b0
   try clear c3b1
   try clear c3b2
   obtain ⟨x5_1, rfl, HA, HK1, ⟨m1, rfl⟩⟩ := hrel
   cases gk with
   | zero => exact absurd HA.out (by simp [laws_b10Nums.l0])
   | succ k1 =>
    have H := HA.out
    clear HA
    simp only [laws_b10Nums.l0] at H
    by_cases c4 : x5_1 < (l0.length : Int)
    ·rw [if_pos c4] at H
     have c4b0 : decide (x5_1 < (l0.length : Int)) = true := decide_eq_true c4
     clear c4
     by_cases c5 : 0 ≤ x5_1
     ·rw [if_pos c5] at H
      have c5b0 : decide (0 ≤ x5_1) = true := decide_eq_true c5; clear c5
      by_cases c6 : x5_1 < (l1.length : Int)
      ·rw [if_pos c6] at H
       have c6b0 : decide (x5_1 < (l1.length : Int)) = true := decide_eq_true c6; clear c6
       by_cases c7 : (rd l0 x5_1) = (rd l1 x5_1)
       ·rw [if_pos c7] at H
        have c7b0 : ((rd l0 x5_1) == (rd l1 x5_1)) = true := beq_iff_eq.mpr c7; have c7b1 : ((rd l0 x5_1) != (rd l1 x5_1)) = false := bne_eq_false_iff_eq.mpr c7; clear c7; have H' := Aside0.mk H; clear H; have p101 : 0 ≤ (x5_1 : Int) := of_decide_eq_true Z27.z0; have q101 : x5_1 < (l0.length : Int) := of_decide_eq_true Z27.z0; obtain ⟨ad101, e101, hx101_0⟩ := Kd.at_int HR0.out x5_1 p101 q101; cases e101; replace p101 := eq_true p101; replace q101 := eq_true q101; have p102 : 0 ≤ (x5_1 : Int) := of_decide_eq_true Z27.z0; have q102 : x5_1 < (l1.length : Int) := of_decide_eq_true Z27.z0; obtain ⟨ad102, e102, hx102_0⟩ := Kd.at_int HR1.out x5_1 p102 q102; cases e102; replace p102 := eq_true p102; replace q102 := eq_true q102
        go_wp2
        repeat (go_quiet (fail); try go_wp2)
        go_roundg k1
        case measure => have := HK1.out; omega
        case rel => exact ⟨(wrap64 (x5_1 + 1)), Z27.z2, H', ⟨(by have := HK1.out; omega)⟩, Z27.z1⟩
       rw [if_neg c7] at H; have c7b0 : ((rd l0 x5_1) == (rd l1 x5_1)) = false := beq_eq_false_iff_ne.mpr c7; have c7b1 : ((rd l0 x5_1) != (rd l1 x5_1)) = true := bne_iff_ne.mpr c7; obtain rfl := Option.some.inj H; have p101 : 0 ≤ (x5_1 : Int) := of_decide_eq_true Z27.z0; have q101 : x5_1 < (l0.length : Int) := of_decide_eq_true Z27.z0; obtain ⟨ad101, e101, hx101_0⟩ := Kd.at_int HR0.out x5_1 p101 q101; cases e101; replace p101 := eq_true p101; replace q101 := eq_true q101; have p102 : 0 ≤ (x5_1 : Int) := of_decide_eq_true Z27.z0; have q102 : x5_1 < (l1.length : Int) := of_decide_eq_true Z27.z0; obtain ⟨ad102, e102, hx102_0⟩ := Kd.at_int HR1.out x5_1 p102 q102; cases e102; replace p102 := eq_true p102; replace q102 := eq_true q102
       go_wp2
       repeat (go_quiet (fail); try go_wp2)
       go_ret
       exact ⟨Z27.z2, Z27.z1⟩
      rw [if_neg c6] at H; exact absurd H (by simp)
     rw [if_neg c5] at H
     exact absurd H (by simp)
    rw [if_neg c4] at H
    have c4b0 : decide (x5_1 < (l0.length : Int)) = false := decide_eq_false c4
    clear c4
    obtain rfl := Option.some.inj H
    go_wp2
    repeat (go_quiet (fail); try go_wp2)
    go_ret
    exact ⟨Z27.z2, Z27.z1⟩
 rw [if_neg c3] at H
 have c3b0 : ((l0.length : Int) == (l1.length : Int)) = false := beq_eq_false_iff_ne.mpr c3
 have c3b1 : ((l0.length : Int) != (l1.length : Int)) = true := bne_iff_ne.mpr c3
 have c3b2 : (l0.length == l1.length) = false := by first | simpa using c3 | (simp at c3 ⊢; omega)
 obtain rfl := Option.some.inj H
 go_enter Try.func27, Try.ntmps27
 go_wp2
 repeat (go_quiet (fail); try go_wp2)
 go_ret
 exact ⟨Z27.z2, Z27.z1⟩
/-! ### spec_l03Turned: function 53 -/
mutual
def spec_l03Turned.l0 : Nat → Int → Int → Int → Int → List Int → Int → Int → Int → List Int → Option (Int × Int × Int × List Int)
  | 0, _, _, _, _, _, _, _, _, _ => none
  | k + 1, x4, x102000, x102001, x102002, x102003, x110000, x110001, x110002, x110003 => if x4 < x102001 then (spec_l03Turned.l1 k x4 0 x102000 x102001 x102002 x102003 x110000 x110001 x110002 x110003) else (some (x110000, x110001, x110002, x110003))
def spec_l03Turned.l1 : Nat → Int → Int → Int → Int → Int → List Int → Int → Int → Int → List Int → Option (Int × Int × Int × List Int)
  | 0, _, _, _, _, _, _, _, _, _, _ => none
  | k + 1, x4, x5, x102000, x102001, x102002, x102003, x110000, x110001, x110002, x110003 => if x5 < x102002 then (if 0 ≤ (wrap64 ((wrap64 (x4 * x102002)) + x5)) then (if (wrap64 ((wrap64 (x4 * x102002)) + x5)) < (x102003.length : Int) then (if 0 ≤ (wrap64 ((wrap64 (x5 * x102001)) + x4)) then (if (wrap64 ((wrap64 (x5 * x102001)) + x4)) < (x110003.length : Int) then (spec_l03Turned.l1 k x4 (wrap64 (x5 + 1)) x102000 x102001 x102002 x102003 x110000 x110001 x110002 (x110003.set ((wrap64 ((wrap64 (x5 * x102001)) + x4)) : Int).toNat (rd x102003 (wrap64 ((wrap64 (x4 * x102002)) + x5))))) else (none)) else (none)) else (none)) else (none)) else (spec_l03Turned.l0 k (wrap64 (x4 + 1)) x102000 x102001 x102002 x102003 x110000 x110001 x110002 x110003)
end
def spec_l03Turned.f (k : Nat) (a0_0 : Int) (a0_1 : Int) (a0_2 : Int) (l0_3 : List Int) : Option (Int × Int × Int × List Int) := (spec_l03Zero.f a0_0 a0_2 a0_1).bind fun bt103 => (spec_l03Turned.l0 k 0 a0_0 a0_1 a0_2 l0_3 bt103.1 bt103.2.1 bt103.2.2.1 bt103.2.2.2)
def spec_l03Turned.T1 : Bool × List (List Nat × List Nat) := (true, [([], []), ([0], [0]), ([1], [1]), ([2], [2]), ([], []), ([4], [4]), ([5], [5]), ([6], [6]), ([], []), ([8], [8]), ([9], [9]), ([10], [10]), ([3, 7, 11], [3, 7, 11]), ([], []), ([13, 12, 12, 0, 1, 2, 3, 4, 5, 6, 7, 8, 9, 10, 11, 12, 13], [12, 13])])
def spec_l03Turned.B1 : List Nat := [0, 1, 3, 7, 0, 16, 48, 112, 0, 256, 768, 1792, 4095, 0, 16383]
theorem spec_l03Turned.tab1 : rtab .any (opsOf Try.f53 1) = spec_l03Turned.T1 := by kernel_rfl
theorem spec_l03Turned.bits1 : waitsOk spec_l03Turned.T1.2 spec_l03Turned.B1 = true := by kernel_rfl
def spec_l03Turned.T8 : Bool × List (List Nat × List Nat) := (true, [([], []), ([0], [0]), ([], []), ([], []), ([3], [3]), ([4], [4]), ([5], [5]), ([2, 6], [2, 6]), ([], []), ([7, 8], [7, 8]), ([], []), ([10], [10]), ([11], [11]), ([12], [12]), ([], []), ([], []), ([15], [15]), ([16], [16]), ([17], [17]), ([14, 18], [14, 18]), ([], []), ([19, 20], [19, 20]), ([13, 21], [13, 21]), ([22], [22]), ([1, 9, 0, 1, 2, 3, 4, 5, 6, 7, 8, 9, 10, 11, 12, 13, 14, 15, 16, 17, 18, 19, 20, 21, 22, 23], [1, 9]), ([24, 23, 0, 1, 2, 3, 4, 5, 6, 7, 8, 9, 10, 11, 12, 13, 14, 15, 16, 17, 18, 19, 20, 21, 22, 23], [23, 24])])
def spec_l03Turned.B8 : List Nat := [0, 1, 0, 0, 8, 24, 56, 124, 0, 508, 0, 1024, 3072, 7168, 0, 0, 32768, 98304, 229376, 507904, 0, 2080768, 4193280, 8387584, 16777215, 33554431]
theorem spec_l03Turned.tab8 : rtab .any (opsOf Try.f53 8) = spec_l03Turned.T8 := by kernel_rfl
theorem spec_l03Turned.bits8 : waitsOk spec_l03Turned.T8.2 spec_l03Turned.B8 = true := by kernel_rfl
def Z53.b (n x : Nat) : Array Bool := ((List.range n).map (fun i => x.testBit i)).toArray
theorem Z53.pP {P : Program} {ops : Array Oper} {Q : Exit → Act → World → Prop} {md : Region.Mode} {S : World → Prop} {ds : List Nat} (i N : Nat) {oi : Oper} {v : Value} {fuel : Nat} {l : Array Bool} {a : Act} {w : World} (l' : Array Bool) (hc : anyB md ops l l' i = true) {a' : Act} (h : wpAnyLast P md ops Q S ds fuel l' a' w) (hi : ops[i]? = some oi := by rfl) (hN : oi.dst = some N := by rfl) (hQ : ∀ c a w, Q (.panic c) (a.put oi.dst v) w → Q (.panic c) a w := by exact fun _ _ _ h => h) (hy : Yields P ops oi v a := by exact Or.inl ⟨(by rfl), by intro w'; go_simp; with_reducible rfl⟩) (ha : a.put (some N) v = a' := by simp only [Act.put, List.setIfInBounds_toArray, List.set_cons_zero, List.set_cons_succ, i64_w, i32_w]; rfl) : wpAnyLast P md ops Q S ds (fuel + 1) l a w := pure_ l' hi hN hc hQ hy ha h
theorem Z53.pT4 {P : Program} {ops : Array Oper} {Q : Exit → Act → World → Prop} {md : Region.Mode} {S : World → Prop} {ds : List Nat} (i N : Nat) {oi : Oper} {v : Value} {fuel : Nat} {l : Array Bool} {a : Act} {w : World} (l' : Array Bool) (hc : takeB md ops ds l l' i = true) (hS : S w) {a' : Act} (h : wpAnyLast P md ops Q S ds fuel l' a' w) (hi : ops[i]? = some oi := by rfl) (hN : oi.dst = some N := by rfl) (hQ : ∀ c a w, Q (.panic c) (a.put oi.dst v) w → Q (.panic c) a w := by exact fun _ _ _ h => h) (hy : YieldsIf P ops S oi v a := by exact Or.inl ⟨(by rfl), by rintro w' ⟨s0, s1, s2, s3⟩; go_simp; with_reducible rfl⟩) (ha : a.put (some N) v = a' := by simp only [Act.put, List.setIfInBounds_toArray, List.set_cons_zero, List.set_cons_succ, i64_w, i32_w]; rfl) : wpAnyLast P md ops Q S ds (fuel + 1) l a w := take_ l' hi hN hc hQ hy hS ha h
theorem Z53.pT9 {P : Program} {ops : Array Oper} {Q : Exit → Act → World → Prop} {md : Region.Mode} {S : World → Prop} {ds : List Nat} (i N : Nat) {oi : Oper} {v : Value} {fuel : Nat} {l : Array Bool} {a : Act} {w : World} (l' : Array Bool) (hc : takeB md ops ds l l' i = true) (hS : S w) {a' : Act} (h : wpAnyLast P md ops Q S ds fuel l' a' w) (hi : ops[i]? = some oi := by rfl) (hN : oi.dst = some N := by rfl) (hQ : ∀ c a w, Q (.panic c) (a.put oi.dst v) w → Q (.panic c) a w := by exact fun _ _ _ h => h) (hy : YieldsIf P ops S oi v a := by exact Or.inl ⟨(by rfl), by rintro w' ⟨s0, s1, s2, s3, s4, s5, s6, s7, s8⟩; go_simp; with_reducible rfl⟩) (ha : a.put (some N) v = a' := by simp only [Act.put, List.setIfInBounds_toArray, List.set_cons_zero, List.set_cons_succ, i64_w, i32_w]; rfl) : wpAnyLast P md ops Q S ds (fuel + 1) l a w := take_ l' hi hN hc hQ hy hS ha h
theorem Z53.bb {w0 w w1 : World} {g : Nat} {o : Obj} (_B : Aside0 (w0.heap[g]? = some o)) (h : w.heap[g]? = some o) (hb : Below w.heap.size w w1) : w1.heap[g]? = some o := blk_below h hb
theorem Z53.bl {w0 w : World} {g : Nat} {o : Obj} (_B : Aside0 (w0.heap[g]? = some o)) (h : w.heap[g]? = some o) : g < w.heap.size := blk_lt h
theorem Z53.k {p : Prop} (h : p) : Aside0 p := ⟨h⟩
theorem Z53.z9 {P : Prop} (h : P := by (try simp only [List.map_toArray, List.map_cons, List.map_nil]); first | done | rfl | (simp only [List.length_drop, List.length_take]; rfl)) : P := h
theorem Z53.z8 {P : Prop} (h : P := by (with_reducible repeat (first | apply Kd.R_alloc | apply Kd.R_drewN | apply Kd.R_drew)); exact HO108.out) : P := h
theorem Z53.z7 {P : Prop} (h : P := by repeat (first | (with_reducible first | exact HB.out | apply below_alloc | apply pw_below_drewN | apply below_drew1 | refine below_set ?_ GE101.out) | exact HB.out)) : P := h
theorem Z53.z6 {P : Prop} (h : P := by (with_reducible repeat (first | refine blk_drewN ?_ _ | refine blk_drew ?_ | refine blk_alloc ?_ _)); exact BK109.out) : P := h
theorem Z53.z5 {P : Prop} (h : P := by exact ⟨(blk_cell BK101.out 0).trans rfl, (blk_cell BK101.out 1).trans rfl, (blk_cell BK101.out 2).trans rfl, (blk_cell BK101.out 3).trans rfl⟩) : P := h
theorem Z53.z4 {P : Prop} (h : P := by (with_reducible repeat (first | refine blk_drewN ?_ _ | refine blk_drew ?_ | refine blk_alloc ?_ _)); exact BK102.out) : P := h
theorem Z53.z3 {P : Prop} (h : P := by repeat (first | (with_reducible first | exact HB.out | apply below_alloc | apply pw_below_drewN | apply below_drew1 | refine below_set ?_ GE101.out | refine below_set ?_ GE102.out) | exact HB.out)) : P := h
theorem Z53.z2 {P : Prop} (h : P := by (with_reducible repeat (first | refine blk_drewN ?_ _ | refine blk_drew ?_ | refine blk_alloc ?_ _)); exact BK101.out) : P := h
theorem Z53.z1 {P : Prop} (h : P := by repeat (first | (with_reducible first | exact HB.out | apply below_alloc | apply pw_below_drewN | apply below_drew1 | refine below_set ?_ GE101.out | refine below_set ?_ GE102.out | refine below_set ?_ GE109.out) | exact HB.out)) : P := h
theorem Z53.z0 {P : Prop} (h : P := by simp only [Act.put, List.setIfInBounds_toArray, List.set_cons_zero, List.set_cons_succ, i64_w, i32_w]; rfl) : P := h
set_option maxHeartbeats 8000000 in
set_option maxRecDepth 100000 in
theorem spec_l03Turned.calls (k : Nat) (a0_0 : Int) (a0_1 : Int) (a0_2 : Int) (A0_3 : Option Addr) (c0_3 : Nat) (l0_3 : List Int) (r1 : Int) (r2 : Int) (r3 : Int) (r4 : List Int) (w : World) (hr0_3 : Kd.C (Kd.int .i64) w A0_3 l0_3.length l0_3) (hc0_3 : l0_3.length ≤ c0_3) {g0_ : Nat} (hbk0_ : w.heap[g0_]? = some (.cells #[.int .i64 a0_0, .int .i64 a0_1, .int .i64 a0_2, .slice A0_3 l0_3.length c0_3] 28 (0, 0))) (h : spec_l03Turned.f k a0_0 a0_1 a0_2 l0_3 = some (r1, r2, r3, r4)) :
  Calls Try.prog 53 #[.pointer (some ⟨g0_, 0, none⟩)] w fun e w' => ∃ v3_ : Value, e = .returned (.agg #[.int .i64 r1, .int .i64 r2, .int .i64 r3, v3_]) ∧ Kd.R (Kd.int .i64) 2 w' w.heap.size (fun _ => True) v3_ r4 ∧ Below w.heap.size w w' := by
 have hu28 := Try.underlying28
 have HR0_3 := Z53.k hr0_3
 have HC0_3 := Z53.k hc0_3
 clear hr0_3 hc0_3
 have HB := Z53.k (Below.refl w.heap.size w)
 have H : ((spec_l03Zero.f a0_0 a0_2 a0_1).bind fun bt103 => (spec_l03Turned.l0 k 0 a0_0 a0_1 a0_2 l0_3 bt103.1 bt103.2.1 bt103.2.2.1 bt103.2.2.2)) = some (r1, r2, r3, r4) := h
 clear h
 replace H := Option.bind_eq_some_iff.mp H
 obtain ⟨⟨t103, t104, t105, t106⟩, A20, H⟩ := H
 replace H : (spec_l03Turned.l0 k 0 a0_0 a0_1 a0_2 l0_3 t103 t104 t105 t106) = some (r1, r2, r3, r4) := H
 have A2 := Z53.k A20
 clear A20
 have H' := Z53.k H
 clear H
 go_enter Try.func53, Try.ntmps53
 have BK101 := Z53.k hbk0_
 try go_wp2_with (first | ((with_reducible refine gate_dst (N := 2) rfl ?_); refine box_event ?hg (N := 2) ?hd (cs := #[.int .i64 0, .int .i64 0, .int .i64 0, .slice none 0 0]) (t := 28) ?hr ?_; (case hd => rfl); (case hg => rfl); (case hr => first | (go_simp; done) | (go_simp; rfl)); intro gb102 hg w4 hbox hb; have BK102 := Z53.k (hbox); have GW102 := Z53.k (show w.heap.size ≤ gb102 from (by rw [hg]; exact (below_size Z53.z7))); have GE102 := Z53.k (show w.heap.size ≤ gb102 from (by rw [hg]; exact (below_size Z53.z7))); have NB101_102 := Z53.k (show g0_ ≠ gb102 from (by rw [hg]; exact Nat.ne_of_lt (Z53.bl BK101 Z53.z2))); have NB102_101 := Z53.k (show gb102 ≠ g0_ from (by rw [hg]; exact Nat.ne_of_gt (Z53.bl BK101 Z53.z2))); replace BK101 := Z53.k (Z53.bb BK101 Z53.z2 hb); replace HB := Z53.k (below_step Z53.z7 hb); clear hb hbox hg))
 replace BK101 := Z53.k (blk_drew BK101.out)
 replace BK102 := Z53.k (blk_drew BK102.out)
 replace HB := Z53.k (below_drew1 HB.out)
 refine start_ (n := 15) (S := fun w' => w'.cell? ⟨g0_, 0, none⟩ = some (.int .i64 a0_0) ∧ w'.cell? ⟨g0_, 1, none⟩ = some (.int .i64 a0_1) ∧ w'.cell? ⟨g0_, 2, none⟩ = some (.int .i64 a0_2) ∧ w'.cell? ⟨g0_, 3, none⟩ = some (.slice A0_3 l0_3.length c0_3)) (ds := []) #[false, false, false, false, false, false, false, false, false, false, false, false, false, false, false] (by kernel_rfl) rfl rfl Z53.z5 (fun hHeld => ?_); refine with_tabW spec_l03Turned.tab1 spec_l03Turned.bits1 (fun HT_ HW_ => ?_)
 generalize w4.drew = w5 at BK101 BK102 HB hHeld ⊢
 refine Z53.pP 0 6 (Z53.b 15 1) (any_of HT_.out (by kernel_rfl)) ?_
 refine Z53.pP 1 7 (Z53.b 15 3) (any_of HT_.out (by kernel_rfl)) ?_
 refine Z53.pP 2 8 (Z53.b 15 7) (any_of HT_.out (by kernel_rfl)) ?_
 refine Z53.pP 4 10 (Z53.b 15 23) (any_of HT_.out (by kernel_rfl)) ?_
 refine Z53.pP 5 11 (Z53.b 15 55) (any_of HT_.out (by kernel_rfl)) ?_
 refine Z53.pP 6 12 (Z53.b 15 119) (any_of HT_.out (by kernel_rfl)) ?_
 refine Z53.pP 8 14 (Z53.b 15 375) (any_of HT_.out (by kernel_rfl)) ?_
 refine Z53.pP 9 15 (Z53.b 15 887) (any_of HT_.out (by kernel_rfl)) ?_
 refine Z53.pP 10 16 (Z53.b 15 1911) (any_of HT_.out (by kernel_rfl)) ?_
 refine Z53.pT4 3 9 (Z53.b 15 1919) (take_ofW HT_.out HW_.out (by kernel_rfl)) hHeld ?_
 refine Z53.pT4 7 13 (Z53.b 15 2047) (take_ofW HT_.out HW_.out (by kernel_rfl)) hHeld ?_
 refine Z53.pT4 11 17 (Z53.b 15 4095) (take_ofW HT_.out HW_.out (by kernel_rfl)) hHeld ?_
 refine join_ (σ := Value × Nat) 1 (Z53.b 15 16383) (fun s_ => [(18, .agg #[.int .i64 t103, .int .i64 t104, .int .i64 t105, s_.1]), (3, .pointer (some ⟨s_.2, 0, none⟩))]) (fun s_ w' => (w'.cell? ⟨g0_, 0, none⟩ = some (.int .i64 a0_0) ∧ w'.cell? ⟨g0_, 1, none⟩ = some (.int .i64 a0_1) ∧ w'.cell? ⟨g0_, 2, none⟩ = some (.int .i64 a0_2) ∧ w'.cell? ⟨g0_, 3, none⟩ = some (.slice A0_3 l0_3.length c0_3)) ∧ (Kd.R (Kd.int .i64) 2 w' w.heap.size (fun _ => True) s_.1 t106) ∧ (w'.heap[g0_]? = some (.cells #[.int .i64 a0_0, .int .i64 a0_1, .int .i64 a0_2, .slice A0_3 l0_3.length c0_3] 28 (0, 0))) ∧ (w'.heap[gb102]? = some (.cells #[.int .i64 0, .int .i64 0, .int .i64 0, .slice none 0 0] 28 (0, 0))) ∧ (w'.heap[s_.2]? = some (.cells #[.int .i64 0, .int .i64 0, .int .i64 0, .slice none 0 0] 28 (0, 0))) ∧ (w.heap.size ≤ s_.2) ∧ (w.heap.size ≤ s_.2) ∧ (g0_ ≠ s_.2) ∧ (s_.2 ≠ g0_) ∧ (gb102 ≠ s_.2) ∧ (s_.2 ≠ gb102) ∧ (Below w.heap.size w w')) ?_ ?_
 rotate_left
 ·intro hCont
  refine two_ (i := 12) (j := 13) (Ni := some 18) (Nj := some 3) (Z53.b 15 8191) (Z53.b 15 12287) rfl rfl rfl rfl (two_of HT_.out (by kernel_rfl)) (by decide) (by decide) (fun K hK => ?_) (fun K hK => ?_)
  ·skip
   refine goes_ Try.func85 (by kernel_rfl) rfl #[.int .i64 a0_0, .int .i64 a0_2, .int .i64 a0_1] (by rfl) rfl rfl Z53.z9 ?_
   with_reducible refine (spec_l03Zero.calls a0_0 a0_2 a0_1 t103 t104 t105 t106 _ A2.out).mono ?_
   rintro e w6 ⟨v107, rfl, ho0, hb⟩
   refine ⟨_, rfl, ?_⟩
   have HO108 := Z53.k (Kd.R_lower ho0 (below_size Z53.z3))
   replace BK101 := Z53.k (Z53.bb BK101 Z53.z2 hb)
   replace BK102 := Z53.k (Z53.bb BK102 Z53.z4 hb)
   replace HB := Z53.k (below_step Z53.z3 hb)
   (try clear hb)
   (try clear hb2)
   (try clear hk)
   (try clear hi)
   (try clear ho0)
   refine hK.out _ _ Z53.z5 (fun hHeld => ?_)
   clear hK K
   refine norm_ (a' := ?_) ?_ ?_
   rotate_left
   ·show Act.put _ (some 18) _ = _
    simp only [Act.put, List.setIfInBounds_toArray, List.set_cons_zero, List.set_cons_succ, i64_w, i32_w]
    rfl
   refine one_ (i := 13) (N := some 3) (Z53.b 15 16383) rfl rfl (one_of HT_.out (by kernel_rfl)) (by decide) (fun K hK => ?_)
   refine box_step ?hg (N := 3) ?hd (cs := #[.int .i64 0, .int .i64 0, .int .i64 0, .slice none 0 0]) (t := 28) ?hr ?_; (case hd => rfl); (case hg => rfl); (case hr => first | (go_simp; done) | (go_simp; rfl))
   intro gb109 hg w7 hbox hb
   have n0_ := Z53.k (Kd.R_below Z53.z8 hb)
   have n1_ := Z53.k (Z53.bb BK101 Z53.z2 hb)
   have n2_ := Z53.k (Z53.bb BK102 Z53.z4 hb)
   have n3_ := Z53.k (below_step Z53.z3 hb)
   have n4_ := Z53.k (hbox)
   have n5_ := Z53.k (show w.heap.size ≤ gb109 from (by rw [hg]; exact (below_size Z53.z3)))
   have n6_ := Z53.k (show w.heap.size ≤ gb109 from (by rw [hg]; exact (below_size Z53.z3)))
   have n7_ := Z53.k (show g0_ ≠ gb109 from (by rw [hg]; exact Nat.ne_of_lt (Z53.bl BK101 Z53.z2)))
   have n8_ := Z53.k (show gb109 ≠ g0_ from (by rw [hg]; exact Nat.ne_of_gt (Z53.bl BK101 Z53.z2)))
   have n9_ := Z53.k (show gb102 ≠ gb109 from (by rw [hg]; exact Nat.ne_of_lt (Z53.bl BK102 Z53.z4)))
   have n10_ := Z53.k (show gb109 ≠ gb102 from (by rw [hg]; exact Nat.ne_of_gt (Z53.bl BK102 Z53.z4)))
   clear HO108 BK101 BK102 HB
   have HO108 := n0_
   have BK101 := n1_
   have BK102 := n2_
   have HB := n3_
   have BK109 := n4_
   have GW109 := n5_
   have GE109 := n6_
   have NB101_109 := n7_
   have NB109_101 := n8_
   have NB102_109 := n9_
   have NB109_102 := n10_
   clear n0_ n1_ n2_ n3_ n4_ n5_ n6_ n7_ n8_ n9_ n10_ hb hbox hg
   refine hK.out _ _ Z53.z5 (fun hHeld => ?_)
   clear hK K
   refine norm_ (a' := ?_) ?_ ?_
   rotate_left
   ·show Act.put _ (some 3) _ = _
    simp only [Act.put, List.setIfInBounds_toArray, List.set_cons_zero, List.set_cons_succ, i64_w, i32_w]
    rfl
   exact norm_ (by simp only [putAll, Act.put, List.setIfInBounds_toArray, List.set_cons_zero, List.set_cons_succ]) (hCont (v107, gb109) _ ⟨hHeld, Z53.z8, Z53.z2, Z53.z4, Z53.z6, GW109.out, GE109.out, NB101_109.out, NB109_101.out, NB102_109.out, NB109_102.out, Z53.z1⟩)
  skip
  refine box_step ?hg (N := 3) ?hd (cs := #[.int .i64 0, .int .i64 0, .int .i64 0, .slice none 0 0]) (t := 28) ?hr ?_; (case hd => rfl); (case hg => rfl); (case hr => first | (go_simp; done) | (go_simp; rfl))
  intro gb109 hg w6 hbox hb
  have n0_ := Z53.k (Z53.bb BK101 Z53.z2 hb)
  have n1_ := Z53.k (Z53.bb BK102 Z53.z4 hb)
  have n2_ := Z53.k (below_step Z53.z3 hb)
  have n3_ := Z53.k (hbox)
  have n4_ := Z53.k (show w.heap.size ≤ gb109 from (by rw [hg]; exact (below_size Z53.z3)))
  have n5_ := Z53.k (show w.heap.size ≤ gb109 from (by rw [hg]; exact (below_size Z53.z3)))
  have n6_ := Z53.k (show g0_ ≠ gb109 from (by rw [hg]; exact Nat.ne_of_lt (Z53.bl BK101 Z53.z2)))
  have n7_ := Z53.k (show gb109 ≠ g0_ from (by rw [hg]; exact Nat.ne_of_gt (Z53.bl BK101 Z53.z2)))
  have n8_ := Z53.k (show gb102 ≠ gb109 from (by rw [hg]; exact Nat.ne_of_lt (Z53.bl BK102 Z53.z4)))
  have n9_ := Z53.k (show gb109 ≠ gb102 from (by rw [hg]; exact Nat.ne_of_gt (Z53.bl BK102 Z53.z4)))
  clear BK101 BK102 HB
  have BK101 := n0_
  have BK102 := n1_
  have HB := n2_
  have BK109 := n3_
  have GW109 := n4_
  have GE109 := n5_
  have NB101_109 := n6_
  have NB109_101 := n7_
  have NB102_109 := n8_
  have NB109_102 := n9_
  clear n0_ n1_ n2_ n3_ n4_ n5_ n6_ n7_ n8_ n9_ hb hbox hg
  refine hK.out _ _ Z53.z5 (fun hHeld => ?_)
  clear hK K
  refine norm_ (a' := ?_) ?_ ?_
  rotate_left
  ·show Act.put _ (some 3) _ = _
   simp only [Act.put, List.setIfInBounds_toArray, List.set_cons_zero, List.set_cons_succ, i64_w, i32_w]
   rfl
  refine one_ (i := 12) (N := some 18) (Z53.b 15 16383) rfl rfl (one_of HT_.out (by kernel_rfl)) (by decide) (fun K hK => ?_)
  refine goes_ Try.func85 (by kernel_rfl) rfl #[.int .i64 a0_0, .int .i64 a0_2, .int .i64 a0_1] (by rfl) rfl rfl Z53.z9 ?_
  with_reducible refine (spec_l03Zero.calls a0_0 a0_2 a0_1 t103 t104 t105 t106 _ A2.out).mono ?_
  rintro e w7 ⟨v107, rfl, ho0, hb⟩
  refine ⟨_, rfl, ?_⟩
  have HO108 := Z53.k (Kd.R_lower ho0 (below_size Z53.z1))
  replace BK101 := Z53.k (Z53.bb BK101 Z53.z2 hb)
  replace BK102 := Z53.k (Z53.bb BK102 Z53.z4 hb)
  replace BK109 := Z53.k (Z53.bb BK109 Z53.z6 hb)
  replace HB := Z53.k (below_step Z53.z1 hb)
  (try clear hb)
  (try clear hb2)
  (try clear hk)
  (try clear hi)
  (try clear ho0)
  refine hK.out _ _ Z53.z5 (fun hHeld => ?_)
  clear hK K
  refine norm_ (a' := ?_) ?_ ?_
  rotate_left
  ·show Act.put _ (some 18) _ = _
   simp only [Act.put, List.setIfInBounds_toArray, List.set_cons_zero, List.set_cons_succ, i64_w, i32_w]
   rfl
  exact norm_ (by simp only [putAll, Act.put, List.setIfInBounds_toArray, List.set_cons_zero, List.set_cons_succ]) (hCont (v107, gb109) _ ⟨hHeld, Z53.z8, Z53.z2, Z53.z4, Z53.z6, GW109.out, GE109.out, NB101_109.out, NB109_101.out, NB102_109.out, NB109_102.out, Z53.z1⟩)
 rintro ⟨v107, gb109⟩ w8 ⟨hS_, h0_, h1_, h2_, h3_, h4_, h5_, h6_, h7_, h8_, h9_, h10_⟩
 have n0_ : Aside0 (Kd.R (Kd.int .i64) 2 w8 w.heap.size (fun _ => True) v107 t106) := ⟨h0_⟩
 have n1_ : Aside0 (w8.heap[g0_]? = some (.cells #[.int .i64 a0_0, .int .i64 a0_1, .int .i64 a0_2, .slice A0_3 l0_3.length c0_3] 28 (0, 0))) := ⟨h1_⟩
 have n2_ : Aside0 (w8.heap[gb102]? = some (.cells #[.int .i64 0, .int .i64 0, .int .i64 0, .slice none 0 0] 28 (0, 0))) := ⟨h2_⟩
 have n3_ : Aside0 (w8.heap[gb109]? = some (.cells #[.int .i64 0, .int .i64 0, .int .i64 0, .slice none 0 0] 28 (0, 0))) := ⟨h3_⟩
 have n4_ : Aside0 (w.heap.size ≤ gb109) := ⟨h4_⟩
 have n5_ : Aside0 (w.heap.size ≤ gb109) := ⟨h5_⟩
 have n6_ : Aside0 (g0_ ≠ gb109) := ⟨h6_⟩
 have n7_ : Aside0 (gb109 ≠ g0_) := ⟨h7_⟩
 have n8_ : Aside0 (gb102 ≠ gb109) := ⟨h8_⟩
 have n9_ : Aside0 (gb109 ≠ gb102) := ⟨h9_⟩
 have n10_ : Aside0 (Below w.heap.size w w8) := ⟨h10_⟩
 clear BK101 BK102 HB h0_ h1_ h2_ h3_ h4_ h5_ h6_ h7_ h8_ h9_ h10_
 have HO108 := n0_
 have BK101 := n1_
 have BK102 := n2_
 have BK109 := n3_
 have GW109 := n4_
 have GE109 := n5_
 have NB101_109 := n6_
 have NB109_101 := n7_
 have NB102_109 := n8_
 have NB109_102 := n9_
 have HB := n10_
 clear n0_ n1_ n2_ n3_ n4_ n5_ n6_ n7_ n8_ n9_ n10_
 have hHeld : w8.cell? ⟨g0_, 0, none⟩ = some (.int .i64 a0_0) ∧ w8.cell? ⟨g0_, 1, none⟩ = some (.int .i64 a0_1) ∧ w8.cell? ⟨g0_, 2, none⟩ = some (.int .i64 a0_2) ∧ w8.cell? ⟨g0_, 3, none⟩ = some (.slice A0_3 l0_3.length c0_3) := hS_
 obtain ⟨Ao12, co12, eo12⟩ := Kd.R_slice HO108.out
 (first | subst eo12 | (injection eo12 with f1_ f2_ f3_; have f4_ := f1_.symm; have f5_ := f3_.symm; clear f1_ f2_ f3_; subst f4_; subst f5_))
 refine norm_ (a' := ?_) ?_ ?_
 rotate_left
 ·simp only [putAll, Act.put, List.setIfInBounds_toArray, List.set_cons_zero, List.set_cons_succ]
  rfl
 refine one_ (i := 14) (N := none) (Z53.b 15 32767) rfl rfl (one_of HT_.out (by kernel_rfl)) (by decide) (fun K hK => ?_)
 have hs9 : w8.cell? ⟨gb109, 0, none⟩ = some (.int .i64 0) := (blk_cell BK109.out 0).trans rfl
 have hfs9 := blk_frozen BK109.out 0
 have hns9_0 := NB101_109.out
 have hns9_1 := NB102_109.out
 have hms9_0 := NB109_101.out
 have hms9_1 := NB109_102.out
 have hs10 : w8.cell? ⟨gb109, 1, none⟩ = some (.int .i64 0) := (blk_cell BK109.out 1).trans rfl
 have hfs10 := blk_frozen BK109.out 1
 have hns10_0 := NB101_109.out
 have hns10_1 := NB102_109.out
 have hms10_0 := NB109_101.out
 have hms10_1 := NB109_102.out
 have hs11 : w8.cell? ⟨gb109, 2, none⟩ = some (.int .i64 0) := (blk_cell BK109.out 2).trans rfl
 have hfs11 := blk_frozen BK109.out 2
 have hns11_0 := NB101_109.out
 have hns11_1 := NB102_109.out
 have hms11_0 := NB109_101.out
 have hms11_1 := NB109_102.out
 have hs13 : w8.cell? ⟨gb109, 3, none⟩ = some (.slice none 0 0) := (blk_cell BK109.out 3).trans rfl
 have hfs13 := blk_frozen BK109.out 3
 have hns13_0 := NB101_109.out
 have hns13_1 := NB102_109.out
 have hms13_0 := NB109_101.out
 have hms13_1 := NB109_102.out
 refine skip_ (w1 := ?_) (by rfl) rfl ?_ ?_
 rotate_left
 ·go_simp
  rfl
 refine hK.out _ _ ⟨((cell_far (p := ⟨gb109, _, none⟩) NB101_109.out _).trans (((cell_far (p := ⟨gb109, _, none⟩) NB101_109.out _).trans (((cell_far (p := ⟨gb109, _, none⟩) NB101_109.out _).trans (((cell_far (p := ⟨gb109, _, none⟩) NB101_109.out _).trans (hHeld.1)))))))), ((cell_far (p := ⟨gb109, _, none⟩) NB101_109.out _).trans (((cell_far (p := ⟨gb109, _, none⟩) NB101_109.out _).trans (((cell_far (p := ⟨gb109, _, none⟩) NB101_109.out _).trans (((cell_far (p := ⟨gb109, _, none⟩) NB101_109.out _).trans (hHeld.2.1)))))))), ((cell_far (p := ⟨gb109, _, none⟩) NB101_109.out _).trans (((cell_far (p := ⟨gb109, _, none⟩) NB101_109.out _).trans (((cell_far (p := ⟨gb109, _, none⟩) NB101_109.out _).trans (((cell_far (p := ⟨gb109, _, none⟩) NB101_109.out _).trans (hHeld.2.2.1)))))))), ((cell_far (p := ⟨gb109, _, none⟩) NB101_109.out _).trans (((cell_far (p := ⟨gb109, _, none⟩) NB101_109.out _).trans (((cell_far (p := ⟨gb109, _, none⟩) NB101_109.out _).trans (((cell_far (p := ⟨gb109, _, none⟩) NB101_109.out _).trans (hHeld.2.2.2))))))))⟩ (fun hHeld => ?_)
 clear hK K
 refine done_ (done_of HT_.out (by kernel_rfl)) ?_
 try go_wp2
 go_loopg [4] k (fun kq v4 w' => ∃ (x4_1 : Int) (x110003_1 : List Int) (u110003 : Value), v4 = .int .i64 x4_1 ∧ Aside0 (spec_l03Turned.l0 kq x4_1 a0_0 a0_1 a0_2 l0_3 t103 t104 t105 x110003_1 = some (r1, r2, r3, r4)) ∧ Aside0 (kq ≤ k) ∧ Aside0 (Kd.R (Kd.int .i64) 2 w' w.heap.size (fun _ => True) u110003 x110003_1) ∧ Aside0 (w'.heap[g0_]? = some (.cells #[.int .i64 a0_0, .int .i64 a0_1, .int .i64 a0_2, (.slice A0_3 l0_3.length c0_3)] 28 (0, 0))) ∧ Aside0 (w'.heap[gb102]? = some (.cells #[.int .i64 0, .int .i64 0, .int .i64 0, (.slice none 0 0)] 28 (0, 0))) ∧ Aside0 (w'.heap[gb109]? = some (.cells #[.int .i64 t103, .int .i64 t104, .int .i64 t105, u110003] 28 (0, 0))) ∧ Aside0 (Below w.heap.size w w'))
 case atStart => exact ⟨(0), (t106), (.slice Ao12 t106.length co12), (by first | rfl | (simp; done) | (simp [*]; done)), H', ⟨Nat.le_refl _⟩, ⟨(by (with_reducible repeat (first | apply Kd.R_alloc | apply Kd.R_drewN | apply Kd.R_drew)); exact Kd.R_mono (Kd.R_far (p := ⟨gb109, 3, none⟩) (Kd.R_far (p := ⟨gb109, 2, none⟩) (Kd.R_far (p := ⟨gb109, 1, none⟩) (Kd.R_far (p := ⟨gb109, 0, none⟩) (Kd.R_types HO108.out BK109.out (by decide)) (fun _ hk => hk.2) (.int .i64 t103)) (fun _ hk => hk.2) (.int .i64 t104)) (fun _ hk => hk.2) (.int .i64 t105)) (fun _ hk => hk.2) (.slice Ao12 t106.length co12)) (fun _ hk => trivial))⟩, ⟨(by (repeat (first | (with_reducible first | refine blk_drewN ?_ _ | refine blk_drew ?_ | refine blk_alloc ?_ _) | refine blk_far ?_ NB101_109.out _)); exact BK101.out)⟩, ⟨(by (repeat (first | (with_reducible first | refine blk_drewN ?_ _ | refine blk_drew ?_ | refine blk_alloc ?_ _) | refine blk_far ?_ NB102_109.out _)); exact BK102.out)⟩, ⟨(by (with_reducible repeat (first | refine blk_drewN ?_ _ | refine blk_drew ?_ | refine blk_alloc ?_ _)); refine blk_put (cs := #[.int .i64 t103, .int .i64 t104, .int .i64 t105, .slice none 0 0]) ?_ 3 _ rfl; (with_reducible repeat (first | refine blk_drewN ?_ _ | refine blk_drew ?_ | refine blk_alloc ?_ _)); refine blk_put (cs := #[.int .i64 t103, .int .i64 t104, .int .i64 0, .slice none 0 0]) ?_ 2 _ rfl; (with_reducible repeat (first | refine blk_drewN ?_ _ | refine blk_drew ?_ | refine blk_alloc ?_ _)); refine blk_put (cs := #[.int .i64 t103, .int .i64 0, .int .i64 0, .slice none 0 0]) ?_ 1 _ rfl; (with_reducible repeat (first | refine blk_drewN ?_ _ | refine blk_drew ?_ | refine blk_alloc ?_ _)); refine blk_put (cs := #[.int .i64 0, .int .i64 0, .int .i64 0, .slice none 0 0]) ?_ 0 _ rfl; (with_reducible repeat (first | refine blk_drewN ?_ _ | refine blk_drew ?_ | refine blk_alloc ?_ _)); exact BK109.out)⟩, ⟨Z53.z1⟩⟩
 case round =>
  clear H'
  try clear p2
  try clear c5
  try clear c8
  obtain ⟨x4_1, x110003_1, u110003, rfl, HA, HK1, HO_110003, BK101, BK102, BK109, HB⟩ := hrel
  cases gk with
  | zero => exact absurd HA.out (by simp [spec_l03Turned.l0])
  | succ k1 =>
   have H := HA.out
   clear HA
   simp only [spec_l03Turned.l0] at H
   by_cases c14 : x4_1 < a0_1
   ·rw [if_pos c14] at H
    have c14b0 : decide (x4_1 < a0_1) = true := decide_eq_true c14
    clear c14
    have H' := Z53.k H
    clear H
    have hnb15 := NB101_102.out
    have hnc15 := NB102_101.out
    have hnb16 := NB101_109.out
    have hnc16 := NB109_101.out
    obtain ⟨hcz17_0, hcz17_1, hcz17_2, hcz17_3, hfz17_0, hfz17_1, hfz17_2, hfz17_3⟩ := cells4 BK101.out
    go_wp2
    go_loopg [5] k1 (fun kq v5 w' => ∃ (x5_2 : Int) (x110003_2 : List Int) (u110003 : Value), v5 = .int .i64 x5_2 ∧ Aside0 (spec_l03Turned.l1 kq x4_1 x5_2 a0_0 a0_1 a0_2 l0_3 t103 t104 t105 x110003_2 = some (r1, r2, r3, r4)) ∧ Aside0 (kq ≤ k1) ∧ Aside0 (Kd.R (Kd.int .i64) 2 w' w.heap.size (fun _ => True) u110003 x110003_2) ∧ Aside0 (w'.heap[g0_]? = some (.cells #[.int .i64 a0_0, .int .i64 a0_1, .int .i64 a0_2, (.slice A0_3 l0_3.length c0_3)] 28 (0, 0))) ∧ Aside0 (w'.heap[gb102]? = some (.cells #[.int .i64 0, .int .i64 0, .int .i64 0, (.slice none 0 0)] 28 (0, 0))) ∧ Aside0 (w'.heap[gb109]? = some (.cells #[.int .i64 t103, .int .i64 t104, .int .i64 t105, u110003] 28 (0, 0))) ∧ Aside0 (Below w.heap.size w w'))
    case atStart => exact ⟨(0), (x110003_1), (u110003), (by first | rfl | (simp; done) | (simp [*]; done)), H', ⟨Nat.le_refl _⟩, ⟨(by (with_reducible repeat (first | apply Kd.R_alloc | apply Kd.R_drewN | apply Kd.R_drew)); exact HO_110003.out)⟩, ⟨Z53.z2⟩, ⟨Z53.z4⟩, ⟨Z53.z6⟩, ⟨Z53.z1⟩⟩
    case round =>
     clear H'
     try clear c1
     try clear p2
     try clear c5
     try clear c8
     try clear c14
     try clear c14b0
     try clear c15
     try clear c16
     try clear hcz17_0
     try clear hcz17_1
     try clear hcz17_2
     try clear hcz17_3
     try clear hfz17_0
     try clear hfz17_1
     try clear hfz17_2
     try clear hfz17_3
     try clear p2
     obtain ⟨x5_2, x110003_2, u110003, rfl, HA, HK2, HO_110003, BK101, BK102, BK109, HB⟩ := hrel
     cases gk with
     | zero => exact absurd HA.out (by simp [spec_l03Turned.l1])
     | succ k2 =>
      have H := HA.out
      clear HA; simp only [spec_l03Turned.l1] at H
      by_cases c18 : x5_2 < a0_2
      ·rw [if_pos c18] at H
       have c18b0 : decide (x5_2 < a0_2) = true := decide_eq_true c18; clear c18; obtain ⟨ji19, hji19⟩ : ∃ j_ : Int, (wrap64 ((wrap64 (x4_1 * a0_2)) + x5_2)) = j_ := ⟨_, rfl⟩; replace H : (if 0 ≤ (ji19) then (if (ji19) < (l0_3.length : Int) then (if 0 ≤ (wrap64 ((wrap64 (x5_2 * a0_1)) + x4_1)) then (if (wrap64 ((wrap64 (x5_2 * a0_1)) + x4_1)) < (x110003_2.length : Int) then (spec_l03Turned.l1 k2 x4_1 (wrap64 (x5_2 + 1)) a0_0 a0_1 a0_2 l0_3 t103 t104 t105 (x110003_2.set ((wrap64 ((wrap64 (x5_2 * a0_1)) + x4_1)) : Int).toNat (rd l0_3 (ji19)))) else (none)) else (none)) else (none)) else (none)) = some (r1, r2, r3, r4) := by first | (rw [hji19] at H; exact H) | (simp only [hji19] at H ⊢; exact H)
       have hji19w : (IntKind.i64.wrap ((wrap64 (x4_1 * a0_2)) + x5_2)) = ji19 := (i64_w _).trans hji19
       by_cases c20 : 0 ≤ (ji19)
       ·rw [if_pos c20] at H
        have c20b0 : decide (0 ≤ (ji19)) = true := decide_eq_true c20; clear c20
        by_cases c21 : (ji19) < (l0_3.length : Int)
        ·rw [if_pos c21] at H
         have c21b0 : decide ((ji19) < (l0_3.length : Int)) = true := decide_eq_true c21; clear c21; obtain ⟨ji22, hji22⟩ : ∃ j_ : Int, (wrap64 ((wrap64 (x5_2 * a0_1)) + x4_1)) = j_ := ⟨_, rfl⟩; replace H : (if 0 ≤ (ji22) then (if (ji22) < (x110003_2.length : Int) then (spec_l03Turned.l1 k2 x4_1 (wrap64 (x5_2 + 1)) a0_0 a0_1 a0_2 l0_3 t103 t104 t105 (x110003_2.set ((ji22) : Int).toNat (rd l0_3 (ji19)))) else (none)) else (none)) = some (r1, r2, r3, r4) := by first | (rw [hji22] at H; exact H) | (simp only [hji22] at H ⊢; exact H)
         have hji22w : (IntKind.i64.wrap ((wrap64 (x5_2 * a0_1)) + x4_1)) = ji22 := (i64_w _).trans hji22
         by_cases c23 : 0 ≤ (ji22)
         ·rw [if_pos c23] at H
          have c23b0 : decide (0 ≤ (ji22)) = true := decide_eq_true c23; clear c23
          by_cases c24 : (ji22) < (x110003_2.length : Int)
          ·rw [if_pos c24] at H
           have c24b0 : decide ((ji22) < (x110003_2.length : Int)) = true := decide_eq_true c24; clear c24; obtain ⟨y111, hy111⟩ : ∃ y_ : List Int, y_ = (x110003_2.set ((ji22) : Int).toNat (rd l0_3 (ji19))) := ⟨_, rfl⟩; replace H : (spec_l03Turned.l1 k2 x4_1 (wrap64 (x5_2 + 1)) a0_0 a0_1 a0_2 l0_3 t103 t104 t105 y111) = some (r1, r2, r3, r4) := by first | (rw [hy111]; with_reducible exact H) | (have H2_ := (Option.bind_some _ _).symm.trans H; rw [hy111]; with_reducible exact H2_) | (have H2_ := (Option.bind_some _ _).symm.trans H; with_reducible exact H2_) | with_reducible exact H | (rw [hy111]; exact H) | exact H
           have Ny111 := Z53.k hy111; clear hy111; have H' := Z53.k H; clear H; have hnb26 := NB101_102.out; have hnc26 := NB102_101.out; have hnb27 := NB101_109.out; have hnc27 := NB109_101.out; obtain ⟨hcz28_0, hcz28_1, hcz28_2, hcz28_3, hfz28_0, hfz28_1, hfz28_2, hfz28_3⟩ := cells4 BK101.out
           try go_wp2
           replace HO_110003 := Z53.k (Kd.R_drew HO_110003.out); replace BK101 := Z53.k (blk_drew BK101.out); replace BK102 := Z53.k (blk_drew BK102.out); replace BK109 := Z53.k (blk_drew BK109.out); replace HB := Z53.k (below_drew1 HB.out); have p110 : 0 ≤ ((ji19) : Int) := of_decide_eq_true (by first | (with_reducible assumption) | assumption); have q110 : (ji19) < (l0_3.length : Int) := of_decide_eq_true (by first | (with_reducible assumption) | assumption); obtain ⟨ad110, e110, hx110_0⟩ := Kd.at_int HR0_3.out (ji19) p110 q110; have hw110_0 := hx110_0; cases e110; replace hx110_0 := (HB.out.cell (World.block_lt_of_cell? w _ hx110_0)).trans hx110_0; replace p110 := eq_true p110; replace q110 := eq_true q110; have p25 : 0 ≤ ((ji22) : Int) := of_decide_eq_true (by first | (with_reducible assumption) | assumption); have q25 : ((ji22) : Int) < ((x110003_2.length : Int) : Int) := of_decide_eq_true (by first | (with_reducible assumption) | assumption); obtain ⟨go25, co25, eo25, gb25, gl25, cl25, HG25⟩ := Kd.R_form HO_110003.out (by omega)
           (first | cases eo25 | (injection eo25 with ea_ en_ ec_; (first | subst ea_ | (injection ea_ with ea_; subst ea_)); subst ec_; clear en_))
           have GB25 := Z53.k gb25; have GG25 := Z53.k HG25; clear gb25 gl25 HG25; obtain ⟨hx25_0, hf25_0⟩ := Kd.R_celln 0 HO_110003.out ((ji22) : Int) p25 q25; replace p25 := eq_true p25; replace q25 := eq_true q25; have HP30 := Kd.R_putn HO_110003.out ((ji22) : Int) (rd l0_3 (ji19)); rw [← Ny111.out] at HP30; have HQ30 := Z53.k HP30; clear HP30; refine start_ (n := 26) (S := fun w' => w'.cell? ⟨gb109, 0, none⟩ = some (.int .i64 t103) ∧ w'.cell? ⟨gb109, 1, none⟩ = some (.int .i64 t104) ∧ w'.cell? ⟨gb109, 2, none⟩ = some (.int .i64 t105) ∧ w'.cell? ⟨gb109, 3, none⟩ = some (.slice (some ⟨go25, 0, none⟩) x110003_2.length co25) ∧ w'.cell? ⟨g0_, 0, none⟩ = some (.int .i64 a0_0) ∧ w'.cell? ⟨g0_, 1, none⟩ = some (.int .i64 a0_1) ∧ w'.cell? ⟨g0_, 2, none⟩ = some (.int .i64 a0_2) ∧ w'.cell? ⟨g0_, 3, none⟩ = some (.slice (some ad110) l0_3.length c0_3) ∧ w'.cell? (ad110.add ((ji19)).toNat) = some (.int .i64 (rd l0_3 (ji19)))) (ds := [25]) #[false, false, false, false, false, false, false, false, false, false, false, false, false, false, false, false, false, false, false, false, false, false, false, false, false, false] (by kernel_rfl) rfl rfl ⟨(blk_cell BK109.out 0).trans rfl, (blk_cell BK109.out 1).trans rfl, (blk_cell BK109.out 2).trans rfl, (blk_cell BK109.out 3).trans rfl, (blk_cell BK101.out 0).trans rfl, (blk_cell BK101.out 1).trans rfl, (blk_cell BK101.out 2).trans rfl, (blk_cell BK101.out 3).trans rfl, ((HB.out.cell (World.block_lt_of_cell? w _ hw110_0)).trans hw110_0)⟩ (fun hHeld => ?_); refine with_tabW spec_l03Turned.tab8 spec_l03Turned.bits8 (fun HT_ HW_ => ?_); generalize wr.drew = w29 at HO_110003 BK101 BK102 BK109 HB GG25 HQ30 hf25_0 hx110_0 hx25_0 hHeld ⊢
           refine Z53.pP 0 35 (Z53.b 26 1) (any_of HT_.out (by kernel_rfl)) ?_; refine Z53.pP 2 37 (Z53.b 26 5) (any_of HT_.out (by kernel_rfl)) ?_; refine Z53.pP 3 38 (Z53.b 26 13) (any_of HT_.out (by kernel_rfl)) ?_; refine Z53.pP 4 39 (Z53.b 26 29) (any_of HT_.out (by kernel_rfl)) ?_; refine Z53.pP 5 40 (Z53.b 26 61) (any_of HT_.out (by kernel_rfl)) ?_; refine Z53.pP 8 43 (Z53.b 26 317) (any_of HT_.out (by kernel_rfl)) ?_; refine Z53.pP 10 45 (Z53.b 26 1341) (any_of HT_.out (by kernel_rfl)) ?_; refine Z53.pP 11 46 (Z53.b 26 3389) (any_of HT_.out (by kernel_rfl)) ?_; refine Z53.pP 12 47 (Z53.b 26 7485) (any_of HT_.out (by kernel_rfl)) ?_; refine Z53.pP 14 49 (Z53.b 26 23869) (any_of HT_.out (by kernel_rfl)) ?_; refine Z53.pP 15 50 (Z53.b 26 56637) (any_of HT_.out (by kernel_rfl)) ?_; refine Z53.pP 16 51 (Z53.b 26 122173) (any_of HT_.out (by kernel_rfl)) ?_; refine Z53.pP 17 52 (Z53.b 26 253245) (any_of HT_.out (by kernel_rfl)) ?_; refine Z53.pP 20 55 (Z53.b 26 1301821) (any_of HT_.out (by kernel_rfl)) ?_; refine Z53.pT9 1 36 (Z53.b 26 1301823) (take_ofW HT_.out HW_.out (by kernel_rfl)) hHeld ?_; refine Z53.pT9 6 41 (Z53.b 26 1301887) (take_ofW HT_.out HW_.out (by kernel_rfl)) hHeld ?_; refine Z53.pP 7 42 (Z53.b 26 1302015) (any_of HT_.out (by kernel_rfl)) ?_; refine Z53.pP 9 44 (Z53.b 26 1302527) (any_of HT_.out (by kernel_rfl)) ?_; refine Z53.pT9 13 48 (Z53.b 26 1310719) (take_ofW HT_.out HW_.out (by kernel_rfl)) hHeld ?_; refine Z53.pT9 18 53 (Z53.b 26 1572863) (take_ofW HT_.out HW_.out (by kernel_rfl)) hHeld ?_; refine Z53.pP 19 54 (Z53.b 26 2097151) (any_of HT_.out (by kernel_rfl)) ?_; refine Z53.pP 21 56 (Z53.b 26 4194303) (any_of HT_.out (by kernel_rfl)) ?_; refine Z53.pP 22 57 (Z53.b 26 8388607) (any_of HT_.out (by kernel_rfl)) ?_; refine Z53.pT9 23 58 (Z53.b 26 16777215) (take_ofW HT_.out HW_.out (by kernel_rfl)) hHeld ?_; refine Z53.pP 24 59 (Z53.b 26 33554431) (any_of HT_.out (by kernel_rfl)) ?_; refine last_ (i := 25) (N := none) (Z53.b 26 67108863) rfl rfl (one_of HT_.out (by kernel_rfl)) (by decide) (fun K hK => ?_); refine skip_ (w1 := ?_) (by rfl) rfl ?_ ?_
           rotate_left
           ·go_simp
            rfl
           refine hK.out _ _ ?_; clear hK K; refine done_ (done_of HT_.out (by kernel_rfl)) ?_
           try go_wp2
           go_roundg k2
           case measure => have := HK1.out; have := HK2.out; omega
           case rel => exact ⟨(wrap64 (x5_2 + 1)), (y111), (.slice (some ⟨go25, 0, none⟩) x110003_2.length co25), (by first | rfl | (simp; done) | (simp [*]; done)), H', ⟨(by have := HK1.out; have := HK2.out; omega)⟩, ⟨(by (with_reducible repeat (first | apply Kd.R_alloc | apply Kd.R_drewN | apply Kd.R_drew)); exact HQ30.out)⟩, ⟨(by (with_reducible repeat (first | refine blk_drewN ?_ _ | refine blk_drew ?_ | refine blk_alloc ?_ _)); refine blk_far ?_ (by have h_ := Kd.R_ne HO_110003.out BK101.out (by decide); intro e_; exact h_ (by rw [e_]; rfl)) _; (with_reducible repeat (first | refine blk_drewN ?_ _ | refine blk_drew ?_ | refine blk_alloc ?_ _)); exact BK101.out)⟩, ⟨(by (with_reducible repeat (first | refine blk_drewN ?_ _ | refine blk_drew ?_ | refine blk_alloc ?_ _)); refine blk_far ?_ (by have h_ := Kd.R_ne HO_110003.out BK102.out (by decide); intro e_; exact h_ (by rw [e_]; rfl)) _; (with_reducible repeat (first | refine blk_drewN ?_ _ | refine blk_drew ?_ | refine blk_alloc ?_ _)); exact BK102.out)⟩, ⟨(by (with_reducible repeat (first | refine blk_drewN ?_ _ | refine blk_drew ?_ | refine blk_alloc ?_ _)); refine blk_far ?_ (by have h_ := Kd.R_ne HO_110003.out BK109.out (by decide); intro e_; exact h_ (by rw [e_]; rfl)) _; (with_reducible repeat (first | refine blk_drewN ?_ _ | refine blk_drew ?_ | refine blk_alloc ?_ _)); exact BK109.out)⟩, ⟨(by repeat (first | (with_reducible first | exact HB.out | apply below_alloc | apply pw_below_drewN | apply below_drew1 | refine below_set ?_ GB25.out | refine below_set ?_ GE101.out | refine below_set ?_ GE102.out | refine below_set ?_ GE109.out) | exact HB.out))⟩⟩
          rw [if_neg c24] at H; exact absurd H (by simp)
         rw [if_neg c23] at H; exact absurd H (by simp)
        rw [if_neg c21] at H; exact absurd H (by simp)
       rw [if_neg c20] at H; exact absurd H (by simp)
      rw [if_neg c18] at H; have c18b0 : decide (x5_2 < a0_2) = false := decide_eq_false c18; clear c18; have H' := Z53.k H; clear H; have hnb31 := NB101_102.out; have hnc31 := NB102_101.out; have hnb32 := NB101_109.out; have hnc32 := NB109_101.out; obtain ⟨hcz33_0, hcz33_1, hcz33_2, hcz33_3, hfz33_0, hfz33_1, hfz33_2, hfz33_3⟩ := cells4 BK101.out
      go_wp2
      go_roundg k2
      case measure => have := HK1.out; have := HK2.out; omega
      case rel => exact ⟨(wrap64 (x4_1 + 1)), (x110003_2), (u110003), (by first | rfl | (simp; done) | (simp [*]; done)), H', ⟨(by have := HK1.out; have := HK2.out; omega)⟩, ⟨(by (with_reducible repeat (first | apply Kd.R_alloc | apply Kd.R_drewN | apply Kd.R_drew)); exact HO_110003.out)⟩, ⟨Z53.z2⟩, ⟨Z53.z4⟩, ⟨Z53.z6⟩, ⟨Z53.z1⟩⟩
   rw [if_neg c14] at H
   have c14b0 : decide (x4_1 < a0_1) = false := decide_eq_false c14
   clear c14
   simp only [Option.some.injEq, Prod.mk.injEq] at H
   obtain ⟨rfl, rfl, rfl, rfl⟩ := H
   have hnb34 := NB101_102.out
   have hnc34 := NB102_101.out
   have hnb35 := NB101_109.out
   have hnc35 := NB109_101.out
   obtain ⟨hcz36_0, hcz36_1, hcz36_2, hcz36_3, hfz36_0, hfz36_1, hfz36_2, hfz36_3⟩ := cells4 BK101.out
   have hnb37 := NB109_102.out
   have hnc37 := NB102_109.out
   obtain ⟨hcz38_0, hcz38_1, hcz38_2, hcz38_3, hfz38_0, hfz38_1, hfz38_2, hfz38_3⟩ := cells4 BK109.out
   obtain ⟨hcz39_0, hcz39_1, hcz39_2, hcz39_3, hfz39_0, hfz39_1, hfz39_2, hfz39_3⟩ := cells4 BK102.out
   obtain ⟨Ao40, co40, eo40⟩ := Kd.R_slice HO_110003.out
   subst eo40
   go_wp2
   refine bodyPost_ret (results_cell_row rfl _ _ gb102 28 #[.int .i64 t103, .int .i64 t104, .int .i64 t105, .slice Ao40 x110003_1.length co40] (0, 0) _ rfl (by (with_reducible repeat (first | refine blk_drewN ?_ _ | refine blk_drew ?_ | refine blk_alloc ?_ _)); refine blk_put (cs := #[.int .i64 t103, .int .i64 t104, .int .i64 t105, .slice none 0 0]) ?_ 3 _ rfl; (with_reducible repeat (first | refine blk_drewN ?_ _ | refine blk_drew ?_ | refine blk_alloc ?_ _)); refine blk_put (cs := #[.int .i64 t103, .int .i64 t104, .int .i64 0, .slice none 0 0]) ?_ 2 _ rfl; (with_reducible repeat (first | refine blk_drewN ?_ _ | refine blk_drew ?_ | refine blk_alloc ?_ _)); refine blk_put (cs := #[.int .i64 t103, .int .i64 0, .int .i64 0, .slice none 0 0]) ?_ 1 _ rfl; (with_reducible repeat (first | refine blk_drewN ?_ _ | refine blk_drew ?_ | refine blk_alloc ?_ _)); refine blk_put (cs := #[.int .i64 0, .int .i64 0, .int .i64 0, .slice none 0 0]) ?_ 0 _ rfl; (with_reducible repeat (first | refine blk_drewN ?_ _ | refine blk_drew ?_ | refine blk_alloc ?_ _)); exact BK102.out) Try.underlying28 rfl (by kernel_rfl)) rfl ?_
   exact ⟨_, (by first | rfl | (simp [errW_none, errW_some] <;> rfl) | (simp [*, errW_none, errW_some] <;> rfl)), (by (with_reducible repeat (first | apply Kd.R_alloc | apply Kd.R_drewN | apply Kd.R_drew)); exact Kd.R_mono (Kd.R_far (p := ⟨gb102, 3, none⟩) (Kd.R_far (p := ⟨gb102, 2, none⟩) (Kd.R_far (p := ⟨gb102, 1, none⟩) (Kd.R_far (p := ⟨gb102, 0, none⟩) (Kd.R_types HO_110003.out BK102.out (by decide)) (fun _ hk => hk.2) (.int .i64 t103)) (fun _ hk => hk.2) (.int .i64 t104)) (fun _ hk => hk.2) (.int .i64 t105)) (fun _ hk => hk.2) (.slice Ao40 x110003_1.length co40)) (fun _ hk => trivial)), Z53.z1⟩
end Go.Proofs.Ytmbbjmkcbpefhaa.F
end
