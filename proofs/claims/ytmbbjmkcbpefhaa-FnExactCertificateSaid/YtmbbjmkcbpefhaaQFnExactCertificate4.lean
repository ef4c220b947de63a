-- Texts of this claim, merged by packw.py (a program of this session's).
import Derived.Test.YtmbbjmkcbpefhaaQFnExactCertificate1
import Derived.Test.YtmbbjmkcbpefhaaQFnExactCertificate2
import Derived.Test.YtmbbjmkcbpefhaaQFnExactCertificate3

section
namespace Go.Proofs.Ytmbbjmkcbpefhaa.F
open Go.RowKit Go.Proofs.YtmbbjmkcbpefhaaW.PrintWords Go.Proofs.YtmbbjmkcbpefhaaW.PrintLast Go.Proofs.YtmbbjmkcbpefhaaW.PrintMore
attribute [local go_sem] max2_int min2_int max_two min_two max_three min_three max_four min_four   -- for this text's walks alone
set_option linter.unusedVariables false
set_option linter.unusedSimpArgs false
/-! ### spec_l04Ask: function 32 -/
def spec_l04Ask.f (k : Nat) (a0_0 : Int) (a0_1 : Int) (a0_2 : Int) (l0_3 : List Int) (l1 : List Int) : Option (Int) := (spec_l03Ok.f k a0_0 a0_1 a0_2 l0_3).bind fun t102 => (if t102 = true then ((spec_l04Vector.f k a0_0 a0_1 l1).bind fun t103 => (if t103 = true then (some 0) else (some 2))) else (some 1))
theorem Z32.bb {w0 w w1 : World} {g : Nat} {o : Obj} (_B : Aside0 (w0.heap[g]? = some o)) (h : w.heap[g]? = some o) (hb : Below w.heap.size w w1) : w1.heap[g]? = some o := blk_below h hb
theorem Z32.bl {w0 w : World} {g : Nat} {o : Obj} (_B : Aside0 (w0.heap[g]? = some o)) (h : w.heap[g]? = some o) : g < w.heap.size := blk_lt h
theorem Z32.z4 {P : Prop} (h : P := by first | rfl | (simp [errW_none, errW_some] <;> rfl) | (simp [*, errW_none, errW_some] <;> rfl)) : P := h
theorem Z32.z3 {P : Prop} (h : P := by repeat (first | exact (Kd.C_below HR1.out HB.out) | (with_reducible refine Kd.C_alloc ?_ _) | (with_reducible refine Kd.C_drewN ?_ _) | (with_reducible refine Kd.C_drew ?_))) : P := h
theorem Z32.z2 {P : Prop} (h : P := by repeat (first | exact (Kd.C_below HR0_3.out HB.out) | (with_reducible refine Kd.C_alloc ?_ _) | (with_reducible refine Kd.C_drewN ?_ _) | (with_reducible refine Kd.C_drew ?_))) : P := h
theorem Z32.z1 {P : Prop} (h : P := by repeat (first | (with_reducible first | exact HB.out | apply below_alloc | apply pw_below_drewN | apply below_drew1 | refine below_set ?_ GE101.out) | exact HB.out)) : P := h
theorem Z32.z0 {P : Prop} (h : P := by (with_reducible repeat (first | refine blk_drewN ?_ _ | refine blk_drew ?_ | refine blk_alloc ?_ _)); exact BK101.out) : P := h
set_option maxHeartbeats 8000000 in
set_option maxRecDepth 100000 in
theorem spec_l04Ask.calls (k : Nat) (a0_0 : Int) (a0_1 : Int) (a0_2 : Int) (A0_3 : Option Addr) (c0_3 : Nat) (l0_3 : List Int) (A1 : Option Addr) (c1 : Nat) (l1 : List Int) (r : Int) (w : World) (hr0_3 : Kd.C (Kd.int .i64) w A0_3 l0_3.length l0_3) (hc0_3 : l0_3.length ≤ c0_3) (hr1 : Kd.C (Kd.int .i64) w A1 l1.length l1) (hc1 : l1.length ≤ c1) {g0_ : Nat} (hbk0_ : w.heap[g0_]? = some (.cells #[.int .i64 a0_0, .int .i64 a0_1, .int .i64 a0_2, .slice A0_3 l0_3.length c0_3] 28 (0, 0))) (h : spec_l04Ask.f k a0_0 a0_1 a0_2 l0_3 l1 = some r) :
  Calls Try.prog 32 #[.pointer (some ⟨g0_, 0, none⟩), .slice A1 l1.length c1] w fun e w' => e = .returned (.int .i64 r) ∧ Below w.heap.size w w' := by
 have hu28 := Try.underlying28
 have HR0_3 := Aside0.mk hr0_3
 have HC0_3 := Aside0.mk hc0_3
 clear hr0_3 hc0_3
 have HR1 := Aside0.mk hr1
 have HC1 := Aside0.mk hc1
 clear hr1 hc1
 have HB := Aside0.mk (Below.refl w.heap.size w)
 have H : ((spec_l03Ok.f k a0_0 a0_1 a0_2 l0_3).bind fun t102 => (if t102 = true then ((spec_l04Vector.f k a0_0 a0_1 l1).bind fun t103 => (if t103 = true then (some 0) else (some 2))) else (some 1))) = some r := h
 clear h
 replace H := Option.bind_eq_some_iff.mp H
 obtain ⟨t102, A30, H⟩ := H
 replace H : (if t102 = true then ((spec_l04Vector.f k a0_0 a0_1 l1).bind fun t103 => (if t103 = true then (some 0) else (some 2))) else (some 1)) = some r := H
 have A3 := Aside0.mk A30
 clear A30
 by_cases c4 : t102 = true
 ·subst c4
  rw [if_pos rfl] at H
  replace H := Option.bind_eq_some_iff.mp H
  obtain ⟨t103, A50, H⟩ := H
  (try dsimp only at H)
  have A5 := Aside0.mk A50
  clear A50
  by_cases c6 : t103 = true
  ·subst c6
   rw [if_pos rfl] at H
   obtain rfl := Option.some.inj H
   go_enter Try.func32, Try.ntmps32
   have BK101 := Aside0.mk hbk0_
   go_wp2_with (first | (go_at_call 50; (with_reducible refine (spec_l03Ok.calls k a0_0 a0_1 a0_2 A0_3 c0_3 l0_3 true _ ?side1 ?side2 ?side3 A3.out).mono ?_); (case side1 => exact Z32.z2); (case side2 => exact HC0_3.out); (case side3 => exact Z32.z0); rintro e w8 ⟨rfl, hb⟩; replace BK101 := Aside0.mk (Z32.bb BK101 Z32.z0 hb); replace HB := Aside0.mk (below_step Z32.z1 hb); (try clear hb); (try clear hb2); (try clear hk); (try clear hi); obtain ⟨hcz9_0, hcz9_1, hcz9_2, hcz9_3, hfz9_0, hfz9_1, hfz9_2, hfz9_3⟩ := cells4 BK101.out) | (go_at_call 39; (with_reducible refine (spec_l04Vector.calls k a0_0 a0_1 _ _ l1 true _ ?side1 ?side2 A5.out).mono ?_); (case side1 => exact Z32.z3); (case side2 => exact HC1.out); rintro e w' ⟨rfl, ⟨nd, rfl⟩⟩; (try first | exact ⟨rfl, _, World.drewN_drewN _ _ _⟩ | exact ⟨rfl, _, Eq.trans (World.drewN_drewN _ _ _) (congrArg (World.drewN _) (Nat.add_assoc _ _ _))⟩)))
   repeat (go_quiet (first | (go_at_call 50; (with_reducible refine (spec_l03Ok.calls k a0_0 a0_1 a0_2 A0_3 c0_3 l0_3 true _ ?side1 ?side2 ?side3 A3.out).mono ?_); (case side1 => exact Z32.z2); (case side2 => exact HC0_3.out); (case side3 => exact Z32.z0); rintro e w8 ⟨rfl, hb⟩; replace BK101 := Aside0.mk (Z32.bb BK101 Z32.z0 hb); replace HB := Aside0.mk (below_step Z32.z1 hb); (try clear hb); (try clear hb2); (try clear hk); (try clear hi); obtain ⟨hcz9_0, hcz9_1, hcz9_2, hcz9_3, hfz9_0, hfz9_1, hfz9_2, hfz9_3⟩ := cells4 BK101.out) | (go_at_call 39; (with_reducible refine (spec_l04Vector.calls k a0_0 a0_1 _ _ l1 true _ ?side1 ?side2 A5.out).mono ?_); (case side1 => exact Z32.z3); (case side2 => exact HC1.out); rintro e w' ⟨rfl, ⟨nd, rfl⟩⟩; (try first | exact ⟨rfl, _, World.drewN_drewN _ _ _⟩ | exact ⟨rfl, _, Eq.trans (World.drewN_drewN _ _ _) (congrArg (World.drewN _) (Nat.add_assoc _ _ _))⟩))); try go_wp2_with (first | (go_at_call 50; (with_reducible refine (spec_l03Ok.calls k a0_0 a0_1 a0_2 A0_3 c0_3 l0_3 true _ ?side1 ?side2 ?side3 A3.out).mono ?_); (case side1 => exact Z32.z2); (case side2 => exact HC0_3.out); (case side3 => exact Z32.z0); rintro e w8 ⟨rfl, hb⟩; replace BK101 := Aside0.mk (Z32.bb BK101 Z32.z0 hb); replace HB := Aside0.mk (below_step Z32.z1 hb); (try clear hb); (try clear hb2); (try clear hk); (try clear hi); obtain ⟨hcz9_0, hcz9_1, hcz9_2, hcz9_3, hfz9_0, hfz9_1, hfz9_2, hfz9_3⟩ := cells4 BK101.out) | (go_at_call 39; (with_reducible refine (spec_l04Vector.calls k a0_0 a0_1 _ _ l1 true _ ?side1 ?side2 A5.out).mono ?_); (case side1 => exact Z32.z3); (case side2 => exact HC1.out); rintro e w' ⟨rfl, ⟨nd, rfl⟩⟩; (try first | exact ⟨rfl, _, World.drewN_drewN _ _ _⟩ | exact ⟨rfl, _, Eq.trans (World.drewN_drewN _ _ _) (congrArg (World.drewN _) (Nat.add_assoc _ _ _))⟩))))
   go_ret
   exact ⟨Z32.z4, Z32.z1⟩
  replace c6 := Bool.eq_false_iff.mpr c6
  subst c6
  rw [if_neg (show ¬ (false = true) by decide)] at H
  obtain rfl := Option.some.inj H
  go_enter Try.func32, Try.ntmps32
  have BK101 := Aside0.mk hbk0_
  go_wp2_with (first | (go_at_call 50; (with_reducible refine (spec_l03Ok.calls k a0_0 a0_1 a0_2 A0_3 c0_3 l0_3 true _ ?side1 ?side2 ?side3 A3.out).mono ?_); (case side1 => exact Z32.z2); (case side2 => exact HC0_3.out); (case side3 => exact Z32.z0); rintro e w11 ⟨rfl, hb⟩; replace BK101 := Aside0.mk (Z32.bb BK101 Z32.z0 hb); replace HB := Aside0.mk (below_step Z32.z1 hb); (try clear hb); (try clear hb2); (try clear hk); (try clear hi); obtain ⟨hcz12_0, hcz12_1, hcz12_2, hcz12_3, hfz12_0, hfz12_1, hfz12_2, hfz12_3⟩ := cells4 BK101.out) | (go_at_call 39; (with_reducible refine (spec_l04Vector.calls k a0_0 a0_1 _ _ l1 false _ ?side1 ?side2 A5.out).mono ?_); (case side1 => exact Z32.z3); (case side2 => exact HC1.out); rintro e w' ⟨rfl, ⟨nd, rfl⟩⟩; (try first | exact ⟨rfl, _, World.drewN_drewN _ _ _⟩ | exact ⟨rfl, _, Eq.trans (World.drewN_drewN _ _ _) (congrArg (World.drewN _) (Nat.add_assoc _ _ _))⟩)))
  repeat (go_quiet (first | (go_at_call 50; (with_reducible refine (spec_l03Ok.calls k a0_0 a0_1 a0_2 A0_3 c0_3 l0_3 true _ ?side1 ?side2 ?side3 A3.out).mono ?_); (case side1 => exact Z32.z2); (case side2 => exact HC0_3.out); (case side3 => exact Z32.z0); rintro e w11 ⟨rfl, hb⟩; replace BK101 := Aside0.mk (Z32.bb BK101 Z32.z0 hb); replace HB := Aside0.mk (below_step Z32.z1 hb); (try clear hb); (try clear hb2); (try clear hk); (try clear hi); obtain ⟨hcz12_0, hcz12_1, hcz12_2, hcz12_3, hfz12_0, hfz12_1, hfz12_2, hfz12_3⟩ := cells4 BK101.out) | (go_at_call 39; (with_reducible refine (spec_l04Vector.calls k a0_0 a0_1 _ _ l1 false _ ?side1 ?side2 A5.out).mono ?_); (case side1 => exact Z32.z3); (case side2 => exact HC1.out); rintro e w' ⟨rfl, ⟨nd, rfl⟩⟩; (try first | exact ⟨rfl, _, World.drewN_drewN _ _ _⟩ | exact ⟨rfl, _, Eq.trans (World.drewN_drewN _ _ _) (congrArg (World.drewN _) (Nat.add_assoc _ _ _))⟩))); try go_wp2_with (first | (go_at_call 50; (with_reducible refine (spec_l03Ok.calls k a0_0 a0_1 a0_2 A0_3 c0_3 l0_3 true _ ?side1 ?side2 ?side3 A3.out).mono ?_); (case side1 => exact Z32.z2); (case side2 => exact HC0_3.out); (case side3 => exact Z32.z0); rintro e w11 ⟨rfl, hb⟩; replace BK101 := Aside0.mk (Z32.bb BK101 Z32.z0 hb); replace HB := Aside0.mk (below_step Z32.z1 hb); (try clear hb); (try clear hb2); (try clear hk); (try clear hi); obtain ⟨hcz12_0, hcz12_1, hcz12_2, hcz12_3, hfz12_0, hfz12_1, hfz12_2, hfz12_3⟩ := cells4 BK101.out) | (go_at_call 39; (with_reducible refine (spec_l04Vector.calls k a0_0 a0_1 _ _ l1 false _ ?side1 ?side2 A5.out).mono ?_); (case side1 => exact Z32.z3); (case side2 => exact HC1.out); rintro e w' ⟨rfl, ⟨nd, rfl⟩⟩; (try first | exact ⟨rfl, _, World.drewN_drewN _ _ _⟩ | exact ⟨rfl, _, Eq.trans (World.drewN_drewN _ _ _) (congrArg (World.drewN _) (Nat.add_assoc _ _ _))⟩))))
  go_ret
  exact ⟨Z32.z4, Z32.z1⟩
 replace c4 := Bool.eq_false_iff.mpr c4
 subst c4
 rw [if_neg (show ¬ (false = true) by decide)] at H
 obtain rfl := Option.some.inj H
 go_enter Try.func32, Try.ntmps32
 have BK101 := Aside0.mk hbk0_
 go_wp2_with (first | (go_at_call 50; (with_reducible refine (spec_l03Ok.calls k a0_0 a0_1 a0_2 A0_3 c0_3 l0_3 false _ ?side1 ?side2 ?side3 A3.out).mono ?_); (case side1 => exact Z32.z2); (case side2 => exact HC0_3.out); (case side3 => exact Z32.z0); rintro e w14 ⟨rfl, hb⟩; replace BK101 := Aside0.mk (Z32.bb BK101 Z32.z0 hb); replace HB := Aside0.mk (below_step Z32.z1 hb); (try clear hb); (try clear hb2); (try clear hk); (try clear hi)))
 repeat (go_quiet (first | (go_at_call 50; (with_reducible refine (spec_l03Ok.calls k a0_0 a0_1 a0_2 A0_3 c0_3 l0_3 false _ ?side1 ?side2 ?side3 A3.out).mono ?_); (case side1 => exact Z32.z2); (case side2 => exact HC0_3.out); (case side3 => exact Z32.z0); rintro e w14 ⟨rfl, hb⟩; replace BK101 := Aside0.mk (Z32.bb BK101 Z32.z0 hb); replace HB := Aside0.mk (below_step Z32.z1 hb); (try clear hb); (try clear hb2); (try clear hk); (try clear hi))); try go_wp2_with (first | (go_at_call 50; (with_reducible refine (spec_l03Ok.calls k a0_0 a0_1 a0_2 A0_3 c0_3 l0_3 false _ ?side1 ?side2 ?side3 A3.out).mono ?_); (case side1 => exact Z32.z2); (case side2 => exact HC0_3.out); (case side3 => exact Z32.z0); rintro e w14 ⟨rfl, hb⟩; replace BK101 := Aside0.mk (Z32.bb BK101 Z32.z0 hb); replace HB := Aside0.mk (below_step Z32.z1 hb); (try clear hb); (try clear hb2); (try clear hk); (try clear hi))))
 go_ret
 exact ⟨Z32.z4, Z32.z1⟩
/-! ### spec_l00Own: function 34 -/
def spec_l00Own.f (l0 : List Int) : Option (List Int) := (some (([] : List Int) : List Int)).bind fun y101 => (if y101.length + l0.length < 17592186044416 then (some (y101 ++ l0)) else (none))
theorem Z34.z0 {P : Prop} (h : P := by repeat (first | (with_reducible first | exact HB.out | apply below_alloc | apply pw_below_drewN | apply below_drew1) | exact HB.out)) : P := h
set_option maxHeartbeats 8000000 in
set_option maxRecDepth 100000 in
theorem spec_l00Own.calls (A0 : Option Addr) (c0 : Nat) (l0 : List Int) (r : List Int) (w : World) (hr0 : Kd.C (Kd.int .i64) w A0 l0.length l0) (hc0 : l0.length ≤ c0) (h : spec_l00Own.f l0 = some r) :
  Calls Try.prog 34 #[.slice A0 l0.length c0] w fun e w' => ∃ v0_ : Value, e = .returned (v0_) ∧ Kd.R (Kd.int .i64) 2 w' w.heap.size (fun _ => True) v0_ r ∧ Below w.heap.size w w' := by
 have HR0 := Aside0.mk hr0
 have HC0 := Aside0.mk hc0
 clear hr0 hc0
 have HB := Aside0.mk (Below.refl w.heap.size w)
 have H : ((some (([] : List Int) : List Int)).bind fun y101 => (if y101.length + l0.length < 17592186044416 then (some (y101 ++ l0)) else (none))) = some r := h
 clear h
 obtain ⟨y101, hy101⟩ : ∃ y_ : List Int, y_ = (([] : List Int)) := ⟨_, rfl⟩
 replace H : (if y101.length + l0.length < 17592186044416 then (some (y101 ++ l0)) else (none)) = some r := by first | (rw [hy101]; with_reducible exact H) | (have H2_ := (Option.bind_some _ _).symm.trans H; rw [hy101]; with_reducible exact H2_) | (have H2_ := (Option.bind_some _ _).symm.trans H; with_reducible exact H2_) | with_reducible exact H | (rw [hy101]; exact H) | exact H
 have Ny101 := Aside0.mk hy101
 clear hy101
 by_cases c2 : y101.length + l0.length < 17592186044416
 ·rw [if_pos c2] at H
  have LMc2 := Aside0.mk c2
  clear c2
  obtain ⟨y104, hy104⟩ : ∃ y_ : List Int, y_ = (y101 ++ l0) := ⟨_, rfl⟩
  replace H : (some y104) = some r := by first | (rw [hy104]; with_reducible exact H) | (have H2_ := (Option.bind_some _ _).symm.trans H; rw [hy104]; with_reducible exact H2_) | (have H2_ := (Option.bind_some _ _).symm.trans H; with_reducible exact H2_) | with_reducible exact H | (rw [hy104]; exact H) | exact H
  have Ny104 := Aside0.mk hy104
  clear hy104
  obtain rfl := Option.some.inj H
  go_enter Try.func34, Try.ntmps34
  go_wp2_with (first | ((with_reducible refine gate_dst (N := 3) rfl ?_); refine Kd.R_lit (Kd.int .i64) _ 2 ?hg (N := 3) ?hd (xs := ([] : List Int)) (inner := []) (ok := fun _ => True) (okp := fun _ => True) ?hr ?hp (fun _ hk => hk) trivial (Below.refl _ _) (Nat.le_refl _) (by simp) ?_; (case hd => rfl); (case hg => rfl); (case hr => first | (go_simp; done) | (go_simp; rfl)); (case hp => exact (Reps.none _ _)); intro v102 w3 ho4 hb hg_ hnew_; clear hg_ hnew_; (first | rw [← Ny101.out] at ho4 | (simp only [Int.reduceToNat] at ho4; rw [← Ny101.out] at ho4)); have HO103 := Aside0.mk (Kd.R_lower ho4 (below_size Z34.z0)); replace HB := Aside0.mk (below_step Z34.z0 hb); clear hb ho4) | ((with_reducible refine gate_builtin (b := .append) (xs := #[.tmp 3, .tmp 4]) rfl ?_); at_builtin; refine Kd.R_append_rows (Kd.int .i64) (w0 := w) w.heap.size rfl (.tmp 3) (.tmp 4) 22 2 (.int .i64 0) 8 rfl Try.underlying22 info2 rfl (by decide) (by omega) v102 y101 l0 _ _ _ (fun _ => True) (fun _ => False) rfl rfl ?aO ?aR (fun _ _ h => h) (fun _ h => h.elim) ?aF ?aB ?aS ?aL ?_; (case aR => repeat (first | exact (Kd.C_below HR0.out HB.out) | (with_reducible refine Kd.C_alloc ?_ _) | (with_reducible refine Kd.C_drewN ?_ _) | (with_reducible refine Kd.C_drew ?_))); (case aB => exact Z34.z0); (case aF => exact (fun _ _ => trivial)); (case aO => exact (by (with_reducible repeat (first | apply Kd.R_alloc | apply Kd.R_drewN | apply Kd.R_drew)); exact HO103.out)); (case aS => exact (below_size Z34.z0)); (case aL => have := LMc2.out; omega); intro v105 w5 ho hb hg hat; rw [← Ny104.out] at ho; have HO106 := Aside0.mk (ho); replace HB := Aside0.mk (hb); clear HO103; clear ho hb hg hat))
  go_ret
  exact ⟨_, (by first | rfl | (simp [errW_none, errW_some] <;> rfl) | (simp [*, errW_none, errW_some] <;> rfl)), (by (with_reducible repeat (first | apply Kd.R_alloc | apply Kd.R_drewN | apply Kd.R_drew)); exact HO106.out), Z34.z0⟩
 rw [if_neg c2] at H
 exact absurd H (by simp)
/-! ### spec_l03Join: function 56 -/
def spec_l03Join.l0 : Nat → Int → Int → Int → Int → List Int → Int → Int → Int → List Int → Int → Int → Int → List Int → Option (Int × Int × Int × List Int)
  | 0, _, _, _, _, _, _, _, _, _, _, _, _, _ => none
  | k + 1, x6, x102000, x102001, x102002, x102003, x103000, x103001, x103002, x103003, x108000, x108001, x108002, x108003 => if x6 < x102001 then (if 0 ≤ (wrap64 (x6 * x102002)) then (if (wrap64 (x6 * x102002)) ≤ (wrap64 ((wrap64 (x6 + 1)) * x102002)) then (if (wrap64 ((wrap64 (x6 + 1)) * x102002)) ≤ (x102003.length : Int) then (if x108003.length + ((x102003.take ((wrap64 ((wrap64 (x6 + 1)) * x102002)) : Int).toNat).drop ((wrap64 (x6 * x102002)) : Int).toNat).length < 17592186044416 then ((some (x108003 ++ ((x102003.take ((wrap64 ((wrap64 (x6 + 1)) * x102002)) : Int).toNat).drop ((wrap64 (x6 * x102002)) : Int).toNat) : List Int)).bind fun y109 => (if 0 ≤ (wrap64 (x6 * x103002)) then (if (wrap64 (x6 * x103002)) ≤ (wrap64 ((wrap64 (x6 + 1)) * x103002)) then (if (wrap64 ((wrap64 (x6 + 1)) * x103002)) ≤ (x103003.length : Int) then (if y109.length + ((x103003.take ((wrap64 ((wrap64 (x6 + 1)) * x103002)) : Int).toNat).drop ((wrap64 (x6 * x103002)) : Int).toNat).length < 17592186044416 then (spec_l03Join.l0 k (wrap64 (x6 + 1)) x102000 x102001 x102002 x102003 x103000 x103001 x103002 x103003 x108000 x108001 x108002 (y109 ++ ((x103003.take ((wrap64 ((wrap64 (x6 + 1)) * x103002)) : Int).toNat).drop ((wrap64 (x6 * x103002)) : Int).toNat))) else (none)) else (none)) else (none)) else (none))) else (none)) else (none)) else (none)) else (none)) else (some (x108000, x108001, x108002, x108003))
def spec_l03Join.f (k : Nat) (a0_0 : Int) (a0_1 : Int) (a0_2 : Int) (l0_3 : List Int) (a1_0 : Int) (a1_1 : Int) (a1_2 : Int) (l1_3 : List Int) : Option (Int × Int × Int × List Int) := spec_l03Join.l0 k 0 a0_0 a0_1 a0_2 l0_3 a1_0 a1_1 a1_2 l1_3 a0_0 a0_1 (wrap64 (a0_2 + a1_2)) (([] : List Int))
def spec_l03Join.T1 : Bool × List (List Nat × List Nat) := (true, [([], []), ([0], [0]), ([1], [1]), ([2], [2]), ([], []), ([4], [4]), ([5], [5]), ([6], [6]), ([], []), ([8], [8]), ([9], [9]), ([10], [10]), ([], []), ([12], [12]), ([13], [13]), ([14], [14]), ([11, 15], [11, 15]), ([], []), ([3, 7, 16, 17], [3, 7, 16, 17]), ([], []), ([19, 18, 0, 1, 2, 3, 4, 5, 6, 7, 8, 9, 10, 11, 12, 13, 14, 15, 16, 17, 18, 19], [18, 19])])
def spec_l03Join.B1 : List Nat := [0, 1, 3, 7, 0, 16, 48, 112, 0, 256, 768, 1792, 0, 4096, 12288, 28672, 65280, 0, 262143, 0, 1048575]
theorem spec_l03Join.tab1 : rtab .any (opsOf Try.f56 1) = spec_l03Join.T1 := by kernel_rfl
theorem spec_l03Join.bits1 : waitsOk spec_l03Join.T1.2 spec_l03Join.B1 = true := by kernel_rfl
def spec_l03Join.T5 : Bool × List (List Nat × List Nat) := (true, [([], []), ([0], [0]), ([], []), ([2], [2]), ([3], [3]), ([4], [4]), ([], []), ([], []), ([7], [7]), ([8], [8]), ([9], [9]), ([6, 10], [6, 10]), ([], []), ([12], [12]), ([], []), ([14], [14]), ([15], [15]), ([16], [16]), ([13, 17], [13, 17]), ([5, 11, 18], [5, 11, 18]), ([1, 19], [1, 19]), ([0, 1, 2, 3, 4, 5, 6, 7, 8, 9, 10, 11, 12, 13, 14, 15, 16, 17, 18, 19, 20], []), ([21, 20, 20, 0, 1, 2, 3, 4, 5, 6, 7, 8, 9, 10, 11, 12, 13, 14, 15, 16, 17, 18, 19, 20], [20, 21])])
def spec_l03Join.B5 : List Nat := [0, 1, 0, 4, 12, 28, 0, 0, 128, 384, 896, 1984, 0, 4096, 0, 16384, 49152, 114688, 258048, 524284, 1048575, 2097151, 4194303]
theorem spec_l03Join.tab5 : rtab .any (opsOf Try.f56 5) = spec_l03Join.T5 := by kernel_rfl
theorem spec_l03Join.bits5 : waitsOk spec_l03Join.T5.2 spec_l03Join.B5 = true := by kernel_rfl
def spec_l03Join.T6 : Bool × List (List Nat × List Nat) := (true, [([], []), ([0], [0]), ([], []), ([2], [2]), ([3], [3]), ([4], [4]), ([], []), ([], []), ([7], [7]), ([8], [8]), ([9], [9]), ([6, 10], [6, 10]), ([], []), ([12], [12]), ([], []), ([14], [14]), ([15], [15]), ([16], [16]), ([13, 17], [13, 17]), ([5, 11, 18], [5, 11, 18]), ([1, 19], [1, 19]), ([0, 1, 2, 3, 4, 5, 6, 7, 8, 9, 10, 11, 12, 13, 14, 15, 16, 17, 18, 19, 20], []), ([21, 20, 20, 0, 1, 2, 3, 4, 5, 6, 7, 8, 9, 10, 11, 12, 13, 14, 15, 16, 17, 18, 19, 20], [20, 21])])
def spec_l03Join.B6 : List Nat := [0, 1, 0, 4, 12, 28, 0, 0, 128, 384, 896, 1984, 0, 4096, 0, 16384, 49152, 114688, 258048, 524284, 1048575, 2097151, 4194303]
theorem spec_l03Join.tab6 : rtab .any (opsOf Try.f56 6) = spec_l03Join.T6 := by kernel_rfl
theorem spec_l03Join.bits6 : waitsOk spec_l03Join.T6.2 spec_l03Join.B6 = true := by kernel_rfl
def Z56.b (n x : Nat) : Array Bool := ((List.range n).map (fun i => x.testBit i)).toArray
theorem Z56.pP {P : Program} {ops : Array Oper} {Q : Exit → Act → World → Prop} {md : Region.Mode} {S : World → Prop} {ds : List Nat} (i N : Nat) {oi : Oper} {v : Value} {fuel : Nat} {l : Array Bool} {a : Act} {w : World} (l' : Array Bool) (hc : anyB md ops l l' i = true) {a' : Act} (h : wpAnyLast P md ops Q S ds fuel l' a' w) (hi : ops[i]? = some oi := by rfl) (hN : oi.dst = some N := by rfl) (hQ : ∀ c a w, Q (.panic c) (a.put oi.dst v) w → Q (.panic c) a w := by exact fun _ _ _ h => h) (hy : Yields P ops oi v a := by exact Or.inl ⟨(by rfl), by intro w'; go_simp; with_reducible rfl⟩) (ha : a.put (some N) v = a' := by simp only [Act.put, List.setIfInBounds_toArray, List.set_cons_zero, List.set_cons_succ, i64_w, i32_w]; rfl) : wpAnyLast P md ops Q S ds (fuel + 1) l a w := pure_ l' hi hN hc hQ hy ha h
theorem Z56.pT8 {P : Program} {ops : Array Oper} {Q : Exit → Act → World → Prop} {md : Region.Mode} {S : World → Prop} {ds : List Nat} (i N : Nat) {oi : Oper} {v : Value} {fuel : Nat} {l : Array Bool} {a : Act} {w : World} (l' : Array Bool) (hc : takeB md ops ds l l' i = true) (hS : S w) {a' : Act} (h : wpAnyLast P md ops Q S ds fuel l' a' w) (hi : ops[i]? = some oi := by rfl) (hN : oi.dst = some N := by rfl) (hQ : ∀ c a w, Q (.panic c) (a.put oi.dst v) w → Q (.panic c) a w := by exact fun _ _ _ h => h) (hy : YieldsIf P ops S oi v a := by exact Or.inl ⟨(by rfl), by rintro w' ⟨s0, s1, s2, s3, s4, s5, s6, s7⟩; go_simp; with_reducible rfl⟩) (ha : a.put (some N) v = a' := by simp only [Act.put, List.setIfInBounds_toArray, List.set_cons_zero, List.set_cons_succ, i64_w, i32_w]; rfl) : wpAnyLast P md ops Q S ds (fuel + 1) l a w := take_ l' hi hN hc hQ hy hS ha h
theorem Z56.bb {w0 w w1 : World} {g : Nat} {o : Obj} (_B : Aside0 (w0.heap[g]? = some o)) (h : w.heap[g]? = some o) (hb : Below w.heap.size w w1) : w1.heap[g]? = some o := blk_below h hb
theorem Z56.bl {w0 w : World} {g : Nat} {o : Obj} (_B : Aside0 (w0.heap[g]? = some o)) (h : w.heap[g]? = some o) : g < w.heap.size := blk_lt h
theorem Z56.k {p : Prop} (h : p) : Aside0 p := ⟨h⟩
theorem Z56.z15 {P : Prop} (h : P := by (with_reducible repeat (first | apply Kd.R_alloc | apply Kd.R_drewN | apply Kd.R_drew)); exact HO106.out) : P := h
theorem Z56.z14 {P : Prop} (h : P := by exact ⟨(blk_cell BK107.out 0).trans rfl, (blk_cell BK107.out 1).trans rfl, (blk_cell BK107.out 2).trans rfl, (blk_cell BK107.out 3).trans rfl, (blk_cell BK101.out 0).trans rfl, (blk_cell BK101.out 1).trans rfl, (blk_cell BK101.out 2).trans rfl, (blk_cell BK101.out 3).trans rfl⟩) : P := h
theorem Z56.z13 {P : Prop} (h : P := by exact ⟨(blk_cell BK107.out 0).trans rfl, (blk_cell BK107.out 1).trans rfl, (blk_cell BK107.out 2).trans rfl, (blk_cell BK107.out 3).trans rfl, (blk_cell BK102.out 0).trans rfl, (blk_cell BK102.out 1).trans rfl, (blk_cell BK102.out 2).trans rfl, (blk_cell BK102.out 3).trans rfl⟩) : P := h
theorem Z56.z12 {P : Prop} (h : P := by (repeat (first | (with_reducible first | refine blk_drewN ?_ _ | refine blk_drew ?_ | refine blk_alloc ?_ _) | refine blk_far ?_ NB101_107.out _)); exact BK101.out) : P := h
theorem Z56.z11 {P : Prop} (h : P := by (repeat (first | (with_reducible first | refine blk_drewN ?_ _ | refine blk_drew ?_ | refine blk_alloc ?_ _) | refine blk_far ?_ NB102_107.out _)); exact BK102.out) : P := h
theorem Z56.z10 {P : Prop} (h : P := by (repeat (first | (with_reducible first | refine blk_drewN ?_ _ | refine blk_drew ?_ | refine blk_alloc ?_ _) | refine blk_far ?_ NB103_107.out _)); exact BK103.out) : P := h
theorem Z56.z9 {P : Prop} (h : P := by first | (with_reducible assumption) | assumption) : P := h
theorem Z56.z8 {P : Prop} (h : P := by repeat (first | (with_reducible first | exact HB.out | apply below_alloc | apply pw_below_drewN | apply below_drew1 | refine below_set ?_ GE101.out | refine below_set ?_ GE102.out) | exact HB.out)) : P := h
theorem Z56.z7 {P : Prop} (h : P := by (with_reducible repeat (first | refine blk_drewN ?_ _ | refine blk_drew ?_ | refine blk_alloc ?_ _)); exact BK107.out) : P := h
theorem Z56.z6 {P : Prop} (h : P := by exact ⟨(blk_cell BK101.out 0).trans rfl, (blk_cell BK101.out 1).trans rfl, (blk_cell BK101.out 2).trans rfl, (blk_cell BK101.out 3).trans rfl, (blk_cell BK102.out 0).trans rfl, (blk_cell BK102.out 1).trans rfl, (blk_cell BK102.out 2).trans rfl, (blk_cell BK102.out 3).trans rfl⟩) : P := h
theorem Z56.z5 {P : Prop} (h : P := by (with_reducible repeat (first | refine blk_drewN ?_ _ | refine blk_drew ?_ | refine blk_alloc ?_ _)); exact BK103.out) : P := h
theorem Z56.z4 {P : Prop} (h : P := by (with_reducible repeat (first | refine blk_drewN ?_ _ | refine blk_drew ?_ | refine blk_alloc ?_ _)); exact BK101.out) : P := h
theorem Z56.z3 {P : Prop} (h : P := by (with_reducible repeat (first | refine blk_drewN ?_ _ | refine blk_drew ?_ | refine blk_alloc ?_ _)); exact BK102.out) : P := h
theorem Z56.z2 {P : Prop} (h : P := by repeat (first | (with_reducible first | exact HB.out | apply below_alloc | apply pw_below_drewN | apply below_drew1 | refine below_set ?_ GE101.out | refine below_set ?_ GE102.out | refine below_set ?_ GE103.out) | exact HB.out)) : P := h
theorem Z56.z1 {P : Prop} (h : P := by repeat (first | (with_reducible first | exact HB.out | apply below_alloc | apply pw_below_drewN | apply below_drew1 | refine below_set ?_ GE101.out | refine below_set ?_ GE102.out | refine below_set ?_ GE103.out | refine below_set ?_ GE107.out) | exact HB.out)) : P := h
theorem Z56.z0 {P : Prop} (h : P := by simp only [Act.put, List.setIfInBounds_toArray, List.set_cons_zero, List.set_cons_succ, i64_w, i32_w]; rfl) : P := h
set_option maxHeartbeats 8000000 in
set_option maxRecDepth 100000 in
theorem spec_l03Join.calls (k : Nat) (a0_0 : Int) (a0_1 : Int) (a0_2 : Int) (A0_3 : Option Addr) (c0_3 : Nat) (l0_3 : List Int) (a1_0 : Int) (a1_1 : Int) (a1_2 : Int) (A1_3 : Option Addr) (c1_3 : Nat) (l1_3 : List Int) (r1 : Int) (r2 : Int) (r3 : Int) (r4 : List Int) (w : World) (hr0_3 : Kd.C (Kd.int .i64) w A0_3 l0_3.length l0_3) (hc0_3 : l0_3.length ≤ c0_3) (hr1_3 : Kd.C (Kd.int .i64) w A1_3 l1_3.length l1_3) (hc1_3 : l1_3.length ≤ c1_3) {g0_ : Nat} (hbk0_ : w.heap[g0_]? = some (.cells #[.int .i64 a0_0, .int .i64 a0_1, .int .i64 a0_2, .slice A0_3 l0_3.length c0_3] 28 (0, 0))) {g1_ : Nat} (hbk1_ : w.heap[g1_]? = some (.cells #[.int .i64 a1_0, .int .i64 a1_1, .int .i64 a1_2, .slice A1_3 l1_3.length c1_3] 28 (0, 0))) (h : spec_l03Join.f k a0_0 a0_1 a0_2 l0_3 a1_0 a1_1 a1_2 l1_3 = some (r1, r2, r3, r4)) :
  Calls Try.prog 56 #[.pointer (some ⟨g0_, 0, none⟩), .pointer (some ⟨g1_, 0, none⟩)] w fun e w' => ∃ v3_ : Value, e = .returned (.agg #[.int .i64 r1, .int .i64 r2, .int .i64 r3, v3_]) ∧ Kd.R (Kd.int .i64) 2 w' w.heap.size (fun _ => True) v3_ r4 ∧ Below w.heap.size w w' := by
 have hu28 := Try.underlying28
 have HR0_3 := Z56.k hr0_3
 have HC0_3 := Z56.k hc0_3
 clear hr0_3 hc0_3
 have HR1_3 := Z56.k hr1_3
 have HC1_3 := Z56.k hc1_3
 clear hr1_3 hc1_3
 have HB := Z56.k (Below.refl w.heap.size w)
 have H : (spec_l03Join.l0 k 0 a0_0 a0_1 a0_2 l0_3 a1_0 a1_1 a1_2 l1_3 a0_0 a0_1 (wrap64 (a0_2 + a1_2)) (([] : List Int))) = some (r1, r2, r3, r4) := h
 clear h
 obtain ⟨y104, hy104⟩ : ∃ y_ : List Int, y_ = (([] : List Int)) := ⟨_, rfl⟩
 replace H : (spec_l03Join.l0 k 0 a0_0 a0_1 a0_2 l0_3 a1_0 a1_1 a1_2 l1_3 a0_0 a0_1 (wrap64 (a0_2 + a1_2)) y104) = some (r1, r2, r3, r4) := by first | (rw [hy104]; with_reducible exact H) | (have H2_ := (Option.bind_some _ _).symm.trans H; rw [hy104]; with_reducible exact H2_) | (have H2_ := (Option.bind_some _ _).symm.trans H; with_reducible exact H2_) | with_reducible exact H | (rw [hy104]; exact H) | exact H
 have Ny104 := Z56.k hy104
 clear hy104
 have H' := Z56.k H
 clear H
 go_enter Try.func56, Try.ntmps56
 have BK101 := Z56.k hbk0_
 have BK102 := Z56.k hbk1_
 try go_wp2_with (first | ((with_reducible refine gate_dst (N := 4) rfl ?_); refine box_event ?hg (N := 4) ?hd (cs := #[.int .i64 0, .int .i64 0, .int .i64 0, .slice none 0 0]) (t := 28) ?hr ?_; (case hd => rfl); (case hg => rfl); (case hr => first | (go_simp; done) | (go_simp; rfl)); intro gb103 hg w5 hbox hb; have BK103 := Z56.k (hbox); have GW103 := Z56.k (show w.heap.size ≤ gb103 from (by rw [hg]; exact (below_size Z56.z8))); have GE103 := Z56.k (show w.heap.size ≤ gb103 from (by rw [hg]; exact (below_size Z56.z8))); have NB101_103 := Z56.k (show g0_ ≠ gb103 from (by rw [hg]; exact Nat.ne_of_lt (Z56.bl BK101 Z56.z4))); have NB103_101 := Z56.k (show gb103 ≠ g0_ from (by rw [hg]; exact Nat.ne_of_gt (Z56.bl BK101 Z56.z4))); have NB102_103 := Z56.k ((by rw [hg]; exact Nat.ne_of_lt (Z56.bl BK102 Z56.z3) : g1_ ≠ gb103)); have NB103_102 := Z56.k ((by rw [hg]; exact Nat.ne_of_gt (Z56.bl BK102 Z56.z3) : gb103 ≠ g1_)); replace BK101 := Z56.k (Z56.bb BK101 Z56.z4 hb); replace BK102 := Z56.k (Z56.bb BK102 Z56.z3 hb); replace HB := Z56.k (below_step Z56.z8 hb); clear hb hbox hg))
 replace BK101 := Z56.k (blk_drew BK101.out)
 replace BK102 := Z56.k (blk_drew BK102.out)
 replace BK103 := Z56.k (blk_drew BK103.out)
 replace HB := Z56.k (below_drew1 HB.out)
 refine start_ (n := 21) (S := fun w' => w'.cell? ⟨g0_, 0, none⟩ = some (.int .i64 a0_0) ∧ w'.cell? ⟨g0_, 1, none⟩ = some (.int .i64 a0_1) ∧ w'.cell? ⟨g0_, 2, none⟩ = some (.int .i64 a0_2) ∧ w'.cell? ⟨g0_, 3, none⟩ = some (.slice A0_3 l0_3.length c0_3) ∧ w'.cell? ⟨g1_, 0, none⟩ = some (.int .i64 a1_0) ∧ w'.cell? ⟨g1_, 1, none⟩ = some (.int .i64 a1_1) ∧ w'.cell? ⟨g1_, 2, none⟩ = some (.int .i64 a1_2) ∧ w'.cell? ⟨g1_, 3, none⟩ = some (.slice A1_3 l1_3.length c1_3)) (ds := []) #[false, false, false, false, false, false, false, false, false, false, false, false, false, false, false, false, false, false, false, false, false] (by kernel_rfl) rfl rfl Z56.z6 (fun hHeld => ?_); refine with_tabW spec_l03Join.tab1 spec_l03Join.bits1 (fun HT_ HW_ => ?_)
 generalize w5.drew = w6 at BK101 BK102 BK103 HB hHeld ⊢
 refine Z56.pP 0 7 (Z56.b 21 1) (any_of HT_.out (by kernel_rfl)) ?_
 refine Z56.pP 1 8 (Z56.b 21 3) (any_of HT_.out (by kernel_rfl)) ?_
 refine Z56.pP 2 9 (Z56.b 21 7) (any_of HT_.out (by kernel_rfl)) ?_
 refine Z56.pP 4 11 (Z56.b 21 23) (any_of HT_.out (by kernel_rfl)) ?_
 refine Z56.pP 5 12 (Z56.b 21 55) (any_of HT_.out (by kernel_rfl)) ?_
 refine Z56.pP 6 13 (Z56.b 21 119) (any_of HT_.out (by kernel_rfl)) ?_
 refine Z56.pP 8 15 (Z56.b 21 375) (any_of HT_.out (by kernel_rfl)) ?_
 refine Z56.pP 9 16 (Z56.b 21 887) (any_of HT_.out (by kernel_rfl)) ?_
 refine Z56.pP 10 17 (Z56.b 21 1911) (any_of HT_.out (by kernel_rfl)) ?_
 refine Z56.pP 12 19 (Z56.b 21 6007) (any_of HT_.out (by kernel_rfl)) ?_
 refine Z56.pP 13 20 (Z56.b 21 14199) (any_of HT_.out (by kernel_rfl)) ?_
 refine Z56.pP 14 21 (Z56.b 21 30583) (any_of HT_.out (by kernel_rfl)) ?_
 refine Z56.pT8 3 10 (Z56.b 21 30591) (take_ofW HT_.out HW_.out (by kernel_rfl)) hHeld ?_
 refine Z56.pT8 7 14 (Z56.b 21 30719) (take_ofW HT_.out HW_.out (by kernel_rfl)) hHeld ?_
 refine Z56.pT8 11 18 (Z56.b 21 32767) (take_ofW HT_.out HW_.out (by kernel_rfl)) hHeld ?_
 refine Z56.pT8 15 22 (Z56.b 21 65535) (take_ofW HT_.out HW_.out (by kernel_rfl)) hHeld ?_
 refine Z56.pP 16 23 (Z56.b 21 131071) (any_of HT_.out (by kernel_rfl)) ?_
 refine join_ (σ := Value × Nat) 1 (Z56.b 21 1048575) (fun s_ => [(24, s_.1), (5, .pointer (some ⟨s_.2, 0, none⟩)), (25, .agg #[.int .i64 a0_0, .int .i64 a0_1, .int .i64 (wrap64 (a0_2 + a1_2)), s_.1])]) (fun s_ w' => (w'.cell? ⟨g0_, 0, none⟩ = some (.int .i64 a0_0) ∧ w'.cell? ⟨g0_, 1, none⟩ = some (.int .i64 a0_1) ∧ w'.cell? ⟨g0_, 2, none⟩ = some (.int .i64 a0_2) ∧ w'.cell? ⟨g0_, 3, none⟩ = some (.slice A0_3 l0_3.length c0_3) ∧ w'.cell? ⟨g1_, 0, none⟩ = some (.int .i64 a1_0) ∧ w'.cell? ⟨g1_, 1, none⟩ = some (.int .i64 a1_1) ∧ w'.cell? ⟨g1_, 2, none⟩ = some (.int .i64 a1_2) ∧ w'.cell? ⟨g1_, 3, none⟩ = some (.slice A1_3 l1_3.length c1_3)) ∧ (Kd.R (Kd.int .i64) 2 w' w.heap.size (fun _ => True) s_.1 y104) ∧ (w'.heap[g0_]? = some (.cells #[.int .i64 a0_0, .int .i64 a0_1, .int .i64 a0_2, .slice A0_3 l0_3.length c0_3] 28 (0, 0))) ∧ (w'.heap[g1_]? = some (.cells #[.int .i64 a1_0, .int .i64 a1_1, .int .i64 a1_2, .slice A1_3 l1_3.length c1_3] 28 (0, 0))) ∧ (w'.heap[gb103]? = some (.cells #[.int .i64 0, .int .i64 0, .int .i64 0, .slice none 0 0] 28 (0, 0))) ∧ (w'.heap[s_.2]? = some (.cells #[.int .i64 0, .int .i64 0, .int .i64 0, .slice none 0 0] 28 (0, 0))) ∧ (w.heap.size ≤ s_.2) ∧ (w.heap.size ≤ s_.2) ∧ (g0_ ≠ s_.2) ∧ (s_.2 ≠ g0_) ∧ (g1_ ≠ s_.2) ∧ (s_.2 ≠ g1_) ∧ (gb103 ≠ s_.2) ∧ (s_.2 ≠ gb103) ∧ (Below w.heap.size w w')) ?_ ?_
 rotate_left
 ·intro hCont
  refine two_ (i := 17) (j := 19) (Ni := some 24) (Nj := some 5) (Z56.b 21 262143) (Z56.b 21 655359) rfl rfl rfl rfl (two_of HT_.out (by kernel_rfl)) (by decide) (by decide) (fun K hK => ?_) (fun K hK => ?_)
  ·skip
   refine Kd.R_lit_step (Kd.int .i64) _ 2 ?hg (N := 24) ?hd (xs := ([] : List Int)) (inner := []) (ok := fun _ => True) (okp := fun _ => True) ?hr ?hp (fun _ hk => hk) trivial (Below.refl _ _) (Nat.le_refl _) (by simp) ?_; (case hd => rfl); (case hg => rfl); (case hr => first | (go_simp; done) | (go_simp; rfl)); (case hp => exact (Reps.none _ _))
   intro v105 w7 ho8 hb hg_ hnew_
   clear hg_ hnew_
   (first | rw [← Ny104.out] at ho8 | (simp only [Int.reduceToNat] at ho8; rw [← Ny104.out] at ho8))
   have n0_ := Z56.k (Kd.R_lower ho8 (below_size Z56.z2))
   have n1_ := Z56.k (Z56.bb BK101 Z56.z4 hb)
   have n2_ := Z56.k (Z56.bb BK102 Z56.z3 hb)
   have n3_ := Z56.k (Z56.bb BK103 Z56.z5 hb)
   have n4_ := Z56.k (below_step Z56.z2 hb)
   clear BK101 BK102 BK103 HB
   have HO106 := n0_
   have BK101 := n1_
   have BK102 := n2_
   have BK103 := n3_
   have HB := n4_
   clear n0_ n1_ n2_ n3_ n4_ hb ho8
   obtain ⟨Ao9, co9, eo9⟩ := Kd.R_slice HO106.out
   (first | subst eo9 | (injection eo9 with f1_ f2_ f3_; have f4_ := f1_.symm; have f5_ := f3_.symm; clear f1_ f2_ f3_; subst f4_; subst f5_))
   refine hK.out _ _ Z56.z6 (fun hHeld => ?_)
   clear hK K
   refine norm_ (a' := ?_) ?_ ?_
   rotate_left
   ·show Act.put _ (some 24) _ = _
    simp only [Act.put, List.setIfInBounds_toArray, List.set_cons_zero, List.set_cons_succ, i64_w, i32_w]
    rfl
   refine Z56.pP 18 25 (Z56.b 21 524287) (any_of HT_.out (by kernel_rfl)) ?_
   refine one_ (i := 19) (N := some 5) (Z56.b 21 1048575) rfl rfl (one_of HT_.out (by kernel_rfl)) (by decide) (fun K hK => ?_)
   refine box_step ?hg (N := 5) ?hd (cs := #[.int .i64 0, .int .i64 0, .int .i64 0, .slice none 0 0]) (t := 28) ?hr ?_; (case hd => rfl); (case hg => rfl); (case hr => first | (go_simp; done) | (go_simp; rfl))
   intro gb107 hg w10 hbox hb
   have n0_ := Z56.k (Kd.R_below Z56.z15 hb)
   have n1_ := Z56.k (Z56.bb BK101 Z56.z4 hb)
   have n2_ := Z56.k (Z56.bb BK102 Z56.z3 hb)
   have n3_ := Z56.k (Z56.bb BK103 Z56.z5 hb)
   have n4_ := Z56.k (below_step Z56.z2 hb)
   have n5_ := Z56.k (hbox)
   have n6_ := Z56.k (show w.heap.size ≤ gb107 from (by rw [hg]; exact (below_size Z56.z2)))
   have n7_ := Z56.k (show w.heap.size ≤ gb107 from (by rw [hg]; exact (below_size Z56.z2)))
   have n8_ := Z56.k (show g0_ ≠ gb107 from (by rw [hg]; exact Nat.ne_of_lt (Z56.bl BK101 Z56.z4)))
   have n9_ := Z56.k (show gb107 ≠ g0_ from (by rw [hg]; exact Nat.ne_of_gt (Z56.bl BK101 Z56.z4)))
   have n10_ := Z56.k ((by rw [hg]; exact Nat.ne_of_lt (Z56.bl BK102 Z56.z3) : g1_ ≠ gb107))
   have n11_ := Z56.k ((by rw [hg]; exact Nat.ne_of_gt (Z56.bl BK102 Z56.z3) : gb107 ≠ g1_))
   have n12_ := Z56.k (show gb103 ≠ gb107 from (by rw [hg]; exact Nat.ne_of_lt (Z56.bl BK103 Z56.z5)))
   have n13_ := Z56.k (show gb107 ≠ gb103 from (by rw [hg]; exact Nat.ne_of_gt (Z56.bl BK103 Z56.z5)))
   clear HO106 BK101 BK102 BK103 HB
   have HO106 := n0_
   have BK101 := n1_
   have BK102 := n2_
   have BK103 := n3_
   have HB := n4_
   have BK107 := n5_
   have GW107 := n6_
   have GE107 := n7_
   have NB101_107 := n8_
   have NB107_101 := n9_
   have NB102_107 := n10_
   have NB107_102 := n11_
   have NB103_107 := n12_
   have NB107_103 := n13_
   clear n0_ n1_ n2_ n3_ n4_ n5_ n6_ n7_ n8_ n9_ n10_ n11_ n12_ n13_ hb hbox hg
   refine hK.out _ _ Z56.z6 (fun hHeld => ?_)
   clear hK K
   refine norm_ (a' := ?_) ?_ ?_
   rotate_left
   ·show Act.put _ (some 5) _ = _
    simp only [Act.put, List.setIfInBounds_toArray, List.set_cons_zero, List.set_cons_succ, i64_w, i32_w]
    rfl
   exact norm_ (by simp only [putAll, Act.put, List.setIfInBounds_toArray, List.set_cons_zero, List.set_cons_succ]) (hCont (.slice Ao9 y104.length co9, gb107) _ ⟨hHeld, Z56.z15, Z56.z4, Z56.z3, Z56.z5, Z56.z7, GW107.out, GE107.out, NB101_107.out, NB107_101.out, NB102_107.out, NB107_102.out, NB103_107.out, NB107_103.out, Z56.z1⟩)
  skip
  refine box_step ?hg (N := 5) ?hd (cs := #[.int .i64 0, .int .i64 0, .int .i64 0, .slice none 0 0]) (t := 28) ?hr ?_; (case hd => rfl); (case hg => rfl); (case hr => first | (go_simp; done) | (go_simp; rfl))
  intro gb107 hg w7 hbox hb
  have n0_ := Z56.k (Z56.bb BK101 Z56.z4 hb)
  have n1_ := Z56.k (Z56.bb BK102 Z56.z3 hb)
  have n2_ := Z56.k (Z56.bb BK103 Z56.z5 hb)
  have n3_ := Z56.k (below_step Z56.z2 hb)
  have n4_ := Z56.k (hbox)
  have n5_ := Z56.k (show w.heap.size ≤ gb107 from (by rw [hg]; exact (below_size Z56.z2)))
  have n6_ := Z56.k (show w.heap.size ≤ gb107 from (by rw [hg]; exact (below_size Z56.z2)))
  have n7_ := Z56.k (show g0_ ≠ gb107 from (by rw [hg]; exact Nat.ne_of_lt (Z56.bl BK101 Z56.z4)))
  have n8_ := Z56.k (show gb107 ≠ g0_ from (by rw [hg]; exact Nat.ne_of_gt (Z56.bl BK101 Z56.z4)))
  have n9_ := Z56.k ((by rw [hg]; exact Nat.ne_of_lt (Z56.bl BK102 Z56.z3) : g1_ ≠ gb107))
  have n10_ := Z56.k ((by rw [hg]; exact Nat.ne_of_gt (Z56.bl BK102 Z56.z3) : gb107 ≠ g1_))
  have n11_ := Z56.k (show gb103 ≠ gb107 from (by rw [hg]; exact Nat.ne_of_lt (Z56.bl BK103 Z56.z5)))
  have n12_ := Z56.k (show gb107 ≠ gb103 from (by rw [hg]; exact Nat.ne_of_gt (Z56.bl BK103 Z56.z5)))
  clear BK101 BK102 BK103 HB
  have BK101 := n0_
  have BK102 := n1_
  have BK103 := n2_
  have HB := n3_
  have BK107 := n4_
  have GW107 := n5_
  have GE107 := n6_
  have NB101_107 := n7_
  have NB107_101 := n8_
  have NB102_107 := n9_
  have NB107_102 := n10_
  have NB103_107 := n11_
  have NB107_103 := n12_
  clear n0_ n1_ n2_ n3_ n4_ n5_ n6_ n7_ n8_ n9_ n10_ n11_ n12_ hb hbox hg
  refine hK.out _ _ Z56.z6 (fun hHeld => ?_)
  clear hK K
  refine norm_ (a' := ?_) ?_ ?_
  rotate_left
  ·show Act.put _ (some 5) _ = _
   simp only [Act.put, List.setIfInBounds_toArray, List.set_cons_zero, List.set_cons_succ, i64_w, i32_w]
   rfl
  refine one_ (i := 17) (N := some 24) (Z56.b 21 786431) rfl rfl (one_of HT_.out (by kernel_rfl)) (by decide) (fun K hK => ?_)
  refine Kd.R_lit_step (Kd.int .i64) _ 2 ?hg (N := 24) ?hd (xs := ([] : List Int)) (inner := []) (ok := fun _ => True) (okp := fun _ => True) ?hr ?hp (fun _ hk => hk) trivial (Below.refl _ _) (Nat.le_refl _) (by simp) ?_; (case hd => rfl); (case hg => rfl); (case hr => first | (go_simp; done) | (go_simp; rfl)); (case hp => exact (Reps.none _ _))
  intro v105 w8 ho9 hb hg_ hnew_
  clear hg_ hnew_
  (first | rw [← Ny104.out] at ho9 | (simp only [Int.reduceToNat] at ho9; rw [← Ny104.out] at ho9))
  have n0_ := Z56.k (Kd.R_lower ho9 (below_size Z56.z1))
  have n1_ := Z56.k (Z56.bb BK101 Z56.z4 hb)
  have n2_ := Z56.k (Z56.bb BK102 Z56.z3 hb)
  have n3_ := Z56.k (Z56.bb BK103 Z56.z5 hb)
  have n4_ := Z56.k (Z56.bb BK107 Z56.z7 hb)
  have n5_ := Z56.k (below_step Z56.z1 hb)
  clear BK101 BK102 BK103 BK107 HB
  have HO106 := n0_
  have BK101 := n1_
  have BK102 := n2_
  have BK103 := n3_
  have BK107 := n4_
  have HB := n5_
  clear n0_ n1_ n2_ n3_ n4_ n5_ hb ho9
  obtain ⟨Ao10, co10, eo10⟩ := Kd.R_slice HO106.out
  (first | subst eo10 | (injection eo10 with f1_ f2_ f3_; have f4_ := f1_.symm; have f5_ := f3_.symm; clear f1_ f2_ f3_; subst f4_; subst f5_))
  refine hK.out _ _ Z56.z6 (fun hHeld => ?_)
  clear hK K
  refine norm_ (a' := ?_) ?_ ?_
  rotate_left
  ·show Act.put _ (some 24) _ = _
   simp only [Act.put, List.setIfInBounds_toArray, List.set_cons_zero, List.set_cons_succ, i64_w, i32_w]
   rfl
  refine Z56.pP 18 25 (Z56.b 21 1048575) (any_of HT_.out (by kernel_rfl)) ?_
  exact norm_ (by simp only [putAll, Act.put, List.setIfInBounds_toArray, List.set_cons_zero, List.set_cons_succ]) (hCont (.slice Ao10 y104.length co10, gb107) _ ⟨hHeld, Z56.z15, Z56.z4, Z56.z3, Z56.z5, Z56.z7, GW107.out, GE107.out, NB101_107.out, NB107_101.out, NB102_107.out, NB107_102.out, NB103_107.out, NB107_103.out, Z56.z1⟩)
 rintro ⟨v105, gb107⟩ w11 ⟨hS_, h0_, h1_, h2_, h3_, h4_, h5_, h6_, h7_, h8_, h9_, h10_, h11_, h12_, h13_⟩
 have n0_ : Aside0 (Kd.R (Kd.int .i64) 2 w11 w.heap.size (fun _ => True) v105 y104) := ⟨h0_⟩
 have n1_ : Aside0 (w11.heap[g0_]? = some (.cells #[.int .i64 a0_0, .int .i64 a0_1, .int .i64 a0_2, .slice A0_3 l0_3.length c0_3] 28 (0, 0))) := ⟨h1_⟩
 have n2_ : Aside0 (w11.heap[g1_]? = some (.cells #[.int .i64 a1_0, .int .i64 a1_1, .int .i64 a1_2, .slice A1_3 l1_3.length c1_3] 28 (0, 0))) := ⟨h2_⟩
 have n3_ : Aside0 (w11.heap[gb103]? = some (.cells #[.int .i64 0, .int .i64 0, .int .i64 0, .slice none 0 0] 28 (0, 0))) := ⟨h3_⟩
 have n4_ : Aside0 (w11.heap[gb107]? = some (.cells #[.int .i64 0, .int .i64 0, .int .i64 0, .slice none 0 0] 28 (0, 0))) := ⟨h4_⟩
 have n5_ : Aside0 (w.heap.size ≤ gb107) := ⟨h5_⟩
 have n6_ : Aside0 (w.heap.size ≤ gb107) := ⟨h6_⟩
 have n7_ : Aside0 (g0_ ≠ gb107) := ⟨h7_⟩
 have n8_ : Aside0 (gb107 ≠ g0_) := ⟨h8_⟩
 have n9_ : Aside0 (g1_ ≠ gb107) := ⟨h9_⟩
 have n10_ : Aside0 (gb107 ≠ g1_) := ⟨h10_⟩
 have n11_ : Aside0 (gb103 ≠ gb107) := ⟨h11_⟩
 have n12_ : Aside0 (gb107 ≠ gb103) := ⟨h12_⟩
 have n13_ : Aside0 (Below w.heap.size w w11) := ⟨h13_⟩
 clear BK101 BK102 BK103 HB h0_ h1_ h2_ h3_ h4_ h5_ h6_ h7_ h8_ h9_ h10_ h11_ h12_ h13_
 have HO106 := n0_
 have BK101 := n1_
 have BK102 := n2_
 have BK103 := n3_
 have BK107 := n4_
 have GW107 := n5_
 have GE107 := n6_
 have NB101_107 := n7_
 have NB107_101 := n8_
 have NB102_107 := n9_
 have NB107_102 := n10_
 have NB103_107 := n11_
 have NB107_103 := n12_
 have HB := n13_
 clear n0_ n1_ n2_ n3_ n4_ n5_ n6_ n7_ n8_ n9_ n10_ n11_ n12_ n13_
 have hHeld : w11.cell? ⟨g0_, 0, none⟩ = some (.int .i64 a0_0) ∧ w11.cell? ⟨g0_, 1, none⟩ = some (.int .i64 a0_1) ∧ w11.cell? ⟨g0_, 2, none⟩ = some (.int .i64 a0_2) ∧ w11.cell? ⟨g0_, 3, none⟩ = some (.slice A0_3 l0_3.length c0_3) ∧ w11.cell? ⟨g1_, 0, none⟩ = some (.int .i64 a1_0) ∧ w11.cell? ⟨g1_, 1, none⟩ = some (.int .i64 a1_1) ∧ w11.cell? ⟨g1_, 2, none⟩ = some (.int .i64 a1_2) ∧ w11.cell? ⟨g1_, 3, none⟩ = some (.slice A1_3 l1_3.length c1_3) := hS_
 obtain ⟨Ao12, co12, eo12⟩ := Kd.R_slice HO106.out
 (first | subst eo12 | (injection eo12 with f1_ f2_ f3_; have f4_ := f1_.symm; have f5_ := f3_.symm; clear f1_ f2_ f3_; subst f4_; subst f5_))
 refine norm_ (a' := ?_) ?_ ?_
 rotate_left
 ·simp only [putAll, Act.put, List.setIfInBounds_toArray, List.set_cons_zero, List.set_cons_succ]
  rfl
 refine one_ (i := 20) (N := none) (Z56.b 21 2097151) rfl rfl (one_of HT_.out (by kernel_rfl)) (by decide) (fun K hK => ?_)
 have hs13 : w11.cell? ⟨gb107, 0, none⟩ = some (.int .i64 0) := (blk_cell BK107.out 0).trans rfl
 have hfs13 := blk_frozen BK107.out 0
 have hns13_0 := NB101_107.out
 have hns13_1 := NB102_107.out
 have hns13_2 := NB103_107.out
 have hms13_0 := NB107_101.out
 have hms13_1 := NB107_102.out
 have hms13_2 := NB107_103.out
 have hs14 : w11.cell? ⟨gb107, 1, none⟩ = some (.int .i64 0) := (blk_cell BK107.out 1).trans rfl
 have hfs14 := blk_frozen BK107.out 1
 have hns14_0 := NB101_107.out
 have hns14_1 := NB102_107.out
 have hns14_2 := NB103_107.out
 have hms14_0 := NB107_101.out
 have hms14_1 := NB107_102.out
 have hms14_2 := NB107_103.out
 have hs15 : w11.cell? ⟨gb107, 2, none⟩ = some (.int .i64 0) := (blk_cell BK107.out 2).trans rfl
 have hfs15 := blk_frozen BK107.out 2
 have hns15_0 := NB101_107.out
 have hns15_1 := NB102_107.out
 have hns15_2 := NB103_107.out
 have hms15_0 := NB107_101.out
 have hms15_1 := NB107_102.out
 have hms15_2 := NB107_103.out
 have hs16 : w11.cell? ⟨gb107, 3, none⟩ = some (.slice none 0 0) := (blk_cell BK107.out 3).trans rfl
 have hfs16 := blk_frozen BK107.out 3
 have hns16_0 := NB101_107.out
 have hns16_1 := NB102_107.out
 have hns16_2 := NB103_107.out
 have hms16_0 := NB107_101.out
 have hms16_1 := NB107_102.out
 have hms16_2 := NB107_103.out
 refine skip_ (w1 := ?_) (by rfl) rfl ?_ ?_
 rotate_left
 ·go_simp
  rfl
 refine hK.out _ _ ⟨((cell_far (p := ⟨gb107, _, none⟩) NB101_107.out _).trans (((cell_far (p := ⟨gb107, _, none⟩) NB101_107.out _).trans (((cell_far (p := ⟨gb107, _, none⟩) NB101_107.out _).trans (((cell_far (p := ⟨gb107, _, none⟩) NB101_107.out _).trans (hHeld.1)))))))), ((cell_far (p := ⟨gb107, _, none⟩) NB101_107.out _).trans (((cell_far (p := ⟨gb107, _, none⟩) NB101_107.out _).trans (((cell_far (p := ⟨gb107, _, none⟩) NB101_107.out _).trans (((cell_far (p := ⟨gb107, _, none⟩) NB101_107.out _).trans (hHeld.2.1)))))))), ((cell_far (p := ⟨gb107, _, none⟩) NB101_107.out _).trans (((cell_far (p := ⟨gb107, _, none⟩) NB101_107.out _).trans (((cell_far (p := ⟨gb107, _, none⟩) NB101_107.out _).trans (((cell_far (p := ⟨gb107, _, none⟩) NB101_107.out _).trans (hHeld.2.2.1)))))))), ((cell_far (p := ⟨gb107, _, none⟩) NB101_107.out _).trans (((cell_far (p := ⟨gb107, _, none⟩) NB101_107.out _).trans (((cell_far (p := ⟨gb107, _, none⟩) NB101_107.out _).trans (((cell_far (p := ⟨gb107, _, none⟩) NB101_107.out _).trans (hHeld.2.2.2.1)))))))), ((cell_far (p := ⟨gb107, _, none⟩) NB102_107.out _).trans (((cell_far (p := ⟨gb107, _, none⟩) NB102_107.out _).trans (((cell_far (p := ⟨gb107, _, none⟩) NB102_107.out _).trans (((cell_far (p := ⟨gb107, _, none⟩) NB102_107.out _).trans (hHeld.2.2.2.2.1)))))))), ((cell_far (p := ⟨gb107, _, none⟩) NB102_107.out _).trans (((cell_far (p := ⟨gb107, _, none⟩) NB102_107.out _).trans (((cell_far (p := ⟨gb107, _, none⟩) NB102_107.out _).trans (((cell_far (p := ⟨gb107, _, none⟩) NB102_107.out _).trans (hHeld.2.2.2.2.2.1)))))))), ((cell_far (p := ⟨gb107, _, none⟩) NB102_107.out _).trans (((cell_far (p := ⟨gb107, _, none⟩) NB102_107.out _).trans (((cell_far (p := ⟨gb107, _, none⟩) NB102_107.out _).trans (((cell_far (p := ⟨gb107, _, none⟩) NB102_107.out _).trans (hHeld.2.2.2.2.2.2.1)))))))), ((cell_far (p := ⟨gb107, _, none⟩) NB102_107.out _).trans (((cell_far (p := ⟨gb107, _, none⟩) NB102_107.out _).trans (((cell_far (p := ⟨gb107, _, none⟩) NB102_107.out _).trans (((cell_far (p := ⟨gb107, _, none⟩) NB102_107.out _).trans (hHeld.2.2.2.2.2.2.2))))))))⟩ (fun hHeld => ?_)
 clear hK K
 refine done_ (done_of HT_.out (by kernel_rfl)) ?_
 try go_wp2
 go_loopg [6] k (fun kq v6 w' => ∃ (x6_1 : Int) (x108003_1 : List Int) (u108003 : Value), v6 = .int .i64 x6_1 ∧ Aside0 (spec_l03Join.l0 kq x6_1 a0_0 a0_1 a0_2 l0_3 a1_0 a1_1 a1_2 l1_3 a0_0 a0_1 (wrap64 (a0_2 + a1_2)) x108003_1 = some (r1, r2, r3, r4)) ∧ Aside0 (kq ≤ k) ∧ Aside0 (Kd.R (Kd.int .i64) 2 w' w.heap.size (fun _ => True) u108003 x108003_1) ∧ Aside0 (w'.heap[g0_]? = some (.cells #[.int .i64 a0_0, .int .i64 a0_1, .int .i64 a0_2, (.slice A0_3 l0_3.length c0_3)] 28 (0, 0))) ∧ Aside0 (w'.heap[g1_]? = some (.cells #[.int .i64 a1_0, .int .i64 a1_1, .int .i64 a1_2, (.slice A1_3 l1_3.length c1_3)] 28 (0, 0))) ∧ Aside0 (w'.heap[gb103]? = some (.cells #[.int .i64 0, .int .i64 0, .int .i64 0, (.slice none 0 0)] 28 (0, 0))) ∧ Aside0 (w'.heap[gb107]? = some (.cells #[.int .i64 a0_0, .int .i64 a0_1, .int .i64 (wrap64 (a0_2 + a1_2)), u108003] 28 (0, 0))) ∧ Aside0 (Below w.heap.size w w'))
 case atStart => exact ⟨(0), (y104), (.slice Ao12 y104.length co12), (by first | rfl | (simp; done) | (simp [*]; done)), H', ⟨Nat.le_refl _⟩, ⟨(by (with_reducible repeat (first | apply Kd.R_alloc | apply Kd.R_drewN | apply Kd.R_drew)); exact Kd.R_mono (Kd.R_far (p := ⟨gb107, 3, none⟩) (Kd.R_far (p := ⟨gb107, 2, none⟩) (Kd.R_far (p := ⟨gb107, 1, none⟩) (Kd.R_far (p := ⟨gb107, 0, none⟩) (Kd.R_types HO106.out BK107.out (by decide)) (fun _ hk => hk.2) (.int .i64 a0_0)) (fun _ hk => hk.2) (.int .i64 a0_1)) (fun _ hk => hk.2) (.int .i64 (wrap64 (a0_2 + a1_2)))) (fun _ hk => hk.2) (.slice Ao12 y104.length co12)) (fun _ hk => trivial))⟩, ⟨Z56.z12⟩, ⟨Z56.z11⟩, ⟨Z56.z10⟩, ⟨(by (with_reducible repeat (first | refine blk_drewN ?_ _ | refine blk_drew ?_ | refine blk_alloc ?_ _)); refine blk_put (cs := #[.int .i64 a0_0, .int .i64 a0_1, .int .i64 (wrap64 (a0_2 + a1_2)), .slice none 0 0]) ?_ 3 _ rfl; (with_reducible repeat (first | refine blk_drewN ?_ _ | refine blk_drew ?_ | refine blk_alloc ?_ _)); refine blk_put (cs := #[.int .i64 a0_0, .int .i64 a0_1, .int .i64 0, .slice none 0 0]) ?_ 2 _ rfl; (with_reducible repeat (first | refine blk_drewN ?_ _ | refine blk_drew ?_ | refine blk_alloc ?_ _)); refine blk_put (cs := #[.int .i64 a0_0, .int .i64 0, .int .i64 0, .slice none 0 0]) ?_ 1 _ rfl; (with_reducible repeat (first | refine blk_drewN ?_ _ | refine blk_drew ?_ | refine blk_alloc ?_ _)); refine blk_put (cs := #[.int .i64 0, .int .i64 0, .int .i64 0, .slice none 0 0]) ?_ 0 _ rfl; (with_reducible repeat (first | refine blk_drewN ?_ _ | refine blk_drew ?_ | refine blk_alloc ?_ _)); exact BK107.out)⟩, ⟨Z56.z1⟩⟩
 case round =>
  clear H'
  try clear c1
  try clear p2
  try clear c5
  try clear p6
  obtain ⟨x6_1, x108003_1, u108003, rfl, HA, HK1, HO_108003, BK101, BK102, BK103, BK107, HB⟩ := hrel
  cases gk with
  | zero => exact absurd HA.out (by simp [spec_l03Join.l0])
  | succ k1 =>
   have H := HA.out
   clear HA
   simp only [spec_l03Join.l0] at H
   by_cases c17 : x6_1 < a0_1
   ·rw [if_pos c17] at H
    have c17b0 : decide (x6_1 < a0_1) = true := decide_eq_true c17
    clear c17
    obtain ⟨ji18, hji18⟩ : ∃ j_ : Int, (wrap64 (x6_1 * a0_2)) = j_ := ⟨_, rfl⟩
    replace H : (if 0 ≤ (ji18) then (if (ji18) ≤ (wrap64 ((wrap64 (x6_1 + 1)) * a0_2)) then (if (wrap64 ((wrap64 (x6_1 + 1)) * a0_2)) ≤ (l0_3.length : Int) then (if x108003_1.length + ((l0_3.take ((wrap64 ((wrap64 (x6_1 + 1)) * a0_2)) : Int).toNat).drop ((ji18) : Int).toNat).length < 17592186044416 then ((some (x108003_1 ++ ((l0_3.take ((wrap64 ((wrap64 (x6_1 + 1)) * a0_2)) : Int).toNat).drop ((ji18) : Int).toNat) : List Int)).bind fun y109 => (if 0 ≤ (wrap64 (x6_1 * a1_2)) then (if (wrap64 (x6_1 * a1_2)) ≤ (wrap64 ((wrap64 (x6_1 + 1)) * a1_2)) then (if (wrap64 ((wrap64 (x6_1 + 1)) * a1_2)) ≤ (l1_3.length : Int) then (if y109.length + ((l1_3.take ((wrap64 ((wrap64 (x6_1 + 1)) * a1_2)) : Int).toNat).drop ((wrap64 (x6_1 * a1_2)) : Int).toNat).length < 17592186044416 then (spec_l03Join.l0 k1 (wrap64 (x6_1 + 1)) a0_0 a0_1 a0_2 l0_3 a1_0 a1_1 a1_2 l1_3 a0_0 a0_1 (wrap64 (a0_2 + a1_2)) (y109 ++ ((l1_3.take ((wrap64 ((wrap64 (x6_1 + 1)) * a1_2)) : Int).toNat).drop ((wrap64 (x6_1 * a1_2)) : Int).toNat))) else (none)) else (none)) else (none)) else (none))) else (none)) else (none)) else (none)) else (none)) = some (r1, r2, r3, r4) := by first | (rw [hji18] at H; exact H) | (simp only [hji18] at H ⊢; exact H)
    have hji18w : (IntKind.i64.wrap (x6_1 * a0_2)) = ji18 := (i64_w _).trans hji18
    by_cases c19 : 0 ≤ (ji18)
    ·rw [if_pos c19] at H
     have c19b0 := eq_true c19
     have c19b1 : decide (0 ≤ (ji18)) = true := decide_eq_true c19
     clear c19
     by_cases c20 : (ji18) ≤ (wrap64 ((wrap64 (x6_1 + 1)) * a0_2))
     ·rw [if_pos c20] at H
      have c20b0 := eq_true c20; have c20b1 : decide ((ji18) ≤ (wrap64 ((wrap64 (x6_1 + 1)) * a0_2))) = true := decide_eq_true c20
      by_cases c21 : (wrap64 ((wrap64 (x6_1 + 1)) * a0_2)) ≤ (l0_3.length : Int)
      ·rw [if_pos c21] at H
       have c21b0 := eq_true c21; have c21b1 : decide ((wrap64 ((wrap64 (x6_1 + 1)) * a0_2)) ≤ (l0_3.length : Int)) = true := decide_eq_true c21
       by_cases c22 : x108003_1.length + ((l0_3.take ((wrap64 ((wrap64 (x6_1 + 1)) * a0_2)) : Int).toNat).drop ((ji18) : Int).toNat).length < 17592186044416
       ·rw [if_pos c22] at H
        have LMc22 := Z56.k c22; clear c22; obtain ⟨y109, hy109⟩ : ∃ y_ : List Int, y_ = (x108003_1 ++ ((l0_3.take ((wrap64 ((wrap64 (x6_1 + 1)) * a0_2)) : Int).toNat).drop ((ji18) : Int).toNat)) := ⟨_, rfl⟩; replace H : (if 0 ≤ (wrap64 (x6_1 * a1_2)) then (if (wrap64 (x6_1 * a1_2)) ≤ (wrap64 ((wrap64 (x6_1 + 1)) * a1_2)) then (if (wrap64 ((wrap64 (x6_1 + 1)) * a1_2)) ≤ (l1_3.length : Int) then (if y109.length + ((l1_3.take ((wrap64 ((wrap64 (x6_1 + 1)) * a1_2)) : Int).toNat).drop ((wrap64 (x6_1 * a1_2)) : Int).toNat).length < 17592186044416 then (spec_l03Join.l0 k1 (wrap64 (x6_1 + 1)) a0_0 a0_1 a0_2 l0_3 a1_0 a1_1 a1_2 l1_3 a0_0 a0_1 (wrap64 (a0_2 + a1_2)) (y109 ++ ((l1_3.take ((wrap64 ((wrap64 (x6_1 + 1)) * a1_2)) : Int).toNat).drop ((wrap64 (x6_1 * a1_2)) : Int).toNat))) else (none)) else (none)) else (none)) else (none)) = some (r1, r2, r3, r4) := by first | (rw [hy109]; with_reducible exact H) | (have H2_ := (Option.bind_some _ _).symm.trans H; rw [hy109]; with_reducible exact H2_) | (have H2_ := (Option.bind_some _ _).symm.trans H; with_reducible exact H2_) | with_reducible exact H | (rw [hy109]; exact H) | exact H
        have Ny109 := Z56.k hy109; clear hy109; obtain ⟨ji23, hji23⟩ : ∃ j_ : Int, (wrap64 (x6_1 * a1_2)) = j_ := ⟨_, rfl⟩; replace H : (if 0 ≤ (ji23) then (if (ji23) ≤ (wrap64 ((wrap64 (x6_1 + 1)) * a1_2)) then (if (wrap64 ((wrap64 (x6_1 + 1)) * a1_2)) ≤ (l1_3.length : Int) then (if y109.length + ((l1_3.take ((wrap64 ((wrap64 (x6_1 + 1)) * a1_2)) : Int).toNat).drop ((ji23) : Int).toNat).length < 17592186044416 then (spec_l03Join.l0 k1 (wrap64 (x6_1 + 1)) a0_0 a0_1 a0_2 l0_3 a1_0 a1_1 a1_2 l1_3 a0_0 a0_1 (wrap64 (a0_2 + a1_2)) (y109 ++ ((l1_3.take ((wrap64 ((wrap64 (x6_1 + 1)) * a1_2)) : Int).toNat).drop ((ji23) : Int).toNat))) else (none)) else (none)) else (none)) else (none)) = some (r1, r2, r3, r4) := by first | (rw [hji23] at H; exact H) | (simp only [hji23] at H ⊢; exact H)
        have hji23w : (IntKind.i64.wrap (x6_1 * a1_2)) = ji23 := (i64_w _).trans hji23
        by_cases c24 : 0 ≤ (ji23)
        ·rw [if_pos c24] at H
         have c24b0 := eq_true c24; have c24b1 : decide (0 ≤ (ji23)) = true := decide_eq_true c24; clear c24
         by_cases c25 : (ji23) ≤ (wrap64 ((wrap64 (x6_1 + 1)) * a1_2))
         ·rw [if_pos c25] at H
          have c25b0 := eq_true c25; have c25b1 : decide ((ji23) ≤ (wrap64 ((wrap64 (x6_1 + 1)) * a1_2))) = true := decide_eq_true c25
          by_cases c26 : (wrap64 ((wrap64 (x6_1 + 1)) * a1_2)) ≤ (l1_3.length : Int)
          ·rw [if_pos c26] at H
           have c26b0 := eq_true c26; have c26b1 : decide ((wrap64 ((wrap64 (x6_1 + 1)) * a1_2)) ≤ (l1_3.length : Int)) = true := decide_eq_true c26
           by_cases c27 : y109.length + ((l1_3.take ((wrap64 ((wrap64 (x6_1 + 1)) * a1_2)) : Int).toNat).drop ((ji23) : Int).toNat).length < 17592186044416
           ·rw [if_pos c27] at H
            have LMc27 := Z56.k c27; clear c27; obtain ⟨y113, hy113⟩ : ∃ y_ : List Int, y_ = (y109 ++ ((l1_3.take ((wrap64 ((wrap64 (x6_1 + 1)) * a1_2)) : Int).toNat).drop ((ji23) : Int).toNat)) := ⟨_, rfl⟩; replace H : (spec_l03Join.l0 k1 (wrap64 (x6_1 + 1)) a0_0 a0_1 a0_2 l0_3 a1_0 a1_1 a1_2 l1_3 a0_0 a0_1 (wrap64 (a0_2 + a1_2)) y113) = some (r1, r2, r3, r4) := by first | (rw [hy113]; with_reducible exact H) | (have H2_ := (Option.bind_some _ _).symm.trans H; rw [hy113]; with_reducible exact H2_) | (have H2_ := (Option.bind_some _ _).symm.trans H; with_reducible exact H2_) | with_reducible exact H | (rw [hy113]; exact H) | exact H
            have Ny113 := Z56.k hy113; clear hy113; have H' := Z56.k H; clear H; have hnb29 := NB101_103.out; have hnc29 := NB103_101.out; have hnb30 := NB101_107.out; have hnc30 := NB107_101.out; obtain ⟨hcz31_0, hcz31_1, hcz31_2, hcz31_3, hfz31_0, hfz31_1, hfz31_2, hfz31_3⟩ := cells4 BK101.out
            try go_wp2
            replace HO_108003 := Z56.k (Kd.R_drew HO_108003.out); replace BK101 := Z56.k (blk_drew BK101.out); replace BK102 := Z56.k (blk_drew BK102.out); replace BK103 := Z56.k (blk_drew BK103.out); replace BK107 := Z56.k (blk_drew BK107.out); replace HB := Z56.k (below_drew1 HB.out); obtain ⟨i033, hi033, _, hsz33, _⟩ := info_parts info2; obtain ⟨A33, hcut33, hA33, hC33⟩ := print_mid_of (P := Try.prog) (Value.int .i64) 0 22 2 .i64 .i64 Try.underlying22 hi033 hsz33 A0_3 c0_3 l0_3 (ji18) (wrap64 ((wrap64 (x6_1 + 1)) * a0_2)) (of_decide_eq_true Z56.z9) (by first | omega | exact of_decide_eq_true Z56.z9) (of_decide_eq_true Z56.z9) HC0_3.out; have HR108 := Z56.k (Kd.C_of_reads (h1 := fun _ => rfl) (hA33 _ (Kd.reads_of_C HR0_3.out))); have HC108 := Z56.k hC33; clear hA33 hC33 hi033 hsz33; refine start_ (n := 23) (S := fun w' => w'.cell? ⟨gb107, 0, none⟩ = some (.int .i64 a0_0) ∧ w'.cell? ⟨gb107, 1, none⟩ = some (.int .i64 a0_1) ∧ w'.cell? ⟨gb107, 2, none⟩ = some (.int .i64 (wrap64 (a0_2 + a1_2))) ∧ w'.cell? ⟨gb107, 3, none⟩ = some (u108003) ∧ w'.cell? ⟨g0_, 0, none⟩ = some (.int .i64 a0_0) ∧ w'.cell? ⟨g0_, 1, none⟩ = some (.int .i64 a0_1) ∧ w'.cell? ⟨g0_, 2, none⟩ = some (.int .i64 a0_2) ∧ w'.cell? ⟨g0_, 3, none⟩ = some (.slice A0_3 l0_3.length c0_3)) (ds := [22]) #[false, false, false, false, false, false, false, false, false, false, false, false, false, false, false, false, false, false, false, false, false, false, false] (by kernel_rfl) rfl rfl Z56.z14 (fun hHeld => ?_); refine with_tabW spec_l03Join.tab5 spec_l03Join.bits5 (fun HT_ HW_ => ?_); generalize wr.drew = w32 at HO_108003 BK101 BK102 BK103 BK107 HB HR108 hHeld ⊢
            refine Z56.pP 0 34 (Z56.b 23 1) (any_of HT_.out (by kernel_rfl)) ?_; refine Z56.pP 2 36 (Z56.b 23 5) (any_of HT_.out (by kernel_rfl)) ?_; refine Z56.pP 3 37 (Z56.b 23 13) (any_of HT_.out (by kernel_rfl)) ?_; refine Z56.pP 4 38 (Z56.b 23 29) (any_of HT_.out (by kernel_rfl)) ?_; refine Z56.pP 6 40 (Z56.b 23 93) (any_of HT_.out (by kernel_rfl)) ?_; refine Z56.pP 7 41 (Z56.b 23 221) (any_of HT_.out (by kernel_rfl)) ?_; refine Z56.pP 8 42 (Z56.b 23 477) (any_of HT_.out (by kernel_rfl)) ?_; refine Z56.pP 9 43 (Z56.b 23 989) (any_of HT_.out (by kernel_rfl)) ?_; refine Z56.pP 12 46 (Z56.b 23 5085) (any_of HT_.out (by kernel_rfl)) ?_; refine Z56.pP 13 47 (Z56.b 23 13277) (any_of HT_.out (by kernel_rfl)) ?_; refine Z56.pP 14 48 (Z56.b 23 29661) (any_of HT_.out (by kernel_rfl)) ?_; refine Z56.pP 15 49 (Z56.b 23 62429) (any_of HT_.out (by kernel_rfl)) ?_; refine Z56.pP 16 50 (Z56.b 23 127965) (any_of HT_.out (by kernel_rfl)) ?_; refine Z56.pT8 1 35 (Z56.b 23 127967) (take_ofW HT_.out HW_.out (by kernel_rfl)) hHeld ?_; refine Z56.pT8 5 39 (Z56.b 23 127999) (take_ofW HT_.out HW_.out (by kernel_rfl)) hHeld ?_; refine Z56.pT8 10 44 (Z56.b 23 129023) (take_ofW HT_.out HW_.out (by kernel_rfl)) hHeld ?_; refine Z56.pP 11 45 (Z56.b 23 131071) (any_of HT_.out (by kernel_rfl)) ?_; refine Z56.pT8 17 51 (Z56.b 23 262143) (take_ofW HT_.out HW_.out (by kernel_rfl)) hHeld ?_; refine Z56.pP 18 52 (Z56.b 23 524287) (any_of HT_.out (by kernel_rfl)) ?_; refine Z56.pP 19 53 (Z56.b 23 1048575) (any_of HT_.out (by kernel_rfl)) ?_; refine one_ (i := 20) (N := some 54) (Z56.b 23 2097151) rfl rfl (one_of HT_.out (by kernel_rfl)) (by decide) (fun K hK => ?_); refine Kd.R_append_rows_step (Kd.int .i64) (w0 := w) w.heap.size (by rfl) (.tmp 35) (.tmp 53) 22 2 (.int .i64 0) 8 rfl Try.underlying22 info2 rfl (by decide) (by omega) u108003 x108003_1 ((l0_3.take ((wrap64 ((wrap64 (x6_1 + 1)) * a0_2)) : Int).toNat).drop ((ji18) : Int).toNat) _ _ _ (fun _ => True) (fun _ => False) rfl rfl ?aO ?aR (fun _ _ h => h) (fun _ h => h.elim) ?aF ?aB ?aS ?aL ?_
            (case aR => first | (rw [← show ((l0_3.take ((wrap64 ((wrap64 (x6_1 + 1)) * a0_2)) : Int).toNat).drop ((ji18) : Int).toNat).length = ((wrap64 ((wrap64 (x6_1 + 1)) * a0_2)).toNat - (ji18).toNat) from (by rw [List.length_drop, List.length_take]; have h_ : ((wrap64 ((wrap64 (x6_1 + 1)) * a0_2)) : Int) ≤ (l0_3.length : Int) := of_decide_eq_true Z56.z9; omega)]; repeat (first | exact (Kd.C_below HR108.out HB.out) | (with_reducible refine Kd.C_alloc ?_ _) | (with_reducible refine Kd.C_drewN ?_ _) | (with_reducible refine Kd.C_drew ?_))) | (repeat (first | exact (Kd.C_below HR108.out HB.out) | (with_reducible refine Kd.C_alloc ?_ _) | (with_reducible refine Kd.C_drewN ?_ _) | (with_reducible refine Kd.C_drew ?_))))
            (case aB => exact Z56.z1)
            (case aF => exact (fun _ _ => trivial))
            (case aO => exact (by (with_reducible repeat (first | apply Kd.R_alloc | apply Kd.R_drewN | apply Kd.R_drew)); exact HO_108003.out))
            (case aS => exact (below_size Z56.z1))
            (case aL => have := LMc22.out; have hlx_ := (show ((l0_3.take ((wrap64 ((wrap64 (x6_1 + 1)) * a0_2)) : Int).toNat).drop ((ji18) : Int).toNat).length = ((wrap64 ((wrap64 (x6_1 + 1)) * a0_2)).toNat - (ji18).toNat) from (by rw [List.length_drop, List.length_take]; have h_ : ((wrap64 ((wrap64 (x6_1 + 1)) * a0_2)) : Int) ≤ (l0_3.length : Int) := of_decide_eq_true Z56.z9; omega)); omega)
            intro v110 w34 ho hb hg hat
            rw [← Ny109.out] at ho; have n0_ := Z56.k (blk_grown (g := g0_) (o := .cells #[.int .i64 a0_0, .int .i64 a0_1, .int .i64 a0_2, .slice A0_3 l0_3.length c0_3] 28 (0, 0)) Z56.z4 hg (Kd.R_ne HO_108003.out BK101.out (by decide))); have n1_ := Z56.k (blk_grown (g := g1_) (o := .cells #[.int .i64 a1_0, .int .i64 a1_1, .int .i64 a1_2, .slice A1_3 l1_3.length c1_3] 28 (0, 0)) Z56.z3 hg (Kd.R_ne HO_108003.out BK102.out (by decide))); have n2_ := Z56.k (blk_grown (g := gb103) (o := .cells #[.int .i64 0, .int .i64 0, .int .i64 0, .slice none 0 0] 28 (0, 0)) Z56.z5 hg (Kd.R_ne HO_108003.out BK103.out (by decide))); have n3_ := Z56.k (blk_grown (g := gb107) (o := .cells #[.int .i64 a0_0, .int .i64 a0_1, .int .i64 (wrap64 (a0_2 + a1_2)), u108003] 28 (0, 0)) Z56.z7 hg (Kd.R_ne HO_108003.out BK107.out (by decide))); have n4_ := Z56.k (hb); have n5_ := Z56.k (ho); clear BK101 BK102 BK103 BK107 HB HO_108003; have BK101 := n0_; have BK102 := n1_; have BK103 := n2_; have BK107 := n3_; have HB := n4_; have HO111 := n5_; clear n0_ n1_ n2_ n3_ n4_ n5_ ho hb hg hat; obtain ⟨Ao35, co35, eo35⟩ := Kd.R_slice HO111.out
            (first | subst eo35 | (injection eo35 with f1_ f2_ f3_; have f4_ := f1_.symm; have f5_ := f3_.symm; clear f1_ f2_ f3_; subst f4_; subst f5_))
            refine hK.out _ _ Z56.z14 (fun hHeld => ?_); clear hK K; refine norm_ (a' := ?_) ?_ ?_
            rotate_left
            ·show Act.put _ (some 54) _ = _
             simp only [Act.put, List.setIfInBounds_toArray, List.set_cons_zero, List.set_cons_succ, i64_w, i32_w]
             rfl
            refine Z56.pP 21 55 (Z56.b 23 4194303) (any_of HT_.out (by kernel_rfl)) ?_; refine last_ (i := 22) (N := none) (Z56.b 23 8388607) rfl rfl (one_of HT_.out (by kernel_rfl)) (by decide) (fun K hK => ?_); have hs36 : w34.cell? ⟨gb107, 3, none⟩ = some (u108003) := (blk_cell BK107.out 3).trans rfl; have hfs36 := blk_frozen BK107.out 3; have hns36_0 := NB101_107.out; have hns36_1 := NB102_107.out; have hns36_2 := NB103_107.out; have hms36_0 := NB107_101.out; have hms36_1 := NB107_102.out; have hms36_2 := NB107_103.out; refine skip_ (w1 := ?_) (by rfl) rfl ?_ ?_
            rotate_left
            ·go_simp
             rfl
            refine hK.out _ _ ?_; clear hK K; refine done_ (done_of HT_.out (by kernel_rfl)) ?_
            try go_wp2
            have n0_ : Aside0 (Kd.R (Kd.int .i64) 2 (w34.setCell ⟨gb107, 3, none⟩ (.slice Ao35 y109.length co35)) w.heap.size (fun _ => True) (.slice Ao35 y109.length co35) y109) := ⟨(by (with_reducible repeat (first | apply Kd.R_alloc | apply Kd.R_drewN | apply Kd.R_drew)); exact Kd.R_mono (Kd.R_far (p := ⟨gb107, 3, none⟩) (Kd.R_types HO111.out BK107.out (by decide)) (fun _ hk => hk.2) (.slice Ao35 y109.length co35)) (fun _ hk => trivial))⟩; have n1_ : Aside0 ((w34.setCell ⟨gb107, 3, none⟩ (.slice Ao35 y109.length co35)).heap[g0_]? = some (.cells #[.int .i64 a0_0, .int .i64 a0_1, .int .i64 a0_2, .slice A0_3 l0_3.length c0_3] 28 (0, 0))) := ⟨Z56.z12⟩; have n2_ : Aside0 ((w34.setCell ⟨gb107, 3, none⟩ (.slice Ao35 y109.length co35)).heap[g1_]? = some (.cells #[.int .i64 a1_0, .int .i64 a1_1, .int .i64 a1_2, .slice A1_3 l1_3.length c1_3] 28 (0, 0))) := ⟨Z56.z11⟩; have n3_ : Aside0 ((w34.setCell ⟨gb107, 3, none⟩ (.slice Ao35 y109.length co35)).heap[gb103]? = some (.cells #[.int .i64 0, .int .i64 0, .int .i64 0, .slice none 0 0] 28 (0, 0))) := ⟨Z56.z10⟩; have n4_ : Aside0 ((w34.setCell ⟨gb107, 3, none⟩ (.slice Ao35 y109.length co35)).heap[gb107]? = some (.cells #[.int .i64 a0_0, .int .i64 a0_1, .int .i64 (wrap64 (a0_2 + a1_2)), .slice Ao35 y109.length co35] 28 (0, 0))) := ⟨(by (with_reducible repeat (first | refine blk_drewN ?_ _ | refine blk_drew ?_ | refine blk_alloc ?_ _)); refine blk_put (cs := #[.int .i64 a0_0, .int .i64 a0_1, .int .i64 (wrap64 (a0_2 + a1_2)), u108003]) ?_ 3 _ rfl; (with_reducible repeat (first | refine blk_drewN ?_ _ | refine blk_drew ?_ | refine blk_alloc ?_ _)); exact BK107.out)⟩; have n5_ : Aside0 (Below w.heap.size w (w34.setCell ⟨gb107, 3, none⟩ (.slice Ao35 y109.length co35))) := ⟨Z56.z1⟩; (try clear HO111); (try clear BK101); (try clear BK102); (try clear BK103); (try clear BK107); (try clear HB); generalize (w34.setCell ⟨gb107, 3, none⟩ (.slice Ao35 y109.length co35)) = w37 at n0_ n1_ n2_ n3_ n4_ n5_ ⊢
            have HO111 := n0_; have BK101 := n1_; have BK102 := n2_; have BK103 := n3_; have BK107 := n4_; have HB := n5_; clear n0_ n1_ n2_ n3_ n4_ n5_; replace HO111 := Z56.k (Kd.R_drew HO111.out); replace BK101 := Z56.k (blk_drew BK101.out); replace BK102 := Z56.k (blk_drew BK102.out); replace BK103 := Z56.k (blk_drew BK103.out); replace BK107 := Z56.k (blk_drew BK107.out); replace HB := Z56.k (below_drew1 HB.out); obtain ⟨i039, hi039, _, hsz39, _⟩ := info_parts info2; obtain ⟨A39, hcut39, hA39, hC39⟩ := print_mid_of (P := Try.prog) (Value.int .i64) 0 22 2 .i64 .i64 Try.underlying22 hi039 hsz39 A1_3 c1_3 l1_3 (ji23) (wrap64 ((wrap64 (x6_1 + 1)) * a1_2)) (of_decide_eq_true Z56.z9) (by first | omega | exact of_decide_eq_true Z56.z9) (of_decide_eq_true Z56.z9) HC1_3.out; have HR112 := Z56.k (Kd.C_of_reads (h1 := fun _ => rfl) (hA39 _ (Kd.reads_of_C HR1_3.out))); have HC112 := Z56.k hC39; clear hA39 hC39 hi039 hsz39; refine start_ (n := 23) (S := fun w' => w'.cell? ⟨gb107, 0, none⟩ = some (.int .i64 a0_0) ∧ w'.cell? ⟨gb107, 1, none⟩ = some (.int .i64 a0_1) ∧ w'.cell? ⟨gb107, 2, none⟩ = some (.int .i64 (wrap64 (a0_2 + a1_2))) ∧ w'.cell? ⟨gb107, 3, none⟩ = some (.slice Ao35 y109.length co35) ∧ w'.cell? ⟨g1_, 0, none⟩ = some (.int .i64 a1_0) ∧ w'.cell? ⟨g1_, 1, none⟩ = some (.int .i64 a1_1) ∧ w'.cell? ⟨g1_, 2, none⟩ = some (.int .i64 a1_2) ∧ w'.cell? ⟨g1_, 3, none⟩ = some (.slice A1_3 l1_3.length c1_3)) (ds := [22]) #[false, false, false, false, false, false, false, false, false, false, false, false, false, false, false, false, false, false, false, false, false, false, false] (by kernel_rfl) rfl rfl Z56.z13 (fun hHeld => ?_); refine with_tabW spec_l03Join.tab6 spec_l03Join.bits6 (fun HT_ HW_ => ?_); generalize w37.drew = w38 at HO111 BK101 BK102 BK103 BK107 HB HR112 hHeld ⊢
            refine Z56.pP 0 56 (Z56.b 23 1) (any_of HT_.out (by kernel_rfl)) ?_; refine Z56.pP 2 58 (Z56.b 23 5) (any_of HT_.out (by kernel_rfl)) ?_; refine Z56.pP 3 59 (Z56.b 23 13) (any_of HT_.out (by kernel_rfl)) ?_; refine Z56.pP 4 60 (Z56.b 23 29) (any_of HT_.out (by kernel_rfl)) ?_; refine Z56.pP 6 62 (Z56.b 23 93) (any_of HT_.out (by kernel_rfl)) ?_; refine Z56.pP 7 63 (Z56.b 23 221) (any_of HT_.out (by kernel_rfl)) ?_; refine Z56.pP 8 64 (Z56.b 23 477) (any_of HT_.out (by kernel_rfl)) ?_; refine Z56.pP 9 65 (Z56.b 23 989) (any_of HT_.out (by kernel_rfl)) ?_; refine Z56.pP 12 68 (Z56.b 23 5085) (any_of HT_.out (by kernel_rfl)) ?_; refine Z56.pP 13 69 (Z56.b 23 13277) (any_of HT_.out (by kernel_rfl)) ?_; refine Z56.pP 14 70 (Z56.b 23 29661) (any_of HT_.out (by kernel_rfl)) ?_; refine Z56.pP 15 71 (Z56.b 23 62429) (any_of HT_.out (by kernel_rfl)) ?_; refine Z56.pP 16 72 (Z56.b 23 127965) (any_of HT_.out (by kernel_rfl)) ?_; refine Z56.pT8 1 57 (Z56.b 23 127967) (take_ofW HT_.out HW_.out (by kernel_rfl)) hHeld ?_; refine Z56.pT8 5 61 (Z56.b 23 127999) (take_ofW HT_.out HW_.out (by kernel_rfl)) hHeld ?_; refine Z56.pT8 10 66 (Z56.b 23 129023) (take_ofW HT_.out HW_.out (by kernel_rfl)) hHeld ?_; refine Z56.pP 11 67 (Z56.b 23 131071) (any_of HT_.out (by kernel_rfl)) ?_; refine Z56.pT8 17 73 (Z56.b 23 262143) (take_ofW HT_.out HW_.out (by kernel_rfl)) hHeld ?_; refine Z56.pP 18 74 (Z56.b 23 524287) (any_of HT_.out (by kernel_rfl)) ?_; refine Z56.pP 19 75 (Z56.b 23 1048575) (any_of HT_.out (by kernel_rfl)) ?_; refine one_ (i := 20) (N := some 76) (Z56.b 23 2097151) rfl rfl (one_of HT_.out (by kernel_rfl)) (by decide) (fun K hK => ?_); refine Kd.R_append_rows_step (Kd.int .i64) (w0 := w) w.heap.size (by rfl) (.tmp 57) (.tmp 75) 22 2 (.int .i64 0) 8 rfl Try.underlying22 info2 rfl (by decide) (by omega) (.slice Ao35 y109.length co35) y109 ((l1_3.take ((wrap64 ((wrap64 (x6_1 + 1)) * a1_2)) : Int).toNat).drop ((ji23) : Int).toNat) _ _ _ (fun _ => True) (fun _ => False) rfl rfl ?aO ?aR (fun _ _ h => h) (fun _ h => h.elim) ?aF ?aB ?aS ?aL ?_
            (case aR => first | (rw [← show ((l1_3.take ((wrap64 ((wrap64 (x6_1 + 1)) * a1_2)) : Int).toNat).drop ((ji23) : Int).toNat).length = ((wrap64 ((wrap64 (x6_1 + 1)) * a1_2)).toNat - (ji23).toNat) from (by rw [List.length_drop, List.length_take]; have h_ : ((wrap64 ((wrap64 (x6_1 + 1)) * a1_2)) : Int) ≤ (l1_3.length : Int) := of_decide_eq_true Z56.z9; omega)]; repeat (first | exact (Kd.C_below HR112.out HB.out) | (with_reducible refine Kd.C_alloc ?_ _) | (with_reducible refine Kd.C_drewN ?_ _) | (with_reducible refine Kd.C_drew ?_))) | (repeat (first | exact (Kd.C_below HR112.out HB.out) | (with_reducible refine Kd.C_alloc ?_ _) | (with_reducible refine Kd.C_drewN ?_ _) | (with_reducible refine Kd.C_drew ?_))))
            (case aB => exact Z56.z1)
            (case aF => exact (fun _ _ => trivial))
            (case aO => exact (by (with_reducible repeat (first | apply Kd.R_alloc | apply Kd.R_drewN | apply Kd.R_drew)); exact HO111.out))
            (case aS => exact (below_size Z56.z1))
            (case aL => have := LMc27.out; have hlx_ := (show ((l1_3.take ((wrap64 ((wrap64 (x6_1 + 1)) * a1_2)) : Int).toNat).drop ((ji23) : Int).toNat).length = ((wrap64 ((wrap64 (x6_1 + 1)) * a1_2)).toNat - (ji23).toNat) from (by rw [List.length_drop, List.length_take]; have h_ : ((wrap64 ((wrap64 (x6_1 + 1)) * a1_2)) : Int) ≤ (l1_3.length : Int) := of_decide_eq_true Z56.z9; omega)); omega)
            intro v114 w40 ho hb hg hat
            rw [← Ny113.out] at ho; have n0_ := Z56.k (blk_grown (g := g0_) (o := .cells #[.int .i64 a0_0, .int .i64 a0_1, .int .i64 a0_2, .slice A0_3 l0_3.length c0_3] 28 (0, 0)) Z56.z4 hg (Kd.R_ne HO111.out BK101.out (by decide))); have n1_ := Z56.k (blk_grown (g := g1_) (o := .cells #[.int .i64 a1_0, .int .i64 a1_1, .int .i64 a1_2, .slice A1_3 l1_3.length c1_3] 28 (0, 0)) Z56.z3 hg (Kd.R_ne HO111.out BK102.out (by decide))); have n2_ := Z56.k (blk_grown (g := gb103) (o := .cells #[.int .i64 0, .int .i64 0, .int .i64 0, .slice none 0 0] 28 (0, 0)) Z56.z5 hg (Kd.R_ne HO111.out BK103.out (by decide))); have n3_ := Z56.k (blk_grown (g := gb107) (o := .cells #[.int .i64 a0_0, .int .i64 a0_1, .int .i64 (wrap64 (a0_2 + a1_2)), .slice Ao35 y109.length co35] 28 (0, 0)) Z56.z7 hg (Kd.R_ne HO111.out BK107.out (by decide))); have n4_ := Z56.k (hb); have n5_ := Z56.k (ho); clear BK101 BK102 BK103 BK107 HB HO111; have BK101 := n0_; have BK102 := n1_; have BK103 := n2_; have BK107 := n3_; have HB := n4_; have HO115 := n5_; clear n0_ n1_ n2_ n3_ n4_ n5_ ho hb hg hat; obtain ⟨Ao41, co41, eo41⟩ := Kd.R_slice HO115.out
            (first | subst eo41 | (injection eo41 with f1_ f2_ f3_; have f4_ := f1_.symm; have f5_ := f3_.symm; clear f1_ f2_ f3_; subst f4_; subst f5_))
            refine hK.out _ _ Z56.z13 (fun hHeld => ?_); clear hK K; refine norm_ (a' := ?_) ?_ ?_
            rotate_left
            ·show Act.put _ (some 76) _ = _
             simp only [Act.put, List.setIfInBounds_toArray, List.set_cons_zero, List.set_cons_succ, i64_w, i32_w]
             rfl
            refine Z56.pP 21 77 (Z56.b 23 4194303) (any_of HT_.out (by kernel_rfl)) ?_; refine last_ (i := 22) (N := none) (Z56.b 23 8388607) rfl rfl (one_of HT_.out (by kernel_rfl)) (by decide) (fun K hK => ?_); have hs42 : w40.cell? ⟨gb107, 3, none⟩ = some (.slice Ao35 y109.length co35) := (blk_cell BK107.out 3).trans rfl; have hfs42 := blk_frozen BK107.out 3; have hns42_0 := NB101_107.out; have hns42_1 := NB102_107.out; have hns42_2 := NB103_107.out; have hms42_0 := NB107_101.out; have hms42_1 := NB107_102.out; have hms42_2 := NB107_103.out; refine skip_ (w1 := ?_) (by rfl) rfl ?_ ?_
            rotate_left
            ·go_simp
             rfl
            refine hK.out _ _ ?_; clear hK K; refine done_ (done_of HT_.out (by kernel_rfl)) ?_
            try go_wp2
            go_roundg k1
            case measure => have := HK1.out; omega
            case rel => exact ⟨(wrap64 (x6_1 + 1)), (y113), (.slice Ao41 y113.length co41), (by first | rfl | (simp; done) | (simp [*]; done)), H', ⟨(by have := HK1.out; omega)⟩, ⟨(by (with_reducible repeat (first | apply Kd.R_alloc | apply Kd.R_drewN | apply Kd.R_drew)); exact Kd.R_mono (Kd.R_far (p := ⟨gb107, 3, none⟩) (Kd.R_types HO115.out BK107.out (by decide)) (fun _ hk => hk.2) (.slice Ao41 y113.length co41)) (fun _ hk => trivial))⟩, ⟨Z56.z12⟩, ⟨Z56.z11⟩, ⟨Z56.z10⟩, ⟨(by (with_reducible repeat (first | refine blk_drewN ?_ _ | refine blk_drew ?_ | refine blk_alloc ?_ _)); refine blk_put (cs := #[.int .i64 a0_0, .int .i64 a0_1, .int .i64 (wrap64 (a0_2 + a1_2)), .slice Ao35 y109.length co35]) ?_ 3 _ rfl; (with_reducible repeat (first | refine blk_drewN ?_ _ | refine blk_drew ?_ | refine blk_alloc ?_ _)); exact BK107.out)⟩, ⟨Z56.z1⟩⟩
           rw [if_neg c27] at H; exact absurd H (by simp)
          rw [if_neg c26] at H; exact absurd H (by simp)
         rw [if_neg c25] at H; exact absurd H (by simp)
        rw [if_neg c24] at H; exact absurd H (by simp)
       rw [if_neg c22] at H; exact absurd H (by simp)
      rw [if_neg c21] at H; exact absurd H (by simp)
     rw [if_neg c20] at H
     exact absurd H (by simp)
    rw [if_neg c19] at H
    exact absurd H (by simp)
   rw [if_neg c17] at H
   have c17b0 : decide (x6_1 < a0_1) = false := decide_eq_false c17
   clear c17
   simp only [Option.some.injEq, Prod.mk.injEq] at H
   obtain ⟨rfl, rfl, rfl, rfl⟩ := H
   have hnb44 := NB101_103.out
   have hnc44 := NB103_101.out
   have hnb45 := NB101_107.out
   have hnc45 := NB107_101.out
   obtain ⟨hcz46_0, hcz46_1, hcz46_2, hcz46_3, hfz46_0, hfz46_1, hfz46_2, hfz46_3⟩ := cells4 BK101.out
   have hnb47 := NB107_102.out
   have hnc47 := NB102_107.out
   have hnb48 := NB107_103.out
   have hnc48 := NB103_107.out
   obtain ⟨hcz49_0, hcz49_1, hcz49_2, hcz49_3, hfz49_0, hfz49_1, hfz49_2, hfz49_3⟩ := cells4 BK107.out
   have hnb50 := NB103_102.out
   have hnc50 := NB102_103.out
   obtain ⟨hcz51_0, hcz51_1, hcz51_2, hcz51_3, hfz51_0, hfz51_1, hfz51_2, hfz51_3⟩ := cells4 BK103.out
   obtain ⟨Ao52, co52, eo52⟩ := Kd.R_slice HO_108003.out
   subst eo52
   go_wp2
   refine bodyPost_ret (results_cell_row rfl _ _ gb103 28 #[.int .i64 a0_0, .int .i64 a0_1, .int .i64 (wrap64 (a0_2 + a1_2)), .slice Ao52 x108003_1.length co52] (0, 0) _ rfl (by (with_reducible repeat (first | refine blk_drewN ?_ _ | refine blk_drew ?_ | refine blk_alloc ?_ _)); refine blk_put (cs := #[.int .i64 a0_0, .int .i64 a0_1, .int .i64 (wrap64 (a0_2 + a1_2)), .slice none 0 0]) ?_ 3 _ rfl; (with_reducible repeat (first | refine blk_drewN ?_ _ | refine blk_drew ?_ | refine blk_alloc ?_ _)); refine blk_put (cs := #[.int .i64 a0_0, .int .i64 a0_1, .int .i64 0, .slice none 0 0]) ?_ 2 _ rfl; (with_reducible repeat (first | refine blk_drewN ?_ _ | refine blk_drew ?_ | refine blk_alloc ?_ _)); refine blk_put (cs := #[.int .i64 a0_0, .int .i64 0, .int .i64 0, .slice none 0 0]) ?_ 1 _ rfl; (with_reducible repeat (first | refine blk_drewN ?_ _ | refine blk_drew ?_ | refine blk_alloc ?_ _)); refine blk_put (cs := #[.int .i64 0, .int .i64 0, .int .i64 0, .slice none 0 0]) ?_ 0 _ rfl; (with_reducible repeat (first | refine blk_drewN ?_ _ | refine blk_drew ?_ | refine blk_alloc ?_ _)); exact BK103.out) Try.underlying28 rfl (by kernel_rfl)) rfl ?_
   exact ⟨_, (by first | rfl | (simp [errW_none, errW_some] <;> rfl) | (simp [*, errW_none, errW_some] <;> rfl)), (by (with_reducible repeat (first | apply Kd.R_alloc | apply Kd.R_drewN | apply Kd.R_drew)); exact Kd.R_mono (Kd.R_far (p := ⟨gb103, 3, none⟩) (Kd.R_far (p := ⟨gb103, 2, none⟩) (Kd.R_far (p := ⟨gb103, 1, none⟩) (Kd.R_far (p := ⟨gb103, 0, none⟩) (Kd.R_types HO_108003.out BK103.out (by decide)) (fun _ hk => hk.2) (.int .i64 a0_0)) (fun _ hk => hk.2) (.int .i64 a0_1)) (fun _ hk => hk.2) (.int .i64 (wrap64 (a0_2 + a1_2)))) (fun _ hk => hk.2) (.slice Ao52 x108003_1.length co52)) (fun _ hk => trivial)), Z56.z1⟩
/-! ### spec_l03Inverse: function 86 -/
def spec_l03Inverse.l0 : Nat → Int → Int → Int → Int → Option (Int)
  | 0, _, _, _, _ => none
  | k + 1, x0, x1, x5, x6 => if x6 > 0 then (if x1 = 0 then (none) else (spec_l03Inverse.l0 k x0 x1 (Int.tmod (wrap64 (x5 * x0)) x1) (wrap64 (x6 - 1)))) else (some x5)
def spec_l03Inverse.f (k : Nat) (a0 : Int) (a1 : Int) : Option (Int) := spec_l03Inverse.l0 k a0 a1 1 (wrap64 (a1 - 2))
theorem Z86.z0 {P : Prop} (h : P := by first | rfl | (simp; done) | (simp [*]; done)) : P := h
set_option maxHeartbeats 8000000 in
set_option maxRecDepth 100000 in
theorem spec_l03Inverse.calls (k : Nat) (a0 : Int) (a1 : Int) (r : Int) (w : World) (h : spec_l03Inverse.f k a0 a1 = some r) :
  Calls Try.prog 86 #[.int .i64 a0, .int .i64 a1] w fun e w' => e = .returned (.int .i64 r) ∧ Drawn0 w w' := by
 have H : (spec_l03Inverse.l0 k a0 a1 1 (wrap64 (a1 - 2))) = some r := h
 clear h
 have H' := Aside0.mk H
 clear H
 go_enter Try.func86, Try.ntmps86
 go_wp2
 go_loopg [5, 6] k (fun kq v5 v6 w' => ∃ (x5_1 : Int) (x6_1 : Int), v5 = .int .i64 x5_1 ∧ v6 = .int .i64 x6_1 ∧ Aside0 (spec_l03Inverse.l0 kq a0 a1 x5_1 x6_1 = some r) ∧ Aside0 (kq ≤ k) ∧ Drawn0 w w')
 case atStart => exact ⟨(1), (wrap64 (a1 - 2)), Z86.z0, Z86.z0, H', ⟨Nat.le_refl _⟩, (by repeat (first | exact Drawn0.refl _ | apply Drawn0.step))⟩
 case round =>
  clear H'
  try clear p2
  obtain ⟨x5_1, x6_1, rfl, rfl, HA, HK1, ⟨m1, rfl⟩⟩ := hrel
  cases gk with
  | zero => exact absurd HA.out (by simp [spec_l03Inverse.l0])
  | succ k1 =>
   have H := HA.out
   clear HA
   simp only [spec_l03Inverse.l0] at H
   by_cases c3 : x6_1 > 0
   ·rw [if_pos c3] at H
    have c3b0 : decide (0 < x6_1) = true := decide_eq_true c3
    clear c3
    by_cases c4 : a1 = 0
    ·rw [if_pos c4] at H
     exact absurd H (by simp)
    rw [if_neg c4] at H
    have c4b0 : (a1 == 0) = false := beq_eq_false_iff_ne.mpr c4
    have c4b1 : (a1 != 0) = true := bne_iff_ne.mpr c4
    have H' := Aside0.mk H
    clear H
    go_wp2
    go_roundg k1
    case measure => have := HK1.out; omega
    case rel => exact ⟨(Int.tmod (wrap64 (x5_1 * a0)) a1), (wrap64 (x6_1 - 1)), Z86.z0, Z86.z0, H', ⟨(by have := HK1.out; omega)⟩, (by repeat (first | exact Drawn0.refl _ | apply Drawn0.step))⟩
   rw [if_neg c3] at H
   have c3b0 : decide (0 < x6_1) = false := decide_eq_false c3
   clear c3
   obtain rfl := Option.some.inj H
   go_wp2
   go_ret
   exact ⟨Z86.z0, (by repeat (first | exact Drawn0.refl _ | apply Drawn0.step))⟩
end Go.Proofs.Ytmbbjmkcbpefhaa.F
end
