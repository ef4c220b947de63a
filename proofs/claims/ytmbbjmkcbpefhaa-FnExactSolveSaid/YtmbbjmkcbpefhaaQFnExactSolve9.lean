-- Texts of this claim, merged by packw.py (a program of this session's).
import Derived.Test.YtmbbjmkcbpefhaaQFnExactSolve2
import Derived.Test.YtmbbjmkcbpefhaaQFnExactSolve1
import Derived.Test.YtmbbjmkcbpefhaaQFnExactSolve5
import Derived.Test.YtmbbjmkcbpefhaaQFnExactSolve6
import Derived.Test.YtmbbjmkcbpefhaaQFnExactSolve8

section
namespace Go.Proofs.Ytmbbjmkcbpefhaa.F
open Go.RowKit Go.Proofs.YtmbbjmkcbpefhaaW.PrintWords Go.Proofs.YtmbbjmkcbpefhaaW.PrintLast Go.Proofs.YtmbbjmkcbpefhaaW.PrintMore
attribute [local go_sem] max2_int min2_int max_two min_two max_three min_three max_four min_four   -- for this text's walks alone
set_option linter.unusedVariables false
set_option linter.unusedSimpArgs false
/-! ### laws_markInt64S: function 15 -/
def laws_markInt64S.l0 : Nat → List Int → Int → Int → Option (Int × List Int)
  | 0, _, _, _ => none
  | k + 1, x0, x1, x5 => if x5 < (x0.length : Int) then (if 0 ≤ x5 then (laws_markInt64S.l0 k (x0.set (x5 : Int).toNat x1) (wrap64 (x1 + 1)) (wrap64 (x5 + 1))) else (none)) else (some (x1, x0))
def laws_markInt64S.f (k : Nat) (l0 : List Int) (a1 : Int) : Option (Int × List Int) := laws_markInt64S.l0 k l0 a1 0
theorem Z15.z1 {P : Prop} (h : P := by repeat (first | (with_reducible first | exact HB.out | apply below_alloc | apply pw_below_drewN | apply below_drew1) | exact HB.out)) : P := h
theorem Z15.z0 {P : Prop} (h : P := by repeat (first | (with_reducible first | exact HK.out | apply Kept.alloc | apply Kept.drewN | apply Kept.drew) | exact HK.out)) : P := h
set_option maxHeartbeats 8000000 in
set_option maxRecDepth 100000 in
theorem laws_markInt64S.calls (k : Nat) (P0_ : Nat → Prop) (u9000_ : Value) (l0 : List Int) (a1 : Int) (r1 : Int) (r2 : List Int) (w0 w : World) (hB : Below w0.heap.size w0 w) (ho0 : Kd.R (Kd.int .i64) 2 w w0.heap.size P0_ u9000_ l0) (h : laws_markInt64S.f k l0 a1 = some (r1, r2)) :
  Calls Try.prog 15 #[u9000_, .int .i64 a1] w fun e w' => e = .returned (.int .i64 r1) ∧ Kd.R (Kd.int .i64) 2 w' w0.heap.size (fun k_ => (P0_ k_ ∨ w.heap.size ≤ k_)) u9000_ r2 ∧ Below w0.heap.size w0 w' ∧ Kept w w' (fun k_ => P0_ k_) := by
 have HO0 := Aside0.mk (show Kd.R (Kd.int .i64) 2 w w0.heap.size (fun k_ => (P0_ k_ ∨ w.heap.size ≤ k_)) u9000_ l0 from Kd.R_mono ho0 (fun k_ hk => (.inl hk)))
 have HK := Aside0.mk (Kept.refl w (fun k_ => P0_ k_))
 have HW0 := Aside0.mk hB.size
 have HB := Aside0.mk hB
 clear hB
 have H : (laws_markInt64S.l0 k l0 a1 0) = some (r1, r2) := h
 clear h
 have H' := Aside0.mk H
 clear H
 go_enter Try.func15, Try.ntmps15
 go_wp2
 go_loopg [1, 5] k (fun kq v1 v5 w' => ∃ (x0_1 : List Int) (x1_1 : Int) (x5_1 : Int), v1 = .int .i64 x1_1 ∧ v5 = .int .i64 x5_1 ∧ Aside0 (laws_markInt64S.l0 kq x0_1 x1_1 x5_1 = some (r1, r2)) ∧ Aside0 (kq ≤ k) ∧ Aside0 (Kd.R (Kd.int .i64) 2 w' w0.heap.size (fun k_ => (P0_ k_ ∨ w.heap.size ≤ k_)) u9000_ x0_1) ∧ Aside0 (Kept w w' (fun k_ => P0_ k_)) ∧ Aside0 (Below w0.heap.size w0 w'))
 case atStart => exact ⟨(l0), (a1), (0), (by first | rfl | (simp; done) | (simp [*]; done)), (by first | rfl | (simp; done) | (simp [*]; done)), H', ⟨Nat.le_refl _⟩, ⟨(by (with_reducible repeat (first | apply Kd.R_alloc | apply Kd.R_drewN | apply Kd.R_drew)); exact HO0.out)⟩, ⟨Z15.z0⟩, ⟨Z15.z1⟩⟩
 case round =>
  clear H'
  try clear c1
  try clear p2
  obtain ⟨x0_1, x1_1, x5_1, rfl, rfl, HA, HK1, HO_0, HK, HB⟩ := hrel
  cases gk with
  | zero => exact absurd HA.out (by simp [laws_markInt64S.l0])
  | succ k1 =>
   have H := HA.out
   clear HA
   simp only [laws_markInt64S.l0] at H
   by_cases c3 : x5_1 < (x0_1.length : Int)
   ·rw [if_pos c3] at H
    have c3b0 : decide (x5_1 < (x0_1.length : Int)) = true := decide_eq_true c3
    clear c3
    by_cases c4 : 0 ≤ x5_1
    ·rw [if_pos c4] at H
     have c4b0 : decide (0 ≤ x5_1) = true := decide_eq_true c4
     clear c4
     obtain ⟨y101, hy101⟩ : ∃ y_ : List Int, y_ = (x0_1.set (x5_1 : Int).toNat x1_1) := ⟨_, rfl⟩
     replace H : (laws_markInt64S.l0 k1 y101 (wrap64 (x1_1 + 1)) (wrap64 (x5_1 + 1))) = some (r1, r2) := by first | (rw [hy101]; with_reducible exact H) | (have H2_ := (Option.bind_some _ _).symm.trans H; rw [hy101]; with_reducible exact H2_) | (have H2_ := (Option.bind_some _ _).symm.trans H; with_reducible exact H2_) | with_reducible exact H | (rw [hy101]; exact H) | exact H
     have Ny101 := Aside0.mk hy101
     clear hy101
     have H' := Aside0.mk H
     clear H
     obtain ⟨Ao6, co6, eo6⟩ := Kd.R_slice HO_0.out
     subst eo6
     have p5 : 0 ≤ (x5_1 : Int) := of_decide_eq_true (by first | (with_reducible assumption) | assumption)
     have q5 : (x5_1 : Int) < ((x0_1.length : Int) : Int) := of_decide_eq_true (by first | (with_reducible assumption) | assumption)
     obtain ⟨go5, co5, eo5, gb5, gl5, cl5, HG5⟩ := Kd.R_form HO_0.out (by omega)
     (first | cases eo5 | (injection eo5 with ea_ en_ ec_; (first | subst ea_ | (injection ea_ with ea_; subst ea_)); subst ec_; clear en_))
     have GB5 := Aside0.mk gb5
     have GG5 := Aside0.mk HG5
     clear gb5 gl5 HG5
     have HMgo5 := Aside0.mk (show (P0_ go5 ∨ w.heap.size ≤ go5) from (HO_0.out.1 _ rfl))
     obtain ⟨hx5_0, hf5_0⟩ := Kd.R_celln 0 HO_0.out (x5_1 : Int) p5 q5
     replace p5 := eq_true p5
     replace q5 := eq_true q5
     have HP7 := Kd.R_putg HO_0.out (x5_1 : Int) x1_1
     go_wp2_with (first | ((with_reducible refine gate_store (t := 2) (p := 15) rfl ?_); refine store_event (t := 2) (p := 15) (v := ?vo_w8) (w1 := (wr.setCell ⟨go5, (x5_1 : Int).toNat, none⟩ (.int .i64 x1_1))) ?hg ?ho ?hn ?hr ?_; (case ho => rfl); (case hg => rfl); (case hn => rfl); (case hr => first | (go_simp; done) | (go_simp; rfl)); intro w8 hw; have hg : wr.grownBy w8 (some go5) := (by rw [hw]; exact HP7.2); have hp_ : Kd.R (Kd.int .i64) 2 w8 w0.heap.size (fun k_ => (P0_ k_ ∨ w.heap.size ≤ k_)) (.slice (some ⟨go5, 0, none⟩) x0_1.length co6) y101 := (by rw [hw, Ny101.out]; exact HP7.1); clear HP7; replace HB := Aside0.mk ((by rw [hw]; exact below_set (HB.out) GB5.out : Below w0.heap.size w0 w8)); replace HK := Aside0.mk (Kept.of_grown (S := (fun k_ => P0_ k_)) hg Z15.z0 (fun k_ e_ => (HO_0.out.1 k_ e_))); replace HO_0 := Aside0.mk (hp_); clear hg hw hp_))
     go_roundg k1
     case measure => have := HK1.out; omega
     case rel => exact ⟨(y101), (wrap64 (x1_1 + 1)), (wrap64 (x5_1 + 1)), (by first | rfl | (simp; done) | (simp [*]; done)), (by first | rfl | (simp; done) | (simp [*]; done)), H', ⟨(by have := HK1.out; omega)⟩, ⟨(by (with_reducible repeat (first | apply Kd.R_alloc | apply Kd.R_drewN | apply Kd.R_drew)); exact HO_0.out)⟩, ⟨Z15.z0⟩, ⟨Z15.z1⟩⟩
    rw [if_neg c4] at H
    exact absurd H (by simp)
   rw [if_neg c3] at H
   have c3b0 : decide (x5_1 < (x0_1.length : Int)) = false := decide_eq_false c3
   clear c3
   simp only [Option.some.injEq, Prod.mk.injEq] at H
   obtain ⟨rfl, rfl⟩ := H
   obtain ⟨Ao9, co9, eo9⟩ := Kd.R_slice HO_0.out
   subst eo9
   go_wp2
   go_ret
   exact ⟨(by first | rfl | (simp [errW_none, errW_some] <;> rfl) | (simp [*, errW_none, errW_some] <;> rfl)), (by (with_reducible repeat (first | apply Kd.R_alloc | apply Kd.R_drewN | apply Kd.R_drew)); exact HO_0.out), Z15.z1, Z15.z0⟩
/-! ### laws_markMatrix: function 14 -/
def laws_markMatrix.f (k : Nat) (a0_0 : Int) (a0_1 : Int) (a0_2 : Int) (l0_3 : List Int) (a1 : Int) : Option (Int × List Int) := (laws_markInt64S.f k l0_3 a1).bind fun bt102 => (some (bt102.1, bt102.2))
theorem Z14.z2 {P : Prop} (h : P := by repeat (first | (with_reducible first | exact HB.out | apply below_alloc | apply pw_below_drewN | apply below_drew1) | exact HB.out)) : P := h
theorem Z14.z1 {P : Prop} (h : P := by repeat (first | (with_reducible first | exact HB.out | apply below_alloc | apply pw_below_drewN | apply below_drew1 | refine below_set ?_ GE101.out) | exact HB.out)) : P := h
theorem Z14.z0 {P : Prop} (h : P := by repeat (first | (with_reducible first | exact HK.out | apply Kept.alloc | apply Kept.drewN | apply Kept.drew | refine Kept.setCell ?_ (.inr GW101.out) _) | exact HK.out)) : P := h
set_option maxHeartbeats 8000000 in
set_option maxRecDepth 100000 in
theorem laws_markMatrix.calls (k : Nat) (a0_0 : Int) (a0_1 : Int) (a0_2 : Int) (P0_3_ : Nat → Prop) (u9000_ : Value) (l0_3 : List Int) (a1 : Int) (r1 : Int) (r2 : List Int) (w0 w : World) (hB : Below w0.heap.size w0 w) (ho0_3 : Kd.R (Kd.int .i64) 2 w w0.heap.size P0_3_ u9000_ l0_3) (h : laws_markMatrix.f k a0_0 a0_1 a0_2 l0_3 a1 = some (r1, r2)) :
  Calls Try.prog 14 #[.agg #[.int .i64 a0_0, .int .i64 a0_1, .int .i64 a0_2, u9000_], .int .i64 a1] w fun e w' => e = .returned (.int .i64 r1) ∧ Kd.R (Kd.int .i64) 2 w' w0.heap.size (fun k_ => (P0_3_ k_ ∨ w.heap.size ≤ k_)) u9000_ r2 ∧ Below w0.heap.size w0 w' ∧ Kept w w' (fun k_ => P0_3_ k_) := by
 have hu28 := Try.underlying28
 have HO0_3 := Aside0.mk (show Kd.R (Kd.int .i64) 2 w w0.heap.size (fun k_ => (P0_3_ k_ ∨ w.heap.size ≤ k_)) u9000_ l0_3 from Kd.R_mono ho0_3 (fun k_ hk => (.inl hk)))
 have HK := Aside0.mk (Kept.refl w (fun k_ => P0_3_ k_))
 have HW0 := Aside0.mk hB.size
 have HB := Aside0.mk hB
 clear hB
 have H : ((laws_markInt64S.f k l0_3 a1).bind fun bt102 => (some (bt102.1, bt102.2))) = some (r1, r2) := h
 clear h
 replace H := Option.bind_eq_some_iff.mp H
 obtain ⟨⟨t102, t103⟩, A30, H⟩ := H
 replace H : (some (t102, t103)) = some (r1, r2) := H
 have A3 := Aside0.mk A30
 clear A30
 simp only [Option.some.injEq, Prod.mk.injEq] at H
 obtain ⟨rfl, rfl⟩ := H
 obtain ⟨Ao4, co4, eo4⟩ := Kd.R_slice HO0_3.out
 subst eo4
 go_enter Try.func14, Try.ntmps14
 go_wp2_with (first | ((with_reducible refine gate_dst (N := 2) rfl ?_); refine box_event ?hg (N := 2) ?hd (cs := #[.int .i64 a0_0, .int .i64 a0_1, .int .i64 a0_2, .slice Ao4 l0_3.length co4]) (t := 28) ?hr ?_; (case hd => rfl); (case hg => rfl); (case hr => first | (go_simp; done) | (go_simp; rfl)); intro gb101 hg w5 hbox hb; have BK101 := Aside0.mk (hbox); have GW101 := Aside0.mk (show w.heap.size ≤ gb101 from (by rw [hg]; exact (by first | exact HK.out.1 | exact (show Kept w _ (fun k_ => P0_3_ k_) from by repeat (first | (with_reducible first | exact HK.out | apply Kept.alloc | apply Kept.drewN | apply Kept.drew) | exact HK.out)).1))); have GE101 := Aside0.mk ((by rw [hg]; exact (below_size Z14.z2) : w0.heap.size ≤ gb101)); replace HO0_3 := Aside0.mk (Kd.R_below (by (with_reducible repeat (first | apply Kd.R_alloc | apply Kd.R_drewN | apply Kd.R_drew)); exact HO0_3.out) hb); replace HK := Aside0.mk (Kept.below (S := (fun k_ => P0_3_ k_)) (by repeat (first | (with_reducible first | exact HK.out | apply Kept.alloc | apply Kept.drewN | apply Kept.drew) | exact HK.out)) hb); replace HB := Aside0.mk (below_step Z14.z2 hb); clear hb hbox hg; obtain ⟨hcz6_0, hcz6_1, hcz6_2, hcz6_3, hfz6_0, hfz6_1, hfz6_2, hfz6_3⟩ := cells4 BK101.out) | ((with_reducible refine gate_callee (f := 15) rfl ?_); refine goesL_ (some 8) rfl rfl Try.func15 (by kernel_rfl) rfl #[.slice Ao4 l0_3.length co4, .int .i64 a1] rfl (by (try simp only [List.map_toArray, List.map_cons, List.map_nil]); first | done | rfl | (simp only [List.length_drop, List.length_take]; rfl)) ?_; (with_reducible refine (laws_markInt64S.calls k (fun k_ => some k_ = (.slice Ao4 l0_3.length co4 : Value).ownBlock) (.slice Ao4 l0_3.length co4) l0_3 a1 t102 t103 w0 _ ?side1 ?side2 A3.out).mono ?_); (case side1 => exact Z14.z1); (case side2 => exact Kd.R_tight rfl HO0_3.out); rintro e w7 ⟨rfl, hy0, hb, hkp⟩; refine ⟨_, rfl, ?_⟩; replace BK101 := Aside0.mk (blk_kept (by (with_reducible repeat (first | refine blk_drewN ?_ _ | refine blk_drew ?_ | refine blk_alloc ?_ _)); exact BK101.out) hkp (fun hs_ => (fun e_ => (Kd.R_ne HO0_3.out BK101.out (by decide)) e_) hs_)); replace HK := Aside0.mk (Kept.then_ (S := (fun k_ => P0_3_ k_)) Z14.z0 hkp (fun k_ hs_ => (fun e_ => (HO0_3.out.1 k_ e_.symm)) hs_)); replace HO0_3 := Aside0.mk (Kd.R_reok rfl hy0 (fun k_ e_ => HO0_3.out.1 k_ e_)); replace HB := Aside0.mk (hb); (try clear hb); (try clear hkp); (try clear hy0)))
 go_ret
 exact ⟨(by first | rfl | (simp [errW_none, errW_some] <;> rfl) | (simp [*, errW_none, errW_some] <;> rfl)), (by (with_reducible repeat (first | apply Kd.R_alloc | apply Kd.R_drewN | apply Kd.R_drew)); exact HO0_3.out), Z14.z1, Z14.z0⟩
/-! ### laws_heldInt64S: function 16 -/
def laws_heldInt64S.l0 : Nat → List Int → Int → Int → Option (Int)
  | 0, _, _, _ => none
  | k + 1, x0, x1, x5 => if x5 < (x0.length : Int) then (if 0 ≤ x5 then (if (rd x0 x5) = x1 then (laws_heldInt64S.l0 k x0 (wrap64 (x1 + 1)) (wrap64 (x5 + 1))) else (some (-1))) else (none)) else (some x1)
def laws_heldInt64S.f (k : Nat) (l0 : List Int) (a1 : Int) : Option (Int) := laws_heldInt64S.l0 k l0 a1 0
theorem Z16.z1 {P : Prop} (h : P := by repeat (first | exact Drawn0.refl _ | apply Drawn0.step)) : P := h
theorem Z16.z0 {P : Prop} (h : P := by first | rfl | (simp; done) | (simp [*]; done)) : P := h
set_option maxHeartbeats 8000000 in
set_option maxRecDepth 100000 in
theorem laws_heldInt64S.calls (k : Nat) (A0 : Option Addr) (c0 : Nat) (l0 : List Int) (a1 : Int) (r : Int) (w : World) (hr0 : Kd.C (Kd.int .i64) w A0 l0.length l0) (hc0 : l0.length ≤ c0) (h : laws_heldInt64S.f k l0 a1 = some r) :
  Calls Try.prog 16 #[.slice A0 l0.length c0, .int .i64 a1] w fun e w' => e = .returned (.int .i64 r) ∧ Drawn0 w w' := by
 have HR0 := Aside0.mk hr0
 have HC0 := Aside0.mk hc0
 clear hr0 hc0
 have H : (laws_heldInt64S.l0 k l0 a1 0) = some r := h
 clear h
 have H' := Aside0.mk H
 clear H
 go_enter Try.func16, Try.ntmps16
 go_wp2
 go_loopg [1, 5] k (fun kq v1 v5 w' => ∃ (x1_1 : Int) (x5_1 : Int), v1 = .int .i64 x1_1 ∧ v5 = .int .i64 x5_1 ∧ Aside0 (laws_heldInt64S.l0 kq l0 x1_1 x5_1 = some r) ∧ Aside0 (kq ≤ k) ∧ Drawn0 w w')
 case atStart => exact ⟨(a1), (0), Z16.z0, Z16.z0, H', ⟨Nat.le_refl _⟩, Z16.z1⟩
 case round =>
  clear H'
  try clear c1
  try clear p2
  obtain ⟨x1_1, x5_1, rfl, rfl, HA, HK1, ⟨m1, rfl⟩⟩ := hrel
  cases gk with
  | zero => exact absurd HA.out (by simp [laws_heldInt64S.l0])
  | succ k1 =>
   have H := HA.out
   clear HA
   simp only [laws_heldInt64S.l0] at H
   by_cases c3 : x5_1 < (l0.length : Int)
   ·rw [if_pos c3] at H
    have c3b0 : decide (x5_1 < (l0.length : Int)) = true := decide_eq_true c3
    clear c3
    by_cases c4 : 0 ≤ x5_1
    ·rw [if_pos c4] at H
     have c4b0 : decide (0 ≤ x5_1) = true := decide_eq_true c4
     clear c4
     by_cases c5 : (rd l0 x5_1) = x1_1
     ·rw [if_pos c5] at H
      have c5b0 : ((rd l0 x5_1) == x1_1) = true := beq_iff_eq.mpr c5
      have c5b1 : ((rd l0 x5_1) != x1_1) = false := bne_eq_false_iff_eq.mpr c5
      clear c5
      have H' := Aside0.mk H
      clear H
      have p101 : 0 ≤ (x5_1 : Int) := of_decide_eq_true (by first | (with_reducible assumption) | assumption)
      have q101 : x5_1 < (l0.length : Int) := of_decide_eq_true (by first | (with_reducible assumption) | assumption)
      obtain ⟨ad101, e101, hx101_0⟩ := Kd.at_int HR0.out x5_1 p101 q101
      cases e101
      replace p101 := eq_true p101
      replace q101 := eq_true q101
      go_wp2
      go_roundg k1
      case measure => have := HK1.out; omega
      case rel => exact ⟨(wrap64 (x1_1 + 1)), (wrap64 (x5_1 + 1)), Z16.z0, Z16.z0, H', ⟨(by have := HK1.out; omega)⟩, Z16.z1⟩
     rw [if_neg c5] at H
     have c5b0 : ((rd l0 x5_1) == x1_1) = false := beq_eq_false_iff_ne.mpr c5
     have c5b1 : ((rd l0 x5_1) != x1_1) = true := bne_iff_ne.mpr c5
     obtain rfl := Option.some.inj H
     have p101 : 0 ≤ (x5_1 : Int) := of_decide_eq_true (by first | (with_reducible assumption) | assumption)
     have q101 : x5_1 < (l0.length : Int) := of_decide_eq_true (by first | (with_reducible assumption) | assumption)
     obtain ⟨ad101, e101, hx101_0⟩ := Kd.at_int HR0.out x5_1 p101 q101
     cases e101
     replace p101 := eq_true p101
     replace q101 := eq_true q101
     go_wp2
     go_ret
     exact ⟨Z16.z0, Z16.z1⟩
    rw [if_neg c4] at H
    exact absurd H (by simp)
   rw [if_neg c3] at H
   have c3b0 : decide (x5_1 < (l0.length : Int)) = false := decide_eq_false c3
   clear c3
   obtain rfl := Option.some.inj H
   go_wp2
   go_ret
   exact ⟨Z16.z0, Z16.z1⟩
/-! ### laws_FnExactSolve: function 3 -/
mutual
def laws_FnExactSolve.j0 : Nat → List Int → List Int → Int → List Int → List Int → Int → Bool → Int → Int → Int → List Int → Int → Int → Int → List Int → Option (Bool)
  | 0, _, _, _, _, _, _, _, _, _, _, _, _, _, _, _ => none
  | k + 1, x1, x6, x7, x9, x10, x11, x51, x102000, x102001, x102002, x102003, x123000, x123001, x123002, x123003 => if x51 = true then (some false) else ((laws_toMatrix.f k x102000 x102001 x102002 x102003).bind fun bt131 => ((laws_eqMatrix.f k x123000 x123001 x123002 x123003 bt131.1 bt131.2.1 bt131.2.2.1 bt131.2.2.2).bind fun t137 => (if t137 = true then ((laws_toInt64S.f k x1).bind fun t138 => ((laws_eqInt64S.f k x9 t138).bind fun t141 => (if t141 = true then ((laws_markMatrix.f k x123000 x123001 x123002 x123003 1).bind fun bt142 => ((laws_markInt64S.f k x9 bt142.1).bind fun bt144 => (if bt144.1 < 0 then (laws_FnExactSolve.j1 k x1 x6 x7 x10 true x102000 x102001 x102002 x102003) else ((laws_eqInt64S.f k x10 x6).bind fun t146 => (if t146 = true then (laws_FnExactSolve.j1 k x1 x6 x7 x10 (x11 != x7) x102000 x102001 x102002 x102003) else (laws_FnExactSolve.j1 k x1 x6 x7 x10 true x102000 x102001 x102002 x102003)))))) else (some false)))) else (some false))))
def laws_FnExactSolve.j1 : Nat → List Int → List Int → Int → List Int → Bool → Int → Int → Int → List Int → Option (Bool)
  | 0, _, _, _, _, _, _, _, _, _ => none
  | k + 1, x1, x6, x7, x10, x80, x102000, x102001, x102002, x102003 => if x80 = true then (some false) else ((laws_markInt64S.f k x10 1).bind fun bt147 => ((laws_heldInt64S.f k bt147.2 1).bind fun t149 => (if t149 < 0 then (some false) else (if t149 = bt147.1 then ((laws_toMatrix.f k x102000 x102001 x102002 x102003).bind fun bt150 => ((laws_toInt64S.f k x1).bind fun t156 => ((impl_Solve.f k bt150.1 bt150.2.1 bt150.2.2.1 bt150.2.2.2 t156).bind fun bt159 => ((laws_eqInt64S.f k bt159.1 x6).bind fun t163 => (if t163 = true then (laws_FnExactSolve.j2 k bt147.2 bt147.1 (bt159.2 != x7)) else (laws_FnExactSolve.j2 k bt147.2 bt147.1 true)))))) else (some false)))))
def laws_FnExactSolve.j2 : Nat → List Int → Int → Bool → Option (Bool)
  | 0, _, _, _ => none
  | k + 1, x10, x13, x108 => if x108 = true then (some false) else ((laws_heldInt64S.f k x10 1).bind fun t164 => (if t164 < 0 then (some false) else (if t164 = x13 then (some true) else (some false))))
end
def laws_FnExactSolve.f (k : Nat) (a0_0 : Int) (a0_1 : Int) (a0_2 : Int) (l0_3 : List Int) (l1 : List Int) : Option (Bool) := if (l1.length : Int) > 1048576 then (some true) else ((laws_szMatrix.f a0_0 a0_1 a0_2 l0_3 1048576).bind fun t102 => (if t102 < 0 then (some true) else ((laws_toMatrix.f k a0_0 a0_1 a0_2 l0_3).bind fun bt103 => ((laws_toInt64S.f k l1).bind fun t109 => ((spec_Solve.f k bt103.1 bt103.2.1 bt103.2.2.1 bt103.2.2.2 t109).bind fun bt112 => ((laws_toMatrix.f k a0_0 a0_1 a0_2 l0_3).bind fun bt116 => ((laws_toInt64S.f k l1).bind fun t123 => ((impl_Solve.f k bt116.1 bt116.2.1 bt116.2.2.1 bt116.2.2.2 t123).bind fun bt126 => ((laws_eqInt64S.f k bt126.1 bt112.1).bind fun t130 => (if t130 = true then (laws_FnExactSolve.j0 k l1 bt112.1 bt112.2 t123 bt126.1 bt126.2 (bt126.2 != bt112.2) a0_0 a0_1 a0_2 l0_3 bt116.1 bt116.2.1 bt116.2.2.1 bt116.2.2.2) else (laws_FnExactSolve.j0 k l1 bt112.1 bt112.2 t123 bt126.1 bt126.2 true a0_0 a0_1 a0_2 l0_3 bt116.1 bt116.2.1 bt116.2.2.1 bt116.2.2.2)))))))))))
def Z3.b (n x : Nat) : Array Bool := ((List.range n).map (fun i => x.testBit i)).toArray
theorem Z3.pP {P : Program} {ops : Array Oper} {Q : Exit → Act → World → Prop} {md : Region.Mode} {S : World → Prop} {ds : List Nat} (i N : Nat) {oi : Oper} {v : Value} {fuel : Nat} {l : Array Bool} {a : Act} {w : World} (l' : Array Bool) (hc : anyB md ops l l' i = true) {a' : Act} (h : wpAnyLast P md ops Q S ds fuel l' a' w) (hi : ops[i]? = some oi := by rfl) (hN : oi.dst = some N := by rfl) (hQ : ∀ c a w, Q (.panic c) (a.put oi.dst v) w → Q (.panic c) a w := by exact fun _ _ _ h => h) (hy : Yields P ops oi v a := by exact Or.inl ⟨(by rfl), by intro w'; go_simp; with_reducible rfl⟩) (ha : a.put (some N) v = a' := by simp only [Act.put, List.setIfInBounds_toArray, List.set_cons_zero, List.set_cons_succ, i64_w, i32_w]; rfl) : wpAnyLast P md ops Q S ds (fuel + 1) l a w := pure_ l' hi hN hc hQ hy ha h
theorem Z3.pT8 {P : Program} {ops : Array Oper} {Q : Exit → Act → World → Prop} {md : Region.Mode} {S : World → Prop} {ds : List Nat} (i N : Nat) {oi : Oper} {v : Value} {fuel : Nat} {l : Array Bool} {a : Act} {w : World} (l' : Array Bool) (hc : takeB md ops ds l l' i = true) (hS : S w) {a' : Act} (h : wpAnyLast P md ops Q S ds fuel l' a' w) (hi : ops[i]? = some oi := by rfl) (hN : oi.dst = some N := by rfl) (hQ : ∀ c a w, Q (.panic c) (a.put oi.dst v) w → Q (.panic c) a w := by exact fun _ _ _ h => h) (hy : YieldsIf P ops S oi v a := by exact Or.inl ⟨(by rfl), by rintro w' ⟨s0, s1, s2, s3, s4, s5, s6, s7⟩; go_simp; with_reducible rfl⟩) (ha : a.put (some N) v = a' := by simp only [Act.put, List.setIfInBounds_toArray, List.set_cons_zero, List.set_cons_succ, i64_w, i32_w]; rfl) : wpAnyLast P md ops Q S ds (fuel + 1) l a w := take_ l' hi hN hc hQ hy hS ha h
theorem Z3.bb {w0 w w1 : World} {g : Nat} {o : Obj} (_B : Aside0 (w0.heap[g]? = some o)) (h : w.heap[g]? = some o) (hb : Below w.heap.size w w1) : w1.heap[g]? = some o := blk_below h hb
theorem Z3.bl {w0 w : World} {g : Nat} {o : Obj} (_B : Aside0 (w0.heap[g]? = some o)) (h : w.heap[g]? = some o) : g < w.heap.size := blk_lt h
theorem Z3.k {p : Prop} (h : p) : Aside0 p := ⟨h⟩
theorem Z3.z47 {P : Prop} (h : P := by (try simp only [hl123003_50]); (with_reducible repeat (first | refine blk_drewN ?_ _ | refine blk_drew ?_ | refine blk_alloc ?_ _)); exact BK101.out) : P := h
theorem Z3.z46 {P : Prop} (h : P := by (try simp only [hl123003_50]); (with_reducible repeat (first | refine blk_drewN ?_ _ | refine blk_drew ?_ | refine blk_alloc ?_ _)); exact BK122.out) : P := h
theorem Z3.z45 {P : Prop} (h : P := by (with_reducible repeat (first | apply Kd.R_alloc | apply Kd.R_drewN | apply Kd.R_drew)); exact Kd.R_mono HO114.out (fun _ hk => ⟨hk.1.2, ⟨hk.2, hk.1.1.2⟩⟩)) : P := h
theorem Z3.z44 {P : Prop} (h : P := by (with_reducible repeat (first | apply Kd.R_alloc | apply Kd.R_drewN | apply Kd.R_drew)); exact Kd.R_mono HO121.out (fun _ hk => ⟨hk.1.1.2, ⟨hk.1.2, hk.2⟩⟩)) : P := h
theorem Z3.z43 {P : Prop} (h : P := by (with_reducible repeat (first | apply Kd.R_alloc | apply Kd.R_drewN | apply Kd.R_drew)); exact Kd.R_mono HO125.out (fun _ hk => ⟨hk.1.1.2, ⟨hk.2, hk.1.2⟩⟩)) : P := h
theorem Z3.z42 {P : Prop} (h : P := by (with_reducible repeat (first | apply Kd.R_alloc | apply Kd.R_drewN | apply Kd.R_drew)); exact Kd.R_mono HO128.out (fun _ hk => ⟨hk.1.1.2, ⟨hk.2, hk.1.2⟩⟩)) : P := h
theorem Z3.z41 {P : Prop} (h : P := by (try simp only [hl123003_50]); (with_reducible repeat (first | apply Kd.R_alloc | apply Kd.R_drewN | apply Kd.R_drew)); exact Kd.R_mono HO_10.out (fun _ hk => hk.1.1.1.2)) : P := h
theorem Z3.z40 {P : Prop} (h : P := by repeat (first | exact (Kd.R_reads' HO_9.out).2.2 | (with_reducible refine Kd.C_alloc ?_ _) | (with_reducible refine Kd.C_drewN ?_ _) | (with_reducible refine Kd.C_drew ?_))) : P := h
theorem Z3.z39 {P : Prop} (h : P := by repeat (first | exact (Kd.R_reads' HO114.out).2.2 | (with_reducible refine Kd.C_alloc ?_ _) | (with_reducible refine Kd.C_drewN ?_ _) | (with_reducible refine Kd.C_drew ?_))) : P := h
theorem Z3.z38 {P : Prop} (h : P := by repeat (first | exact (Kd.R_reads' HO128.out).2.2 | (with_reducible refine Kd.C_alloc ?_ _) | (with_reducible refine Kd.C_drewN ?_ _) | (with_reducible refine Kd.C_drew ?_))) : P := h
theorem Z3.z37 {P : Prop} (h : P := by repeat (first | exact (Kd.R_reads' HO140.out).2.2 | (with_reducible refine Kd.C_alloc ?_ _) | (with_reducible refine Kd.C_drewN ?_ _) | (with_reducible refine Kd.C_drew ?_))) : P := h
theorem Z3.z36 {P : Prop} (h : P := by repeat (first | exact (Kd.R_reads' HO161.out).2.2 | (with_reducible refine Kd.C_alloc ?_ _) | (with_reducible refine Kd.C_drewN ?_ _) | (with_reducible refine Kd.C_drew ?_))) : P := h
theorem Z3.z35 {P : Prop} (h : P := by (try simp only [hl123003_50]); (with_reducible repeat (first | apply Kd.R_alloc | apply Kd.R_drewN | apply Kd.R_drew)); exact Kd.R_mono HO_123003.out (fun _ hk => hk.1.1.1.2)) : P := h
theorem Z3.z34 {P : Prop} (h : P := by first | rfl | (simp; done) | (simp [*]; done)) : P := h
theorem Z3.z33 {P : Prop} (h : P := by (with_reducible repeat (first | apply Kd.R_alloc | apply Kd.R_drewN | apply Kd.R_drew)); exact HO121.out) : P := h
theorem Z3.z32 {P : Prop} (h : P := by rw [show t148.length = t126.length from (Kd.R_reads' HO_10.out).1.symm]; exact (Kd.R_reads' HO_10.out).2.1) : P := h
theorem Z3.z31 {P : Prop} (h : P := by (with_reducible repeat (first | apply Kd.R_alloc | apply Kd.R_drewN | apply Kd.R_drew)); exact Kd.R_mono HO_10.out (fun _ hk => ⟨hk.1, hk.2.2.1⟩)) : P := h
theorem Z3.z30 {P : Prop} (h : P := by (with_reducible repeat (first | apply Kd.R_alloc | apply Kd.R_drewN | apply Kd.R_drew)); exact Kd.R_mono HO_6.out (fun _ hk => ⟨hk.2.1, hk.2.2.1⟩)) : P := h
theorem Z3.z29 {P : Prop} (h : P := by (with_reducible repeat (first | apply Kd.R_alloc | apply Kd.R_drewN | apply Kd.R_drew)); exact HO155.out) : P := h
theorem Z3.z28 {P : Prop} (h : P := by (with_reducible repeat (first | apply Kd.R_alloc | apply Kd.R_drewN | apply Kd.R_drew)); exact Kd.R_mono HO_123003.out (fun _ hk => ⟨hk.1, hk.2.2.1⟩)) : P := h
theorem Z3.z27 {P : Prop} (h : P := by repeat (first | exact (Kd.R_reads' HO136.out).2.2 | (with_reducible refine Kd.C_alloc ?_ _) | (with_reducible refine Kd.C_drewN ?_ _) | (with_reducible refine Kd.C_drew ?_))) : P := h
theorem Z3.z26 {P : Prop} (h : P := by repeat (first | exact (Kd.R_reads' HO_123003.out).2.2 | (with_reducible refine Kd.C_alloc ?_ _) | (with_reducible refine Kd.C_drewN ?_ _) | (with_reducible refine Kd.C_drew ?_))) : P := h
theorem Z3.z25 {P : Prop} (h : P := by (with_reducible repeat (first | apply Kd.R_alloc | apply Kd.R_drewN | apply Kd.R_drew)); exact HO114.out) : P := h
theorem Z3.z24 {P : Prop} (h : P := by (try simp only [List.map_toArray, List.map_cons, List.map_nil]); first | done | (rw [show t148.length = t126.length from (Kd.R_reads' HO_10.out).1.symm] <;> rfl) | rfl | (simp only [List.length_drop, List.length_take]; rfl)) : P := h
theorem Z3.z23 {P : Prop} (h : P := by (with_reducible repeat (first | apply Kd.R_alloc | apply Kd.R_drewN | apply Kd.R_drew)); exact (Kd.R_mono (Kd.R_far (p := ⟨gb122, 3, none⟩) (Kd.R_far (p := ⟨gb122, 2, none⟩) (Kd.R_far (p := ⟨gb122, 1, none⟩) (Kd.R_far (p := ⟨gb122, 0, none⟩) (Kd.R_types HO108.out BK122.out (by decide)) (fun _ hk => hk.2) (.int .i64 t116)) (fun _ hk => hk.2) (.int .i64 t117)) (fun _ hk => hk.2) (.int .i64 t118)) (fun _ hk => hk.2) (.slice Ao31 t119.length co31)) (fun _ h_ => h_.1))) : P := h
theorem Z3.z22 {P : Prop} (h : P := by (with_reducible repeat (first | apply Kd.R_alloc | apply Kd.R_drewN | apply Kd.R_drew)); exact (Kd.R_mono (Kd.R_far (p := ⟨gb122, 3, none⟩) (Kd.R_far (p := ⟨gb122, 2, none⟩) (Kd.R_far (p := ⟨gb122, 1, none⟩) (Kd.R_far (p := ⟨gb122, 0, none⟩) (Kd.R_types HO111.out BK122.out (by decide)) (fun _ hk => hk.2) (.int .i64 t116)) (fun _ hk => hk.2) (.int .i64 t117)) (fun _ hk => hk.2) (.int .i64 t118)) (fun _ hk => hk.2) (.slice Ao31 t119.length co31)) (fun _ h_ => h_.1))) : P := h
theorem Z3.z21 {P : Prop} (h : P := by (with_reducible repeat (first | apply Kd.R_alloc | apply Kd.R_drewN | apply Kd.R_drew)); exact (Kd.R_mono (Kd.R_far (p := ⟨gb122, 3, none⟩) (Kd.R_far (p := ⟨gb122, 2, none⟩) (Kd.R_far (p := ⟨gb122, 1, none⟩) (Kd.R_far (p := ⟨gb122, 0, none⟩) (Kd.R_types HO114.out BK122.out (by decide)) (fun _ hk => hk.2) (.int .i64 t116)) (fun _ hk => hk.2) (.int .i64 t117)) (fun _ hk => hk.2) (.int .i64 t118)) (fun _ hk => hk.2) (.slice Ao31 t119.length co31)) (fun _ h_ => h_.1))) : P := h
theorem Z3.z20 {P : Prop} (h : P := by (with_reducible repeat (first | apply Kd.R_alloc | apply Kd.R_drewN | apply Kd.R_drew)); exact (Kd.R_mono (Kd.R_far (p := ⟨gb122, 3, none⟩) (Kd.R_far (p := ⟨gb122, 2, none⟩) (Kd.R_far (p := ⟨gb122, 1, none⟩) (Kd.R_far (p := ⟨gb122, 0, none⟩) (Kd.R_types HO121.out BK122.out (by decide)) (fun _ hk => hk.2) (.int .i64 t116)) (fun _ hk => hk.2) (.int .i64 t117)) (fun _ hk => hk.2) (.int .i64 t118)) (fun _ hk => hk.2) (.slice Ao31 t119.length co31)) (fun _ h_ => h_.1))) : P := h
theorem Z3.z19 {P : Prop} (h : P := by repeat (first | exact (Kd.R_reads' HO_6.out).2.2 | (with_reducible refine Kd.C_alloc ?_ _) | (with_reducible refine Kd.C_drewN ?_ _) | (with_reducible refine Kd.C_drew ?_))) : P := h
theorem Z3.z18 {P : Prop} (h : P := by repeat (first | exact (Kd.C_below HR1.out HB.out) | (with_reducible refine Kd.C_alloc ?_ _) | (with_reducible refine Kd.C_drewN ?_ _) | (with_reducible refine Kd.C_drew ?_))) : P := h
theorem Z3.z17 {P : Prop} (h : P := by (with_reducible repeat (first | apply Kd.R_alloc | apply Kd.R_drewN | apply Kd.R_drew)); exact HO111.out) : P := h
theorem Z3.z16 {P : Prop} (h : P := by (with_reducible repeat (first | apply Kd.R_alloc | apply Kd.R_drewN | apply Kd.R_drew)); exact HO136.out) : P := h
theorem Z3.z15 {P : Prop} (h : P := by (with_reducible repeat (first | apply Kd.R_alloc | apply Kd.R_drewN | apply Kd.R_drew)); exact HO108.out) : P := h
theorem Z3.z14 {P : Prop} (h : P := by simp only [Act.put, List.setIfInBounds_toArray, List.set_cons_zero, List.set_cons_succ, i64_w, i32_w]; rfl) : P := h
theorem Z3.z13 {P : Prop} (h : P := by first | rfl | (simp [errW_none, errW_some] <;> rfl) | (simp [*, errW_none, errW_some] <;> rfl)) : P := h
theorem Z3.z12 {P : Prop} (h : P := by repeat (first | (with_reducible first | exact HB.out | apply below_alloc | apply pw_below_drewN | apply below_drew1) | exact HB.out)) : P := h
theorem Z3.z11 {P : Prop} (h : P := by repeat (first | exact (Kd.C_below HR0_3.out HB.out) | (with_reducible refine Kd.C_alloc ?_ _) | (with_reducible refine Kd.C_drewN ?_ _) | (with_reducible refine Kd.C_drew ?_))) : P := h
theorem Z3.z10 {P : Prop} (h : P := by (with_reducible repeat (first | apply Kd.R_alloc | apply Kd.R_drewN | apply Kd.R_drew)); exact HO_9.out) : P := h
theorem Z3.z9 {P : Prop} (h : P := by repeat (first | exact (Kd.R_reads' HO_10.out).2.2 | (with_reducible refine Kd.C_alloc ?_ _) | (with_reducible refine Kd.C_drewN ?_ _) | (with_reducible refine Kd.C_drew ?_))) : P := h
theorem Z3.z8 {P : Prop} (h : P := by (with_reducible repeat (first | apply Kd.R_alloc | apply Kd.R_drewN | apply Kd.R_drew)); exact HO_6.out) : P := h
theorem Z3.z7 {P : Prop} (h : P := by (with_reducible repeat (first | apply Kd.R_alloc | apply Kd.R_drewN | apply Kd.R_drew)); exact HO_10.out) : P := h
theorem Z3.z6 {P : Prop} (h : P := by (with_reducible repeat (first | apply Kd.R_alloc | apply Kd.R_drewN | apply Kd.R_drew)); exact HO_123003.out) : P := h
theorem Z3.z5 {P : Prop} (h : P := by repeat (first | (with_reducible first | exact HB.out | apply below_alloc | apply pw_below_drewN | apply below_drew1 | refine below_set ?_ GE101.out) | exact HB.out)) : P := h
theorem Z3.z4 {P : Prop} (h : P := by (with_reducible repeat (first | refine blk_drewN ?_ _ | refine blk_drew ?_ | refine blk_alloc ?_ _)); exact BK122.out) : P := h
theorem Z3.z3 {P : Prop} (h : P := by exact ⟨(blk_cell BK122.out 0).trans rfl, (blk_cell BK122.out 1).trans rfl, (blk_cell BK122.out 2).trans rfl, (blk_cell BK122.out 3).trans rfl, (blk_cell BK101.out 0).trans rfl, (blk_cell BK101.out 1).trans rfl, (blk_cell BK101.out 2).trans rfl, (blk_cell BK101.out 3).trans rfl⟩) : P := h
theorem Z3.z2 {P : Prop} (h : P := by (with_reducible repeat (first | refine blk_drewN ?_ _ | refine blk_drew ?_ | refine blk_alloc ?_ _)); exact BK101.out) : P := h
theorem Z3.z1 {P : Prop} (h : P := by (try simp only [List.map_toArray, List.map_cons, List.map_nil]); first | done | rfl | (simp only [List.length_drop, List.length_take]; rfl)) : P := h
theorem Z3.z0 {P : Prop} (h : P := by repeat (first | (with_reducible first | exact HB.out | apply below_alloc | apply pw_below_drewN | apply below_drew1 | refine below_set ?_ GE101.out | refine below_set ?_ GE122.out) | exact HB.out)) : P := h
set_option maxHeartbeats 8000000 in
set_option maxRecDepth 100000 in
theorem laws_FnExactSolve.calls (k : Nat) (a0_0 : Int) (a0_1 : Int) (a0_2 : Int) (A0_3 : Option Addr) (c0_3 : Nat) (l0_3 : List Int) (A1 : Option Addr) (c1 : Nat) (l1 : List Int) (r : Bool) (w : World) (hr0_3 : Kd.C (Kd.int .i64) w A0_3 l0_3.length l0_3) (hc0_3 : l0_3.length ≤ c0_3) (hr1 : Kd.C (Kd.int .i64) w A1 l1.length l1) (hc1 : l1.length ≤ c1) (h : laws_FnExactSolve.f k a0_0 a0_1 a0_2 l0_3 l1 = some r) :
  Calls Try.prog 3 #[.agg #[.int .i64 a0_0, .int .i64 a0_1, .int .i64 a0_2, .slice A0_3 l0_3.length c0_3], .slice A1 l1.length c1] w fun e w' => e = .returned (.bool r) ∧ Below w.heap.size w w' := by
 have hu24 := Try.underlying24
 have hu28 := Try.underlying28
 have HR0_3 := Z3.k hr0_3
 have HC0_3 := Z3.k hc0_3
 clear hr0_3 hc0_3
 have HR1 := Z3.k hr1
 have HC1 := Z3.k hc1
 clear hr1 hc1
 have HB := Z3.k (Below.refl w.heap.size w)
 have H : (if (l1.length : Int) > 1048576 then (some true) else ((laws_szMatrix.f a0_0 a0_1 a0_2 l0_3 1048576).bind fun t102 => (if t102 < 0 then (some true) else ((laws_toMatrix.f k a0_0 a0_1 a0_2 l0_3).bind fun bt103 => ((laws_toInt64S.f k l1).bind fun t109 => ((spec_Solve.f k bt103.1 bt103.2.1 bt103.2.2.1 bt103.2.2.2 t109).bind fun bt112 => ((laws_toMatrix.f k a0_0 a0_1 a0_2 l0_3).bind fun bt116 => ((laws_toInt64S.f k l1).bind fun t123 => ((impl_Solve.f k bt116.1 bt116.2.1 bt116.2.2.1 bt116.2.2.2 t123).bind fun bt126 => ((laws_eqInt64S.f k bt126.1 bt112.1).bind fun t130 => (if t130 = true then (laws_FnExactSolve.j0 k l1 bt112.1 bt112.2 t123 bt126.1 bt126.2 (bt126.2 != bt112.2) a0_0 a0_1 a0_2 l0_3 bt116.1 bt116.2.1 bt116.2.2.1 bt116.2.2.2) else (laws_FnExactSolve.j0 k l1 bt112.1 bt112.2 t123 bt126.1 bt126.2 true a0_0 a0_1 a0_2 l0_3 bt116.1 bt116.2.1 bt116.2.2.1 bt116.2.2.2)))))))))))) = some r := h
 clear h
 by_cases c3 : (l1.length : Int) > 1048576
 ·rw [if_pos c3] at H
  have c3b0 : decide (1048576 < (l1.length : Int)) = true := decide_eq_true c3
  have c3b1 : decide (1048576 < l1.length) = true := decide_eq_true (by omega)
  clear c3
  obtain rfl := Option.some.inj H
  go_enter Try.func3, Try.ntmps3
  go_wp2_with (first | ((with_reducible refine gate_dst (N := 2) rfl ?_); refine box_event ?hg (N := 2) ?hd (cs := #[.int .i64 a0_0, .int .i64 a0_1, .int .i64 a0_2, .slice A0_3 l0_3.length c0_3]) (t := 24) ?hr ?_; (case hd => rfl); (case hg => rfl); (case hr => first | (go_simp; done) | (go_simp; rfl)); intro gb101 hg w4 hbox hb; have BK101 := Z3.k (hbox); have GW101 := Z3.k (show w.heap.size ≤ gb101 from (by rw [hg]; exact (below_size Z3.z12))); have GE101 := Z3.k (show w.heap.size ≤ gb101 from (by rw [hg]; exact (below_size Z3.z12))); replace HB := Z3.k (below_step Z3.z12 hb); clear hb hbox hg))
  go_ret
  exact ⟨Z3.z13, Z3.z5⟩
 rw [if_neg c3] at H
 have c3b0 : decide (1048576 < (l1.length : Int)) = false := decide_eq_false c3
 have c3b1 : decide (1048576 < l1.length) = false := decide_eq_false (by omega)
 clear c3
 replace H := Option.bind_eq_some_iff.mp H
 obtain ⟨t102, A50, H⟩ := H
 replace H : (if t102 < 0 then (some true) else ((laws_toMatrix.f k a0_0 a0_1 a0_2 l0_3).bind fun bt103 => ((laws_toInt64S.f k l1).bind fun t109 => ((spec_Solve.f k bt103.1 bt103.2.1 bt103.2.2.1 bt103.2.2.2 t109).bind fun bt112 => ((laws_toMatrix.f k a0_0 a0_1 a0_2 l0_3).bind fun bt116 => ((laws_toInt64S.f k l1).bind fun t123 => ((impl_Solve.f k bt116.1 bt116.2.1 bt116.2.2.1 bt116.2.2.2 t123).bind fun bt126 => ((laws_eqInt64S.f k bt126.1 bt112.1).bind fun t130 => (if t130 = true then (laws_FnExactSolve.j0 k l1 bt112.1 bt112.2 t123 bt126.1 bt126.2 (bt126.2 != bt112.2) a0_0 a0_1 a0_2 l0_3 bt116.1 bt116.2.1 bt116.2.2.1 bt116.2.2.2) else (laws_FnExactSolve.j0 k l1 bt112.1 bt112.2 t123 bt126.1 bt126.2 true a0_0 a0_1 a0_2 l0_3 bt116.1 bt116.2.1 bt116.2.2.1 bt116.2.2.2)))))))))) = some r := H
 have A5 := Z3.k A50
 clear A50
 by_cases c6 : t102 < 0
 ·rw [if_pos c6] at H
  have c6b0 : decide (t102 < 0) = true := decide_eq_true c6
  clear c6
  obtain rfl := Option.some.inj H
  go_enter Try.func3, Try.ntmps3
  go_wp2_with (first | ((with_reducible refine gate_dst (N := 2) rfl ?_); refine box_event ?hg (N := 2) ?hd (cs := #[.int .i64 a0_0, .int .i64 a0_1, .int .i64 a0_2, .slice A0_3 l0_3.length c0_3]) (t := 24) ?hr ?_; (case hd => rfl); (case hg => rfl); (case hr => first | (go_simp; done) | (go_simp; rfl)); intro gb101 hg w7 hbox hb; have BK101 := Z3.k (hbox); have GW101 := Z3.k (show w.heap.size ≤ gb101 from (by rw [hg]; exact (below_size Z3.z12))); have GE101 := Z3.k (show w.heap.size ≤ gb101 from (by rw [hg]; exact (below_size Z3.z12))); replace HB := Z3.k (below_step Z3.z12 hb); clear hb hbox hg; obtain ⟨hcz8_0, hcz8_1, hcz8_2, hcz8_3, hfz8_0, hfz8_1, hfz8_2, hfz8_3⟩ := cells4 BK101.out) | ((with_reducible refine gate_callee (f := 7) rfl ?_); refine goesL_ (some 22) rfl rfl Try.func7 (by kernel_rfl) rfl #[.agg #[.int .i64 a0_0, .int .i64 a0_1, .int .i64 a0_2, .slice A0_3 l0_3.length c0_3], .int .i64 1048576] rfl Z3.z1 ?_; (with_reducible refine (laws_szMatrix.calls a0_0 a0_1 a0_2 _ _ l0_3 1048576 t102 _ ?side1 ?side2 A5.out).mono ?_); (case side1 => exact Z3.z11); (case side2 => exact HC0_3.out); rintro e w9 ⟨rfl, hb⟩; refine ⟨_, rfl, ?_⟩; replace BK101 := Z3.k (Z3.bb BK101 Z3.z2 hb); replace HB := Z3.k (below_step Z3.z5 hb); (try clear hb); (try clear hb2); (try clear hk); (try clear hi)))
  go_ret
  exact ⟨Z3.z13, Z3.z5⟩
 rw [if_neg c6] at H
 have c6b0 : decide (t102 < 0) = false := decide_eq_false c6
 clear c6
 replace H := Option.bind_eq_some_iff.mp H
 obtain ⟨⟨t103, t104, t105, t106⟩, A100, H⟩ := H
 (try dsimp only at H)
 have A10 := Z3.k A100
 clear A100
 replace H := Option.bind_eq_some_iff.mp H
 obtain ⟨t109, A110, H⟩ := H
 (try dsimp only at H)
 have A11 := Z3.k A110
 clear A110
 replace H := Option.bind_eq_some_iff.mp H
 obtain ⟨⟨t112, t115⟩, A120, H⟩ := H
 (try dsimp only at H)
 have A12 := Z3.k A120
 clear A120
 replace H := Option.bind_eq_some_iff.mp H
 obtain ⟨⟨t116, t117, t118, t119⟩, A130, H⟩ := H
 (try dsimp only at H)
 have A13 := Z3.k A130
 clear A130
 replace H := Option.bind_eq_some_iff.mp H
 obtain ⟨t123, A140, H⟩ := H
 (try dsimp only at H)
 have A14 := Z3.k A140
 clear A140
 replace H := Option.bind_eq_some_iff.mp H
 obtain ⟨⟨t126, t129⟩, A150, H⟩ := H
 (try dsimp only at H)
 have A15 := Z3.k A150
 clear A150
 have HC16 := Z3.k H
 clear H
 go_enter Try.func3, Try.ntmps3
 go_upto_region 11 with (first | ((with_reducible refine gate_dst (N := 2) rfl ?_); refine box_event ?hg (N := 2) ?hd (cs := #[.int .i64 a0_0, .int .i64 a0_1, .int .i64 a0_2, .slice A0_3 l0_3.length c0_3]) (t := 24) ?hr ?_; (case hd => rfl); (case hg => rfl); (case hr => first | (go_simp; done) | (go_simp; rfl)); intro gb101 hg w17 hbox hb; have BK101 := Z3.k (hbox); have GW101 := Z3.k (show w.heap.size ≤ gb101 from (by rw [hg]; exact (below_size Z3.z12))); have GE101 := Z3.k (show w.heap.size ≤ gb101 from (by rw [hg]; exact (below_size Z3.z12))); replace HB := Z3.k (below_step Z3.z12 hb); clear hb hbox hg; obtain ⟨hcz18_0, hcz18_1, hcz18_2, hcz18_3, hfz18_0, hfz18_1, hfz18_2, hfz18_3⟩ := cells4 BK101.out) | ((with_reducible refine gate_callee (f := 7) rfl ?_); refine goesL_ (some 22) rfl rfl Try.func7 (by kernel_rfl) rfl #[.agg #[.int .i64 a0_0, .int .i64 a0_1, .int .i64 a0_2, .slice A0_3 l0_3.length c0_3], .int .i64 1048576] rfl Z3.z1 ?_; (with_reducible refine (laws_szMatrix.calls a0_0 a0_1 a0_2 _ _ l0_3 1048576 t102 _ ?side1 ?side2 A5.out).mono ?_); (case side1 => exact Z3.z11); (case side2 => exact HC0_3.out); rintro e w19 ⟨rfl, hb⟩; refine ⟨_, rfl, ?_⟩; replace BK101 := Z3.k (Z3.bb BK101 Z3.z2 hb); replace HB := Z3.k (below_step Z3.z5 hb); (try clear hb); (try clear hb2); (try clear hk); (try clear hi); obtain ⟨hcz20_0, hcz20_1, hcz20_2, hcz20_3, hfz20_0, hfz20_1, hfz20_2, hfz20_3⟩ := cells4 BK101.out) | ((with_reducible refine gate_callee (f := 9) rfl ?_); refine goesL_ (some 27) rfl rfl Try.func9 (by kernel_rfl) rfl #[.agg #[.int .i64 a0_0, .int .i64 a0_1, .int .i64 a0_2, .slice A0_3 l0_3.length c0_3]] rfl Z3.z1 ?_; (with_reducible refine (laws_toMatrix.calls k a0_0 a0_1 a0_2 _ _ l0_3 t103 t104 t105 t106 _ ?side1 ?side2 A10.out).mono ?_); (case side1 => exact Z3.z11); (case side2 => exact HC0_3.out); rintro e w21 ⟨v107, rfl, ho0, hb⟩; refine ⟨_, rfl, ?_⟩; have HO108 := Z3.k (Kd.R_lower ho0 (below_size Z3.z5)); replace BK101 := Z3.k (Z3.bb BK101 Z3.z2 hb); replace HB := Z3.k (below_step Z3.z5 hb); (try clear hb); (try clear hb2); (try clear hk); (try clear hi); (try clear ho0)) | ((with_reducible refine gate_callee (f := 10) rfl ?_); refine goesL_ (some 29) rfl rfl Try.func10 (by kernel_rfl) rfl #[.slice A1 l1.length c1] rfl Z3.z1 ?_; (with_reducible refine (laws_toInt64S.calls k _ _ l1 t109 _ ?side1 ?side2 A11.out).mono ?_); (case side1 => exact Z3.z18); (case side2 => exact HC1.out); rintro e w22 ⟨v110, rfl, ho0, hb⟩; refine ⟨_, rfl, ?_⟩; have HO111 := Z3.k (Kd.R_lower (Kd.R_new' ho0 (Kd.R_lt Z3.z15)) (below_size Z3.z5)); replace HO108 := Z3.k (Kd.R_elder' Z3.z15 (Kd.R_base ho0) hb); replace BK101 := Z3.k (Z3.bb BK101 Z3.z2 hb); replace HB := Z3.k (below_step Z3.z5 hb); (try clear hb); (try clear hb2); (try clear hk); (try clear hi); (try clear ho0); obtain ⟨Ao23, co23, eo23⟩ := Kd.R_slice HO108.out; subst eo23; obtain ⟨Ao24, co24, eo24⟩ := Kd.R_slice HO111.out; subst eo24) | ((with_reducible refine gate_callee (f := 8) rfl ?_); refine goesL_ (some 30) rfl rfl Try.func8 (by kernel_rfl) rfl #[.agg #[.int .i64 t103, .int .i64 t104, .int .i64 t105, .slice Ao23 t106.length co23], .slice Ao24 t109.length co24] rfl Z3.z1 ?_; (with_reducible refine (spec_Solve.calls k t103 t104 t105 _ _ t106 _ _ t109 t112 t115 _ ?side1 ?side2 ?side3 ?side4 A12.out).mono ?_); (case side1 => exact (by repeat (first | exact (Kd.R_reads' HO108.out).2.2 | (with_reducible refine Kd.C_alloc ?_ _) | (with_reducible refine Kd.C_drewN ?_ _) | (with_reducible refine Kd.C_drew ?_)))); (case side2 => exact (Kd.R_reads' HO108.out).2.1); (case side3 => exact (by repeat (first | exact (Kd.R_reads' HO111.out).2.2 | (with_reducible refine Kd.C_alloc ?_ _) | (with_reducible refine Kd.C_drewN ?_ _) | (with_reducible refine Kd.C_drew ?_)))); (case side4 => exact (Kd.R_reads' HO111.out).2.1); rintro e w25 ⟨v113, rfl, ho0, hb⟩; refine ⟨_, rfl, ?_⟩; have HO114 := Z3.k (Kd.R_lower (Kd.R_new' (Kd.R_new' ho0 (Kd.R_lt Z3.z15)) (Kd.R_lt Z3.z17)) (below_size Z3.z5)); replace HO108 := Z3.k (Kd.R_elder' Z3.z15 (Kd.R_base ho0) hb); replace HO111 := Z3.k (Kd.R_elder' Z3.z17 (Kd.R_base ho0) hb); replace BK101 := Z3.k (Z3.bb BK101 Z3.z2 hb); replace HB := Z3.k (below_step Z3.z5 hb); (try clear hb); (try clear hb2); (try clear hk); (try clear hi); (try clear ho0); obtain ⟨hcz26_0, hcz26_1, hcz26_2, hcz26_3, hfz26_0, hfz26_1, hfz26_2, hfz26_3⟩ := cells4 BK101.out) | ((with_reducible refine gate_callee (f := 9) rfl ?_); refine goesL_ (some 34) rfl rfl Try.func9 (by kernel_rfl) rfl #[.agg #[.int .i64 a0_0, .int .i64 a0_1, .int .i64 a0_2, .slice A0_3 l0_3.length c0_3]] rfl Z3.z1 ?_; (with_reducible refine (laws_toMatrix.calls k a0_0 a0_1 a0_2 _ _ l0_3 t116 t117 t118 t119 _ ?side1 ?side2 A13.out).mono ?_); (case side1 => exact Z3.z11); (case side2 => exact HC0_3.out); rintro e w27 ⟨v120, rfl, ho0, hb⟩; refine ⟨_, rfl, ?_⟩; have HO121 := Z3.k (Kd.R_lower (Kd.R_new' (Kd.R_new' (Kd.R_new' ho0 (Kd.R_lt Z3.z15)) (Kd.R_lt Z3.z17)) (Kd.R_lt Z3.z25)) (below_size Z3.z5)); replace HO108 := Z3.k (Kd.R_elder' Z3.z15 (Kd.R_base ho0) hb); replace HO111 := Z3.k (Kd.R_elder' Z3.z17 (Kd.R_base ho0) hb); replace HO114 := Z3.k (Kd.R_elder' Z3.z25 (Kd.R_base ho0) hb); replace BK101 := Z3.k (Z3.bb BK101 Z3.z2 hb); replace HB := Z3.k (below_step Z3.z5 hb); (try clear hb); (try clear hb2); (try clear hk); (try clear hi); (try clear ho0)) | ((with_reducible refine gate_dst (N := 8) rfl ?_); refine box_event ?hg (N := 8) ?hd (cs := #[.int .i64 0, .int .i64 0, .int .i64 0, .slice none 0 0]) (t := 28) ?hr ?_; (case hd => rfl); (case hg => rfl); (case hr => first | (go_simp; done) | (go_simp; rfl)); intro gb122 hg w28 hbox hb; have BK122 := Z3.k (hbox); have GW122 := Z3.k (show w.heap.size ≤ gb122 from (by rw [hg]; exact (below_size Z3.z5))); have GE122 := Z3.k (show w.heap.size ≤ gb122 from (by rw [hg]; exact (below_size Z3.z5))); have NB101_122 := Z3.k (show gb101 ≠ gb122 from (by rw [hg]; exact Nat.ne_of_lt (Z3.bl BK101 Z3.z2))); have NB122_101 := Z3.k (show gb122 ≠ gb101 from (by rw [hg]; exact Nat.ne_of_gt (Z3.bl BK101 Z3.z2))); replace HO108 := Z3.k (Kd.R_below Z3.z15 hb); replace HO111 := Z3.k (Kd.R_below Z3.z17 hb); replace HO114 := Z3.k (Kd.R_below Z3.z25 hb); replace HO121 := Z3.k (Kd.R_below Z3.z33 hb); replace BK101 := Z3.k (Z3.bb BK101 Z3.z2 hb); replace HB := Z3.k (below_step Z3.z5 hb); clear hb hbox hg; have hnb29 := NB122_101.out; have hnc29 := NB101_122.out; obtain ⟨hcz30_0, hcz30_1, hcz30_2, hcz30_3, hfz30_0, hfz30_1, hfz30_2, hfz30_3⟩ := cells4 BK122.out; obtain ⟨Ao31, co31, eo31⟩ := Kd.R_slice HO121.out; subst eo31) | ((with_reducible refine gate_callee (f := 10) rfl ?_); refine goesL_ (some 36) rfl rfl Try.func10 (by kernel_rfl) rfl #[.slice A1 l1.length c1] rfl Z3.z1 ?_; (with_reducible refine (laws_toInt64S.calls k _ _ l1 t123 _ ?side1 ?side2 A14.out).mono ?_); (case side1 => exact (by exact Kd.C_below HR1.out Z3.z0)); (case side2 => exact HC1.out); rintro e w32 ⟨v124, rfl, ho0, hb⟩; refine ⟨_, rfl, ?_⟩; have HO125 := Z3.k (Kd.R_lower (Kd.R_new' (Kd.R_new' (Kd.R_new' (Kd.R_new' ho0 (Kd.R_lt Z3.z23)) (Kd.R_lt Z3.z22)) (Kd.R_lt Z3.z21)) (Kd.R_lt Z3.z20)) (below_size Z3.z0)); replace HO108 := Z3.k (Kd.R_elder' Z3.z23 (Kd.R_base ho0) hb); replace HO111 := Z3.k (Kd.R_elder' Z3.z22 (Kd.R_base ho0) hb); replace HO114 := Z3.k (Kd.R_elder' Z3.z21 (Kd.R_base ho0) hb); replace HO121 := Z3.k (Kd.R_elder' Z3.z20 (Kd.R_base ho0) hb); replace BK101 := Z3.k (Z3.bb BK101 (by (repeat (first | (with_reducible first | refine blk_drewN ?_ _ | refine blk_drew ?_ | refine blk_alloc ?_ _) | refine blk_far ?_ NB101_122.out _)); exact BK101.out) hb); replace BK122 := Z3.k (blk_below (g := gb122) (o := .cells #[.int .i64 t116, .int .i64 t117, .int .i64 t118, .slice Ao31 t119.length co31] 28 (0, 0)) (by (with_reducible repeat (first | refine blk_drewN ?_ _ | refine blk_drew ?_ | refine blk_alloc ?_ _)); refine blk_put (cs := #[.int .i64 t116, .int .i64 t117, .int .i64 t118, .slice none 0 0]) ?_ 3 _ rfl; (with_reducible repeat (first | refine blk_drewN ?_ _ | refine blk_drew ?_ | refine blk_alloc ?_ _)); refine blk_put (cs := #[.int .i64 t116, .int .i64 t117, .int .i64 0, .slice none 0 0]) ?_ 2 _ rfl; (with_reducible repeat (first | refine blk_drewN ?_ _ | refine blk_drew ?_ | refine blk_alloc ?_ _)); refine blk_put (cs := #[.int .i64 t116, .int .i64 0, .int .i64 0, .slice none 0 0]) ?_ 1 _ rfl; (with_reducible repeat (first | refine blk_drewN ?_ _ | refine blk_drew ?_ | refine blk_alloc ?_ _)); refine blk_put (cs := #[.int .i64 0, .int .i64 0, .int .i64 0, .slice none 0 0]) ?_ 0 _ rfl; (with_reducible repeat (first | refine blk_drewN ?_ _ | refine blk_drew ?_ | refine blk_alloc ?_ _)); exact BK122.out) hb); replace HB := Z3.k (below_step Z3.z0 hb); (try clear hb); (try clear hb2); (try clear hk); (try clear hi); (try clear ho0); obtain ⟨hcz33_0, hcz33_1, hcz33_2, hcz33_3, hfz33_0, hfz33_1, hfz33_2, hfz33_3⟩ := cells4 BK122.out; obtain ⟨Ao34, co34, eo34⟩ := Kd.R_slice HO125.out; subst eo34) | ((with_reducible refine gate_callee (f := 11) rfl ?_); refine goesL_ (some 40) rfl rfl Try.func11 (by kernel_rfl) rfl #[.agg #[.int .i64 t116, .int .i64 t117, .int .i64 t118, .slice Ao31 t119.length co31], .slice Ao34 t123.length co34] rfl Z3.z1 ?_; (with_reducible refine (impl_Solve.calls k t116 t117 t118 _ _ t119 _ _ t123 t126 t129 _ ?side1 ?side2 ?side3 ?side4 A15.out).mono ?_); (case side1 => exact (by repeat (first | exact (Kd.R_reads' HO121.out).2.2 | (with_reducible refine Kd.C_alloc ?_ _) | (with_reducible refine Kd.C_drewN ?_ _) | (with_reducible refine Kd.C_drew ?_)))); (case side2 => exact (Kd.R_reads' HO121.out).2.1); (case side3 => exact (by repeat (first | exact (Kd.R_reads' HO125.out).2.2 | (with_reducible refine Kd.C_alloc ?_ _) | (with_reducible refine Kd.C_drewN ?_ _) | (with_reducible refine Kd.C_drew ?_)))); (case side4 => exact (Kd.R_reads' HO125.out).2.1); rintro e w35 ⟨v127, rfl, ho0, hb⟩; refine ⟨_, rfl, ?_⟩; have HO128 := Z3.k (Kd.R_lower (Kd.R_new' (Kd.R_new' (Kd.R_new' (Kd.R_new' (Kd.R_new' ho0 (Kd.R_lt Z3.z15)) (Kd.R_lt Z3.z17)) (Kd.R_lt Z3.z25)) (Kd.R_lt Z3.z33)) (Kd.R_lt (by (with_reducible repeat (first | apply Kd.R_alloc | apply Kd.R_drewN | apply Kd.R_drew)); exact HO125.out))) (below_size Z3.z0)); replace HO108 := Z3.k (Kd.R_elder' Z3.z15 (Kd.R_base ho0) hb); replace HO111 := Z3.k (Kd.R_elder' Z3.z17 (Kd.R_base ho0) hb); replace HO114 := Z3.k (Kd.R_elder' Z3.z25 (Kd.R_base ho0) hb); replace HO121 := Z3.k (Kd.R_elder' Z3.z33 (Kd.R_base ho0) hb); replace HO125 := Z3.k (Kd.R_elder' (by (with_reducible repeat (first | apply Kd.R_alloc | apply Kd.R_drewN | apply Kd.R_drew)); exact HO125.out) (Kd.R_base ho0) hb); replace BK101 := Z3.k (Z3.bb BK101 Z3.z2 hb); replace BK122 := Z3.k (Z3.bb BK122 Z3.z4 hb); replace HB := Z3.k (below_step Z3.z0 hb); (try clear hb); (try clear hb2); (try clear hk); (try clear hi); (try clear ho0)))
 (try simp only [Act.put, List.setIfInBounds_toArray, List.set_cons_zero, List.set_cons_succ])
 go_cut [51] (fun v51 wc => ∃ (kq : Nat) (x51_15 : Bool), v51 = .bool x51_15 ∧ Aside0 (laws_FnExactSolve.j0 kq l1 t112 t115 t123 t126 t129 x51_15 a0_0 a0_1 a0_2 l0_3 t116 t117 t118 t119 = some r) ∧ Aside0 (kq ≤ k) ∧ Aside0 (Kd.R (Kd.int .i64) 2 wc w.heap.size (fun k_ => some k_ ≠ ((.slice Ao34 t123.length co34) : Value).ownBlock ∧ some k_ ≠ (v127 : Value).ownBlock ∧ some k_ ≠ ((.slice Ao31 t119.length co31) : Value).ownBlock) v113 t112) ∧ Aside0 (Kd.R (Kd.int .i64) 2 wc w.heap.size (fun k_ => some k_ ≠ (v113 : Value).ownBlock ∧ some k_ ≠ (v127 : Value).ownBlock ∧ some k_ ≠ ((.slice Ao31 t119.length co31) : Value).ownBlock) (.slice Ao34 t123.length co34) t123) ∧ Aside0 (Kd.R (Kd.int .i64) 2 wc w.heap.size (fun k_ => some k_ ≠ (v113 : Value).ownBlock ∧ some k_ ≠ ((.slice Ao34 t123.length co34) : Value).ownBlock ∧ some k_ ≠ ((.slice Ao31 t119.length co31) : Value).ownBlock) v127 t126) ∧ Aside0 (Kd.R (Kd.int .i64) 2 wc w.heap.size (fun k_ => some k_ ≠ (v113 : Value).ownBlock ∧ some k_ ≠ ((.slice Ao34 t123.length co34) : Value).ownBlock ∧ some k_ ≠ (v127 : Value).ownBlock) (.slice Ao31 t119.length co31) t119) ∧ Aside0 (wc.heap[gb101]? = some (.cells #[.int .i64 a0_0, .int .i64 a0_1, .int .i64 a0_2, (.slice A0_3 l0_3.length c0_3)] 24 (0, 0))) ∧ Aside0 (wc.heap[gb122]? = some (.cells #[.int .i64 t116, .int .i64 t117, .int .i64 t118, (.slice Ao31 t119.length co31)] 28 (0, 0))) ∧ Aside0 (Below w.heap.size w wc))
 case first =>
  have H := HC16.out
  clear HC16
  replace H := Option.bind_eq_some_iff.mp H
  obtain ⟨t130, A360, H⟩ := H
  (try dsimp only at H)
  have A36 := Z3.k A360
  clear A360
  by_cases c37 : t130 = true
  ·subst c37
   rw [if_pos rfl] at H
   have H' := Z3.k H
   clear H
   obtain ⟨Ao38, co38, eo38⟩ := Kd.R_slice HO128.out
   subst eo38
   obtain ⟨Ao39, co39, eo39⟩ := Kd.R_slice HO114.out
   subst eo39
   go_wp2_with (first | ((with_reducible refine gate_callee (f := 12) rfl ?_); refine goesL_ (some 45) rfl rfl Try.func12 (by kernel_rfl) rfl #[.slice Ao38 t126.length co38, .slice Ao39 t112.length co39] rfl Z3.z1 ?_; (with_reducible refine (laws_eqInt64S.calls k _ _ t126 _ _ t112 true _ ?side1 ?side2 ?side3 ?side4 A36.out).mono ?_); (case side1 => exact Z3.z38); (case side2 => exact (Kd.R_reads' HO128.out).2.1); (case side3 => exact Z3.z39); (case side4 => exact (Kd.R_reads' HO114.out).2.1); rintro e w' ⟨rfl, ⟨nd, rfl⟩⟩; refine ⟨_, rfl, ?_⟩))
   go_meet
   case rel => exact ⟨_, ((t129 != t115)), Z3.z34, H', ⟨(by first | omega | exact Nat.le_refl _)⟩, ⟨Z3.z45⟩, ⟨Z3.z43⟩, ⟨Z3.z42⟩, ⟨Z3.z44⟩, ⟨Z3.z2⟩, ⟨Z3.z4⟩, ⟨Z3.z0⟩⟩
  replace c37 := Bool.eq_false_iff.mpr c37
  subst c37
  rw [if_neg (show ¬ (false = true) by decide)] at H
  have H' := Z3.k H
  clear H
  obtain ⟨Ao40, co40, eo40⟩ := Kd.R_slice HO128.out
  subst eo40
  obtain ⟨Ao41, co41, eo41⟩ := Kd.R_slice HO114.out
  subst eo41
  go_wp2_with (first | ((with_reducible refine gate_callee (f := 12) rfl ?_); refine goesL_ (some 45) rfl rfl Try.func12 (by kernel_rfl) rfl #[.slice Ao40 t126.length co40, .slice Ao41 t112.length co41] rfl Z3.z1 ?_; (with_reducible refine (laws_eqInt64S.calls k _ _ t126 _ _ t112 false _ ?side1 ?side2 ?side3 ?side4 A36.out).mono ?_); (case side1 => exact Z3.z38); (case side2 => exact (Kd.R_reads' HO128.out).2.1); (case side3 => exact Z3.z39); (case side4 => exact (Kd.R_reads' HO114.out).2.1); rintro e w' ⟨rfl, ⟨nd, rfl⟩⟩; refine ⟨_, rfl, ?_⟩))
  go_meet
  case rel => exact ⟨_, (true), Z3.z34, H', ⟨(by first | omega | exact Nat.le_refl _)⟩, ⟨Z3.z45⟩, ⟨Z3.z43⟩, ⟨Z3.z42⟩, ⟨Z3.z44⟩, ⟨Z3.z2⟩, ⟨Z3.z4⟩, ⟨Z3.z0⟩⟩
 case rest =>
  clear HC16
  try clear c1
  try clear c2
  try clear p2
  try clear c3
  try clear c3b0
  try clear c3b1
  try clear c6
  try clear c6b0
  try clear c7
  try clear c8
  try clear c9
  try clear c10
  try clear c11
  try clear c12
  try clear c29
  try clear c37
  try clear hcz18_0
  try clear hcz18_1
  try clear hcz18_2
  try clear hcz18_3
  try clear hcz20_0
  try clear hcz20_1
  try clear hcz20_2
  try clear hcz20_3
  try clear hcz26_0
  try clear hcz26_1
  try clear hcz26_2
  try clear hcz26_3
  try clear hcz30_0
  try clear hcz30_1
  try clear hcz30_2
  try clear hcz30_3
  try clear hcz33_0
  try clear hcz33_1
  try clear hcz33_2
  try clear hcz33_3
  try clear hcz8_0
  try clear hcz8_1
  try clear hcz8_2
  try clear hcz8_3
  try clear hfz18_0
  try clear hfz18_1
  try clear hfz18_2
  try clear hfz18_3
  try clear hfz20_0
  try clear hfz20_1
  try clear hfz20_2
  try clear hfz20_3
  try clear hfz26_0
  try clear hfz26_1
  try clear hfz26_2
  try clear hfz26_3
  try clear hfz30_0
  try clear hfz30_1
  try clear hfz30_2
  try clear hfz30_3
  try clear hfz33_0
  try clear hfz33_1
  try clear hfz33_2
  try clear hfz33_3
  try clear hfz8_0
  try clear hfz8_1
  try clear hfz8_2
  try clear hfz8_3
  obtain ⟨kq, x51_15, rfl, HA, HJ15, HO_6, HO_9, HO_10, HO_123003, BK101, BK122, HB⟩ := hcut
  cases kq with
  | zero => exact absurd HA.out (by simp [laws_FnExactSolve.j0])
  | succ kj15 =>
   have H := HA.out
   clear HA
   simp only [laws_FnExactSolve.j0] at H
   by_cases c42 : x51_15 = true
   ·subst c42
    rw [if_pos rfl] at H
    obtain rfl := Option.some.inj H
    go_wp2
    go_ret
    exact ⟨Z3.z13, Z3.z0⟩
   replace c42 := Bool.eq_false_iff.mpr c42
   subst c42
   rw [if_neg (show ¬ (false = true) by decide)] at H
   replace H := Option.bind_eq_some_iff.mp H
   obtain ⟨⟨t131, t132, t133, t134⟩, A430, H⟩ := H
   (try dsimp only at H)
   have A43 := Z3.k A430
   clear A430
   replace H := Option.bind_eq_some_iff.mp H
   obtain ⟨t137, A440, H⟩ := H
   (try dsimp only at H)
   have A44 := Z3.k A440
   clear A440
   by_cases c45 : t137 = true
   ·subst c45
    rw [if_pos rfl] at H
    replace H := Option.bind_eq_some_iff.mp H
    obtain ⟨t138, A460, H⟩ := H
    (try dsimp only at H)
    have A46 := Z3.k A460
    clear A460
    replace H := Option.bind_eq_some_iff.mp H
    obtain ⟨t141, A470, H⟩ := H
    (try dsimp only at H)
    have A47 := Z3.k A470
    clear A470
    by_cases c48 : t141 = true
    ·subst c48
     rw [if_pos rfl] at H
     replace H := Option.bind_eq_some_iff.mp H
     obtain ⟨⟨t142, t143⟩, A490, H⟩ := H
     (try dsimp only at H)
     have A49 := Z3.k A490
     clear A490
     replace H := Option.bind_eq_some_iff.mp H
     obtain ⟨⟨t144, t145⟩, A500, H⟩ := H
     (try dsimp only at H)
     have A50 := Z3.k A500
     clear A500
     have HC51 := Z3.k H
     clear H
     try go_wp2
     replace HO_6 := Z3.k (Kd.R_drew HO_6.out)
     replace HO_9 := Z3.k (Kd.R_drew HO_9.out)
     replace HO_10 := Z3.k (Kd.R_drew HO_10.out)
     replace HO_123003 := Z3.k (Kd.R_drew HO_123003.out)
     replace BK101 := Z3.k (blk_drew BK101.out)
     replace BK122 := Z3.k (blk_drew BK122.out)
     replace HB := Z3.k (below_drew1 HB.out)
     refine start_ (n := 5) (S := fun w' => w'.cell? ⟨gb122, 0, none⟩ = some (.int .i64 t116) ∧ w'.cell? ⟨gb122, 1, none⟩ = some (.int .i64 t117) ∧ w'.cell? ⟨gb122, 2, none⟩ = some (.int .i64 t118) ∧ w'.cell? ⟨gb122, 3, none⟩ = some (.slice Ao31 t119.length co31) ∧ w'.cell? ⟨gb101, 0, none⟩ = some (.int .i64 a0_0) ∧ w'.cell? ⟨gb101, 1, none⟩ = some (.int .i64 a0_1) ∧ w'.cell? ⟨gb101, 2, none⟩ = some (.int .i64 a0_2) ∧ w'.cell? ⟨gb101, 3, none⟩ = some (.slice A0_3 l0_3.length c0_3)) (ds := []) #[false, false, false, false, false] (by kernel_rfl) rfl rfl Z3.z3 (fun hHeld => ?_)
     generalize wc.drew = w52 at HO_6 HO_9 HO_10 HO_123003 BK101 BK122 HB hHeld ⊢
     refine Z3.pT8 0 52 (Z3.b 5 1) (by kernel_rfl) hHeld ?_
     refine Z3.pT8 1 53 (Z3.b 5 3) (by kernel_rfl) hHeld ?_
     refine one_ (i := 2) (N := some 54) (Z3.b 5 7) rfl rfl (by kernel_rfl) (by decide) (fun K hK => ?_)
     refine goes_ Try.func9 (by kernel_rfl) rfl #[.agg #[.int .i64 a0_0, .int .i64 a0_1, .int .i64 a0_2, .slice A0_3 l0_3.length c0_3]] (by rfl) rfl rfl Z3.z1 ?_
     with_reducible refine (laws_toMatrix.calls kj15 a0_0 a0_1 a0_2 _ _ l0_3 t131 t132 t133 t134 _ ?side1 ?side2 A43.out).mono ?_
     (case side1 => exact Z3.z11)
     (case side2 => exact HC0_3.out)
     rintro e w53 ⟨v135, rfl, ho0, hb⟩
     refine ⟨_, rfl, ?_⟩
     have HO136 := Z3.k (Kd.R_lower (Kd.R_new' (Kd.R_new' (Kd.R_new' (Kd.R_new' ho0 (Kd.R_lt Z3.z8)) (Kd.R_lt Z3.z10)) (Kd.R_lt Z3.z7)) (Kd.R_lt Z3.z6)) (below_size Z3.z0))
     replace HO_6 := Z3.k (Kd.R_elder' Z3.z8 (Kd.R_base ho0) hb)
     replace HO_9 := Z3.k (Kd.R_elder' Z3.z10 (Kd.R_base ho0) hb)
     replace HO_10 := Z3.k (Kd.R_elder' Z3.z7 (Kd.R_base ho0) hb)
     replace HO_123003 := Z3.k (Kd.R_elder' Z3.z6 (Kd.R_base ho0) hb)
     replace BK101 := Z3.k (Z3.bb BK101 Z3.z2 hb)
     replace BK122 := Z3.k (Z3.bb BK122 Z3.z4 hb)
     replace HB := Z3.k (below_step Z3.z0 hb)
     (try clear hb)
     (try clear hb2)
     (try clear hk)
     (try clear hi)
     (try clear ho0)
     obtain ⟨Ao54, co54, eo54⟩ := Kd.R_slice HO136.out
     (first | subst eo54 | (injection eo54 with f1_ f2_ f3_; have f4_ := f1_.symm; have f5_ := f3_.symm; clear f1_ f2_ f3_; subst f4_; subst f5_))
     refine hK.out _ _ Z3.z3 (fun hHeld => ?_)
     clear hK K
     refine norm_ (a' := ?_) ?_ ?_
     rotate_left
     ·show Act.put _ (some 54) _ = _
      simp only [Act.put, List.setIfInBounds_toArray, List.set_cons_zero, List.set_cons_succ, i64_w, i32_w]
      rfl
     refine one_ (i := 3) (N := some 55) (Z3.b 5 15) rfl rfl (by kernel_rfl) (by decide) (fun K hK => ?_)
     refine goes_ Try.func13 (by kernel_rfl) rfl #[.agg #[.int .i64 t116, .int .i64 t117, .int .i64 t118, .slice Ao31 t119.length co31], .agg #[.int .i64 t131, .int .i64 t132, .int .i64 t133, .slice Ao54 t134.length co54]] (by rfl) rfl rfl Z3.z1 ?_
     with_reducible refine (laws_eqMatrix.calls kj15 t116 t117 t118 _ _ t119 t131 t132 t133 _ _ t134 true _ ?side1 ?side2 ?side3 ?side4 A44.out).mono ?_
     (case side1 => exact Z3.z26)
     (case side2 => exact (Kd.R_reads' HO_123003.out).2.1)
     (case side3 => exact Z3.z27)
     (case side4 => exact (Kd.R_reads' HO136.out).2.1)
     rintro e w55 ⟨rfl, hb⟩
     refine ⟨_, rfl, ?_⟩
     replace HO_6 := Z3.k (Kd.R_below Z3.z8 hb)
     replace HO_9 := Z3.k (Kd.R_below Z3.z10 hb)
     replace HO_10 := Z3.k (Kd.R_below Z3.z7 hb)
     replace HO_123003 := Z3.k (Kd.R_below Z3.z6 hb)
     replace HO136 := Z3.k (Kd.R_below Z3.z16 hb)
     replace BK101 := Z3.k (Z3.bb BK101 Z3.z2 hb)
     replace BK122 := Z3.k (Z3.bb BK122 Z3.z4 hb)
     replace HB := Z3.k (below_step Z3.z0 hb)
     (try clear hb)
     (try clear hb2)
     (try clear hk)
     (try clear hi)
     refine hK.out _ _ Z3.z3 (fun hHeld => ?_)
     clear hK K
     refine norm_ (a' := ?_) ?_ ?_
     rotate_left
     ·show Act.put _ (some 55) _ = _
      simp only [Act.put, List.setIfInBounds_toArray, List.set_cons_zero, List.set_cons_succ, i64_w, i32_w]
      rfl
     refine Z3.pP 4 56 (Z3.b 5 31) (by kernel_rfl) ?_
     refine done_ (by kernel_rfl) ?_
     go_upto_region 20 with (first | ((with_reducible refine gate_callee (f := 10) rfl ?_); refine goesL_ (some 59) rfl rfl Try.func10 (by kernel_rfl) rfl #[.slice A1 l1.length c1] rfl Z3.z1 ?_; (with_reducible refine (laws_toInt64S.calls kj15 _ _ l1 t138 _ ?side1 ?side2 A46.out).mono ?_); (case side1 => exact Z3.z18); (case side2 => exact HC1.out); rintro e w56 ⟨v139, rfl, ho0, hb⟩; refine ⟨_, rfl, ?_⟩; have HO140 := Z3.k (Kd.R_lower (Kd.R_new' (Kd.R_new' (Kd.R_new' (Kd.R_new' (Kd.R_new' ho0 (Kd.R_lt Z3.z8)) (Kd.R_lt Z3.z10)) (Kd.R_lt Z3.z7)) (Kd.R_lt Z3.z6)) (Kd.R_lt Z3.z16)) (below_size Z3.z0)); replace HO_6 := Z3.k (Kd.R_elder' Z3.z8 (Kd.R_base ho0) hb); replace HO_9 := Z3.k (Kd.R_elder' Z3.z10 (Kd.R_base ho0) hb); replace HO_10 := Z3.k (Kd.R_elder' Z3.z7 (Kd.R_base ho0) hb); replace HO_123003 := Z3.k (Kd.R_elder' Z3.z6 (Kd.R_base ho0) hb); replace HO136 := Z3.k (Kd.R_elder' Z3.z16 (Kd.R_base ho0) hb); replace BK101 := Z3.k (Z3.bb BK101 Z3.z2 hb); replace BK122 := Z3.k (Z3.bb BK122 Z3.z4 hb); replace HB := Z3.k (below_step Z3.z0 hb); (try clear hb); (try clear hb2); (try clear hk); (try clear hi); (try clear ho0); obtain ⟨Ao57, co57, eo57⟩ := Kd.R_slice HO140.out; subst eo57) | ((with_reducible refine gate_callee (f := 12) rfl ?_); refine goesL_ (some 60) rfl rfl Try.func12 (by kernel_rfl) rfl #[.slice Ao34 t123.length co34, .slice Ao57 t138.length co57] rfl Z3.z1 ?_; (with_reducible refine (laws_eqInt64S.calls kj15 _ _ t123 _ _ t138 true _ ?side1 ?side2 ?side3 ?side4 A47.out).mono ?_); (case side1 => exact Z3.z40); (case side2 => exact (Kd.R_reads' HO_9.out).2.1); (case side3 => exact Z3.z37); (case side4 => exact (Kd.R_reads' HO140.out).2.1); rintro e w' ⟨rfl, ⟨nd, rfl⟩⟩; refine ⟨_, rfl, ?_⟩; have hnb58 := NB122_101.out; have hnc58 := NB101_122.out; obtain ⟨hcz59_0, hcz59_1, hcz59_2, hcz59_3, hfz59_0, hfz59_1, hfz59_2, hfz59_3⟩ := cells4 BK122.out) | ((with_reducible refine gate_callee (f := 14) rfl ?_); refine goesL_ (some 64) rfl rfl Try.func14 (by kernel_rfl) rfl #[.agg #[.int .i64 t116, .int .i64 t117, .int .i64 t118, .slice Ao31 t119.length co31], .int .i64 1] rfl Z3.z1 ?_; (with_reducible refine (laws_markMatrix.calls kj15 t116 t117 t118 (fun k_ => some k_ = (.slice Ao31 t119.length co31 : Value).ownBlock) (.slice Ao31 t119.length co31) t119 1 t142 t143 w _ ?side1 ?side2 A49.out).mono ?_); (case side1 => exact Z3.z0); (case side2 => exact Kd.R_tight rfl HO_123003.out); rintro e w60 ⟨rfl, hy0, hb, hkp⟩; refine ⟨_, rfl, ?_⟩; replace HO_6 := Z3.k (Kd.R_mono (ok' := fun k_ => some k_ ≠ (.slice Ao34 t123.length co34 : Value).ownBlock ∧ some k_ ≠ (v127 : Value).ownBlock ∧ some k_ ≠ (.slice Ao31 t119.length co31 : Value).ownBlock ∧ some k_ ≠ (.slice Ao54 t134.length co54 : Value).ownBlock ∧ some k_ ≠ (.slice Ao57 t138.length co57 : Value).ownBlock) (Kd.R_keptB (HO_6.out) hkp (fun k_ hk_ hs_ => (hk_.1.1.2.2) hs_)) (fun k_ hk_ => ⟨hk_.1.1.1.1, hk_.1.1.1.2.1, hk_.1.1.1.2.2, hk_.1.1.2, hk_.1.2⟩)); replace HO_9 := Z3.k (Kd.R_mono (ok' := fun k_ => some k_ ≠ (v113 : Value).ownBlock ∧ some k_ ≠ (v127 : Value).ownBlock ∧ some k_ ≠ (.slice Ao31 t119.length co31 : Value).ownBlock ∧ some k_ ≠ (.slice Ao54 t134.length co54 : Value).ownBlock ∧ some k_ ≠ (.slice Ao57 t138.length co57 : Value).ownBlock) (Kd.R_keptB (HO_9.out) hkp (fun k_ hk_ hs_ => (hk_.1.1.2.2) hs_)) (fun k_ hk_ => ⟨hk_.1.1.1.1, hk_.1.1.1.2.1, hk_.1.1.1.2.2, hk_.1.1.2, hk_.1.2⟩)); replace HO_10 := Z3.k (Kd.R_mono (ok' := fun k_ => some k_ ≠ (v113 : Value).ownBlock ∧ some k_ ≠ (.slice Ao34 t123.length co34 : Value).ownBlock ∧ some k_ ≠ (.slice Ao31 t119.length co31 : Value).ownBlock ∧ some k_ ≠ (.slice Ao54 t134.length co54 : Value).ownBlock ∧ some k_ ≠ (.slice Ao57 t138.length co57 : Value).ownBlock) (Kd.R_keptB (HO_10.out) hkp (fun k_ hk_ hs_ => (hk_.1.1.2.2) hs_)) (fun k_ hk_ => ⟨hk_.1.1.1.1, hk_.1.1.1.2.1, hk_.1.1.1.2.2, hk_.1.1.2, hk_.1.2⟩)); replace BK101 := Z3.k (blk_kept Z3.z2 hkp (fun hs_ => (fun e_ => (Kd.R_ne HO_123003.out BK101.out (by decide)) e_) hs_)); replace BK122 := Z3.k (blk_kept Z3.z4 hkp (fun hs_ => (fun e_ => (Kd.R_ne HO_123003.out BK122.out (by decide)) e_) hs_)); replace HO_123003 := Z3.k (Kd.R_reok rfl hy0 (fun k_ e_ => HO_123003.out.1 k_ e_)); replace HO136 := Z3.k (Kd.R_mono (ok' := fun k_ => some k_ ≠ (v113 : Value).ownBlock ∧ some k_ ≠ (.slice Ao34 t123.length co34 : Value).ownBlock ∧ some k_ ≠ (v127 : Value).ownBlock ∧ some k_ ≠ (.slice Ao31 t119.length co31 : Value).ownBlock ∧ some k_ ≠ (.slice Ao57 t138.length co57 : Value).ownBlock) (Kd.R_keptB (HO136.out) hkp (fun k_ hk_ hs_ => (hk_.1.2) hs_)) (fun k_ hk_ => ⟨hk_.1.1.1.1.1.2, hk_.1.1.1.1.2, hk_.1.1.1.2, hk_.1.1.2, hk_.1.2⟩)); replace HO140 := Z3.k (Kd.R_mono (ok' := fun k_ => some k_ ≠ (v113 : Value).ownBlock ∧ some k_ ≠ (.slice Ao34 t123.length co34 : Value).ownBlock ∧ some k_ ≠ (v127 : Value).ownBlock ∧ some k_ ≠ (.slice Ao31 t119.length co31 : Value).ownBlock ∧ some k_ ≠ (.slice Ao54 t134.length co54 : Value).ownBlock) (Kd.R_keptB (HO140.out) hkp (fun k_ hk_ hs_ => (hk_.1.2) hs_)) (fun k_ hk_ => ⟨hk_.1.1.1.1.1.2, hk_.1.1.1.1.2, hk_.1.1.1.2, hk_.1.1.2, hk_.1.2⟩)); replace HB := Z3.k (hb); (try clear hb); (try clear hkp); (try clear hy0)) | ((with_reducible refine gate_callee (f := 15) rfl ?_); refine goesL_ (some 67) rfl rfl Try.func15 (by kernel_rfl) rfl #[.slice Ao34 t123.length co34, .int .i64 t142] rfl Z3.z1 ?_; (with_reducible refine (laws_markInt64S.calls kj15 (fun k_ => some k_ = (.slice Ao34 t123.length co34 : Value).ownBlock) (.slice Ao34 t123.length co34) t123 t142 t144 t145 w _ ?side1 ?side2 A50.out).mono ?_); (case side1 => exact Z3.z0); (case side2 => exact Kd.R_tight rfl HO_9.out); rintro e w61 ⟨rfl, hy0, hb, hkp⟩; refine ⟨_, rfl, ?_⟩; replace HO_6 := Z3.k (Kd.R_mono (ok' := fun k_ => some k_ ≠ (.slice Ao34 t123.length co34 : Value).ownBlock ∧ some k_ ≠ (v127 : Value).ownBlock ∧ some k_ ≠ (.slice Ao31 t119.length co31 : Value).ownBlock ∧ some k_ ≠ (.slice Ao54 t134.length co54 : Value).ownBlock ∧ some k_ ≠ (.slice Ao57 t138.length co57 : Value).ownBlock) (Kd.R_keptB (HO_6.out) hkp (fun k_ hk_ hs_ => (hk_.1) hs_)) (fun k_ hk_ => ⟨hk_.1.1, hk_.1.2.1, hk_.1.2.2.1, hk_.1.2.2.2.1, hk_.1.2.2.2.2⟩)); replace HO_10 := Z3.k (Kd.R_mono (ok' := fun k_ => some k_ ≠ (v113 : Value).ownBlock ∧ some k_ ≠ (.slice Ao34 t123.length co34 : Value).ownBlock ∧ some k_ ≠ (.slice Ao31 t119.length co31 : Value).ownBlock ∧ some k_ ≠ (.slice Ao54 t134.length co54 : Value).ownBlock ∧ some k_ ≠ (.slice Ao57 t138.length co57 : Value).ownBlock) (Kd.R_keptB (HO_10.out) hkp (fun k_ hk_ hs_ => (hk_.2.1) hs_)) (fun k_ hk_ => ⟨hk_.1.1, hk_.1.2.1, hk_.1.2.2.1, hk_.1.2.2.2.1, hk_.1.2.2.2.2⟩)); replace HO_123003 := Z3.k (Kd.R_mono (ok' := fun k_ => some k_ ≠ (v113 : Value).ownBlock ∧ some k_ ≠ (.slice Ao34 t123.length co34 : Value).ownBlock ∧ some k_ ≠ (v127 : Value).ownBlock ∧ some k_ ≠ (.slice Ao54 t134.length co54 : Value).ownBlock ∧ some k_ ≠ (.slice Ao57 t138.length co57 : Value).ownBlock) (Kd.R_keptB (HO_123003.out) hkp (fun k_ hk_ hs_ => (hk_.1.1.2.1) hs_)) (fun k_ hk_ => ⟨hk_.1.1.1.1, hk_.1.1.1.2.1, hk_.1.1.1.2.2, hk_.1.1.2, hk_.1.2⟩)); replace BK101 := Z3.k (blk_kept Z3.z2 hkp (fun hs_ => (fun e_ => (Kd.R_ne HO_9.out BK101.out (by decide)) e_) hs_)); replace BK122 := Z3.k (blk_kept Z3.z4 hkp (fun hs_ => (fun e_ => (Kd.R_ne HO_9.out BK122.out (by decide)) e_) hs_)); replace HO_9 := Z3.k (Kd.R_reok rfl hy0 (fun k_ e_ => HO_9.out.1 k_ e_)); replace HO136 := Z3.k (Kd.R_mono (ok' := fun k_ => some k_ ≠ (v113 : Value).ownBlock ∧ some k_ ≠ (.slice Ao34 t123.length co34 : Value).ownBlock ∧ some k_ ≠ (v127 : Value).ownBlock ∧ some k_ ≠ (.slice Ao31 t119.length co31 : Value).ownBlock ∧ some k_ ≠ (.slice Ao57 t138.length co57 : Value).ownBlock) (Kd.R_keptB (HO136.out) hkp (fun k_ hk_ hs_ => (hk_.2.1) hs_)) (fun k_ hk_ => ⟨hk_.1.1, hk_.1.2.1, hk_.1.2.2.1, hk_.1.2.2.2.1, hk_.1.2.2.2.2⟩)); replace HO140 := Z3.k (Kd.R_mono (ok' := fun k_ => some k_ ≠ (v113 : Value).ownBlock ∧ some k_ ≠ (.slice Ao34 t123.length co34 : Value).ownBlock ∧ some k_ ≠ (v127 : Value).ownBlock ∧ some k_ ≠ (.slice Ao31 t119.length co31 : Value).ownBlock ∧ some k_ ≠ (.slice Ao54 t134.length co54 : Value).ownBlock) (Kd.R_keptB (HO140.out) hkp (fun k_ hk_ hs_ => (hk_.2.1) hs_)) (fun k_ hk_ => ⟨hk_.1.1, hk_.1.2.1, hk_.1.2.2.1, hk_.1.2.2.2.1, hk_.1.2.2.2.2⟩)); replace HB := Z3.k (hb); (try clear hb); (try clear hkp); (try clear hy0)))
     (try simp only [Act.put, List.setIfInBounds_toArray, List.set_cons_zero, List.set_cons_succ])
     go_cut [80] (fun v80 wc => ∃ (kq : Nat) (x80_50 : Bool), v80 = .bool x80_50 ∧ Aside0 (laws_FnExactSolve.j1 kq l1 t112 t115 t126 x80_50 a0_0 a0_1 a0_2 l0_3 = some r) ∧ Aside0 (kq ≤ kj15) ∧ Aside0 (Kd.R (Kd.int .i64) 2 wc w.heap.size (fun k_ => some k_ ≠ (v127 : Value).ownBlock ∧ some k_ ≠ ((.slice Ao31 t119.length co31) : Value).ownBlock) v113 t112) ∧ Aside0 (Kd.R (Kd.int .i64) 2 wc w.heap.size (fun k_ => some k_ ≠ (v113 : Value).ownBlock ∧ some k_ ≠ ((.slice Ao31 t119.length co31) : Value).ownBlock) v127 t126) ∧ Aside0 (Kd.R (Kd.int .i64) 2 wc w.heap.size (fun k_ => some k_ ≠ (v113 : Value).ownBlock ∧ some k_ ≠ (v127 : Value).ownBlock) (.slice Ao31 t119.length co31) t143) ∧ Aside0 (wc.heap[gb101]? = some (.cells #[.int .i64 a0_0, .int .i64 a0_1, .int .i64 a0_2, (.slice A0_3 l0_3.length c0_3)] 24 (0, 0))) ∧ Aside0 (wc.heap[gb122]? = some (.cells #[.int .i64 t116, .int .i64 t117, .int .i64 t118, (.slice Ao31 t119.length co31)] 28 (0, 0))) ∧ Aside0 (Below w.heap.size w wc))
     case first =>
      have H := HC51.out
      clear HC51
      by_cases c62 : t144 < 0
      ·rw [if_pos c62] at H
       have c62b0 : decide (t144 < 0) = true := decide_eq_true c62
       clear c62
       (first | rw [c62b0] | (simp only [i64_w, i32_w]; rw [c62b0]) | skip)
       have H' := Z3.k H
       clear H
       go_wp2
       go_meet
       case rel => exact ⟨_, (true), Z3.z34, H', ⟨(by have := HJ15.out; first | omega | exact Nat.le_refl _)⟩, ⟨Z3.z30⟩, ⟨Z3.z31⟩, ⟨Z3.z28⟩, ⟨Z3.z2⟩, ⟨Z3.z4⟩, ⟨Z3.z0⟩⟩
      rw [if_neg c62] at H
      have c62b0 : decide (t144 < 0) = false := decide_eq_false c62
      clear c62
      (first | rw [c62b0] | (simp only [i64_w, i32_w]; rw [c62b0]) | skip)
      replace H := Option.bind_eq_some_iff.mp H
      obtain ⟨t146, A630, H⟩ := H
      (try dsimp only at H)
      have A63 := Z3.k A630
      clear A630
      by_cases c64 : t146 = true
      ·subst c64
       rw [if_pos rfl] at H
       have H' := Z3.k H
       clear H
       obtain ⟨Ao65, co65, eo65⟩ := Kd.R_slice HO_10.out
       subst eo65
       obtain ⟨Ao66, co66, eo66⟩ := Kd.R_slice HO_6.out
       subst eo66
       go_wp2_with (first | (go_at_call 12; (with_reducible refine (laws_eqInt64S.calls kj15 _ _ t126 _ _ t112 true _ ?side1 ?side2 ?side3 ?side4 A63.out).mono ?_); (case side1 => exact Z3.z9); (case side2 => exact (Kd.R_reads' HO_10.out).2.1); (case side3 => exact Z3.z19); (case side4 => exact (Kd.R_reads' HO_6.out).2.1); rintro e w' ⟨rfl, ⟨nd, rfl⟩⟩))
       go_meet
       case rel => exact ⟨_, ((t129 != t115)), Z3.z34, H', ⟨(by have := HJ15.out; first | omega | exact Nat.le_refl _)⟩, ⟨Z3.z30⟩, ⟨Z3.z31⟩, ⟨Z3.z28⟩, ⟨Z3.z2⟩, ⟨Z3.z4⟩, ⟨Z3.z0⟩⟩
      replace c64 := Bool.eq_false_iff.mpr c64
      subst c64
      rw [if_neg (show ¬ (false = true) by decide)] at H
      have H' := Z3.k H
      clear H
      obtain ⟨Ao67, co67, eo67⟩ := Kd.R_slice HO_10.out
      subst eo67
      obtain ⟨Ao68, co68, eo68⟩ := Kd.R_slice HO_6.out
      subst eo68
      go_wp2_with (first | (go_at_call 12; (with_reducible refine (laws_eqInt64S.calls kj15 _ _ t126 _ _ t112 false _ ?side1 ?side2 ?side3 ?side4 A63.out).mono ?_); (case side1 => exact Z3.z9); (case side2 => exact (Kd.R_reads' HO_10.out).2.1); (case side3 => exact Z3.z19); (case side4 => exact (Kd.R_reads' HO_6.out).2.1); rintro e w' ⟨rfl, ⟨nd, rfl⟩⟩))
      go_meet
      case rel => exact ⟨_, (true), Z3.z34, H', ⟨(by have := HJ15.out; first | omega | exact Nat.le_refl _)⟩, ⟨Z3.z30⟩, ⟨Z3.z31⟩, ⟨Z3.z28⟩, ⟨Z3.z2⟩, ⟨Z3.z4⟩, ⟨Z3.z0⟩⟩
     case rest =>
      clear HC51
      try clear c1
      try clear c2
      try clear p2
      try clear c3
      try clear c3b0
      try clear c3b1
      try clear c4
      try clear c5
      try clear c6
      try clear c6b0
      try clear c7
      try clear c8
      try clear c9
      try clear c10
      try clear c11
      try clear c12
      try clear c13
      try clear c14
      try clear c15
      try clear c29
      try clear c37
      try clear c42
      try clear c45
      try clear c48
      try clear c58
      try clear c62
      try clear c62b0
      try clear c64
      try clear hcz18_0
      try clear hcz18_1
      try clear hcz18_2
      try clear hcz18_3
      try clear hcz20_0
      try clear hcz20_1
      try clear hcz20_2
      try clear hcz20_3
      try clear hcz26_0
      try clear hcz26_1
      try clear hcz26_2
      try clear hcz26_3
      try clear hcz30_0
      try clear hcz30_1
      try clear hcz30_2
      try clear hcz30_3
      try clear hcz33_0
      try clear hcz33_1
      try clear hcz33_2
      try clear hcz33_3
      try clear hcz59_0
      try clear hcz59_1
      try clear hcz59_2
      try clear hcz59_3
      try clear hcz8_0
      try clear hcz8_1
      try clear hcz8_2
      try clear hcz8_3
      try clear hfz18_0
      try clear hfz18_1
      try clear hfz18_2
      try clear hfz18_3
      try clear hfz20_0
      try clear hfz20_1
      try clear hfz20_2
      try clear hfz20_3
      try clear hfz26_0
      try clear hfz26_1
      try clear hfz26_2
      try clear hfz26_3
      try clear hfz30_0
      try clear hfz30_1
      try clear hfz30_2
      try clear hfz30_3
      try clear hfz33_0
      try clear hfz33_1
      try clear hfz33_2
      try clear hfz33_3
      try clear hfz59_0
      try clear hfz59_1
      try clear hfz59_2
      try clear hfz59_3
      try clear hfz8_0
      try clear hfz8_1
      try clear hfz8_2
      try clear hfz8_3
      try clear p2
      obtain ⟨kq, x80_50, rfl, HA, HJ50, HO_6, HO_10, HO_123003, BK101, BK122, HB⟩ := hcut
      have hl123003_50 := (Kd.R_reads' HO_123003.out).1
      rw [hl123003_50] at HO_123003
      (try simp only [hl123003_50])
      (try simp only [hl123003_50] at BK101)
      (try simp only [hl123003_50] at BK122)
      (try simp only [hl123003_50] at HO_6)
      (try simp only [hl123003_50] at HO_10)
      cases kq with
      | zero => exact absurd HA.out (by simp [laws_FnExactSolve.j1])
      | succ kj50 =>
       have H := HA.out
       clear HA
       simp only [laws_FnExactSolve.j1] at H
       by_cases c69 : x80_50 = true
       ·subst c69
        rw [if_pos rfl] at H
        obtain rfl := Option.some.inj H
        go_wp2
        go_ret
        exact ⟨Z3.z13, Z3.z0⟩
       replace c69 := Bool.eq_false_iff.mpr c69
       subst c69
       rw [if_neg (show ¬ (false = true) by decide)] at H
       replace H := Option.bind_eq_some_iff.mp H
       obtain ⟨⟨t147, t148⟩, A700, H⟩ := H
       (try dsimp only at H)
       have A70 := Z3.k A700
       clear A700
       replace H := Option.bind_eq_some_iff.mp H
       obtain ⟨t149, A710, H⟩ := H
       (try dsimp only at H)
       have A71 := Z3.k A710
       clear A710
       by_cases c72 : t149 < 0
       ·rw [if_pos c72] at H
        have c72b0 : decide (t149 < 0) = true := decide_eq_true c72
        clear c72
        obtain rfl := Option.some.inj H
        obtain ⟨Ao73, co73, eo73⟩ := Kd.R_slice HO_10.out
        subst eo73
        go_wp2_with (first | ((with_reducible refine gate_callee (f := 15) rfl ?_); refine goesL_ (some 83) rfl rfl Try.func15 (by kernel_rfl) rfl #[.slice Ao73 t126.length co73, .int .i64 1] rfl Z3.z1 ?_; (with_reducible refine (laws_markInt64S.calls kj50 (fun k_ => some k_ = (.slice Ao73 t126.length co73 : Value).ownBlock) (.slice Ao73 t126.length co73) t126 1 t147 t148 w _ ?side1 ?side2 A70.out).mono ?_); (case side1 => exact Z3.z0); (case side2 => exact Kd.R_tight rfl HO_10.out); rintro e w74 ⟨rfl, hy0, hb, hkp⟩; refine ⟨_, rfl, ?_⟩; replace HO_6 := Z3.k (Kd.R_mono (ok' := fun k_ => some k_ ≠ (.slice Ao73 t126.length co73 : Value).ownBlock ∧ some k_ ≠ (.slice Ao31 t143.length co31 : Value).ownBlock) (Kd.R_keptB (HO_6.out) hkp (fun k_ hk_ hs_ => (hk_.1) hs_)) (fun k_ hk_ => ⟨hk_.1.1, hk_.1.2⟩)); replace HO_123003 := Z3.k (Kd.R_mono (ok' := fun k_ => some k_ ≠ (v113 : Value).ownBlock ∧ some k_ ≠ (.slice Ao73 t126.length co73 : Value).ownBlock) (Kd.R_keptB (HO_123003.out) hkp (fun k_ hk_ hs_ => (hk_.2) hs_)) (fun k_ hk_ => ⟨hk_.1.1, hk_.1.2⟩)); replace BK101 := Z3.k (blk_kept Z3.z2 hkp (fun hs_ => (fun e_ => (Kd.R_ne HO_10.out BK101.out (by decide)) e_) hs_)); replace BK122 := Z3.k (blk_kept Z3.z4 hkp (fun hs_ => (fun e_ => (Kd.R_ne HO_10.out BK122.out (by decide)) e_) hs_)); replace HO_10 := Z3.k (Kd.R_reok rfl hy0 (fun k_ e_ => HO_10.out.1 k_ e_)); replace HB := Z3.k (hb); (try clear hb); (try clear hkp); (try clear hy0)) | ((with_reducible refine gate_callee (f := 16) rfl ?_); refine goesL_ (some 86) rfl rfl Try.func16 (by kernel_rfl) rfl #[.slice Ao73 t148.length co73, .int .i64 1] rfl Z3.z24 ?_; (with_reducible refine (laws_heldInt64S.calls kj50 _ _ t148 1 t149 _ ?side1 ?side2 A71.out).mono ?_); (case side1 => exact Z3.z9); (case side2 => exact Z3.z32); rintro e w' ⟨rfl, ⟨nd, rfl⟩⟩; refine ⟨_, rfl, ?_⟩))
        go_ret
        exact ⟨Z3.z13, Z3.z0⟩
       rw [if_neg c72] at H
       have c72b0 : decide (t149 < 0) = false := decide_eq_false c72
       clear c72
       by_cases c75 : t149 = t147
       ·rw [if_pos c75] at H
        have c75b0 : (t149 == t147) = true := beq_iff_eq.mpr c75
        have c75b1 : (t149 != t147) = false := bne_eq_false_iff_eq.mpr c75
        clear c75
        replace H := Option.bind_eq_some_iff.mp H
        obtain ⟨⟨t150, t151, t152, t153⟩, A760, H⟩ := H
        (try dsimp only at H)
        have A76 := Z3.k A760
        clear A760
        replace H := Option.bind_eq_some_iff.mp H
        obtain ⟨t156, A770, H⟩ := H
        (try dsimp only at H)
        have A77 := Z3.k A770
        clear A770
        replace H := Option.bind_eq_some_iff.mp H
        obtain ⟨⟨t159, t162⟩, A780, H⟩ := H
        (try dsimp only at H)
        have A78 := Z3.k A780
        clear A780
        have HC79 := Z3.k H
        clear H
        obtain ⟨Ao80, co80, eo80⟩ := Kd.R_slice HO_10.out
        subst eo80
        go_upto_region 31 with (first | ((with_reducible refine gate_callee (f := 15) rfl ?_); refine goesL_ (some 83) rfl rfl Try.func15 (by kernel_rfl) rfl #[.slice Ao80 t126.length co80, .int .i64 1] rfl Z3.z1 ?_; (with_reducible refine (laws_markInt64S.calls kj50 (fun k_ => some k_ = (.slice Ao80 t126.length co80 : Value).ownBlock) (.slice Ao80 t126.length co80) t126 1 t147 t148 w _ ?side1 ?side2 A70.out).mono ?_); (case side1 => exact Z3.z0); (case side2 => exact Kd.R_tight rfl HO_10.out); rintro e w81 ⟨rfl, hy0, hb, hkp⟩; refine ⟨_, rfl, ?_⟩; replace HO_6 := Z3.k (Kd.R_mono (ok' := fun k_ => some k_ ≠ (.slice Ao80 t126.length co80 : Value).ownBlock ∧ some k_ ≠ (.slice Ao31 t143.length co31 : Value).ownBlock) (Kd.R_keptB (HO_6.out) hkp (fun k_ hk_ hs_ => (hk_.1) hs_)) (fun k_ hk_ => ⟨hk_.1.1, hk_.1.2⟩)); replace HO_123003 := Z3.k (Kd.R_mono (ok' := fun k_ => some k_ ≠ (v113 : Value).ownBlock ∧ some k_ ≠ (.slice Ao80 t126.length co80 : Value).ownBlock) (Kd.R_keptB (HO_123003.out) hkp (fun k_ hk_ hs_ => (hk_.2) hs_)) (fun k_ hk_ => ⟨hk_.1.1, hk_.1.2⟩)); replace BK101 := Z3.k (blk_kept Z3.z2 hkp (fun hs_ => (fun e_ => (Kd.R_ne HO_10.out BK101.out (by decide)) e_) hs_)); replace BK122 := Z3.k (blk_kept Z3.z4 hkp (fun hs_ => (fun e_ => (Kd.R_ne HO_10.out BK122.out (by decide)) e_) hs_)); replace HO_10 := Z3.k (Kd.R_reok rfl hy0 (fun k_ e_ => HO_10.out.1 k_ e_)); replace HB := Z3.k (hb); (try clear hb); (try clear hkp); (try clear hy0)) | ((with_reducible refine gate_callee (f := 16) rfl ?_); refine goesL_ (some 86) rfl rfl Try.func16 (by kernel_rfl) rfl #[.slice Ao80 t148.length co80, .int .i64 1] rfl Z3.z24 ?_; (with_reducible refine (laws_heldInt64S.calls kj50 _ _ t148 1 t149 _ ?side1 ?side2 A71.out).mono ?_); (case side1 => exact Z3.z9); (case side2 => exact Z3.z32); rintro e w' ⟨rfl, ⟨nd, rfl⟩⟩; refine ⟨_, rfl, ?_⟩; have hnb82 := NB101_122.out; have hnc82 := NB122_101.out; obtain ⟨hcz83_0, hcz83_1, hcz83_2, hcz83_3, hfz83_0, hfz83_1, hfz83_2, hfz83_3⟩ := cells4 BK101.out) | ((with_reducible refine gate_callee (f := 9) rfl ?_); refine goesL_ (some 94) rfl rfl Try.func9 (by kernel_rfl) rfl #[.agg #[.int .i64 a0_0, .int .i64 a0_1, .int .i64 a0_2, .slice A0_3 l0_3.length c0_3]] rfl Z3.z1 ?_; (with_reducible refine (laws_toMatrix.calls kj50 a0_0 a0_1 a0_2 _ _ l0_3 t150 t151 t152 t153 _ ?side1 ?side2 A76.out).mono ?_); (case side1 => exact (by repeat (first | exact (Kd.C_below HR0_3.out Z3.z0) | (with_reducible refine Kd.C_alloc ?_ _) | (with_reducible refine Kd.C_drewN ?_ _) | (with_reducible refine Kd.C_drew ?_)))); (case side2 => exact HC0_3.out); rintro e w84 ⟨v154, rfl, ho0, hb⟩; refine ⟨_, rfl, ?_⟩; have HO155 := Z3.k (Kd.R_lower (Kd.R_new' (Kd.R_new' (Kd.R_new' ho0 (Kd.R_lt Z3.z8)) (Kd.R_lt Z3.z7)) (Kd.R_lt Z3.z6)) (below_size Z3.z0)); replace HO_6 := Z3.k (Kd.R_elder' Z3.z8 (Kd.R_base ho0) hb); replace HO_10 := Z3.k (Kd.R_elder' Z3.z7 (Kd.R_base ho0) hb); replace HO_123003 := Z3.k (Kd.R_elder' Z3.z6 (Kd.R_base ho0) hb); replace BK101 := Z3.k (Z3.bb BK101 Z3.z2 hb); replace BK122 := Z3.k (Z3.bb BK122 Z3.z4 hb); replace HB := Z3.k (below_step Z3.z0 hb); (try clear hb); (try clear hb2); (try clear hk); (try clear hi); (try clear ho0)) | ((with_reducible refine gate_callee (f := 10) rfl ?_); refine goesL_ (some 96) rfl rfl Try.func10 (by kernel_rfl) rfl #[.slice A1 l1.length c1] rfl Z3.z1 ?_; (with_reducible refine (laws_toInt64S.calls kj50 _ _ l1 t156 _ ?side1 ?side2 A77.out).mono ?_); (case side1 => exact Z3.z18); (case side2 => exact HC1.out); rintro e w85 ⟨v157, rfl, ho0, hb⟩; refine ⟨_, rfl, ?_⟩; have HO158 := Z3.k (Kd.R_lower (Kd.R_new' (Kd.R_new' (Kd.R_new' (Kd.R_new' ho0 (Kd.R_lt Z3.z8)) (Kd.R_lt Z3.z7)) (Kd.R_lt Z3.z6)) (Kd.R_lt Z3.z29)) (below_size Z3.z0)); replace HO_6 := Z3.k (Kd.R_elder' Z3.z8 (Kd.R_base ho0) hb); replace HO_10 := Z3.k (Kd.R_elder' Z3.z7 (Kd.R_base ho0) hb); replace HO_123003 := Z3.k (Kd.R_elder' Z3.z6 (Kd.R_base ho0) hb); replace HO155 := Z3.k (Kd.R_elder' Z3.z29 (Kd.R_base ho0) hb); replace BK101 := Z3.k (Z3.bb BK101 Z3.z2 hb); replace BK122 := Z3.k (Z3.bb BK122 Z3.z4 hb); replace HB := Z3.k (below_step Z3.z0 hb); (try clear hb); (try clear hb2); (try clear hk); (try clear hi); (try clear ho0); obtain ⟨Ao86, co86, eo86⟩ := Kd.R_slice HO155.out; subst eo86; obtain ⟨Ao87, co87, eo87⟩ := Kd.R_slice HO158.out; subst eo87) | ((with_reducible refine gate_callee (f := 11) rfl ?_); refine goesL_ (some 97) rfl rfl Try.func11 (by kernel_rfl) rfl #[.agg #[.int .i64 t150, .int .i64 t151, .int .i64 t152, .slice Ao86 t153.length co86], .slice Ao87 t156.length co87] rfl Z3.z1 ?_; (with_reducible refine (impl_Solve.calls kj50 t150 t151 t152 _ _ t153 _ _ t156 t159 t162 _ ?side1 ?side2 ?side3 ?side4 A78.out).mono ?_); (case side1 => exact (by repeat (first | exact (Kd.R_reads' HO155.out).2.2 | (with_reducible refine Kd.C_alloc ?_ _) | (with_reducible refine Kd.C_drewN ?_ _) | (with_reducible refine Kd.C_drew ?_)))); (case side2 => exact (Kd.R_reads' HO155.out).2.1); (case side3 => exact (by repeat (first | exact (Kd.R_reads' HO158.out).2.2 | (with_reducible refine Kd.C_alloc ?_ _) | (with_reducible refine Kd.C_drewN ?_ _) | (with_reducible refine Kd.C_drew ?_)))); (case side4 => exact (Kd.R_reads' HO158.out).2.1); rintro e w88 ⟨v160, rfl, ho0, hb⟩; refine ⟨_, rfl, ?_⟩; have HO161 := Z3.k (Kd.R_lower (Kd.R_new' (Kd.R_new' (Kd.R_new' (Kd.R_new' (Kd.R_new' ho0 (Kd.R_lt Z3.z8)) (Kd.R_lt Z3.z7)) (Kd.R_lt Z3.z6)) (Kd.R_lt Z3.z29)) (Kd.R_lt (by (with_reducible repeat (first | apply Kd.R_alloc | apply Kd.R_drewN | apply Kd.R_drew)); exact HO158.out))) (below_size Z3.z0)); replace HO_6 := Z3.k (Kd.R_elder' Z3.z8 (Kd.R_base ho0) hb); replace HO_10 := Z3.k (Kd.R_elder' Z3.z7 (Kd.R_base ho0) hb); replace HO_123003 := Z3.k (Kd.R_elder' Z3.z6 (Kd.R_base ho0) hb); replace HO155 := Z3.k (Kd.R_elder' Z3.z29 (Kd.R_base ho0) hb); replace HO158 := Z3.k (Kd.R_elder' (by (with_reducible repeat (first | apply Kd.R_alloc | apply Kd.R_drewN | apply Kd.R_drew)); exact HO158.out) (Kd.R_base ho0) hb); replace BK101 := Z3.k (Z3.bb BK101 Z3.z2 hb); replace BK122 := Z3.k (Z3.bb BK122 Z3.z4 hb); replace HB := Z3.k (below_step Z3.z0 hb); (try clear hb); (try clear hb2); (try clear hk); (try clear hi); (try clear ho0)))
        (try simp only [Act.put, List.setIfInBounds_toArray, List.set_cons_zero, List.set_cons_succ])
        go_cut [108] (fun v108 wc => ∃ (kq : Nat) (x108_78 : Bool), v108 = .bool x108_78 ∧ Aside0 (laws_FnExactSolve.j2 kq t148 t147 x108_78 = some r) ∧ Aside0 (kq ≤ kj50) ∧ Aside0 (Kd.R (Kd.int .i64) 2 wc w.heap.size (fun k_ => some k_ ≠ ((.slice Ao31 t143.length co31) : Value).ownBlock) (.slice Ao80 t126.length co80) t148) ∧ Aside0 (Kd.R (Kd.int .i64) 2 wc w.heap.size (fun k_ => some k_ ≠ ((.slice Ao80 t126.length co80) : Value).ownBlock) (.slice Ao31 t143.length co31) t143) ∧ Aside0 (wc.heap[gb101]? = some (.cells #[.int .i64 a0_0, .int .i64 a0_1, .int .i64 a0_2, (.slice A0_3 l0_3.length c0_3)] 24 (0, 0))) ∧ Aside0 (wc.heap[gb122]? = some (.cells #[.int .i64 t116, .int .i64 t117, .int .i64 t118, (.slice Ao31 t143.length co31)] 28 (0, 0))) ∧ Aside0 (Below w.heap.size w wc))
        case first =>
         have H := HC79.out
         clear HC79
         replace H := Option.bind_eq_some_iff.mp H
         obtain ⟨t163, A890, H⟩ := H
         (try dsimp only at H)
         have A89 := Z3.k A890
         clear A890
         by_cases c90 : t163 = true
         ·subst c90
          rw [if_pos rfl] at H
          have H' := Z3.k H
          clear H
          obtain ⟨Ao91, co91, eo91⟩ := Kd.R_slice HO161.out
          subst eo91
          obtain ⟨Ao92, co92, eo92⟩ := Kd.R_slice HO_6.out
          subst eo92
          go_wp2_with (first | ((with_reducible refine gate_callee (f := 12) rfl ?_); refine goesL_ (some 102) rfl rfl Try.func12 (by kernel_rfl) rfl #[.slice Ao91 t159.length co91, .slice Ao92 t112.length co92] rfl Z3.z1 ?_; (with_reducible refine (laws_eqInt64S.calls kj50 _ _ t159 _ _ t112 true _ ?side1 ?side2 ?side3 ?side4 A89.out).mono ?_); (case side1 => exact Z3.z36); (case side2 => exact (Kd.R_reads' HO161.out).2.1); (case side3 => exact Z3.z19); (case side4 => exact (Kd.R_reads' HO_6.out).2.1); rintro e w' ⟨rfl, ⟨nd, rfl⟩⟩; refine ⟨_, rfl, ?_⟩))
          go_meet
          case rel => exact ⟨_, ((t162 != t115)), Z3.z34, H', ⟨(by have := HJ15.out; have := HJ50.out; first | omega | exact Nat.le_refl _)⟩, ⟨Z3.z41⟩, ⟨Z3.z35⟩, ⟨Z3.z47⟩, ⟨Z3.z46⟩, ⟨Z3.z0⟩⟩
         replace c90 := Bool.eq_false_iff.mpr c90
         subst c90
         rw [if_neg (show ¬ (false = true) by decide)] at H
         have H' := Z3.k H
         clear H
         obtain ⟨Ao93, co93, eo93⟩ := Kd.R_slice HO161.out
         subst eo93
         obtain ⟨Ao94, co94, eo94⟩ := Kd.R_slice HO_6.out
         subst eo94
         go_wp2_with (first | ((with_reducible refine gate_callee (f := 12) rfl ?_); refine goesL_ (some 102) rfl rfl Try.func12 (by kernel_rfl) rfl #[.slice Ao93 t159.length co93, .slice Ao94 t112.length co94] rfl Z3.z1 ?_; (with_reducible refine (laws_eqInt64S.calls kj50 _ _ t159 _ _ t112 false _ ?side1 ?side2 ?side3 ?side4 A89.out).mono ?_); (case side1 => exact Z3.z36); (case side2 => exact (Kd.R_reads' HO161.out).2.1); (case side3 => exact Z3.z19); (case side4 => exact (Kd.R_reads' HO_6.out).2.1); rintro e w' ⟨rfl, ⟨nd, rfl⟩⟩; refine ⟨_, rfl, ?_⟩))
         go_meet
         case rel => exact ⟨_, (true), Z3.z34, H', ⟨(by have := HJ15.out; have := HJ50.out; first | omega | exact Nat.le_refl _)⟩, ⟨Z3.z41⟩, ⟨Z3.z35⟩, ⟨Z3.z47⟩, ⟨Z3.z46⟩, ⟨Z3.z0⟩⟩
        case rest =>
         clear HC79
         try clear c1
         try clear c2
         try clear p2
         try clear c3
         try clear c3b0
         try clear c3b1
         try clear c4
         try clear c5
         try clear c6
         try clear c6b0
         try clear c7
         try clear c8
         try clear c9
         try clear c10
         try clear c11
         try clear c12
         try clear c13
         try clear c14
         try clear c15
         try clear c16
         try clear c29
         try clear c37
         try clear c42
         try clear c45
         try clear c48
         try clear c58
         try clear c62
         try clear c62b0
         try clear c64
         try clear c69
         try clear c72
         try clear c72b0
         try clear c75
         try clear c75b0
         try clear c75b1
         try clear c82
         try clear c90
         try clear hcz18_0
         try clear hcz18_1
         try clear hcz18_2
         try clear hcz18_3
         try clear hcz20_0
         try clear hcz20_1
         try clear hcz20_2
         try clear hcz20_3
         try clear hcz26_0
         try clear hcz26_1
         try clear hcz26_2
         try clear hcz26_3
         try clear hcz30_0
         try clear hcz30_1
         try clear hcz30_2
         try clear hcz30_3
         try clear hcz33_0
         try clear hcz33_1
         try clear hcz33_2
         try clear hcz33_3
         try clear hcz59_0
         try clear hcz59_1
         try clear hcz59_2
         try clear hcz59_3
         try clear hcz83_0
         try clear hcz83_1
         try clear hcz83_2
         try clear hcz83_3
         try clear hcz8_0
         try clear hcz8_1
         try clear hcz8_2
         try clear hcz8_3
         try clear hfz18_0
         try clear hfz18_1
         try clear hfz18_2
         try clear hfz18_3
         try clear hfz20_0
         try clear hfz20_1
         try clear hfz20_2
         try clear hfz20_3
         try clear hfz26_0
         try clear hfz26_1
         try clear hfz26_2
         try clear hfz26_3
         try clear hfz30_0
         try clear hfz30_1
         try clear hfz30_2
         try clear hfz30_3
         try clear hfz33_0
         try clear hfz33_1
         try clear hfz33_2
         try clear hfz33_3
         try clear hfz59_0
         try clear hfz59_1
         try clear hfz59_2
         try clear hfz59_3
         try clear hfz83_0
         try clear hfz83_1
         try clear hfz83_2
         try clear hfz83_3
         try clear hfz8_0
         try clear hfz8_1
         try clear hfz8_2
         try clear hfz8_3
         try clear p2
         obtain ⟨kq, x108_78, rfl, HA, HJ78, HO_10, HO_123003, BK101, BK122, HB⟩ := hcut
         have hl10_78 := (Kd.R_reads' HO_10.out).1
         rw [hl10_78] at HO_10
         (try simp only [hl10_78])
         (try simp only [hl10_78] at BK101)
         (try simp only [hl10_78] at BK122)
         (try simp only [hl10_78] at HO_123003)
         cases kq with
         | zero => exact absurd HA.out (by simp [laws_FnExactSolve.j2])
         | succ kj78 =>
          have H := HA.out
          clear HA
          simp only [laws_FnExactSolve.j2] at H
          by_cases c95 : x108_78 = true
          ·subst c95
           rw [if_pos rfl] at H
           obtain rfl := Option.some.inj H
           go_wp2
           go_ret
           exact ⟨Z3.z13, Z3.z0⟩
          replace c95 := Bool.eq_false_iff.mpr c95
          subst c95
          rw [if_neg (show ¬ (false = true) by decide)] at H
          replace H := Option.bind_eq_some_iff.mp H
          obtain ⟨t164, A960, H⟩ := H
          (try dsimp only at H)
          have A96 := Z3.k A960
          clear A960
          by_cases c97 : t164 < 0
          ·rw [if_pos c97] at H
           have c97b0 : decide (t164 < 0) = true := decide_eq_true c97
           clear c97
           obtain rfl := Option.some.inj H
           go_wp2_with (first | ((with_reducible refine gate_callee (f := 16) rfl ?_); refine goesL_ (some 111) rfl rfl Try.func16 (by kernel_rfl) rfl #[.slice Ao80 t148.length co80, .int .i64 1] rfl Z3.z1 ?_; (with_reducible refine (laws_heldInt64S.calls kj78 _ _ t148 1 t164 _ ?side1 ?side2 A96.out).mono ?_); (case side1 => exact Z3.z9); (case side2 => exact (Kd.R_reads' HO_10.out).2.1); rintro e w' ⟨rfl, ⟨nd, rfl⟩⟩; refine ⟨_, rfl, ?_⟩))
           go_ret
           exact ⟨Z3.z13, Z3.z0⟩
          rw [if_neg c97] at H
          have c97b0 : decide (t164 < 0) = false := decide_eq_false c97
          clear c97
          by_cases c98 : t164 = t147
          ·rw [if_pos c98] at H
           have c98b0 : (t164 == t147) = true := beq_iff_eq.mpr c98
           have c98b1 : (t164 != t147) = false := bne_eq_false_iff_eq.mpr c98
           clear c98
           obtain rfl := Option.some.inj H
           go_wp2_with (first | ((with_reducible refine gate_callee (f := 16) rfl ?_); refine goesL_ (some 111) rfl rfl Try.func16 (by kernel_rfl) rfl #[.slice Ao80 t148.length co80, .int .i64 1] rfl Z3.z1 ?_; (with_reducible refine (laws_heldInt64S.calls kj78 _ _ t148 1 t164 _ ?side1 ?side2 A96.out).mono ?_); (case side1 => exact Z3.z9); (case side2 => exact (Kd.R_reads' HO_10.out).2.1); rintro e w' ⟨rfl, ⟨nd, rfl⟩⟩; refine ⟨_, rfl, ?_⟩))
           go_ret
           exact ⟨Z3.z13, Z3.z0⟩
          rw [if_neg c98] at H
          have c98b0 : (t164 == t147) = false := beq_eq_false_iff_ne.mpr c98
          have c98b1 : (t164 != t147) = true := bne_iff_ne.mpr c98
          obtain rfl := Option.some.inj H
          go_wp2_with (first | ((with_reducible refine gate_callee (f := 16) rfl ?_); refine goesL_ (some 111) rfl rfl Try.func16 (by kernel_rfl) rfl #[.slice Ao80 t148.length co80, .int .i64 1] rfl Z3.z1 ?_; (with_reducible refine (laws_heldInt64S.calls kj78 _ _ t148 1 t164 _ ?side1 ?side2 A96.out).mono ?_); (case side1 => exact Z3.z9); (case side2 => exact (Kd.R_reads' HO_10.out).2.1); rintro e w' ⟨rfl, ⟨nd, rfl⟩⟩; refine ⟨_, rfl, ?_⟩))
          go_ret
          exact ⟨Z3.z13, Z3.z0⟩
       rw [if_neg c75] at H
       have c75b0 : (t149 == t147) = false := beq_eq_false_iff_ne.mpr c75
       have c75b1 : (t149 != t147) = true := bne_iff_ne.mpr c75
       obtain rfl := Option.some.inj H
       obtain ⟨Ao99, co99, eo99⟩ := Kd.R_slice HO_10.out
       subst eo99
       go_wp2_with (first | ((with_reducible refine gate_callee (f := 15) rfl ?_); refine goesL_ (some 83) rfl rfl Try.func15 (by kernel_rfl) rfl #[.slice Ao99 t126.length co99, .int .i64 1] rfl Z3.z1 ?_; (with_reducible refine (laws_markInt64S.calls kj50 (fun k_ => some k_ = (.slice Ao99 t126.length co99 : Value).ownBlock) (.slice Ao99 t126.length co99) t126 1 t147 t148 w _ ?side1 ?side2 A70.out).mono ?_); (case side1 => exact Z3.z0); (case side2 => exact Kd.R_tight rfl HO_10.out); rintro e w100 ⟨rfl, hy0, hb, hkp⟩; refine ⟨_, rfl, ?_⟩; replace HO_6 := Z3.k (Kd.R_mono (ok' := fun k_ => some k_ ≠ (.slice Ao99 t126.length co99 : Value).ownBlock ∧ some k_ ≠ (.slice Ao31 t143.length co31 : Value).ownBlock) (Kd.R_keptB (HO_6.out) hkp (fun k_ hk_ hs_ => (hk_.1) hs_)) (fun k_ hk_ => ⟨hk_.1.1, hk_.1.2⟩)); replace HO_123003 := Z3.k (Kd.R_mono (ok' := fun k_ => some k_ ≠ (v113 : Value).ownBlock ∧ some k_ ≠ (.slice Ao99 t126.length co99 : Value).ownBlock) (Kd.R_keptB (HO_123003.out) hkp (fun k_ hk_ hs_ => (hk_.2) hs_)) (fun k_ hk_ => ⟨hk_.1.1, hk_.1.2⟩)); replace BK101 := Z3.k (blk_kept Z3.z2 hkp (fun hs_ => (fun e_ => (Kd.R_ne HO_10.out BK101.out (by decide)) e_) hs_)); replace BK122 := Z3.k (blk_kept Z3.z4 hkp (fun hs_ => (fun e_ => (Kd.R_ne HO_10.out BK122.out (by decide)) e_) hs_)); replace HO_10 := Z3.k (Kd.R_reok rfl hy0 (fun k_ e_ => HO_10.out.1 k_ e_)); replace HB := Z3.k (hb); (try clear hb); (try clear hkp); (try clear hy0)) | ((with_reducible refine gate_callee (f := 16) rfl ?_); refine goesL_ (some 86) rfl rfl Try.func16 (by kernel_rfl) rfl #[.slice Ao99 t148.length co99, .int .i64 1] rfl Z3.z24 ?_; (with_reducible refine (laws_heldInt64S.calls kj50 _ _ t148 1 t149 _ ?side1 ?side2 A71.out).mono ?_); (case side1 => exact Z3.z9); (case side2 => exact Z3.z32); rintro e w' ⟨rfl, ⟨nd, rfl⟩⟩; refine ⟨_, rfl, ?_⟩))
       go_ret
       exact ⟨Z3.z13, Z3.z0⟩
    replace c48 := Bool.eq_false_iff.mpr c48
    subst c48
    rw [if_neg (show ¬ (false = true) by decide)] at H
    obtain rfl := Option.some.inj H
    try go_wp2
    replace HO_6 := Z3.k (Kd.R_drew HO_6.out)
    replace HO_9 := Z3.k (Kd.R_drew HO_9.out)
    replace HO_10 := Z3.k (Kd.R_drew HO_10.out)
    replace HO_123003 := Z3.k (Kd.R_drew HO_123003.out)
    replace BK101 := Z3.k (blk_drew BK101.out)
    replace BK122 := Z3.k (blk_drew BK122.out)
    replace HB := Z3.k (below_drew1 HB.out)
    refine start_ (n := 5) (S := fun w' => w'.cell? ⟨gb122, 0, none⟩ = some (.int .i64 t116) ∧ w'.cell? ⟨gb122, 1, none⟩ = some (.int .i64 t117) ∧ w'.cell? ⟨gb122, 2, none⟩ = some (.int .i64 t118) ∧ w'.cell? ⟨gb122, 3, none⟩ = some (.slice Ao31 t119.length co31) ∧ w'.cell? ⟨gb101, 0, none⟩ = some (.int .i64 a0_0) ∧ w'.cell? ⟨gb101, 1, none⟩ = some (.int .i64 a0_1) ∧ w'.cell? ⟨gb101, 2, none⟩ = some (.int .i64 a0_2) ∧ w'.cell? ⟨gb101, 3, none⟩ = some (.slice A0_3 l0_3.length c0_3)) (ds := []) #[false, false, false, false, false] (by kernel_rfl) rfl rfl Z3.z3 (fun hHeld => ?_)
    generalize wc.drew = w101 at HO_6 HO_9 HO_10 HO_123003 BK101 BK122 HB hHeld ⊢
    refine Z3.pT8 0 52 (Z3.b 5 1) (by kernel_rfl) hHeld ?_
    refine Z3.pT8 1 53 (Z3.b 5 3) (by kernel_rfl) hHeld ?_
    refine one_ (i := 2) (N := some 54) (Z3.b 5 7) rfl rfl (by kernel_rfl) (by decide) (fun K hK => ?_)
    refine goes_ Try.func9 (by kernel_rfl) rfl #[.agg #[.int .i64 a0_0, .int .i64 a0_1, .int .i64 a0_2, .slice A0_3 l0_3.length c0_3]] (by rfl) rfl rfl Z3.z1 ?_
    with_reducible refine (laws_toMatrix.calls kj15 a0_0 a0_1 a0_2 _ _ l0_3 t131 t132 t133 t134 _ ?side1 ?side2 A43.out).mono ?_
    (case side1 => exact Z3.z11)
    (case side2 => exact HC0_3.out)
    rintro e w102 ⟨v135, rfl, ho0, hb⟩
    refine ⟨_, rfl, ?_⟩
    have HO136 := Z3.k (Kd.R_lower (Kd.R_new' (Kd.R_new' (Kd.R_new' (Kd.R_new' ho0 (Kd.R_lt Z3.z8)) (Kd.R_lt Z3.z10)) (Kd.R_lt Z3.z7)) (Kd.R_lt Z3.z6)) (below_size Z3.z0))
    replace HO_6 := Z3.k (Kd.R_elder' Z3.z8 (Kd.R_base ho0) hb)
    replace HO_9 := Z3.k (Kd.R_elder' Z3.z10 (Kd.R_base ho0) hb)
    replace HO_10 := Z3.k (Kd.R_elder' Z3.z7 (Kd.R_base ho0) hb)
    replace HO_123003 := Z3.k (Kd.R_elder' Z3.z6 (Kd.R_base ho0) hb)
    replace BK101 := Z3.k (Z3.bb BK101 Z3.z2 hb)
    replace BK122 := Z3.k (Z3.bb BK122 Z3.z4 hb)
    replace HB := Z3.k (below_step Z3.z0 hb)
    (try clear hb)
    (try clear hb2)
    (try clear hk)
    (try clear hi)
    (try clear ho0)
    obtain ⟨Ao103, co103, eo103⟩ := Kd.R_slice HO136.out
    (first | subst eo103 | (injection eo103 with f1_ f2_ f3_; have f4_ := f1_.symm; have f5_ := f3_.symm; clear f1_ f2_ f3_; subst f4_; subst f5_))
    refine hK.out _ _ Z3.z3 (fun hHeld => ?_)
    clear hK K
    refine norm_ (a' := ?_) ?_ ?_
    rotate_left
    ·show Act.put _ (some 54) _ = _
     simp only [Act.put, List.setIfInBounds_toArray, List.set_cons_zero, List.set_cons_succ, i64_w, i32_w]
     rfl
    refine one_ (i := 3) (N := some 55) (Z3.b 5 15) rfl rfl (by kernel_rfl) (by decide) (fun K hK => ?_)
    refine goes_ Try.func13 (by kernel_rfl) rfl #[.agg #[.int .i64 t116, .int .i64 t117, .int .i64 t118, .slice Ao31 t119.length co31], .agg #[.int .i64 t131, .int .i64 t132, .int .i64 t133, .slice Ao103 t134.length co103]] (by rfl) rfl rfl Z3.z1 ?_
    with_reducible refine (laws_eqMatrix.calls kj15 t116 t117 t118 _ _ t119 t131 t132 t133 _ _ t134 true _ ?side1 ?side2 ?side3 ?side4 A44.out).mono ?_
    (case side1 => exact Z3.z26)
    (case side2 => exact (Kd.R_reads' HO_123003.out).2.1)
    (case side3 => exact Z3.z27)
    (case side4 => exact (Kd.R_reads' HO136.out).2.1)
    rintro e w104 ⟨rfl, hb⟩
    refine ⟨_, rfl, ?_⟩
    replace HO_6 := Z3.k (Kd.R_below Z3.z8 hb)
    replace HO_9 := Z3.k (Kd.R_below Z3.z10 hb)
    replace HO_10 := Z3.k (Kd.R_below Z3.z7 hb)
    replace HO_123003 := Z3.k (Kd.R_below Z3.z6 hb)
    replace HO136 := Z3.k (Kd.R_below Z3.z16 hb)
    replace BK101 := Z3.k (Z3.bb BK101 Z3.z2 hb)
    replace BK122 := Z3.k (Z3.bb BK122 Z3.z4 hb)
    replace HB := Z3.k (below_step Z3.z0 hb)
    (try clear hb)
    (try clear hb2)
    (try clear hk)
    (try clear hi)
    refine hK.out _ _ Z3.z3 (fun hHeld => ?_)
    clear hK K
    refine norm_ (a' := ?_) ?_ ?_
    rotate_left
    ·show Act.put _ (some 55) _ = _
     simp only [Act.put, List.setIfInBounds_toArray, List.set_cons_zero, List.set_cons_succ, i64_w, i32_w]
     rfl
    refine Z3.pP 4 56 (Z3.b 5 31) (by kernel_rfl) ?_
    refine done_ (by kernel_rfl) ?_
    try go_wp2_with (first | ((with_reducible refine gate_callee (f := 10) rfl ?_); refine goesL_ (some 59) rfl rfl Try.func10 (by kernel_rfl) rfl #[.slice A1 l1.length c1] rfl Z3.z1 ?_; (with_reducible refine (laws_toInt64S.calls kj15 _ _ l1 t138 _ ?side1 ?side2 A46.out).mono ?_); (case side1 => exact Z3.z18); (case side2 => exact HC1.out); rintro e w105 ⟨v139, rfl, ho0, hb⟩; refine ⟨_, rfl, ?_⟩; have HO140 := Z3.k (Kd.R_lower (Kd.R_new' (Kd.R_new' (Kd.R_new' (Kd.R_new' (Kd.R_new' ho0 (Kd.R_lt Z3.z8)) (Kd.R_lt Z3.z10)) (Kd.R_lt Z3.z7)) (Kd.R_lt Z3.z6)) (Kd.R_lt Z3.z16)) (below_size Z3.z0)); replace HO_6 := Z3.k (Kd.R_elder' Z3.z8 (Kd.R_base ho0) hb); replace HO_9 := Z3.k (Kd.R_elder' Z3.z10 (Kd.R_base ho0) hb); replace HO_10 := Z3.k (Kd.R_elder' Z3.z7 (Kd.R_base ho0) hb); replace HO_123003 := Z3.k (Kd.R_elder' Z3.z6 (Kd.R_base ho0) hb); replace HO136 := Z3.k (Kd.R_elder' Z3.z16 (Kd.R_base ho0) hb); replace BK101 := Z3.k (Z3.bb BK101 Z3.z2 hb); replace BK122 := Z3.k (Z3.bb BK122 Z3.z4 hb); replace HB := Z3.k (below_step Z3.z0 hb); (try clear hb); (try clear hb2); (try clear hk); (try clear hi); (try clear ho0); obtain ⟨Ao106, co106, eo106⟩ := Kd.R_slice HO140.out; subst eo106) | ((with_reducible refine gate_callee (f := 12) rfl ?_); refine goesL_ (some 60) rfl rfl Try.func12 (by kernel_rfl) rfl #[.slice Ao34 t123.length co34, .slice Ao106 t138.length co106] rfl Z3.z1 ?_; (with_reducible refine (laws_eqInt64S.calls kj15 _ _ t123 _ _ t138 false _ ?side1 ?side2 ?side3 ?side4 A47.out).mono ?_); (case side1 => exact Z3.z40); (case side2 => exact (Kd.R_reads' HO_9.out).2.1); (case side3 => exact Z3.z37); (case side4 => exact (Kd.R_reads' HO140.out).2.1); rintro e w' ⟨rfl, ⟨nd, rfl⟩⟩; refine ⟨_, rfl, ?_⟩))
    go_ret
    exact ⟨Z3.z13, Z3.z0⟩
   replace c45 := Bool.eq_false_iff.mpr c45
   subst c45
   rw [if_neg (show ¬ (false = true) by decide)] at H
   obtain rfl := Option.some.inj H
   try go_wp2
   replace HO_6 := Z3.k (Kd.R_drew HO_6.out)
   replace HO_9 := Z3.k (Kd.R_drew HO_9.out)
   replace HO_10 := Z3.k (Kd.R_drew HO_10.out)
   replace HO_123003 := Z3.k (Kd.R_drew HO_123003.out)
   replace BK101 := Z3.k (blk_drew BK101.out)
   replace BK122 := Z3.k (blk_drew BK122.out)
   replace HB := Z3.k (below_drew1 HB.out)
   refine start_ (n := 5) (S := fun w' => w'.cell? ⟨gb122, 0, none⟩ = some (.int .i64 t116) ∧ w'.cell? ⟨gb122, 1, none⟩ = some (.int .i64 t117) ∧ w'.cell? ⟨gb122, 2, none⟩ = some (.int .i64 t118) ∧ w'.cell? ⟨gb122, 3, none⟩ = some (.slice Ao31 t119.length co31) ∧ w'.cell? ⟨gb101, 0, none⟩ = some (.int .i64 a0_0) ∧ w'.cell? ⟨gb101, 1, none⟩ = some (.int .i64 a0_1) ∧ w'.cell? ⟨gb101, 2, none⟩ = some (.int .i64 a0_2) ∧ w'.cell? ⟨gb101, 3, none⟩ = some (.slice A0_3 l0_3.length c0_3)) (ds := []) #[false, false, false, false, false] (by kernel_rfl) rfl rfl Z3.z3 (fun hHeld => ?_)
   generalize wc.drew = w107 at HO_6 HO_9 HO_10 HO_123003 BK101 BK122 HB hHeld ⊢
   refine Z3.pT8 0 52 (Z3.b 5 1) (by kernel_rfl) hHeld ?_
   refine Z3.pT8 1 53 (Z3.b 5 3) (by kernel_rfl) hHeld ?_
   refine one_ (i := 2) (N := some 54) (Z3.b 5 7) rfl rfl (by kernel_rfl) (by decide) (fun K hK => ?_)
   refine goes_ Try.func9 (by kernel_rfl) rfl #[.agg #[.int .i64 a0_0, .int .i64 a0_1, .int .i64 a0_2, .slice A0_3 l0_3.length c0_3]] (by rfl) rfl rfl Z3.z1 ?_
   with_reducible refine (laws_toMatrix.calls kj15 a0_0 a0_1 a0_2 _ _ l0_3 t131 t132 t133 t134 _ ?side1 ?side2 A43.out).mono ?_
   (case side1 => exact Z3.z11)
   (case side2 => exact HC0_3.out)
   rintro e w108 ⟨v135, rfl, ho0, hb⟩
   refine ⟨_, rfl, ?_⟩
   have HO136 := Z3.k (Kd.R_lower (Kd.R_new' (Kd.R_new' (Kd.R_new' (Kd.R_new' ho0 (Kd.R_lt Z3.z8)) (Kd.R_lt Z3.z10)) (Kd.R_lt Z3.z7)) (Kd.R_lt Z3.z6)) (below_size Z3.z0))
   replace HO_6 := Z3.k (Kd.R_elder' Z3.z8 (Kd.R_base ho0) hb)
   replace HO_9 := Z3.k (Kd.R_elder' Z3.z10 (Kd.R_base ho0) hb)
   replace HO_10 := Z3.k (Kd.R_elder' Z3.z7 (Kd.R_base ho0) hb)
   replace HO_123003 := Z3.k (Kd.R_elder' Z3.z6 (Kd.R_base ho0) hb)
   replace BK101 := Z3.k (Z3.bb BK101 Z3.z2 hb)
   replace BK122 := Z3.k (Z3.bb BK122 Z3.z4 hb)
   replace HB := Z3.k (below_step Z3.z0 hb)
   (try clear hb)
   (try clear hb2)
   (try clear hk)
   (try clear hi)
   (try clear ho0)
   obtain ⟨Ao109, co109, eo109⟩ := Kd.R_slice HO136.out
   (first | subst eo109 | (injection eo109 with f1_ f2_ f3_; have f4_ := f1_.symm; have f5_ := f3_.symm; clear f1_ f2_ f3_; subst f4_; subst f5_))
   refine hK.out _ _ Z3.z3 (fun hHeld => ?_)
   clear hK K
   refine norm_ (a' := ?_) ?_ ?_
   rotate_left
   ·show Act.put _ (some 54) _ = _
    simp only [Act.put, List.setIfInBounds_toArray, List.set_cons_zero, List.set_cons_succ, i64_w, i32_w]
    rfl
   refine one_ (i := 3) (N := some 55) (Z3.b 5 15) rfl rfl (by kernel_rfl) (by decide) (fun K hK => ?_)
   refine goes_ Try.func13 (by kernel_rfl) rfl #[.agg #[.int .i64 t116, .int .i64 t117, .int .i64 t118, .slice Ao31 t119.length co31], .agg #[.int .i64 t131, .int .i64 t132, .int .i64 t133, .slice Ao109 t134.length co109]] (by rfl) rfl rfl Z3.z1 ?_
   with_reducible refine (laws_eqMatrix.calls kj15 t116 t117 t118 _ _ t119 t131 t132 t133 _ _ t134 false _ ?side1 ?side2 ?side3 ?side4 A44.out).mono ?_
   (case side1 => exact Z3.z26)
   (case side2 => exact (Kd.R_reads' HO_123003.out).2.1)
   (case side3 => exact Z3.z27)
   (case side4 => exact (Kd.R_reads' HO136.out).2.1)
   rintro e w110 ⟨rfl, hb⟩
   refine ⟨_, rfl, ?_⟩
   replace HO_6 := Z3.k (Kd.R_below Z3.z8 hb)
   replace HO_9 := Z3.k (Kd.R_below Z3.z10 hb)
   replace HO_10 := Z3.k (Kd.R_below Z3.z7 hb)
   replace HO_123003 := Z3.k (Kd.R_below Z3.z6 hb)
   replace HO136 := Z3.k (Kd.R_below Z3.z16 hb)
   replace BK101 := Z3.k (Z3.bb BK101 Z3.z2 hb)
   replace BK122 := Z3.k (Z3.bb BK122 Z3.z4 hb)
   replace HB := Z3.k (below_step Z3.z0 hb)
   (try clear hb)
   (try clear hb2)
   (try clear hk)
   (try clear hi)
   refine hK.out _ _ Z3.z3 (fun hHeld => ?_)
   clear hK K
   refine norm_ (a' := ?_) ?_ ?_
   rotate_left
   ·show Act.put _ (some 55) _ = _
    simp only [Act.put, List.setIfInBounds_toArray, List.set_cons_zero, List.set_cons_succ, i64_w, i32_w]
    rfl
   refine Z3.pP 4 56 (Z3.b 5 31) (by kernel_rfl) ?_
   refine done_ (by kernel_rfl) ?_
   try go_wp2
   go_ret
   exact ⟨Z3.z13, Z3.z0⟩
def laws_FnExactSolve.Pure : Prop := ∀ (a0_0 : Int) (a0_1 : Int) (a0_2 : Int) (l0_3 : List Int) (l1 : List Int), (Lit.int .i64 a0_0).wf = true → (Lit.int .i64 a0_1).wf = true → (Lit.int .i64 a0_2).wf = true → l0_3.length ≤ maxLen → (∀ x ∈ l0_3, (Lit.int .i64 x).wf = true) → l1.length ≤ maxLen → l1.length * 8 ≤ 140737488351232 → (∀ x ∈ l1, (Lit.int .i64 x).wf = true) → ∃ k, laws_FnExactSolve.f k a0_0 a0_1 a0_2 l0_3 l1 = some true
theorem laws_FnExactSolve.walk (P : laws_FnExactSolve.Pure) (a0_0 : Int) (a0_1 : Int) (a0_2 : Int) (a0_3 : Option Addr) (len0_3 cap0_3 : Nat) (z0_3 : List Int) (a1 : Option Addr) (len1 cap1 : Nat) (z1 : List Int) (w : World) (w0_0 : (Lit.int .i64 a0_0).wf = true) (w0_1 : (Lit.int .i64 a0_1).wf = true) (w0_2 : (Lit.int .i64 a0_2).wf = true) (w0_3 : (a0_3 = none ∧ len0_3 = 0 ∧ cap0_3 = 0 ∧ z0_3 = []) ∨ ∃ x, a0_3 = some x ∧ len0_3 ≤ cap0_3 ∧ cap0_3 ≤ maxLen ∧ z0_3.length = cap0_3 ∧ (∀ i, i < z0_3.length → w.cell? (x.add i) = some (.int .i64 (z0_3.getD i 0))) ∧ ∀ n ∈ z0_3, (Lit.int .i64 n).wf = true) (w1 : (a1 = none ∧ len1 = 0 ∧ cap1 = 0 ∧ z1 = []) ∨ ∃ x, a1 = some x ∧ len1 ≤ cap1 ∧ cap1 ≤ maxLen ∧ z1.length = cap1 ∧ (∀ i, i < z1.length → w.cell? (x.add i) = some (.int .i64 (z1.getD i 0))) ∧ ∀ n ∈ z1, (Lit.int .i64 n).wf = true) (y1 : len1 * 8 ≤ 140737488351232) :
    Calls Try.prog 3 #[.agg #[.int .i64 a0_0, .int .i64 a0_1, .int .i64 a0_2, .slice a0_3 len0_3 cap0_3], .slice a1 len1 cap1] w fun e w' => e = .returned (.bool true) ∧ Below w.heap.size w w' := by
  obtain ⟨l0_3, rfl, hr0_3, hm0_3, hw0_3, hc0_3⟩ := ReadsInt.ofRowC w0_3
  obtain ⟨l1, rfl, hr1, hm1, hw1, hc1⟩ := ReadsInt.ofRowC w1
  obtain ⟨k, h⟩ := P a0_0 a0_1 a0_2 l0_3 l1 w0_0 w0_1 w0_2 hm0_3 hw0_3 hm1 y1 hw1
  refine (laws_FnExactSolve.calls k a0_0 a0_1 a0_2 _ _ l0_3 _ _ l1 true w (Kd.C_of_reads (d := (0 : Int)) (h1 := fun _ => rfl) hr0_3) hc0_3 (Kd.C_of_reads (d := (0 : Int)) (h1 := fun _ => rfl) hr1) hc1 h).mono ?_
  rintro e w' ⟨rfl, hd⟩
  exact ⟨rfl, hd⟩
end Go.Proofs.Ytmbbjmkcbpefhaa.F
end
