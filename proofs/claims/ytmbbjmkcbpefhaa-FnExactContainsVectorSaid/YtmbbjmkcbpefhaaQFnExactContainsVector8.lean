-- Texts of this claim, merged by packw.py (a program of this session's).
import Derived.Test.YtmbbjmkcbpefhaaQFnExactContainsVector2
import Derived.Test.YtmbbjmkcbpefhaaQFnExactContainsVector6
import Derived.Test.YtmbbjmkcbpefhaaQFnExactContainsVector7

section
namespace Go.Proofs.Ytmbbjmkcbpefhaa.F
open Go.RowKit Go.Proofs.YtmbbjmkcbpefhaaW.PrintWords Go.Proofs.YtmbbjmkcbpefhaaW.PrintLast Go.Proofs.YtmbbjmkcbpefhaaW.PrintMore
attribute [local go_sem] max2_int min2_int max_two min_two max_three min_three max_four min_four   -- for this text's walks alone
set_option linter.unusedVariables false
set_option linter.unusedSimpArgs false
/-! ### impl_copyLists: function 101 -/
def impl_copyLists.l0 : Nat → List (List Int) → List (List Int) → Int → Int → Option ((List (List Int)))
  | 0, _, _, _, _ => none
  | k + 1, x3, x6, x7, x8 => if x8 < x7 then (if 0 ≤ x8 then (if x8 < (x6.length : Int) then ((slices_Clone_int64_int64.o.f (rd_L1 x6 x8)).bind fun t102 => (if x3.length < 5864062014805 then (impl_copyLists.l0 k (x3 ++ [t102]) x6 x7 (wrap64 (x8 + 1))) else (none))) else (none)) else (none)) else (some x3)
def impl_copyLists.f (k : Nat) (l0 : List (List Int)) : Option ((List (List Int))) := impl_copyLists.l0 k ([] : List (List Int)) l0 (l0.length : Int) 0
theorem impl_copyLists.mono_l : ∀ k, (∀ y0 y1 y2 y3, LeO (impl_copyLists.l0 k y0 y1 y2 y3) (impl_copyLists.l0 (k + 1) y0 y1 y2 y3))
  | 0 => fun _ _ _ _ r h => by simp [impl_copyLists.l0] at h
  | k + 1 => by
    have ih0 := impl_copyLists.mono_l k
    · intro y0 y1 y2 y3
      unfold impl_copyLists.l0
      repeat' first
      | (with_reducible exact ih0 _ _ _ _)
      | (with_reducible exact LeO.refl _)
      | (with_reducible exact LeO.none _)
      | (with_reducible refine LeO.ite ?_ ?_)
      | (with_reducible refine LeO.bind ?_ (fun _ => ?_))
      | exact ih0 _ _ _ _
      | exact LeO.none _
      | refine LeO.ite ?_ ?_
      | refine LeO.bind ?_ (fun _ => ?_)
theorem impl_copyLists.mono : ∀ a0 k, LeO (impl_copyLists.f k a0) (impl_copyLists.f (k + 1) a0) := by
  intro a0 k
  have ih0 := impl_copyLists.mono_l k
  unfold impl_copyLists.f
  repeat' first
      | (with_reducible exact ih0 _ _ _ _)
      | (with_reducible exact LeO.refl _)
      | (with_reducible exact LeO.none _)
      | (with_reducible refine LeO.ite ?_ ?_)
      | (with_reducible refine LeO.bind ?_ (fun _ => ?_))
      | exact ih0 _ _ _ _
      | exact LeO.none _
      | refine LeO.ite ?_ ?_
      | refine LeO.bind ?_ (fun _ => ?_)
theorem Z101.z0 {P : Prop} (h : P := by repeat (first | (with_reducible first | exact HB.out | apply below_alloc | apply pw_below_drewN | apply below_drew1) | exact HB.out)) : P := h
set_option maxHeartbeats 8000000 in
set_option maxRecDepth 100000 in
theorem impl_copyLists.calls (k : Nat) (A0 : Option Addr) (c0 : Nat) (l0 : List (List Int)) (r : List (List Int)) (w : World) (hr0 : Kd.C (Kd.slice 2 (Kd.int .i64)) w A0 l0.length l0) (hc0 : l0.length ≤ c0) (h : impl_copyLists.f k l0 = some r) :
  Calls Try.prog 101 #[.slice A0 l0.length c0] w fun e w' => ∃ v0_ : Value, e = .returned (v0_) ∧ Kd.S (Kd.slice 2 (Kd.int .i64)) 22 w' w.heap.size (fun _ => True) v0_ r ∧ Below w.heap.size w w' := by
 have HR0 := Aside0.mk hr0
 have HC0 := Aside0.mk hc0
 clear hr0 hc0
 have HB := Aside0.mk (Below.refl w.heap.size w)
 have H : (impl_copyLists.l0 k ([] : List (List Int)) l0 (l0.length : Int) 0) = some r := h
 clear h
 have H' := Aside0.mk H
 clear H
 go_enter Try.func101, Try.ntmps101
 go_wp2
 go_loopg [3, 8] k (fun kq v3 v8 w' => ∃ (x3_1 : List (List Int)) (x8_1 : Int), v8 = .int .i64 x8_1 ∧ Aside0 (impl_copyLists.l0 kq x3_1 l0 (l0.length : Int) x8_1 = some r) ∧ Aside0 (kq ≤ k) ∧ Aside0 (Kd.S (Kd.slice 2 (Kd.int .i64)) 22 w' w.heap.size (fun _ => True) v3 x3_1) ∧ Aside0 (Below w.heap.size w w'))
 case atStart => exact ⟨(([] : List (List Int))), (0), (by first | rfl | (simp; done) | (simp [*]; done)), H', ⟨Nat.le_refl _⟩, ⟨(by first | exact Kd.S_nil _ _ _ _ _ | exact Kd.N_nil _ _ _ _ _ | exact Kd.V_nil _ _ _ _ _ | exact Kd.Q_nil _ _ _ _ _ | exact Kd.R_nil _ _ _ _ _)⟩, ⟨Z101.z0⟩⟩
 case round =>
  clear H'
  try clear c1
  obtain ⟨x3_1, x8_1, rfl, HA, HK1, HO_3, HB⟩ := hrel
  cases gk with
  | zero => exact absurd HA.out (by simp [impl_copyLists.l0])
  | succ k1 =>
   have H := HA.out
   clear HA
   simp only [impl_copyLists.l0] at H
   by_cases c2 : x8_1 < (l0.length : Int)
   ·rw [if_pos c2] at H
    have c2b0 : decide (x8_1 < (l0.length : Int)) = true := decide_eq_true c2
    clear c2
    by_cases c3 : 0 ≤ x8_1
    ·rw [if_pos c3] at H
     have c3b0 : decide (0 ≤ x8_1) = true := decide_eq_true c3
     clear c3
     by_cases c4 : x8_1 < (l0.length : Int)
     ·rw [if_pos c4] at H
      have c4b0 : decide (x8_1 < (l0.length : Int)) = true := decide_eq_true c4
      clear c4
      replace H := Option.bind_eq_some_iff.mp H
      obtain ⟨t102, A50, H⟩ := H
      replace H : (if x3_1.length < 5864062014805 then (impl_copyLists.l0 k1 (x3_1 ++ [t102]) l0 (l0.length : Int) (wrap64 (x8_1 + 1))) else (none)) = some r := H
      have A5 := Aside0.mk A50
      clear A50
      by_cases c6 : x3_1.length < 5864062014805
      ·rw [if_pos c6] at H
       have LMc6 := Aside0.mk c6
       clear c6
       obtain ⟨y105, hy105⟩ : ∃ y_ : List (List Int), y_ = (x3_1 ++ [t102]) := ⟨_, rfl⟩
       replace H : (impl_copyLists.l0 k1 y105 l0 (l0.length : Int) (wrap64 (x8_1 + 1))) = some r := by first | (rw [hy105]; with_reducible exact H) | (have H2_ := (Option.bind_some _ _).symm.trans H; rw [hy105]; with_reducible exact H2_) | (have H2_ := (Option.bind_some _ _).symm.trans H; with_reducible exact H2_) | with_reducible exact H | (rw [hy105]; exact H) | exact H
       have Ny105 := Aside0.mk hy105
       clear hy105
       have H' := Aside0.mk H
       clear H
       have p101 : 0 ≤ (x8_1 : Int) := of_decide_eq_true (by first | (with_reducible assumption) | assumption)
       have q101 : x8_1 < (l0.length : Int) := of_decide_eq_true (by first | (with_reducible assumption) | assumption)
       obtain ⟨ad101, A101_0, c101_0, e101, hx101_0, hl101_0, hi101_0⟩ := at_L1 HR0.out x8_1 p101 q101
       cases e101
       replace hx101_0 := (HB.out.cell (World.block_lt_of_cell? w _ hx101_0)).trans hx101_0
       have HR101_0 := Aside0.mk hi101_0
       have HC101_0 := Aside0.mk hl101_0
       clear hi101_0 hl101_0
       replace p101 := eq_true p101
       replace q101 := eq_true q101
       go_wp2_with (first | ((with_reducible refine gate_callee (f := 88) rfl ?_); refine goesL_ (some 14) rfl rfl Try.func88 (by kernel_rfl) rfl #[.slice A101_0 (rd_L1 l0 x8_1).length c101_0] rfl (by (try simp only [List.map_toArray, List.map_cons, List.map_nil]); first | done | rfl | (simp only [List.length_drop, List.length_take]; rfl)) ?_; (with_reducible refine (slices_Clone_int64_int64.o.calls _ _ (rd_L1 l0 x8_1) t102 _ ?side1 ?side2 A5.out).mono ?_); (case side1 => exact (by repeat (first | exact (Kd.C_below HR101_0.out HB.out) | (with_reducible refine Kd.C_alloc ?_ _) | (with_reducible refine Kd.C_drewN ?_ _) | (with_reducible refine Kd.C_drew ?_)))); (case side2 => exact HC101_0.out); rintro e w7 ⟨v103, rfl, ho0, hb⟩; refine ⟨_, rfl, ?_⟩; have n0_ := Aside0.mk (Kd.S_elder' (by (with_reducible repeat (first | apply Kd.S_alloc | apply Kd.S_drewN | apply Kd.S_drew)); exact HO_3.out) (Kd.R_base ho0) hb); have n1_ := Aside0.mk (Kd.R_lower ho0 (below_size Z101.z0)); have n2_ := Aside0.mk (below_step Z101.z0 hb); clear HO_3 HB; have HO_3 := n0_; have HO104 := n1_; have HB := n2_; clear n0_ n1_ n2_; (try clear hb); (try clear hb2); (try clear hk); (try clear hi); (try clear ho0); obtain ⟨Ao9, co9, eo9⟩ := Kd.R_slice HO104.out; subst eo9) | ((with_reducible refine gate_builtin (b := .append) (xs := #[.tmp 12, .tmp 15]) rfl ?_); at_builtin; refine Kd.S_append (Kd.slice 2 (Kd.int .i64)) (w0 := w) w.heap.size rfl (.tmp 12) (.tmp 15) 36 22 (.slice none 0 0) 24 rfl Try.underlying36 info22 rfl (by decide) (by omega) u3 x3_1 t102 [.slice Ao9 t102.length co9] (fun _ => True) (fun k_ => some k_ = (.slice Ao9 t102.length co9 : Value).ownBlock) rfl rfl ?aP (fun k_ hk_ => ((Kd.R_mono (ok' := fun k_ => ((fun _ => True)) k_ ∧ some k_ ≠ (u3 : Value).ownBlock) (Kd.R_apart' (HO104.out) (Kd.S_typed HO_3.out) (by decide)) (fun k_ hk => ⟨trivial, hk.2⟩))).1 k_ hk_.symm) ?aF ?aO ?aB ?aS ?aL ?_; (case aP => exact Kd.M_row (Kd.R_mono (Kd.R_tight rfl (Kd.R_mono (ok' := fun k_ => ((fun _ => True)) k_ ∧ some k_ ≠ (u3 : Value).ownBlock) (Kd.R_apart' (HO104.out) (Kd.S_typed HO_3.out) (by decide)) (fun k_ hk => ⟨trivial, hk.2⟩))) (fun _ h_ => h_))); (case aB => exact Z101.z0); (case aF => exact (fun _ _ => trivial)); (case aO => exact (by (with_reducible repeat (first | apply Kd.S_alloc | apply Kd.S_drewN | apply Kd.S_drew)); exact Kd.S_mono HO_3.out (fun k_ hk => ⟨trivial, fun e_ => hk.2 e_⟩))); (case aS => exact (below_size Z101.z0)); (case aL => have := LMc6.out; omega); intro v106 w8 ho hb hg hat; rw [← Ny105.out] at ho; have n0_ := Aside0.mk (hb); have n1_ := Aside0.mk (ho); clear HB HO_3 HO104; have HB := n0_; have HO107 := n1_; clear n0_ n1_; clear ho hb hg hat))
       go_roundg k1
       case measure => have := HK1.out; omega
       case rel => exact ⟨(y105), (wrap64 (x8_1 + 1)), (by first | rfl | (simp; done) | (simp [*]; done)), H', ⟨(by have := HK1.out; omega)⟩, ⟨(by (with_reducible repeat (first | apply Kd.S_alloc | apply Kd.S_drewN | apply Kd.S_drew)); exact HO107.out)⟩, ⟨Z101.z0⟩⟩
      rw [if_neg c6] at H
      exact absurd H (by simp)
     rw [if_neg c4] at H
     exact absurd H (by simp)
    rw [if_neg c3] at H
    exact absurd H (by simp)
   rw [if_neg c2] at H
   have c2b0 : decide (x8_1 < (l0.length : Int)) = false := decide_eq_false c2
   clear c2
   obtain rfl := Option.some.inj H
   go_wp2
   go_ret
   exact ⟨_, (by first | rfl | (simp [errW_none, errW_some] <;> rfl) | (simp [*, errW_none, errW_some] <;> rfl)), (by (with_reducible repeat (first | apply Kd.S_alloc | apply Kd.S_drewN | apply Kd.S_drew)); exact HO_3.out), Z101.z0⟩
/-! ### impl_spaceOf: function 71 -/
def impl_spaceOf.elimR.f (k : Nat) (rs : List (List Int)) (a1 a2 : Int) : Option (List Int × Int × List (List Int)) := (impl_copyLists.f k rs).bind fun t => impl_eliminate.l0 k a1 a2 [] 1 a1 0 t
theorem impl_spaceOf.elimR.mono : ∀ a0 a1 a2 k, LeO (impl_spaceOf.elimR.f k a0 a1 a2) (impl_spaceOf.elimR.f (k + 1) a0 a1 a2) := by
  intro a0 a1 a2 k
  have ih := impl_eliminate.mono_l k
  unfold impl_spaceOf.elimR.f
  refine LeO.bind (impl_copyLists.mono _ _) (fun _ => ?_)
  first | exact ih.1 _ _ _ _ _ _ _ | exact ih _ _ _ _ _ _ _
def impl_spaceOf.f (k : Nat) (a0 : Int) (a1 : Int) (l2 : List (List Int)) : Option (Int × Int × (List (List Int))) := (impl_spaceOf.elimR.f k l2 a1 a0).bind fun bt102 => (if 0 ≤ (bt102.1.length : Int) then (if (bt102.1.length : Int) ≤ (bt102.2.2.length : Int) then ((impl_copyLists.f k (bt102.2.2.take ((bt102.1.length : Int) : Int).toNat)).bind fun t113 => (some (a0, a1, t113))) else (none)) else (none))
theorem Z71.bb {w0 w w1 : World} {g : Nat} {o : Obj} (_B : Aside0 (w0.heap[g]? = some o)) (h : w.heap[g]? = some o) (hb : Below w.heap.size w w1) : w1.heap[g]? = some o := blk_below h hb
theorem Z71.bl {w0 w : World} {g : Nat} {o : Obj} (_B : Aside0 (w0.heap[g]? = some o)) (h : w.heap[g]? = some o) : g < w.heap.size := blk_lt h
theorem Z71.z3 {P : Prop} (h : P := by repeat (first | (with_reducible exact HR112.out) | (with_reducible refine Kd.C_alloc ?_ _) | (with_reducible refine Kd.C_drewN ?_ _) | (with_reducible refine Kd.C_drew ?_) | exact HR112.out)) : P := h
theorem Z71.z2 {P : Prop} (h : P := by repeat (first | (with_reducible first | exact HB.out | apply below_alloc | apply pw_below_drewN | apply below_drew1) | exact HB.out)) : P := h
theorem Z71.z1 {P : Prop} (h : P := by (try simp only [List.map_toArray, List.map_cons, List.map_nil]); first | done | rfl | (simp only [List.length_drop, List.length_take]; rfl)) : P := h
theorem Z71.z0 {P : Prop} (h : P := by repeat (first | (with_reducible first | exact HB.out | apply below_alloc | apply pw_below_drewN | apply below_drew1 | refine below_set ?_ GE101.out) | exact HB.out)) : P := h
set_option maxHeartbeats 8000000 in
set_option maxRecDepth 100000 in
theorem impl_spaceOf.calls (k : Nat) (a0 : Int) (a1 : Int) (A2 : Option Addr) (c2 : Nat) (l2 : List (List Int)) (r1 : Int) (r2 : Int) (r3 : List (List Int)) (w : World) (hr2 : Kd.C (Kd.slice 2 (Kd.int .i64)) w A2 l2.length l2) (hc2 : l2.length ≤ c2) (h : impl_spaceOf.f k a0 a1 l2 = some (r1, r2, r3)) :
  Calls Try.prog 71 #[.int .i64 a0, .int .i64 a1, .slice A2 l2.length c2] w fun e w' => ∃ v2_ : Value, e = .returned (.agg #[.int .i64 r1, .int .i64 r2, v2_]) ∧ Kd.S (Kd.slice 2 (Kd.int .i64)) 22 w' w.heap.size (fun _ => True) v2_ r3 ∧ Below w.heap.size w w' := by
 have hu41 := Try.underlying41
 have HR2 := Aside0.mk hr2
 have HC2 := Aside0.mk hc2
 clear hr2 hc2
 have HB := Aside0.mk (Below.refl w.heap.size w)
 have H : ((impl_spaceOf.elimR.f k l2 a1 a0).bind fun bt102 => (if 0 ≤ (bt102.1.length : Int) then (if (bt102.1.length : Int) ≤ (bt102.2.2.length : Int) then ((impl_copyLists.f k (bt102.2.2.take ((bt102.1.length : Int) : Int).toNat)).bind fun t113 => (some (a0, a1, t113))) else (none)) else (none))) = some (r1, r2, r3) := h
 clear h
 replace H := Option.bind_eq_some_iff.mp H
 obtain ⟨⟨t102, t105, t106⟩, A40, H⟩ := H
 replace H : (if 0 ≤ (t102.length : Int) then (if (t102.length : Int) ≤ (t106.length : Int) then ((impl_copyLists.f k (t106.take ((t102.length : Int) : Int).toNat)).bind fun t113 => (some (a0, a1, t113))) else (none)) else (none)) = some (r1, r2, r3) := H
 have A4 := Aside0.mk A40
 clear A40
 by_cases c5 : 0 ≤ (t102.length : Int)
 ·rw [if_pos c5] at H
  have c5b0 := eq_true c5
  have c5b1 : decide (0 ≤ (t102.length : Int)) = true := decide_eq_true c5
  clear c5
  by_cases c6 : (t102.length : Int) ≤ (t106.length : Int)
  ·rw [if_pos c6] at H
   have c6b0 := eq_true c6
   have c6b1 : decide ((t102.length : Int) ≤ (t106.length : Int)) = true := decide_eq_true c6
   clear c6
   obtain ⟨y109, hy109⟩ : ∃ y_ : List (List Int), y_ = (t106.take ((t102.length : Int) : Int).toNat) := ⟨_, rfl⟩
   replace H : ((impl_copyLists.f k y109).bind fun t113 => (some (a0, a1, t113))) = some (r1, r2, r3) := by first | (rw [hy109]; with_reducible exact H) | (have H2_ := (Option.bind_some _ _).symm.trans H; rw [hy109]; with_reducible exact H2_) | (have H2_ := (Option.bind_some _ _).symm.trans H; with_reducible exact H2_) | with_reducible exact H | (rw [hy109]; exact H) | exact H
   have Ny109 := Aside0.mk hy109
   clear hy109
   replace H := Option.bind_eq_some_iff.mp H
   obtain ⟨t113, A70, H⟩ := H
   replace H : (some (a0, a1, t113)) = some (r1, r2, r3) := H
   have A7 := Aside0.mk A70
   clear A70
   simp only [Option.some.injEq, Prod.mk.injEq] at H
   obtain ⟨rfl, rfl, rfl⟩ := H
   obtain ⟨tR_, AR_, AE_⟩ := Option.bind_eq_some_iff.mp (show (impl_copyLists.f k l2).bind (fun t => impl_eliminate.l0 k a1 a0 [] 1 a1 0 t) = _ from A4.out)
   replace AR_ := Aside0.mk AR_
   replace AE_ := Aside0.mk AE_
   go_enter Try.func71, Try.ntmps71
   go_wp2_with (first | ((with_reducible refine gate_dst (N := 6) rfl ?_); refine box_event ?hg (N := 6) ?hd (cs := #[.int .i64 0, .int .i64 0, .slice none 0 0]) (t := 41) ?hr ?_; (case hd => rfl); (case hg => rfl); (case hr => first | (go_simp; done) | (go_simp; rfl)); intro gb101 hg w8 hbox hb; have n0_ := Aside0.mk (below_step Z71.z2 hb); have n1_ := Aside0.mk (hbox); have n2_ := Aside0.mk (show w.heap.size ≤ gb101 from (by rw [hg]; exact (below_size Z71.z2))); have n3_ := Aside0.mk (show w.heap.size ≤ gb101 from (by rw [hg]; exact (below_size Z71.z2))); clear HB; have HB := n0_; have BK101 := n1_; have GW101 := n2_; have GE101 := n3_; clear n0_ n1_ n2_ n3_; clear hb hbox hg) | ((with_reducible refine gate_callee (f := 101) rfl ?_); refine goesL_ (some 11) rfl rfl Try.func101 (by kernel_rfl) rfl #[.slice A2 l2.length c2] rfl Z71.z1 ?_; (with_reducible refine (impl_copyLists.calls k _ _ l2 tR_ _ ?side1 ?side2 AR_.out).mono ?_); (case side1 => exact (by repeat (first | exact (Kd.C_below HR2.out HB.out) | (with_reducible refine Kd.C_alloc ?_ _) | (with_reducible refine Kd.C_drewN ?_ _) | (with_reducible refine Kd.C_drew ?_)))); (case side2 => exact HC2.out); rintro e w8a ⟨vR_, rfl, hoR_, hbR_⟩; refine ⟨_, rfl, ?_⟩; have HOR_ := Aside0.mk (Kd.N_mono (ok' := fun k_ => _ ≤ k_) (Kd.S_N (Kd.S_bound hoR_)) (fun k_ hk_ => hk_.2.1)); have HBR_ := Aside0.mk hbR_; clear hoR_ hbR_) | ((with_reducible refine gate_callee (f := 60) rfl ?_); refine goesL_ (some 16) rfl rfl Try.func60 (by kernel_rfl) rfl #[vR_, .int .i64 a1, .int .i64 a0] rfl Z71.z1 ?_; (with_reducible refine (impl_eliminate.calls k vR_ tR_ a1 a0 t102 t105 t106 _ _ HBR_.out HOR_.out AE_.out).mono ?_); rintro e w9 ⟨v103, rfl, ho0, ho1, hb⟩; refine ⟨_, rfl, ?_⟩; have n0_ := Aside0.mk (Kd.R_lower (Kd.R_mono (ok' := fun k_ => True) ho0 (fun _ hk_ => trivial)) (below_size Z71.z0)); have n1_ := Aside0.mk (Kd.N_lower (Kd.N_mono (ok' := fun k_ => some k_ ≠ (v103 : Value).ownBlock) ho1 (fun _ hk_ => hk_.2)) (below_size Z71.z0)); have n2_ := Aside0.mk (Z71.bb BK101 (by (with_reducible repeat (first | refine blk_drewN ?_ _ | refine blk_drew ?_ | refine blk_alloc ?_ _)); exact BK101.out) hb); have n3_ := Aside0.mk (below_step Z71.z0 hb); clear BK101 HB; have HO104 := n0_; have HO108 := n1_; have BK101 := n2_; have HB := n3_; clear n0_ n1_ n2_ n3_; (try clear hb); (try clear hb2); (try clear hk); (try clear hi); (try clear ho0); (try clear ho1); obtain ⟨Ao10, co10, eo10⟩ := Kd.R_slice HO104.out; subst eo10; obtain ⟨Ao12, co12, eo12⟩ := Kd.N_slice HO108.out; subst eo12; have q11 : ((t102.length : Int) : Int) ≤ ((t106.length : Int) : Int) := of_decide_eq_true (by first | (with_reducible assumption) | assumption); obtain ⟨i011, hi011, _, hsz11, _⟩ := info_parts info22; have hroom11 : t106.length ≤ co12 := (Kd.N_reads' HO108.out).2.1; have hC11 : Kd.C (Kd.slice 2 (Kd.int .i64)) _ Ao12 t106.length t106 := (Kd.N_reads' HO108.out).2.2; have hcut11 := cut_to (P := Try.prog) 36 22 .i64 Try.underlying36 hi011 Ao12 t106.length co12 (t102.length : Int) (of_decide_eq_true (by first | (with_reducible assumption) | assumption)) q11 hroom11; have hr11 := Kd.C_take (m := ((t102.length : Int) : Int).toNat) hC11 (by omega); have hy11 : y109.length = ((t102.length : Int) : Int).toNat := (by rw [Ny109.out, List.length_take]; omega); rw [← Ny109.out] at hr11; rw [← hy11] at hcut11; have HR112 := Aside0.mk hr11; have HC112 := Aside0.mk (show y109.length ≤ co12 from by omega); clear hr11 hC11 hroom11 hi011 hsz11; have KY11 := Aside0.mk hy11; clear hy11; have KL11 := Aside0.mk (show ((t102.length : Int) : Int).toNat ≤ t106.length from by omega); replace q11 := eq_true q11) | ((with_reducible refine gate_callee (f := 101) rfl ?_); refine goesL_ (some 25) rfl rfl Try.func101 (by kernel_rfl) rfl #[.slice Ao12 y109.length co12] rfl Z71.z1 ?_; (with_reducible refine (impl_copyLists.calls k _ _ y109 t113 _ ?side1 ?side2 A7.out).mono ?_); (case side1 => exact (by repeat (first | exact Z71.z3 | (with_reducible refine Kd.C_alloc ?_ _) | (with_reducible refine Kd.C_drewN ?_ _) | (with_reducible refine Kd.C_drew ?_)))); (case side2 => exact HC112.out); rintro e w13 ⟨v114, rfl, ho0, hb⟩; refine ⟨_, rfl, ?_⟩; have n0_ := Aside0.mk (Kd.R_below (by (with_reducible repeat (first | apply Kd.R_alloc | apply Kd.R_drewN | apply Kd.R_drew)); exact HO104.out) hb); have n1_ := Aside0.mk (Kd.N_elder' (by (with_reducible repeat (first | apply Kd.N_alloc | apply Kd.N_drewN | apply Kd.N_drew)); exact HO108.out) (Kd.S_base ho0) hb); have n2_ := Aside0.mk (Kd.S_lower (Kd.S_new' (Kd.S_new' ho0 (Kd.R_lt (by (with_reducible repeat (first | apply Kd.R_alloc | apply Kd.R_drewN | apply Kd.R_drew)); exact HO104.out))) (Kd.N_lt (by (with_reducible repeat (first | apply Kd.N_alloc | apply Kd.N_drewN | apply Kd.N_drew)); exact HO108.out))) (below_size Z71.z0)); have n3_ := Aside0.mk (Z71.bb BK101 (by (with_reducible repeat (first | refine blk_drewN ?_ _ | refine blk_drew ?_ | refine blk_alloc ?_ _)); exact BK101.out) hb); have n4_ := Aside0.mk (Kd.C_below Z71.z3 hb); have n5_ := Aside0.mk (below_step Z71.z0 hb); clear HO104 HO108 BK101 HR112 HB; have HO104 := n0_; have HO108 := n1_; have HO115 := n2_; have BK101 := n3_; have HR112 := n4_; have HB := n5_; clear n0_ n1_ n2_ n3_ n4_ n5_; (try clear hb); (try clear hb2); (try clear hk); (try clear hi); (try clear ho0); obtain ⟨Ao14, co14, eo14⟩ := Kd.S_slice HO115.out; subst eo14; have hcz15_0 : w13.cell? ⟨gb101, 0, none⟩ = some (.int .i64 0) := (blk_cell BK101.out 0).trans rfl; have hcz15_1 : w13.cell? ⟨gb101, 1, none⟩ = some (.int .i64 0) := (blk_cell BK101.out 1).trans rfl; have hcz15_2 : w13.cell? ⟨gb101, 2, none⟩ = some (.slice none 0 0) := (blk_cell BK101.out 2).trans rfl; have hfz15_0 := blk_frozen BK101.out 0; have hfz15_1 := blk_frozen BK101.out 1; have hfz15_2 := blk_frozen BK101.out 2))
   refine bodyPost_ret (results_cell_row rfl _ _ gb101 41 #[.int .i64 a0, .int .i64 a1, .slice Ao14 t113.length co14] (0, 0) _ rfl (by (with_reducible repeat (first | refine blk_drewN ?_ _ | refine blk_drew ?_ | refine blk_alloc ?_ _)); refine blk_put (cs := #[.int .i64 a0, .int .i64 a1, .slice none 0 0]) ?_ 2 _ rfl; (with_reducible repeat (first | refine blk_drewN ?_ _ | refine blk_drew ?_ | refine blk_alloc ?_ _)); refine blk_put (cs := #[.int .i64 a0, .int .i64 0, .slice none 0 0]) ?_ 1 _ rfl; (with_reducible repeat (first | refine blk_drewN ?_ _ | refine blk_drew ?_ | refine blk_alloc ?_ _)); refine blk_put (cs := #[.int .i64 0, .int .i64 0, .slice none 0 0]) ?_ 0 _ rfl; (with_reducible repeat (first | refine blk_drewN ?_ _ | refine blk_drew ?_ | refine blk_alloc ?_ _)); exact BK101.out) Try.underlying41 rfl (by kernel_rfl)) rfl ?_
   exact ⟨_, (by first | rfl | (simp [errW_none, errW_some] <;> rfl) | (simp [*, errW_none, errW_some] <;> rfl)), (by (with_reducible repeat (first | apply Kd.S_alloc | apply Kd.S_drewN | apply Kd.S_drew)); exact Kd.S_mono (Kd.S_far (p := ⟨gb101, 2, none⟩) (Kd.S_far (p := ⟨gb101, 1, none⟩) (Kd.S_far (p := ⟨gb101, 0, none⟩) (Kd.S_types HO115.out BK101.out (by decide)) (fun _ hk => hk.2) (.int .i64 a0)) (fun _ hk => hk.2) (.int .i64 a1)) (fun _ hk => hk.2) (.slice Ao14 t113.length co14)) (fun _ hk => trivial)), Z71.z0⟩
  rw [if_neg c6] at H
  exact absurd H (by simp)
 rw [if_neg c5] at H
 exact absurd H (by simp)
/-! ### impl_ValidSpace: function 42 -/
def impl_ValidSpace.f (k : Nat) (a0_0 : Int) (a0_1 : Int) (l0_2 : List (List Int)) : Option (Bool) := (impl_ValidPrime.f k a0_0).bind fun t102 => (if t102 = true then ((impl_isSide.f a0_1).bind fun t103 => (if t103 = true then ((impl_areVectors.f l0_2 a0_1 a0_0).bind fun t104 => (if t104 = true then ((impl_spaceOf.f k a0_0 a0_1 l0_2).bind fun bt105 => ((impl_areSame.f k bt105.2.2 l0_2).bind fun t110 => (some t110))) else (some false))) else (some false))) else (some false))
def impl_ValidSpace.T1 : Bool × List (List Nat × List Nat) := (true, [([], []), ([0], [0]), ([1], [1]), ([2, 2], [2]), ([3], [3]), ([4, 3], [3, 4]), ([5, 3, 3], [3, 5]), ([3, 6], [3, 6]), ([7, 6], [7]), ([8], [8]), ([9, 8], [8, 9]), ([8], [8]), ([11, 8], [8, 11]), ([8], [8]), ([13, 8], [8, 13]), ([10, 12, 14, 8, 8], [8, 10, 12, 14]), ([8, 15], [8, 15]), ([16, 15], [16]), ([17], [17]), ([18, 17], [17, 18]), ([17], [17]), ([20, 17], [17, 20]), ([17], [17]), ([22, 17], [17, 22]), ([19, 21, 23, 17, 17], [17, 19, 21, 23]), ([24, 17], [17, 24]), ([17], [17]), ([26, 17], [17, 26]), ([25, 27, 24, 17], [17, 25, 27]), ([17, 28], [17, 28]), ([29, 28, 0, 1, 2, 3, 4, 5, 6, 7, 8, 9, 10, 11, 12, 13, 14, 15, 16, 17, 18, 19, 20, 21, 22, 23, 24, 25, 26, 27, 28, 29], [29])])
def impl_ValidSpace.B1 : List Nat := [0, 1, 3, 7, 15, 31, 63, 127, 255, 511, 1023, 511, 2559, 511, 8703, 32767, 65535, 131071, 262143, 524287, 262143, 1310719, 262143, 4456447, 16777215, 33554431, 262143, 67371007, 268435455, 536870911, 1073741823]
theorem impl_ValidSpace.tab1 : rtab .any (opsOf Try.f42 1) = impl_ValidSpace.T1 := by kernel_rfl
theorem impl_ValidSpace.bits1 : waitsOk impl_ValidSpace.T1.2 impl_ValidSpace.B1 = true := by kernel_rfl
def Z42.b (n x : Nat) : Array Bool := ((List.range n).map (fun i => x.testBit i)).toArray
theorem Z42.bb {w0 w w1 : World} {g : Nat} {o : Obj} (_B : Aside0 (w0.heap[g]? = some o)) (h : w.heap[g]? = some o) (hb : Below w.heap.size w w1) : w1.heap[g]? = some o := blk_below h hb
theorem Z42.bl {w0 w : World} {g : Nat} {o : Obj} (_B : Aside0 (w0.heap[g]? = some o)) (h : w.heap[g]? = some o) : g < w.heap.size := blk_lt h
theorem Z42.k {p : Prop} (h : p) : Aside0 p := ⟨h⟩
theorem Z42.z9 {P : Prop} (h : P := by rw [hg]; exact (below_size Z42.z3)) : P := h
theorem Z42.z8 {P : Prop} (h : P := by repeat (first | exact (Kd.C_below HR0_2.out HB.out) | (with_reducible refine Kd.C_alloc ?_ _) | (with_reducible refine Kd.C_drewN ?_ _) | (with_reducible refine Kd.C_drew ?_))) : P := h
theorem Z42.z7 {P : Prop} (h : P := by repeat (first | exact (Kd.C_below HR0_2.out Z42.z1) | (with_reducible refine Kd.C_alloc ?_ _) | (with_reducible refine Kd.C_drewN ?_ _) | (with_reducible refine Kd.C_drew ?_))) : P := h
theorem Z42.z6 {P : Prop} (h : P := by (with_reducible repeat (first | refine blk_drewN ?_ _ | refine blk_drew ?_ | refine blk_alloc ?_ _)); exact BK101.out) : P := h
theorem Z42.z5 {P : Prop} (h : P := by first | rfl | (simp [errW_none, errW_some] <;> rfl) | (simp [*, errW_none, errW_some] <;> rfl)) : P := h
theorem Z42.z4 {P : Prop} (h : P := by (try simp only [List.map_toArray, List.map_cons, List.map_nil]); first | done | rfl | (simp only [List.length_drop, List.length_take]; rfl)) : P := h
theorem Z42.z3 {P : Prop} (h : P := by repeat (first | (with_reducible first | exact HB.out | apply below_alloc | apply pw_below_drewN | apply below_drew1) | exact HB.out)) : P := h
theorem Z42.z2 {P : Prop} (h : P := by exact ⟨(blk_cell BK101.out 0).trans rfl, (blk_cell BK101.out 1).trans rfl, (blk_cell BK101.out 2).trans rfl⟩) : P := h
theorem Z42.z1 {P : Prop} (h : P := by repeat (first | (with_reducible first | exact HB.out | apply below_alloc | apply pw_below_drewN | apply below_drew1 | refine below_set ?_ GE101.out) | exact HB.out)) : P := h
theorem Z42.z0 {P : Prop} (h : P := by simp only [Act.put, List.setIfInBounds_toArray, List.set_cons_zero, List.set_cons_succ, i64_w, i32_w]; rfl) : P := h
set_option maxHeartbeats 8000000 in
set_option maxRecDepth 100000 in
theorem impl_ValidSpace.calls (k : Nat) (a0_0 : Int) (a0_1 : Int) (A0_2 : Option Addr) (c0_2 : Nat) (l0_2 : List (List Int)) (r : Bool) (w : World) (hr0_2 : Kd.C (Kd.slice 2 (Kd.int .i64)) w A0_2 l0_2.length l0_2) (hc0_2 : l0_2.length ≤ c0_2) (h : impl_ValidSpace.f k a0_0 a0_1 l0_2 = some r) :
  Calls Try.prog 42 #[.agg #[.int .i64 a0_0, .int .i64 a0_1, .slice A0_2 l0_2.length c0_2]] w fun e w' => e = .returned (.bool r) ∧ Below w.heap.size w w' := by
 have hu41 := Try.underlying41
 have HR0_2 := Z42.k hr0_2
 have HC0_2 := Z42.k hc0_2
 clear hr0_2 hc0_2
 have HB := Z42.k (Below.refl w.heap.size w)
 have H : ((impl_ValidPrime.f k a0_0).bind fun t102 => (if t102 = true then ((impl_isSide.f a0_1).bind fun t103 => (if t103 = true then ((impl_areVectors.f l0_2 a0_1 a0_0).bind fun t104 => (if t104 = true then ((impl_spaceOf.f k a0_0 a0_1 l0_2).bind fun bt105 => ((impl_areSame.f k bt105.2.2 l0_2).bind fun t110 => (some t110))) else (some false))) else (some false))) else (some false))) = some r := h
 clear h
 replace H := Option.bind_eq_some_iff.mp H
 obtain ⟨t102, A20, H⟩ := H
 replace H : (if t102 = true then ((impl_isSide.f a0_1).bind fun t103 => (if t103 = true then ((impl_areVectors.f l0_2 a0_1 a0_0).bind fun t104 => (if t104 = true then ((impl_spaceOf.f k a0_0 a0_1 l0_2).bind fun bt105 => ((impl_areSame.f k bt105.2.2 l0_2).bind fun t110 => (some t110))) else (some false))) else (some false))) else (some false)) = some r := H
 have A2 := Z42.k A20
 clear A20
 by_cases c3 : t102 = true
 ·subst c3
  have H1 : ((impl_isSide.f a0_1).bind fun t103 => (if t103 = true then ((impl_areVectors.f l0_2 a0_1 a0_0).bind fun t104 => (if t104 = true then ((impl_spaceOf.f k a0_0 a0_1 l0_2).bind fun bt105 => ((impl_areSame.f k bt105.2.2 l0_2).bind fun t110 => (some t110))) else (some false))) else (some false))) = some r := by rw [if_pos rfl] at H; exact H
  clear H
  have H := H1
  clear H1
  replace H := Option.bind_eq_some_iff.mp H
  obtain ⟨t103, A40, H⟩ := H
  replace H : (if t103 = true then ((impl_areVectors.f l0_2 a0_1 a0_0).bind fun t104 => (if t104 = true then ((impl_spaceOf.f k a0_0 a0_1 l0_2).bind fun bt105 => ((impl_areSame.f k bt105.2.2 l0_2).bind fun t110 => (some t110))) else (some false))) else (some false)) = some r := H
  have A4 := Z42.k A40
  clear A40
  by_cases c5 : t103 = true
  ·subst c5
   have H1 : ((impl_areVectors.f l0_2 a0_1 a0_0).bind fun t104 => (if t104 = true then ((impl_spaceOf.f k a0_0 a0_1 l0_2).bind fun bt105 => ((impl_areSame.f k bt105.2.2 l0_2).bind fun t110 => (some t110))) else (some false))) = some r := by rw [if_pos rfl] at H; exact H
   clear H
   have H := H1
   clear H1
   replace H := Option.bind_eq_some_iff.mp H
   obtain ⟨t104, A60, H⟩ := H
   replace H : (if t104 = true then ((impl_spaceOf.f k a0_0 a0_1 l0_2).bind fun bt105 => ((impl_areSame.f k bt105.2.2 l0_2).bind fun t110 => (some t110))) else (some false)) = some r := H
   have A6 := Z42.k A60
   clear A60
   by_cases c7 : t104 = true
   ·subst c7
    have H1 : ((impl_spaceOf.f k a0_0 a0_1 l0_2).bind fun bt105 => ((impl_areSame.f k bt105.2.2 l0_2).bind fun t110 => (some t110))) = some r := by rw [if_pos rfl] at H; exact H
    clear H
    have H := H1
    clear H1
    replace H := Option.bind_eq_some_iff.mp H
    obtain ⟨⟨t105, t106, t107⟩, A80, H⟩ := H
    replace H : ((impl_areSame.f k t107 l0_2).bind fun t110 => (some t110)) = some r := H
    have A8 := Z42.k A80
    clear A80
    replace H := Option.bind_eq_some_iff.mp H
    obtain ⟨t110, A90, H⟩ := H
    replace H : (some t110) = some r := H
    have A9 := Z42.k A90
    clear A90
    obtain rfl := Option.some.inj H
    go_enter Try.func42, Try.ntmps42
    try go_wp2_with (first | ((with_reducible refine gate_dst (N := 1) rfl ?_); refine box_event ?hg (N := 1) ?hd (cs := #[.int .i64 a0_0, .int .i64 a0_1, .slice A0_2 l0_2.length c0_2]) (t := 41) ?hr ?_; (case hd => rfl); (case hg => rfl); (case hr => first | (go_simp; done) | (go_simp; rfl)); intro gb101 hg w10 hbox hb; have n0_ := Z42.k (below_step Z42.z3 hb); have n1_ := Z42.k (hbox); have n2_ := Z42.k (show w.heap.size ≤ gb101 from Z42.z9); have n3_ := Z42.k (show w.heap.size ≤ gb101 from Z42.z9); clear HB; have HB := n0_; have BK101 := n1_; have GW101 := n2_; have GE101 := n3_; clear n0_ n1_ n2_ n3_; clear hb hbox hg))
    have n0_ := Z42.k (blk_drew BK101.out)
    have n1_ := Z42.k (below_drew1 HB.out)
    clear BK101 HB
    have BK101 := n0_
    have HB := n1_
    clear n0_ n1_
    refine start_ (n := 31) (S := fun w' => w'.cell? ⟨gb101, 0, none⟩ = some (.int .i64 a0_0) ∧ w'.cell? ⟨gb101, 1, none⟩ = some (.int .i64 a0_1) ∧ w'.cell? ⟨gb101, 2, none⟩ = some (.slice A0_2 l0_2.length c0_2)) (ds := []) #[false, false, false, false, false, false, false, false, false, false, false, false, false, false, false, false, false, false, false, false, false, false, false, false, false, false, false, false, false, false, false] (by kernel_rfl) rfl rfl Z42.z2 (fun hHeld => ?_); refine with_tabW impl_ValidSpace.tab1 impl_ValidSpace.bits1 (fun HT_ HW_ => ?_)
    generalize w10.drew = w11 at BK101 HB hHeld ⊢
    refine pure_ (i := 0) (N := some 3) (v := ?_) (a' := ?_) (Z42.b 31 1) rfl rfl (any_of HT_.out (by kernel_rfl)) (fun _ _ _ h => h) (Or.inl ⟨(by rfl), ?_⟩) ?_ ?_
    rotate_left
    ·intro w'
     go_simp
     first | (with_reducible rfl) | (simp [Instr.field, underlying, hu41, asAgg, part, sizeOf, typeInfo]; rfl)
    rotate_left
    ·exact Z42.z0
    refine take_ (i := 1) (N := some 4) (v := ?_) (a' := ?_) (Z42.b 31 3) rfl rfl (take_ofW HT_.out HW_.out (by kernel_rfl)) (fun _ _ _ h => h) (Or.inl ⟨(by rfl), ?_⟩) hHeld ?_ ?_
    rotate_left
    ·rintro w' ⟨s0, s1, s2⟩
     go_simp
     first | (with_reducible rfl) | (simp [Instr.field, underlying, hu41, asAgg, part, sizeOf, typeInfo]; rfl)
    rotate_left
    ·exact Z42.z0
    refine one_ (i := 2) (N := some 5) (Z42.b 31 7) rfl rfl (one_of HT_.out (by kernel_rfl)) (by decide) (fun K hK => ?_)
    refine goes_ Try.func67 (by kernel_rfl) rfl #[.int .i64 a0_0] (by rfl) rfl rfl Z42.z4 ?_
    with_reducible refine (impl_ValidPrime.calls k a0_0 true _ A2.out).mono ?_
    rintro e w' ⟨rfl, ⟨nd, rfl⟩⟩
    refine ⟨_, rfl, ?_⟩
    refine hK.out _ _ Z42.z2 (fun hHeld => ?_)
    clear hK K
    refine norm_ (a' := ?_) ?_ ?_
    rotate_left
    ·show Act.put _ (some 5) _ = _
     simp only [Act.put, List.setIfInBounds_toArray, List.set_cons_zero, List.set_cons_succ, i64_w, i32_w]
     rfl
    refine pure_ (i := 3) (N := some 6) (v := ?_) (a' := ?_) (Z42.b 31 15) rfl rfl (any_of HT_.out (by kernel_rfl)) (fun _ _ _ h => h) (Or.inl ⟨(by rfl), ?_⟩) ?_ ?_
    rotate_left
    ·intro w'
     go_simp
     first | (with_reducible rfl) | (simp [Instr.field, underlying, hu41, asAgg, part, sizeOf, typeInfo]; rfl)
    rotate_left
    ·exact Z42.z0
    refine pure_ (i := 4) (N := some 7) (v := ?_) (a' := ?_) (Z42.b 31 31) rfl rfl (any_of HT_.out (by kernel_rfl)) (fun _ _ _ h => h) (Or.inl ⟨(by rfl), ?_⟩) ?_ ?_
    rotate_left
    ·intro w'
     go_simp
     first | (with_reducible rfl) | (simp [Instr.field, underlying, hu41, asAgg, part, sizeOf, typeInfo]; rfl)
    rotate_left
    ·exact Z42.z0
    refine take_ (i := 5) (N := some 8) (v := ?_) (a' := ?_) (Z42.b 31 63) rfl rfl (take_ofW HT_.out HW_.out (by kernel_rfl)) (fun _ _ _ h => h) (Or.inl ⟨(by rfl), ?_⟩) hHeld ?_ ?_
    rotate_left
    ·rintro w' ⟨s0, s1, s2⟩
     go_simp
     first | (with_reducible rfl) | (simp [Instr.field, underlying, hu41, asAgg, part, sizeOf, typeInfo]; rfl)
    rotate_left
    ·exact Z42.z0
    refine one_ (i := 6) (N := some 9) (Z42.b 31 127) rfl rfl (one_of HT_.out (by kernel_rfl)) (by decide) (fun K hK => ?_)
    refine goes_ Try.func68 (by kernel_rfl) rfl #[.int .i64 a0_1] (by rfl) rfl rfl Z42.z4 ?_
    with_reducible refine (impl_isSide.calls a0_1 true _ A4.out).mono ?_
    rintro e w' ⟨rfl, ⟨nd, rfl⟩⟩
    refine ⟨_, rfl, ?_⟩
    refine hK.out _ _ Z42.z2 (fun hHeld => ?_)
    clear hK K
    refine norm_ (a' := ?_) ?_ ?_
    rotate_left
    ·show Act.put _ (some 9) _ = _
     simp only [Act.put, List.setIfInBounds_toArray, List.set_cons_zero, List.set_cons_succ, i64_w, i32_w]
     rfl
    refine pure_ (i := 7) (N := some 10) (v := ?_) (a' := ?_) (Z42.b 31 255) rfl rfl (any_of HT_.out (by kernel_rfl)) (fun _ _ _ h => h) (Or.inl ⟨(by rfl), ?_⟩) ?_ ?_
    rotate_left
    ·intro w'
     go_simp
     first | (with_reducible rfl) | (simp [Instr.field, underlying, hu41, asAgg, part, sizeOf, typeInfo]; rfl)
    rotate_left
    ·exact Z42.z0
    refine pure_ (i := 8) (N := some 11) (v := ?_) (a' := ?_) (Z42.b 31 511) rfl rfl (any_of HT_.out (by kernel_rfl)) (fun _ _ _ h => h) (Or.inl ⟨(by rfl), ?_⟩) ?_ ?_
    rotate_left
    ·intro w'
     go_simp
     first | (with_reducible rfl) | (simp [Instr.field, underlying, hu41, asAgg, part, sizeOf, typeInfo]; rfl)
    rotate_left
    ·exact Z42.z0
    refine pure_ (i := 9) (N := some 12) (v := ?_) (a' := ?_) (Z42.b 31 1023) rfl rfl (any_of HT_.out (by kernel_rfl)) (fun _ _ _ h => h) (Or.inl ⟨(by rfl), ?_⟩) ?_ ?_
    rotate_left
    ·intro w'
     go_simp
     first | (with_reducible rfl) | (simp [Instr.field, underlying, hu41, asAgg, part, sizeOf, typeInfo]; rfl)
    rotate_left
    ·exact Z42.z0
    refine pure_ (i := 11) (N := some 14) (v := ?_) (a' := ?_) (Z42.b 31 3071) rfl rfl (any_of HT_.out (by kernel_rfl)) (fun _ _ _ h => h) (Or.inl ⟨(by rfl), ?_⟩) ?_ ?_
    rotate_left
    ·intro w'
     go_simp
     first | (with_reducible rfl) | (simp [Instr.field, underlying, hu41, asAgg, part, sizeOf, typeInfo]; rfl)
    rotate_left
    ·exact Z42.z0
    refine pure_ (i := 13) (N := some 16) (v := ?_) (a' := ?_) (Z42.b 31 11263) rfl rfl (any_of HT_.out (by kernel_rfl)) (fun _ _ _ h => h) (Or.inl ⟨(by rfl), ?_⟩) ?_ ?_
    rotate_left
    ·intro w'
     go_simp
     first | (with_reducible rfl) | (simp [Instr.field, underlying, hu41, asAgg, part, sizeOf, typeInfo]; rfl)
    rotate_left
    ·exact Z42.z0
    refine take_ (i := 10) (N := some 13) (v := ?_) (a' := ?_) (Z42.b 31 12287) rfl rfl (take_ofW HT_.out HW_.out (by kernel_rfl)) (fun _ _ _ h => h) (Or.inl ⟨(by rfl), ?_⟩) hHeld ?_ ?_
    rotate_left
    ·rintro w' ⟨s0, s1, s2⟩
     go_simp
     first | (with_reducible rfl) | (simp [Instr.field, underlying, hu41, asAgg, part, sizeOf, typeInfo]; rfl)
    rotate_left
    ·exact Z42.z0
    refine take_ (i := 12) (N := some 15) (v := ?_) (a' := ?_) (Z42.b 31 16383) rfl rfl (take_ofW HT_.out HW_.out (by kernel_rfl)) (fun _ _ _ h => h) (Or.inl ⟨(by rfl), ?_⟩) hHeld ?_ ?_
    rotate_left
    ·rintro w' ⟨s0, s1, s2⟩
     go_simp
     first | (with_reducible rfl) | (simp [Instr.field, underlying, hu41, asAgg, part, sizeOf, typeInfo]; rfl)
    rotate_left
    ·exact Z42.z0
    refine take_ (i := 14) (N := some 17) (v := ?_) (a' := ?_) (Z42.b 31 32767) rfl rfl (take_ofW HT_.out HW_.out (by kernel_rfl)) (fun _ _ _ h => h) (Or.inl ⟨(by rfl), ?_⟩) hHeld ?_ ?_
    rotate_left
    ·rintro w' ⟨s0, s1, s2⟩
     go_simp
     first | (with_reducible rfl) | (simp [Instr.field, underlying, hu41, asAgg, part, sizeOf, typeInfo]; rfl)
    rotate_left
    ·exact Z42.z0
    refine one_ (i := 15) (N := some 18) (Z42.b 31 65535) rfl rfl (one_of HT_.out (by kernel_rfl)) (by decide) (fun K hK => ?_)
    refine goes_ Try.func69 (by kernel_rfl) rfl #[.slice A0_2 l0_2.length c0_2, .int .i64 a0_1, .int .i64 a0_0] (by rfl) rfl rfl Z42.z4 ?_
    with_reducible refine (impl_areVectors.calls _ _ l0_2 a0_1 a0_0 true _ ?side1 ?side2 A6.out).mono ?_
    (case side1 => exact Z42.z7)
    (case side2 => exact HC0_2.out)
    rintro e w12 ⟨rfl, hb⟩
    refine ⟨_, rfl, ?_⟩
    have n0_ := Z42.k (Z42.bb BK101 Z42.z6 hb)
    have n1_ := Z42.k (below_step Z42.z1 hb)
    clear BK101 HB
    have BK101 := n0_
    have HB := n1_
    clear n0_ n1_
    (try clear hb)
    (try clear hb2)
    (try clear hk)
    (try clear hi)
    refine hK.out _ _ Z42.z2 (fun hHeld => ?_)
    clear hK K
    refine norm_ (a' := ?_) ?_ ?_
    rotate_left
    ·show Act.put _ (some 18) _ = _
     simp only [Act.put, List.setIfInBounds_toArray, List.set_cons_zero, List.set_cons_succ, i64_w, i32_w]
     rfl
    refine pure_ (i := 16) (N := some 19) (v := ?_) (a' := ?_) (Z42.b 31 131071) rfl rfl (any_of HT_.out (by kernel_rfl)) (fun _ _ _ h => h) (Or.inl ⟨(by rfl), ?_⟩) ?_ ?_
    rotate_left
    ·intro w'
     go_simp
     first | (with_reducible rfl) | (simp [Instr.field, underlying, hu41, asAgg, part, sizeOf, typeInfo]; rfl)
    rotate_left
    ·exact Z42.z0
    refine pure_ (i := 17) (N := some 20) (v := ?_) (a' := ?_) (Z42.b 31 262143) rfl rfl (any_of HT_.out (by kernel_rfl)) (fun _ _ _ h => h) (Or.inl ⟨(by rfl), ?_⟩) ?_ ?_
    rotate_left
    ·intro w'
     go_simp
     first | (with_reducible rfl) | (simp [Instr.field, underlying, hu41, asAgg, part, sizeOf, typeInfo]; rfl)
    rotate_left
    ·exact Z42.z0
    refine pure_ (i := 18) (N := some 21) (v := ?_) (a' := ?_) (Z42.b 31 524287) rfl rfl (any_of HT_.out (by kernel_rfl)) (fun _ _ _ h => h) (Or.inl ⟨(by rfl), ?_⟩) ?_ ?_
    rotate_left
    ·intro w'
     go_simp
     first | (with_reducible rfl) | (simp [Instr.field, underlying, hu41, asAgg, part, sizeOf, typeInfo]; rfl)
    rotate_left
    ·exact Z42.z0
    refine pure_ (i := 20) (N := some 23) (v := ?_) (a' := ?_) (Z42.b 31 1572863) rfl rfl (any_of HT_.out (by kernel_rfl)) (fun _ _ _ h => h) (Or.inl ⟨(by rfl), ?_⟩) ?_ ?_
    rotate_left
    ·intro w'
     go_simp
     first | (with_reducible rfl) | (simp [Instr.field, underlying, hu41, asAgg, part, sizeOf, typeInfo]; rfl)
    rotate_left
    ·exact Z42.z0
    refine pure_ (i := 22) (N := some 25) (v := ?_) (a' := ?_) (Z42.b 31 5767167) rfl rfl (any_of HT_.out (by kernel_rfl)) (fun _ _ _ h => h) (Or.inl ⟨(by rfl), ?_⟩) ?_ ?_
    rotate_left
    ·intro w'
     go_simp
     first | (with_reducible rfl) | (simp [Instr.field, underlying, hu41, asAgg, part, sizeOf, typeInfo]; rfl)
    rotate_left
    ·exact Z42.z0
    refine pure_ (i := 26) (N := some 29) (v := ?_) (a' := ?_) (Z42.b 31 72876031) rfl rfl (any_of HT_.out (by kernel_rfl)) (fun _ _ _ h => h) (Or.inl ⟨(by rfl), ?_⟩) ?_ ?_
    rotate_left
    ·intro w'
     go_simp
     first | (with_reducible rfl) | (simp [Instr.field, underlying, hu41, asAgg, part, sizeOf, typeInfo]; rfl)
    rotate_left
    ·exact Z42.z0
    refine take_ (i := 19) (N := some 22) (v := ?_) (a' := ?_) (Z42.b 31 73400319) rfl rfl (take_ofW HT_.out HW_.out (by kernel_rfl)) (fun _ _ _ h => h) (Or.inl ⟨(by rfl), ?_⟩) hHeld ?_ ?_
    rotate_left
    ·rintro w' ⟨s0, s1, s2⟩
     go_simp
     first | (with_reducible rfl) | (simp [Instr.field, underlying, hu41, asAgg, part, sizeOf, typeInfo]; rfl)
    rotate_left
    ·exact Z42.z0
    refine take_ (i := 21) (N := some 24) (v := ?_) (a' := ?_) (Z42.b 31 75497471) rfl rfl (take_ofW HT_.out HW_.out (by kernel_rfl)) (fun _ _ _ h => h) (Or.inl ⟨(by rfl), ?_⟩) hHeld ?_ ?_
    rotate_left
    ·rintro w' ⟨s0, s1, s2⟩
     go_simp
     first | (with_reducible rfl) | (simp [Instr.field, underlying, hu41, asAgg, part, sizeOf, typeInfo]; rfl)
    rotate_left
    ·exact Z42.z0
    refine take_ (i := 23) (N := some 26) (v := ?_) (a' := ?_) (Z42.b 31 83886079) rfl rfl (take_ofW HT_.out HW_.out (by kernel_rfl)) (fun _ _ _ h => h) (Or.inl ⟨(by rfl), ?_⟩) hHeld ?_ ?_
    rotate_left
    ·rintro w' ⟨s0, s1, s2⟩
     go_simp
     first | (with_reducible rfl) | (simp [Instr.field, underlying, hu41, asAgg, part, sizeOf, typeInfo]; rfl)
    rotate_left
    ·exact Z42.z0
    refine take_ (i := 27) (N := some 30) (v := ?_) (a' := ?_) (Z42.b 31 218103807) rfl rfl (take_ofW HT_.out HW_.out (by kernel_rfl)) (fun _ _ _ h => h) (Or.inl ⟨(by rfl), ?_⟩) hHeld ?_ ?_
    rotate_left
    ·rintro w' ⟨s0, s1, s2⟩
     go_simp
     first | (with_reducible rfl) | (simp [Instr.field, underlying, hu41, asAgg, part, sizeOf, typeInfo]; rfl)
    rotate_left
    ·exact Z42.z0
    refine one_ (i := 24) (N := some 27) (Z42.b 31 234881023) rfl rfl (one_of HT_.out (by kernel_rfl)) (by decide) (fun K hK => ?_)
    refine goes_ Try.func71 (by kernel_rfl) rfl #[.int .i64 a0_0, .int .i64 a0_1, .slice A0_2 l0_2.length c0_2] (by rfl) rfl rfl Z42.z4 ?_
    with_reducible refine (impl_spaceOf.calls k a0_0 a0_1 _ _ l0_2 t105 t106 t107 _ ?side1 ?side2 A8.out).mono ?_
    (case side1 => exact Z42.z8)
    (case side2 => exact HC0_2.out)
    rintro e w13 ⟨v108, rfl, ho0, hb⟩
    refine ⟨_, rfl, ?_⟩
    have n0_ := Z42.k (Kd.S_lower ho0 (below_size Z42.z1))
    have n1_ := Z42.k (Z42.bb BK101 Z42.z6 hb)
    have n2_ := Z42.k (below_step Z42.z1 hb)
    clear BK101 HB
    have HO109 := n0_
    have BK101 := n1_
    have HB := n2_
    clear n0_ n1_ n2_
    (try clear hb)
    (try clear hb2)
    (try clear hk)
    (try clear hi)
    (try clear ho0)
    obtain ⟨Ao14, co14, eo14⟩ := Kd.S_slice HO109.out
    (first | subst eo14 | (injection eo14 with f1_ f2_ f3_; have f4_ := f1_.symm; have f5_ := f3_.symm; clear f1_ f2_ f3_; subst f4_; subst f5_))
    refine hK.out _ _ Z42.z2 (fun hHeld => ?_)
    clear hK K
    refine norm_ (a' := ?_) ?_ ?_
    rotate_left
    ·show Act.put _ (some 27) _ = _
     simp only [Act.put, List.setIfInBounds_toArray, List.set_cons_zero, List.set_cons_succ, i64_w, i32_w]
     rfl
    refine pure_ (i := 25) (N := some 28) (v := ?_) (a' := ?_) (Z42.b 31 268435455) rfl rfl (any_of HT_.out (by kernel_rfl)) (fun _ _ _ h => h) (Or.inl ⟨(by rfl), ?_⟩) ?_ ?_
    rotate_left
    ·intro w'
     go_simp
     first | (with_reducible rfl) | (simp [Instr.field, underlying, hu41, asAgg, part, sizeOf, typeInfo]; rfl)
    rotate_left
    ·exact Z42.z0
    refine one_ (i := 28) (N := some 31) (Z42.b 31 536870911) rfl rfl (one_of HT_.out (by kernel_rfl)) (by decide) (fun K hK => ?_)
    refine goes_ Try.func70 (by kernel_rfl) rfl #[.slice Ao14 t107.length co14, .slice A0_2 l0_2.length c0_2] (by rfl) rfl rfl Z42.z4 ?_
    with_reducible refine (impl_areSame.calls k _ _ t107 _ _ l0_2 t110 _ ?side1 ?side2 ?side3 ?side4 A9.out).mono ?_
    (case side1 => exact (by repeat (first | exact (Kd.S_reads' HO109.out).2.2 | (with_reducible refine Kd.C_alloc ?_ _) | (with_reducible refine Kd.C_drewN ?_ _) | (with_reducible refine Kd.C_drew ?_))))
    (case side2 => exact (Kd.S_reads' HO109.out).2.1)
    (case side3 => exact Z42.z8)
    (case side4 => exact HC0_2.out)
    rintro e w' ⟨rfl, ⟨nd, rfl⟩⟩
    refine ⟨_, rfl, ?_⟩
    refine hK.out _ _ Z42.z2 (fun hHeld => ?_)
    clear hK K
    refine norm_ (a' := ?_) ?_ ?_
    rotate_left
    ·show Act.put _ (some 31) _ = _
     simp only [Act.put, List.setIfInBounds_toArray, List.set_cons_zero, List.set_cons_succ, i64_w, i32_w]
     rfl
    refine pure_ (i := 29) (N := some 32) (v := ?_) (a' := ?_) (Z42.b 31 1073741823) rfl rfl (any_of HT_.out (by kernel_rfl)) (fun _ _ _ h => h) (Or.inl ⟨(by rfl), ?_⟩) ?_ ?_
    rotate_left
    ·intro w'
     go_simp
     first | (with_reducible rfl) | (simp [Instr.field, underlying, hu41, asAgg, part, sizeOf, typeInfo]; rfl)
    rotate_left
    ·exact Z42.z0
    refine pure_ (i := 30) (N := some 2) (v := ?_) (a' := ?_) (Z42.b 31 2147483647) rfl rfl (any_of HT_.out (by kernel_rfl)) (fun _ _ _ h => h) (Or.inl ⟨(by rfl), ?_⟩) ?_ ?_
    rotate_left
    ·intro w'
     go_simp
     first | (with_reducible rfl) | (simp [Instr.field, underlying, hu41, asAgg, part, sizeOf, typeInfo]; rfl)
    rotate_left
    ·exact Z42.z0
    refine done_ (done_of HT_.out (by kernel_rfl)) ?_
    try go_wp2
    go_ret
    exact ⟨Z42.z5, Z42.z1⟩
   replace c7 := Bool.eq_false_iff.mpr c7
   subst c7
   have H1 : (some false) = some r := by rw [if_neg (show ¬ (false = true) by decide)] at H; exact H
   clear H
   have H := H1
   clear H1
   obtain rfl := Option.some.inj H
   go_enter Try.func42, Try.ntmps42
   try go_wp2_with (first | ((with_reducible refine gate_dst (N := 1) rfl ?_); refine box_event ?hg (N := 1) ?hd (cs := #[.int .i64 a0_0, .int .i64 a0_1, .slice A0_2 l0_2.length c0_2]) (t := 41) ?hr ?_; (case hd => rfl); (case hg => rfl); (case hr => first | (go_simp; done) | (go_simp; rfl)); intro gb101 hg w15 hbox hb; have n0_ := Z42.k (below_step Z42.z3 hb); have n1_ := Z42.k (hbox); have n2_ := Z42.k (show w.heap.size ≤ gb101 from Z42.z9); have n3_ := Z42.k (show w.heap.size ≤ gb101 from Z42.z9); clear HB; have HB := n0_; have BK101 := n1_; have GW101 := n2_; have GE101 := n3_; clear n0_ n1_ n2_ n3_; clear hb hbox hg))
   have n0_ := Z42.k (blk_drew BK101.out)
   have n1_ := Z42.k (below_drew1 HB.out)
   clear BK101 HB
   have BK101 := n0_
   have HB := n1_
   clear n0_ n1_
   refine start_ (n := 31) (S := fun w' => w'.cell? ⟨gb101, 0, none⟩ = some (.int .i64 a0_0) ∧ w'.cell? ⟨gb101, 1, none⟩ = some (.int .i64 a0_1) ∧ w'.cell? ⟨gb101, 2, none⟩ = some (.slice A0_2 l0_2.length c0_2)) (ds := []) #[false, false, false, false, false, false, false, false, false, false, false, false, false, false, false, false, false, false, false, false, false, false, false, false, false, false, false, false, false, false, false] (by kernel_rfl) rfl rfl Z42.z2 (fun hHeld => ?_); refine with_tabW impl_ValidSpace.tab1 impl_ValidSpace.bits1 (fun HT_ HW_ => ?_)
   generalize w15.drew = w16 at BK101 HB hHeld ⊢
   refine pure_ (i := 0) (N := some 3) (v := ?_) (a' := ?_) (Z42.b 31 1) rfl rfl (any_of HT_.out (by kernel_rfl)) (fun _ _ _ h => h) (Or.inl ⟨(by rfl), ?_⟩) ?_ ?_
   rotate_left
   ·intro w'
    go_simp
    first | (with_reducible rfl) | (simp [Instr.field, underlying, hu41, asAgg, part, sizeOf, typeInfo]; rfl)
   rotate_left
   ·exact Z42.z0
   refine take_ (i := 1) (N := some 4) (v := ?_) (a' := ?_) (Z42.b 31 3) rfl rfl (take_ofW HT_.out HW_.out (by kernel_rfl)) (fun _ _ _ h => h) (Or.inl ⟨(by rfl), ?_⟩) hHeld ?_ ?_
   rotate_left
   ·rintro w' ⟨s0, s1, s2⟩
    go_simp
    first | (with_reducible rfl) | (simp [Instr.field, underlying, hu41, asAgg, part, sizeOf, typeInfo]; rfl)
   rotate_left
   ·exact Z42.z0
   refine one_ (i := 2) (N := some 5) (Z42.b 31 7) rfl rfl (one_of HT_.out (by kernel_rfl)) (by decide) (fun K hK => ?_)
   refine goes_ Try.func67 (by kernel_rfl) rfl #[.int .i64 a0_0] (by rfl) rfl rfl Z42.z4 ?_
   with_reducible refine (impl_ValidPrime.calls k a0_0 true _ A2.out).mono ?_
   rintro e w' ⟨rfl, ⟨nd, rfl⟩⟩
   refine ⟨_, rfl, ?_⟩
   refine hK.out _ _ Z42.z2 (fun hHeld => ?_)
   clear hK K
   refine norm_ (a' := ?_) ?_ ?_
   rotate_left
   ·show Act.put _ (some 5) _ = _
    simp only [Act.put, List.setIfInBounds_toArray, List.set_cons_zero, List.set_cons_succ, i64_w, i32_w]
    rfl
   refine pure_ (i := 3) (N := some 6) (v := ?_) (a' := ?_) (Z42.b 31 15) rfl rfl (any_of HT_.out (by kernel_rfl)) (fun _ _ _ h => h) (Or.inl ⟨(by rfl), ?_⟩) ?_ ?_
   rotate_left
   ·intro w'
    go_simp
    first | (with_reducible rfl) | (simp [Instr.field, underlying, hu41, asAgg, part, sizeOf, typeInfo]; rfl)
   rotate_left
   ·exact Z42.z0
   refine pure_ (i := 4) (N := some 7) (v := ?_) (a' := ?_) (Z42.b 31 31) rfl rfl (any_of HT_.out (by kernel_rfl)) (fun _ _ _ h => h) (Or.inl ⟨(by rfl), ?_⟩) ?_ ?_
   rotate_left
   ·intro w'
    go_simp
    first | (with_reducible rfl) | (simp [Instr.field, underlying, hu41, asAgg, part, sizeOf, typeInfo]; rfl)
   rotate_left
   ·exact Z42.z0
   refine take_ (i := 5) (N := some 8) (v := ?_) (a' := ?_) (Z42.b 31 63) rfl rfl (take_ofW HT_.out HW_.out (by kernel_rfl)) (fun _ _ _ h => h) (Or.inl ⟨(by rfl), ?_⟩) hHeld ?_ ?_
   rotate_left
   ·rintro w' ⟨s0, s1, s2⟩
    go_simp
    first | (with_reducible rfl) | (simp [Instr.field, underlying, hu41, asAgg, part, sizeOf, typeInfo]; rfl)
   rotate_left
   ·exact Z42.z0
   refine one_ (i := 6) (N := some 9) (Z42.b 31 127) rfl rfl (one_of HT_.out (by kernel_rfl)) (by decide) (fun K hK => ?_)
   refine goes_ Try.func68 (by kernel_rfl) rfl #[.int .i64 a0_1] (by rfl) rfl rfl Z42.z4 ?_
   with_reducible refine (impl_isSide.calls a0_1 true _ A4.out).mono ?_
   rintro e w' ⟨rfl, ⟨nd, rfl⟩⟩
   refine ⟨_, rfl, ?_⟩
   refine hK.out _ _ Z42.z2 (fun hHeld => ?_)
   clear hK K
   refine norm_ (a' := ?_) ?_ ?_
   rotate_left
   ·show Act.put _ (some 9) _ = _
    simp only [Act.put, List.setIfInBounds_toArray, List.set_cons_zero, List.set_cons_succ, i64_w, i32_w]
    rfl
   refine pure_ (i := 7) (N := some 10) (v := ?_) (a' := ?_) (Z42.b 31 255) rfl rfl (any_of HT_.out (by kernel_rfl)) (fun _ _ _ h => h) (Or.inl ⟨(by rfl), ?_⟩) ?_ ?_
   rotate_left
   ·intro w'
    go_simp
    first | (with_reducible rfl) | (simp [Instr.field, underlying, hu41, asAgg, part, sizeOf, typeInfo]; rfl)
   rotate_left
   ·exact Z42.z0
   refine pure_ (i := 8) (N := some 11) (v := ?_) (a' := ?_) (Z42.b 31 511) rfl rfl (any_of HT_.out (by kernel_rfl)) (fun _ _ _ h => h) (Or.inl ⟨(by rfl), ?_⟩) ?_ ?_
   rotate_left
   ·intro w'
    go_simp
    first | (with_reducible rfl) | (simp [Instr.field, underlying, hu41, asAgg, part, sizeOf, typeInfo]; rfl)
   rotate_left
   ·exact Z42.z0
   refine pure_ (i := 9) (N := some 12) (v := ?_) (a' := ?_) (Z42.b 31 1023) rfl rfl (any_of HT_.out (by kernel_rfl)) (fun _ _ _ h => h) (Or.inl ⟨(by rfl), ?_⟩) ?_ ?_
   rotate_left
   ·intro w'
    go_simp
    first | (with_reducible rfl) | (simp [Instr.field, underlying, hu41, asAgg, part, sizeOf, typeInfo]; rfl)
   rotate_left
   ·exact Z42.z0
   refine pure_ (i := 11) (N := some 14) (v := ?_) (a' := ?_) (Z42.b 31 3071) rfl rfl (any_of HT_.out (by kernel_rfl)) (fun _ _ _ h => h) (Or.inl ⟨(by rfl), ?_⟩) ?_ ?_
   rotate_left
   ·intro w'
    go_simp
    first | (with_reducible rfl) | (simp [Instr.field, underlying, hu41, asAgg, part, sizeOf, typeInfo]; rfl)
   rotate_left
   ·exact Z42.z0
   refine pure_ (i := 13) (N := some 16) (v := ?_) (a' := ?_) (Z42.b 31 11263) rfl rfl (any_of HT_.out (by kernel_rfl)) (fun _ _ _ h => h) (Or.inl ⟨(by rfl), ?_⟩) ?_ ?_
   rotate_left
   ·intro w'
    go_simp
    first | (with_reducible rfl) | (simp [Instr.field, underlying, hu41, asAgg, part, sizeOf, typeInfo]; rfl)
   rotate_left
   ·exact Z42.z0
   refine take_ (i := 10) (N := some 13) (v := ?_) (a' := ?_) (Z42.b 31 12287) rfl rfl (take_ofW HT_.out HW_.out (by kernel_rfl)) (fun _ _ _ h => h) (Or.inl ⟨(by rfl), ?_⟩) hHeld ?_ ?_
   rotate_left
   ·rintro w' ⟨s0, s1, s2⟩
    go_simp
    first | (with_reducible rfl) | (simp [Instr.field, underlying, hu41, asAgg, part, sizeOf, typeInfo]; rfl)
   rotate_left
   ·exact Z42.z0
   refine take_ (i := 12) (N := some 15) (v := ?_) (a' := ?_) (Z42.b 31 16383) rfl rfl (take_ofW HT_.out HW_.out (by kernel_rfl)) (fun _ _ _ h => h) (Or.inl ⟨(by rfl), ?_⟩) hHeld ?_ ?_
   rotate_left
   ·rintro w' ⟨s0, s1, s2⟩
    go_simp
    first | (with_reducible rfl) | (simp [Instr.field, underlying, hu41, asAgg, part, sizeOf, typeInfo]; rfl)
   rotate_left
   ·exact Z42.z0
   refine take_ (i := 14) (N := some 17) (v := ?_) (a' := ?_) (Z42.b 31 32767) rfl rfl (take_ofW HT_.out HW_.out (by kernel_rfl)) (fun _ _ _ h => h) (Or.inl ⟨(by rfl), ?_⟩) hHeld ?_ ?_
   rotate_left
   ·rintro w' ⟨s0, s1, s2⟩
    go_simp
    first | (with_reducible rfl) | (simp [Instr.field, underlying, hu41, asAgg, part, sizeOf, typeInfo]; rfl)
   rotate_left
   ·exact Z42.z0
   refine one_ (i := 15) (N := some 18) (Z42.b 31 65535) rfl rfl (one_of HT_.out (by kernel_rfl)) (by decide) (fun K hK => ?_)
   refine goes_ Try.func69 (by kernel_rfl) rfl #[.slice A0_2 l0_2.length c0_2, .int .i64 a0_1, .int .i64 a0_0] (by rfl) rfl rfl Z42.z4 ?_
   with_reducible refine (impl_areVectors.calls _ _ l0_2 a0_1 a0_0 false _ ?side1 ?side2 A6.out).mono ?_
   (case side1 => exact Z42.z7)
   (case side2 => exact HC0_2.out)
   rintro e w17 ⟨rfl, hb⟩
   refine ⟨_, rfl, ?_⟩
   have n0_ := Z42.k (Z42.bb BK101 Z42.z6 hb)
   have n1_ := Z42.k (below_step Z42.z1 hb)
   clear BK101 HB
   have BK101 := n0_
   have HB := n1_
   clear n0_ n1_
   (try clear hb)
   (try clear hb2)
   (try clear hk)
   (try clear hi)
   refine hK.out _ _ Z42.z2 (fun hHeld => ?_)
   clear hK K
   refine norm_ (a' := ?_) ?_ ?_
   rotate_left
   ·show Act.put _ (some 18) _ = _
    simp only [Act.put, List.setIfInBounds_toArray, List.set_cons_zero, List.set_cons_succ, i64_w, i32_w]
    rfl
   refine pure_ (i := 16) (N := some 19) (v := ?_) (a' := ?_) (Z42.b 31 131071) rfl rfl (any_of HT_.out (by kernel_rfl)) (fun _ _ _ h => h) (Or.inl ⟨(by rfl), ?_⟩) ?_ ?_
   rotate_left
   ·intro w'
    go_simp
    first | (with_reducible rfl) | (simp [Instr.field, underlying, hu41, asAgg, part, sizeOf, typeInfo]; rfl)
   rotate_left
   ·exact Z42.z0
   refine pure_ (i := 17) (N := some 20) (v := ?_) (a' := ?_) (Z42.b 31 262143) rfl rfl (any_of HT_.out (by kernel_rfl)) (fun _ _ _ h => h) (Or.inl ⟨(by rfl), ?_⟩) ?_ ?_
   rotate_left
   ·intro w'
    go_simp
    first | (with_reducible rfl) | (simp [Instr.field, underlying, hu41, asAgg, part, sizeOf, typeInfo]; rfl)
   rotate_left
   ·exact Z42.z0
   refine pure_ (i := 18) (N := some 21) (v := undef) (a' := ?_) (Z42.b 31 524287) rfl rfl (any_of HT_.out (by kernel_rfl)) (fun _ _ _ h => h) (Or.inr ⟨(by rfl), rfl⟩) ?_ ?_
   rotate_left
   ·exact Z42.z0
   refine pure_ (i := 19) (N := some 22) (v := undef) (a' := ?_) (Z42.b 31 1048575) rfl rfl (any_of HT_.out (by kernel_rfl)) (fun _ _ _ h => h) (Or.inr ⟨(by rfl), rfl⟩) ?_ ?_
   rotate_left
   ·exact Z42.z0
   refine pure_ (i := 20) (N := some 23) (v := undef) (a' := ?_) (Z42.b 31 2097151) rfl rfl (any_of HT_.out (by kernel_rfl)) (fun _ _ _ h => h) (Or.inr ⟨(by rfl), rfl⟩) ?_ ?_
   rotate_left
   ·exact Z42.z0
   refine pure_ (i := 21) (N := some 24) (v := undef) (a' := ?_) (Z42.b 31 4194303) rfl rfl (any_of HT_.out (by kernel_rfl)) (fun _ _ _ h => h) (Or.inr ⟨(by rfl), rfl⟩) ?_ ?_
   rotate_left
   ·exact Z42.z0
   refine pure_ (i := 22) (N := some 25) (v := undef) (a' := ?_) (Z42.b 31 8388607) rfl rfl (any_of HT_.out (by kernel_rfl)) (fun _ _ _ h => h) (Or.inr ⟨(by rfl), rfl⟩) ?_ ?_
   rotate_left
   ·exact Z42.z0
   refine pure_ (i := 23) (N := some 26) (v := undef) (a' := ?_) (Z42.b 31 16777215) rfl rfl (any_of HT_.out (by kernel_rfl)) (fun _ _ _ h => h) (Or.inr ⟨(by rfl), rfl⟩) ?_ ?_
   rotate_left
   ·exact Z42.z0
   refine pure_ (i := 24) (N := some 27) (v := undef) (a' := ?_) (Z42.b 31 33554431) rfl rfl (any_of HT_.out (by kernel_rfl)) (fun _ _ _ h => h) (Or.inr ⟨(by rfl), rfl⟩) ?_ ?_
   rotate_left
   ·exact Z42.z0
   refine pure_ (i := 25) (N := some 28) (v := undef) (a' := ?_) (Z42.b 31 67108863) rfl rfl (any_of HT_.out (by kernel_rfl)) (fun _ _ _ h => h) (Or.inr ⟨(by rfl), rfl⟩) ?_ ?_
   rotate_left
   ·exact Z42.z0
   refine pure_ (i := 26) (N := some 29) (v := undef) (a' := ?_) (Z42.b 31 134217727) rfl rfl (any_of HT_.out (by kernel_rfl)) (fun _ _ _ h => h) (Or.inr ⟨(by rfl), rfl⟩) ?_ ?_
   rotate_left
   ·exact Z42.z0
   refine pure_ (i := 27) (N := some 30) (v := undef) (a' := ?_) (Z42.b 31 268435455) rfl rfl (any_of HT_.out (by kernel_rfl)) (fun _ _ _ h => h) (Or.inr ⟨(by rfl), rfl⟩) ?_ ?_
   rotate_left
   ·exact Z42.z0
   refine pure_ (i := 28) (N := some 31) (v := undef) (a' := ?_) (Z42.b 31 536870911) rfl rfl (any_of HT_.out (by kernel_rfl)) (fun _ _ _ h => h) (Or.inr ⟨(by rfl), rfl⟩) ?_ ?_
   rotate_left
   ·exact Z42.z0
   refine pure_ (i := 29) (N := some 32) (v := ?_) (a' := ?_) (Z42.b 31 1073741823) rfl rfl (any_of HT_.out (by kernel_rfl)) (fun _ _ _ h => h) (Or.inl ⟨(by rfl), ?_⟩) ?_ ?_
   rotate_left
   ·intro w'
    go_simp
    first | (with_reducible rfl) | (simp [Instr.field, underlying, hu41, asAgg, part, sizeOf, typeInfo]; rfl)
   rotate_left
   ·exact Z42.z0
   refine pure_ (i := 30) (N := some 2) (v := ?_) (a' := ?_) (Z42.b 31 2147483647) rfl rfl (any_of HT_.out (by kernel_rfl)) (fun _ _ _ h => h) (Or.inl ⟨(by rfl), ?_⟩) ?_ ?_
   rotate_left
   ·intro w'
    go_simp
    first | (with_reducible rfl) | (simp [Instr.field, underlying, hu41, asAgg, part, sizeOf, typeInfo]; rfl)
   rotate_left
   ·exact Z42.z0
   refine done_ (done_of HT_.out (by kernel_rfl)) ?_
   try go_wp2
   go_ret
   exact ⟨Z42.z5, Z42.z1⟩
  replace c5 := Bool.eq_false_iff.mpr c5
  subst c5
  have H1 : (some false) = some r := by rw [if_neg (show ¬ (false = true) by decide)] at H; exact H
  clear H
  have H := H1
  clear H1
  obtain rfl := Option.some.inj H
  go_enter Try.func42, Try.ntmps42
  try go_wp2_with (first | ((with_reducible refine gate_dst (N := 1) rfl ?_); refine box_event ?hg (N := 1) ?hd (cs := #[.int .i64 a0_0, .int .i64 a0_1, .slice A0_2 l0_2.length c0_2]) (t := 41) ?hr ?_; (case hd => rfl); (case hg => rfl); (case hr => first | (go_simp; done) | (go_simp; rfl)); intro gb101 hg w18 hbox hb; have n0_ := Z42.k (below_step Z42.z3 hb); have n1_ := Z42.k (hbox); have n2_ := Z42.k (show w.heap.size ≤ gb101 from Z42.z9); have n3_ := Z42.k (show w.heap.size ≤ gb101 from Z42.z9); clear HB; have HB := n0_; have BK101 := n1_; have GW101 := n2_; have GE101 := n3_; clear n0_ n1_ n2_ n3_; clear hb hbox hg))
  have n0_ := Z42.k (blk_drew BK101.out)
  have n1_ := Z42.k (below_drew1 HB.out)
  clear BK101 HB
  have BK101 := n0_
  have HB := n1_
  clear n0_ n1_
  refine start_ (n := 31) (S := fun w' => w'.cell? ⟨gb101, 0, none⟩ = some (.int .i64 a0_0) ∧ w'.cell? ⟨gb101, 1, none⟩ = some (.int .i64 a0_1) ∧ w'.cell? ⟨gb101, 2, none⟩ = some (.slice A0_2 l0_2.length c0_2)) (ds := []) #[false, false, false, false, false, false, false, false, false, false, false, false, false, false, false, false, false, false, false, false, false, false, false, false, false, false, false, false, false, false, false] (by kernel_rfl) rfl rfl Z42.z2 (fun hHeld => ?_); refine with_tabW impl_ValidSpace.tab1 impl_ValidSpace.bits1 (fun HT_ HW_ => ?_)
  generalize w18.drew = w19 at BK101 HB hHeld ⊢
  refine pure_ (i := 0) (N := some 3) (v := ?_) (a' := ?_) (Z42.b 31 1) rfl rfl (any_of HT_.out (by kernel_rfl)) (fun _ _ _ h => h) (Or.inl ⟨(by rfl), ?_⟩) ?_ ?_
  rotate_left
  ·intro w'
   go_simp
   first | (with_reducible rfl) | (simp [Instr.field, underlying, hu41, asAgg, part, sizeOf, typeInfo]; rfl)
  rotate_left
  ·exact Z42.z0
  refine take_ (i := 1) (N := some 4) (v := ?_) (a' := ?_) (Z42.b 31 3) rfl rfl (take_ofW HT_.out HW_.out (by kernel_rfl)) (fun _ _ _ h => h) (Or.inl ⟨(by rfl), ?_⟩) hHeld ?_ ?_
  rotate_left
  ·rintro w' ⟨s0, s1, s2⟩
   go_simp
   first | (with_reducible rfl) | (simp [Instr.field, underlying, hu41, asAgg, part, sizeOf, typeInfo]; rfl)
  rotate_left
  ·exact Z42.z0
  refine one_ (i := 2) (N := some 5) (Z42.b 31 7) rfl rfl (one_of HT_.out (by kernel_rfl)) (by decide) (fun K hK => ?_)
  refine goes_ Try.func67 (by kernel_rfl) rfl #[.int .i64 a0_0] (by rfl) rfl rfl Z42.z4 ?_
  with_reducible refine (impl_ValidPrime.calls k a0_0 true _ A2.out).mono ?_
  rintro e w' ⟨rfl, ⟨nd, rfl⟩⟩
  refine ⟨_, rfl, ?_⟩
  refine hK.out _ _ Z42.z2 (fun hHeld => ?_)
  clear hK K
  refine norm_ (a' := ?_) ?_ ?_
  rotate_left
  ·show Act.put _ (some 5) _ = _
   simp only [Act.put, List.setIfInBounds_toArray, List.set_cons_zero, List.set_cons_succ, i64_w, i32_w]
   rfl
  refine pure_ (i := 3) (N := some 6) (v := ?_) (a' := ?_) (Z42.b 31 15) rfl rfl (any_of HT_.out (by kernel_rfl)) (fun _ _ _ h => h) (Or.inl ⟨(by rfl), ?_⟩) ?_ ?_
  rotate_left
  ·intro w'
   go_simp
   first | (with_reducible rfl) | (simp [Instr.field, underlying, hu41, asAgg, part, sizeOf, typeInfo]; rfl)
  rotate_left
  ·exact Z42.z0
  refine pure_ (i := 4) (N := some 7) (v := ?_) (a' := ?_) (Z42.b 31 31) rfl rfl (any_of HT_.out (by kernel_rfl)) (fun _ _ _ h => h) (Or.inl ⟨(by rfl), ?_⟩) ?_ ?_
  rotate_left
  ·intro w'
   go_simp
   first | (with_reducible rfl) | (simp [Instr.field, underlying, hu41, asAgg, part, sizeOf, typeInfo]; rfl)
  rotate_left
  ·exact Z42.z0
  refine take_ (i := 5) (N := some 8) (v := ?_) (a' := ?_) (Z42.b 31 63) rfl rfl (take_ofW HT_.out HW_.out (by kernel_rfl)) (fun _ _ _ h => h) (Or.inl ⟨(by rfl), ?_⟩) hHeld ?_ ?_
  rotate_left
  ·rintro w' ⟨s0, s1, s2⟩
   go_simp
   first | (with_reducible rfl) | (simp [Instr.field, underlying, hu41, asAgg, part, sizeOf, typeInfo]; rfl)
  rotate_left
  ·exact Z42.z0
  refine one_ (i := 6) (N := some 9) (Z42.b 31 127) rfl rfl (one_of HT_.out (by kernel_rfl)) (by decide) (fun K hK => ?_)
  refine goes_ Try.func68 (by kernel_rfl) rfl #[.int .i64 a0_1] (by rfl) rfl rfl Z42.z4 ?_
  with_reducible refine (impl_isSide.calls a0_1 false _ A4.out).mono ?_
  rintro e w' ⟨rfl, ⟨nd, rfl⟩⟩
  refine ⟨_, rfl, ?_⟩
  refine hK.out _ _ Z42.z2 (fun hHeld => ?_)
  clear hK K
  refine norm_ (a' := ?_) ?_ ?_
  rotate_left
  ·show Act.put _ (some 9) _ = _
   simp only [Act.put, List.setIfInBounds_toArray, List.set_cons_zero, List.set_cons_succ, i64_w, i32_w]
   rfl
  refine pure_ (i := 7) (N := some 10) (v := ?_) (a' := ?_) (Z42.b 31 255) rfl rfl (any_of HT_.out (by kernel_rfl)) (fun _ _ _ h => h) (Or.inl ⟨(by rfl), ?_⟩) ?_ ?_
  rotate_left
  ·intro w'
   go_simp
   first | (with_reducible rfl) | (simp [Instr.field, underlying, hu41, asAgg, part, sizeOf, typeInfo]; rfl)
  rotate_left
  ·exact Z42.z0
  refine pure_ (i := 8) (N := some 11) (v := ?_) (a' := ?_) (Z42.b 31 511) rfl rfl (any_of HT_.out (by kernel_rfl)) (fun _ _ _ h => h) (Or.inl ⟨(by rfl), ?_⟩) ?_ ?_
  rotate_left
  ·intro w'
   go_simp
   first | (with_reducible rfl) | (simp [Instr.field, underlying, hu41, asAgg, part, sizeOf, typeInfo]; rfl)
  rotate_left
  ·exact Z42.z0
  refine pure_ (i := 9) (N := some 12) (v := undef) (a' := ?_) (Z42.b 31 1023) rfl rfl (any_of HT_.out (by kernel_rfl)) (fun _ _ _ h => h) (Or.inr ⟨(by rfl), rfl⟩) ?_ ?_
  rotate_left
  ·exact Z42.z0
  refine pure_ (i := 10) (N := some 13) (v := undef) (a' := ?_) (Z42.b 31 2047) rfl rfl (any_of HT_.out (by kernel_rfl)) (fun _ _ _ h => h) (Or.inr ⟨(by rfl), rfl⟩) ?_ ?_
  rotate_left
  ·exact Z42.z0
  refine pure_ (i := 11) (N := some 14) (v := undef) (a' := ?_) (Z42.b 31 4095) rfl rfl (any_of HT_.out (by kernel_rfl)) (fun _ _ _ h => h) (Or.inr ⟨(by rfl), rfl⟩) ?_ ?_
  rotate_left
  ·exact Z42.z0
  refine pure_ (i := 12) (N := some 15) (v := undef) (a' := ?_) (Z42.b 31 8191) rfl rfl (any_of HT_.out (by kernel_rfl)) (fun _ _ _ h => h) (Or.inr ⟨(by rfl), rfl⟩) ?_ ?_
  rotate_left
  ·exact Z42.z0
  refine pure_ (i := 13) (N := some 16) (v := undef) (a' := ?_) (Z42.b 31 16383) rfl rfl (any_of HT_.out (by kernel_rfl)) (fun _ _ _ h => h) (Or.inr ⟨(by rfl), rfl⟩) ?_ ?_
  rotate_left
  ·exact Z42.z0
  refine pure_ (i := 14) (N := some 17) (v := undef) (a' := ?_) (Z42.b 31 32767) rfl rfl (any_of HT_.out (by kernel_rfl)) (fun _ _ _ h => h) (Or.inr ⟨(by rfl), rfl⟩) ?_ ?_
  rotate_left
  ·exact Z42.z0
  refine pure_ (i := 15) (N := some 18) (v := undef) (a' := ?_) (Z42.b 31 65535) rfl rfl (any_of HT_.out (by kernel_rfl)) (fun _ _ _ h => h) (Or.inr ⟨(by rfl), rfl⟩) ?_ ?_
  rotate_left
  ·exact Z42.z0
  refine pure_ (i := 16) (N := some 19) (v := ?_) (a' := ?_) (Z42.b 31 131071) rfl rfl (any_of HT_.out (by kernel_rfl)) (fun _ _ _ h => h) (Or.inl ⟨(by rfl), ?_⟩) ?_ ?_
  rotate_left
  ·intro w'
   go_simp
   first | (with_reducible rfl) | (simp [Instr.field, underlying, hu41, asAgg, part, sizeOf, typeInfo]; rfl)
  rotate_left
  ·exact Z42.z0
  refine pure_ (i := 17) (N := some 20) (v := ?_) (a' := ?_) (Z42.b 31 262143) rfl rfl (any_of HT_.out (by kernel_rfl)) (fun _ _ _ h => h) (Or.inl ⟨(by rfl), ?_⟩) ?_ ?_
  rotate_left
  ·intro w'
   go_simp
   first | (with_reducible rfl) | (simp [Instr.field, underlying, hu41, asAgg, part, sizeOf, typeInfo]; rfl)
  rotate_left
  ·exact Z42.z0
  refine pure_ (i := 18) (N := some 21) (v := undef) (a' := ?_) (Z42.b 31 524287) rfl rfl (any_of HT_.out (by kernel_rfl)) (fun _ _ _ h => h) (Or.inr ⟨(by rfl), rfl⟩) ?_ ?_
  rotate_left
  ·exact Z42.z0
  refine pure_ (i := 19) (N := some 22) (v := undef) (a' := ?_) (Z42.b 31 1048575) rfl rfl (any_of HT_.out (by kernel_rfl)) (fun _ _ _ h => h) (Or.inr ⟨(by rfl), rfl⟩) ?_ ?_
  rotate_left
  ·exact Z42.z0
  refine pure_ (i := 20) (N := some 23) (v := undef) (a' := ?_) (Z42.b 31 2097151) rfl rfl (any_of HT_.out (by kernel_rfl)) (fun _ _ _ h => h) (Or.inr ⟨(by rfl), rfl⟩) ?_ ?_
  rotate_left
  ·exact Z42.z0
  refine pure_ (i := 21) (N := some 24) (v := undef) (a' := ?_) (Z42.b 31 4194303) rfl rfl (any_of HT_.out (by kernel_rfl)) (fun _ _ _ h => h) (Or.inr ⟨(by rfl), rfl⟩) ?_ ?_
  rotate_left
  ·exact Z42.z0
  refine pure_ (i := 22) (N := some 25) (v := undef) (a' := ?_) (Z42.b 31 8388607) rfl rfl (any_of HT_.out (by kernel_rfl)) (fun _ _ _ h => h) (Or.inr ⟨(by rfl), rfl⟩) ?_ ?_
  rotate_left
  ·exact Z42.z0
  refine pure_ (i := 23) (N := some 26) (v := undef) (a' := ?_) (Z42.b 31 16777215) rfl rfl (any_of HT_.out (by kernel_rfl)) (fun _ _ _ h => h) (Or.inr ⟨(by rfl), rfl⟩) ?_ ?_
  rotate_left
  ·exact Z42.z0
  refine pure_ (i := 24) (N := some 27) (v := undef) (a' := ?_) (Z42.b 31 33554431) rfl rfl (any_of HT_.out (by kernel_rfl)) (fun _ _ _ h => h) (Or.inr ⟨(by rfl), rfl⟩) ?_ ?_
  rotate_left
  ·exact Z42.z0
  refine pure_ (i := 25) (N := some 28) (v := undef) (a' := ?_) (Z42.b 31 67108863) rfl rfl (any_of HT_.out (by kernel_rfl)) (fun _ _ _ h => h) (Or.inr ⟨(by rfl), rfl⟩) ?_ ?_
  rotate_left
  ·exact Z42.z0
  refine pure_ (i := 26) (N := some 29) (v := undef) (a' := ?_) (Z42.b 31 134217727) rfl rfl (any_of HT_.out (by kernel_rfl)) (fun _ _ _ h => h) (Or.inr ⟨(by rfl), rfl⟩) ?_ ?_
  rotate_left
  ·exact Z42.z0
  refine pure_ (i := 27) (N := some 30) (v := undef) (a' := ?_) (Z42.b 31 268435455) rfl rfl (any_of HT_.out (by kernel_rfl)) (fun _ _ _ h => h) (Or.inr ⟨(by rfl), rfl⟩) ?_ ?_
  rotate_left
  ·exact Z42.z0
  refine pure_ (i := 28) (N := some 31) (v := undef) (a' := ?_) (Z42.b 31 536870911) rfl rfl (any_of HT_.out (by kernel_rfl)) (fun _ _ _ h => h) (Or.inr ⟨(by rfl), rfl⟩) ?_ ?_
  rotate_left
  ·exact Z42.z0
  refine pure_ (i := 29) (N := some 32) (v := ?_) (a' := ?_) (Z42.b 31 1073741823) rfl rfl (any_of HT_.out (by kernel_rfl)) (fun _ _ _ h => h) (Or.inl ⟨(by rfl), ?_⟩) ?_ ?_
  rotate_left
  ·intro w'
   go_simp
   first | (with_reducible rfl) | (simp [Instr.field, underlying, hu41, asAgg, part, sizeOf, typeInfo]; rfl)
  rotate_left
  ·exact Z42.z0
  refine pure_ (i := 30) (N := some 2) (v := ?_) (a' := ?_) (Z42.b 31 2147483647) rfl rfl (any_of HT_.out (by kernel_rfl)) (fun _ _ _ h => h) (Or.inl ⟨(by rfl), ?_⟩) ?_ ?_
  rotate_left
  ·intro w'
   go_simp
   first | (with_reducible rfl) | (simp [Instr.field, underlying, hu41, asAgg, part, sizeOf, typeInfo]; rfl)
  rotate_left
  ·exact Z42.z0
  refine done_ (done_of HT_.out (by kernel_rfl)) ?_
  try go_wp2
  go_ret
  exact ⟨Z42.z5, Z42.z1⟩
 replace c3 := Bool.eq_false_iff.mpr c3
 subst c3
 have H1 : (some false) = some r := by rw [if_neg (show ¬ (false = true) by decide)] at H; exact H
 clear H
 have H := H1
 clear H1
 obtain rfl := Option.some.inj H
 go_enter Try.func42, Try.ntmps42
 try go_wp2_with (first | ((with_reducible refine gate_dst (N := 1) rfl ?_); refine box_event ?hg (N := 1) ?hd (cs := #[.int .i64 a0_0, .int .i64 a0_1, .slice A0_2 l0_2.length c0_2]) (t := 41) ?hr ?_; (case hd => rfl); (case hg => rfl); (case hr => first | (go_simp; done) | (go_simp; rfl)); intro gb101 hg w20 hbox hb; have n0_ := Z42.k (below_step Z42.z3 hb); have n1_ := Z42.k (hbox); have n2_ := Z42.k (show w.heap.size ≤ gb101 from Z42.z9); have n3_ := Z42.k (show w.heap.size ≤ gb101 from Z42.z9); clear HB; have HB := n0_; have BK101 := n1_; have GW101 := n2_; have GE101 := n3_; clear n0_ n1_ n2_ n3_; clear hb hbox hg))
 have n0_ := Z42.k (blk_drew BK101.out)
 have n1_ := Z42.k (below_drew1 HB.out)
 clear BK101 HB
 have BK101 := n0_
 have HB := n1_
 clear n0_ n1_
 refine start_ (n := 31) (S := fun w' => w'.cell? ⟨gb101, 0, none⟩ = some (.int .i64 a0_0) ∧ w'.cell? ⟨gb101, 1, none⟩ = some (.int .i64 a0_1) ∧ w'.cell? ⟨gb101, 2, none⟩ = some (.slice A0_2 l0_2.length c0_2)) (ds := []) #[false, false, false, false, false, false, false, false, false, false, false, false, false, false, false, false, false, false, false, false, false, false, false, false, false, false, false, false, false, false, false] (by kernel_rfl) rfl rfl Z42.z2 (fun hHeld => ?_); refine with_tabW impl_ValidSpace.tab1 impl_ValidSpace.bits1 (fun HT_ HW_ => ?_)
 generalize w20.drew = w21 at BK101 HB hHeld ⊢
 refine pure_ (i := 0) (N := some 3) (v := ?_) (a' := ?_) (Z42.b 31 1) rfl rfl (any_of HT_.out (by kernel_rfl)) (fun _ _ _ h => h) (Or.inl ⟨(by rfl), ?_⟩) ?_ ?_
 rotate_left
 ·intro w'
  go_simp
  first | (with_reducible rfl) | (simp [Instr.field, underlying, hu41, asAgg, part, sizeOf, typeInfo]; rfl)
 rotate_left
 ·exact Z42.z0
 refine take_ (i := 1) (N := some 4) (v := ?_) (a' := ?_) (Z42.b 31 3) rfl rfl (take_ofW HT_.out HW_.out (by kernel_rfl)) (fun _ _ _ h => h) (Or.inl ⟨(by rfl), ?_⟩) hHeld ?_ ?_
 rotate_left
 ·rintro w' ⟨s0, s1, s2⟩
  go_simp
  first | (with_reducible rfl) | (simp [Instr.field, underlying, hu41, asAgg, part, sizeOf, typeInfo]; rfl)
 rotate_left
 ·exact Z42.z0
 refine one_ (i := 2) (N := some 5) (Z42.b 31 7) rfl rfl (one_of HT_.out (by kernel_rfl)) (by decide) (fun K hK => ?_)
 refine goes_ Try.func67 (by kernel_rfl) rfl #[.int .i64 a0_0] (by rfl) rfl rfl Z42.z4 ?_
 with_reducible refine (impl_ValidPrime.calls k a0_0 false _ A2.out).mono ?_
 rintro e w' ⟨rfl, ⟨nd, rfl⟩⟩
 refine ⟨_, rfl, ?_⟩
 refine hK.out _ _ Z42.z2 (fun hHeld => ?_)
 clear hK K
 refine norm_ (a' := ?_) ?_ ?_
 rotate_left
 ·show Act.put _ (some 5) _ = _
  simp only [Act.put, List.setIfInBounds_toArray, List.set_cons_zero, List.set_cons_succ, i64_w, i32_w]
  rfl
 refine pure_ (i := 3) (N := some 6) (v := ?_) (a' := ?_) (Z42.b 31 15) rfl rfl (any_of HT_.out (by kernel_rfl)) (fun _ _ _ h => h) (Or.inl ⟨(by rfl), ?_⟩) ?_ ?_
 rotate_left
 ·intro w'
  go_simp
  first | (with_reducible rfl) | (simp [Instr.field, underlying, hu41, asAgg, part, sizeOf, typeInfo]; rfl)
 rotate_left
 ·exact Z42.z0
 refine pure_ (i := 4) (N := some 7) (v := undef) (a' := ?_) (Z42.b 31 31) rfl rfl (any_of HT_.out (by kernel_rfl)) (fun _ _ _ h => h) (Or.inr ⟨(by rfl), rfl⟩) ?_ ?_
 rotate_left
 ·exact Z42.z0
 refine pure_ (i := 5) (N := some 8) (v := undef) (a' := ?_) (Z42.b 31 63) rfl rfl (any_of HT_.out (by kernel_rfl)) (fun _ _ _ h => h) (Or.inr ⟨(by rfl), rfl⟩) ?_ ?_
 rotate_left
 ·exact Z42.z0
 refine pure_ (i := 6) (N := some 9) (v := undef) (a' := ?_) (Z42.b 31 127) rfl rfl (any_of HT_.out (by kernel_rfl)) (fun _ _ _ h => h) (Or.inr ⟨(by rfl), rfl⟩) ?_ ?_
 rotate_left
 ·exact Z42.z0
 refine pure_ (i := 7) (N := some 10) (v := ?_) (a' := ?_) (Z42.b 31 255) rfl rfl (any_of HT_.out (by kernel_rfl)) (fun _ _ _ h => h) (Or.inl ⟨(by rfl), ?_⟩) ?_ ?_
 rotate_left
 ·intro w'
  go_simp
  first | (with_reducible rfl) | (simp [Instr.field, underlying, hu41, asAgg, part, sizeOf, typeInfo]; rfl)
 rotate_left
 ·exact Z42.z0
 refine pure_ (i := 8) (N := some 11) (v := ?_) (a' := ?_) (Z42.b 31 511) rfl rfl (any_of HT_.out (by kernel_rfl)) (fun _ _ _ h => h) (Or.inl ⟨(by rfl), ?_⟩) ?_ ?_
 rotate_left
 ·intro w'
  go_simp
  first | (with_reducible rfl) | (simp [Instr.field, underlying, hu41, asAgg, part, sizeOf, typeInfo]; rfl)
 rotate_left
 ·exact Z42.z0
 refine pure_ (i := 9) (N := some 12) (v := undef) (a' := ?_) (Z42.b 31 1023) rfl rfl (any_of HT_.out (by kernel_rfl)) (fun _ _ _ h => h) (Or.inr ⟨(by rfl), rfl⟩) ?_ ?_
 rotate_left
 ·exact Z42.z0
 refine pure_ (i := 10) (N := some 13) (v := undef) (a' := ?_) (Z42.b 31 2047) rfl rfl (any_of HT_.out (by kernel_rfl)) (fun _ _ _ h => h) (Or.inr ⟨(by rfl), rfl⟩) ?_ ?_
 rotate_left
 ·exact Z42.z0
 refine pure_ (i := 11) (N := some 14) (v := undef) (a' := ?_) (Z42.b 31 4095) rfl rfl (any_of HT_.out (by kernel_rfl)) (fun _ _ _ h => h) (Or.inr ⟨(by rfl), rfl⟩) ?_ ?_
 rotate_left
 ·exact Z42.z0
 refine pure_ (i := 12) (N := some 15) (v := undef) (a' := ?_) (Z42.b 31 8191) rfl rfl (any_of HT_.out (by kernel_rfl)) (fun _ _ _ h => h) (Or.inr ⟨(by rfl), rfl⟩) ?_ ?_
 rotate_left
 ·exact Z42.z0
 refine pure_ (i := 13) (N := some 16) (v := undef) (a' := ?_) (Z42.b 31 16383) rfl rfl (any_of HT_.out (by kernel_rfl)) (fun _ _ _ h => h) (Or.inr ⟨(by rfl), rfl⟩) ?_ ?_
 rotate_left
 ·exact Z42.z0
 refine pure_ (i := 14) (N := some 17) (v := undef) (a' := ?_) (Z42.b 31 32767) rfl rfl (any_of HT_.out (by kernel_rfl)) (fun _ _ _ h => h) (Or.inr ⟨(by rfl), rfl⟩) ?_ ?_
 rotate_left
 ·exact Z42.z0
 refine pure_ (i := 15) (N := some 18) (v := undef) (a' := ?_) (Z42.b 31 65535) rfl rfl (any_of HT_.out (by kernel_rfl)) (fun _ _ _ h => h) (Or.inr ⟨(by rfl), rfl⟩) ?_ ?_
 rotate_left
 ·exact Z42.z0
 refine pure_ (i := 16) (N := some 19) (v := ?_) (a' := ?_) (Z42.b 31 131071) rfl rfl (any_of HT_.out (by kernel_rfl)) (fun _ _ _ h => h) (Or.inl ⟨(by rfl), ?_⟩) ?_ ?_
 rotate_left
 ·intro w'
  go_simp
  first | (with_reducible rfl) | (simp [Instr.field, underlying, hu41, asAgg, part, sizeOf, typeInfo]; rfl)
 rotate_left
 ·exact Z42.z0
 refine pure_ (i := 17) (N := some 20) (v := ?_) (a' := ?_) (Z42.b 31 262143) rfl rfl (any_of HT_.out (by kernel_rfl)) (fun _ _ _ h => h) (Or.inl ⟨(by rfl), ?_⟩) ?_ ?_
 rotate_left
 ·intro w'
  go_simp
  first | (with_reducible rfl) | (simp [Instr.field, underlying, hu41, asAgg, part, sizeOf, typeInfo]; rfl)
 rotate_left
 ·exact Z42.z0
 refine pure_ (i := 18) (N := some 21) (v := undef) (a' := ?_) (Z42.b 31 524287) rfl rfl (any_of HT_.out (by kernel_rfl)) (fun _ _ _ h => h) (Or.inr ⟨(by rfl), rfl⟩) ?_ ?_
 rotate_left
 ·exact Z42.z0
 refine pure_ (i := 19) (N := some 22) (v := undef) (a' := ?_) (Z42.b 31 1048575) rfl rfl (any_of HT_.out (by kernel_rfl)) (fun _ _ _ h => h) (Or.inr ⟨(by rfl), rfl⟩) ?_ ?_
 rotate_left
 ·exact Z42.z0
 refine pure_ (i := 20) (N := some 23) (v := undef) (a' := ?_) (Z42.b 31 2097151) rfl rfl (any_of HT_.out (by kernel_rfl)) (fun _ _ _ h => h) (Or.inr ⟨(by rfl), rfl⟩) ?_ ?_
 rotate_left
 ·exact Z42.z0
 refine pure_ (i := 21) (N := some 24) (v := undef) (a' := ?_) (Z42.b 31 4194303) rfl rfl (any_of HT_.out (by kernel_rfl)) (fun _ _ _ h => h) (Or.inr ⟨(by rfl), rfl⟩) ?_ ?_
 rotate_left
 ·exact Z42.z0
 refine pure_ (i := 22) (N := some 25) (v := undef) (a' := ?_) (Z42.b 31 8388607) rfl rfl (any_of HT_.out (by kernel_rfl)) (fun _ _ _ h => h) (Or.inr ⟨(by rfl), rfl⟩) ?_ ?_
 rotate_left
 ·exact Z42.z0
 refine pure_ (i := 23) (N := some 26) (v := undef) (a' := ?_) (Z42.b 31 16777215) rfl rfl (any_of HT_.out (by kernel_rfl)) (fun _ _ _ h => h) (Or.inr ⟨(by rfl), rfl⟩) ?_ ?_
 rotate_left
 ·exact Z42.z0
 refine pure_ (i := 24) (N := some 27) (v := undef) (a' := ?_) (Z42.b 31 33554431) rfl rfl (any_of HT_.out (by kernel_rfl)) (fun _ _ _ h => h) (Or.inr ⟨(by rfl), rfl⟩) ?_ ?_
 rotate_left
 ·exact Z42.z0
 refine pure_ (i := 25) (N := some 28) (v := undef) (a' := ?_) (Z42.b 31 67108863) rfl rfl (any_of HT_.out (by kernel_rfl)) (fun _ _ _ h => h) (Or.inr ⟨(by rfl), rfl⟩) ?_ ?_
 rotate_left
 ·exact Z42.z0
 refine pure_ (i := 26) (N := some 29) (v := undef) (a' := ?_) (Z42.b 31 134217727) rfl rfl (any_of HT_.out (by kernel_rfl)) (fun _ _ _ h => h) (Or.inr ⟨(by rfl), rfl⟩) ?_ ?_
 rotate_left
 ·exact Z42.z0
 refine pure_ (i := 27) (N := some 30) (v := undef) (a' := ?_) (Z42.b 31 268435455) rfl rfl (any_of HT_.out (by kernel_rfl)) (fun _ _ _ h => h) (Or.inr ⟨(by rfl), rfl⟩) ?_ ?_
 rotate_left
 ·exact Z42.z0
 refine pure_ (i := 28) (N := some 31) (v := undef) (a' := ?_) (Z42.b 31 536870911) rfl rfl (any_of HT_.out (by kernel_rfl)) (fun _ _ _ h => h) (Or.inr ⟨(by rfl), rfl⟩) ?_ ?_
 rotate_left
 ·exact Z42.z0
 refine pure_ (i := 29) (N := some 32) (v := ?_) (a' := ?_) (Z42.b 31 1073741823) rfl rfl (any_of HT_.out (by kernel_rfl)) (fun _ _ _ h => h) (Or.inl ⟨(by rfl), ?_⟩) ?_ ?_
 rotate_left
 ·intro w'
  go_simp
  first | (with_reducible rfl) | (simp [Instr.field, underlying, hu41, asAgg, part, sizeOf, typeInfo]; rfl)
 rotate_left
 ·exact Z42.z0
 refine pure_ (i := 30) (N := some 2) (v := ?_) (a' := ?_) (Z42.b 31 2147483647) rfl rfl (any_of HT_.out (by kernel_rfl)) (fun _ _ _ h => h) (Or.inl ⟨(by rfl), ?_⟩) ?_ ?_
 rotate_left
 ·intro w'
  go_simp
  first | (with_reducible rfl) | (simp [Instr.field, underlying, hu41, asAgg, part, sizeOf, typeInfo]; rfl)
 rotate_left
 ·exact Z42.z0
 refine done_ (done_of HT_.out (by kernel_rfl)) ?_
 try go_wp2
 go_ret
 exact ⟨Z42.z5, Z42.z1⟩
end Go.Proofs.Ytmbbjmkcbpefhaa.F
end
