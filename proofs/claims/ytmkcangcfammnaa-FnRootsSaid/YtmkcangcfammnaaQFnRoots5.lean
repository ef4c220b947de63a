-- Texts of this claim, merged by pack.py (a program of this session's).
import Derived.Test.YtmkcangcfammnaaQFnRoots0
import Derived.Test.YtmkcangcfammnaaQFnRoots1
import Derived.Test.YtmkcangcfammnaaQFnRoots4
import Derived.Test.YtmkcangcfammnaaQFnRoots3

section
namespace Go.Proofs.Ytmkcangcfammnaa.F
open Go.RowKit Go.Proofs.YtmkcangcfammnaaW.PrintWords Go.Proofs.YtmkcangcfammnaaW.PrintLast Go.Proofs.YtmkcangcfammnaaW.PrintMore
attribute [local go_sem] max2_int min2_int max_two min_two max_three min_three max_four min_four   -- for this text's walks alone
set_option linter.unusedVariables false
set_option linter.unusedSimpArgs false

/-! ### spec_DrawDotOf: function 21 -/
def spec_DrawDotOf.f (k : Nat) (l0 : List Int) : Option (List Int × List Int × Int) := (spec_l00From.f l0).bind fun bt101 => ((spec_l02BentPrime.f bt101.1 bt101.2.1 bt101.2.2).bind fun bt105 => ((spec_l00Src_pick.f bt101.1 bt105.2.1 bt105.2.2 6).bind fun bt108 => ((spec_l02DrawVector.f k bt101.1 bt108.2.1 bt108.2.2 bt108.1 bt105.1).bind fun bt111 => ((spec_l02DrawVector.f k bt101.1 bt111.2.1 bt111.2.2 bt108.1 bt105.1).bind fun bt116 => ((spec_l02Bend.f bt101.1 bt116.2.1 bt116.2.2 bt111.1 bt105.1).bind fun bt121 => (some (bt121.1, bt116.1, bt105.1)))))))
theorem spec_DrawDotOf.mono : ∀ a0 k, LeO (spec_DrawDotOf.f k a0) (spec_DrawDotOf.f (k + 1) a0) := by
  intro a0 k
  unfold spec_DrawDotOf.f
  repeat' first
      | (with_reducible exact spec_l02DrawVector.mono _ _ _ _ _ _)
      | (with_reducible exact LeO.refl _)
      | (with_reducible exact LeO.none _)
      | (with_reducible refine LeO.ite ?_ ?_)
      | (with_reducible refine LeO.bind ?_ (fun _ => ?_))
      | exact spec_l02DrawVector.mono _ _ _ _ _ _
      | exact LeO.none _
      | refine LeO.ite ?_ ?_
      | refine LeO.bind ?_ (fun _ => ?_)
theorem Z21.z2 {P : Prop} (h : P := by (try simp only [List.map_toArray, List.map_cons, List.map_nil]); first | done | rfl | (simp only [List.length_drop, List.length_take]; rfl)) : P := h
theorem Z21.z1 {P : Prop} (h : P := by repeat (first | (with_reducible first | exact HI104.out | apply IsS69.alloc | apply IsS69.drewN | apply IsS69.drew | apply IsS69.set_1 | apply IsS69.set_2) | exact HI104.out)) : P := h
theorem Z21.z0 {P : Prop} (h : P := by repeat (first | (with_reducible first | exact HB.out | apply below_alloc | apply pw_below_drewN | apply below_drew1 | refine below_set ?_ (IsS69.ge HI104.out)) | exact HB.out)) : P := h
set_option maxHeartbeats 8000000 in
set_option maxRecDepth 100000 in
theorem spec_DrawDotOf.calls (k : Nat) (A0 : Option Addr) (c0 : Nat) (l0 : List Int) (r1 : List Int) (r2 : List Int) (r3 : Int) (w : World) (hr0 : Kd.C (Kd.int .u8) w A0 l0.length l0) (hc0 : l0.length ≤ c0) (h : spec_DrawDotOf.f k l0 = some (r1, r2, r3)) :
  Calls Try.prog 21 #[.slice A0 l0.length c0] w fun e w' => ∃ v0_ v1_ : Value, e = .returned (.tuple #[v0_, v1_, .int .i64 r3]) ∧ Kd.R (Kd.int .i64) 2 w' w.heap.size (fun k_ => some k_ ≠ (v1_ : Value).ownBlock) v0_ r1 ∧ Kd.R (Kd.int .i64) 2 w' w.heap.size (fun k_ => some k_ ≠ (v0_ : Value).ownBlock) v1_ r2 ∧ Below w.heap.size w w' := by
 have HR0 := Aside0.mk hr0
 have HC0 := Aside0.mk hc0
 clear hr0 hc0
 have HB := Aside0.mk (Below.refl w.heap.size w)
 have H : ((spec_l00From.f l0).bind fun bt101 => ((spec_l02BentPrime.f bt101.1 bt101.2.1 bt101.2.2).bind fun bt105 => ((spec_l00Src_pick.f bt101.1 bt105.2.1 bt105.2.2 6).bind fun bt108 => ((spec_l02DrawVector.f k bt101.1 bt108.2.1 bt108.2.2 bt108.1 bt105.1).bind fun bt111 => ((spec_l02DrawVector.f k bt101.1 bt111.2.1 bt111.2.2 bt108.1 bt105.1).bind fun bt116 => ((spec_l02Bend.f bt101.1 bt116.2.1 bt116.2.2 bt111.1 bt105.1).bind fun bt121 => (some (bt121.1, bt116.1, bt105.1)))))))) = some (r1, r2, r3) := h
 clear h
 replace H := Option.bind_eq_some_iff.mp H
 obtain ⟨⟨t101, t102, t103⟩, A20, H⟩ := H
 replace H : ((spec_l02BentPrime.f t101 t102 t103).bind fun bt105 => ((spec_l00Src_pick.f t101 bt105.2.1 bt105.2.2 6).bind fun bt108 => ((spec_l02DrawVector.f k t101 bt108.2.1 bt108.2.2 bt108.1 bt105.1).bind fun bt111 => ((spec_l02DrawVector.f k t101 bt111.2.1 bt111.2.2 bt108.1 bt105.1).bind fun bt116 => ((spec_l02Bend.f t101 bt116.2.1 bt116.2.2 bt111.1 bt105.1).bind fun bt121 => (some (bt121.1, bt116.1, bt105.1))))))) = some (r1, r2, r3) := H
 have A2 := Aside0.mk A20
 clear A20
 replace H := Option.bind_eq_some_iff.mp H
 obtain ⟨⟨t105, t106, t107⟩, A30, H⟩ := H
 replace H : ((spec_l00Src_pick.f t101 t106 t107 6).bind fun bt108 => ((spec_l02DrawVector.f k t101 bt108.2.1 bt108.2.2 bt108.1 t105).bind fun bt111 => ((spec_l02DrawVector.f k t101 bt111.2.1 bt111.2.2 bt108.1 t105).bind fun bt116 => ((spec_l02Bend.f t101 bt116.2.1 bt116.2.2 bt111.1 t105).bind fun bt121 => (some (bt121.1, bt116.1, t105)))))) = some (r1, r2, r3) := H
 have A3 := Aside0.mk A30
 clear A30
 replace H := Option.bind_eq_some_iff.mp H
 obtain ⟨⟨t108, t109, t110⟩, A40, H⟩ := H
 replace H : ((spec_l02DrawVector.f k t101 t109 t110 t108 t105).bind fun bt111 => ((spec_l02DrawVector.f k t101 bt111.2.1 bt111.2.2 t108 t105).bind fun bt116 => ((spec_l02Bend.f t101 bt116.2.1 bt116.2.2 bt111.1 t105).bind fun bt121 => (some (bt121.1, bt116.1, t105))))) = some (r1, r2, r3) := H
 have A4 := Aside0.mk A40
 clear A40
 replace H := Option.bind_eq_some_iff.mp H
 obtain ⟨⟨t111, t114, t115⟩, A50, H⟩ := H
 replace H : ((spec_l02DrawVector.f k t101 t114 t115 t108 t105).bind fun bt116 => ((spec_l02Bend.f t101 bt116.2.1 bt116.2.2 t111 t105).bind fun bt121 => (some (bt121.1, bt116.1, t105)))) = some (r1, r2, r3) := H
 have A5 := Aside0.mk A50
 clear A50
 replace H := Option.bind_eq_some_iff.mp H
 obtain ⟨⟨t116, t119, t120⟩, A60, H⟩ := H
 replace H : ((spec_l02Bend.f t101 t119 t120 t111 t105).bind fun bt121 => (some (bt121.1, t116, t105))) = some (r1, r2, r3) := H
 have A6 := Aside0.mk A60
 clear A60
 replace H := Option.bind_eq_some_iff.mp H
 obtain ⟨⟨t121, t124, t125⟩, A70, H⟩ := H
 replace H : (some (t121, t116, t105)) = some (r1, r2, r3) := H
 have A7 := Aside0.mk A70
 clear A70
 simp only [Option.some.injEq, Prod.mk.injEq] at H
 obtain ⟨rfl, rfl, rfl⟩ := H
 go_enter Try.func21, Try.ntmps21
 go_wp2_with (first | ((with_reducible refine gate_callee (f := 35) rfl ?_); refine goesL_ (some 11) rfl rfl Try.func35 (by kernel_rfl) rfl #[.slice A0 l0.length c0] rfl Z21.z2 ?_; (with_reducible refine (spec_l00From.calls _ _ l0 t101 t102 t103 w _ ?side1 ?side2 ?side3 A2.out).mono ?_); (case side1 => exact (by repeat (first | (with_reducible first | exact HB.out | apply below_alloc | apply pw_below_drewN | apply below_drew1) | exact HB.out))); (case side2 => exact HR0.out); (case side3 => exact HC0.out); rintro e w8 ⟨g104, rfl, hi, hb, hb2⟩; refine ⟨_, rfl, ?_⟩; have n0_ := Aside0.mk (hb); have n1_ := Aside0.mk (hi); clear HB; have HB := n0_; have HI104 := n1_; clear n0_ n1_; (try clear hb); (try clear hb2); (try clear hk); (try clear hi)) | ((with_reducible refine gate_callee (f := 36) rfl ?_); refine goesL_ (some 13) rfl rfl Try.func36 (by kernel_rfl) rfl #[.pointer (some ⟨g104, 0, none⟩)] rfl Z21.z2 ?_; (with_reducible refine (spec_l02BentPrime.calls g104 t101 t102 t103 t105 t106 t107 w _ ?side1 ?side2 A3.out).mono ?_); (case side1 => exact Z21.z1); (case side2 => exact Z21.z0); rintro e w9 ⟨rfl, hi, hb, hk⟩; refine ⟨_, rfl, ?_⟩; have n0_ := Aside0.mk (hb); have n1_ := Aside0.mk (hi); clear HB HI104; have HB := n0_; have HI104 := n1_; clear n0_ n1_; (try clear hb); (try clear hb2); (try clear hk); (try clear hi)) | ((with_reducible refine gate_callee (f := 42) rfl ?_); refine goesL_ (some 15) rfl rfl Try.func42 (by kernel_rfl) rfl #[.pointer (some ⟨g104, 0, none⟩), .int .i64 6] rfl Z21.z2 ?_; (with_reducible refine (spec_l00Src_pick.calls g104 t101 t106 t107 6 t108 t109 t110 w _ ?side1 ?side2 A4.out).mono ?_); (case side1 => exact Z21.z1); (case side2 => exact Z21.z0); rintro e w10 ⟨rfl, hi, hb, hk⟩; refine ⟨_, rfl, ?_⟩; have n0_ := Aside0.mk (hb); have n1_ := Aside0.mk (hi); clear HB HI104; have HB := n0_; have HI104 := n1_; clear n0_ n1_; (try clear hb); (try clear hb2); (try clear hk); (try clear hi)) | ((with_reducible refine gate_callee (f := 43) rfl ?_); refine goesL_ (some 19) rfl rfl Try.func43 (by kernel_rfl) rfl #[.pointer (some ⟨g104, 0, none⟩), .int .i64 t108, .int .i64 t105] rfl Z21.z2 ?_; (with_reducible refine (spec_l02DrawVector.calls k g104 t101 t109 t110 t108 t105 t111 t114 t115 w _ ?side1 ?side2 A5.out).mono ?_); (case side1 => exact Z21.z1); (case side2 => exact Z21.z0); rintro e w11 ⟨v112, rfl, ho0, hi, hb, hk⟩; refine ⟨_, rfl, ?_⟩; have n0_ := Aside0.mk (Kd.R_lower ho0 (below_size Z21.z0)); have n1_ := Aside0.mk (hb); have n2_ := Aside0.mk (hi); clear HB HI104; have HO113 := n0_; have HB := n1_; have HI104 := n2_; clear n0_ n1_ n2_; (try clear hb); (try clear hb2); (try clear hk); (try clear hi); (try clear ho0)) | ((with_reducible refine gate_callee (f := 43) rfl ?_); refine goesL_ (some 23) rfl rfl Try.func43 (by kernel_rfl) rfl #[.pointer (some ⟨g104, 0, none⟩), .int .i64 t108, .int .i64 t105] rfl Z21.z2 ?_; (with_reducible refine (spec_l02DrawVector.calls k g104 t101 t114 t115 t108 t105 t116 t119 t120 w _ ?side1 ?side2 A6.out).mono ?_); (case side1 => exact Z21.z1); (case side2 => exact Z21.z0); rintro e w12 ⟨v117, rfl, ho0, hi, hb, hk⟩; refine ⟨_, rfl, ?_⟩; have n0_ := Aside0.mk (Kd.R_mono (Kd.R_told (Kd.R_oldK (IsS69.apart (show IsS69 w _ g104 t101 t114 t115 from by repeat (first | (with_reducible first | exact HI104.out | apply IsS69.alloc | apply IsS69.drewN | apply IsS69.drew | apply IsS69.set_1 | apply IsS69.set_2) | exact HI104.out)) (by (with_reducible repeat (first | apply Kd.R_alloc | apply Kd.R_drewN | apply Kd.R_drew)); exact HO113.out) (by decide)) hk) (Kd.R_base ho0)) (fun _ h_ => h_.1)); have n1_ := Aside0.mk (Kd.R_lower (Kd.R_new' ho0 (Kd.R_lt (by (with_reducible repeat (first | apply Kd.R_alloc | apply Kd.R_drewN | apply Kd.R_drew)); exact HO113.out))) (below_size Z21.z0)); have n2_ := Aside0.mk (hb); have n3_ := Aside0.mk (hi); clear HO113 HB HI104; have HO113 := n0_; have HO118 := n1_; have HB := n2_; have HI104 := n3_; clear n0_ n1_ n2_ n3_; (try clear hb); (try clear hb2); (try clear hk); (try clear hi); (try clear ho0); obtain ⟨Ao13, co13, eo13⟩ := Kd.R_slice HO113.out; subst eo13) | ((with_reducible refine gate_callee (f := 44) rfl ?_); refine goesL_ (some 27) rfl rfl Try.func44 (by kernel_rfl) rfl #[.pointer (some ⟨g104, 0, none⟩), .slice Ao13 t111.length co13, .int .i64 t105] rfl Z21.z2 ?_; (with_reducible refine (spec_l02Bend.calls g104 t101 t119 t120 (fun k_ => some k_ = (.slice Ao13 t111.length co13 : Value).ownBlock) (.slice Ao13 t111.length co13) t111 t105 t121 t124 t125 w _ ?side1 ?side2 ?side3 A7.out).mono ?_); (case side1 => exact Z21.z1); (case side2 => exact Z21.z0); (case side3 => exact Kd.R_tight rfl HO113.out); rintro e w14 ⟨v122, rfl, ho0, hi, hb, hkp⟩; refine ⟨_, rfl, ?_⟩; have n0_ := Aside0.mk (hi); have n1_ := Aside0.mk (Kd.R_mono (ok' := fun k_ => some k_ ≠ (v122 : Value).ownBlock) (Kd.R_keptB ((IsS69.apart HI104.out HO118.out (by decide))) hkp (fun k_ hk_ hs_ => Or.elim hs_ (fun hs_ => (hk_.1.2) hs_) (fun e_ => (hk_.2) e_))) (fun k_ hk_ => fun e_ => Or.elim (ho0.1 k_ e_.symm) (fun hs_ => hk_.2.1 (by first | exact hs_ | exact Or.inl hs_)) (fun hn_ => Nat.not_le.2 hk_.2.2 hn_))); have n2_ := Aside0.mk (Kd.R_mono (ok' := fun k_ => some k_ ≠ (v117 : Value).ownBlock) ho0 (fun k_ hk_ => Or.elim hk_ (fun hs_ => fun e_ => ((((IsS69.apart HI104.out HO118.out (by decide))).1 k_ e_.symm).1.2) hs_) (fun hn_ => (Kd.fresh' (Kd.R_lt (by (with_reducible repeat (first | apply Kd.R_alloc | apply Kd.R_drewN | apply Kd.R_drew)); exact HO118.out)) k_ hn_)))); have n3_ := Aside0.mk (hb); clear HI104 HO118 HB HO113; have HI104 := n0_; have HO118 := n1_; have HO123 := n2_; have HB := n3_; clear n0_ n1_ n2_ n3_; (try clear hb); (try clear hkp); (try clear ho0)))
 go_ret3
 exact ⟨_, _, (by first | rfl | (simp [errW_none, errW_some] <;> rfl) | (simp [*, errW_none, errW_some] <;> rfl)), (by (with_reducible repeat (first | apply Kd.R_alloc | apply Kd.R_drewN | apply Kd.R_drew)); exact HO123.out), (by (with_reducible repeat (first | apply Kd.R_alloc | apply Kd.R_drewN | apply Kd.R_drew)); exact HO118.out), Z21.z0⟩

end Go.Proofs.Ytmkcangcfammnaa.F
end

section
namespace Go.Proofs.Ytmkcangcfammnaa.F
open Go.RowKit Go.Proofs.YtmkcangcfammnaaW.PrintWords Go.Proofs.YtmkcangcfammnaaW.PrintLast Go.Proofs.YtmkcangcfammnaaW.PrintMore
attribute [local go_sem] max2_int min2_int max_two min_two max_three min_three max_four min_four   -- for this text's walks alone
set_option linter.unusedVariables false
set_option linter.unusedSimpArgs false

/-! ### impl_ValidVector: function 48 -/
def impl_ValidVector.f (k : Nat) (l0 : List Int) (a1 : Int) : Option (Bool) := (impl_ValidPrime.f k a1).bind fun t101 => (if t101 = true then (if (l0.length : Int) ≤ 64 then ((impl_areElements.f l0 a1).bind fun t102 => (some t102)) else (some false)) else (some false))
theorem impl_ValidVector.mono : ∀ a0 a1 k, LeO (impl_ValidVector.f k a0 a1) (impl_ValidVector.f (k + 1) a0 a1) := by
  intro a0 a1 k
  unfold impl_ValidVector.f
  repeat' first
      | (with_reducible exact impl_ValidPrime.mono _ _)
      | (with_reducible exact LeO.refl _)
      | (with_reducible exact LeO.none _)
      | (with_reducible refine LeO.ite ?_ ?_)
      | (with_reducible refine LeO.bind ?_ (fun _ => ?_))
      | exact impl_ValidPrime.mono _ _
      | exact LeO.none _
      | refine LeO.ite ?_ ?_
      | refine LeO.bind ?_ (fun _ => ?_)
theorem Z48.z2 {P : Prop} (h : P := by first | rfl | (simp [errW_none, errW_some] <;> rfl) | (simp [*, errW_none, errW_some] <;> rfl)) : P := h
theorem Z48.z1 {P : Prop} (h : P := by (try simp only [List.map_toArray, List.map_cons, List.map_nil]); first | done | rfl | (simp only [List.length_drop, List.length_take]; rfl)) : P := h
theorem Z48.z0 {P : Prop} (h : P := by repeat (first | (with_reducible first | exact HB.out | apply below_alloc | apply pw_below_drewN | apply below_drew1) | exact HB.out)) : P := h
set_option maxHeartbeats 8000000 in
set_option maxRecDepth 100000 in
theorem impl_ValidVector.calls (k : Nat) (A0 : Option Addr) (c0 : Nat) (l0 : List Int) (a1 : Int) (r : Bool) (w : World) (hr0 : Kd.C (Kd.int .i64) w A0 l0.length l0) (hc0 : l0.length ≤ c0) (h : impl_ValidVector.f k l0 a1 = some r) :
  Calls Try.prog 48 #[.slice A0 l0.length c0, .int .i64 a1] w fun e w' => e = .returned (.bool r) ∧ Below w.heap.size w w' := by
 have HR0 := Aside0.mk hr0
 have HC0 := Aside0.mk hc0
 clear hr0 hc0
 have HB := Aside0.mk (Below.refl w.heap.size w)
 have H : ((impl_ValidPrime.f k a1).bind fun t101 => (if t101 = true then (if (l0.length : Int) ≤ 64 then ((impl_areElements.f l0 a1).bind fun t102 => (some t102)) else (some false)) else (some false))) = some r := h
 clear h
 replace H := Option.bind_eq_some_iff.mp H
 obtain ⟨t101, A30, H⟩ := H
 replace H : (if t101 = true then (if (l0.length : Int) ≤ 64 then ((impl_areElements.f l0 a1).bind fun t102 => (some t102)) else (some false)) else (some false)) = some r := H
 have A3 := Aside0.mk A30
 clear A30
 by_cases c4 : t101 = true
 ·subst c4
  have H1 : (if (l0.length : Int) ≤ 64 then ((impl_areElements.f l0 a1).bind fun t102 => (some t102)) else (some false)) = some r := by rw [if_pos rfl] at H; exact H
  clear H
  have H := H1
  clear H1
  by_cases c5 : (l0.length : Int) ≤ 64
  ·rw [if_pos c5] at H
   have c5b0 : decide ((l0.length : Int) ≤ 64) = true := decide_eq_true c5
   have c5b1 : decide (l0.length ≤ 64) = true := decide_eq_true (by omega)
   clear c5
   replace H := Option.bind_eq_some_iff.mp H
   obtain ⟨t102, A60, H⟩ := H
   replace H : (some t102) = some r := H
   have A6 := Aside0.mk A60
   clear A60
   obtain rfl := Option.some.inj H
   go_enter Try.func48, Try.ntmps48
   go_wp2_with (first | ((with_reducible refine gate_callee (f := 55) rfl ?_); refine goesL_ (some 6) rfl rfl Try.func55 (by kernel_rfl) rfl #[.int .i64 a1] rfl Z48.z1 ?_; (with_reducible refine (impl_ValidPrime.calls k a1 true _ A3.out).mono ?_); rintro e w' ⟨rfl, ⟨nd, rfl⟩⟩; refine ⟨_, rfl, ?_⟩) | (go_at_call 56; (with_reducible refine (impl_areElements.calls _ _ l0 a1 t102 _ ?side1 ?side2 A6.out).mono ?_); (case side1 => exact (by repeat (first | exact HR0.out | (with_reducible refine Kd.C_alloc ?_ _) | (with_reducible refine Kd.C_drewN ?_ _) | (with_reducible refine Kd.C_drew ?_)))); (case side2 => exact HC0.out); rintro e w7 ⟨rfl, hb⟩; have n0_ := Aside0.mk (below_step Z48.z0 hb); clear HB; have HB := n0_; clear n0_; (try clear hb); (try clear hb2); (try clear hk); (try clear hi)))
   go_ret
   exact ⟨Z48.z2, Z48.z0⟩
  rw [if_neg c5] at H
  have c5b0 : decide ((l0.length : Int) ≤ 64) = false := decide_eq_false c5
  have c5b1 : decide (l0.length ≤ 64) = false := decide_eq_false (by omega)
  clear c5
  obtain rfl := Option.some.inj H
  go_enter Try.func48, Try.ntmps48
  go_wp2_with (first | ((with_reducible refine gate_callee (f := 55) rfl ?_); refine goesL_ (some 6) rfl rfl Try.func55 (by kernel_rfl) rfl #[.int .i64 a1] rfl Z48.z1 ?_; (with_reducible refine (impl_ValidPrime.calls k a1 true _ A3.out).mono ?_); rintro e w' ⟨rfl, ⟨nd, rfl⟩⟩; refine ⟨_, rfl, ?_⟩))
  go_ret
  exact ⟨Z48.z2, Z48.z0⟩
 replace c4 := Bool.eq_false_iff.mpr c4
 subst c4
 have H1 : (some false) = some r := by rw [if_neg (show ¬ (false = true) by decide)] at H; exact H
 clear H
 have H := H1
 clear H1
 obtain rfl := Option.some.inj H
 go_enter Try.func48, Try.ntmps48
 go_wp2_with (first | ((with_reducible refine gate_callee (f := 55) rfl ?_); refine goesL_ (some 6) rfl rfl Try.func55 (by kernel_rfl) rfl #[.int .i64 a1] rfl Z48.z1 ?_; (with_reducible refine (impl_ValidPrime.calls k a1 false _ A3.out).mono ?_); rintro e w' ⟨rfl, ⟨nd, rfl⟩⟩; refine ⟨_, rfl, ?_⟩))
 go_ret
 exact ⟨Z48.z2, Z48.z0⟩

end Go.Proofs.Ytmkcangcfammnaa.F
end

section
namespace Go.Proofs.Ytmkcangcfammnaa.F
open Go.RowKit Go.Proofs.YtmkcangcfammnaaW.PrintWords Go.Proofs.YtmkcangcfammnaaW.PrintLast Go.Proofs.YtmkcangcfammnaaW.PrintMore
attribute [local go_sem] max2_int min2_int max_two min_two max_three min_three max_four min_four   -- for this text's walks alone
set_option linter.unusedVariables false
set_option linter.unusedSimpArgs false

/-! ### impl_vectors: function 45 -/
def impl_vectors.j0 : Nat → List Int → List Int → Bool → Option (Int)
  | 0, _, _, _ => none
  | k + 1, x0, x1, x7 => if x7 = true then (some 1) else (if (x0.length : Int) = (x1.length : Int) then (some 0) else (some 6))
def impl_vectors.f (k : Nat) (l0 : List Int) (l1 : List Int) (a2 : Int) : Option (Int) := (impl_ValidVector.f k l0 a2).bind fun t101 => (if t101 = true then ((impl_ValidVector.f k l1 a2).bind fun t102 => (impl_vectors.j0 k l0 l1 (!t102))) else (impl_vectors.j0 k l0 l1 true))
theorem impl_vectors.mono_l : ∀ k, (∀ y0 y1 y2, LeO (impl_vectors.j0 k y0 y1 y2) (impl_vectors.j0 (k + 1) y0 y1 y2))
  | 0 => fun _ _ _ r h => by simp [impl_vectors.j0] at h
  | k + 1 => by
    have ih0 := impl_vectors.mono_l k
    · intro y0 y1 y2
      unfold impl_vectors.j0
      repeat' first
      | (with_reducible exact ih0 _ _ _)
      | (with_reducible exact impl_ValidVector.mono _ _ _)
      | (with_reducible exact LeO.refl _)
      | (with_reducible exact LeO.none _)
      | (with_reducible refine LeO.ite ?_ ?_)
      | (with_reducible refine LeO.bind ?_ (fun _ => ?_))
      | exact ih0 _ _ _
      | exact impl_ValidVector.mono _ _ _
      | exact LeO.none _
      | refine LeO.ite ?_ ?_
      | refine LeO.bind ?_ (fun _ => ?_)
theorem impl_vectors.mono : ∀ a0 a1 a2 k, LeO (impl_vectors.f k a0 a1 a2) (impl_vectors.f (k + 1) a0 a1 a2) := by
  intro a0 a1 a2 k
  have ih0 := impl_vectors.mono_l k
  unfold impl_vectors.f
  repeat' first
      | (with_reducible exact ih0 _ _ _)
      | (with_reducible exact impl_ValidVector.mono _ _ _)
      | (with_reducible exact LeO.refl _)
      | (with_reducible exact LeO.none _)
      | (with_reducible refine LeO.ite ?_ ?_)
      | (with_reducible refine LeO.bind ?_ (fun _ => ?_))
      | exact ih0 _ _ _
      | exact impl_ValidVector.mono _ _ _
      | exact LeO.none _
      | refine LeO.ite ?_ ?_
      | refine LeO.bind ?_ (fun _ => ?_)
theorem Z45.z3 {P : Prop} (h : P := by (try simp only [List.map_toArray, List.map_cons, List.map_nil]); first | done | rfl | (simp only [List.length_drop, List.length_take]; rfl)) : P := h
theorem Z45.z2 {P : Prop} (h : P := by repeat (first | exact (Kd.C_below HR0.out HB.out) | (with_reducible refine Kd.C_alloc ?_ _) | (with_reducible refine Kd.C_drewN ?_ _) | (with_reducible refine Kd.C_drew ?_))) : P := h
theorem Z45.z1 {P : Prop} (h : P := by first | rfl | (simp [errW_none, errW_some] <;> rfl) | (simp [*, errW_none, errW_some] <;> rfl)) : P := h
theorem Z45.z0 {P : Prop} (h : P := by repeat (first | (with_reducible first | exact HB.out | apply below_alloc | apply pw_below_drewN | apply below_drew1) | exact HB.out)) : P := h
set_option maxHeartbeats 8000000 in
set_option maxRecDepth 100000 in
theorem impl_vectors.calls (k : Nat) (A0 : Option Addr) (c0 : Nat) (l0 : List Int) (A1 : Option Addr) (c1 : Nat) (l1 : List Int) (a2 : Int) (r : Int) (w : World) (hr0 : Kd.C (Kd.int .i64) w A0 l0.length l0) (hc0 : l0.length ≤ c0) (hr1 : Kd.C (Kd.int .i64) w A1 l1.length l1) (hc1 : l1.length ≤ c1) (h : impl_vectors.f k l0 l1 a2 = some r) :
  Calls Try.prog 45 #[.slice A0 l0.length c0, .slice A1 l1.length c1, .int .i64 a2] w fun e w' => e = .returned (.int .i64 r) ∧ Below w.heap.size w w' := by
 have HR0 := Aside0.mk hr0
 have HC0 := Aside0.mk hc0
 clear hr0 hc0
 have HR1 := Aside0.mk hr1
 have HC1 := Aside0.mk hc1
 clear hr1 hc1
 have HB := Aside0.mk (Below.refl w.heap.size w)
 have H : ((impl_ValidVector.f k l0 a2).bind fun t101 => (if t101 = true then ((impl_ValidVector.f k l1 a2).bind fun t102 => (impl_vectors.j0 k l0 l1 (!t102))) else (impl_vectors.j0 k l0 l1 true))) = some r := h
 clear h
 have HC4 := Aside0.mk H
 clear H
 go_enter Try.func45, Try.ntmps45
 go_upto_region 1 with (fail)
 go_cut [7] (fun v7 wc => ∃ (kq : Nat) (x7_3 : Bool), v7 = .bool x7_3 ∧ Aside0 (impl_vectors.j0 kq l0 l1 x7_3 = some r) ∧ Aside0 (kq ≤ k) ∧ Aside0 (Below w.heap.size w wc))
 case first =>
  have H := HC4.out
  clear HC4
  replace H := Option.bind_eq_some_iff.mp H
  obtain ⟨t101, A50, H⟩ := H
  replace H : (if t101 = true then ((impl_ValidVector.f k l1 a2).bind fun t102 => (impl_vectors.j0 k l0 l1 (!t102))) else (impl_vectors.j0 k l0 l1 true)) = some r := H
  have A5 := Aside0.mk A50
  clear A50
  by_cases c6 : t101 = true
  ·subst c6
   have H1 : ((impl_ValidVector.f k l1 a2).bind fun t102 => (impl_vectors.j0 k l0 l1 (!t102))) = some r := by rw [if_pos rfl] at H; exact H
   clear H
   have H := H1
   clear H1
   replace H := Option.bind_eq_some_iff.mp H
   obtain ⟨t102, A70, H⟩ := H
   replace H : (impl_vectors.j0 k l0 l1 (!t102)) = some r := H
   have A7 := Aside0.mk A70
   clear A70
   have H' := Aside0.mk H
   clear H
   go_wp2_with (first | ((with_reducible refine gate_callee (f := 48) rfl ?_); refine goesL_ (some 10) rfl rfl Try.func48 (by kernel_rfl) rfl #[.slice A0 l0.length c0, .int .i64 a2] rfl Z45.z3 ?_; (with_reducible refine (impl_ValidVector.calls k _ _ l0 a2 true _ ?side1 ?side2 A5.out).mono ?_); (case side1 => exact Z45.z2); (case side2 => exact HC0.out); rintro e w8 ⟨rfl, hb⟩; refine ⟨_, rfl, ?_⟩; have n0_ := Aside0.mk (below_step Z45.z0 hb); clear HB; have HB := n0_; clear n0_; (try clear hb); (try clear hb2); (try clear hk); (try clear hi)) | (go_at_call 48; (with_reducible refine (impl_ValidVector.calls k _ _ l1 a2 t102 _ ?side1 ?side2 A7.out).mono ?_); (case side1 => exact (by repeat (first | exact (Kd.C_below HR1.out HB.out) | (with_reducible refine Kd.C_alloc ?_ _) | (with_reducible refine Kd.C_drewN ?_ _) | (with_reducible refine Kd.C_drew ?_)))); (case side2 => exact HC1.out); rintro e w9 ⟨rfl, hb⟩; have n0_ := Aside0.mk (below_step Z45.z0 hb); clear HB; have HB := n0_; clear n0_; (try clear hb); (try clear hb2); (try clear hk); (try clear hi)))
   go_meet
   case rel => exact ⟨_, (!t102), (by first | rfl | (simp; done) | (simp [*]; done)), H', ⟨(by first | omega | exact Nat.le_refl _)⟩, ⟨Z45.z0⟩⟩
  replace c6 := Bool.eq_false_iff.mpr c6
  subst c6
  have H1 : (impl_vectors.j0 k l0 l1 true) = some r := by rw [if_neg (show ¬ (false = true) by decide)] at H; exact H
  clear H
  have H := H1
  clear H1
  have H' := Aside0.mk H
  clear H
  go_wp2_with (first | ((with_reducible refine gate_callee (f := 48) rfl ?_); refine goesL_ (some 10) rfl rfl Try.func48 (by kernel_rfl) rfl #[.slice A0 l0.length c0, .int .i64 a2] rfl Z45.z3 ?_; (with_reducible refine (impl_ValidVector.calls k _ _ l0 a2 false _ ?side1 ?side2 A5.out).mono ?_); (case side1 => exact Z45.z2); (case side2 => exact HC0.out); rintro e w10 ⟨rfl, hb⟩; refine ⟨_, rfl, ?_⟩; have n0_ := Aside0.mk (below_step Z45.z0 hb); clear HB; have HB := n0_; clear n0_; (try clear hb); (try clear hb2); (try clear hk); (try clear hi)))
  go_meet
  case rel => exact ⟨_, (true), (by first | rfl | (simp; done) | (simp [*]; done)), H', ⟨(by first | omega | exact Nat.le_refl _)⟩, ⟨Z45.z0⟩⟩
 case rest =>
  clear HC4
  try clear c1
  try clear p2
  try clear c4
  try clear c6
  obtain ⟨kq, x7_3, rfl, HA, HJ3, HB⟩ := hcut
  cases kq with
  | zero => exact absurd HA.out (by simp [impl_vectors.j0])
  | succ kj3 =>
   have H := HA.out
   clear HA
   simp only [impl_vectors.j0] at H
   by_cases c11 : x7_3 = true
   ·subst c11
    have H1 : (some 1) = some r := by rw [if_pos rfl] at H; exact H
    clear H
    have H := H1
    clear H1
    obtain rfl := Option.some.inj H
    go_wp2
    go_ret
    exact ⟨Z45.z1, Z45.z0⟩
   replace c11 := Bool.eq_false_iff.mpr c11
   subst c11
   have H1 : (if (l0.length : Int) = (l1.length : Int) then (some 0) else (some 6)) = some r := by rw [if_neg (show ¬ (false = true) by decide)] at H; exact H
   clear H
   have H := H1
   clear H1
   by_cases c12 : (l0.length : Int) = (l1.length : Int)
   ·rw [if_pos c12] at H
    have c12b0 : ((l0.length : Int) == (l1.length : Int)) = true := beq_iff_eq.mpr c12
    have c12b1 : ((l0.length : Int) != (l1.length : Int)) = false := bne_eq_false_iff_eq.mpr c12
    have c12b2 : (l0.length == l1.length) = true := by first | simpa using c12 | (simp at c12 ⊢; omega)
    clear c12
    obtain rfl := Option.some.inj H
    go_wp2
    go_ret
    exact ⟨Z45.z1, Z45.z0⟩
   rw [if_neg c12] at H
   have c12b0 : ((l0.length : Int) == (l1.length : Int)) = false := beq_eq_false_iff_ne.mpr c12
   have c12b1 : ((l0.length : Int) != (l1.length : Int)) = true := bne_iff_ne.mpr c12
   have c12b2 : (l0.length == l1.length) = false := by first | simpa using c12 | (simp at c12 ⊢; omega)
   obtain rfl := Option.some.inj H
   go_wp2
   go_ret
   exact ⟨Z45.z1, Z45.z0⟩

end Go.Proofs.Ytmkcangcfammnaa.F
end

section
namespace Go.Proofs.Ytmkcangcfammnaa.F
open Go.RowKit Go.Proofs.YtmkcangcfammnaaW.PrintWords Go.Proofs.YtmkcangcfammnaaW.PrintLast Go.Proofs.YtmkcangcfammnaaW.PrintMore
attribute [local go_sem] max2_int min2_int max_two min_two max_three min_three max_four min_four   -- for this text's walks alone
set_option linter.unusedVariables false
set_option linter.unusedSimpArgs false

/-! ### impl_dot: function 46 -/
def impl_dot.l0 : Nat → List Int → List Int → Int → Int → Int → Int → Option (Int)
  | 0, _, _, _, _, _, _ => none
  | k + 1, x0, x1, x2, x7, x10, x11 => if x11 < x10 then (if 0 ≤ x11 then (if x11 < (x0.length : Int) then (if x11 < (x1.length : Int) then (if x2 = 0 then (none) else (impl_dot.l0 k x0 x1 x2 (Int.tmod (wrap64 (x7 + (wrap64 ((rd x0 x11) * (rd x1 x11))))) x2) x10 (wrap64 (x11 + 1)))) else (none)) else (none)) else (none)) else (some x7)
def impl_dot.f (k : Nat) (l0 : List Int) (l1 : List Int) (a2 : Int) : Option (Int) := impl_dot.l0 k l0 l1 a2 0 (l0.length : Int) 0
theorem impl_dot.mono_l : ∀ k, (∀ y0 y1 y2 y3 y4 y5, LeO (impl_dot.l0 k y0 y1 y2 y3 y4 y5) (impl_dot.l0 (k + 1) y0 y1 y2 y3 y4 y5))
  | 0 => fun _ _ _ _ _ _ r h => by simp [impl_dot.l0] at h
  | k + 1 => by
    have ih0 := impl_dot.mono_l k
    · intro y0 y1 y2 y3 y4 y5
      unfold impl_dot.l0
      repeat' first
      | (with_reducible exact ih0 _ _ _ _ _ _)
      | (with_reducible exact LeO.refl _)
      | (with_reducible exact LeO.none _)
      | (with_reducible refine LeO.ite ?_ ?_)
      | (with_reducible refine LeO.bind ?_ (fun _ => ?_))
      | exact ih0 _ _ _ _ _ _
      | exact LeO.none _
      | refine LeO.ite ?_ ?_
      | refine LeO.bind ?_ (fun _ => ?_)
theorem impl_dot.mono : ∀ a0 a1 a2 k, LeO (impl_dot.f k a0 a1 a2) (impl_dot.f (k + 1) a0 a1 a2) := by
  intro a0 a1 a2 k
  have ih0 := impl_dot.mono_l k
  unfold impl_dot.f
  repeat' first
      | (with_reducible exact ih0 _ _ _ _ _ _)
      | (with_reducible exact LeO.refl _)
      | (with_reducible exact LeO.none _)
      | (with_reducible refine LeO.ite ?_ ?_)
      | (with_reducible refine LeO.bind ?_ (fun _ => ?_))
      | exact ih0 _ _ _ _ _ _
      | exact LeO.none _
      | refine LeO.ite ?_ ?_
      | refine LeO.bind ?_ (fun _ => ?_)
theorem Z46.z1 {P : Prop} (h : P := by first | (with_reducible assumption) | assumption) : P := h
theorem Z46.z0 {P : Prop} (h : P := by first | rfl | (simp; done) | (simp [*]; done)) : P := h
set_option maxHeartbeats 8000000 in
set_option maxRecDepth 100000 in
theorem impl_dot.calls (k : Nat) (A0 : Option Addr) (c0 : Nat) (l0 : List Int) (A1 : Option Addr) (c1 : Nat) (l1 : List Int) (a2 : Int) (r : Int) (w : World) (hr0 : Kd.C (Kd.int .i64) w A0 l0.length l0) (hc0 : l0.length ≤ c0) (hr1 : Kd.C (Kd.int .i64) w A1 l1.length l1) (hc1 : l1.length ≤ c1) (h : impl_dot.f k l0 l1 a2 = some r) :
  Calls Try.prog 46 #[.slice A0 l0.length c0, .slice A1 l1.length c1, .int .i64 a2] w fun e w' => e = .returned (.int .i64 r) ∧ Drawn0 w w' := by
 have HR0 := Aside0.mk hr0
 have HC0 := Aside0.mk hc0
 clear hr0 hc0
 have HR1 := Aside0.mk hr1
 have HC1 := Aside0.mk hc1
 clear hr1 hc1
 have H : (impl_dot.l0 k l0 l1 a2 0 (l0.length : Int) 0) = some r := h
 clear h
 have H' := Aside0.mk H
 clear H
 go_enter Try.func46, Try.ntmps46
 go_wp2
 repeat (go_quiet (fail); try go_wp2)
 go_loopg [7, 11] k (fun kq v7 v11 w' => ∃ (x7_1 : Int) (x11_1 : Int), v7 = .int .i64 x7_1 ∧ v11 = .int .i64 x11_1 ∧ Aside0 (impl_dot.l0 kq l0 l1 a2 x7_1 (l0.length : Int) x11_1 = some r) ∧ Aside0 (kq ≤ k) ∧ Drawn0 w w')
 case atStart => exact ⟨(0), (0), Z46.z0, Z46.z0, H', ⟨Nat.le_refl _⟩, (by repeat (first | exact Drawn0.refl _ | apply Drawn0.step))⟩
 case round =>
  clear H'
  try clear c1
  try clear p2
  obtain ⟨x7_1, x11_1, rfl, rfl, HA, HK1, ⟨m1, rfl⟩⟩ := hrel
  cases gk with
  | zero => exact absurd HA.out (by simp [impl_dot.l0])
  | succ k1 =>
   have H := HA.out
   clear HA
   simp only [impl_dot.l0] at H
   by_cases c4 : x11_1 < (l0.length : Int)
   ·rw [if_pos c4] at H
    have c4b0 : decide (x11_1 < (l0.length : Int)) = true := decide_eq_true c4
    clear c4
    by_cases c5 : 0 ≤ x11_1
    ·rw [if_pos c5] at H
     have c5b0 : decide (0 ≤ x11_1) = true := decide_eq_true c5
     clear c5
     by_cases c6 : x11_1 < (l0.length : Int)
     ·rw [if_pos c6] at H
      have c6b0 : decide (x11_1 < (l0.length : Int)) = true := decide_eq_true c6
      clear c6
      by_cases c7 : x11_1 < (l1.length : Int)
      ·rw [if_pos c7] at H
       have c7b0 : decide (x11_1 < (l1.length : Int)) = true := decide_eq_true c7
       clear c7
       by_cases c8 : a2 = 0
       ·rw [if_pos c8] at H
        exact absurd H (by simp)
       rw [if_neg c8] at H
       have c8b0 : (a2 == 0) = false := beq_eq_false_iff_ne.mpr c8
       have c8b1 : (a2 != 0) = true := bne_iff_ne.mpr c8
       have H' := Aside0.mk H
       clear H
       have p101 : 0 ≤ (x11_1 : Int) := of_decide_eq_true Z46.z1
       have q101 : x11_1 < (l0.length : Int) := of_decide_eq_true Z46.z1
       obtain ⟨ad101, e101, hx101_0⟩ := Kd.at_int HR0.out x11_1 p101 q101
       cases e101
       replace p101 := eq_true p101
       replace q101 := eq_true q101
       have p102 : 0 ≤ (x11_1 : Int) := of_decide_eq_true Z46.z1
       have q102 : x11_1 < (l1.length : Int) := of_decide_eq_true Z46.z1
       obtain ⟨ad102, e102, hx102_0⟩ := Kd.at_int HR1.out x11_1 p102 q102
       cases e102
       replace p102 := eq_true p102
       replace q102 := eq_true q102
       go_wp2
       repeat (go_quiet (fail); try go_wp2)
       go_roundg k1
       case measure => have := HK1.out; omega
       case rel => exact ⟨(Int.tmod (wrap64 (x7_1 + (wrap64 ((rd l0 x11_1) * (rd l1 x11_1))))) a2), (wrap64 (x11_1 + 1)), Z46.z0, Z46.z0, H', ⟨(by have := HK1.out; omega)⟩, (by repeat (first | exact Drawn0.refl _ | apply Drawn0.step))⟩
      rw [if_neg c7] at H
      exact absurd H (by simp)
     rw [if_neg c6] at H
     exact absurd H (by simp)
    rw [if_neg c5] at H
    exact absurd H (by simp)
   rw [if_neg c4] at H
   have c4b0 : decide (x11_1 < (l0.length : Int)) = false := decide_eq_false c4
   clear c4
   obtain rfl := Option.some.inj H
   go_wp2
   repeat (go_quiet (fail); try go_wp2)
   go_ret
   exact ⟨Z46.z0, (by repeat (first | exact Drawn0.refl _ | apply Drawn0.step))⟩

end Go.Proofs.Ytmkcangcfammnaa.F
end
