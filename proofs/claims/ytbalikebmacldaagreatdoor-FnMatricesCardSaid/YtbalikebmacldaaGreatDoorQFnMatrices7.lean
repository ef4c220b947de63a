-- Texts of this claim, merged by packw.py (a program of this session's).
import Derived.Test.YtbalikebmacldaaGreatDoorQFnMatrices2
import Derived.Test.YtbalikebmacldaaGreatDoorQFnMatrices3
import Derived.Test.YtbalikebmacldaaGreatDoorQFnMatrices5
import Derived.Test.YtbalikebmacldaaGreatDoorQFnMatrices4
import Derived.Test.YtbalikebmacldaaGreatDoorQFnMatrices6

section
namespace Go.Proofs.YtbalikebmacldaaGreatDoor.F
open Go.RowKit Go.Proofs.YtbalikebmacldaaGreatDoorW.PrintWords Go.Proofs.YtbalikebmacldaaGreatDoorW.PrintLast Go.Proofs.YtbalikebmacldaaGreatDoorW.PrintMore
attribute [local go_sem] max2_int min2_int max_two min_two max_three min_three max_four min_four   -- for this text's walks alone
set_option linter.unusedVariables false
set_option linter.unusedSimpArgs false
/-! ### impl_Transpose: function 9 -/
def impl_Transpose.f (k : Nat) (a0_0 : Int) (a0_1 : Int) (a0_2 : Int) (l0_3 : List Int) : Option (Int × Int × Int × List Int × Int) := (impl_ValidMatrix.f k a0_0 a0_1 a0_2 l0_3).bind fun t103 => (if t103 = true then ((impl_transpose.f k a0_0 a0_1 a0_2 l0_3).bind fun bt104 => (some (bt104.1, bt104.2.1, bt104.2.2.1, bt104.2.2.2, 0))) else (some (0, 0, 0, ([] : List Int), 1)))
theorem Z9.z6 {P : Prop} (h : P := by exact tgB BK102.out) : P := h
theorem Z9.z5 {P : Prop} (h : P := by (try simp only [List.map_toArray, List.map_cons, List.map_nil]); first | done | rfl | (simp only [List.length_drop, List.length_take]; rfl)) : P := h
theorem Z9.z4 {P : Prop} (h : P := by repeat (first | exact (Kd.C_below HR0_3.out HB.out) | (with_reducible refine Kd.C_alloc ?_ _) | (with_reducible refine Kd.C_drewN ?_ _) | (with_reducible refine Kd.C_drew ?_))) : P := h
theorem Z9.z3 {P : Prop} (h : P := by repeat (first | (with_reducible first | exact HB.out | apply below_alloc | apply pw_below_drewN | apply below_drew1) | exact HB.out)) : P := h
theorem Z9.z2 {P : Prop} (h : P := by repeat (first | (with_reducible first | exact HB.out | apply below_alloc | apply pw_below_drewN | apply below_drew1 | refine below_set ?_ GE101.out) | exact HB.out)) : P := h
theorem Z9.z1 {P : Prop} (h : P := by exact tgB BK101.out) : P := h
theorem Z9.z0 {P : Prop} (h : P := by repeat (first | (with_reducible first | exact HB.out | apply below_alloc | apply pw_below_drewN | apply below_drew1 | refine below_set ?_ GE101.out | refine below_set ?_ GE102.out) | exact HB.out)) : P := h
set_option maxHeartbeats 8000000 in
set_option maxRecDepth 100000 in
theorem impl_Transpose.calls (k : Nat) (a0_0 : Int) (a0_1 : Int) (a0_2 : Int) (A0_3 : Option Addr) (c0_3 : Nat) (l0_3 : List Int) (r1 : Int) (r2 : Int) (r3 : Int) (r4 : List Int) (r5 : Int) (w : World) (hr0_3 : Kd.C (Kd.int .i64) w A0_3 l0_3.length l0_3) (hc0_3 : l0_3.length ≤ c0_3) (h : impl_Transpose.f k a0_0 a0_1 a0_2 l0_3 = some (r1, r2, r3, r4, r5)) :
  Calls Tryz.prog 9 #[.agg #[.int .i64 a0_0, .int .i64 a0_1, .int .i64 a0_2, .slice A0_3 l0_3.length c0_3]] w fun e w' => ∃ v3_ : Value, e = .returned (.tuple #[.agg #[.int .i64 r1, .int .i64 r2, .int .i64 r3, v3_], .int .i64 r5]) ∧ Kd.R (Kd.int .i64) 2 w' w.heap.size (fun _ => True) v3_ r4 ∧ Below w.heap.size w w' := by
 have hu28 := Tryz.underlying28
 have HR0_3 := tgk hr0_3
 have HC0_3 := tgk hc0_3
 clear hr0_3 hc0_3
 have HB := tgk (Below.refl w.heap.size w)
 have H : ((impl_ValidMatrix.f k a0_0 a0_1 a0_2 l0_3).bind fun t103 => (if t103 = true then ((impl_transpose.f k a0_0 a0_1 a0_2 l0_3).bind fun bt104 => (some (bt104.1, bt104.2.1, bt104.2.2.1, bt104.2.2.2, 0))) else (some (0, 0, 0, ([] : List Int), 1)))) = some (r1, r2, r3, r4, r5) := h
 clear h
 obtain ⟨t103, A2, H⟩ := tgbd H
 replace H : (if t103 = true then ((impl_transpose.f k a0_0 a0_1 a0_2 l0_3).bind fun bt104 => (some (bt104.1, bt104.2.1, bt104.2.2.1, bt104.2.2.2, 0))) else (some (0, 0, 0, ([] : List Int), 1))) = some (r1, r2, r3, r4, r5) := H
 by_cases c3 : t103 = true
 ·subst c3
  rw [if_pos rfl] at H
  obtain ⟨⟨t104, t105, t106, t107⟩, A4, H⟩ := tgbd H
  (try dsimp only at H)
  simp only [Option.some.injEq, Prod.mk.injEq] at H
  obtain ⟨rfl, rfl, rfl, rfl, rfl⟩ := H
  go_enter Tryz.func9, Tryz.ntmps9
  go_wp2_with (first | ((with_reducible refine gate_dst (N := 1) rfl ?_); refine box_event ?hg (N := 1) ?hd (cs := #[.int .i64 a0_0, .int .i64 a0_1, .int .i64 a0_2, .slice A0_3 l0_3.length c0_3]) (t := 28) ?hr ?_; (case hd => rfl); (case hg => rfl); (case hr => first | (go_simp; done) | (go_simp; rfl)); intro gb101 hg w5 hbox hb; have BK101 := tgk (hbox); have GW101 := tgk (show w.heap.size ≤ gb101 from (by rw [hg]; exact (below_size Z9.z3))); have GE101 := tgk (show w.heap.size ≤ gb101 from (by rw [hg]; exact (below_size Z9.z3))); replace HB := tgk (below_step Z9.z3 hb); clear hb hbox hg) | ((with_reducible refine gate_dst (N := 2) rfl ?_); refine box_event ?hg (N := 2) ?hd (cs := #[.int .i64 0, .int .i64 0, .int .i64 0, .slice none 0 0]) (t := 28) ?hr ?_; (case hd => rfl); (case hg => rfl); (case hr => first | (go_simp; done) | (go_simp; rfl)); intro gb102 hg w6 hbox hb; have BK102 := tgk (hbox); have GW102 := tgk (show w.heap.size ≤ gb102 from (by rw [hg]; exact (below_size Z9.z2))); have GE102 := tgk (show w.heap.size ≤ gb102 from (by rw [hg]; exact (below_size Z9.z2))); have NB101_102 := tgk (show gb101 ≠ gb102 from (by rw [hg]; exact Nat.ne_of_lt (tgbl BK101 Z9.z1))); have NB102_101 := tgk (show gb102 ≠ gb101 from (by rw [hg]; exact Nat.ne_of_gt (tgbl BK101 Z9.z1))); replace BK101 := tgk (tgbb BK101 Z9.z1 hb); replace HB := tgk (below_step Z9.z2 hb); clear hb hbox hg; have hnb7 := NB101_102.out; have hnc7 := NB102_101.out; obtain ⟨hcz8_0, hcz8_1, hcz8_2, hcz8_3, hfz8_0, hfz8_1, hfz8_2, hfz8_3⟩ := cells4 BK101.out) | ((with_reducible refine gate_callee (f := 22) rfl ?_); refine goesL_ (some 5) rfl rfl Tryz.func22 (by kernel_rfl) rfl #[.agg #[.int .i64 a0_0, .int .i64 a0_1, .int .i64 a0_2, .slice A0_3 l0_3.length c0_3]] rfl Z9.z5 ?_; (with_reducible refine (impl_ValidMatrix.calls k a0_0 a0_1 a0_2 _ _ l0_3 true _ ?side1 ?side2 A2.out).mono ?_); (case side1 => exact Z9.z4); (case side2 => exact HC0_3.out); rintro e w9 ⟨rfl, hb⟩; refine ⟨_, rfl, ?_⟩; replace BK101 := tgk (tgbb BK101 Z9.z1 hb); replace BK102 := tgk (tgbb BK102 Z9.z6 hb); replace HB := tgk (below_step Z9.z0 hb); (try clear hb); obtain ⟨hcz10_0, hcz10_1, hcz10_2, hcz10_3, hfz10_0, hfz10_1, hfz10_2, hfz10_3⟩ := cells4 BK101.out) | ((with_reducible refine gate_callee (f := 24) rfl ?_); refine goesL_ (some 9) rfl rfl Tryz.func24 (by kernel_rfl) rfl #[.agg #[.int .i64 a0_0, .int .i64 a0_1, .int .i64 a0_2, .slice A0_3 l0_3.length c0_3]] rfl Z9.z5 ?_; (with_reducible refine (impl_transpose.calls k a0_0 a0_1 a0_2 _ _ l0_3 t104 t105 t106 t107 _ ?side1 ?side2 A4.out).mono ?_); (case side1 => exact Z9.z4); (case side2 => exact HC0_3.out); rintro e w11 ⟨v108, rfl, ho0, hb⟩; refine ⟨_, rfl, ?_⟩; have HO109 := tgk (Kd.R_lower ho0 (below_size Z9.z0)); replace BK101 := tgk (tgbb BK101 Z9.z1 hb); replace BK102 := tgk (tgbb BK102 Z9.z6 hb); replace HB := tgk (below_step Z9.z0 hb); (try clear hb); (try clear ho0); obtain ⟨hcz12_0, hcz12_1, hcz12_2, hcz12_3, hfz12_0, hfz12_1, hfz12_2, hfz12_3⟩ := cells4 BK102.out; obtain ⟨Ao13, co13, eo13⟩ := Kd.R_slice HO109.out; subst eo13))
  refine bodyPost_ret (results_ct rfl _ _ gb102 28 #[.int .i64 t104, .int .i64 t105, .int .i64 t106, .slice Ao13 t107.length co13] (0, 0) _ rfl (by (with_reducible repeat (first | refine blk_drewN ?_ _ | refine blk_drew ?_ | refine blk_alloc ?_ _)); exact tgp BK102.out) Tryz.underlying28 rfl (by kernel_rfl)) rfl ?_
  exact ⟨_, (by first | rfl | (simp [errW_none, errW_some] <;> rfl) | (simp [*, errW_none, errW_some] <;> rfl)), (by (with_reducible repeat (first | apply Kd.R_alloc | apply Kd.R_drewN | apply Kd.R_drew)); exact Kd.R_mono (Kd.R_far (p := ⟨gb102, 3, none⟩) (Kd.R_far (p := ⟨gb102, 2, none⟩) (Kd.R_far (p := ⟨gb102, 1, none⟩) (Kd.R_far (p := ⟨gb102, 0, none⟩) (Kd.R_types HO109.out BK102.out (by decide)) (fun _ hk => hk.2) (.int .i64 t104)) (fun _ hk => hk.2) (.int .i64 t105)) (fun _ hk => hk.2) (.int .i64 t106)) (fun _ hk => hk.2) (.slice Ao13 t107.length co13)) (fun _ hk => trivial)), Z9.z0⟩
 replace c3 := Bool.eq_false_iff.mpr c3
 subst c3
 rw [if_neg (show ¬ (false = true) by decide)] at H
 simp only [Option.some.injEq, Prod.mk.injEq] at H
 obtain ⟨rfl, rfl, rfl, rfl, rfl⟩ := H
 go_enter Tryz.func9, Tryz.ntmps9
 go_wp2_with (first | ((with_reducible refine gate_dst (N := 1) rfl ?_); refine box_event ?hg (N := 1) ?hd (cs := #[.int .i64 a0_0, .int .i64 a0_1, .int .i64 a0_2, .slice A0_3 l0_3.length c0_3]) (t := 28) ?hr ?_; (case hd => rfl); (case hg => rfl); (case hr => first | (go_simp; done) | (go_simp; rfl)); intro gb101 hg w14 hbox hb; have BK101 := tgk (hbox); have GW101 := tgk (show w.heap.size ≤ gb101 from (by rw [hg]; exact (below_size Z9.z3))); have GE101 := tgk (show w.heap.size ≤ gb101 from (by rw [hg]; exact (below_size Z9.z3))); replace HB := tgk (below_step Z9.z3 hb); clear hb hbox hg) | ((with_reducible refine gate_dst (N := 2) rfl ?_); refine box_event ?hg (N := 2) ?hd (cs := #[.int .i64 0, .int .i64 0, .int .i64 0, .slice none 0 0]) (t := 28) ?hr ?_; (case hd => rfl); (case hg => rfl); (case hr => first | (go_simp; done) | (go_simp; rfl)); intro gb102 hg w15 hbox hb; have BK102 := tgk (hbox); have GW102 := tgk (show w.heap.size ≤ gb102 from (by rw [hg]; exact (below_size Z9.z2))); have GE102 := tgk (show w.heap.size ≤ gb102 from (by rw [hg]; exact (below_size Z9.z2))); have NB101_102 := tgk (show gb101 ≠ gb102 from (by rw [hg]; exact Nat.ne_of_lt (tgbl BK101 Z9.z1))); have NB102_101 := tgk (show gb102 ≠ gb101 from (by rw [hg]; exact Nat.ne_of_gt (tgbl BK101 Z9.z1))); replace BK101 := tgk (tgbb BK101 Z9.z1 hb); replace HB := tgk (below_step Z9.z2 hb); clear hb hbox hg; have hnb16 := NB101_102.out; have hnc16 := NB102_101.out; obtain ⟨hcz17_0, hcz17_1, hcz17_2, hcz17_3, hfz17_0, hfz17_1, hfz17_2, hfz17_3⟩ := cells4 BK101.out) | ((with_reducible refine gate_callee (f := 22) rfl ?_); refine goesL_ (some 5) rfl rfl Tryz.func22 (by kernel_rfl) rfl #[.agg #[.int .i64 a0_0, .int .i64 a0_1, .int .i64 a0_2, .slice A0_3 l0_3.length c0_3]] rfl Z9.z5 ?_; (with_reducible refine (impl_ValidMatrix.calls k a0_0 a0_1 a0_2 _ _ l0_3 false _ ?side1 ?side2 A2.out).mono ?_); (case side1 => exact Z9.z4); (case side2 => exact HC0_3.out); rintro e w18 ⟨rfl, hb⟩; refine ⟨_, rfl, ?_⟩; replace BK101 := tgk (tgbb BK101 Z9.z1 hb); replace BK102 := tgk (tgbb BK102 Z9.z6 hb); replace HB := tgk (below_step Z9.z0 hb); (try clear hb); obtain ⟨hcz19_0, hcz19_1, hcz19_2, hcz19_3, hfz19_0, hfz19_1, hfz19_2, hfz19_3⟩ := cells4 BK102.out))
 refine bodyPost_ret (results_ct rfl _ _ gb102 28 #[.int .i64 0, .int .i64 0, .int .i64 0, .slice none 0 0] (0, 0) _ rfl (by (with_reducible repeat (first | refine blk_drewN ?_ _ | refine blk_drew ?_ | refine blk_alloc ?_ _)); exact tgp BK102.out) Tryz.underlying28 rfl (by kernel_rfl)) rfl ?_
 exact ⟨_, (by first | rfl | (simp [errW_none, errW_some] <;> rfl) | (simp [*, errW_none, errW_some] <;> rfl)), (by first | exact Kd.R_nil _ _ _ _ _ | exact Kd.N_nil _ _ _ _ _ | exact Kd.V_nil _ _ _ _ _ | exact Kd.Q_nil _ _ _ _ _ | exact Kd.S_nil _ _ _ _ _), Z9.z0⟩
/-! ### impl_Decimal: function 29: ours -/
theorem var_below {P : Program} {n : String} {cs : Array Value} {w w' : World} (h : w.var? P n = some cs) (hb : Below w.heap.size w w') : w'.var? P n = some cs := by
  unfold World.var? at h ⊢
  obtain ⟨g, hg, h⟩ := Option.bind_eq_some_iff.mp h
  rw [hg, Option.bind_some]
  cases hc : w.heap[g]? with
  | none => rw [hc] at h; cases h
  | some o =>
    have hlt : g < w.heap.size := (Array.getElem?_eq_some_iff.mp hc).1
    rw [hb.block g hlt]
    exact h
def LaidP (w : World) : Prop := Lib.TabIs Tryz.prog w "internal/strconv.uint64pow10" .u64 Lib.pow10Tab
theorem LaidP.below {w w' : World} (h : LaidP w) (hb : Below w.heap.size w w') : LaidP w' := var_below h hb
theorem grow_below (w : World) (k : Nat) (os : Array Obj) : Below w.heap.size w (Sort.grow (w.drewN k) os) :=
  ⟨rfl, rfl, rfl, by simp [Sort.grow, World.drewN], fun i hi => by simp only [Sort.grow, World.drewN]; rw [Array.getElem?_append_left hi]⟩
def impl_Decimal.f (a0 : Int) : Option ByteArray := if -9223372036854775808 ≤ a0 ∧ a0 ≤ 9223372036854775807 then some ⟨(Lib.itoa a0).toArray⟩ else none
set_option maxHeartbeats 4000000 in
set_option maxRecDepth 100000 in
theorem impl_Decimal.calls (a0 : Int) (r : ByteArray) (w : World) (hlP_ : LaidP w) (h : impl_Decimal.f a0 = some r) :
  Calls Tryz.prog 29 #[.int .i64 a0] w fun e w' => e = .returned (.string r) ∧ Below w.heap.size w w' := by
 unfold impl_Decimal.f at h
 by_cases hb : -9223372036854775808 ≤ a0 ∧ a0 ≤ 9223372036854775807
 ·rw [if_pos hb] at h
  have hR := Aside0.mk (Option.some.inj h)
  have hC := Tryz.strconv_FormatInt_10 a0 hb.1 hb.2 w hlP_
  clear h hb
  go_enter Tryz.func29, Tryz.ntmps29
  go_wp2_with (go_at_call 60; refine hC.mono ?_; rintro e w' ⟨rfl, k, os, rfl⟩)
  go_ret
  obtain rfl := hR.out
  exact ⟨rfl, grow_below w k os⟩
 rw [if_neg hb] at h; cases h
/-! ### impl_ListText_1: function 82: ours -/
def noValue (x : Int) : Bool := !(decide (-1000000000000 ≤ x) && decide (x ≤ 1000000000000))
set_option maxHeartbeats 4000000 in
set_option maxRecDepth 100000 in
theorem impl_ListText_1.ask (w : World) : AnsI 82 #[] noValue w := fun W x _ => by
  by_cases h1 : -1000000000000 ≤ x
  · have g1 := Aside0.mk h1
    have b1 : decide (-1000000000000 ≤ x) = true := decide_eq_true h1
    clear h1
    by_cases h2 : x ≤ 1000000000000
    · have g2 := Aside0.mk h2
      have b2 : decide (x ≤ 1000000000000) = true := decide_eq_true h2
      clear h2
      go_enter Tryz.func82, Tryz.ntmps82
      go_wp2
      go_ret
      exact ⟨by unfold noValue; first | rfl | (simp [g1.out, g2.out]; done) | (simp [*]; done), 0, rfl⟩
    · have g2 := Aside0.mk h2
      have b2 : decide (x ≤ 1000000000000) = false := decide_eq_false h2
      clear h2
      go_enter Tryz.func82, Tryz.ntmps82
      go_wp2
      go_ret
      exact ⟨by unfold noValue; first | rfl | (simp [g1.out, g2.out]; done) | (simp [*]; done), 0, rfl⟩
  · have g1 := Aside0.mk h1
    have b1 : decide (-1000000000000 ≤ x) = false := decide_eq_false h1
    clear h1
    go_enter Tryz.func82, Tryz.ntmps82
    go_wp2
    go_ret
    exact ⟨by unfold noValue; first | rfl | (simp [g1.out]; done) | (simp [*]; done), 0, rfl⟩
def impl_ListText_1.any.f (l0 : List Int) : Option Bool := some (l0.any noValue)
theorem impl_ListText_1.any.calls (A0 : Option Addr) (c0 : Nat) (l0 : List Int) (r : Bool) (w : World) (hr0 : Kd.C (Kd.int .i64) w A0 l0.length l0) (hc0 : l0.length ≤ c0) (h : impl_ListText_1.any.f l0 = some r) :
    Calls Tryz.prog 66 #[.slice A0 l0.length c0, .func (.func 82) #[] #[]] w fun e w' => e = .returned (.bool r) ∧ Below w.heap.size w w' := by
  refine (slices_ContainsFunc_int64_int64.tells 82 #[] (enters_of Tryz.func82 (by kernel_rfl) rfl) noValue A0 c0 l0 w (impl_ListText_1.ask w) hr0 hr0.2.1).mono ?_
  rintro e w' ⟨rfl, q, rfl⟩
  have hf := Option.some.inj h
  exact ⟨by rw [← hf], pw_below_drewN (Below.refl _ w) q⟩
/-! ### strings_Join: function 84: ours -/
def strings_Join.f (l0 : List ByteArray) (a1 : ByteArray) : Option ByteArray := if l0.length ≤ 1048576 ∧ (Lib.join (l0.map (·.data.toList)) a1.data.toList).length ≤ 140737488355328 then some ⟨(Lib.join (l0.map (·.data.toList)) a1.data.toList).toArray⟩ else none
theorem strings_Join.calls (A0 : Option Addr) (c0 : Nat) (l0 : List ByteArray) (a1 : ByteArray) (r : ByteArray) (w : World) (hr0 : Kd.C Kd.string w A0 l0.length l0) (hc0 : l0.length ≤ c0) (h : strings_Join.f l0 a1 = some r) :
  Calls Tryz.prog 84 #[.slice A0 l0.length c0, .string a1] w fun e w' => e = .returned (.string r) ∧ Below w.heap.size w w' := by
 unfold strings_Join.f at h
 by_cases hb : l0.length ≤ 1048576 ∧ (Lib.join (l0.map (·.data.toList)) a1.data.toList).length ≤ 140737488355328
 ·rw [if_pos hb] at h
  obtain rfl := Option.some.inj h
  cases l0 with
  | nil =>
   refine (Tryz.strings_Join_none A0 c0 a1 w).mono ?_
   rintro e w' ⟨rfl, rfl⟩
   exact ⟨rfl, Below.refl _ _⟩
  | cons x xs =>
   obtain ⟨ad, rfl, hcell⟩ := hr0.2.2 (by simp)
   have hc : ∀ (j : Nat) y, (x :: xs)[j]? = some y → w.cell? (ad.add j) = some (.string y) := fun j y hj => by
    obtain ⟨c, hl, hK, hu⟩ := hcell j y hj
    have hK' : c = [Value.string y] := hK
    subst hK'
    have := hu 0 _ rfl
    simpa [Kd.string, Kd.scalar] using this
   have h0 := hc 0 x rfl
   obtain ⟨bk, o, sp⟩ := ad
   have hsp : sp = none := by
    cases sp with
    | none => rfl
    | some q =>
     exfalso
     simp only [Addr.add, World.cell?, if_true] at h0
     cases hh : w.heap[bk]? with
     | none => rw [hh] at h0; cases h0
     | some ob => cases ob <;> (rw [hh] at h0; simp at h0)
   subst hsp
   have hbk : bk < w.heap.size := World.block_lt_of_cell? w _ h0
   refine (Tryz.strings_Join bk o c0 (x :: xs) a1 w (fun j y hj => ?_) hbk (by have := hb.1; omega) hc0 hb.2).mono ?_
   ·have := hc j y hj
    by_cases hj0 : j = 0
    ·subst hj0; simpa [Addr.add] using this
    simpa [Addr.add, hj0] using this
   rintro e w' ⟨rfl, hbel⟩
   exact ⟨rfl, hbel⟩
 rw [if_neg hb] at h; cases h
/-! ### impl_ListText: function 62 -/
mutual
def impl_ListText.j0 : Nat → List Int → Bool → Option (ByteArray)
  | 0, _, _ => none
  | k + 1, x0, x12 => if x12 = true then (some (⟨#[]⟩ : ByteArray)) else (if (x0.length : Int) = 0 then (some (⟨#[45]⟩ : ByteArray)) else (impl_ListText.l0 k ([] : List ByteArray) x0 (x0.length : Int) 0))
def impl_ListText.l0 : Nat → List ByteArray → List Int → Int → Int → Option (ByteArray)
  | 0, _, _, _, _ => none
  | k + 1, x3, x16, x17, x18 => if x18 < x17 then (if 0 ≤ x18 then (if x18 < (x16.length : Int) then ((impl_Decimal.f (rd x16 x18)).bind fun t103 => (if x3.length < 8796093022208 then (impl_ListText.l0 k (x3 ++ [t103]) x16 x17 (wrap64 (x18 + 1))) else (none))) else (none)) else (none)) else ((strings_Join.f x3 (⟨#[44]⟩ : ByteArray)).bind fun t107 => (some t107))
end
def impl_ListText.f (k : Nat) (l0 : List Int) : Option (ByteArray) := if (l0.length : Int) > 64 then (impl_ListText.j0 k l0 true) else ((impl_ListText_1.any.f l0).bind fun t101 => (impl_ListText.j0 k l0 t101))
theorem Z62.z3 {P : Prop} (h : P := by (try simp only [List.map_toArray, List.map_cons, List.map_nil]); first | done | rfl | (simp only [List.length_drop, List.length_take]; rfl)) : P := h
theorem Z62.z2 {P : Prop} (h : P := by first | rfl | (simp [errW_none, errW_some] <;> rfl) | (simp [*, errW_none, errW_some] <;> rfl)) : P := h
theorem Z62.z1 {P : Prop} (h : P := by exact tgR HO_3.out) : P := h
theorem Z62.z0 {P : Prop} (h : P := by repeat (first | (with_reducible first | exact HB.out | apply below_alloc | apply pw_below_drewN | apply below_drew1) | exact HB.out)) : P := h
set_option maxHeartbeats 8000000 in
set_option maxRecDepth 100000 in
theorem impl_ListText.calls (k : Nat) (A0 : Option Addr) (c0 : Nat) (l0 : List Int) (r : ByteArray) (w : World) (hr0 : Kd.C (Kd.int .i64) w A0 l0.length l0) (hc0 : l0.length ≤ c0) (hlP_ : LaidP w) (h : impl_ListText.f k l0 = some r) :
  Calls Tryz.prog 62 #[.slice A0 l0.length c0] w fun e w' => e = .returned (.string r) ∧ Below w.heap.size w w' := by
 have HR0 := Aside0.mk hr0
 have HC0 := Aside0.mk hc0
 clear hr0 hc0
 have HB := Aside0.mk (Below.refl w.heap.size w)
 have H : (if (l0.length : Int) > 64 then (impl_ListText.j0 k l0 true) else ((impl_ListText_1.any.f l0).bind fun t101 => (impl_ListText.j0 k l0 t101))) = some r := h
 clear h
 have HC2 := Aside0.mk H
 clear H
 go_enter Tryz.func62, Tryz.ntmps62
 go_upto_region 1 with (fail)
 go_cut [12] (fun v12 wc => ∃ (kq : Nat) (x12_1 : Bool), v12 = .bool x12_1 ∧ Aside0 (impl_ListText.j0 kq l0 x12_1 = some r) ∧ Aside0 (kq ≤ k) ∧ Aside0 (Below w.heap.size w wc))
 case first =>
  have H := HC2.out
  clear HC2
  by_cases c3 : (l0.length : Int) > 64
  ·rw [if_pos c3] at H
   have c3b0 : decide (64 < (l0.length : Int)) = true := decide_eq_true c3
   have c3b1 : decide (64 < l0.length) = true := decide_eq_true (by omega)
   clear c3
   (first | rw [c3b0] | (simp only [i64_w, i32_w]; rw [c3b0]) | skip)
   have H' := Aside0.mk H
   clear H
   go_wp2
   go_meet
   case rel => exact ⟨_, (true), (by first | rfl | (simp; done) | (simp [*]; done)), H', ⟨(by first | omega | exact Nat.le_refl _)⟩, ⟨Z62.z0⟩⟩
  rw [if_neg c3] at H
  have c3b0 : decide (64 < (l0.length : Int)) = false := decide_eq_false c3
  have c3b1 : decide (64 < l0.length) = false := decide_eq_false (by omega)
  clear c3
  (first | rw [c3b0] | (simp only [i64_w, i32_w]; rw [c3b0]) | skip)
  replace H := Option.bind_eq_some_iff.mp H
  obtain ⟨t101, A40, H⟩ := H
  replace H : (impl_ListText.j0 k l0 t101) = some r := H
  have A4 := Aside0.mk A40
  clear A40
  have H' := Aside0.mk H
  clear H
  go_wp2_with (first | (go_at_call 66; (with_reducible refine (impl_ListText_1.any.calls _ _ l0 t101 _ ?side1 ?side2 A4.out).mono ?_); (case side1 => exact (by repeat (first | exact (Kd.C_below HR0.out HB.out) | (with_reducible refine Kd.C_alloc ?_ _) | (with_reducible refine Kd.C_drewN ?_ _) | (with_reducible refine Kd.C_drew ?_)))); (case side2 => exact HC0.out); rintro e w5 ⟨rfl, hb⟩; replace HB := Aside0.mk (below_step Z62.z0 hb); (try clear hb); (try clear hi)))
  go_meet
  case rel => exact ⟨_, (t101), (by first | rfl | (simp; done) | (simp [*]; done)), H', ⟨(by first | omega | exact Nat.le_refl _)⟩, ⟨Z62.z0⟩⟩
 case rest =>
  clear HC2
  try clear p2
  try clear c3
  try clear c3b0
  try clear c3b1
  obtain ⟨kq, x12_1, rfl, HA, HJ1, HB⟩ := hcut
  cases kq with
  | zero => exact absurd HA.out (by simp [impl_ListText.j0])
  | succ kj1 =>
   have H := HA.out
   clear HA
   simp only [impl_ListText.j0] at H
   by_cases c6 : x12_1 = true
   ·subst c6
    rw [if_pos rfl] at H
    obtain rfl := Option.some.inj H
    go_wp2
    go_ret
    exact ⟨Z62.z2, Z62.z0⟩
   replace c6 := Bool.eq_false_iff.mpr c6
   subst c6
   rw [if_neg (show ¬ (false = true) by decide)] at H
   by_cases c7 : (l0.length : Int) = 0
   ·rw [if_pos c7] at H
    obtain ⟨c7b0, c7b1⟩ := tge c7
    clear c7
    obtain rfl := Option.some.inj H
    go_wp2
    go_ret
    exact ⟨Z62.z2, Z62.z0⟩
   rw [if_neg c7] at H
   obtain ⟨c7b0, c7b1⟩ := tgn c7
   have c7b2 : ¬ (l0 = []) := fun h_ => c7 (by rw [h_]; rfl)
   have H' := Aside0.mk H
   clear H
   go_wp2
   go_loopg [3, 18] kj1 (fun kq v3 v18 w' => ∃ (x3_2 : List ByteArray) (x18_2 : Int), v18 = .int .i64 x18_2 ∧ Aside0 (impl_ListText.l0 kq x3_2 l0 (l0.length : Int) x18_2 = some r) ∧ Aside0 (kq ≤ kj1) ∧ Aside0 (Kd.R Kd.string 9 w' w.heap.size (fun _ => True) v3 x3_2) ∧ Aside0 (Below w.heap.size w w'))
   case atStart => exact ⟨(([] : List ByteArray)), (0), (by first | rfl | (simp; done) | (simp [*]; done)), H', ⟨Nat.le_refl _⟩, ⟨(by first | exact Kd.R_nil _ _ _ _ _ | exact Kd.N_nil _ _ _ _ _ | exact Kd.V_nil _ _ _ _ _ | exact Kd.Q_nil _ _ _ _ _ | exact Kd.S_nil _ _ _ _ _)⟩, ⟨Z62.z0⟩⟩
   case round =>
    clear H'
    try clear p2
    try clear c3
    try clear c3b0
    try clear c3b1
    try clear c6
    try clear c7
    try clear c7b0
    try clear c7b1
    try clear c7b2
    try clear p2
    obtain ⟨x3_2, x18_2, rfl, HA, HK2, HO_3, HB⟩ := hrel
    cases gk with
    | zero => exact absurd HA.out (by simp [impl_ListText.l0])
    | succ k2 =>
     have H := HA.out
     clear HA
     simp only [impl_ListText.l0] at H
     by_cases c8 : x18_2 < (l0.length : Int)
     ·rw [if_pos c8] at H
      have c8b0 := decide_eq_true c8; clear c8
      by_cases c9 : 0 ≤ x18_2
      ·rw [if_pos c9] at H
       have c9b0 := decide_eq_true c9; clear c9
       by_cases c10 : x18_2 < (l0.length : Int)
       ·rw [if_pos c10] at H
        have c10b0 := decide_eq_true c10; clear c10; replace H := Option.bind_eq_some_iff.mp H; obtain ⟨t103, A110, H⟩ := H
        (try dsimp only at H)
        have A11 := Aside0.mk A110; clear A110
        by_cases c12 : x3_2.length < 8796093022208
        ·rw [if_pos c12] at H
         have LMc12 := Aside0.mk c12; clear c12; obtain ⟨y104, hy104⟩ : ∃ y_ : List ByteArray, y_ = (x3_2 ++ [t103]) := ⟨_, rfl⟩; replace H : (impl_ListText.l0 k2 y104 l0 (l0.length : Int) (wrap64 (x18_2 + 1))) = some r := by first | (rw [hy104]; with_reducible exact H) | (have H2_ := (Option.bind_some _ _).symm.trans H; rw [hy104]; with_reducible exact H2_) | (have H2_ := (Option.bind_some _ _).symm.trans H; with_reducible exact H2_) | with_reducible exact H | (rw [hy104]; exact H) | exact H
         have Ny104 := Aside0.mk hy104; clear hy104; have H' := Aside0.mk H; clear H; have p102 : 0 ≤ (x18_2 : Int) := of_decide_eq_true (by first | (with_reducible assumption) | assumption); have q102 : x18_2 < (l0.length : Int) := of_decide_eq_true (by first | (with_reducible assumption) | assumption); obtain ⟨ad102, e102, hx102_0⟩ := Kd.at_int HR0.out x18_2 p102 q102; cases e102; replace hx102_0 := (HB.out.cell (World.block_lt_of_cell? w _ hx102_0)).trans hx102_0; replace p102 := eq_true p102; replace q102 := eq_true q102
         go_wp2_with (first | ((with_reducible refine gate_callee (f := 29) rfl ?_); refine goesL_ (some 24) rfl rfl Tryz.func29 (by kernel_rfl) rfl #[.int .i64 (rd l0 x18_2)] rfl Z62.z3 ?_; (with_reducible refine (impl_Decimal.calls (rd l0 x18_2) t103 _ ?side1 A11.out).mono ?_); (case side1 => exact (by exact LaidP.below hlP_ Z62.z0)); rintro e w13 ⟨rfl, hb⟩; refine ⟨_, rfl, ?_⟩; replace HO_3 := Aside0.mk (Kd.R_below Z62.z1 hb); replace HB := Aside0.mk (below_step Z62.z0 hb); (try clear hb); (try clear hi)) | ((with_reducible refine gate_builtin (b := .append) (xs := #[.tmp 22, .tmp 25]) rfl ?_); at_builtin; refine Kd.R_append Kd.string (w0 := w) w.heap.size rfl (.tmp 22) (.tmp 25) 80 9 (.string ⟨#[]⟩) 16 rfl Tryz.underlying80 info9 rfl (by decide) (by omega) u3 x3_2 t103 [.string t103] (fun _ => True) (fun _ => False) rfl rfl ?aP (fun _ hk => hk.elim) ?aF ?aO ?aB ?aS ?aL ?_; (case aP => exact rfl); (case aB => exact Z62.z0); (case aF => exact (fun _ _ => trivial)); (case aO => exact Z62.z1); (case aS => exact (below_size Z62.z0)); (case aL => have := LMc12.out; omega); intro v105 w14 ho hb hg hat; rw [← Ny104.out] at ho; have HO106 := Aside0.mk (ho); replace HB := Aside0.mk (hb); clear HO_3; clear ho hb hg hat))
         go_roundg k2
         case measure => have := HJ1.out; have := HK2.out; omega
         case rel => exact ⟨(y104), (wrap64 (x18_2 + 1)), (by first | rfl | (simp; done) | (simp [*]; done)), H', ⟨(by have := HJ1.out; have := HK2.out; omega)⟩, ⟨(tgR HO106.out)⟩, ⟨Z62.z0⟩⟩
        rw [if_neg c12] at H; exact absurd H (by simp)
       rw [if_neg c10] at H; exact absurd H (by simp)
      rw [if_neg c9] at H; exact absurd H (by simp)
     rw [if_neg c8] at H
     have c8b0 := decide_eq_false c8
     clear c8
     replace H := Option.bind_eq_some_iff.mp H
     obtain ⟨t107, A150, H⟩ := H
     (try dsimp only at H)
     have A15 := Aside0.mk A150
     clear A150
     obtain rfl := Option.some.inj H
     obtain ⟨Ao16, co16, eo16⟩ := Kd.R_slice HO_3.out
     subst eo16
     go_wp2_with (first | ((with_reducible refine gate_callee (f := 84) rfl ?_); refine goesL_ (some 29) rfl rfl Tryz.func84 (by kernel_rfl) rfl #[.slice Ao16 x3_2.length co16, .string (⟨#[44]⟩ : ByteArray)] rfl Z62.z3 ?_; (with_reducible refine (strings_Join.calls _ _ x3_2 (⟨#[44]⟩ : ByteArray) t107 _ ?side1 ?side2 A15.out).mono ?_); (case side1 => exact (by repeat (first | exact (Kd.R_reads' HO_3.out).2.2 | (with_reducible refine Kd.C_alloc ?_ _) | (with_reducible refine Kd.C_drewN ?_ _) | (with_reducible refine Kd.C_drew ?_)))); (case side2 => exact (Kd.R_reads' HO_3.out).2.1); rintro e w17 ⟨rfl, hb⟩; refine ⟨_, rfl, ?_⟩; replace HO_3 := Aside0.mk (Kd.R_below Z62.z1 hb); replace HB := Aside0.mk (below_step Z62.z0 hb); (try clear hb); (try clear hi)))
     go_ret
     exact ⟨Z62.z2, Z62.z0⟩
/-! ### impl_slashed: function 30: ours -/
def impl_slashed.l0 : Nat → List UInt8 → List (List Int) → Int → Option ByteArray
  | 0, _, _, _ => none
  | k + 1, acc, x6, x8 => if x8 < (x6.length : Int) then (if 0 ≤ x8 then ((impl_ListText.f k (rd_L2 x6 x8)).bind fun t => (if acc.length + (t.size + 1) ≤ 140737488355328 then (impl_slashed.l0 k (acc ++ 47 :: t.data.toList) x6 (wrap64 (x8 + 1))) else (none))) else (none)) else (some ⟨acc.toArray⟩)
def impl_slashed.f (k : Nat) (l0 : List (List Int)) : Option ByteArray := impl_slashed.l0 k [] l0 0
theorem impl_slashed.lays : Lays.n166 Tryz.prog Tryz.lays156_ren := { mixed := Tryz.lays156.mixed, f166 := Tryz.lays156.f166, f240 := Tryz.lays156.f240, f276 := Tryz.lays156.f276, t0 := Tryz.lays156.t0, a0 := Tryz.lays156.a0, z0 := Tryz.lays156.z0, v0 := Tryz.lays156.v0, t3 := Tryz.lays156.t3, a3 := Tryz.lays156.a3, z3 := Tryz.lays156.z3, v3 := Tryz.lays156.v3, t4 := Tryz.lays156.t4, a4 := Tryz.lays156.a4, z4 := Tryz.lays156.z4, v4 := Tryz.lays156.v4, t9 := Tryz.lays156.t9, a9 := Tryz.lays156.a9, z9 := Tryz.lays156.z9, v9 := Tryz.lays156.v9, t20 := Tryz.lays156.t20, a20 := Tryz.lays156.a20, z20 := Tryz.lays156.z20, v20 := Tryz.lays156.v20, t37 := Tryz.lays156.t37, a37 := Tryz.lays156.a37, z37 := Tryz.lays156.z37, v37 := Tryz.lays156.v37, t70 := Tryz.lays156.t70, a70 := Tryz.lays156.a70, z70 := Tryz.lays156.z70, v70 := Tryz.lays156.v70, t72 := Tryz.lays156.t72, a72 := Tryz.lays156.a72, z72 := Tryz.lays156.z72, v72 := Tryz.lays156.v72, t75 := Tryz.lays156.t75, a75 := Tryz.lays156.a75, z75 := Tryz.lays156.z75, v75 := Tryz.lays156.v75, t164 := Tryz.lays156.t164, a164 := Tryz.lays156.a164, z164 := Tryz.lays156.z164, v164 := Tryz.lays156.v164 }
theorem impl_slashed.lays9 : Lays.n169 Tryz.prog Tryz.lays156_ren := { mixed := Tryz.lays156.mixed, f169 := Tryz.lays156.f169, t0 := Tryz.lays156.t0, a0 := Tryz.lays156.a0, z0 := Tryz.lays156.z0, v0 := Tryz.lays156.v0, t3 := Tryz.lays156.t3, a3 := Tryz.lays156.a3, z3 := Tryz.lays156.z3, v3 := Tryz.lays156.v3, t9 := Tryz.lays156.t9, a9 := Tryz.lays156.a9, z9 := Tryz.lays156.z9, v9 := Tryz.lays156.v9, t37 := Tryz.lays156.t37, a37 := Tryz.lays156.a37, z37 := Tryz.lays156.z37, v37 := Tryz.lays156.v37, t70 := Tryz.lays156.t70, a70 := Tryz.lays156.a70, z70 := Tryz.lays156.z70, v70 := Tryz.lays156.v70, t72 := Tryz.lays156.t72, a72 := Tryz.lays156.a72, z72 := Tryz.lays156.z72, v72 := Tryz.lays156.v72, t127 := Tryz.lays156.t127, a127 := Tryz.lays156.a127, z127 := Tryz.lays156.z127, v127 := Tryz.lays156.v127 }
theorem impl_slashed.text (B b : Nat) (l : List UInt8) (w : World) (h : Lib.IsBuilderF 93 5 B b (Lib.byteCells l) w) (hBw : B ≤ w.heap.size) :
    Calls Tryz.prog 63 #[.pointer (some ⟨b, 0, none⟩)] w fun e w' => e = .returned (.string ⟨l.toArray⟩) ∧ (Lib.IsBuilderF 93 5 B b (Lib.byteCells l) w' ∧ Below B w w' ∧ Lib.OthersKept 5 (some b) w w') :=
  Any.Builder_String_any_k impl_slashed.lays9 Tryz.Builder_Extra_156 B b l w h hBw
theorem impl_slashed.write (B b : Nat) (bs : List Value) (s : ByteArray) (w : World) (h : Lib.IsBuilderF 93 5 B b bs w) (hlen : bs.length + s.size ≤ 140737488355328) (hBw : B ≤ w.heap.size) :
    Calls Tryz.prog 61 #[.pointer (some ⟨b, 0, none⟩), .string s] w fun e w' => e = .returned (.tuple #[.int .i64 s.size, .nilIface]) ∧ (Lib.BuilderAtF 93 5 B b (.pointer (some ⟨b, 0, none⟩)) (bs ++ Lib.strCells s) w' ∧ Below B w w' ∧ Lib.OthersKept 5 (some b) w w') :=
  Any.Builder_WriteString_k impl_slashed.lays Tryz.Builder_Extra_156 B b bs s w h hlen hBw
theorem impl_slashed.kept {T e : TypeId} {B b : Nat} {p : Value} {bs : List Value} {w w' : World} (h : Lib.BuilderAtF T e B b p bs w) (hb : Below w.heap.size w w') : Lib.BuilderAtF T e B b p bs w' := by
  obtain ⟨hB, v, hv, hown, hne⟩ := h
  refine ⟨hB, v, (hb.block b (Array.getElem?_eq_some_iff.mp hv).1).trans hv, ?_, hne⟩
  refine ⟨hown.1, ?_⟩
  rcases hown.2 with hn | ⟨g, cap, cur, fz, h1, h2, h3, rest⟩
  · exact .inl hn
  · exact .inr ⟨g, cap, cur, fz, h1, h2, (hb.block g (Array.getElem?_eq_some_iff.mp h3).1).trans h3, rest⟩
theorem impl_slashed.keptI {T e : TypeId} {B b : Nat} {bs : List Value} {w w' : World} (h : Lib.IsBuilderF T e B b bs w) (hb : Below w.heap.size w w') : Lib.IsBuilderF T e B b bs w' :=
  h.elim (fun x => .inl (impl_slashed.kept x hb)) (fun x => .inr (impl_slashed.kept x hb))
theorem impl_slashed.cells_app (acc : List UInt8) (t : ByteArray) : Lib.byteCells acc ++ Lib.strCells ((⟨#[47]⟩ : ByteArray) ++ t) = Lib.byteCells (acc ++ 47 :: t.data.toList) := by
  have e : ((⟨#[47]⟩ : ByteArray) ++ t).data.toList = 47 :: t.data.toList := by simp
  rw [Lib.strCells, e]
  simp [Lib.byteCells]
theorem Z30.z0 {P : Prop} (h : P := by repeat (first | (with_reducible first | exact HB.out | apply below_alloc | apply pw_below_drewN | apply below_drew1) | exact HB.out)) : P := h
set_option maxHeartbeats 4000000 in
set_option maxRecDepth 100000 in
theorem impl_slashed.calls (k : Nat) (A0 : Option Addr) (c0 : Nat) (l0 : List (List Int)) (r : ByteArray) (w : World) (hr0 : Kd.C (Kd.slice 2 (Kd.int .i64)) w A0 l0.length l0) (hc0 : l0.length ≤ c0) (hlP_ : LaidP w) (h : impl_slashed.f k l0 = some r) :
  Calls Tryz.prog 30 #[.slice A0 l0.length c0] w fun e w' => e = .returned (.string r) ∧ Below w.heap.size w w' := by
 have HR0 := Aside0.mk hr0
 have HC0 := Aside0.mk hc0
 clear hr0 hc0
 have HB := Aside0.mk (Below.refl w.heap.size w)
 have H' := Aside0.mk (show impl_slashed.l0 k [] l0 0 = some r from h)
 clear h
 go_enter Tryz.func30, Tryz.ntmps30
 go_wp2_with (first | ((with_reducible refine gate_dst (N := 3) rfl ?_); refine box_event ?hg (N := 3) ?hd (cs := #[.pointer none, .slice none 0 0]) (t := 93) ?hr ?_; (case hd => rfl); (case hg => rfl); (case hr => first | (go_simp; done) | (go_simp; rfl)); intro gb hg w4 hbox hb; have n0_ := Aside0.mk (below_step Z30.z0 hb); have HBD := Aside0.mk (show Lib.IsBuilderF 93 5 w.heap.size gb (Lib.byteCells []) w4 from .inl ⟨(by rw [hg]; exact (below_size Z30.z0)), .slice none 0 0, hbox, World.ownsRowF_nil _ _ _ _, (by simp [Value.ownBlock])⟩); clear HB; have HB := n0_; clear n0_; clear hg hbox hb))
 go_loopg [8] k (fun kq v8 w' => ∃ (x8 : Int) (acc : List UInt8), v8 = .int .i64 x8 ∧ Aside0 (impl_slashed.l0 kq acc l0 x8 = some r) ∧ Aside0 (kq ≤ k) ∧ Aside0 (Lib.IsBuilderF 93 5 w.heap.size gb (Lib.byteCells acc) w') ∧ Aside0 (Below w.heap.size w w'))
 case atStart => exact ⟨0, [], rfl, H', ⟨Nat.le_refl _⟩, HBD, HB⟩
 case round =>
  clear H' HBD HB
  obtain ⟨x8, acc, rfl, HA, HK1, HBD, HB⟩ := hrel
  cases gk with
  | zero => exact absurd HA.out (by simp [impl_slashed.l0])
  | succ k1 =>
   have H := HA.out
   clear HA
   simp only [impl_slashed.l0] at H
   by_cases c1 : x8 < (l0.length : Int)
   ·rw [if_pos c1] at H
    have c1b0 := decide_eq_true c1
    by_cases c2 : 0 ≤ x8
    ·rw [if_pos c2] at H
     have c2b0 := decide_eq_true c2
     obtain ⟨t, AT0, H⟩ := Option.bind_eq_some_iff.mp H
     have AT := Aside0.mk AT0
     clear AT0
     by_cases c3 : acc.length + (t.size + 1) ≤ 140737488355328
     ·rw [if_pos c3] at H
      have H' := Aside0.mk H; clear H; have HS := Aside0.mk c3; clear c3; obtain ⟨ad, A1, cp, ea, hx, hl, hi⟩ := at_L2 (Kd.C_below HR0.out HB.out) x8 c2 c1; cases ea; have HI := Aside0.mk hi; have HL := Aside0.mk hl; clear hi hl; replace c1 := eq_true c1; replace c2 := eq_true c2; have cs : 1 + t.size ≤ 9223372036854775807 := by have := HS.out; omega
      have ct := eq_true cs; have cu := eq_false (Nat.not_lt.2 cs); clear cs
      go_wp2_with (first | (go_at_call 62; refine (impl_ListText.calls k1 _ _ (rd_L2 l0 x8) t _ HI.out HL.out (LaidP.below hlP_ HB.out) AT.out).mono ?_; rintro e w5 ⟨rfl, hb⟩; replace HBD := Aside0.mk (impl_slashed.keptI HBD.out hb); replace HB := Aside0.mk (below_step HB.out hb); clear hb) | (go_at_call 61; refine (impl_slashed.write w.heap.size gb (Lib.byteCells acc) _ _ HBD.out (by have h_ := HS.out; have e_ : ((⟨#[47]⟩ : ByteArray) ++ t).size = 1 + t.size := (by rw [ByteArray.size_append]; rfl); rw [e_]; simp only [Lib.byteCells, List.length_map]; omega) (below_size HB.out)).mono ?_; rintro e w6 ⟨rfl, hba, hb, _⟩; replace HBD := Aside0.mk (show Lib.IsBuilderF 93 5 w.heap.size gb (Lib.byteCells (acc ++ 47 :: t.data.toList)) w6 from (impl_slashed.cells_app acc t) ▸ Or.inr hba); replace HB := Aside0.mk (HB.out.trans hb); clear hba hb))
      go_roundg k1
      case measure => have := HK1.out; omega
      case rel => exact ⟨wrap64 (x8 + 1), acc ++ 47 :: t.data.toList, (by first | rfl | (simp; done) | (simp [*]; done)), H', ⟨(by have := HK1.out; omega)⟩, HBD, HB⟩
     rw [if_neg c3] at H; cases H
    rw [if_neg c2] at H; cases H
   rw [if_neg c1] at H
   have c1b0 := decide_eq_false c1
   clear c1
   obtain rfl := Option.some.inj H
   go_wp2_with (go_at_call 63; refine (impl_slashed.text w.heap.size gb acc _ HBD.out (below_size HB.out)).mono ?_; rintro e w7 ⟨rfl, _, hb, _⟩; have n1_ := Aside0.mk (HB.out.trans hb); clear HB hb; have HB := n1_; clear n1_)
   go_ret
   exact ⟨rfl, HB.out⟩
/-! ### impl_MatrixText: function 11 -/
def impl_MatrixText.f (k : Nat) (a0_0 : Int) (a0_1 : Int) (a0_2 : Int) (l0_3 : List Int) : Option (ByteArray) := (impl_ValidMatrix.f k a0_0 a0_1 a0_2 l0_3).bind fun t102 => (if t102 = true then ((impl_Decimal.f a0_0).bind fun t103 => (if t103.size + 1 ≤ 9223372036854775807 then ((impl_Decimal.f a0_1).bind fun t104 => (if (t103 ++ (⟨#[32]⟩ : ByteArray)).size + t104.size ≤ 9223372036854775807 then (if ((t103 ++ (⟨#[32]⟩ : ByteArray)) ++ t104).size + 1 ≤ 9223372036854775807 then ((impl_Decimal.f a0_2).bind fun t105 => (if (((t103 ++ (⟨#[32]⟩ : ByteArray)) ++ t104) ++ (⟨#[120]⟩ : ByteArray)).size + t105.size ≤ 9223372036854775807 then ((impl_rowsOf.f k a0_0 a0_1 a0_2 l0_3).bind fun t106 => ((impl_slashed.f k t106).bind fun t109 => (if ((((t103 ++ (⟨#[32]⟩ : ByteArray)) ++ t104) ++ (⟨#[120]⟩ : ByteArray)) ++ t105).size + t109.size ≤ 9223372036854775807 then (some (((((t103 ++ (⟨#[32]⟩ : ByteArray)) ++ t104) ++ (⟨#[120]⟩ : ByteArray)) ++ t105) ++ t109)) else (none)))) else (none))) else (none)) else (none))) else (none))) else (some (⟨#[]⟩ : ByteArray)))
def impl_MatrixText.T3 : Bool × List (List Nat × List Nat) := (true, [([], []), ([0], [0]), ([1], [1]), ([2], [2]), ([], []), ([4], [4]), ([5, 2], [5]), ([3, 6], [3, 6]), ([7], [7]), ([], []), ([9], [9]), ([10, 6], [10]), ([8, 11], [8, 11]), ([], []), ([13, 11], [13]), ([14, 14], [14]), ([12, 15], [12, 15]), ([16, 15, 0, 1, 2, 3, 4, 5, 6, 7, 8, 9, 10, 11, 12, 13, 14, 15, 16], [16])])
def impl_MatrixText.B3 : List Nat := [0, 1, 3, 7, 0, 16, 55, 127, 255, 0, 512, 1655, 4095, 0, 11895, 28279, 65535, 131071]
theorem impl_MatrixText.tab3 : rtab .any (opsOf Tryz.f11 3) = impl_MatrixText.T3 := by kernel_rfl
theorem impl_MatrixText.bits3 : waitsOk impl_MatrixText.T3.2 impl_MatrixText.B3 = true := by kernel_rfl
theorem Z11.z6 {P : Prop} (h : P := by repeat (first | exact (Kd.C_below HR0_3.out HB.out) | (with_reducible refine Kd.C_alloc ?_ _) | (with_reducible refine Kd.C_drewN ?_ _) | (with_reducible refine Kd.C_drew ?_))) : P := h
theorem Z11.z5 {P : Prop} (h : P := by repeat (first | (with_reducible first | exact HB.out | apply below_alloc | apply pw_below_drewN | apply below_drew1) | exact HB.out)) : P := h
theorem Z11.z4 {P : Prop} (h : P := by exact tgB BK101.out) : P := h
theorem Z11.z3 {P : Prop} (h : P := by exact ⟨(blk_cell BK101.out 0).trans rfl, (blk_cell BK101.out 1).trans rfl, (blk_cell BK101.out 2).trans rfl, (blk_cell BK101.out 3).trans rfl⟩) : P := h
theorem Z11.z2 {P : Prop} (h : P := by (try simp only [List.map_toArray, List.map_cons, List.map_nil]); first | done | rfl | (simp only [List.length_drop, List.length_take]; rfl)) : P := h
theorem Z11.z1 {P : Prop} (h : P := by simp only [Act.put, List.setIfInBounds_toArray, List.set_cons_zero, List.set_cons_succ, i64_w, i32_w]; rfl) : P := h
theorem Z11.z0 {P : Prop} (h : P := by repeat (first | (with_reducible first | exact HB.out | apply below_alloc | apply pw_below_drewN | apply below_drew1 | refine below_set ?_ GE101.out) | exact HB.out)) : P := h
set_option maxHeartbeats 8000000 in
set_option maxRecDepth 100000 in
theorem impl_MatrixText.calls (k : Nat) (a0_0 : Int) (a0_1 : Int) (a0_2 : Int) (A0_3 : Option Addr) (c0_3 : Nat) (l0_3 : List Int) (r : ByteArray) (w : World) (hr0_3 : Kd.C (Kd.int .i64) w A0_3 l0_3.length l0_3) (hc0_3 : l0_3.length ≤ c0_3) (hlP_ : LaidP w) (h : impl_MatrixText.f k a0_0 a0_1 a0_2 l0_3 = some r) :
  Calls Tryz.prog 11 #[.agg #[.int .i64 a0_0, .int .i64 a0_1, .int .i64 a0_2, .slice A0_3 l0_3.length c0_3]] w fun e w' => e = .returned (.string r) ∧ Below w.heap.size w w' := by
 have hu28 := Tryz.underlying28
 have HR0_3 := tgk hr0_3
 have HC0_3 := tgk hc0_3
 clear hr0_3 hc0_3
 have HB := tgk (Below.refl w.heap.size w)
 have H : ((impl_ValidMatrix.f k a0_0 a0_1 a0_2 l0_3).bind fun t102 => (if t102 = true then ((impl_Decimal.f a0_0).bind fun t103 => (if t103.size + 1 ≤ 9223372036854775807 then ((impl_Decimal.f a0_1).bind fun t104 => (if (t103 ++ (⟨#[32]⟩ : ByteArray)).size + t104.size ≤ 9223372036854775807 then (if ((t103 ++ (⟨#[32]⟩ : ByteArray)) ++ t104).size + 1 ≤ 9223372036854775807 then ((impl_Decimal.f a0_2).bind fun t105 => (if (((t103 ++ (⟨#[32]⟩ : ByteArray)) ++ t104) ++ (⟨#[120]⟩ : ByteArray)).size + t105.size ≤ 9223372036854775807 then ((impl_rowsOf.f k a0_0 a0_1 a0_2 l0_3).bind fun t106 => ((impl_slashed.f k t106).bind fun t109 => (if ((((t103 ++ (⟨#[32]⟩ : ByteArray)) ++ t104) ++ (⟨#[120]⟩ : ByteArray)) ++ t105).size + t109.size ≤ 9223372036854775807 then (some (((((t103 ++ (⟨#[32]⟩ : ByteArray)) ++ t104) ++ (⟨#[120]⟩ : ByteArray)) ++ t105) ++ t109)) else (none)))) else (none))) else (none)) else (none))) else (none))) else (some (⟨#[]⟩ : ByteArray)))) = some r := h
 clear h
 obtain ⟨t102, A2, H⟩ := tgbd H
 replace H : (if t102 = true then ((impl_Decimal.f a0_0).bind fun t103 => (if t103.size + 1 ≤ 9223372036854775807 then ((impl_Decimal.f a0_1).bind fun t104 => (if (t103 ++ (⟨#[32]⟩ : ByteArray)).size + t104.size ≤ 9223372036854775807 then (if ((t103 ++ (⟨#[32]⟩ : ByteArray)) ++ t104).size + 1 ≤ 9223372036854775807 then ((impl_Decimal.f a0_2).bind fun t105 => (if (((t103 ++ (⟨#[32]⟩ : ByteArray)) ++ t104) ++ (⟨#[120]⟩ : ByteArray)).size + t105.size ≤ 9223372036854775807 then ((impl_rowsOf.f k a0_0 a0_1 a0_2 l0_3).bind fun t106 => ((impl_slashed.f k t106).bind fun t109 => (if ((((t103 ++ (⟨#[32]⟩ : ByteArray)) ++ t104) ++ (⟨#[120]⟩ : ByteArray)) ++ t105).size + t109.size ≤ 9223372036854775807 then (some (((((t103 ++ (⟨#[32]⟩ : ByteArray)) ++ t104) ++ (⟨#[120]⟩ : ByteArray)) ++ t105) ++ t109)) else (none)))) else (none))) else (none)) else (none))) else (none))) else (some (⟨#[]⟩ : ByteArray))) = some r := H
 by_cases c3 : t102 = true
 ·subst c3
  rw [if_pos rfl] at H
  obtain ⟨t103, A4, H⟩ := tgbd H
  (try dsimp only at H)
  by_cases c5 : t103.size + 1 ≤ 9223372036854775807
  ·rw [if_pos c5] at H
   have c5b0 := eq_true c5
   have c5b1 := decide_eq_true c5
   try have c5b2 : (9223372036854775807 < t103.size + 1) = False := eq_false (Nat.not_lt.2 c5)
   obtain ⟨t104, A6, H⟩ := tgbd H
   (try dsimp only at H)
   by_cases c7 : (t103 ++ (⟨#[32]⟩ : ByteArray)).size + t104.size ≤ 9223372036854775807
   ·rw [if_pos c7] at H
    have c7b0 := eq_true c7
    have c7b1 := decide_eq_true c7
    try have c7b2 : (9223372036854775807 < (t103 ++ (⟨#[32]⟩ : ByteArray)).size + t104.size) = False := eq_false (Nat.not_lt.2 c7)
    clear c7b0
    have c7s : t103.size + 1 + t104.size ≤ 9223372036854775807 := by have e_ := c7; simp only [ByteArray.size_append] at e_; exact e_
    have c7t := eq_true c7s
    try have c7u := eq_false (Nat.not_lt.2 c7s)
    clear c7s
    by_cases c8 : ((t103 ++ (⟨#[32]⟩ : ByteArray)) ++ t104).size + 1 ≤ 9223372036854775807
    ·rw [if_pos c8] at H
     have c8b0 := eq_true c8
     have c8b1 := decide_eq_true c8
     try have c8b2 : (9223372036854775807 < ((t103 ++ (⟨#[32]⟩ : ByteArray)) ++ t104).size + 1) = False := eq_false (Nat.not_lt.2 c8)
     clear c8b0
     have c8s : t103.size + 1 + t104.size + 1 ≤ 9223372036854775807 := by have e_ := c8; simp only [ByteArray.size_append] at e_; exact e_
     have c8t := eq_true c8s
     try have c8u := eq_false (Nat.not_lt.2 c8s)
     clear c8s
     obtain ⟨t105, A9, H⟩ := tgbd H
     (try dsimp only at H)
     by_cases c10 : (((t103 ++ (⟨#[32]⟩ : ByteArray)) ++ t104) ++ (⟨#[120]⟩ : ByteArray)).size + t105.size ≤ 9223372036854775807
     ·rw [if_pos c10] at H
      have c10b0 := eq_true c10; have c10b1 := decide_eq_true c10
      try have c10b2 : (9223372036854775807 < (((t103 ++ (⟨#[32]⟩ : ByteArray)) ++ t104) ++ (⟨#[120]⟩ : ByteArray)).size + t105.size) = False := eq_false (Nat.not_lt.2 c10)
      clear c10b0; have c10s : t103.size + 1 + t104.size + 1 + t105.size ≤ 9223372036854775807 := by have e_ := c10; simp only [ByteArray.size_append] at e_; exact e_
      have c10t := eq_true c10s
      try have c10u := eq_false (Nat.not_lt.2 c10s)
      clear c10s; obtain ⟨t106, A11, H⟩ := tgbd H
      (try dsimp only at H)
      obtain ⟨t109, A12, H⟩ := tgbd H
      (try dsimp only at H)
      by_cases c13 : ((((t103 ++ (⟨#[32]⟩ : ByteArray)) ++ t104) ++ (⟨#[120]⟩ : ByteArray)) ++ t105).size + t109.size ≤ 9223372036854775807
      ·rw [if_pos c13] at H
       have c13b0 := eq_true c13; have c13b1 := decide_eq_true c13
       try have c13b2 : (9223372036854775807 < ((((t103 ++ (⟨#[32]⟩ : ByteArray)) ++ t104) ++ (⟨#[120]⟩ : ByteArray)) ++ t105).size + t109.size) = False := eq_false (Nat.not_lt.2 c13)
       clear c13b0; have c13s : t103.size + 1 + t104.size + 1 + t105.size + t109.size ≤ 9223372036854775807 := by have e_ := c13; simp only [ByteArray.size_append] at e_; exact e_
       have c13t := eq_true c13s
       try have c13u := eq_false (Nat.not_lt.2 c13s)
       clear c13s; obtain rfl := Option.some.inj H
       go_enter Tryz.func11, Tryz.ntmps11
       try go_wp2_with (first | ((with_reducible refine gate_dst (N := 1) rfl ?_); refine box_event ?hg (N := 1) ?hd (cs := #[.int .i64 a0_0, .int .i64 a0_1, .int .i64 a0_2, .slice A0_3 l0_3.length c0_3]) (t := 28) ?hr ?_; (case hd => rfl); (case hg => rfl); (case hr => first | (go_simp; done) | (go_simp; rfl)); intro gb101 hg w14 hbox hb; have BK101 := tgk (hbox); have GW101 := tgk (show w.heap.size ≤ gb101 from (by rw [hg]; exact (below_size Z11.z5))); have GE101 := tgk (show w.heap.size ≤ gb101 from (by rw [hg]; exact (below_size Z11.z5))); replace HB := tgk (below_step Z11.z5 hb); clear hb hbox hg; obtain ⟨hcz15_0, hcz15_1, hcz15_2, hcz15_3, hfz15_0, hfz15_1, hfz15_2, hfz15_3⟩ := cells4 BK101.out) | ((with_reducible refine gate_callee (f := 22) rfl ?_); refine goesL_ (some 4) rfl rfl Tryz.func22 (by kernel_rfl) rfl #[.agg #[.int .i64 a0_0, .int .i64 a0_1, .int .i64 a0_2, .slice A0_3 l0_3.length c0_3]] rfl Z11.z2 ?_; (with_reducible refine (impl_ValidMatrix.calls k a0_0 a0_1 a0_2 _ _ l0_3 true _ ?side1 ?side2 A2.out).mono ?_); (case side1 => exact Z11.z6); (case side2 => exact HC0_3.out); rintro e w16 ⟨rfl, hb⟩; refine ⟨_, rfl, ?_⟩; replace BK101 := tgk (tgbb BK101 Z11.z4 hb); replace HB := tgk (below_step Z11.z0 hb); (try clear hb); (try clear hi)))
       replace BK101 := tgk (blk_drew BK101.out); replace HB := tgk (below_drew1 HB.out); refine start_ (n := 18) (S := fun w' => w'.cell? ⟨gb101, 0, none⟩ = some (.int .i64 a0_0) ∧ w'.cell? ⟨gb101, 1, none⟩ = some (.int .i64 a0_1) ∧ w'.cell? ⟨gb101, 2, none⟩ = some (.int .i64 a0_2) ∧ w'.cell? ⟨gb101, 3, none⟩ = some (.slice A0_3 l0_3.length c0_3)) (ds := []) #[false, false, false, false, false, false, false, false, false, false, false, false, false, false, false, false, false, false] (by kernel_rfl) rfl rfl Z11.z3 (fun hHeld => ?_); refine with_tabW impl_MatrixText.tab3 impl_MatrixText.bits3 (fun HT_ HW_ => ?_); generalize w16.drew = w17 at BK101 HB hHeld ⊢
       refine tgpP 0 6 (tgb 18 1) ?_; refine tgpP 4 10 (tgb 18 17) ?_; refine tgpP 9 15 (tgb 18 529) ?_; refine tgT4 1 7 (tgb 18 531) hHeld ?_; refine tgT4 5 11 (tgb 18 563) hHeld ?_; refine tgT4 10 16 (tgb 18 1587) hHeld ?_; refine tgT4 13 19 (tgb 18 9779) hHeld ?_; refine one_ (i := 2) (N := some 8) (tgb 18 9783) rfl rfl (one_of HT_.out (by kernel_rfl)) (by decide) (fun K hK => ?_); refine goes_ Tryz.func29 (by kernel_rfl) rfl #[.int .i64 a0_0] (by rfl) rfl rfl Z11.z2 ?_
       with_reducible refine (impl_Decimal.calls a0_0 t103 _ ?side1 A4.out).mono ?_
       (case side1 => exact (by exact LaidP.below hlP_ Z11.z0))
       rintro e w18 ⟨rfl, hb⟩
       refine ⟨_, rfl, ?_⟩; replace BK101 := tgk (tgbb BK101 Z11.z4 hb); replace HB := tgk (below_step Z11.z0 hb); (try clear hb); (try clear hb2); (try clear hk); (try clear hi); refine hK.out _ _ Z11.z3 (fun hHeld => ?_); clear hK K; refine tgnm 8 ?_; refine tgpP 3 9 (tgb 18 9791) ?_; refine one_ (i := 6) (N := some 12) (tgb 18 9855) rfl rfl (one_of HT_.out (by kernel_rfl)) (by decide) (fun K hK => ?_); refine goes_ Tryz.func29 (by kernel_rfl) rfl #[.int .i64 a0_1] (by rfl) rfl rfl Z11.z2 ?_
       with_reducible refine (impl_Decimal.calls a0_1 t104 _ ?side1 A6.out).mono ?_
       (case side1 => exact (by exact LaidP.below hlP_ Z11.z0))
       rintro e w19 ⟨rfl, hb⟩
       refine ⟨_, rfl, ?_⟩; replace BK101 := tgk (tgbb BK101 Z11.z4 hb); replace HB := tgk (below_step Z11.z0 hb); (try clear hb); (try clear hb2); (try clear hk); (try clear hi); refine hK.out _ _ Z11.z3 (fun hHeld => ?_); clear hK K; refine tgnm 12 ?_; refine tgpP 7 13 (tgb 18 9983) ?_; refine tgpP 8 14 (tgb 18 10239) ?_; refine one_ (i := 11) (N := some 17) (tgb 18 12287) rfl rfl (one_of HT_.out (by kernel_rfl)) (by decide) (fun K hK => ?_); refine goes_ Tryz.func29 (by kernel_rfl) rfl #[.int .i64 a0_2] (by rfl) rfl rfl Z11.z2 ?_
       with_reducible refine (impl_Decimal.calls a0_2 t105 _ ?side1 A9.out).mono ?_
       (case side1 => exact (by exact LaidP.below hlP_ Z11.z0))
       rintro e w20 ⟨rfl, hb⟩
       refine ⟨_, rfl, ?_⟩; replace BK101 := tgk (tgbb BK101 Z11.z4 hb); replace HB := tgk (below_step Z11.z0 hb); (try clear hb); (try clear hb2); (try clear hk); (try clear hi); refine hK.out _ _ Z11.z3 (fun hHeld => ?_); clear hK K; refine tgnm 17 ?_; refine tgpP 12 18 (tgb 18 16383) ?_; refine one_ (i := 14) (N := some 20) (tgb 18 32767) rfl rfl (one_of HT_.out (by kernel_rfl)) (by decide) (fun K hK => ?_); refine goes_ Tryz.func31 (by kernel_rfl) rfl #[.agg #[.int .i64 a0_0, .int .i64 a0_1, .int .i64 a0_2, .slice A0_3 l0_3.length c0_3]] (by rfl) rfl rfl Z11.z2 ?_
       with_reducible refine (impl_rowsOf.calls k a0_0 a0_1 a0_2 _ _ l0_3 t106 _ ?side1 ?side2 A11.out).mono ?_
       (case side1 => exact Z11.z6)
       (case side2 => exact HC0_3.out)
       rintro e w21 ⟨v107, rfl, ho0, hb⟩
       refine ⟨_, rfl, ?_⟩; have HO108 := tgk (Kd.S_lower ho0 (below_size Z11.z0)); replace BK101 := tgk (tgbb BK101 Z11.z4 hb); replace HB := tgk (below_step Z11.z0 hb); (try clear hb); (try clear hb2); (try clear hk); (try clear hi); (try clear ho0); obtain ⟨Ao22, co22, eo22⟩ := Kd.S_slice HO108.out
       (first | subst eo22 | (injection eo22 with f1_ f2_ f3_; have f4_ := f1_.symm; have f5_ := f3_.symm; clear f1_ f2_ f3_; subst f4_; subst f5_))
       refine hK.out _ _ Z11.z3 (fun hHeld => ?_); clear hK K; refine tgnm 20 ?_; refine one_ (i := 15) (N := some 21) (tgb 18 65535) rfl rfl (one_of HT_.out (by kernel_rfl)) (by decide) (fun K hK => ?_); refine goes_ Tryz.func30 (by kernel_rfl) rfl #[.slice Ao22 t106.length co22] (by rfl) rfl rfl Z11.z2 ?_
       with_reducible refine (impl_slashed.calls k _ _ t106 t109 _ ?side1 ?side2 ?side3 A12.out).mono ?_
       (case side1 => exact (by repeat (first | exact (Kd.S_reads' HO108.out).2.2 | (with_reducible refine Kd.C_alloc ?_ _) | (with_reducible refine Kd.C_drewN ?_ _) | (with_reducible refine Kd.C_drew ?_))))
       (case side2 => exact (Kd.S_reads' HO108.out).2.1)
       (case side3 => exact (by exact LaidP.below hlP_ Z11.z0))
       rintro e w23 ⟨rfl, hb⟩
       refine ⟨_, rfl, ?_⟩; replace HO108 := tgk (Kd.S_below (tgS HO108.out) hb); replace BK101 := tgk (tgbb BK101 Z11.z4 hb); replace HB := tgk (below_step Z11.z0 hb); (try clear hb); (try clear hb2); (try clear hk); (try clear hi); refine hK.out _ _ Z11.z3 (fun hHeld => ?_); clear hK K; refine tgnm 21 ?_; refine tgpP 16 22 (tgb 18 131071) ?_; refine tgpP 17 2 (tgb 18 262143) ?_; refine done_ (done_of HT_.out (by kernel_rfl)) ?_
       try go_wp2
       go_ret
       exact ⟨(by first | rfl | (simp [errW_none, errW_some] <;> rfl) | (simp [*, errW_none, errW_some] <;> rfl)), Z11.z0⟩
      rw [if_neg c13] at H; exact absurd H (by simp)
     rw [if_neg c10] at H
     exact absurd H (by simp)
    rw [if_neg c8] at H
    exact absurd H (by simp)
   rw [if_neg c7] at H
   exact absurd H (by simp)
  rw [if_neg c5] at H
  exact absurd H (by simp)
 replace c3 := Bool.eq_false_iff.mpr c3
 subst c3
 rw [if_neg (show ¬ (false = true) by decide)] at H
 obtain rfl := Option.some.inj H
 go_enter Tryz.func11, Tryz.ntmps11
 go_wp2_with (first | ((with_reducible refine gate_dst (N := 1) rfl ?_); refine box_event ?hg (N := 1) ?hd (cs := #[.int .i64 a0_0, .int .i64 a0_1, .int .i64 a0_2, .slice A0_3 l0_3.length c0_3]) (t := 28) ?hr ?_; (case hd => rfl); (case hg => rfl); (case hr => first | (go_simp; done) | (go_simp; rfl)); intro gb101 hg w24 hbox hb; have BK101 := tgk (hbox); have GW101 := tgk (show w.heap.size ≤ gb101 from (by rw [hg]; exact (below_size Z11.z5))); have GE101 := tgk (show w.heap.size ≤ gb101 from (by rw [hg]; exact (below_size Z11.z5))); replace HB := tgk (below_step Z11.z5 hb); clear hb hbox hg; obtain ⟨hcz25_0, hcz25_1, hcz25_2, hcz25_3, hfz25_0, hfz25_1, hfz25_2, hfz25_3⟩ := cells4 BK101.out) | ((with_reducible refine gate_callee (f := 22) rfl ?_); refine goesL_ (some 4) rfl rfl Tryz.func22 (by kernel_rfl) rfl #[.agg #[.int .i64 a0_0, .int .i64 a0_1, .int .i64 a0_2, .slice A0_3 l0_3.length c0_3]] rfl Z11.z2 ?_; (with_reducible refine (impl_ValidMatrix.calls k a0_0 a0_1 a0_2 _ _ l0_3 false _ ?side1 ?side2 A2.out).mono ?_); (case side1 => exact Z11.z6); (case side2 => exact HC0_3.out); rintro e w26 ⟨rfl, hb⟩; refine ⟨_, rfl, ?_⟩; replace BK101 := tgk (tgbb BK101 Z11.z4 hb); replace HB := tgk (below_step Z11.z0 hb); (try clear hb); (try clear hi)))
 go_ret
 exact ⟨(by first | rfl | (simp [errW_none, errW_some] <;> rfl) | (simp [*, errW_none, errW_some] <;> rfl)), Z11.z0⟩
/-! ### strings_Split: function 54: ours -/
def LaidM (w : World) : Prop := ∃ m, w.cell? ⟨0, 0, none⟩ = some (.int .i64 m)
theorem LaidM.below {w w' : World} (h : LaidM w) (hb : Below w.heap.size w w') : LaidM w' := by
  obtain ⟨m, hm⟩ := h
  exact ⟨m, (hb.cell (p := ⟨0, 0, none⟩) (World.block_lt_of_cell? w _ hm)).trans hm⟩
theorem new_strs (w : World) (e : Nat) (l : List ByteArray) (hl : l.length ≤ maxLen) : Kd.R Kd.string e (w.alloc (.cells (l.map Value.string).toArray e)) w.heap.size (fun _ => True) (.slice (some ⟨w.heap.size, 0, none⟩) l.length l.length) l := by
  refine ⟨fun _ _ => trivial, l.map Value.string, ⟨by simp [Kd.string, Kd.scalar], .inr ⟨w.heap.size, l.length, (l.map Value.string).toArray, rfl, Nat.le_refl _, ?_, Nat.le_refl _, hl, by simp [Kd.string, Kd.scalar], by simp only [Kd.string, Kd.scalar, Nat.mul_one]; exact List.take_of_length_le (by simp)⟩⟩, by simp [Kd.string, Kd.scalar], fun j p hj => ?_⟩
  · show (w.heap.push _)[w.heap.size]? = _
    simp
  · show (l.map Value.string |>.drop (j * 1)).take 1 = [Value.string p]
    rw [Nat.mul_one]
    obtain ⟨hj', rfl⟩ := List.getElem?_eq_some_iff.mp hj
    rw [List.drop_eq_getElem_cons (by simpa using hj')]
    simp
def strings_Split.f (a0 a1 : ByteArray) : Option (List ByteArray) := if a0.size < 4294967281 ∧ 1 ≤ a1.size then some (Lib.splitB a1 0 (Lib.countB a0 a1) a0) else none
theorem strings_Split.calls (a0 a1 : ByteArray) (r : List ByteArray) (w : World) (hlM_ : LaidM w) (h : strings_Split.f a0 a1 = some r) :
  Calls Tryz.prog 54 #[.string a0, .string a1] w fun e w' => ∃ v0_ : Value, e = .returned v0_ ∧ Kd.R Kd.string 9 w' w.heap.size (fun _ => True) v0_ r ∧ Below w.heap.size w w' := by
 unfold strings_Split.f at h
 by_cases hb : a0.size < 4294967281 ∧ 1 ≤ a1.size
 ·rw [if_pos hb] at h
  obtain rfl := Option.some.inj h
  obtain ⟨m, hm⟩ := hlM_
  have hle := Lib.countB_le a1 hb.2 a0.size a0 (Nat.le_refl _)
  have hlen := Lib.splitB_all a1 hb.2 0 _ a0 rfl
  have hmax : (Lib.splitB a1 0 (Lib.countB a0 a1) a0).length ≤ maxLen := by rw [hlen]; unfold maxLen; omega
  refine (Tryz.strings_Split a0 a1 m w hb.1 hm hb.2).mono ?_
  rintro e w' ⟨rfl, rfl⟩
  have hr := new_strs w 9 _ hmax
  rw [hlen] at hr
  exact ⟨_, rfl, hr, (Below.refl _ w).alloc (Nat.le_refl _) _⟩
 rw [if_neg hb] at h; cases h
/-! ### impl_ReadDecimal: function 27: ours -/
def LaidE (w : World) : Prop := (∃ tp p, w.cell? ⟨1, 0, none⟩ = some (.iface tp p)) ∧ ∃ tp p, w.cell? ⟨2, 0, none⟩ = some (.iface tp p)
theorem LaidE.below {w w' : World} (h : LaidE w) (hb : Below w.heap.size w w') : LaidE w' := by
  obtain ⟨⟨t1, p1, h1⟩, t2, p2, h2⟩ := h
  exact ⟨⟨t1, p1, (hb.cell (p := ⟨1, 0, none⟩) (World.block_lt_of_cell? w _ h1)).trans h1⟩, t2, p2, (hb.cell (p := ⟨2, 0, none⟩) (World.block_lt_of_cell? w _ h2)).trans h2⟩
def readDec (s : ByteArray) : Int × Bool :=
  if (Lib.trimPrefix s.data.toList [45]).length < 1 ∨ 18 < (Lib.trimPrefix s.data.toList [45]).length then (0, false) else
  match Lib.parseIntB 64 s.data.toList with
  | .ok v => if Lib.itoa v = s.data.toList then (v, true) else (0, false)
  | _ => (0, false)
def impl_ReadDecimal.f (a0 : ByteArray) : Option (Int × Bool) := if a0.size ≤ 281474976710656 then some (readDec a0) else none
theorem strconv_ParseInt.ends (s : ByteArray) (hs : s.size ≤ 281474976710656) (w : World) (hl : LaidE w) :
    Calls Tryz.prog 58 #[.string s, .int .i64 10, .int .i64 64] w fun e w' => Below w.heap.size w w' ∧
      match Lib.parseIntB 64 s.data.toList with
      | .ok v => e = .returned (.tuple #[.int .i64 v, .nilIface])
      | _ => ∃ (v : Int) (t N : Nat), e = .returned (.tuple #[.int .i64 v, .iface t (.pointer (some ⟨N, 0, none⟩))]) := by
  obtain ⟨⟨t1, p1, h1⟩, t2, p2, h2⟩ := hl
  cases h : Lib.parseIntB 64 s.data.toList with
  | ok v =>
    refine (Tryz.strconv_ParseInt_10_at64_ok s (by omega) v h w).mono ?_
    rintro e w' ⟨rfl, rfl | ⟨t, rfl⟩⟩
    · exact ⟨Below.refl _ _, rfl⟩
    · exact ⟨Lib.bytesWorld_below _ _ _, rfl⟩
  | range =>
    refine (Tryz.strconv_ParseInt_10_at64_range s hs h _ w h2 (.inr ⟨_, _, rfl⟩)).mono ?_
    rintro e w' ⟨N, rfl, _, _, hb⟩
    exact ⟨hb, _, _, _, rfl⟩
  | _ =>
    refine (Tryz.strconv_ParseInt_10_at64_syntax s hs h _ w h1 (.inr ⟨_, _, rfl⟩)).mono ?_
    rintro e w' ⟨N, rfl, _, _, hb⟩
    exact ⟨hb, _, _, _, rfl⟩
set_option maxHeartbeats 4000000 in
set_option maxRecDepth 100000 in
theorem impl_ReadDecimal.calls (a0 : ByteArray) (r1 : Int) (r2 : Bool) (w : World) (hlP_ : LaidP w) (hlE_ : LaidE w) (h : impl_ReadDecimal.f a0 = some (r1, r2)) :
  Calls Tryz.prog 27 #[.string a0] w fun e w' => e = .returned (.tuple #[.int .i64 r1, .bool r2]) ∧ Below w.heap.size w w' := by
 unfold impl_ReadDecimal.f at h
 by_cases hb : a0.size ≤ 281474976710656
 ·rw [if_pos hb] at h
  have hf := Option.some.inj h
  clear h
  have hT := Tryz.strings_TrimPrefix a0 (⟨#[45]⟩ : ByteArray) w
  have hP := strconv_ParseInt.ends a0 hb w hlE_
  unfold readDec at hf
  have e45 : (⟨#[45]⟩ : ByteArray).data.toList = [45] := rfl
  rw [e45] at hT
  have hd : (⟨(Lib.trimPrefix a0.data.toList [45]).toArray⟩ : ByteArray).size = (Lib.trimPrefix a0.data.toList [45]).length := by simp [ByteArray.size]
  generalize (⟨(Lib.trimPrefix a0.data.toList [45]).toArray⟩ : ByteArray) = d at hT hd
  rw [← hd] at hf
  clear hd e45 hb
  by_cases h1 : d.size < 1
  ·rw [if_pos (.inl h1)] at hf
   obtain ⟨rfl, rfl⟩ := Prod.mk.inj hf
   have b1 : decide ((d.size : Int) < 1) = true := decide_eq_true (by omega)
   have b2 : decide (d.size < 1) = true := decide_eq_true h1
   clear hf hP h1
   go_enter Tryz.func27, Tryz.ntmps27
   go_wp2_with (go_at_call 57; refine hT.mono ?_; rintro e w' ⟨rfl, rfl⟩)
   go_ret2
   exact ⟨rfl, Below.refl _ _⟩
  have b1 : decide ((d.size : Int) < 1) = false := decide_eq_false (by omega)
  have b2 : decide (d.size < 1) = false := decide_eq_false h1
  by_cases h2 : 18 < d.size
  ·rw [if_pos (.inr h2)] at hf
   obtain ⟨rfl, rfl⟩ := Prod.mk.inj hf
   have b3 : decide (18 < (d.size : Int)) = true := decide_eq_true (by omega)
   have b4 : decide (18 < d.size) = true := decide_eq_true h2
   clear hf hP h1 h2
   go_enter Tryz.func27, Tryz.ntmps27
   go_wp2_with (go_at_call 57; refine hT.mono ?_; rintro e w' ⟨rfl, rfl⟩)
   go_ret2
   exact ⟨rfl, Below.refl _ _⟩
  rw [if_neg (fun hh => hh.elim h1 h2)] at hf
  have b3 : decide (18 < (d.size : Int)) = false := decide_eq_false (by omega)
  have b4 : decide (18 < d.size) = false := decide_eq_false h2
  clear h1 h2
  cases hp : Lib.parseIntB 64 a0.data.toList with
  | ok v =>
   rw [hp] at hf hP
   simp only at hf hP
   have hv := Lib.parseIntB_bounds hp
   rw [show ((2 ^ (64 - 1) : Nat) : Int) = 9223372036854775808 by decide] at hv
   have hD : impl_Decimal.f v = some ⟨(Lib.itoa v).toArray⟩ := by
    unfold impl_Decimal.f
    rw [if_pos (by have := hv; omega)]
   have hE : (⟨(Lib.itoa v).toArray⟩ : ByteArray).toList = Lib.itoa v := by rw [Lib.toList_data]
   have hS : a0.toList = a0.data.toList := Lib.toList_data a0
   by_cases he : Lib.itoa v = a0.data.toList
   ·rw [if_pos he] at hf
    obtain ⟨rfl, rfl⟩ := Prod.mk.inj hf
    rw [← hE, ← hS] at he
    generalize (⟨(Lib.itoa v).toArray⟩ : ByteArray) = x at he hD
    have q1 : (x.toList == a0.toList) = true := beq_iff_eq.mpr he
    have q2 : (x.toList != a0.toList) = false := bne_eq_false_iff_eq.mpr he
    have HD := Aside0.mk hD
    have HP := Aside0.mk hlP_
    clear hf hv hD hE hS he hp hlP_ hlE_
    go_enter Tryz.func27, Tryz.ntmps27
    go_wp2_with (first | (go_at_call 57; refine hT.mono ?_; rintro e w' ⟨rfl, rfl⟩) | (go_at_call 58; refine hP.mono ?_; rintro e w1 ⟨hb1, rfl⟩; have HB1 := Aside0.mk hb1; clear hb1) | (go_at_call 29; refine (impl_Decimal.calls v x w1 (LaidP.below HP.out HB1.out) HD.out).mono ?_; rintro e w2 ⟨rfl, hb2⟩; have HB2 := Aside0.mk hb2; clear hb2))
    go_ret2
    exact ⟨rfl, below_step HB1.out HB2.out⟩
   rw [if_neg he] at hf
   obtain ⟨rfl, rfl⟩ := Prod.mk.inj hf
   rw [← hE, ← hS] at he
   generalize (⟨(Lib.itoa v).toArray⟩ : ByteArray) = x at he hD
   have q1 : (x.toList == a0.toList) = false := beq_eq_false_iff_ne.mpr he
   have q2 : (x.toList != a0.toList) = true := bne_iff_ne.mpr he
   have HD := Aside0.mk hD
   have HP := Aside0.mk hlP_
   clear hf hv hD hE hS he hp hlP_ hlE_
   go_enter Tryz.func27, Tryz.ntmps27
   go_wp2_with (first | (go_at_call 57; refine hT.mono ?_; rintro e w' ⟨rfl, rfl⟩) | (go_at_call 58; refine hP.mono ?_; rintro e w1 ⟨hb1, rfl⟩; have HB1 := Aside0.mk hb1; clear hb1) | (go_at_call 29; refine (impl_Decimal.calls v x w1 (LaidP.below HP.out HB1.out) HD.out).mono ?_; rintro e w2 ⟨rfl, hb2⟩; have HB2 := Aside0.mk hb2; clear hb2))
   go_ret2
   exact ⟨rfl, below_step HB1.out HB2.out⟩
  | range =>
   rw [hp] at hf hP
   simp only at hf hP
   obtain ⟨rfl, rfl⟩ := Prod.mk.inj hf
   clear hf hp hlP_ hlE_
   go_enter Tryz.func27, Tryz.ntmps27
   go_wp2_with (first | (go_at_call 57; refine hT.mono ?_; rintro e w' ⟨rfl, rfl⟩) | (go_at_call 58; refine hP.mono ?_; rintro e w1 ⟨hb1, v, t, N, rfl⟩; have HB1 := Aside0.mk hb1; clear hb1))
   go_ret2
   exact ⟨rfl, HB1.out⟩
  | _ =>
   rw [hp] at hf hP
   simp only at hf hP
   obtain ⟨rfl, rfl⟩ := Prod.mk.inj hf
   clear hf hp hlP_ hlE_
   go_enter Tryz.func27, Tryz.ntmps27
   go_wp2_with (first | (go_at_call 57; refine hT.mono ?_; rintro e w' ⟨rfl, rfl⟩) | (go_at_call 58; refine hP.mono ?_; rintro e w1 ⟨hb1, v, t, N, rfl⟩; have HB1 := Aside0.mk hb1; clear hb1))
   go_ret2
   exact ⟨rfl, HB1.out⟩
 rw [if_neg hb] at h; cases h
end Go.Proofs.YtbalikebmacldaaGreatDoor.F
end
