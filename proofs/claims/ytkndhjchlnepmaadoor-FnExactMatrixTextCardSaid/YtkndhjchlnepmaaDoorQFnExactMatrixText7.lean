-- Texts of this claim, merged by packw.py (a program of this session's).
import Derived.Test.YtkndhjchlnepmaaDoorQFnExactMatrixText3
import Derived.Test.YtkndhjchlnepmaaDoorQFnExactMatrixText6
import Derived.Test.YtkndhjchlnepmaaDoorQFnExactMatrixText5

section
namespace Go.Proofs.YtkndhjchlnepmaaDoor.F
open Go.RowKit Go.Proofs.YtkndhjchlnepmaaDoorW.PrintWords Go.Proofs.YtkndhjchlnepmaaDoorW.PrintLast Go.Proofs.YtkndhjchlnepmaaDoorW.PrintMore
attribute [local go_sem] max2_int min2_int max_two min_two max_three min_three max_four min_four   -- for this text's walks alone
set_option linter.unusedVariables false
set_option linter.unusedSimpArgs false
/-! ### impl_ListText_1: function 31: ours -/
def noValue (x : Int) : Bool := !(decide (-1000000000000 ≤ x) && decide (x ≤ 1000000000000))
set_option maxHeartbeats 4000000 in
set_option maxRecDepth 100000 in
theorem impl_ListText_1.ask (w : World) : AnsI 31 #[] noValue w := fun W x _ => by
  by_cases h1 : -1000000000000 ≤ x
  · have g1 := Aside0.mk h1
    have b1 : decide (-1000000000000 ≤ x) = true := decide_eq_true h1
    clear h1
    by_cases h2 : x ≤ 1000000000000
    · have g2 := Aside0.mk h2
      have b2 : decide (x ≤ 1000000000000) = true := decide_eq_true h2
      clear h2
      go_enter Tryd.func31, Tryd.ntmps31
      go_wp2
      go_ret
      exact ⟨by unfold noValue; first | rfl | (simp [g1.out, g2.out]; done) | (simp [*]; done), 0, rfl⟩
    · have g2 := Aside0.mk h2
      have b2 : decide (x ≤ 1000000000000) = false := decide_eq_false h2
      clear h2
      go_enter Tryd.func31, Tryd.ntmps31
      go_wp2
      go_ret
      exact ⟨by unfold noValue; first | rfl | (simp [g1.out, g2.out]; done) | (simp [*]; done), 0, rfl⟩
  · have g1 := Aside0.mk h1
    have b1 : decide (-1000000000000 ≤ x) = false := decide_eq_false h1
    clear h1
    go_enter Tryd.func31, Tryd.ntmps31
    go_wp2
    go_ret
    exact ⟨by unfold noValue; first | rfl | (simp [g1.out]; done) | (simp [*]; done), 0, rfl⟩
def impl_ListText_1.any.f (l0 : List Int) : Option Bool := some (l0.any noValue)
theorem impl_ListText_1.any.calls (A0 : Option Addr) (c0 : Nat) (l0 : List Int) (r : Bool) (w : World) (hr0 : Kd.C (Kd.int .i64) w A0 l0.length l0) (hc0 : l0.length ≤ c0) (h : impl_ListText_1.any.f l0 = some r) :
    Calls Tryd.prog 30 #[.slice A0 l0.length c0, .func (.func 31) #[] #[]] w fun e w' => e = .returned (.bool r) ∧ Below w.heap.size w w' := by
  refine (slices_ContainsFunc_int64_int64.tells 31 #[] (enters_of Tryd.func31 (by kernel_rfl) rfl) noValue A0 c0 l0 w (impl_ListText_1.ask w) hr0 hr0.2.1).mono ?_
  rintro e w' ⟨rfl, q, rfl⟩
  have hf := Option.some.inj h
  exact ⟨by rw [← hf], pw_below_drewN (Below.refl _ w) q⟩
/-! ### strings_Join: function 32: ours -/
def strings_Join.f (l0 : List ByteArray) (a1 : ByteArray) : Option ByteArray := if l0.length ≤ 1048576 ∧ (Lib.join (l0.map (·.data.toList)) a1.data.toList).length ≤ 140737488355328 then some ⟨(Lib.join (l0.map (·.data.toList)) a1.data.toList).toArray⟩ else none
theorem strings_Join.calls (A0 : Option Addr) (c0 : Nat) (l0 : List ByteArray) (a1 : ByteArray) (r : ByteArray) (w : World) (hr0 : Kd.C Kd.string w A0 l0.length l0) (hc0 : l0.length ≤ c0) (h : strings_Join.f l0 a1 = some r) :
  Calls Tryd.prog 32 #[.slice A0 l0.length c0, .string a1] w fun e w' => e = .returned (.string r) ∧ Below w.heap.size w w' := by
 unfold strings_Join.f at h
 by_cases hb : l0.length ≤ 1048576 ∧ (Lib.join (l0.map (·.data.toList)) a1.data.toList).length ≤ 140737488355328
 ·rw [if_pos hb] at h
  obtain rfl := Option.some.inj h
  cases l0 with
  | nil =>
   refine (Tryd.strings_Join_none A0 c0 a1 w).mono ?_
   rintro e w' ⟨rfl, rfl⟩
   exact ⟨rfl, Below.refl _ _⟩
  | cons x xs =>
   obtain ⟨ad, rfl, hcell⟩ := hr0.2.2 (by simp)
   have hc : ∀ (j : Nat) y, (x :: xs)[j]? = some y → w.cell? (ad.add j) = some (.string y) := fun j y hj => by
    obtain ⟨c, hl, hK, hu⟩ := hcell j y hj
    have hK' : c = [Value.string y] := hK
    subst hK'
    have := hu 0 _ rfl
    simpa [Kd.string, Kd.scalar] using this
   have h0 := hc 0 x rfl
   obtain ⟨bk, o, sp⟩ := ad
   have hsp : sp = none := by
    cases sp with
    | none => rfl
    | some q =>
     exfalso
     simp only [Addr.add, World.cell?, if_true] at h0
     cases hh : w.heap[bk]? with
     | none => rw [hh] at h0; cases h0
     | some ob => cases ob <;> (rw [hh] at h0; simp at h0)
   subst hsp
   have hbk : bk < w.heap.size := World.block_lt_of_cell? w _ h0
   refine (Tryd.strings_Join bk o c0 (x :: xs) a1 w (fun j y hj => ?_) hbk (by have := hb.1; omega) hc0 hb.2).mono ?_
   ·have := hc j y hj
    by_cases hj0 : j = 0
    ·subst hj0; simpa [Addr.add] using this
    simpa [Addr.add, hj0] using this
   rintro e w' ⟨rfl, hbel⟩
   exact ⟨rfl, hbel⟩
 rw [if_neg hb] at h; cases h
/-! ### impl_ListText: function 13 -/
mutual
def impl_ListText.j0 : Nat → List Int → Bool → Option (ByteArray)
  | 0, _, _ => none
  | k + 1, x0, x12 => if x12 = true then (some (⟨#[]⟩ : ByteArray)) else (if (x0.length : Int) = 0 then (some (⟨#[45]⟩ : ByteArray)) else (impl_ListText.l0 k ([] : List ByteArray) x0 (x0.length : Int) 0))
def impl_ListText.l0 : Nat → List ByteArray → List Int → Int → Int → Option (ByteArray)
  | 0, _, _, _, _ => none
  | k + 1, x3, x16, x17, x18 => if x18 < x17 then (if 0 ≤ x18 then (if x18 < (x16.length : Int) then ((impl_Decimal.f (rd x16 x18)).bind fun t103 => (if x3.length < 8796093022208 then (impl_ListText.l0 k (x3 ++ [t103]) x16 x17 (wrap64 (x18 + 1))) else (none))) else (none)) else (none)) else ((strings_Join.f x3 (⟨#[44]⟩ : ByteArray)).bind fun t107 => (some t107))
end
def impl_ListText.f (k : Nat) (l0 : List Int) : Option (ByteArray) := if (l0.length : Int) > 64 then (impl_ListText.j0 k l0 true) else ((impl_ListText_1.any.f l0).bind fun t101 => (impl_ListText.j0 k l0 t101))
theorem Z13.z3 {P : Prop} (h : P := by (try simp only [List.map_toArray, List.map_cons, List.map_nil]); first | done | rfl | (simp only [List.length_drop, List.length_take]; rfl)) : P := h
theorem Z13.z2 {P : Prop} (h : P := by first | rfl | (simp [errW_none, errW_some] <;> rfl) | (simp [*, errW_none, errW_some] <;> rfl)) : P := h
theorem Z13.z1 {P : Prop} (h : P := by (with_reducible repeat (first | apply Kd.R_alloc | apply Kd.R_drewN | apply Kd.R_drew)); exact HO_3.out) : P := h
theorem Z13.z0 {P : Prop} (h : P := by repeat (first | (with_reducible first | exact HB.out | apply below_alloc | apply pw_below_drewN | apply below_drew1) | exact HB.out)) : P := h
set_option maxHeartbeats 8000000 in
set_option maxRecDepth 100000 in
theorem impl_ListText.calls (k : Nat) (A0 : Option Addr) (c0 : Nat) (l0 : List Int) (r : ByteArray) (w : World) (hr0 : Kd.C (Kd.int .i64) w A0 l0.length l0) (hc0 : l0.length ≤ c0) (hlP_ : LaidP w) (h : impl_ListText.f k l0 = some r) :
  Calls Tryd.prog 13 #[.slice A0 l0.length c0] w fun e w' => e = .returned (.string r) ∧ Below w.heap.size w w' := by
 have HR0 := Aside0.mk hr0
 have HC0 := Aside0.mk hc0
 clear hr0 hc0
 have HB := Aside0.mk (Below.refl w.heap.size w)
 have H : (if (l0.length : Int) > 64 then (impl_ListText.j0 k l0 true) else ((impl_ListText_1.any.f l0).bind fun t101 => (impl_ListText.j0 k l0 t101))) = some r := h
 clear h
 have HC2 := Aside0.mk H
 clear H
 go_enter Tryd.func13, Tryd.ntmps13
 go_upto_region 1 with (fail)
 go_cut [12] (fun v12 wc => ∃ (kq : Nat) (x12_1 : Bool), v12 = .bool x12_1 ∧ Aside0 (impl_ListText.j0 kq l0 x12_1 = some r) ∧ Aside0 (kq ≤ k) ∧ Aside0 (Below w.heap.size w wc))
 case first =>
  have H := HC2.out
  clear HC2
  by_cases c3 : (l0.length : Int) > 64
  ·rw [if_pos c3] at H
   have c3b0 : decide (64 < (l0.length : Int)) = true := decide_eq_true c3
   have c3b1 : decide (64 < l0.length) = true := decide_eq_true (by omega)
   clear c3
   (first | rw [c3b0] | (simp only [i64_w, i32_w]; rw [c3b0]) | skip)
   have H' := Aside0.mk H
   clear H
   go_wp2
   go_meet
   case rel => exact ⟨_, (true), (by first | rfl | (simp; done) | (simp [*]; done)), H', ⟨(by first | omega | exact Nat.le_refl _)⟩, ⟨Z13.z0⟩⟩
  rw [if_neg c3] at H
  have c3b0 : decide (64 < (l0.length : Int)) = false := decide_eq_false c3
  have c3b1 : decide (64 < l0.length) = false := decide_eq_false (by omega)
  clear c3
  (first | rw [c3b0] | (simp only [i64_w, i32_w]; rw [c3b0]) | skip)
  replace H := Option.bind_eq_some_iff.mp H
  obtain ⟨t101, A40, H⟩ := H
  replace H : (impl_ListText.j0 k l0 t101) = some r := H
  have A4 := Aside0.mk A40
  clear A40
  have H' := Aside0.mk H
  clear H
  go_wp2_with (first | (go_at_call 30; (with_reducible refine (impl_ListText_1.any.calls _ _ l0 t101 _ ?side1 ?side2 A4.out).mono ?_); (case side1 => exact (by repeat (first | exact (Kd.C_below HR0.out HB.out) | (with_reducible refine Kd.C_alloc ?_ _) | (with_reducible refine Kd.C_drewN ?_ _) | (with_reducible refine Kd.C_drew ?_)))); (case side2 => exact HC0.out); rintro e w5 ⟨rfl, hb⟩; have n0_ := Aside0.mk (below_step Z13.z0 hb); clear HB; have HB := n0_; clear n0_; (try clear hb); (try clear hb2); (try clear hk); (try clear hi)))
  go_meet
  case rel => exact ⟨_, (t101), (by first | rfl | (simp; done) | (simp [*]; done)), H', ⟨(by first | omega | exact Nat.le_refl _)⟩, ⟨Z13.z0⟩⟩
 case rest =>
  clear HC2
  try clear c1
  try clear p2
  try clear c3
  try clear c3b0
  try clear c3b1
  obtain ⟨kq, x12_1, rfl, HA, HJ1, HB⟩ := hcut
  cases kq with
  | zero => exact absurd HA.out (by simp [impl_ListText.j0])
  | succ kj1 =>
   have H := HA.out
   clear HA
   simp only [impl_ListText.j0] at H
   by_cases c6 : x12_1 = true
   ·subst c6
    have H1 : (some (⟨#[]⟩ : ByteArray)) = some r := by rw [if_pos rfl] at H; exact H
    clear H
    have H := H1
    clear H1
    obtain rfl := Option.some.inj H
    go_wp2
    go_ret
    exact ⟨Z13.z2, Z13.z0⟩
   replace c6 := Bool.eq_false_iff.mpr c6
   subst c6
   have H1 : (if (l0.length : Int) = 0 then (some (⟨#[45]⟩ : ByteArray)) else (impl_ListText.l0 kj1 ([] : List ByteArray) l0 (l0.length : Int) 0)) = some r := by rw [if_neg (show ¬ (false = true) by decide)] at H; exact H
   clear H
   have H := H1
   clear H1
   by_cases c7 : (l0.length : Int) = 0
   ·rw [if_pos c7] at H
    have c7b0 : ((l0.length : Int) == 0) = true := beq_iff_eq.mpr c7
    have c7b1 : ((l0.length : Int) != 0) = false := bne_eq_false_iff_eq.mpr c7
    clear c7
    obtain rfl := Option.some.inj H
    go_wp2
    go_ret
    exact ⟨Z13.z2, Z13.z0⟩
   rw [if_neg c7] at H
   have c7b0 : ((l0.length : Int) == 0) = false := beq_eq_false_iff_ne.mpr c7
   have c7b1 : ((l0.length : Int) != 0) = true := bne_iff_ne.mpr c7
   have c7b2 : ¬ (l0 = []) := fun h_ => c7 (by rw [h_]; rfl)
   have H' := Aside0.mk H
   clear H
   go_wp2
   go_loopg [3, 18] kj1 (fun kq v3 v18 w' => ∃ (x3_2 : List ByteArray) (x18_2 : Int), v18 = .int .i64 x18_2 ∧ Aside0 (impl_ListText.l0 kq x3_2 l0 (l0.length : Int) x18_2 = some r) ∧ Aside0 (kq ≤ kj1) ∧ Aside0 (Kd.R Kd.string 9 w' w.heap.size (fun _ => True) v3 x3_2) ∧ Aside0 (Below w.heap.size w w'))
   case atStart => exact ⟨(([] : List ByteArray)), (0), (by first | rfl | (simp; done) | (simp [*]; done)), H', ⟨Nat.le_refl _⟩, ⟨(by first | exact Kd.R_nil _ _ _ _ _ | exact Kd.N_nil _ _ _ _ _ | exact Kd.V_nil _ _ _ _ _ | exact Kd.Q_nil _ _ _ _ _ | exact Kd.S_nil _ _ _ _ _)⟩, ⟨Z13.z0⟩⟩
   case round =>
    clear H'
    try clear c1
    try clear p2
    try clear c3
    try clear c3b0
    try clear c3b1
    try clear c6
    try clear c7
    try clear c7b0
    try clear c7b1
    try clear c7b2
    try clear p2
    obtain ⟨x3_2, x18_2, rfl, HA, HK2, HO_3, HB⟩ := hrel
    cases gk with
    | zero => exact absurd HA.out (by simp [impl_ListText.l0])
    | succ k2 =>
     have H := HA.out
     clear HA
     simp only [impl_ListText.l0] at H
     by_cases c8 : x18_2 < (l0.length : Int)
     ·rw [if_pos c8] at H
      have c8b0 : decide (x18_2 < (l0.length : Int)) = true := decide_eq_true c8
      clear c8
      by_cases c9 : 0 ≤ x18_2
      ·rw [if_pos c9] at H
       have c9b0 : decide (0 ≤ x18_2) = true := decide_eq_true c9
       clear c9
       by_cases c10 : x18_2 < (l0.length : Int)
       ·rw [if_pos c10] at H
        have c10b0 : decide (x18_2 < (l0.length : Int)) = true := decide_eq_true c10
        clear c10
        replace H := Option.bind_eq_some_iff.mp H
        obtain ⟨t103, A110, H⟩ := H
        replace H : (if x3_2.length < 8796093022208 then (impl_ListText.l0 k2 (x3_2 ++ [t103]) l0 (l0.length : Int) (wrap64 (x18_2 + 1))) else (none)) = some r := H
        have A11 := Aside0.mk A110
        clear A110
        by_cases c12 : x3_2.length < 8796093022208
        ·rw [if_pos c12] at H
         have LMc12 := Aside0.mk c12
         clear c12
         obtain ⟨y104, hy104⟩ : ∃ y_ : List ByteArray, y_ = (x3_2 ++ [t103]) := ⟨_, rfl⟩
         replace H : (impl_ListText.l0 k2 y104 l0 (l0.length : Int) (wrap64 (x18_2 + 1))) = some r := by first | (rw [hy104]; with_reducible exact H) | (have H2_ := (Option.bind_some _ _).symm.trans H; rw [hy104]; with_reducible exact H2_) | (have H2_ := (Option.bind_some _ _).symm.trans H; with_reducible exact H2_) | with_reducible exact H | (rw [hy104]; exact H) | exact H
         have Ny104 := Aside0.mk hy104
         clear hy104
         have H' := Aside0.mk H
         clear H
         have p102 : 0 ≤ (x18_2 : Int) := of_decide_eq_true (by first | (with_reducible assumption) | assumption)
         have q102 : x18_2 < (l0.length : Int) := of_decide_eq_true (by first | (with_reducible assumption) | assumption)
         obtain ⟨ad102, e102, hx102_0⟩ := Kd.at_int HR0.out x18_2 p102 q102
         cases e102
         replace hx102_0 := (HB.out.cell (World.block_lt_of_cell? w _ hx102_0)).trans hx102_0
         replace p102 := eq_true p102
         replace q102 := eq_true q102
         go_wp2_with (first | ((with_reducible refine gate_callee (f := 15) rfl ?_); refine goesL_ (some 24) rfl rfl Tryd.func15 (by kernel_rfl) rfl #[.int .i64 (rd l0 x18_2)] rfl Z13.z3 ?_; (with_reducible refine (impl_Decimal.calls (rd l0 x18_2) t103 _ ?side1 A11.out).mono ?_); (case side1 => exact (by exact LaidP.below hlP_ Z13.z0)); rintro e w13 ⟨rfl, hb⟩; refine ⟨_, rfl, ?_⟩; have n0_ := Aside0.mk (Kd.R_below Z13.z1 hb); have n1_ := Aside0.mk (below_step Z13.z0 hb); clear HO_3 HB; have HO_3 := n0_; have HB := n1_; clear n0_ n1_; (try clear hb); (try clear hb2); (try clear hk); (try clear hi)) | ((with_reducible refine gate_builtin (b := .append) (xs := #[.tmp 22, .tmp 25]) rfl ?_); at_builtin; refine Kd.R_append Kd.string (w0 := w) w.heap.size rfl (.tmp 22) (.tmp 25) 51 9 (.string ⟨#[]⟩) 16 rfl Tryd.underlying51 info9 rfl (by decide) (by omega) u3 x3_2 t103 [.string t103] (fun _ => True) (fun _ => False) rfl rfl ?aP (fun _ hk => hk.elim) ?aF ?aO ?aB ?aS ?aL ?_; (case aP => exact rfl); (case aB => exact Z13.z0); (case aF => exact (fun _ _ => trivial)); (case aO => exact Z13.z1); (case aS => exact (below_size Z13.z0)); (case aL => have := LMc12.out; omega); intro v105 w14 ho hb hg hat; rw [← Ny104.out] at ho; have n0_ := Aside0.mk (hb); have n1_ := Aside0.mk (ho); clear HB HO_3; have HB := n0_; have HO106 := n1_; clear n0_ n1_; clear ho hb hg hat))
         go_roundg k2
         case measure => have := HJ1.out; have := HK2.out; omega
         case rel => exact ⟨(y104), (wrap64 (x18_2 + 1)), (by first | rfl | (simp; done) | (simp [*]; done)), H', ⟨(by have := HJ1.out; have := HK2.out; omega)⟩, ⟨(by (with_reducible repeat (first | apply Kd.R_alloc | apply Kd.R_drewN | apply Kd.R_drew)); exact HO106.out)⟩, ⟨Z13.z0⟩⟩
        rw [if_neg c12] at H
        exact absurd H (by simp)
       rw [if_neg c10] at H
       exact absurd H (by simp)
      rw [if_neg c9] at H
      exact absurd H (by simp)
     rw [if_neg c8] at H
     have c8b0 : decide (x18_2 < (l0.length : Int)) = false := decide_eq_false c8
     clear c8
     replace H := Option.bind_eq_some_iff.mp H
     obtain ⟨t107, A150, H⟩ := H
     replace H : (some t107) = some r := H
     have A15 := Aside0.mk A150
     clear A150
     obtain rfl := Option.some.inj H
     obtain ⟨Ao16, co16, eo16⟩ := Kd.R_slice HO_3.out
     subst eo16
     go_wp2_with (first | ((with_reducible refine gate_callee (f := 32) rfl ?_); refine goesL_ (some 29) rfl rfl Tryd.func32 (by kernel_rfl) rfl #[.slice Ao16 x3_2.length co16, .string (⟨#[44]⟩ : ByteArray)] rfl Z13.z3 ?_; (with_reducible refine (strings_Join.calls _ _ x3_2 (⟨#[44]⟩ : ByteArray) t107 _ ?side1 ?side2 A15.out).mono ?_); (case side1 => exact (by repeat (first | exact (Kd.R_reads' HO_3.out).2.2 | (with_reducible refine Kd.C_alloc ?_ _) | (with_reducible refine Kd.C_drewN ?_ _) | (with_reducible refine Kd.C_drew ?_)))); (case side2 => exact (Kd.R_reads' HO_3.out).2.1); rintro e w17 ⟨rfl, hb⟩; refine ⟨_, rfl, ?_⟩; have n0_ := Aside0.mk (Kd.R_below Z13.z1 hb); have n1_ := Aside0.mk (below_step Z13.z0 hb); clear HO_3 HB; have HO_3 := n0_; have HB := n1_; clear n0_ n1_; (try clear hb); (try clear hb2); (try clear hk); (try clear hi)))
     go_ret
     exact ⟨Z13.z2, Z13.z0⟩
/-! ### impl_slashed: function 41: ours -/
def impl_slashed.l0 : Nat → List UInt8 → List (List Int) → Int → Option ByteArray
  | 0, _, _, _ => none
  | k + 1, acc, x6, x8 => if x8 < (x6.length : Int) then (if 0 ≤ x8 then ((impl_ListText.f k (rd_L3 x6 x8)).bind fun t => (if acc.length + (t.size + 1) ≤ 140737488355328 then (impl_slashed.l0 k (acc ++ 47 :: t.data.toList) x6 (wrap64 (x8 + 1))) else (none))) else (none)) else (some ⟨acc.toArray⟩)
def impl_slashed.f (k : Nat) (l0 : List (List Int)) : Option ByteArray := impl_slashed.l0 k [] l0 0
theorem impl_slashed.lays : Lays.n166 Tryd.prog Tryd.lays156_ren := { mixed := Tryd.lays156.mixed, f166 := Tryd.lays156.f166, f240 := Tryd.lays156.f240, f276 := Tryd.lays156.f276, t0 := Tryd.lays156.t0, a0 := Tryd.lays156.a0, z0 := Tryd.lays156.z0, v0 := Tryd.lays156.v0, t3 := Tryd.lays156.t3, a3 := Tryd.lays156.a3, z3 := Tryd.lays156.z3, v3 := Tryd.lays156.v3, t4 := Tryd.lays156.t4, a4 := Tryd.lays156.a4, z4 := Tryd.lays156.z4, v4 := Tryd.lays156.v4, t9 := Tryd.lays156.t9, a9 := Tryd.lays156.a9, z9 := Tryd.lays156.z9, v9 := Tryd.lays156.v9, t20 := Tryd.lays156.t20, a20 := Tryd.lays156.a20, z20 := Tryd.lays156.z20, v20 := Tryd.lays156.v20, t37 := Tryd.lays156.t37, a37 := Tryd.lays156.a37, z37 := Tryd.lays156.z37, v37 := Tryd.lays156.v37, t70 := Tryd.lays156.t70, a70 := Tryd.lays156.a70, z70 := Tryd.lays156.z70, v70 := Tryd.lays156.v70, t72 := Tryd.lays156.t72, a72 := Tryd.lays156.a72, z72 := Tryd.lays156.z72, v72 := Tryd.lays156.v72, t75 := Tryd.lays156.t75, a75 := Tryd.lays156.a75, z75 := Tryd.lays156.z75, v75 := Tryd.lays156.v75, t164 := Tryd.lays156.t164, a164 := Tryd.lays156.a164, z164 := Tryd.lays156.z164, v164 := Tryd.lays156.v164 }
theorem impl_slashed.lays9 : Lays.n169 Tryd.prog Tryd.lays156_ren := { mixed := Tryd.lays156.mixed, f169 := Tryd.lays156.f169, t0 := Tryd.lays156.t0, a0 := Tryd.lays156.a0, z0 := Tryd.lays156.z0, v0 := Tryd.lays156.v0, t3 := Tryd.lays156.t3, a3 := Tryd.lays156.a3, z3 := Tryd.lays156.z3, v3 := Tryd.lays156.v3, t9 := Tryd.lays156.t9, a9 := Tryd.lays156.a9, z9 := Tryd.lays156.z9, v9 := Tryd.lays156.v9, t37 := Tryd.lays156.t37, a37 := Tryd.lays156.a37, z37 := Tryd.lays156.z37, v37 := Tryd.lays156.v37, t70 := Tryd.lays156.t70, a70 := Tryd.lays156.a70, z70 := Tryd.lays156.z70, v70 := Tryd.lays156.v70, t72 := Tryd.lays156.t72, a72 := Tryd.lays156.a72, z72 := Tryd.lays156.z72, v72 := Tryd.lays156.v72, t127 := Tryd.lays156.t127, a127 := Tryd.lays156.a127, z127 := Tryd.lays156.z127, v127 := Tryd.lays156.v127 }
theorem impl_slashed.text (B b : Nat) (l : List UInt8) (w : World) (h : Lib.IsBuilderF 78 5 B b (Lib.byteCells l) w) (hBw : B ≤ w.heap.size) :
    Calls Tryd.prog 50 #[.pointer (some ⟨b, 0, none⟩)] w fun e w' => e = .returned (.string ⟨l.toArray⟩) ∧ (Lib.IsBuilderF 78 5 B b (Lib.byteCells l) w' ∧ Below B w w' ∧ Lib.OthersKept 5 (some b) w w') :=
  Any.Builder_String_any_k impl_slashed.lays9 Tryd.Builder_Extra_156 B b l w h hBw
theorem impl_slashed.write (B b : Nat) (bs : List Value) (s : ByteArray) (w : World) (h : Lib.IsBuilderF 78 5 B b bs w) (hlen : bs.length + s.size ≤ 140737488355328) (hBw : B ≤ w.heap.size) :
    Calls Tryd.prog 49 #[.pointer (some ⟨b, 0, none⟩), .string s] w fun e w' => e = .returned (.tuple #[.int .i64 s.size, .nilIface]) ∧ (Lib.BuilderAtF 78 5 B b (.pointer (some ⟨b, 0, none⟩)) (bs ++ Lib.strCells s) w' ∧ Below B w w' ∧ Lib.OthersKept 5 (some b) w w') :=
  Any.Builder_WriteString_k impl_slashed.lays Tryd.Builder_Extra_156 B b bs s w h hlen hBw
theorem impl_slashed.kept {T e : TypeId} {B b : Nat} {p : Value} {bs : List Value} {w w' : World} (h : Lib.BuilderAtF T e B b p bs w) (hb : Below w.heap.size w w') : Lib.BuilderAtF T e B b p bs w' := by
  obtain ⟨hB, v, hv, hown, hne⟩ := h
  refine ⟨hB, v, (hb.block b (Array.getElem?_eq_some_iff.mp hv).1).trans hv, ?_, hne⟩
  refine ⟨hown.1, ?_⟩
  rcases hown.2 with hn | ⟨g, cap, cur, fz, h1, h2, h3, rest⟩
  · exact .inl hn
  · exact .inr ⟨g, cap, cur, fz, h1, h2, (hb.block g (Array.getElem?_eq_some_iff.mp h3).1).trans h3, rest⟩
theorem impl_slashed.keptI {T e : TypeId} {B b : Nat} {bs : List Value} {w w' : World} (h : Lib.IsBuilderF T e B b bs w) (hb : Below w.heap.size w w') : Lib.IsBuilderF T e B b bs w' :=
  h.elim (fun x => .inl (impl_slashed.kept x hb)) (fun x => .inr (impl_slashed.kept x hb))
theorem impl_slashed.cells_app (acc : List UInt8) (t : ByteArray) : Lib.byteCells acc ++ Lib.strCells ((⟨#[47]⟩ : ByteArray) ++ t) = Lib.byteCells (acc ++ 47 :: t.data.toList) := by
  have e : ((⟨#[47]⟩ : ByteArray) ++ t).data.toList = 47 :: t.data.toList := by simp
  rw [Lib.strCells, e]
  simp [Lib.byteCells]
theorem Z41.z0 {P : Prop} (h : P := by repeat (first | (with_reducible first | exact HB.out | apply below_alloc | apply pw_below_drewN | apply below_drew1) | exact HB.out)) : P := h
set_option maxHeartbeats 4000000 in
set_option maxRecDepth 100000 in
theorem impl_slashed.calls (k : Nat) (A0 : Option Addr) (c0 : Nat) (l0 : List (List Int)) (r : ByteArray) (w : World) (hr0 : Kd.C (Kd.slice 2 (Kd.int .i64)) w A0 l0.length l0) (hc0 : l0.length ≤ c0) (hlP_ : LaidP w) (h : impl_slashed.f k l0 = some r) :
  Calls Tryd.prog 41 #[.slice A0 l0.length c0] w fun e w' => e = .returned (.string r) ∧ Below w.heap.size w w' := by
 have HR0 := Aside0.mk hr0
 have HC0 := Aside0.mk hc0
 clear hr0 hc0
 have HB := Aside0.mk (Below.refl w.heap.size w)
 have H' := Aside0.mk (show impl_slashed.l0 k [] l0 0 = some r from h)
 clear h
 go_enter Tryd.func41, Tryd.ntmps41
 go_wp2_with (first | ((with_reducible refine gate_dst (N := 3) rfl ?_); refine box_event ?hg (N := 3) ?hd (cs := #[.pointer none, .slice none 0 0]) (t := 78) ?hr ?_; (case hd => rfl); (case hg => rfl); (case hr => first | (go_simp; done) | (go_simp; rfl)); intro gb hg w4 hbox hb; have n0_ := Aside0.mk (below_step Z41.z0 hb); have HBD := Aside0.mk (show Lib.IsBuilderF 78 5 w.heap.size gb (Lib.byteCells []) w4 from .inl ⟨(by rw [hg]; exact (below_size Z41.z0)), .slice none 0 0, hbox, World.ownsRowF_nil _ _ _ _, (by simp [Value.ownBlock])⟩); clear HB; have HB := n0_; clear n0_; clear hg hbox hb))
 go_loopg [8] k (fun kq v8 w' => ∃ (x8 : Int) (acc : List UInt8), v8 = .int .i64 x8 ∧ Aside0 (impl_slashed.l0 kq acc l0 x8 = some r) ∧ Aside0 (kq ≤ k) ∧ Aside0 (Lib.IsBuilderF 78 5 w.heap.size gb (Lib.byteCells acc) w') ∧ Aside0 (Below w.heap.size w w'))
 case atStart => exact ⟨0, [], rfl, H', ⟨Nat.le_refl _⟩, HBD, HB⟩
 case round =>
  clear H' HBD HB
  obtain ⟨x8, acc, rfl, HA, HK1, HBD, HB⟩ := hrel
  cases gk with
  | zero => exact absurd HA.out (by simp [impl_slashed.l0])
  | succ k1 =>
   have H := HA.out
   clear HA
   simp only [impl_slashed.l0] at H
   by_cases c1 : x8 < (l0.length : Int)
   ·rw [if_pos c1] at H
    have c1b0 : decide (x8 < (l0.length : Int)) = true := decide_eq_true c1
    by_cases c2 : 0 ≤ x8
    ·rw [if_pos c2] at H
     have c2b0 : decide (0 ≤ x8) = true := decide_eq_true c2
     obtain ⟨t, AT0, H⟩ := Option.bind_eq_some_iff.mp H
     have AT := Aside0.mk AT0
     clear AT0
     by_cases c3 : acc.length + (t.size + 1) ≤ 140737488355328
     ·rw [if_pos c3] at H
      have H' := Aside0.mk H
      clear H
      have HS := Aside0.mk c3
      clear c3
      obtain ⟨ad, A1, cp, ea, hx, hl, hi⟩ := at_L3 (Kd.C_below HR0.out HB.out) x8 c2 c1
      cases ea
      have HI := Aside0.mk hi
      have HL := Aside0.mk hl
      clear hi hl
      replace c1 := eq_true c1
      replace c2 := eq_true c2
      have cs : 1 + t.size ≤ 9223372036854775807 := by have := HS.out; omega
      have ct := eq_true cs
      have cu := eq_false (Nat.not_lt.2 cs)
      clear cs
      go_wp2_with (first | (go_at_call 13; refine (impl_ListText.calls k1 _ _ (rd_L3 l0 x8) t _ HI.out HL.out (LaidP.below hlP_ HB.out) AT.out).mono ?_; rintro e w5 ⟨rfl, hb⟩; have n0_ := Aside0.mk (impl_slashed.keptI HBD.out hb); have n1_ := Aside0.mk (below_step HB.out hb); clear HBD HB hb; have HBD := n0_; have HB := n1_; clear n0_ n1_) | (go_at_call 49; refine (impl_slashed.write w.heap.size gb (Lib.byteCells acc) _ _ HBD.out (by have h_ := HS.out; have e_ : ((⟨#[47]⟩ : ByteArray) ++ t).size = 1 + t.size := (by rw [ByteArray.size_append]; rfl); rw [e_]; simp only [Lib.byteCells, List.length_map]; omega) (below_size HB.out)).mono ?_; rintro e w6 ⟨rfl, hba, hb, _⟩; have n0_ := Aside0.mk (show Lib.IsBuilderF 78 5 w.heap.size gb (Lib.byteCells (acc ++ 47 :: t.data.toList)) w6 from (impl_slashed.cells_app acc t) ▸ Or.inr hba); have n1_ := Aside0.mk (HB.out.trans hb); clear HBD HB hba hb; have HBD := n0_; have HB := n1_; clear n0_ n1_))
      go_roundg k1
      case measure => have := HK1.out; omega
      case rel => exact ⟨wrap64 (x8 + 1), acc ++ 47 :: t.data.toList, (by first | rfl | (simp; done) | (simp [*]; done)), H', ⟨(by have := HK1.out; omega)⟩, HBD, HB⟩
     rw [if_neg c3] at H; cases H
    rw [if_neg c2] at H; cases H
   rw [if_neg c1] at H
   have c1b0 : decide (x8 < (l0.length : Int)) = false := decide_eq_false c1
   clear c1
   obtain rfl := Option.some.inj H
   go_wp2_with (go_at_call 50; refine (impl_slashed.text w.heap.size gb acc _ HBD.out (below_size HB.out)).mono ?_; rintro e w7 ⟨rfl, _, hb, _⟩; have n1_ := Aside0.mk (HB.out.trans hb); clear HB hb; have HB := n1_; clear n1_)
   go_ret
   exact ⟨rfl, HB.out⟩
/-! ### slices_Clone_int64_int64: function 64: ours -/
def slices_Clone_int64_int64.f (p r c : Int) (l : List Int) (i : Int) : Option (List Int) :=
  if 0 ≤ wrap64 (i * c) then (if wrap64 (i * c) ≤ wrap64 (wrap64 (i + 1) * c) then (if wrap64 (wrap64 (i + 1) * c) ≤ (l.length : Int) then (if ((l.take (wrap64 (wrap64 (i + 1) * c)).toNat).drop (wrap64 (i * c)).toNat).length < 17592186044416 then some ((l.take (wrap64 (wrap64 (i + 1) * c)).toNat).drop (wrap64 (i * c)).toNat) else none) else none) else none) else none
theorem slices_Clone_int64_int64.parts {p r c : Int} {l : List Int} {i : Int} {t : List Int} (h : slices_Clone_int64_int64.f p r c l i = some t) :
    0 ≤ wrap64 (i * c) ∧ wrap64 (i * c) ≤ wrap64 (wrap64 (i + 1) * c) ∧ wrap64 (wrap64 (i + 1) * c) ≤ (l.length : Int) ∧ (l.take (wrap64 (wrap64 (i + 1) * c)).toNat).drop (wrap64 (i * c)).toNat = t ∧ t.length < 17592186044416 := by
  unfold slices_Clone_int64_int64.f at h
  by_cases h0 : 0 ≤ wrap64 (i * c)
  · rw [if_pos h0] at h
    by_cases h1 : wrap64 (i * c) ≤ wrap64 (wrap64 (i + 1) * c)
    · rw [if_pos h1] at h
      by_cases h2 : wrap64 (wrap64 (i + 1) * c) ≤ (l.length : Int)
      · rw [if_pos h2] at h
        by_cases h3 : ((l.take (wrap64 (wrap64 (i + 1) * c)).toNat).drop (wrap64 (i * c)).toNat).length < 17592186044416
        · rw [if_pos h3] at h
          obtain rfl := Option.some.inj h
          exact ⟨h0, h1, h2, rfl, h3⟩
        · rw [if_neg h3] at h; cases h
      · rw [if_neg h2] at h; cases h
    · rw [if_neg h1] at h; cases h
  · rw [if_neg h0] at h; cases h
set_option maxRecDepth 100000 in
theorem slices_Clone_int64_int64.nil0 (c : Nat) (W : World) : (binOp .eql 30 (.slice none 0 c) (.slice none 0 0)).run Tryd.prog W = .ok (.bool true) W := by
  first | rfl | (simp [binOp, Tryd.underlying30]; done) | (simp [binOp]; done)
set_option maxRecDepth 100000 in
theorem slices_Clone_int64_int64.nil1 (a : Addr) (n c : Nat) (W : World) : (binOp .eql 30 (.slice (some a) n c) (.slice none 0 0)).run Tryd.prog W = .ok (.bool false) W := by
  first | rfl | (simp [binOp, Tryd.underlying30]; done) | (simp [binOp]; done)
theorem Z64.z0 {P : Prop} (h : P := by repeat (first | (with_reducible first | exact HB.out | apply below_alloc | apply pw_below_drewN | apply below_drew1) | exact HB.out)) : P := h
set_option maxHeartbeats 4000000 in
set_option maxRecDepth 100000 in
theorem slices_Clone_int64_int64.calls (A : Option Addr) (c : Nat) (l : List Int) (w : World) (hr : Kd.C (Kd.int .i64) w A l.length l) (hc : l.length ≤ c) (hlen : l.length < 17592186044416) :
  Calls Tryd.prog 64 #[.slice A l.length c] w fun e w' => ∃ v0_ : Value, e = .returned v0_ ∧ Kd.R (Kd.int .i64) 2 w' w.heap.size (fun _ => True) v0_ l ∧ Below w.heap.size w w' := by
 cases A with
 | none =>
  have h0 : l = [] := by
   rcases Nat.eq_zero_or_pos l.length with e | e
   ·exact List.eq_nil_of_length_eq_zero e
   obtain ⟨a, ha, _⟩ := hr.2.2 e
   cases ha
  subst h0
  clear hr hlen
  have hq := fun W => slices_Clone_int64_int64.nil0 c W
  go_enter Tryd.func64, Tryd.ntmps64
  go_wp2
  go_ret
  exact ⟨_, rfl, Kd.R_nil _ _ _ _ _, (by repeat (first | exact Below.refl _ _ | apply below_drew1 | apply pw_below_drewN))⟩
 | some ad =>
  have HR0 := Aside0.mk hr
  have HC0 := Aside0.mk hc
  have HL := Aside0.mk hlen
  clear hr hc hlen
  have HB := Aside0.mk (Below.refl w.heap.size w)
  have hq := fun W => slices_Clone_int64_int64.nil1 ad l.length c W
  go_enter Tryd.func64, Tryd.ntmps64
  go_wp2_with (first | ((with_reducible refine gate_dst (N := 5) rfl ?_); refine Kd.R_lit (Kd.int .i64) _ 2 ?hg (N := 5) ?hd (xs := ([] : List Int)) (inner := []) (ok := fun _ => True) (okp := fun _ => True) ?hr ?hp (fun _ hk => hk) trivial (Below.refl _ _) (Nat.le_refl _) (by simp) ?_; (case hd => rfl); (case hg => rfl); (case hr => first | (go_simp; done) | (go_simp; rfl)); (case hp => exact (Reps.none _ _)); intro v102 w3 ho4 hb hg_ hnew_; clear hg_ hnew_; have n0_ := Aside0.mk (Kd.R_lower ho4 (below_size Z64.z0)); have n1_ := Aside0.mk (below_step Z64.z0 hb); clear HB; have HO103 := n0_; have HB := n1_; clear n0_ n1_; clear hb ho4) | ((with_reducible refine gate_builtin (b := .append) (xs := #[.tmp 5, .tmp 6]) rfl ?_); at_builtin; refine Kd.R_append_rows (Kd.int .i64) (w0 := w) w.heap.size rfl (.tmp 5) (.tmp 6) 30 2 (.int .i64 0) 8 rfl Tryd.underlying30 info2 rfl (by decide) (by omega) v102 ([] : List Int) l _ _ _ (fun _ => True) (fun _ => False) rfl rfl ?aO ?aR (fun _ _ h => h) (fun _ h => h.elim) ?aF ?aB ?aS ?aL ?_; (case aR => repeat (first | exact (Kd.C_below HR0.out HB.out) | (with_reducible refine Kd.C_alloc ?_ _) | (with_reducible refine Kd.C_drewN ?_ _) | (with_reducible refine Kd.C_drew ?_))); (case aB => exact Z64.z0); (case aF => exact (fun _ _ => trivial)); (case aO => exact (by (with_reducible repeat (first | apply Kd.R_alloc | apply Kd.R_drewN | apply Kd.R_drew)); exact HO103.out)); (case aS => exact (below_size Z64.z0)); (case aL => have := HL.out; simp only [List.length_nil]; omega); intro v105 w5 ho hb hg hat; rw [List.nil_append] at ho; have n0_ := Aside0.mk (hb); have n1_ := Aside0.mk (ho); clear HB HO103; have HB := n0_; have HO106 := n1_; clear n0_ n1_; clear ho hb hg hat))
  go_ret
  exact ⟨_, rfl, (by (with_reducible repeat (first | apply Kd.R_alloc | apply Kd.R_drewN | apply Kd.R_drew)); exact HO106.out), Z64.z0⟩
def slices_Clone_int64_int64.o.f (l : List Int) : Option (List Int) := if l.length < 17592186044416 then some l else none
theorem slices_Clone_int64_int64.o.calls (A : Option Addr) (c : Nat) (l r : List Int) (w : World) (hr : Kd.C (Kd.int .i64) w A l.length l) (hc : l.length ≤ c) (h : slices_Clone_int64_int64.o.f l = some r) :
    Calls Tryd.prog 64 #[.slice A l.length c] w fun e w' => ∃ v0_ : Value, e = .returned v0_ ∧ Kd.R (Kd.int .i64) 2 w' w.heap.size (fun _ => True) v0_ r ∧ Below w.heap.size w w' := by
  unfold slices_Clone_int64_int64.o.f at h
  by_cases h0 : l.length < 17592186044416
  · rw [if_pos h0] at h
    obtain rfl := Option.some.inj h
    exact slices_Clone_int64_int64.calls A c l w hr hc h0
  · rw [if_neg h0] at h; cases h
/-! ### impl_Matrix_row: function 65: ours -/
set_option maxHeartbeats 4000000 in
set_option maxRecDepth 100000 in
theorem impl_Matrix_row.calls (p r c : Int) (A : Option Addr) (cap : Nat) (l : List Int) (i : Int) (w : World) (hr : Kd.C (Kd.int .i64) w A l.length l) (hc : l.length ≤ cap)
  (h0 : 0 ≤ wrap64 (i * c)) (h1 : wrap64 (i * c) ≤ wrap64 (wrap64 (i + 1) * c)) (h2 : wrap64 (wrap64 (i + 1) * c) ≤ (l.length : Int)) :
  Calls Tryd.prog 65 #[.agg #[.int .i64 p, .int .i64 r, .int .i64 c, .slice A l.length cap], .int .i64 i] w fun e w' => ∃ A' c', e = .returned (.slice A' ((l.take (wrap64 (wrap64 (i + 1) * c)).toNat).drop (wrap64 (i * c)).toNat).length c') ∧
   Kd.C (Kd.int .i64) w' A' ((l.take (wrap64 (wrap64 (i + 1) * c)).toNat).drop (wrap64 (i * c)).toNat).length ((l.take (wrap64 (wrap64 (i + 1) * c)).toNat).drop (wrap64 (i * c)).toNat) ∧ ((l.take (wrap64 (wrap64 (i + 1) * c)).toNat).drop (wrap64 (i * c)).toNat).length ≤ c' ∧ Below w.heap.size w w' := by
 have hu42 := Tryd.underlying42
 obtain ⟨lo, hlo⟩ : ∃ j_ : Int, wrap64 (i * c) = j_ := ⟨_, rfl⟩
 obtain ⟨i1, hi1⟩ : ∃ j_ : Int, wrap64 (i + 1) = j_ := ⟨_, rfl⟩
 obtain ⟨hi, hhi⟩ : ∃ j_ : Int, wrap64 (i1 * c) = j_ := ⟨_, rfl⟩
 rw [hlo] at h0
 rw [hlo, hi1, hhi] at h1
 rw [hi1, hhi] at h2
 rw [hlo, hi1, hhi]
 have hlow : IntKind.i64.wrap (i * c) = lo := (i64_w _).trans hlo
 have hi1w : IntKind.i64.wrap (i + 1) = i1 := (i64_w _).trans hi1
 have hhiw : IntKind.i64.wrap (i1 * c) = hi := (i64_w _).trans hhi
 obtain ⟨i033, hi033, _, hsz33, _⟩ := info_parts info2
 obtain ⟨A33, hcut33, hA33, hC33⟩ := print_mid_of (P := Tryd.prog) (Value.int .i64) 0 30 2 .i64 .i64 Tryd.underlying30 hi033 hsz33 A cap l lo hi h0 h1 h2 hc
 have HR := Aside0.mk (Kd.C_of_reads (h1 := fun _ => rfl) (hA33 _ (Kd.reads_of_C hr)) : Kd.C (Kd.int .i64) w A33 ((l.take hi.toNat).drop lo.toNat).length ((l.take hi.toNat).drop lo.toNat))
 have HL := Aside0.mk hC33
 clear hA33 hC33 hi033 hsz33 h0 h1 h2 hr hc hlo hi1 hhi
 generalize (l.take hi.toNat).drop lo.toNat = z at HR HL hcut33 ⊢
 go_enter Tryd.func65, Tryd.ntmps65
 go_wp2_with (first | ((with_reducible refine gate_dst (N := 2) rfl ?_); refine box_event ?hg (N := 2) ?hd (cs := #[.int .i64 p, .int .i64 r, .int .i64 c, .slice A l.length cap]) (t := 42) ?hr ?_; (case hd => rfl); (case hg => rfl); (case hr => first | (go_simp; done) | (go_simp; rfl)); intro gb hg w1 hbox hb; have hcz_0 : w1.cell? ⟨gb, 0, none⟩ = some (.int .i64 p) := (blk_cell hbox 0).trans rfl; have hcz_1 : w1.cell? ⟨gb, 1, none⟩ = some (.int .i64 r) := (blk_cell hbox 1).trans rfl; have hcz_2 : w1.cell? ⟨gb, 2, none⟩ = some (.int .i64 c) := (blk_cell hbox 2).trans rfl; have hcz_3 : w1.cell? ⟨gb, 3, none⟩ = some (.slice A l.length cap) := (blk_cell hbox 3).trans rfl; have HR1 := Aside0.mk (Kd.C_below HR.out hb); have HB1 := Aside0.mk hb; clear hb hbox hg))
 go_ret
 exact ⟨A33, _, rfl, HR1.out, HL.out, HB1.out⟩
end Go.Proofs.YtkndhjchlnepmaaDoor.F
end
