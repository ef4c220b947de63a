-- Texts of this claim, merged by packw.py (a program of this session's).
import Derived.Test.YtkndhjchlnepmaaGreatDoorQFnExactReadMatrix2
import Derived.Test.YtkndhjchlnepmaaGreatDoorQFnExactReadMatrix6
import Derived.Test.YtkndhjchlnepmaaGreatDoorQFnExactReadMatrix5

section
namespace Go.Proofs.YtkndhjchlnepmaaGreatDoor.F
open Go.RowKit Go.Proofs.YtkndhjchlnepmaaGreatDoorW.PrintWords Go.Proofs.YtkndhjchlnepmaaGreatDoorW.PrintLast Go.Proofs.YtkndhjchlnepmaaGreatDoorW.PrintMore
attribute [local go_sem] max2_int min2_int max_two min_two max_three min_three max_four min_four   -- for this text's walks alone
set_option linter.unusedVariables false
set_option linter.unusedSimpArgs false
/-! ### impl_ListText_1: function 99: ours -/
def noValue (x : Int) : Bool := !(decide (-1000000000000 ≤ x) && decide (x ≤ 1000000000000))
set_option maxHeartbeats 4000000 in
set_option maxRecDepth 100000 in
theorem impl_ListText_1.ask (w : World) : AnsI 99 #[] noValue w := fun W x _ => by
  by_cases h1 : -1000000000000 ≤ x
  · have g1 := Aside0.mk h1
    have b1 : decide (-1000000000000 ≤ x) = true := decide_eq_true h1
    clear h1
    by_cases h2 : x ≤ 1000000000000
    · have g2 := Aside0.mk h2
      have b2 : decide (x ≤ 1000000000000) = true := decide_eq_true h2
      clear h2
      go_enter Tryz.func99, Tryz.ntmps99
      go_wp2
      go_ret
      exact ⟨by unfold noValue; first | rfl | (simp [g1.out, g2.out]; done) | (simp [*]; done), 0, rfl⟩
    · have g2 := Aside0.mk h2
      have b2 : decide (x ≤ 1000000000000) = false := decide_eq_false h2
      clear h2
      go_enter Tryz.func99, Tryz.ntmps99
      go_wp2
      go_ret
      exact ⟨by unfold noValue; first | rfl | (simp [g1.out, g2.out]; done) | (simp [*]; done), 0, rfl⟩
  · have g1 := Aside0.mk h1
    have b1 : decide (-1000000000000 ≤ x) = false := decide_eq_false h1
    clear h1
    go_enter Tryz.func99, Tryz.ntmps99
    go_wp2
    go_ret
    exact ⟨by unfold noValue; first | rfl | (simp [g1.out]; done) | (simp [*]; done), 0, rfl⟩
def impl_ListText_1.any.f (l0 : List Int) : Option Bool := some (l0.any noValue)
theorem impl_ListText_1.any.calls (A0 : Option Addr) (c0 : Nat) (l0 : List Int) (r : Bool) (w : World) (hr0 : Kd.C (Kd.int .i64) w A0 l0.length l0) (hc0 : l0.length ≤ c0) (h : impl_ListText_1.any.f l0 = some r) :
    Calls Tryz.prog 79 #[.slice A0 l0.length c0, .func (.func 99) #[] #[]] w fun e w' => e = .returned (.bool r) ∧ Below w.heap.size w w' := by
  refine (slices_ContainsFunc_int64_int64.tells 99 #[] (enters_of Tryz.func99 (by kernel_rfl) rfl) noValue A0 c0 l0 w (impl_ListText_1.ask w) hr0 hr0.2.1).mono ?_
  rintro e w' ⟨rfl, q, rfl⟩
  have hf := Option.some.inj h
  exact ⟨by rw [← hf], pw_below_drewN (Below.refl _ w) q⟩
/-! ### strings_Join: function 101: ours -/
def strings_Join.f (l0 : List ByteArray) (a1 : ByteArray) : Option ByteArray := if l0.length ≤ 1048576 ∧ (Lib.join (l0.map (·.data.toList)) a1.data.toList).length ≤ 140737488355328 then some ⟨(Lib.join (l0.map (·.data.toList)) a1.data.toList).toArray⟩ else none
theorem strings_Join.calls (A0 : Option Addr) (c0 : Nat) (l0 : List ByteArray) (a1 : ByteArray) (r : ByteArray) (w : World) (hr0 : Kd.C Kd.string w A0 l0.length l0) (hc0 : l0.length ≤ c0) (h : strings_Join.f l0 a1 = some r) :
  Calls Tryz.prog 101 #[.slice A0 l0.length c0, .string a1] w fun e w' => e = .returned (.string r) ∧ Below w.heap.size w w' := by
 unfold strings_Join.f at h
 by_cases hb : l0.length ≤ 1048576 ∧ (Lib.join (l0.map (·.data.toList)) a1.data.toList).length ≤ 140737488355328
 ·rw [if_pos hb] at h
  obtain rfl := Option.some.inj h
  cases l0 with
  | nil =>
   refine (Tryz.strings_Join_none A0 c0 a1 w).mono ?_
   rintro e w' ⟨rfl, rfl⟩
   exact ⟨rfl, Below.refl _ _⟩
  | cons x xs =>
   obtain ⟨ad, rfl, hcell⟩ := hr0.2.2 (by simp)
   have hc : ∀ (j : Nat) y, (x :: xs)[j]? = some y → w.cell? (ad.add j) = some (.string y) := fun j y hj => by
    obtain ⟨c, hl, hK, hu⟩ := hcell j y hj
    have hK' : c = [Value.string y] := hK
    subst hK'
    have := hu 0 _ rfl
    simpa [Kd.string, Kd.scalar] using this
   have h0 := hc 0 x rfl
   obtain ⟨bk, o, sp⟩ := ad
   have hsp : sp = none := by
    cases sp with
    | none => rfl
    | some q =>
     exfalso
     simp only [Addr.add, World.cell?, if_true] at h0
     cases hh : w.heap[bk]? with
     | none => rw [hh] at h0; cases h0
     | some ob => cases ob <;> (rw [hh] at h0; simp at h0)
   subst hsp
   have hbk : bk < w.heap.size := World.block_lt_of_cell? w _ h0
   refine (Tryz.strings_Join bk o c0 (x :: xs) a1 w (fun j y hj => ?_) hbk (by have := hb.1; omega) hc0 hb.2).mono ?_
   ·have := hc j y hj
    by_cases hj0 : j = 0
    ·subst hj0; simpa [Addr.add] using this
    simpa [Addr.add, hj0] using this
   rintro e w' ⟨rfl, hbel⟩
   exact ⟨rfl, hbel⟩
 rw [if_neg hb] at h; cases h
/-! ### impl_ListText: function 75 -/
mutual
def impl_ListText.j0 : Nat → List Int → Bool → Option (ByteArray)
  | 0, _, _ => none
  | k + 1, x0, x12 => if x12 = true then (some (⟨#[]⟩ : ByteArray)) else (if (x0.length : Int) = 0 then (some (⟨#[45]⟩ : ByteArray)) else (impl_ListText.l0 k ([] : List ByteArray) x0 (x0.length : Int) 0))
def impl_ListText.l0 : Nat → List ByteArray → List Int → Int → Int → Option (ByteArray)
  | 0, _, _, _, _ => none
  | k + 1, x3, x16, x17, x18 => if x18 < x17 then (if 0 ≤ x18 then (if x18 < (x16.length : Int) then ((impl_Decimal.f (rd x16 x18)).bind fun t103 => (if x3.length < 8796093022208 then (impl_ListText.l0 k (x3 ++ [t103]) x16 x17 (wrap64 (x18 + 1))) else (none))) else (none)) else (none)) else ((strings_Join.f x3 (⟨#[44]⟩ : ByteArray)).bind fun t107 => (some t107))
end
def impl_ListText.f (k : Nat) (l0 : List Int) : Option (ByteArray) := if (l0.length : Int) > 64 then (impl_ListText.j0 k l0 true) else ((impl_ListText_1.any.f l0).bind fun t101 => (impl_ListText.j0 k l0 t101))
theorem Z75.z3 {P : Prop} (h : P := by (try simp only [List.map_toArray, List.map_cons, List.map_nil]); first | done | rfl | (simp only [List.length_drop, List.length_take]; rfl)) : P := h
theorem Z75.z2 {P : Prop} (h : P := by first | rfl | (simp [errW_none, errW_some] <;> rfl) | (simp [*, errW_none, errW_some] <;> rfl)) : P := h
theorem Z75.z1 {P : Prop} (h : P := by (with_reducible repeat (first | apply Kd.R_alloc | apply Kd.R_drewN | apply Kd.R_drew)); exact HO_3.out) : P := h
theorem Z75.z0 {P : Prop} (h : P := by repeat (first | (with_reducible first | exact HB.out | apply below_alloc | apply pw_below_drewN | apply below_drew1) | exact HB.out)) : P := h
set_option maxHeartbeats 8000000 in
set_option maxRecDepth 100000 in
theorem impl_ListText.calls (k : Nat) (A0 : Option Addr) (c0 : Nat) (l0 : List Int) (r : ByteArray) (w : World) (hr0 : Kd.C (Kd.int .i64) w A0 l0.length l0) (hc0 : l0.length ≤ c0) (hlP_ : LaidP w) (h : impl_ListText.f k l0 = some r) :
  Calls Tryz.prog 75 #[.slice A0 l0.length c0] w fun e w' => e = .returned (.string r) ∧ Below w.heap.size w w' := by
 have HR0 := Aside0.mk hr0
 have HC0 := Aside0.mk hc0
 clear hr0 hc0
 have HB := Aside0.mk (Below.refl w.heap.size w)
 have H : (if (l0.length : Int) > 64 then (impl_ListText.j0 k l0 true) else ((impl_ListText_1.any.f l0).bind fun t101 => (impl_ListText.j0 k l0 t101))) = some r := h
 clear h
 have HC2 := Aside0.mk H
 clear H
 go_enter Tryz.func75, Tryz.ntmps75
 go_upto_region 1 with (fail)
 go_cut [12] (fun v12 wc => ∃ (kq : Nat) (x12_1 : Bool), v12 = .bool x12_1 ∧ Aside0 (impl_ListText.j0 kq l0 x12_1 = some r) ∧ Aside0 (kq ≤ k) ∧ Aside0 (Below w.heap.size w wc))
 case first =>
  have H := HC2.out
  clear HC2
  by_cases c3 : (l0.length : Int) > 64
  ·rw [if_pos c3] at H
   have c3b0 : decide (64 < (l0.length : Int)) = true := decide_eq_true c3
   have c3b1 : decide (64 < l0.length) = true := decide_eq_true (by omega)
   clear c3
   (first | rw [c3b0] | (simp only [i64_w, i32_w]; rw [c3b0]) | skip)
   have H' := Aside0.mk H
   clear H
   go_wp2
   go_meet
   case rel => exact ⟨_, (true), (by first | rfl | (simp; done) | (simp [*]; done)), H', ⟨(by first | omega | exact Nat.le_refl _)⟩, ⟨Z75.z0⟩⟩
  rw [if_neg c3] at H
  have c3b0 : decide (64 < (l0.length : Int)) = false := decide_eq_false c3
  have c3b1 : decide (64 < l0.length) = false := decide_eq_false (by omega)
  clear c3
  (first | rw [c3b0] | (simp only [i64_w, i32_w]; rw [c3b0]) | skip)
  replace H := Option.bind_eq_some_iff.mp H
  obtain ⟨t101, A40, H⟩ := H
  replace H : (impl_ListText.j0 k l0 t101) = some r := H
  have A4 := Aside0.mk A40
  clear A40
  have H' := Aside0.mk H
  clear H
  go_wp2_with (first | (go_at_call 79; (with_reducible refine (impl_ListText_1.any.calls _ _ l0 t101 _ ?side1 ?side2 A4.out).mono ?_); (case side1 => exact (by repeat (first | exact (Kd.C_below HR0.out HB.out) | (with_reducible refine Kd.C_alloc ?_ _) | (with_reducible refine Kd.C_drewN ?_ _) | (with_reducible refine Kd.C_drew ?_)))); (case side2 => exact HC0.out); rintro e w5 ⟨rfl, hb⟩; have n0_ := Aside0.mk (below_step Z75.z0 hb); clear HB; have HB := n0_; clear n0_; (try clear hb); (try clear hb2); (try clear hk); (try clear hi)))
  go_meet
  case rel => exact ⟨_, (t101), (by first | rfl | (simp; done) | (simp [*]; done)), H', ⟨(by first | omega | exact Nat.le_refl _)⟩, ⟨Z75.z0⟩⟩
 case rest =>
  clear HC2
  try clear p2
  try clear c3
  try clear c3b0
  try clear c3b1
  obtain ⟨kq, x12_1, rfl, HA, HJ1, HB⟩ := hcut
  cases kq with
  | zero => exact absurd HA.out (by simp [impl_ListText.j0])
  | succ kj1 =>
   have H := HA.out
   clear HA
   simp only [impl_ListText.j0] at H
   by_cases c6 : x12_1 = true
   ·subst c6
    have H1 : (some (⟨#[]⟩ : ByteArray)) = some r := by rw [if_pos rfl] at H; exact H
    clear H
    have H := H1
    clear H1
    obtain rfl := Option.some.inj H
    go_wp2
    go_ret
    exact ⟨Z75.z2, Z75.z0⟩
   replace c6 := Bool.eq_false_iff.mpr c6
   subst c6
   have H1 : (if (l0.length : Int) = 0 then (some (⟨#[45]⟩ : ByteArray)) else (impl_ListText.l0 kj1 ([] : List ByteArray) l0 (l0.length : Int) 0)) = some r := by rw [if_neg (show ¬ (false = true) by decide)] at H; exact H
   clear H
   have H := H1
   clear H1
   by_cases c7 : (l0.length : Int) = 0
   ·rw [if_pos c7] at H
    have c7b0 : ((l0.length : Int) == 0) = true := beq_iff_eq.mpr c7
    have c7b1 : ((l0.length : Int) != 0) = false := bne_eq_false_iff_eq.mpr c7
    clear c7
    obtain rfl := Option.some.inj H
    go_wp2
    go_ret
    exact ⟨Z75.z2, Z75.z0⟩
   rw [if_neg c7] at H
   have c7b0 : ((l0.length : Int) == 0) = false := beq_eq_false_iff_ne.mpr c7
   have c7b1 : ((l0.length : Int) != 0) = true := bne_iff_ne.mpr c7
   have c7b2 : ¬ (l0 = []) := fun h_ => c7 (by rw [h_]; rfl)
   have H' := Aside0.mk H
   clear H
   go_wp2
   go_loopg [3, 18] kj1 (fun kq v3 v18 w' => ∃ (x3_2 : List ByteArray) (x18_2 : Int), v18 = .int .i64 x18_2 ∧ Aside0 (impl_ListText.l0 kq x3_2 l0 (l0.length : Int) x18_2 = some r) ∧ Aside0 (kq ≤ kj1) ∧ Aside0 (Kd.R Kd.string 9 w' w.heap.size (fun _ => True) v3 x3_2) ∧ Aside0 (Below w.heap.size w w'))
   case atStart => exact ⟨(([] : List ByteArray)), (0), (by first | rfl | (simp; done) | (simp [*]; done)), H', ⟨Nat.le_refl _⟩, ⟨(by first | exact Kd.R_nil _ _ _ _ _ | exact Kd.N_nil _ _ _ _ _ | exact Kd.V_nil _ _ _ _ _ | exact Kd.Q_nil _ _ _ _ _ | exact Kd.S_nil _ _ _ _ _)⟩, ⟨Z75.z0⟩⟩
   case round =>
    clear H'
    try clear p2
    try clear c3
    try clear c3b0
    try clear c3b1
    try clear c6
    try clear c7
    try clear c7b0
    try clear c7b1
    try clear c7b2
    try clear p2
    obtain ⟨x3_2, x18_2, rfl, HA, HK2, HO_3, HB⟩ := hrel
    cases gk with
    | zero => exact absurd HA.out (by simp [impl_ListText.l0])
    | succ k2 =>
     have H := HA.out
     clear HA
     simp only [impl_ListText.l0] at H
     by_cases c8 : x18_2 < (l0.length : Int)
     ·rw [if_pos c8] at H
      have c8b0 : decide (x18_2 < (l0.length : Int)) = true := decide_eq_true c8
      clear c8
      by_cases c9 : 0 ≤ x18_2
      ·rw [if_pos c9] at H
       have c9b0 : decide (0 ≤ x18_2) = true := decide_eq_true c9
       clear c9
       by_cases c10 : x18_2 < (l0.length : Int)
       ·rw [if_pos c10] at H
        have c10b0 : decide (x18_2 < (l0.length : Int)) = true := decide_eq_true c10
        clear c10
        replace H := Option.bind_eq_some_iff.mp H
        obtain ⟨t103, A110, H⟩ := H
        replace H : (if x3_2.length < 8796093022208 then (impl_ListText.l0 k2 (x3_2 ++ [t103]) l0 (l0.length : Int) (wrap64 (x18_2 + 1))) else (none)) = some r := H
        have A11 := Aside0.mk A110
        clear A110
        by_cases c12 : x3_2.length < 8796093022208
        ·rw [if_pos c12] at H
         have LMc12 := Aside0.mk c12
         clear c12
         obtain ⟨y104, hy104⟩ : ∃ y_ : List ByteArray, y_ = (x3_2 ++ [t103]) := ⟨_, rfl⟩
         replace H : (impl_ListText.l0 k2 y104 l0 (l0.length : Int) (wrap64 (x18_2 + 1))) = some r := by first | (rw [hy104]; with_reducible exact H) | (have H2_ := (Option.bind_some _ _).symm.trans H; rw [hy104]; with_reducible exact H2_) | (have H2_ := (Option.bind_some _ _).symm.trans H; with_reducible exact H2_) | with_reducible exact H | (rw [hy104]; exact H) | exact H
         have Ny104 := Aside0.mk hy104
         clear hy104
         have H' := Aside0.mk H
         clear H
         have p102 : 0 ≤ (x18_2 : Int) := of_decide_eq_true (by first | (with_reducible assumption) | assumption)
         have q102 : x18_2 < (l0.length : Int) := of_decide_eq_true (by first | (with_reducible assumption) | assumption)
         obtain ⟨ad102, e102, hx102_0⟩ := Kd.at_int HR0.out x18_2 p102 q102
         cases e102
         replace hx102_0 := (HB.out.cell (World.block_lt_of_cell? w _ hx102_0)).trans hx102_0
         replace p102 := eq_true p102
         replace q102 := eq_true q102
         go_wp2_with (first | ((with_reducible refine gate_callee (f := 38) rfl ?_); refine goesL_ (some 24) rfl rfl Tryz.func38 (by kernel_rfl) rfl #[.int .i64 (rd l0 x18_2)] rfl Z75.z3 ?_; (with_reducible refine (impl_Decimal.calls (rd l0 x18_2) t103 _ ?side1 A11.out).mono ?_); (case side1 => exact (by exact LaidP.below hlP_ Z75.z0)); rintro e w13 ⟨rfl, hb⟩; refine ⟨_, rfl, ?_⟩; have n0_ := Aside0.mk (Kd.R_below Z75.z1 hb); have n1_ := Aside0.mk (below_step Z75.z0 hb); clear HO_3 HB; have HO_3 := n0_; have HB := n1_; clear n0_ n1_; (try clear hb); (try clear hb2); (try clear hk); (try clear hi)) | ((with_reducible refine gate_builtin (b := .append) (xs := #[.tmp 22, .tmp 25]) rfl ?_); at_builtin; refine Kd.R_append Kd.string (w0 := w) w.heap.size rfl (.tmp 22) (.tmp 25) 75 9 (.string ⟨#[]⟩) 16 rfl Tryz.underlying75 info9 rfl (by decide) (by omega) u3 x3_2 t103 [.string t103] (fun _ => True) (fun _ => False) rfl rfl ?aP (fun _ hk => hk.elim) ?aF ?aO ?aB ?aS ?aL ?_; (case aP => exact rfl); (case aB => exact Z75.z0); (case aF => exact (fun _ _ => trivial)); (case aO => exact Z75.z1); (case aS => exact (below_size Z75.z0)); (case aL => have := LMc12.out; omega); intro v105 w14 ho hb hg hat; rw [← Ny104.out] at ho; have n0_ := Aside0.mk (hb); have n1_ := Aside0.mk (ho); clear HB HO_3; have HB := n0_; have HO106 := n1_; clear n0_ n1_; clear ho hb hg hat))
         go_roundg k2
         case measure => have := HJ1.out; have := HK2.out; omega
         case rel => exact ⟨(y104), (wrap64 (x18_2 + 1)), (by first | rfl | (simp; done) | (simp [*]; done)), H', ⟨(by have := HJ1.out; have := HK2.out; omega)⟩, ⟨(by (with_reducible repeat (first | apply Kd.R_alloc | apply Kd.R_drewN | apply Kd.R_drew)); exact HO106.out)⟩, ⟨Z75.z0⟩⟩
        rw [if_neg c12] at H
        exact absurd H (by simp)
       rw [if_neg c10] at H
       exact absurd H (by simp)
      rw [if_neg c9] at H
      exact absurd H (by simp)
     rw [if_neg c8] at H
     have c8b0 : decide (x18_2 < (l0.length : Int)) = false := decide_eq_false c8
     clear c8
     replace H := Option.bind_eq_some_iff.mp H
     obtain ⟨t107, A150, H⟩ := H
     replace H : (some t107) = some r := H
     have A15 := Aside0.mk A150
     clear A150
     obtain rfl := Option.some.inj H
     obtain ⟨Ao16, co16, eo16⟩ := Kd.R_slice HO_3.out
     subst eo16
     go_wp2_with (first | ((with_reducible refine gate_callee (f := 101) rfl ?_); refine goesL_ (some 29) rfl rfl Tryz.func101 (by kernel_rfl) rfl #[.slice Ao16 x3_2.length co16, .string (⟨#[44]⟩ : ByteArray)] rfl Z75.z3 ?_; (with_reducible refine (strings_Join.calls _ _ x3_2 (⟨#[44]⟩ : ByteArray) t107 _ ?side1 ?side2 A15.out).mono ?_); (case side1 => exact (by repeat (first | exact (Kd.R_reads' HO_3.out).2.2 | (with_reducible refine Kd.C_alloc ?_ _) | (with_reducible refine Kd.C_drewN ?_ _) | (with_reducible refine Kd.C_drew ?_)))); (case side2 => exact (Kd.R_reads' HO_3.out).2.1); rintro e w17 ⟨rfl, hb⟩; refine ⟨_, rfl, ?_⟩; have n0_ := Aside0.mk (Kd.R_below Z75.z1 hb); have n1_ := Aside0.mk (below_step Z75.z0 hb); clear HO_3 HB; have HO_3 := n0_; have HB := n1_; clear n0_ n1_; (try clear hb); (try clear hb2); (try clear hk); (try clear hi)))
     go_ret
     exact ⟨Z75.z2, Z75.z0⟩
/-! ### impl_slashed: function 39: ours -/
def impl_slashed.l0 : Nat → List UInt8 → List (List Int) → Int → Option ByteArray
  | 0, _, _, _ => none
  | k + 1, acc, x6, x8 => if x8 < (x6.length : Int) then (if 0 ≤ x8 then ((impl_ListText.f k (rd_L2 x6 x8)).bind fun t => (if acc.length + (t.size + 1) ≤ 140737488355328 then (impl_slashed.l0 k (acc ++ 47 :: t.data.toList) x6 (wrap64 (x8 + 1))) else (none))) else (none)) else (some ⟨acc.toArray⟩)
def impl_slashed.f (k : Nat) (l0 : List (List Int)) : Option ByteArray := impl_slashed.l0 k [] l0 0
theorem impl_slashed.lays : Lays.n166 Tryz.prog Tryz.lays156_ren := { mixed := Tryz.lays156.mixed, f166 := Tryz.lays156.f166, f240 := Tryz.lays156.f240, f276 := Tryz.lays156.f276, t0 := Tryz.lays156.t0, a0 := Tryz.lays156.a0, z0 := Tryz.lays156.z0, v0 := Tryz.lays156.v0, t3 := Tryz.lays156.t3, a3 := Tryz.lays156.a3, z3 := Tryz.lays156.z3, v3 := Tryz.lays156.v3, t4 := Tryz.lays156.t4, a4 := Tryz.lays156.a4, z4 := Tryz.lays156.z4, v4 := Tryz.lays156.v4, t9 := Tryz.lays156.t9, a9 := Tryz.lays156.a9, z9 := Tryz.lays156.z9, v9 := Tryz.lays156.v9, t20 := Tryz.lays156.t20, a20 := Tryz.lays156.a20, z20 := Tryz.lays156.z20, v20 := Tryz.lays156.v20, t37 := Tryz.lays156.t37, a37 := Tryz.lays156.a37, z37 := Tryz.lays156.z37, v37 := Tryz.lays156.v37, t70 := Tryz.lays156.t70, a70 := Tryz.lays156.a70, z70 := Tryz.lays156.z70, v70 := Tryz.lays156.v70, t72 := Tryz.lays156.t72, a72 := Tryz.lays156.a72, z72 := Tryz.lays156.z72, v72 := Tryz.lays156.v72, t75 := Tryz.lays156.t75, a75 := Tryz.lays156.a75, z75 := Tryz.lays156.z75, v75 := Tryz.lays156.v75, t164 := Tryz.lays156.t164, a164 := Tryz.lays156.a164, z164 := Tryz.lays156.z164, v164 := Tryz.lays156.v164 }
theorem impl_slashed.lays9 : Lays.n169 Tryz.prog Tryz.lays156_ren := { mixed := Tryz.lays156.mixed, f169 := Tryz.lays156.f169, t0 := Tryz.lays156.t0, a0 := Tryz.lays156.a0, z0 := Tryz.lays156.z0, v0 := Tryz.lays156.v0, t3 := Tryz.lays156.t3, a3 := Tryz.lays156.a3, z3 := Tryz.lays156.z3, v3 := Tryz.lays156.v3, t9 := Tryz.lays156.t9, a9 := Tryz.lays156.a9, z9 := Tryz.lays156.z9, v9 := Tryz.lays156.v9, t37 := Tryz.lays156.t37, a37 := Tryz.lays156.a37, z37 := Tryz.lays156.z37, v37 := Tryz.lays156.v37, t70 := Tryz.lays156.t70, a70 := Tryz.lays156.a70, z70 := Tryz.lays156.z70, v70 := Tryz.lays156.v70, t72 := Tryz.lays156.t72, a72 := Tryz.lays156.a72, z72 := Tryz.lays156.z72, v72 := Tryz.lays156.v72, t127 := Tryz.lays156.t127, a127 := Tryz.lays156.a127, z127 := Tryz.lays156.z127, v127 := Tryz.lays156.v127 }
theorem impl_slashed.text (B b : Nat) (l : List UInt8) (w : World) (h : Lib.IsBuilderF 100 5 B b (Lib.byteCells l) w) (hBw : B ≤ w.heap.size) :
    Calls Tryz.prog 76 #[.pointer (some ⟨b, 0, none⟩)] w fun e w' => e = .returned (.string ⟨l.toArray⟩) ∧ (Lib.IsBuilderF 100 5 B b (Lib.byteCells l) w' ∧ Below B w w' ∧ Lib.OthersKept 5 (some b) w w') :=
  Any.Builder_String_any_k impl_slashed.lays9 Tryz.Builder_Extra_156 B b l w h hBw
theorem impl_slashed.write (B b : Nat) (bs : List Value) (s : ByteArray) (w : World) (h : Lib.IsBuilderF 100 5 B b bs w) (hlen : bs.length + s.size ≤ 140737488355328) (hBw : B ≤ w.heap.size) :
    Calls Tryz.prog 74 #[.pointer (some ⟨b, 0, none⟩), .string s] w fun e w' => e = .returned (.tuple #[.int .i64 s.size, .nilIface]) ∧ (Lib.BuilderAtF 100 5 B b (.pointer (some ⟨b, 0, none⟩)) (bs ++ Lib.strCells s) w' ∧ Below B w w' ∧ Lib.OthersKept 5 (some b) w w') :=
  Any.Builder_WriteString_k impl_slashed.lays Tryz.Builder_Extra_156 B b bs s w h hlen hBw
theorem impl_slashed.kept {T e : TypeId} {B b : Nat} {p : Value} {bs : List Value} {w w' : World} (h : Lib.BuilderAtF T e B b p bs w) (hb : Below w.heap.size w w') : Lib.BuilderAtF T e B b p bs w' := by
  obtain ⟨hB, v, hv, hown, hne⟩ := h
  refine ⟨hB, v, (hb.block b (Array.getElem?_eq_some_iff.mp hv).1).trans hv, ?_, hne⟩
  refine ⟨hown.1, ?_⟩
  rcases hown.2 with hn | ⟨g, cap, cur, fz, h1, h2, h3, rest⟩
  · exact .inl hn
  · exact .inr ⟨g, cap, cur, fz, h1, h2, (hb.block g (Array.getElem?_eq_some_iff.mp h3).1).trans h3, rest⟩
theorem impl_slashed.keptI {T e : TypeId} {B b : Nat} {bs : List Value} {w w' : World} (h : Lib.IsBuilderF T e B b bs w) (hb : Below w.heap.size w w') : Lib.IsBuilderF T e B b bs w' :=
  h.elim (fun x => .inl (impl_slashed.kept x hb)) (fun x => .inr (impl_slashed.kept x hb))
theorem impl_slashed.cells_app (acc : List UInt8) (t : ByteArray) : Lib.byteCells acc ++ Lib.strCells ((⟨#[47]⟩ : ByteArray) ++ t) = Lib.byteCells (acc ++ 47 :: t.data.toList) := by
  have e : ((⟨#[47]⟩ : ByteArray) ++ t).data.toList = 47 :: t.data.toList := by simp
  rw [Lib.strCells, e]
  simp [Lib.byteCells]
theorem Z39.z0 {P : Prop} (h : P := by repeat (first | (with_reducible first | exact HB.out | apply below_alloc | apply pw_below_drewN | apply below_drew1) | exact HB.out)) : P := h
set_option maxHeartbeats 4000000 in
set_option maxRecDepth 100000 in
theorem impl_slashed.calls (k : Nat) (A0 : Option Addr) (c0 : Nat) (l0 : List (List Int)) (r : ByteArray) (w : World) (hr0 : Kd.C (Kd.slice 2 (Kd.int .i64)) w A0 l0.length l0) (hc0 : l0.length ≤ c0) (hlP_ : LaidP w) (h : impl_slashed.f k l0 = some r) :
  Calls Tryz.prog 39 #[.slice A0 l0.length c0] w fun e w' => e = .returned (.string r) ∧ Below w.heap.size w w' := by
 have HR0 := Aside0.mk hr0
 have HC0 := Aside0.mk hc0
 clear hr0 hc0
 have HB := Aside0.mk (Below.refl w.heap.size w)
 have H' := Aside0.mk (show impl_slashed.l0 k [] l0 0 = some r from h)
 clear h
 go_enter Tryz.func39, Tryz.ntmps39
 go_wp2_with (first | ((with_reducible refine gate_dst (N := 3) rfl ?_); refine box_event ?hg (N := 3) ?hd (cs := #[.pointer none, .slice none 0 0]) (t := 100) ?hr ?_; (case hd => rfl); (case hg => rfl); (case hr => first | (go_simp; done) | (go_simp; rfl)); intro gb hg w4 hbox hb; have n0_ := Aside0.mk (below_step Z39.z0 hb); have HBD := Aside0.mk (show Lib.IsBuilderF 100 5 w.heap.size gb (Lib.byteCells []) w4 from .inl ⟨(by rw [hg]; exact (below_size Z39.z0)), .slice none 0 0, hbox, World.ownsRowF_nil _ _ _ _, (by simp [Value.ownBlock])⟩); clear HB; have HB := n0_; clear n0_; clear hg hbox hb))
 go_loopg [8] k (fun kq v8 w' => ∃ (x8 : Int) (acc : List UInt8), v8 = .int .i64 x8 ∧ Aside0 (impl_slashed.l0 kq acc l0 x8 = some r) ∧ Aside0 (kq ≤ k) ∧ Aside0 (Lib.IsBuilderF 100 5 w.heap.size gb (Lib.byteCells acc) w') ∧ Aside0 (Below w.heap.size w w'))
 case atStart => exact ⟨0, [], rfl, H', ⟨Nat.le_refl _⟩, HBD, HB⟩
 case round =>
  clear H' HBD HB
  obtain ⟨x8, acc, rfl, HA, HK1, HBD, HB⟩ := hrel
  cases gk with
  | zero => exact absurd HA.out (by simp [impl_slashed.l0])
  | succ k1 =>
   have H := HA.out
   clear HA
   simp only [impl_slashed.l0] at H
   by_cases c1 : x8 < (l0.length : Int)
   ·rw [if_pos c1] at H
    have c1b0 : decide (x8 < (l0.length : Int)) = true := decide_eq_true c1
    by_cases c2 : 0 ≤ x8
    ·rw [if_pos c2] at H
     have c2b0 : decide (0 ≤ x8) = true := decide_eq_true c2
     obtain ⟨t, AT0, H⟩ := Option.bind_eq_some_iff.mp H
     have AT := Aside0.mk AT0
     clear AT0
     by_cases c3 : acc.length + (t.size + 1) ≤ 140737488355328
     ·rw [if_pos c3] at H
      have H' := Aside0.mk H
      clear H
      have HS := Aside0.mk c3
      clear c3
      obtain ⟨ad, A1, cp, ea, hx, hl, hi⟩ := at_L2 (Kd.C_below HR0.out HB.out) x8 c2 c1
      cases ea
      have HI := Aside0.mk hi
      have HL := Aside0.mk hl
      clear hi hl
      replace c1 := eq_true c1
      replace c2 := eq_true c2
      have cs : 1 + t.size ≤ 9223372036854775807 := by have := HS.out; omega
      have ct := eq_true cs
      have cu := eq_false (Nat.not_lt.2 cs)
      clear cs
      go_wp2_with (first | (go_at_call 75; refine (impl_ListText.calls k1 _ _ (rd_L2 l0 x8) t _ HI.out HL.out (LaidP.below hlP_ HB.out) AT.out).mono ?_; rintro e w5 ⟨rfl, hb⟩; have n0_ := Aside0.mk (impl_slashed.keptI HBD.out hb); have n1_ := Aside0.mk (below_step HB.out hb); clear HBD HB hb; have HBD := n0_; have HB := n1_; clear n0_ n1_) | (go_at_call 74; refine (impl_slashed.write w.heap.size gb (Lib.byteCells acc) _ _ HBD.out (by have h_ := HS.out; have e_ : ((⟨#[47]⟩ : ByteArray) ++ t).size = 1 + t.size := (by rw [ByteArray.size_append]; rfl); rw [e_]; simp only [Lib.byteCells, List.length_map]; omega) (below_size HB.out)).mono ?_; rintro e w6 ⟨rfl, hba, hb, _⟩; have n0_ := Aside0.mk (show Lib.IsBuilderF 100 5 w.heap.size gb (Lib.byteCells (acc ++ 47 :: t.data.toList)) w6 from (impl_slashed.cells_app acc t) ▸ Or.inr hba); have n1_ := Aside0.mk (HB.out.trans hb); clear HBD HB hba hb; have HBD := n0_; have HB := n1_; clear n0_ n1_))
      go_roundg k1
      case measure => have := HK1.out; omega
      case rel => exact ⟨wrap64 (x8 + 1), acc ++ 47 :: t.data.toList, (by first | rfl | (simp; done) | (simp [*]; done)), H', ⟨(by have := HK1.out; omega)⟩, HBD, HB⟩
     rw [if_neg c3] at H; cases H
    rw [if_neg c2] at H; cases H
   rw [if_neg c1] at H
   have c1b0 : decide (x8 < (l0.length : Int)) = false := decide_eq_false c1
   clear c1
   obtain rfl := Option.some.inj H
   go_wp2_with (go_at_call 76; refine (impl_slashed.text w.heap.size gb acc _ HBD.out (below_size HB.out)).mono ?_; rintro e w7 ⟨rfl, _, hb, _⟩; have n1_ := Aside0.mk (HB.out.trans hb); clear HB hb; have HB := n1_; clear n1_)
   go_ret
   exact ⟨rfl, HB.out⟩
/-! ### impl_dot: function 69 -/
def impl_dot.l0 : Nat → List Int → List Int → Int → Int → Int → Int → Option (Int)
  | 0, _, _, _, _, _, _ => none
  | k + 1, x0, x1, x2, x7, x10, x11 => if x11 < x10 then (if 0 ≤ x11 then (if x11 < (x0.length : Int) then (if x11 < (x1.length : Int) then (if x2 = 0 then (none) else (impl_dot.l0 k x0 x1 x2 (Int.tmod (wrap64 (x7 + (wrap64 ((rd x0 x11) * (rd x1 x11))))) x2) x10 (wrap64 (x11 + 1)))) else (none)) else (none)) else (none)) else (some x7)
def impl_dot.f (k : Nat) (l0 : List Int) (l1 : List Int) (a2 : Int) : Option (Int) := impl_dot.l0 k l0 l1 a2 0 (l0.length : Int) 0
theorem Z69.z1 {P : Prop} (h : P := by first | (with_reducible assumption) | assumption) : P := h
theorem Z69.z0 {P : Prop} (h : P := by first | rfl | (simp; done) | (simp [*]; done)) : P := h
set_option maxHeartbeats 8000000 in
set_option maxRecDepth 100000 in
theorem impl_dot.calls (k : Nat) (A0 : Option Addr) (c0 : Nat) (l0 : List Int) (A1 : Option Addr) (c1 : Nat) (l1 : List Int) (a2 : Int) (r : Int) (w : World) (hr0 : Kd.C (Kd.int .i64) w A0 l0.length l0) (hc0 : l0.length ≤ c0) (hr1 : Kd.C (Kd.int .i64) w A1 l1.length l1) (hc1 : l1.length ≤ c1) (h : impl_dot.f k l0 l1 a2 = some r) :
  Calls Tryz.prog 69 #[.slice A0 l0.length c0, .slice A1 l1.length c1, .int .i64 a2] w fun e w' => e = .returned (.int .i64 r) ∧ Drawn0 w w' := by
 have HR0 := Aside0.mk hr0
 have HC0 := Aside0.mk hc0
 clear hr0 hc0
 have HR1 := Aside0.mk hr1
 have HC1 := Aside0.mk hc1
 clear hr1 hc1
 have H : (impl_dot.l0 k l0 l1 a2 0 (l0.length : Int) 0) = some r := h
 clear h
 have H' := Aside0.mk H
 clear H
 go_enter Tryz.func69, Tryz.ntmps69
 go_wp2
 repeat (go_quiet (fail); try go_wp2)
 go_loopg [7, 11] k (fun kq v7 v11 w' => ∃ (x7_1 : Int) (x11_1 : Int), v7 = .int .i64 x7_1 ∧ v11 = .int .i64 x11_1 ∧ Aside0 (impl_dot.l0 kq l0 l1 a2 x7_1 (l0.length : Int) x11_1 = some r) ∧ Aside0 (kq ≤ k) ∧ Drawn0 w w')
 case atStart => exact ⟨(0), (0), Z69.z0, Z69.z0, H', ⟨Nat.le_refl _⟩, (by repeat (first | exact Drawn0.refl _ | apply Drawn0.step))⟩
 case round =>
  clear H'
  try clear c1
  try clear p2
  obtain ⟨x7_1, x11_1, rfl, rfl, HA, HK1, ⟨m1, rfl⟩⟩ := hrel
  cases gk with
  | zero => exact absurd HA.out (by simp [impl_dot.l0])
  | succ k1 =>
   have H := HA.out
   clear HA
   simp only [impl_dot.l0] at H
   by_cases c4 : x11_1 < (l0.length : Int)
   ·rw [if_pos c4] at H
    have c4b0 : decide (x11_1 < (l0.length : Int)) = true := decide_eq_true c4
    clear c4
    by_cases c5 : 0 ≤ x11_1
    ·rw [if_pos c5] at H
     have c5b0 : decide (0 ≤ x11_1) = true := decide_eq_true c5
     clear c5
     by_cases c6 : x11_1 < (l0.length : Int)
     ·rw [if_pos c6] at H
      have c6b0 : decide (x11_1 < (l0.length : Int)) = true := decide_eq_true c6
      clear c6
      by_cases c7 : x11_1 < (l1.length : Int)
      ·rw [if_pos c7] at H
       have c7b0 : decide (x11_1 < (l1.length : Int)) = true := decide_eq_true c7
       clear c7
       by_cases c8 : a2 = 0
       ·rw [if_pos c8] at H
        exact absurd H (by simp)
       rw [if_neg c8] at H
       have c8b0 : (a2 == 0) = false := beq_eq_false_iff_ne.mpr c8
       have c8b1 : (a2 != 0) = true := bne_iff_ne.mpr c8
       have H' := Aside0.mk H
       clear H
       have p101 : 0 ≤ (x11_1 : Int) := of_decide_eq_true Z69.z1
       have q101 : x11_1 < (l0.length : Int) := of_decide_eq_true Z69.z1
       obtain ⟨ad101, e101, hx101_0⟩ := Kd.at_int HR0.out x11_1 p101 q101
       cases e101
       replace p101 := eq_true p101
       replace q101 := eq_true q101
       have p102 : 0 ≤ (x11_1 : Int) := of_decide_eq_true Z69.z1
       have q102 : x11_1 < (l1.length : Int) := of_decide_eq_true Z69.z1
       obtain ⟨ad102, e102, hx102_0⟩ := Kd.at_int HR1.out x11_1 p102 q102
       cases e102
       replace p102 := eq_true p102
       replace q102 := eq_true q102
       go_wp2
       repeat (go_quiet (fail); try go_wp2)
       go_roundg k1
       case measure => have := HK1.out; omega
       case rel => exact ⟨(Int.tmod (wrap64 (x7_1 + (wrap64 ((rd l0 x11_1) * (rd l1 x11_1))))) a2), (wrap64 (x11_1 + 1)), Z69.z0, Z69.z0, H', ⟨(by have := HK1.out; omega)⟩, (by repeat (first | exact Drawn0.refl _ | apply Drawn0.step))⟩
      rw [if_neg c7] at H
      exact absurd H (by simp)
     rw [if_neg c6] at H
     exact absurd H (by simp)
    rw [if_neg c5] at H
    exact absurd H (by simp)
   rw [if_neg c4] at H
   have c4b0 : decide (x11_1 < (l0.length : Int)) = false := decide_eq_false c4
   clear c4
   obtain rfl := Option.some.inj H
   go_wp2
   repeat (go_quiet (fail); try go_wp2)
   go_ret
   exact ⟨Z69.z0, (by repeat (first | exact Drawn0.refl _ | apply Drawn0.step))⟩
/-! ### impl_Matrix_row: function 70: ours -/
def impl_Matrix_row.f (k : Nat) (p r c : Int) (l : List Int) (i : Int) (v : List Int) (q : Int) : Option Int :=
  if 0 ≤ wrap64 (i * c) then (if wrap64 (i * c) ≤ wrap64 (wrap64 (i + 1) * c) then (if wrap64 (wrap64 (i + 1) * c) ≤ (l.length : Int) then impl_dot.f k ((l.take (wrap64 (wrap64 (i + 1) * c)).toNat).drop (wrap64 (i * c)).toNat) v q else none) else none) else none
set_option maxHeartbeats 4000000 in
set_option maxRecDepth 100000 in
theorem impl_Matrix_row.calls (p r c : Int) (A : Option Addr) (cap : Nat) (l : List Int) (i : Int) (w : World) (hr : Kd.C (Kd.int .i64) w A l.length l) (hc : l.length ≤ cap)
  (h0 : 0 ≤ wrap64 (i * c)) (h1 : wrap64 (i * c) ≤ wrap64 (wrap64 (i + 1) * c)) (h2 : wrap64 (wrap64 (i + 1) * c) ≤ (l.length : Int)) :
  Calls Tryz.prog 70 #[.agg #[.int .i64 p, .int .i64 r, .int .i64 c, .slice A l.length cap], .int .i64 i] w fun e w' => ∃ A' c', e = .returned (.slice A' ((l.take (wrap64 (wrap64 (i + 1) * c)).toNat).drop (wrap64 (i * c)).toNat).length c') ∧
   Kd.C (Kd.int .i64) w' A' ((l.take (wrap64 (wrap64 (i + 1) * c)).toNat).drop (wrap64 (i * c)).toNat).length ((l.take (wrap64 (wrap64 (i + 1) * c)).toNat).drop (wrap64 (i * c)).toNat) ∧ ((l.take (wrap64 (wrap64 (i + 1) * c)).toNat).drop (wrap64 (i * c)).toNat).length ≤ c' ∧ Below w.heap.size w w' := by
 have hu24 := Tryz.underlying24
 obtain ⟨lo, hlo⟩ : ∃ j_ : Int, wrap64 (i * c) = j_ := ⟨_, rfl⟩
 obtain ⟨i1, hi1⟩ : ∃ j_ : Int, wrap64 (i + 1) = j_ := ⟨_, rfl⟩
 obtain ⟨hi, hhi⟩ : ∃ j_ : Int, wrap64 (i1 * c) = j_ := ⟨_, rfl⟩
 rw [hlo] at h0
 rw [hlo, hi1, hhi] at h1
 rw [hi1, hhi] at h2
 rw [hlo, hi1, hhi]
 have hlow : IntKind.i64.wrap (i * c) = lo := (i64_w _).trans hlo
 have hi1w : IntKind.i64.wrap (i + 1) = i1 := (i64_w _).trans hi1
 have hhiw : IntKind.i64.wrap (i1 * c) = hi := (i64_w _).trans hhi
 obtain ⟨i033, hi033, _, hsz33, _⟩ := info_parts info2
 obtain ⟨A33, hcut33, hA33, hC33⟩ := print_mid_of (P := Tryz.prog) (Value.int .i64) 0 22 2 .i64 .i64 Tryz.underlying22 hi033 hsz33 A cap l lo hi h0 h1 h2 hc
 have HR := Aside0.mk (Kd.C_of_reads (h1 := fun _ => rfl) (hA33 _ (Kd.reads_of_C hr)) : Kd.C (Kd.int .i64) w A33 ((l.take hi.toNat).drop lo.toNat).length ((l.take hi.toNat).drop lo.toNat))
 have HL := Aside0.mk hC33
 clear hA33 hC33 hi033 hsz33 h0 h1 h2 hr hc hlo hi1 hhi
 generalize (l.take hi.toNat).drop lo.toNat = z at HR HL hcut33 ⊢
 go_enter Tryz.func70, Tryz.ntmps70
 go_wp2_with (first | ((with_reducible refine gate_dst (N := 2) rfl ?_); refine box_event ?hg (N := 2) ?hd (cs := #[.int .i64 p, .int .i64 r, .int .i64 c, .slice A l.length cap]) (t := 24) ?hr ?_; (case hd => rfl); (case hg => rfl); (case hr => first | (go_simp; done) | (go_simp; rfl)); intro gb hg w1 hbox hb; have hcz_0 : w1.cell? ⟨gb, 0, none⟩ = some (.int .i64 p) := (blk_cell hbox 0).trans rfl; have hcz_1 : w1.cell? ⟨gb, 1, none⟩ = some (.int .i64 r) := (blk_cell hbox 1).trans rfl; have hcz_2 : w1.cell? ⟨gb, 2, none⟩ = some (.int .i64 c) := (blk_cell hbox 2).trans rfl; have hcz_3 : w1.cell? ⟨gb, 3, none⟩ = some (.slice A l.length cap) := (blk_cell hbox 3).trans rfl; have HR1 := Aside0.mk (Kd.C_below HR.out hb); have HB1 := Aside0.mk hb; clear hb hbox hg))
 go_ret
 exact ⟨A33, _, rfl, HR1.out, HL.out, HB1.out⟩
theorem impl_Matrix_row.parts {k : Nat} {p r c : Int} {l : List Int} {i : Int} {v : List Int} {q t : Int} (h : impl_Matrix_row.f k p r c l i v q = some t) :
    0 ≤ wrap64 (i * c) ∧ wrap64 (i * c) ≤ wrap64 (wrap64 (i + 1) * c) ∧ wrap64 (wrap64 (i + 1) * c) ≤ (l.length : Int) ∧ impl_dot.f k ((l.take (wrap64 (wrap64 (i + 1) * c)).toNat).drop (wrap64 (i * c)).toNat) v q = some t := by
  unfold impl_Matrix_row.f at h
  by_cases h0 : 0 ≤ wrap64 (i * c)
  · rw [if_pos h0] at h
    by_cases h1 : wrap64 (i * c) ≤ wrap64 (wrap64 (i + 1) * c)
    · rw [if_pos h1] at h
      by_cases h2 : wrap64 (wrap64 (i + 1) * c) ≤ (l.length : Int)
      · rw [if_pos h2] at h
        exact ⟨h0, h1, h2, h⟩
      · rw [if_neg h2] at h; cases h
    · rw [if_neg h1] at h; cases h
  · rw [if_neg h0] at h; cases h
/-! ### slices_Clone_int64_int64: function 77: ours -/
def slices_Clone_int64_int64.f (p r c : Int) (l : List Int) (i : Int) : Option (List Int) :=
  if 0 ≤ wrap64 (i * c) then (if wrap64 (i * c) ≤ wrap64 (wrap64 (i + 1) * c) then (if wrap64 (wrap64 (i + 1) * c) ≤ (l.length : Int) then (if ((l.take (wrap64 (wrap64 (i + 1) * c)).toNat).drop (wrap64 (i * c)).toNat).length < 17592186044416 then some ((l.take (wrap64 (wrap64 (i + 1) * c)).toNat).drop (wrap64 (i * c)).toNat) else none) else none) else none) else none
theorem slices_Clone_int64_int64.parts {p r c : Int} {l : List Int} {i : Int} {t : List Int} (h : slices_Clone_int64_int64.f p r c l i = some t) :
    0 ≤ wrap64 (i * c) ∧ wrap64 (i * c) ≤ wrap64 (wrap64 (i + 1) * c) ∧ wrap64 (wrap64 (i + 1) * c) ≤ (l.length : Int) ∧ (l.take (wrap64 (wrap64 (i + 1) * c)).toNat).drop (wrap64 (i * c)).toNat = t ∧ t.length < 17592186044416 := by
  unfold slices_Clone_int64_int64.f at h
  by_cases h0 : 0 ≤ wrap64 (i * c)
  · rw [if_pos h0] at h
    by_cases h1 : wrap64 (i * c) ≤ wrap64 (wrap64 (i + 1) * c)
    · rw [if_pos h1] at h
      by_cases h2 : wrap64 (wrap64 (i + 1) * c) ≤ (l.length : Int)
      · rw [if_pos h2] at h
        by_cases h3 : ((l.take (wrap64 (wrap64 (i + 1) * c)).toNat).drop (wrap64 (i * c)).toNat).length < 17592186044416
        · rw [if_pos h3] at h
          obtain rfl := Option.some.inj h
          exact ⟨h0, h1, h2, rfl, h3⟩
        · rw [if_neg h3] at h; cases h
      · rw [if_neg h2] at h; cases h
    · rw [if_neg h1] at h; cases h
  · rw [if_neg h0] at h; cases h
set_option maxRecDepth 100000 in
theorem slices_Clone_int64_int64.nil0 (c : Nat) (W : World) : (binOp .eql 22 (.slice none 0 c) (.slice none 0 0)).run Tryz.prog W = .ok (.bool true) W := by
  first | rfl | (simp [binOp, Tryz.underlying22]; done) | (simp [binOp]; done)
set_option maxRecDepth 100000 in
theorem slices_Clone_int64_int64.nil1 (a : Addr) (n c : Nat) (W : World) : (binOp .eql 22 (.slice (some a) n c) (.slice none 0 0)).run Tryz.prog W = .ok (.bool false) W := by
  first | rfl | (simp [binOp, Tryz.underlying22]; done) | (simp [binOp]; done)
theorem Z77.z0 {P : Prop} (h : P := by repeat (first | (with_reducible first | exact HB.out | apply below_alloc | apply pw_below_drewN | apply below_drew1) | exact HB.out)) : P := h
set_option maxHeartbeats 4000000 in
set_option maxRecDepth 100000 in
theorem slices_Clone_int64_int64.calls (A : Option Addr) (c : Nat) (l : List Int) (w : World) (hr : Kd.C (Kd.int .i64) w A l.length l) (hc : l.length ≤ c) (hlen : l.length < 17592186044416) :
  Calls Tryz.prog 77 #[.slice A l.length c] w fun e w' => ∃ v0_ : Value, e = .returned v0_ ∧ Kd.R (Kd.int .i64) 2 w' w.heap.size (fun _ => True) v0_ l ∧ Below w.heap.size w w' := by
 cases A with
 | none =>
  have h0 : l = [] := by
   rcases Nat.eq_zero_or_pos l.length with e | e
   ·exact List.eq_nil_of_length_eq_zero e
   obtain ⟨a, ha, _⟩ := hr.2.2 e
   cases ha
  subst h0
  clear hr hlen
  have hq := fun W => slices_Clone_int64_int64.nil0 c W
  go_enter Tryz.func77, Tryz.ntmps77
  go_wp2
  go_ret
  exact ⟨_, rfl, Kd.R_nil _ _ _ _ _, (by repeat (first | exact Below.refl _ _ | apply below_drew1 | apply pw_below_drewN))⟩
 | some ad =>
  have HR0 := Aside0.mk hr
  have HC0 := Aside0.mk hc
  have HL := Aside0.mk hlen
  clear hr hc hlen
  have HB := Aside0.mk (Below.refl w.heap.size w)
  have hq := fun W => slices_Clone_int64_int64.nil1 ad l.length c W
  go_enter Tryz.func77, Tryz.ntmps77
  go_wp2_with (first | ((with_reducible refine gate_dst (N := 5) rfl ?_); refine Kd.R_lit (Kd.int .i64) _ 2 ?hg (N := 5) ?hd (xs := ([] : List Int)) (inner := []) (ok := fun _ => True) (okp := fun _ => True) ?hr ?hp (fun _ hk => hk) trivial (Below.refl _ _) (Nat.le_refl _) (by simp) ?_; (case hd => rfl); (case hg => rfl); (case hr => first | (go_simp; done) | (go_simp; rfl)); (case hp => exact (Reps.none _ _)); intro v102 w3 ho4 hb hg_ hnew_; clear hg_ hnew_; have n0_ := Aside0.mk (Kd.R_lower ho4 (below_size Z77.z0)); have n1_ := Aside0.mk (below_step Z77.z0 hb); clear HB; have HO103 := n0_; have HB := n1_; clear n0_ n1_; clear hb ho4) | ((with_reducible refine gate_builtin (b := .append) (xs := #[.tmp 5, .tmp 6]) rfl ?_); at_builtin; refine Kd.R_append_rows (Kd.int .i64) (w0 := w) w.heap.size rfl (.tmp 5) (.tmp 6) 22 2 (.int .i64 0) 8 rfl Tryz.underlying22 info2 rfl (by decide) (by omega) v102 ([] : List Int) l _ _ _ (fun _ => True) (fun _ => False) rfl rfl ?aO ?aR (fun _ _ h => h) (fun _ h => h.elim) ?aF ?aB ?aS ?aL ?_; (case aR => repeat (first | exact (Kd.C_below HR0.out HB.out) | (with_reducible refine Kd.C_alloc ?_ _) | (with_reducible refine Kd.C_drewN ?_ _) | (with_reducible refine Kd.C_drew ?_))); (case aB => exact Z77.z0); (case aF => exact (fun _ _ => trivial)); (case aO => exact (by (with_reducible repeat (first | apply Kd.R_alloc | apply Kd.R_drewN | apply Kd.R_drew)); exact HO103.out)); (case aS => exact (below_size Z77.z0)); (case aL => have := HL.out; simp only [List.length_nil]; omega); intro v105 w5 ho hb hg hat; rw [List.nil_append] at ho; have n0_ := Aside0.mk (hb); have n1_ := Aside0.mk (ho); clear HB HO103; have HB := n0_; have HO106 := n1_; clear n0_ n1_; clear ho hb hg hat))
  go_ret
  exact ⟨_, rfl, (by (with_reducible repeat (first | apply Kd.R_alloc | apply Kd.R_drewN | apply Kd.R_drew)); exact HO106.out), Z77.z0⟩
def slices_Clone_int64_int64.o.f (l : List Int) : Option (List Int) := if l.length < 17592186044416 then some l else none
theorem slices_Clone_int64_int64.o.calls (A : Option Addr) (c : Nat) (l r : List Int) (w : World) (hr : Kd.C (Kd.int .i64) w A l.length l) (hc : l.length ≤ c) (h : slices_Clone_int64_int64.o.f l = some r) :
    Calls Tryz.prog 77 #[.slice A l.length c] w fun e w' => ∃ v0_ : Value, e = .returned v0_ ∧ Kd.R (Kd.int .i64) 2 w' w.heap.size (fun _ => True) v0_ r ∧ Below w.heap.size w w' := by
  unfold slices_Clone_int64_int64.o.f at h
  by_cases h0 : l.length < 17592186044416
  · rw [if_pos h0] at h
    obtain rfl := Option.some.inj h
    exact slices_Clone_int64_int64.calls A c l w hr hc h0
  · rw [if_neg h0] at h; cases h
/-! ### impl_rowsOf: function 40 -/
def impl_rowsOf.l0 : Nat → List (List Int) → Int → Int → Int → Int → Int → List Int → Option ((List (List Int)))
  | 0, _, _, _, _, _, _, _ => none
  | k + 1, x3, x6, x7, x102000, x102001, x102002, x102003 => if x7 < x6 then ((slices_Clone_int64_int64.f x102000 x102001 x102002 x102003 x7).bind fun t102 => (if x3.length < 5864062014805 then (impl_rowsOf.l0 k (x3 ++ [t102]) x6 (wrap64 (x7 + 1)) x102000 x102001 x102002 x102003) else (none))) else (some x3)
def impl_rowsOf.f (k : Nat) (a0_0 : Int) (a0_1 : Int) (a0_2 : Int) (l0_3 : List Int) : Option ((List (List Int))) := impl_rowsOf.l0 k ([] : List (List Int)) a0_1 0 a0_0 a0_1 a0_2 l0_3
theorem Z40.bb {w0 w w1 : World} {g : Nat} {o : Obj} (_B : Aside0 (w0.heap[g]? = some o)) (h : w.heap[g]? = some o) (hb : Below w.heap.size w w1) : w1.heap[g]? = some o := blk_below h hb
theorem Z40.bl {w0 w : World} {g : Nat} {o : Obj} (_B : Aside0 (w0.heap[g]? = some o)) (h : w.heap[g]? = some o) : g < w.heap.size := blk_lt h
theorem Z40.z4 {P : Prop} (h : P := by (try simp only [List.map_toArray, List.map_cons, List.map_nil]); first | done | rfl | (simp only [List.length_drop, List.length_take]; rfl)) : P := h
theorem Z40.z3 {P : Prop} (h : P := by (with_reducible repeat (first | apply Kd.S_alloc | apply Kd.S_drewN | apply Kd.S_drew)); exact HO_3.out) : P := h
theorem Z40.z2 {P : Prop} (h : P := by repeat (first | (with_reducible first | exact HB.out | apply below_alloc | apply pw_below_drewN | apply below_drew1) | exact HB.out)) : P := h
theorem Z40.z1 {P : Prop} (h : P := by (with_reducible repeat (first | refine blk_drewN ?_ _ | refine blk_drew ?_ | refine blk_alloc ?_ _)); exact BK101.out) : P := h
theorem Z40.z0 {P : Prop} (h : P := by repeat (first | (with_reducible first | exact HB.out | apply below_alloc | apply pw_below_drewN | apply below_drew1 | refine below_set ?_ GE101.out) | exact HB.out)) : P := h
set_option maxHeartbeats 8000000 in
set_option maxRecDepth 100000 in
theorem impl_rowsOf.calls (k : Nat) (a0_0 : Int) (a0_1 : Int) (a0_2 : Int) (A0_3 : Option Addr) (c0_3 : Nat) (l0_3 : List Int) (r : List (List Int)) (w : World) (hr0_3 : Kd.C (Kd.int .i64) w A0_3 l0_3.length l0_3) (hc0_3 : l0_3.length ≤ c0_3) (h : impl_rowsOf.f k a0_0 a0_1 a0_2 l0_3 = some r) :
  Calls Tryz.prog 40 #[.agg #[.int .i64 a0_0, .int .i64 a0_1, .int .i64 a0_2, .slice A0_3 l0_3.length c0_3]] w fun e w' => ∃ v0_ : Value, e = .returned (v0_) ∧ Kd.S (Kd.slice 2 (Kd.int .i64)) 22 w' w.heap.size (fun _ => True) v0_ r ∧ Below w.heap.size w w' := by
 have hu24 := Tryz.underlying24
 have HR0_3 := Aside0.mk hr0_3
 have HC0_3 := Aside0.mk hc0_3
 clear hr0_3 hc0_3
 have HB := Aside0.mk (Below.refl w.heap.size w)
 have H : (impl_rowsOf.l0 k ([] : List (List Int)) a0_1 0 a0_0 a0_1 a0_2 l0_3) = some r := h
 clear h
 have H' := Aside0.mk H
 clear H
 go_enter Tryz.func40, Tryz.ntmps40
 go_wp2_with (first | ((with_reducible refine gate_dst (N := 1) rfl ?_); refine box_event ?hg (N := 1) ?hd (cs := #[.int .i64 a0_0, .int .i64 a0_1, .int .i64 a0_2, .slice A0_3 l0_3.length c0_3]) (t := 24) ?hr ?_; (case hd => rfl); (case hg => rfl); (case hr => first | (go_simp; done) | (go_simp; rfl)); intro gb101 hg w2 hbox hb; have n0_ := Aside0.mk (below_step Z40.z2 hb); have n1_ := Aside0.mk (hbox); have n2_ := Aside0.mk (show w.heap.size ≤ gb101 from (by rw [hg]; exact (below_size Z40.z2))); have n3_ := Aside0.mk (show w.heap.size ≤ gb101 from (by rw [hg]; exact (below_size Z40.z2))); clear HB; have HB := n0_; have BK101 := n1_; have GW101 := n2_; have GE101 := n3_; clear n0_ n1_ n2_ n3_; clear hb hbox hg; have hcz3_0 : w2.cell? ⟨gb101, 0, none⟩ = some (.int .i64 a0_0) := (blk_cell BK101.out 0).trans rfl; have hcz3_1 : w2.cell? ⟨gb101, 1, none⟩ = some (.int .i64 a0_1) := (blk_cell BK101.out 1).trans rfl; have hcz3_2 : w2.cell? ⟨gb101, 2, none⟩ = some (.int .i64 a0_2) := (blk_cell BK101.out 2).trans rfl; have hcz3_3 : w2.cell? ⟨gb101, 3, none⟩ = some (.slice A0_3 l0_3.length c0_3) := (blk_cell BK101.out 3).trans rfl; have hfz3_0 := blk_frozen BK101.out 0; have hfz3_1 := blk_frozen BK101.out 1; have hfz3_2 := blk_frozen BK101.out 2; have hfz3_3 := blk_frozen BK101.out 3))
 go_loopg [3, 7] k (fun kq v3 v7 w' => ∃ (x3_1 : List (List Int)) (x7_1 : Int), v7 = .int .i64 x7_1 ∧ Aside0 (impl_rowsOf.l0 kq x3_1 a0_1 x7_1 a0_0 a0_1 a0_2 l0_3 = some r) ∧ Aside0 (kq ≤ k) ∧ Aside0 (Kd.S (Kd.slice 2 (Kd.int .i64)) 22 w' w.heap.size (fun _ => True) v3 x3_1) ∧ Aside0 (w'.heap[gb101]? = some (.cells #[.int .i64 a0_0, .int .i64 a0_1, .int .i64 a0_2, (.slice A0_3 l0_3.length c0_3)] 24 (0, 0))) ∧ Aside0 (Below w.heap.size w w'))
 case atStart => exact ⟨(([] : List (List Int))), (0), (by first | rfl | (simp; done) | (simp [*]; done)), H', ⟨Nat.le_refl _⟩, ⟨(by first | exact Kd.S_nil _ _ _ _ _ | exact Kd.N_nil _ _ _ _ _ | exact Kd.V_nil _ _ _ _ _ | exact Kd.Q_nil _ _ _ _ _ | exact Kd.R_nil _ _ _ _ _)⟩, ⟨Z40.z1⟩, ⟨Z40.z0⟩⟩
 case round =>
  clear H'
  try clear p2
  try clear hcz3_0
  try clear hcz3_1
  try clear hcz3_2
  try clear hcz3_3
  try clear hfz3_0
  try clear hfz3_1
  try clear hfz3_2
  try clear hfz3_3
  obtain ⟨x3_1, x7_1, rfl, HA, HK1, HO_3, BK101, HB⟩ := hrel
  cases gk with
  | zero => exact absurd HA.out (by simp [impl_rowsOf.l0])
  | succ k1 =>
   have H := HA.out
   clear HA
   simp only [impl_rowsOf.l0] at H
   by_cases c4 : x7_1 < a0_1
   ·rw [if_pos c4] at H
    have c4b0 : decide (x7_1 < a0_1) = true := decide_eq_true c4
    clear c4
    replace H := Option.bind_eq_some_iff.mp H
    obtain ⟨t102, A50, H⟩ := H
    replace H : (if x3_1.length < 5864062014805 then (impl_rowsOf.l0 k1 (x3_1 ++ [t102]) a0_1 (wrap64 (x7_1 + 1)) a0_0 a0_1 a0_2 l0_3) else (none)) = some r := H
    have A5 := Aside0.mk A50
    clear A50
    by_cases c6 : x3_1.length < 5864062014805
    ·rw [if_pos c6] at H
     have LMc6 := Aside0.mk c6
     clear c6
     obtain ⟨y105, hy105⟩ : ∃ y_ : List (List Int), y_ = (x3_1 ++ [t102]) := ⟨_, rfl⟩
     replace H : (impl_rowsOf.l0 k1 y105 a0_1 (wrap64 (x7_1 + 1)) a0_0 a0_1 a0_2 l0_3) = some r := by first | (rw [hy105]; with_reducible exact H) | (have H2_ := (Option.bind_some _ _).symm.trans H; rw [hy105]; with_reducible exact H2_) | (have H2_ := (Option.bind_some _ _).symm.trans H; with_reducible exact H2_) | with_reducible exact H | (rw [hy105]; exact H) | exact H
     have Ny105 := Aside0.mk hy105
     clear hy105
     have H' := Aside0.mk H
     clear H
     have hcz7_0 : wr.cell? ⟨gb101, 0, none⟩ = some (.int .i64 a0_0) := (blk_cell BK101.out 0).trans rfl
     have hcz7_1 : wr.cell? ⟨gb101, 1, none⟩ = some (.int .i64 a0_1) := (blk_cell BK101.out 1).trans rfl
     have hcz7_2 : wr.cell? ⟨gb101, 2, none⟩ = some (.int .i64 a0_2) := (blk_cell BK101.out 2).trans rfl
     have hcz7_3 : wr.cell? ⟨gb101, 3, none⟩ = some (.slice A0_3 l0_3.length c0_3) := (blk_cell BK101.out 3).trans rfl
     have hfz7_0 := blk_frozen BK101.out 0
     have hfz7_1 := blk_frozen BK101.out 1
     have hfz7_2 := blk_frozen BK101.out 2
     have hfz7_3 := blk_frozen BK101.out 3
     have AP := Aside0.mk (slices_Clone_int64_int64.parts A5.out)
     go_wp2_with (first | ((with_reducible refine gate_callee (f := 70) rfl ?_); refine goesL_ (some 13) rfl rfl Tryz.func70 (by kernel_rfl) rfl #[.agg #[.int .i64 a0_0, .int .i64 a0_1, .int .i64 a0_2, .slice A0_3 l0_3.length c0_3], .int .i64 x7_1] rfl Z40.z4 ?_; (with_reducible refine (impl_Matrix_row.calls a0_0 a0_1 a0_2 _ _ l0_3 x7_1 _ ?side1 ?side2 AP.out.1 AP.out.2.1 AP.out.2.2.1).mono ?_); (case side1 => exact (by repeat (first | exact (Kd.C_below HR0_3.out HB.out) | (with_reducible refine Kd.C_alloc ?_ _) | (with_reducible refine Kd.C_drewN ?_ _) | (with_reducible refine Kd.C_drew ?_)))); (case side2 => exact HC0_3.out); rintro e w8a ⟨Ar, cr, rfl, HRr, HLr, hb⟩; rw [AP.out.2.2.2.1] at HRr HLr ⊢; have HRr := Aside0.mk HRr; have HLr := Aside0.mk HLr; refine ⟨_, rfl, ?_⟩; have n0_ := Aside0.mk (Kd.S_below Z40.z3 hb); have n1_ := Aside0.mk (Z40.bb BK101 Z40.z1 hb); have n2_ := Aside0.mk (below_step Z40.z0 hb); clear HO_3 BK101 HB; have HO_3 := n0_; have BK101 := n1_; have HB := n2_; clear n0_ n1_ n2_; clear hb) | ((with_reducible refine gate_callee (f := 77) rfl ?_); refine goesL_ (some 14) rfl rfl Tryz.func77 (by kernel_rfl) rfl #[.slice Ar _ cr] rfl Z40.z4 ?_; (with_reducible refine (slices_Clone_int64_int64.calls Ar cr t102 _ ?side1 ?side2 AP.out.2.2.2.2).mono ?_); (case side1 => exact (by repeat (first | exact HRr.out | (with_reducible refine Kd.C_alloc ?_ _) | (with_reducible refine Kd.C_drewN ?_ _) | (with_reducible refine Kd.C_drew ?_)))); (case side2 => exact HLr.out); rintro e w8 ⟨v103, rfl, ho0, hb⟩; refine ⟨_, rfl, ?_⟩; have n0_ := Aside0.mk (Kd.S_elder' Z40.z3 (Kd.R_base ho0) hb); have n1_ := Aside0.mk (Kd.R_lower ho0 (below_size Z40.z0)); have n2_ := Aside0.mk (Z40.bb BK101 Z40.z1 hb); have n3_ := Aside0.mk (below_step Z40.z0 hb); clear HO_3 BK101 HB; have HO_3 := n0_; have HO104 := n1_; have BK101 := n2_; have HB := n3_; clear n0_ n1_ n2_ n3_; (try clear hb); (try clear hb2); (try clear hk); (try clear hi); (try clear ho0); obtain ⟨Ao10, co10, eo10⟩ := Kd.R_slice HO104.out; subst eo10) | ((with_reducible refine gate_builtin (b := .append) (xs := #[.tmp 10, .tmp 15]) rfl ?_); at_builtin; refine Kd.S_append (Kd.slice 2 (Kd.int .i64)) (w0 := w) w.heap.size rfl (.tmp 10) (.tmp 15) 46 22 (.slice none 0 0) 24 rfl Tryz.underlying46 info22 rfl (by decide) (by omega) u3 x3_1 t102 [.slice Ao10 t102.length co10] (fun _ => True) (fun k_ => some k_ = (.slice Ao10 t102.length co10 : Value).ownBlock) rfl rfl ?aP (fun k_ hk_ => ((Kd.R_mono (ok' := fun k_ => ((fun _ => True)) k_ ∧ some k_ ≠ (u3 : Value).ownBlock) (Kd.R_apart' (HO104.out) (Kd.S_typed HO_3.out) (by decide)) (fun k_ hk => ⟨trivial, hk.2⟩))).1 k_ hk_.symm) ?aF ?aO ?aB ?aS ?aL ?_; (case aP => exact Kd.M_row (Kd.R_mono (Kd.R_tight rfl (Kd.R_mono (ok' := fun k_ => ((fun _ => True)) k_ ∧ some k_ ≠ (u3 : Value).ownBlock) (Kd.R_apart' (HO104.out) (Kd.S_typed HO_3.out) (by decide)) (fun k_ hk => ⟨trivial, hk.2⟩))) (fun _ h_ => h_))); (case aB => exact Z40.z0); (case aF => exact (fun _ _ => trivial)); (case aO => exact (by (with_reducible repeat (first | apply Kd.S_alloc | apply Kd.S_drewN | apply Kd.S_drew)); exact Kd.S_mono HO_3.out (fun k_ hk => ⟨trivial, fun e_ => hk.2 e_⟩))); (case aS => exact (below_size Z40.z0)); (case aL => have := LMc6.out; omega); intro v106 w9 ho hb hg hat; rw [← Ny105.out] at ho; have n0_ := Aside0.mk (blk_grown (g := gb101) (o := .cells #[.int .i64 a0_0, .int .i64 a0_1, .int .i64 a0_2, .slice A0_3 l0_3.length c0_3] 24 (0, 0)) Z40.z1 hg (Kd.S_ne HO_3.out BK101.out (by decide))); have n1_ := Aside0.mk (hb); have n2_ := Aside0.mk (ho); clear BK101 HB HO_3 HO104; have BK101 := n0_; have HB := n1_; have HO107 := n2_; clear n0_ n1_ n2_; clear ho hb hg hat))
     go_roundg k1
     case measure => have := HK1.out; omega
     case rel => exact ⟨(y105), (wrap64 (x7_1 + 1)), (by first | rfl | (simp; done) | (simp [*]; done)), H', ⟨(by have := HK1.out; omega)⟩, ⟨(by (with_reducible repeat (first | apply Kd.S_alloc | apply Kd.S_drewN | apply Kd.S_drew)); exact HO107.out)⟩, ⟨Z40.z1⟩, ⟨Z40.z0⟩⟩
    rw [if_neg c6] at H
    exact absurd H (by simp)
   rw [if_neg c4] at H
   have c4b0 : decide (x7_1 < a0_1) = false := decide_eq_false c4
   clear c4
   obtain rfl := Option.some.inj H
   go_wp2
   go_ret
   exact ⟨_, (by first | rfl | (simp [errW_none, errW_some] <;> rfl) | (simp [*, errW_none, errW_some] <;> rfl)), Z40.z3, Z40.z0⟩
end Go.Proofs.YtkndhjchlnepmaaGreatDoor.F
end
