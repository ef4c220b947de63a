-- Texts of this claim, merged by packw.py (a program of this session's).
import Derived.Test.YtbalikebmacldaaGreatDoorQFnMatrices2
import Derived.Test.YtbalikebmacldaaGreatDoorQFnMatrices3
import Derived.Test.YtbalikebmacldaaGreatDoorQFnMatrices7
import Derived.Test.YtbalikebmacldaaGreatDoorQFnMatrices5

section
namespace Go.Proofs.YtbalikebmacldaaGreatDoor.F
open Go.RowKit Go.Proofs.YtbalikebmacldaaGreatDoorW.PrintWords Go.Proofs.YtbalikebmacldaaGreatDoorW.PrintLast Go.Proofs.YtbalikebmacldaaGreatDoorW.PrintMore
attribute [local go_sem] max2_int min2_int max_two min_two max_three min_three max_four min_four   -- for this text's walks alone
set_option linter.unusedVariables false
set_option linter.unusedSimpArgs false
/-! ### impl_ReadList: function 55 -/
def impl_ReadList.l0 : Nat → ByteArray → List Int → List ByteArray → Int → Int → Option (List Int × Bool)
  | 0, _, _, _, _, _ => none
  | k + 1, x0, x4, x12, x13, x14 => if x14 < x13 then (if 0 ≤ x14 then (if x14 < (x12.length : Int) then ((impl_ReadDecimal.f (rdOf ByteArray.empty x12 x14)).bind fun bt105 => (if x4.length < 17592186044416 then (impl_ReadList.l0 k x0 (x4 ++ [bt105.1]) x12 x13 (wrap64 (x14 + 1))) else (none))) else (none)) else (none)) else ((impl_ListText.f k x4).bind fun t110 => (if t110.toList = x0.toList then (some (x4, true)) else (some (([] : List Int), false))))
def impl_ReadList.f (k : Nat) (a0 : ByteArray) : Option (List Int × Bool) := if a0.toList = ([45] : List UInt8) then (some (([] : List Int), true)) else ((strings_Split.f a0 (⟨#[44]⟩ : ByteArray)).bind fun t101 => (impl_ReadList.l0 k a0 ([] : List Int) t101 (t101.length : Int) 0))
theorem Z55.z6 {P : Prop} (h : P := by repeat (first | exact (Kd.R_reads' HO_4.out).2.2 | (with_reducible refine Kd.C_alloc ?_ _) | (with_reducible refine Kd.C_drewN ?_ _) | (with_reducible refine Kd.C_drew ?_))) : P := h
theorem Z55.z5 {P : Prop} (h : P := by first | rfl | (simp [errW_none, errW_some] <;> rfl) | (simp [*, errW_none, errW_some] <;> rfl)) : P := h
theorem Z55.z4 {P : Prop} (h : P := by first | exact Kd.R_nil _ _ _ _ _ | exact Kd.N_nil _ _ _ _ _ | exact Kd.V_nil _ _ _ _ _ | exact Kd.Q_nil _ _ _ _ _ | exact Kd.S_nil _ _ _ _ _) : P := h
theorem Z55.z3 {P : Prop} (h : P := by exact tgR HO_12.out) : P := h
theorem Z55.z2 {P : Prop} (h : P := by (try simp only [List.map_toArray, List.map_cons, List.map_nil]); first | done | rfl | (simp only [List.length_drop, List.length_take]; rfl)) : P := h
theorem Z55.z1 {P : Prop} (h : P := by exact tgR HO_4.out) : P := h
theorem Z55.z0 {P : Prop} (h : P := by repeat (first | (with_reducible first | exact HB.out | apply below_alloc | apply pw_below_drewN | apply below_drew1) | exact HB.out)) : P := h
set_option maxHeartbeats 8000000 in
set_option maxRecDepth 100000 in
theorem impl_ReadList.calls (k : Nat) (a0 : ByteArray) (r1 : List Int) (r2 : Bool) (w : World) (hlP_ : LaidP w) (hlE_ : LaidE w) (hlM_ : LaidM w) (h : impl_ReadList.f k a0 = some (r1, r2)) :
  Calls Tryz.prog 55 #[.string a0] w fun e w' => ∃ v0_ : Value, e = .returned (.tuple #[v0_, .bool r2]) ∧ Kd.R (Kd.int .i64) 2 w' w.heap.size (fun _ => True) v0_ r1 ∧ Below w.heap.size w w' := by
 have HB := Aside0.mk (Below.refl w.heap.size w)
 have H : (if a0.toList = ([45] : List UInt8) then (some (([] : List Int), true)) else ((strings_Split.f a0 (⟨#[44]⟩ : ByteArray)).bind fun t101 => (impl_ReadList.l0 k a0 ([] : List Int) t101 (t101.length : Int) 0))) = some (r1, r2) := h
 clear h
 by_cases c2 : a0.toList = ([45] : List UInt8)
 ·rw [if_pos c2] at H
  obtain ⟨c2b0, c2b1⟩ := tge c2
  clear c2
  simp only [Option.some.injEq, Prod.mk.injEq] at H
  obtain ⟨rfl, rfl⟩ := H
  go_enter Tryz.func55, Tryz.ntmps55
  go_wp2
  go_ret2
  exact ⟨_, Z55.z5, Z55.z4, Z55.z0⟩
 rw [if_neg c2] at H
 obtain ⟨c2b0, c2b1⟩ := tgn c2
 replace H := Option.bind_eq_some_iff.mp H
 obtain ⟨t101, A30, H⟩ := H
 replace H : (impl_ReadList.l0 k a0 ([] : List Int) t101 (t101.length : Int) 0) = some (r1, r2) := H
 have A3 := Aside0.mk A30
 clear A30
 have H' := Aside0.mk H
 clear H
 go_enter Tryz.func55, Tryz.ntmps55
 go_wp2_with (first | ((with_reducible refine gate_callee (f := 54) rfl ?_); refine goesL_ (some 12) rfl rfl Tryz.func54 (by kernel_rfl) rfl #[.string a0, .string (⟨#[44]⟩ : ByteArray)] rfl Z55.z2 ?_; (with_reducible refine (strings_Split.calls a0 (⟨#[44]⟩ : ByteArray) t101 _ ?side1 A3.out).mono ?_); (case side1 => exact (by exact LaidM.below hlM_ Z55.z0)); rintro e w4 ⟨v102, rfl, ho0, hb⟩; refine ⟨_, rfl, ?_⟩; have HO103 := Aside0.mk (Kd.R_lower ho0 (below_size Z55.z0)); replace HB := Aside0.mk (below_step Z55.z0 hb); (try clear hb); (try clear ho0); obtain ⟨Ao5, co5, eo5⟩ := Kd.R_slice HO103.out; subst eo5))
 go_loopg [4, 14] k (fun kq v4 v14 w' => ∃ (x4_1 : List Int) (x14_1 : Int), v14 = .int .i64 x14_1 ∧ Aside0 (impl_ReadList.l0 kq a0 x4_1 t101 (t101.length : Int) x14_1 = some (r1, r2)) ∧ Aside0 (kq ≤ k) ∧ Aside0 (Kd.R (Kd.int .i64) 2 w' w.heap.size (fun _ => True) v4 x4_1) ∧ Aside0 (Kd.R Kd.string 9 w' w.heap.size (fun _ => True) (.slice Ao5 t101.length co5) t101) ∧ Aside0 (Below w.heap.size w w'))
 case atStart => exact ⟨(([] : List Int)), (0), (by first | rfl | (simp; done) | (simp [*]; done)), H', ⟨Nat.le_refl _⟩, ⟨Z55.z4⟩, ⟨(tgR HO103.out)⟩, ⟨Z55.z0⟩⟩
 case round =>
  clear H'
  try clear c2
  try clear c2b0
  try clear c2b1
  try clear p2
  try clear c5
  obtain ⟨x4_1, x14_1, rfl, HA, HK1, HO_4, HO_12, HB⟩ := hrel
  cases gk with
  | zero => exact absurd HA.out (by simp [impl_ReadList.l0])
  | succ k1 =>
   have H := HA.out
   clear HA
   simp only [impl_ReadList.l0] at H
   by_cases c6 : x14_1 < (t101.length : Int)
   ·rw [if_pos c6] at H
    have c6b0 := decide_eq_true c6
    clear c6
    by_cases c7 : 0 ≤ x14_1
    ·rw [if_pos c7] at H
     have c7b0 := decide_eq_true c7
     clear c7
     by_cases c8 : x14_1 < (t101.length : Int)
     ·rw [if_pos c8] at H
      have c8b0 := decide_eq_true c8; clear c8; replace H := Option.bind_eq_some_iff.mp H; obtain ⟨⟨t105, t106⟩, A90, H⟩ := H
      (try dsimp only at H)
      have A9 := Aside0.mk A90; clear A90
      by_cases c10 : x4_1.length < 17592186044416
      ·rw [if_pos c10] at H
       have LMc10 := Aside0.mk c10; clear c10; obtain ⟨y107, hy107⟩ : ∃ y_ : List Int, y_ = (x4_1 ++ [t105]) := ⟨_, rfl⟩; replace H : (impl_ReadList.l0 k1 a0 y107 t101 (t101.length : Int) (wrap64 (x14_1 + 1))) = some (r1, r2) := by first | (rw [hy107]; with_reducible exact H) | (have H2_ := (Option.bind_some _ _).symm.trans H; rw [hy107]; with_reducible exact H2_) | (have H2_ := (Option.bind_some _ _).symm.trans H; with_reducible exact H2_) | with_reducible exact H | (rw [hy107]; exact H) | exact H
       have Ny107 := Aside0.mk hy107; clear hy107; have H' := Aside0.mk H; clear H; have p104 : 0 ≤ (x14_1 : Int) := of_decide_eq_true (by first | (with_reducible assumption) | assumption); have q104 : x14_1 < (t101.length : Int) := of_decide_eq_true (by first | (with_reducible assumption) | assumption); obtain ⟨ad104, e104, hx104_0⟩ := Kd.at_string (Kd.R_reads' HO_12.out).2.2 x14_1 p104 q104; cases e104; replace p104 := eq_true p104; replace q104 := eq_true q104
       go_wp2_with (first | ((with_reducible refine gate_callee (f := 27) rfl ?_); refine goesL_ (some 20) rfl rfl Tryz.func27 (by kernel_rfl) rfl #[.string (rdOf ByteArray.empty t101 x14_1)] rfl Z55.z2 ?_; (with_reducible refine (impl_ReadDecimal.calls (rdOf ByteArray.empty t101 x14_1) t105 t106 _ ?side1 ?side2 A9.out).mono ?_); (case side1 => exact (by exact LaidP.below hlP_ Z55.z0)); (case side2 => exact (by exact LaidE.below hlE_ Z55.z0)); rintro e w11 ⟨rfl, hb⟩; refine ⟨_, rfl, ?_⟩; replace HO_4 := Aside0.mk (Kd.R_below Z55.z1 hb); replace HO_12 := Aside0.mk (Kd.R_below Z55.z3 hb); replace HB := Aside0.mk (below_step Z55.z0 hb); (try clear hb); (try clear hi)) | ((with_reducible refine gate_builtin (b := .append) (xs := #[.tmp 23, .tmp 25]) rfl ?_); at_builtin; refine Kd.R_append (Kd.int .i64) (w0 := w) w.heap.size rfl (.tmp 23) (.tmp 25) 26 2 (.int .i64 0) 8 rfl Tryz.underlying26 info2 rfl (by decide) (by omega) u4 x4_1 t105 [.int .i64 t105] (fun _ => True) (fun _ => False) rfl rfl ?aP (fun _ hk => hk.elim) ?aF ?aO ?aB ?aS ?aL ?_; (case aP => exact rfl); (case aB => exact Z55.z0); (case aF => exact (fun _ _ => trivial)); (case aO => exact Z55.z1); (case aS => exact (below_size Z55.z0)); (case aL => have := LMc10.out; omega); intro v108 w12 ho hb hg hat; rw [← Ny107.out] at ho; have HO109 := Aside0.mk (ho); replace HO_12 := Aside0.mk (Kd.R_over' Z55.z3 (Kd.R_typed Z55.z1) (by decide) hg); replace HB := Aside0.mk (hb); clear HO_4; clear ho hb hg hat))
       go_roundg k1
       case measure => have := HK1.out; omega
       case rel => exact ⟨(y107), (wrap64 (x14_1 + 1)), (by first | rfl | (simp; done) | (simp [*]; done)), H', ⟨(by have := HK1.out; omega)⟩, ⟨(tgR HO109.out)⟩, ⟨Z55.z3⟩, ⟨Z55.z0⟩⟩
      rw [if_neg c10] at H; exact absurd H (by simp)
     rw [if_neg c8] at H
     exact absurd H (by simp)
    rw [if_neg c7] at H
    exact absurd H (by simp)
   rw [if_neg c6] at H
   have c6b0 := decide_eq_false c6
   clear c6
   replace H := Option.bind_eq_some_iff.mp H
   obtain ⟨t110, A130, H⟩ := H
   (try dsimp only at H)
   have A13 := Aside0.mk A130
   clear A130
   by_cases c14 : t110.toList = a0.toList
   ·rw [if_pos c14] at H
    obtain ⟨c14b0, c14b1⟩ := tge c14
    clear c14
    simp only [Option.some.injEq, Prod.mk.injEq] at H
    obtain ⟨rfl, rfl⟩ := H
    obtain ⟨Ao15, co15, eo15⟩ := Kd.R_slice HO_4.out
    subst eo15
    go_wp2_with (first | ((with_reducible refine gate_callee (f := 62) rfl ?_); refine goesL_ (some 29) rfl rfl Tryz.func62 (by kernel_rfl) rfl #[.slice Ao15 x4_1.length co15] rfl Z55.z2 ?_; (with_reducible refine (impl_ListText.calls k1 _ _ x4_1 t110 _ ?side1 ?side2 ?side3 A13.out).mono ?_); (case side1 => exact Z55.z6); (case side2 => exact (Kd.R_reads' HO_4.out).2.1); (case side3 => exact (by exact LaidP.below hlP_ Z55.z0)); rintro e w16 ⟨rfl, hb⟩; refine ⟨_, rfl, ?_⟩; replace HO_4 := Aside0.mk (Kd.R_below Z55.z1 hb); replace HO_12 := Aside0.mk (Kd.R_below Z55.z3 hb); replace HB := Aside0.mk (below_step Z55.z0 hb); (try clear hb); (try clear hi)))
    go_ret2
    exact ⟨_, Z55.z5, Z55.z1, Z55.z0⟩
   rw [if_neg c14] at H
   obtain ⟨c14b0, c14b1⟩ := tgn c14
   simp only [Option.some.injEq, Prod.mk.injEq] at H
   obtain ⟨rfl, rfl⟩ := H
   obtain ⟨Ao17, co17, eo17⟩ := Kd.R_slice HO_4.out
   subst eo17
   go_wp2_with (first | ((with_reducible refine gate_callee (f := 62) rfl ?_); refine goesL_ (some 29) rfl rfl Tryz.func62 (by kernel_rfl) rfl #[.slice Ao17 x4_1.length co17] rfl Z55.z2 ?_; (with_reducible refine (impl_ListText.calls k1 _ _ x4_1 t110 _ ?side1 ?side2 ?side3 A13.out).mono ?_); (case side1 => exact Z55.z6); (case side2 => exact (Kd.R_reads' HO_4.out).2.1); (case side3 => exact (by exact LaidP.below hlP_ Z55.z0)); rintro e w18 ⟨rfl, hb⟩; refine ⟨_, rfl, ?_⟩; replace HO_4 := Aside0.mk (Kd.R_below Z55.z1 hb); replace HO_12 := Aside0.mk (Kd.R_below Z55.z3 hb); replace HB := Aside0.mk (below_step Z55.z0 hb); (try clear hb); (try clear hi)))
   go_ret2
   exact ⟨_, Z55.z5, Z55.z4, Z55.z0⟩
/-! ### impl_readSlashed: function 25 -/
def impl_readSlashed.l0 : Nat → List ByteArray → List (List Int) → List ByteArray → Int → Int → Option (ByteArray × (List (List Int)))
  | 0, _, _, _, _, _ => none
  | k + 1, x4, x5, x13, x14, x15 => if x15 < x14 then (if 0 ≤ x15 then (if x15 < (x13.length : Int) then ((impl_ReadList.f k (rdOf ByteArray.empty x13 x15)).bind fun bt109 => (if x5.length < 5864062014805 then (impl_readSlashed.l0 k x4 (x5 ++ [bt109.1]) x13 x14 (wrap64 (x15 + 1))) else (none))) else (none)) else (none)) else (if 0 < (x4.length : Int) then (some (rdOf ByteArray.empty x4 0, x5)) else (none))
def impl_readSlashed.f (k : Nat) (a0 : ByteArray) : Option (ByteArray × (List (List Int))) := (strings_Split.f a0 (⟨#[47]⟩ : ByteArray)).bind fun t101 => (if 1 ≤ (t101.length : Int) then ((some (t101.drop 1 : List ByteArray)).bind fun y104 => (impl_readSlashed.l0 k t101 ([] : List (List Int)) y104 (y104.length : Int) 0)) else (none))
theorem Z25.z3 {P : Prop} (h : P := by (try simp only [List.map_toArray, List.map_cons, List.map_nil]); first | done | rfl | (simp only [List.length_drop, List.length_take]; rfl)) : P := h
theorem Z25.z2 {P : Prop} (h : P := by exact tgR HO_4.out) : P := h
theorem Z25.z1 {P : Prop} (h : P := by exact tgS HO_5.out) : P := h
theorem Z25.z0 {P : Prop} (h : P := by repeat (first | (with_reducible first | exact HB.out | apply below_alloc | apply pw_below_drewN | apply below_drew1) | exact HB.out)) : P := h
set_option maxHeartbeats 8000000 in
set_option maxRecDepth 100000 in
theorem impl_readSlashed.calls (k : Nat) (a0 : ByteArray) (r1 : ByteArray) (r2 : List (List Int)) (w : World) (hlP_ : LaidP w) (hlE_ : LaidE w) (hlM_ : LaidM w) (h : impl_readSlashed.f k a0 = some (r1, r2)) :
  Calls Tryz.prog 25 #[.string a0] w fun e w' => ∃ v1_ : Value, e = .returned (.tuple #[.string r1, v1_]) ∧ Kd.S (Kd.slice 2 (Kd.int .i64)) 26 w' w.heap.size (fun _ => True) v1_ r2 ∧ Below w.heap.size w w' := by
 have HB := Aside0.mk (Below.refl w.heap.size w)
 have H : ((strings_Split.f a0 (⟨#[47]⟩ : ByteArray)).bind fun t101 => (if 1 ≤ (t101.length : Int) then ((some (t101.drop 1 : List ByteArray)).bind fun y104 => (impl_readSlashed.l0 k t101 ([] : List (List Int)) y104 (y104.length : Int) 0)) else (none))) = some (r1, r2) := h
 clear h
 replace H := Option.bind_eq_some_iff.mp H
 obtain ⟨t101, A20, H⟩ := H
 replace H : (if 1 ≤ (t101.length : Int) then ((some (t101.drop 1 : List ByteArray)).bind fun y104 => (impl_readSlashed.l0 k t101 ([] : List (List Int)) y104 (y104.length : Int) 0)) else (none)) = some (r1, r2) := H
 have A2 := Aside0.mk A20
 clear A20
 by_cases c3 : 1 ≤ (t101.length : Int)
 ·rw [if_pos c3] at H
  have c3b0 := eq_true c3
  have c3b1 := decide_eq_true c3
  clear c3
  obtain ⟨y104, hy104⟩ : ∃ y_ : List ByteArray, y_ = (t101.drop 1) := ⟨_, rfl⟩
  replace H : (impl_readSlashed.l0 k t101 ([] : List (List Int)) y104 (y104.length : Int) 0) = some (r1, r2) := by first | (rw [hy104]; with_reducible exact H) | (have H2_ := (Option.bind_some _ _).symm.trans H; rw [hy104]; with_reducible exact H2_) | (have H2_ := (Option.bind_some _ _).symm.trans H; with_reducible exact H2_) | with_reducible exact H | (rw [hy104]; exact H) | exact H
  have Ny104 := Aside0.mk hy104
  clear hy104
  have H' := Aside0.mk H
  clear H
  go_enter Tryz.func25, Tryz.ntmps25
  go_wp2_with (first | ((with_reducible refine gate_callee (f := 54) rfl ?_); refine goesL_ (some 11) rfl rfl Tryz.func54 (by kernel_rfl) rfl #[.string a0, .string (⟨#[47]⟩ : ByteArray)] rfl Z25.z3 ?_; (with_reducible refine (strings_Split.calls a0 (⟨#[47]⟩ : ByteArray) t101 _ ?side1 A2.out).mono ?_); (case side1 => exact (by exact LaidM.below hlM_ Z25.z0)); rintro e w4 ⟨v102, rfl, ho0, hb⟩; refine ⟨_, rfl, ?_⟩; have HO103 := Aside0.mk (Kd.R_lower ho0 (below_size Z25.z0)); replace HB := Aside0.mk (below_step Z25.z0 hb); (try clear hb); (try clear ho0); obtain ⟨Ao6, co6, eo6⟩ := Kd.R_slice HO103.out; subst eo6; have q5 : (1 : Int) ≤ ((t101.length : Int) : Int) := of_decide_eq_true (by first | (with_reducible assumption) | assumption); obtain ⟨i05, hi05, _, hsz5, _⟩ := info_parts info9; have hroom5 : t101.length ≤ co6 := (Kd.R_reads' HO103.out).2.1; have hC5 : Kd.C Kd.string _ Ao6 t101.length t101 := (Kd.R_reads' HO103.out).2.2; have hcut5 := cut_from (P := Tryz.prog) 80 9 .i64 Tryz.underlying80 hi05 1 hsz5 Ao6 t101.length co6 1 (by omega) q5; have hr5 := Kd.C_drop (m := (1 : Int).toNat) (c := co6) hC5 (by omega) hroom5; obtain ⟨A5, hA5⟩ : ∃ A1, A1 = (if co6 = (1 : Int).toNat then Ao6 else (Ao6 : Option Addr).map (·.add ((1 : Int).toNat * 1))) := ⟨_, rfl⟩; obtain ⟨c5, hc5⟩ : ∃ c1, c1 = co6 - (1 : Int).toNat := ⟨_, rfl⟩; have hy5 : y104.length = t101.length - (1 : Int).toNat := (by rw [Ny104.out, List.length_drop] <;> omega); rw [show (t101).drop (1 : Int).toNat = y104 from Ny104.out.symm] at hr5; replace hr5 : Kd.C Kd.string _ A5 y104.length y104 := (by rw [hA5]; exact hr5); rw [← hy5, ← hA5, ← hc5] at hcut5; have HR107 := Aside0.mk hr5; have HC107 := Aside0.mk (show y104.length ≤ c5 from by rw [hy5, hc5]; exact Nat.sub_le_sub_right hroom5 _); clear hr5 hC5 hroom5 hi05 hsz5 hc5; have KY5 := Aside0.mk hy5; have KA5 := Aside0.mk hA5; clear hy5 hA5; have KL5 := Aside0.mk (show 1 ≤ t101.length from by omega); replace q5 := eq_true q5))
  go_loopg [5, 15] k (fun kq v5 v15 w' => ∃ (x5_1 : List (List Int)) (x15_1 : Int), v15 = .int .i64 x15_1 ∧ Aside0 (impl_readSlashed.l0 kq t101 x5_1 y104 (y104.length : Int) x15_1 = some (r1, r2)) ∧ Aside0 (kq ≤ k) ∧ Aside0 (Kd.R Kd.string 9 w' w.heap.size (fun _ => True) (.slice Ao6 t101.length co6) t101) ∧ Aside0 (Kd.S (Kd.slice 2 (Kd.int .i64)) 26 w' w.heap.size (fun _ => True) v5 x5_1) ∧ Aside0 (Below w.heap.size w w'))
  case atStart => exact ⟨(([] : List (List Int))), (0), (by first | rfl | (simp; done) | (simp [*]; done)), H', ⟨Nat.le_refl _⟩, ⟨(tgR HO103.out)⟩, ⟨(by first | exact Kd.S_nil _ _ _ _ _ | exact Kd.N_nil _ _ _ _ _ | exact Kd.V_nil _ _ _ _ _ | exact Kd.Q_nil _ _ _ _ _ | exact Kd.R_nil _ _ _ _ _)⟩, ⟨Z25.z0⟩⟩
  case round =>
   clear H'
   try clear c1
   try clear c2
   try clear p2
   try clear c3
   try clear c3b0
   try clear c3b1
   try clear c5
   try clear q5
   try clear q5
   obtain ⟨x5_1, x15_1, rfl, HA, HK1, HO_4, HO_5, HB⟩ := hrel
   cases gk with
   | zero => exact absurd HA.out (by simp [impl_readSlashed.l0])
   | succ k1 =>
    have H := HA.out
    clear HA
    simp only [impl_readSlashed.l0] at H
    by_cases c7 : x15_1 < (y104.length : Int)
    ·rw [if_pos c7] at H
     have c7b0 := decide_eq_true c7
     clear c7
     by_cases c8 : 0 ≤ x15_1
     ·rw [if_pos c8] at H
      have c8b0 := decide_eq_true c8; clear c8
      by_cases c9 : x15_1 < (y104.length : Int)
      ·rw [if_pos c9] at H
       have c9b0 := decide_eq_true c9; clear c9; replace H := Option.bind_eq_some_iff.mp H; obtain ⟨⟨t109, t110⟩, A100, H⟩ := H
       (try dsimp only at H)
       have A10 := Aside0.mk A100; clear A100
       by_cases c11 : x5_1.length < 5864062014805
       ·rw [if_pos c11] at H
        have LMc11 := Aside0.mk c11; clear c11; obtain ⟨y113, hy113⟩ : ∃ y_ : List (List Int), y_ = (x5_1 ++ [t109]) := ⟨_, rfl⟩; replace H : (impl_readSlashed.l0 k1 t101 y113 y104 (y104.length : Int) (wrap64 (x15_1 + 1))) = some (r1, r2) := by first | (rw [hy113]; with_reducible exact H) | (have H2_ := (Option.bind_some _ _).symm.trans H; rw [hy113]; with_reducible exact H2_) | (have H2_ := (Option.bind_some _ _).symm.trans H; with_reducible exact H2_) | with_reducible exact H | (rw [hy113]; exact H) | exact H
        have Ny113 := Aside0.mk hy113; clear hy113; have H' := Aside0.mk H; clear H; have p108 : 0 ≤ (x15_1 : Int) := of_decide_eq_true (by first | (with_reducible assumption) | assumption); have q108 : x15_1 < (y104.length : Int) := of_decide_eq_true (by first | (with_reducible assumption) | assumption); have hrQ : Kd.C Kd.string wr A5 y104.length y104 := by
         have hr_ := Kd.C_drop (m := (1 : Int).toNat) (c := co6) (Kd.R_reads' HO_4.out).2.2 (by have := KL5.out; show 1 ≤ _; omega) (Kd.R_reads' HO_4.out).2.1; rw [show (t101).drop (1 : Int).toNat = y104 from Ny104.out.symm] at hr_; rw [KA5.out]; exact hr_
        obtain ⟨ad108, e108, hx108_0⟩ := Kd.at_string hrQ x15_1 p108 q108; cases e108; replace p108 := eq_true p108; replace q108 := eq_true q108
        go_wp2_with (first | ((with_reducible refine gate_callee (f := 55) rfl ?_); refine goesL_ (some 21) rfl rfl Tryz.func55 (by kernel_rfl) rfl #[.string (rdOf ByteArray.empty y104 x15_1)] rfl Z25.z3 ?_; (with_reducible refine (impl_ReadList.calls k1 (rdOf ByteArray.empty y104 x15_1) t109 t110 _ ?side1 ?side2 ?side3 A10.out).mono ?_); (case side1 => exact (by exact LaidP.below hlP_ Z25.z0)); (case side2 => exact (by exact LaidE.below hlE_ Z25.z0)); (case side3 => exact (by exact LaidM.below hlM_ Z25.z0)); rintro e w12 ⟨v111, rfl, ho0, hb⟩; refine ⟨_, rfl, ?_⟩; have HO112 := Aside0.mk (Kd.R_lower ho0 (below_size Z25.z0)); replace HO_4 := Aside0.mk (Kd.R_below Z25.z2 hb); replace HO_5 := Aside0.mk (Kd.S_elder' Z25.z1 (Kd.R_base ho0) hb); replace HB := Aside0.mk (below_step Z25.z0 hb); (try clear hb); (try clear ho0); obtain ⟨Ao14, co14, eo14⟩ := Kd.R_slice HO112.out; subst eo14) | ((with_reducible refine gate_builtin (b := .append) (xs := #[.tmp 24, .tmp 26]) rfl ?_); at_builtin; refine Kd.S_append (Kd.slice 2 (Kd.int .i64)) (w0 := w) w.heap.size rfl (.tmp 24) (.tmp 26) 51 26 (.slice none 0 0) 24 rfl Tryz.underlying51 info26 rfl (by decide) (by omega) u5 x5_1 t109 [.slice Ao14 t109.length co14] (fun _ => True) (fun k_ => some k_ = (.slice Ao14 t109.length co14 : Value).ownBlock) rfl rfl ?aP (fun k_ hk_ => ((Kd.R_mono (ok' := fun k_ => ((fun _ => True)) k_ ∧ some k_ ≠ (u5 : Value).ownBlock) (Kd.R_apart' (HO112.out) (Kd.S_typed HO_5.out) (by decide)) (fun k_ hk => ⟨trivial, hk.2⟩))).1 k_ hk_.symm) ?aF ?aO ?aB ?aS ?aL ?_; (case aP => exact Kd.M_row (Kd.R_mono (Kd.R_tight rfl (Kd.R_mono (ok' := fun k_ => ((fun _ => True)) k_ ∧ some k_ ≠ (u5 : Value).ownBlock) (Kd.R_apart' (HO112.out) (Kd.S_typed HO_5.out) (by decide)) (fun k_ hk => ⟨trivial, hk.2⟩))) (fun _ h_ => h_))); (case aB => exact Z25.z0); (case aF => exact (fun _ _ => trivial)); (case aO => exact (by (with_reducible repeat (first | apply Kd.S_alloc | apply Kd.S_drewN | apply Kd.S_drew)); exact Kd.S_mono HO_5.out (fun k_ hk => ⟨trivial, fun e_ => hk.2 e_⟩))); (case aS => exact (below_size Z25.z0)); (case aL => have := LMc11.out; omega); intro v114 w13 ho hb hg hat; rw [← Ny113.out] at ho; have HO115 := Aside0.mk (ho); replace HO_4 := Aside0.mk (Kd.R_over' Z25.z2 (Kd.S_typed Z25.z1) (by decide) hg); replace HB := Aside0.mk (hb); clear HO_5 HO112; clear ho hb hg hat))
        go_roundg k1
        case measure => have := HK1.out; omega
        case rel => exact ⟨(y113), (wrap64 (x15_1 + 1)), (by first | rfl | (simp; done) | (simp [*]; done)), H', ⟨(by have := HK1.out; omega)⟩, ⟨Z25.z2⟩, ⟨(tgS HO115.out)⟩, ⟨Z25.z0⟩⟩
       rw [if_neg c11] at H; exact absurd H (by simp)
      rw [if_neg c9] at H; exact absurd H (by simp)
     rw [if_neg c8] at H
     exact absurd H (by simp)
    rw [if_neg c7] at H
    have c7b0 := decide_eq_false c7
    clear c7
    by_cases c15 : 0 < (t101.length : Int)
    ·rw [if_pos c15] at H
     have c15b0 := decide_eq_true c15
     have c15b1 : decide (0 < t101.length) = true := decide_eq_true (by omega)
     clear c15
     simp only [Option.some.injEq, Prod.mk.injEq] at H
     obtain ⟨rfl, rfl⟩ := H
     have p116 : 0 ≤ (0 : Int) := (by omega)
     have q116 : 0 < (t101.length : Int) := of_decide_eq_true (by first | (with_reducible assumption) | assumption)
     obtain ⟨ad116, e116, hx116_0⟩ := Kd.at_string (Kd.R_reads' HO_4.out).2.2 0 p116 q116
     cases e116
     have qi116 : (0 < t101.length) = True := eq_true (by omega)
     (try rw [show ((0 : Int)).toNat = 0 from rfl] at hx116_0)
     (try rw [Addr.add_zero'] at hx116_0)
     replace p116 := eq_true p116
     replace q116 := eq_true q116
     go_wp2
     go_ret2
     exact ⟨_, (by first | rfl | (simp [errW_none, errW_some] <;> rfl) | (simp [*, errW_none, errW_some] <;> rfl)), Z25.z1, Z25.z0⟩
    rw [if_neg c15] at H
    exact absurd H (by simp)
 rw [if_neg c3] at H
 exact absurd H (by simp)
/-! ### strings_Cut: function 26: ours -/
def strings_Cut.f (a0 a1 : ByteArray) : Option (ByteArray × ByteArray × Bool) := if a0.size < 4294967281 then some (⟨(Lib.cut a0.data.toList a1.data.toList).1.toArray⟩, ⟨(Lib.cut a0.data.toList a1.data.toList).2.1.toArray⟩, (Lib.cut a0.data.toList a1.data.toList).2.2) else none
theorem strings_Cut.calls (a0 a1 : ByteArray) (r1 : ByteArray) (r2 : ByteArray) (r3 : Bool) (w : World) (hlM_ : LaidM w) (h : strings_Cut.f a0 a1 = some (r1, r2, r3)) :
  Calls Tryz.prog 26 #[.string a0, .string a1] w fun e w' => e = .returned (.tuple #[.string r1, .string r2, .bool r3]) ∧ Below w.heap.size w w' := by
 unfold strings_Cut.f at h
 by_cases hb : a0.size < 4294967281
 ·rw [if_pos hb] at h
  have h := Option.some.inj h
  simp only [Prod.mk.injEq] at h
  obtain ⟨rfl, rfl, rfl⟩ := h
  obtain ⟨m, hm⟩ := hlM_
  refine (Tryz.strings_Cut a0 a1 m w hb hm).mono ?_
  rintro e w' ⟨rfl, n, rfl⟩
  exact ⟨rfl, pw_below_drewN (Below.refl _ w) n⟩
 rw [if_neg hb] at h; cases h
/-! ### slices_Grow_int64_int64: function 59: ours -/
def slices_Grow_int64_int64.f (l : List Int) (n : Int) : Option (List Int) := if l.length = 0 then (if 0 ≤ n then (if n < 17592186044416 then some [] else none) else none) else none
theorem slices_Grow_int64_int64.parts {n : Int} {r : List Int} (h : slices_Grow_int64_int64.f [] n = some r) : 0 ≤ n ∧ n < 17592186044416 ∧ r = [] := by
  unfold slices_Grow_int64_int64.f at h
  rw [if_pos (show ([] : List Int).length = 0 from rfl)] at h
  by_cases h0 : 0 ≤ n
  · rw [if_pos h0] at h
    by_cases h1 : n < 17592186044416
    · rw [if_pos h1] at h
      exact ⟨h0, h1, (Option.some.inj h).symm⟩
    · rw [if_neg h1] at h; cases h
  · rw [if_neg h0] at h; cases h
set_option maxHeartbeats 4000000 in
set_option maxRecDepth 100000 in
theorem slices_Grow_int64_int64.calls (n : Int) (r : List Int) (w : World) (h : slices_Grow_int64_int64.f [] n = some r) :
  Calls Tryz.prog 59 #[.slice none 0 0, .int .i64 n] w fun e w' => ∃ v0_ : Value, e = .returned v0_ ∧ Kd.R (Kd.int .i64) 2 w' w.heap.size (fun _ => True) v0_ r ∧ Below w.heap.size w w' := by
 obtain ⟨h0, h1, rfl⟩ := slices_Grow_int64_int64.parts h
 clear h
 by_cases hz : n = 0
 ·subst hz
  clear h0 h1
  go_enter Tryz.func59, Tryz.ntmps59
  go_wp2
  go_ret
  exact ⟨_, rfl, Kd.R_nil _ _ _ _ _, (by repeat (first | exact Below.refl _ _ | apply below_drew1 | apply pw_below_drewN))⟩
 have b0 : decide (n < 0) = false := decide_eq_false (by omega)
 have b1 : decide (0 < n) = true := decide_eq_true (by omega)
 have w1 : IntKind.i64.wrap n = n := by rw [i64_w]; unfold wrap64; omega
 have H0 := Aside0.mk h0
 have H1 := Aside0.mk h1
 clear h0 h1 hz
 have hcut : ∀ (c : Nat) (a : Addr) (W : World), (Instr.slice 26 (.slice (some a) n.toNat c) none (some (.int .i64 0)) none).run Tryz.prog W = .ok (.slice (some a) 0 c) W := fun c a W => by
  obtain ⟨i033, hi033, _, hsz33, _⟩ := info_parts info2
  have hel : Tryz.prog.elem 26 = 2 := by simp [Program.elem, Tryz.underlying26]
  have hu : Tryz.prog.underlying 26 = some (.slice (Tryz.prog.elem 26)) := by rw [hel]; exact Tryz.underlying26
  have ha : a.add 0 = a := by simp [Addr.add]
  rw [run_slice_h W 26 (some a) n.toNat c hu .i64 0 (Int.le_refl _) (by omega), hel]
  simp [sizeOf, typeInfo, hi033, hsz33, sliced, Result.andThen, ha]
 go_enter Tryz.func59, Tryz.ntmps59
 go_wp2_with (first | ((with_reducible refine gate_builtin (b := .append) (xs := #[.tmp 20, .tmp 21]) rfl ?_); at_builtin; refine Kd.R_append_zeros (Kd.int .i64) (w0 := w) w.heap.size rfl (.tmp 20) (.tmp 21) 26 3 2 (.int .i64 0) 8 rfl Tryz.underlying26 Tryz.underlying3 info2 rfl (by decide) (by omega) (.slice none 0 0) ([] : List Int) 0 n (fun _ => True) rfl rfl rfl (fun _ _ => trivial) (Kd.R_nil _ _ _ _ _) H0.out (Below.refl _ _) (Nat.le_refl _) (by have := H1.out; have := H0.out; simp only [List.length_nil]; omega) ?_; intro v1 w2 ho hb hg hat; rw [List.nil_append] at ho; obtain ⟨g1, c1, e1, _, _, _⟩ := Kd.R_form ho (by rw [List.length_replicate]; have := of_decide_eq_true b1; omega); subst e1; rw [List.length_replicate] at ho ⊢; have ho' := Kd.R_take ho (m := 0) (Nat.zero_le _); rw [List.take_zero] at ho'; have HO := Aside0.mk ho'; have HB := Aside0.mk hb; clear ho ho' hb hg hat))
 go_ret
 exact ⟨_, rfl, HO.out, HB.out⟩
/-! ### slices_Concat_int64_int64: function 28 -/
mutual
def slices_Concat_int64_int64.l0 : Nat → List (List Int) → Int → List (List Int) → Int → Int → Option (List Int)
  | 0, _, _, _, _, _ => none
  | k + 1, x0, x3, x9, x10, x11 => if x11 < x10 then (if 0 ≤ x11 then (if x11 < (x9.length : Int) then (if (wrap64 (x3 + ((rd_L2 x9 x11).length : Int))) < 0 then (if 0 = 0 then (none) else (slices_Concat_int64_int64.l0 k x0 (wrap64 (x3 + ((rd_L2 x9 x11).length : Int))) x9 x10 (wrap64 (x11 + 1)))) else (slices_Concat_int64_int64.l0 k x0 (wrap64 (x3 + ((rd_L2 x9 x11).length : Int))) x9 x10 (wrap64 (x11 + 1)))) else (none)) else (none)) else ((slices_Grow_int64_int64.f ([] : List Int) x3).bind fun t102 => (slices_Concat_int64_int64.l1 k t102 x0 (x0.length : Int) 0))
def slices_Concat_int64_int64.l1 : Nat → List Int → List (List Int) → Int → Int → Option (List Int)
  | 0, _, _, _, _ => none
  | k + 1, x6, x25, x26, x27 => if x27 < x26 then (if 0 ≤ x27 then (if x27 < (x25.length : Int) then (if x6.length + (rd_L2 x25 x27).length < 17592186044416 then (slices_Concat_int64_int64.l1 k (x6 ++ (rd_L2 x25 x27)) x25 x26 (wrap64 (x27 + 1))) else (none)) else (none)) else (none)) else (some x6)
end
def slices_Concat_int64_int64.f (k : Nat) (l0 : List (List Int)) : Option (List Int) := slices_Concat_int64_int64.l0 k l0 0 l0 (l0.length : Int) 0
theorem Z28.z0 {P : Prop} (h : P := by repeat (first | (with_reducible first | exact HB.out | apply below_alloc | apply pw_below_drewN | apply below_drew1) | exact HB.out)) : P := h
set_option maxHeartbeats 8000000 in
set_option maxRecDepth 100000 in
theorem slices_Concat_int64_int64.calls (k : Nat) (A0 : Option Addr) (c0 : Nat) (l0 : List (List Int)) (r : List Int) (w : World) (hr0 : Kd.C (Kd.slice 2 (Kd.int .i64)) w A0 l0.length l0) (hc0 : l0.length ≤ c0) (h : slices_Concat_int64_int64.f k l0 = some r) :
  Calls Tryz.prog 28 #[.slice A0 l0.length c0] w fun e w' => ∃ v0_ : Value, e = .returned (v0_) ∧ Kd.R (Kd.int .i64) 2 w' w.heap.size (fun _ => True) v0_ r ∧ Below w.heap.size w w' := by
 have HR0 := Aside0.mk hr0
 have HC0 := Aside0.mk hc0
 clear hr0 hc0
 have HB := Aside0.mk (Below.refl w.heap.size w)
 have H : (slices_Concat_int64_int64.l0 k l0 0 l0 (l0.length : Int) 0) = some r := h
 clear h
 have H' := Aside0.mk H
 clear H
 go_enter Tryz.func28, Tryz.ntmps28
 go_wp2
 go_loopg [3, 11] k (fun kq v3 v11 w' => ∃ (x3_1 : Int) (x11_1 : Int), v3 = .int .i64 x3_1 ∧ v11 = .int .i64 x11_1 ∧ Aside0 (slices_Concat_int64_int64.l0 kq l0 x3_1 l0 (l0.length : Int) x11_1 = some r) ∧ Aside0 (kq ≤ k) ∧ Aside0 (Below w.heap.size w w'))
 case atStart => exact ⟨(0), (0), (by first | rfl | (simp; done) | (simp [*]; done)), (by first | rfl | (simp; done) | (simp [*]; done)), H', ⟨Nat.le_refl _⟩, ⟨Z28.z0⟩⟩
 case round =>
  clear H'
  obtain ⟨x3_1, x11_1, rfl, rfl, HA, HK1, HB⟩ := hrel
  cases gk with
  | zero => exact absurd HA.out (by simp [slices_Concat_int64_int64.l0])
  | succ k1 =>
   have H := HA.out
   clear HA
   simp only [slices_Concat_int64_int64.l0] at H
   by_cases c2 : x11_1 < (l0.length : Int)
   ·rw [if_pos c2] at H
    have c2b0 := decide_eq_true c2
    clear c2
    by_cases c3 : 0 ≤ x11_1
    ·rw [if_pos c3] at H
     have c3b0 := decide_eq_true c3
     clear c3
     by_cases c4 : x11_1 < (l0.length : Int)
     ·rw [if_pos c4] at H
      have c4b0 := decide_eq_true c4; clear c4
      by_cases c5 : (wrap64 (x3_1 + ((rd_L2 l0 x11_1).length : Int))) < 0
      ·rw [if_pos c5] at H
       have c5b0 := decide_eq_true c5; clear c5; exact absurd H (by simp)
      rw [if_neg c5] at H; have c5b0 := decide_eq_false c5; clear c5; have H' := Aside0.mk H; clear H; have p101 : 0 ≤ (x11_1 : Int) := of_decide_eq_true (by first | (with_reducible assumption) | assumption); have q101 : x11_1 < (l0.length : Int) := of_decide_eq_true (by first | (with_reducible assumption) | assumption); obtain ⟨ad101, A101_0, c101_0, e101, hx101_0, hl101_0, hi101_0⟩ := at_L2 HR0.out x11_1 p101 q101; cases e101; replace hx101_0 := (HB.out.cell (World.block_lt_of_cell? w _ hx101_0)).trans hx101_0; have HR101_0 := Aside0.mk hi101_0; have HC101_0 := Aside0.mk hl101_0; clear hi101_0 hl101_0; replace p101 := eq_true p101; replace q101 := eq_true q101
      go_wp2
      go_roundg k1
      case measure => have := HK1.out; omega
      case rel => exact ⟨(wrap64 (x3_1 + ((rd_L2 l0 x11_1).length : Int))), (wrap64 (x11_1 + 1)), (by first | rfl | (simp; done) | (simp [*]; done)), (by first | rfl | (simp; done) | (simp [*]; done)), H', ⟨(by have := HK1.out; omega)⟩, ⟨Z28.z0⟩⟩
     rw [if_neg c4] at H
     exact absurd H (by simp)
    rw [if_neg c3] at H
    exact absurd H (by simp)
   rw [if_neg c2] at H
   have c2b0 := decide_eq_false c2
   clear c2
   replace H := Option.bind_eq_some_iff.mp H
   obtain ⟨t102, A70, H⟩ := H
   replace H : (slices_Concat_int64_int64.l1 k1 t102 l0 (l0.length : Int) 0) = some r := H
   have A7 := Aside0.mk A70
   clear A70
   have H' := Aside0.mk H
   clear H
   go_wp2_with (first | ((with_reducible refine gate_callee (f := 59) rfl ?_); refine goesL_ (some 24) rfl rfl Tryz.func59 (by kernel_rfl) rfl #[.slice none 0 0, .int .i64 x3_1] rfl (by (try simp only [List.map_toArray, List.map_cons, List.map_nil]); first | done | rfl | (simp only [List.length_drop, List.length_take]; rfl)) ?_; (refine (slices_Grow_int64_int64.calls x3_1 t102 _ A7.out).mono ?_); rintro e w8 ⟨v103, rfl, ho0, hb⟩; refine ⟨_, rfl, ?_⟩; have HO104 := Aside0.mk (Kd.R_lower ho0 (below_size Z28.z0)); replace HB := Aside0.mk (below_step Z28.z0 hb); (try clear hb); (try clear ho0)))
   go_loopg [6, 27] k1 (fun kq v6 v27 w' => ∃ (x6_2 : List Int) (x27_2 : Int), v27 = .int .i64 x27_2 ∧ Aside0 (slices_Concat_int64_int64.l1 kq x6_2 l0 (l0.length : Int) x27_2 = some r) ∧ Aside0 (kq ≤ k1) ∧ Aside0 (Kd.R (Kd.int .i64) 2 w' w.heap.size (fun _ => True) v6 x6_2) ∧ Aside0 (Below w.heap.size w w'))
   case atStart => exact ⟨(t102), (0), (by first | rfl | (simp; done) | (simp [*]; done)), H', ⟨Nat.le_refl _⟩, ⟨(tgR HO104.out)⟩, ⟨Z28.z0⟩⟩
   case round =>
    clear H'
    try clear c1
    try clear p1
    try clear q1
    try clear hx1
    try clear c2
    try clear c2b0
    try clear p2
    try clear c3
    try clear c3b0
    try clear c4
    try clear c4b0
    try clear c5
    try clear c5b0
    try clear c6
    try clear c6b0
    try clear c6b1
    try clear p6
    try clear hx101_0
    try clear p101
    try clear q101
    obtain ⟨x6_2, x27_2, rfl, HA, HK2, HO_6, HB⟩ := hrel
    cases gk with
    | zero => exact absurd HA.out (by simp [slices_Concat_int64_int64.l1])
    | succ k2 =>
     have H := HA.out
     clear HA
     simp only [slices_Concat_int64_int64.l1] at H
     by_cases c9 : x27_2 < (l0.length : Int)
     ·rw [if_pos c9] at H
      have c9b0 := decide_eq_true c9; clear c9
      by_cases c10 : 0 ≤ x27_2
      ·rw [if_pos c10] at H
       have c10b0 := decide_eq_true c10; clear c10
       by_cases c11 : x27_2 < (l0.length : Int)
       ·rw [if_pos c11] at H
        have c11b0 := decide_eq_true c11; clear c11
        by_cases c12 : x6_2.length + (rd_L2 l0 x27_2).length < 17592186044416
        ·rw [if_pos c12] at H
         have LMc12 := Aside0.mk c12; clear c12; obtain ⟨y106, hy106⟩ : ∃ y_ : List Int, y_ = (x6_2 ++ (rd_L2 l0 x27_2)) := ⟨_, rfl⟩; replace H : (slices_Concat_int64_int64.l1 k2 y106 l0 (l0.length : Int) (wrap64 (x27_2 + 1))) = some r := by first | (rw [hy106]; with_reducible exact H) | (have H2_ := (Option.bind_some _ _).symm.trans H; rw [hy106]; with_reducible exact H2_) | (have H2_ := (Option.bind_some _ _).symm.trans H; with_reducible exact H2_) | with_reducible exact H | (rw [hy106]; exact H) | exact H
         have Ny106 := Aside0.mk hy106; clear hy106; have H' := Aside0.mk H; clear H; have p105 : 0 ≤ (x27_2 : Int) := of_decide_eq_true (by first | (with_reducible assumption) | assumption); have q105 : x27_2 < (l0.length : Int) := of_decide_eq_true (by first | (with_reducible assumption) | assumption); obtain ⟨ad105, A105_0, c105_0, e105, hx105_0, hl105_0, hi105_0⟩ := at_L2 HR0.out x27_2 p105 q105; cases e105; replace hx105_0 := (HB.out.cell (World.block_lt_of_cell? w _ hx105_0)).trans hx105_0; have HR105_0 := Aside0.mk hi105_0; have HC105_0 := Aside0.mk hl105_0; clear hi105_0 hl105_0; replace p105 := eq_true p105; replace q105 := eq_true q105
         go_wp2_with (first | ((with_reducible refine gate_builtin (b := .append) (xs := #[.tmp 31, .tmp 32]) rfl ?_); at_builtin; refine Kd.R_append_rows (Kd.int .i64) (w0 := w) w.heap.size rfl (.tmp 31) (.tmp 32) 26 2 (.int .i64 0) 8 rfl Tryz.underlying26 info2 rfl (by decide) (by omega) u6 x6_2 (rd_L2 l0 x27_2) _ _ _ (fun _ => True) (fun _ => False) rfl rfl ?aO ?aR (fun _ _ h => h) (fun _ h => h.elim) ?aF ?aB ?aS ?aL ?_; (case aR => repeat (first | exact (Kd.C_below HR105_0.out HB.out) | (with_reducible refine Kd.C_alloc ?_ _) | (with_reducible refine Kd.C_drewN ?_ _) | (with_reducible refine Kd.C_drew ?_))); (case aB => exact Z28.z0); (case aF => exact (fun _ _ => trivial)); (case aO => exact (tgR HO_6.out)); (case aS => exact (below_size Z28.z0)); (case aL => have := LMc12.out; omega); intro v107 w13 ho hb hg hat; rw [← Ny106.out] at ho; have HO108 := Aside0.mk (ho); replace HB := Aside0.mk (hb); clear HO_6; clear ho hb hg hat))
         go_roundg k2
         case measure => have := HK1.out; have := HK2.out; omega
         case rel => exact ⟨(y106), (wrap64 (x27_2 + 1)), (by first | rfl | (simp; done) | (simp [*]; done)), H', ⟨(by have := HK1.out; have := HK2.out; omega)⟩, ⟨(tgR HO108.out)⟩, ⟨Z28.z0⟩⟩
        rw [if_neg c12] at H; exact absurd H (by simp)
       rw [if_neg c11] at H; exact absurd H (by simp)
      rw [if_neg c10] at H; exact absurd H (by simp)
     rw [if_neg c9] at H
     have c9b0 := decide_eq_false c9
     clear c9
     obtain rfl := Option.some.inj H
     go_wp2
     go_ret
     exact ⟨_, (by first | rfl | (simp [errW_none, errW_some] <;> rfl) | (simp [*, errW_none, errW_some] <;> rfl)), (tgR HO_6.out), Z28.z0⟩
/-! ### impl_ReadMatrix: function 10 -/
def impl_ReadMatrix.f (k : Nat) (a0 : ByteArray) : Option (Int × Int × Int × List Int × Bool) := (impl_readSlashed.f k a0).bind fun bt102 => ((strings_Cut.f bt102.1 (⟨#[32]⟩ : ByteArray)).bind fun bt106 => ((strings_Cut.f bt106.2.1 (⟨#[120]⟩ : ByteArray)).bind fun bt109 => ((impl_ReadDecimal.f bt106.1).bind fun bt113 => ((impl_ReadDecimal.f bt109.1).bind fun bt115 => ((impl_ReadDecimal.f bt109.2.1).bind fun bt117 => ((slices_Concat_int64_int64.f k bt102.2).bind fun t119 => ((impl_ValidMatrix.f k bt113.1 bt115.1 bt117.1 t119).bind fun t122 => (if t122 = true then ((impl_MatrixText.f k bt113.1 bt115.1 bt117.1 t119).bind fun t123 => (if t123.toList = a0.toList then (some (bt113.1, bt115.1, bt117.1, t119, true)) else (some (0, 0, 0, ([] : List Int), false)))) else (some (0, 0, 0, ([] : List Int), false))))))))))
theorem Z10.z24 {P : Prop} (h : P := by exact LaidE.below hlE_ Z10.z0) : P := h
theorem Z10.z23 {P : Prop} (h : P := by exact LaidM.below hlM_ Z10.z1) : P := h
theorem Z10.z22 {P : Prop} (h : P := by first | exact Kd.R_nil _ _ _ _ _ | exact Kd.N_nil _ _ _ _ _ | exact Kd.V_nil _ _ _ _ _ | exact Kd.Q_nil _ _ _ _ _ | exact Kd.S_nil _ _ _ _ _) : P := h
theorem Z10.z21 {P : Prop} (h : P := by exact LaidP.below hlP_ Z10.z0) : P := h
theorem Z10.z20 {P : Prop} (h : P := by first | rfl | (simp [errW_none, errW_some] <;> rfl) | (simp [*, errW_none, errW_some] <;> rfl)) : P := h
theorem Z10.z19 {P : Prop} (h : P := by repeat (first | exact (Kd.R_reads' HO121.out).2.2 | (with_reducible refine Kd.C_alloc ?_ _) | (with_reducible refine Kd.C_drewN ?_ _) | (with_reducible refine Kd.C_drew ?_))) : P := h
theorem Z10.z18 {P : Prop} (h : P := by (with_reducible repeat (first | apply Kd.R_alloc | apply Kd.R_drewN | apply Kd.R_drew)); exact (Kd.R_mono (Kd.R_far (p := ⟨gb112, 3, none⟩) (Kd.R_types HO121.out BK112.out (by decide)) (fun _ hk => hk.2) (.slice Ao27 t119.length co27)) (fun _ h_ => h_.1))) : P := h
theorem Z10.z17 {P : Prop} (h : P := by (with_reducible repeat (first | apply Kd.R_alloc | apply Kd.R_drewN | apply Kd.R_drew)); exact (Kd.R_mono (Kd.R_far (p := ⟨gb112, 3, none⟩) (Kd.R_types HO121.out BK112.out (by decide)) (fun _ hk => hk.2) (.slice Ao48 t119.length co48)) (fun _ h_ => h_.1))) : P := h
theorem Z10.z16 {P : Prop} (h : P := by (with_reducible repeat (first | apply Kd.R_alloc | apply Kd.R_drewN | apply Kd.R_drew)); exact (Kd.R_mono (Kd.R_far (p := ⟨gb112, 3, none⟩) (Kd.R_types HO121.out BK112.out (by decide)) (fun _ hk => hk.2) (.slice Ao68 t119.length co68)) (fun _ h_ => h_.1))) : P := h
theorem Z10.z15 {P : Prop} (h : P := by exact tgB BK112.out) : P := h
theorem Z10.z14 {P : Prop} (h : P := by (with_reducible repeat (first | apply Kd.S_alloc | apply Kd.S_drewN | apply Kd.S_drew)); exact (Kd.S_mono (Kd.S_far (p := ⟨gb112, 0, none⟩) (Kd.S_types HO105.out BK112.out (by decide)) (fun _ hk => hk.2) (.int .i64 t113)) (fun _ h_ => h_.1))) : P := h
theorem Z10.z13 {P : Prop} (h : P := by (with_reducible repeat (first | apply Kd.S_alloc | apply Kd.S_drewN | apply Kd.S_drew)); exact (Kd.S_mono (Kd.S_far (p := ⟨gb112, 1, none⟩) (Kd.S_types HO105.out BK112.out (by decide)) (fun _ hk => hk.2) (.int .i64 t115)) (fun _ h_ => h_.1))) : P := h
theorem Z10.z12 {P : Prop} (h : P := by (with_reducible repeat (first | refine blk_drewN ?_ _ | refine blk_drew ?_ | refine blk_alloc ?_ _)); refine blk_put (cs := #[.int .i64 0, .int .i64 0, .int .i64 0, .slice none 0 0]) ?_ 0 _ rfl; (with_reducible repeat (first | refine blk_drewN ?_ _ | refine blk_drew ?_ | refine blk_alloc ?_ _)); exact BK112.out) : P := h
theorem Z10.z11 {P : Prop} (h : P := by (with_reducible repeat (first | refine blk_drewN ?_ _ | refine blk_drew ?_ | refine blk_alloc ?_ _)); refine blk_put (cs := #[.int .i64 t113, .int .i64 0, .int .i64 0, .slice none 0 0]) ?_ 1 _ rfl; (with_reducible repeat (first | refine blk_drewN ?_ _ | refine blk_drew ?_ | refine blk_alloc ?_ _)); exact BK112.out) : P := h
theorem Z10.z10 {P : Prop} (h : P := by (with_reducible repeat (first | refine blk_drewN ?_ _ | refine blk_drew ?_ | refine blk_alloc ?_ _)); refine blk_put (cs := #[.int .i64 t113, .int .i64 t115, .int .i64 0, .slice none 0 0]) ?_ 2 _ rfl; (with_reducible repeat (first | refine blk_drewN ?_ _ | refine blk_drew ?_ | refine blk_alloc ?_ _)); exact BK112.out) : P := h
theorem Z10.z9 {P : Prop} (h : P := by (with_reducible repeat (first | refine blk_drewN ?_ _ | refine blk_drew ?_ | refine blk_alloc ?_ _)); refine blk_put (cs := #[.int .i64 t113, .int .i64 t115, .int .i64 t117, .slice none 0 0]) ?_ 3 _ rfl; (with_reducible repeat (first | refine blk_drewN ?_ _ | refine blk_drew ?_ | refine blk_alloc ?_ _)); exact BK112.out) : P := h
theorem Z10.z8 {P : Prop} (h : P := by (with_reducible repeat (first | refine blk_drewN ?_ _ | refine blk_drew ?_ | refine blk_alloc ?_ _)); exact tgp BK101.out) : P := h
theorem Z10.z7 {P : Prop} (h : P := by repeat (first | (with_reducible first | exact HB.out | apply below_alloc | apply pw_below_drewN | apply below_drew1) | exact HB.out)) : P := h
theorem Z10.z6 {P : Prop} (h : P := by (with_reducible repeat (first | apply Kd.S_alloc | apply Kd.S_drewN | apply Kd.S_drew)); exact (Kd.S_mono (Kd.S_far (p := ⟨gb112, 2, none⟩) (Kd.S_types HO105.out BK112.out (by decide)) (fun _ hk => hk.2) (.int .i64 t117)) (fun _ h_ => h_.1))) : P := h
theorem Z10.z5 {P : Prop} (h : P := by exact tgS HO105.out) : P := h
theorem Z10.z4 {P : Prop} (h : P := by (repeat (first | (with_reducible first | refine blk_drewN ?_ _ | refine blk_drew ?_ | refine blk_alloc ?_ _) | refine blk_far ?_ NB101_112.out _)); exact BK101.out) : P := h
theorem Z10.z3 {P : Prop} (h : P := by exact tgB BK101.out) : P := h
theorem Z10.z2 {P : Prop} (h : P := by (try simp only [List.map_toArray, List.map_cons, List.map_nil]); first | done | rfl | (simp only [List.length_drop, List.length_take]; rfl)) : P := h
theorem Z10.z1 {P : Prop} (h : P := by repeat (first | (with_reducible first | exact HB.out | apply below_alloc | apply pw_below_drewN | apply below_drew1 | refine below_set ?_ GE101.out) | exact HB.out)) : P := h
theorem Z10.z0 {P : Prop} (h : P := by repeat (first | (with_reducible first | exact HB.out | apply below_alloc | apply pw_below_drewN | apply below_drew1 | refine below_set ?_ GE101.out | refine below_set ?_ GE112.out) | exact HB.out)) : P := h
set_option maxHeartbeats 8000000 in
set_option maxRecDepth 100000 in
theorem impl_ReadMatrix.calls (k : Nat) (a0 : ByteArray) (r1 : Int) (r2 : Int) (r3 : Int) (r4 : List Int) (r5 : Bool) (w : World) (hlP_ : LaidP w) (hlE_ : LaidE w) (hlM_ : LaidM w) (h : impl_ReadMatrix.f k a0 = some (r1, r2, r3, r4, r5)) :
  Calls Tryz.prog 10 #[.string a0] w fun e w' => ∃ v3_ : Value, e = .returned (.tuple #[.agg #[.int .i64 r1, .int .i64 r2, .int .i64 r3, v3_], .bool r5]) ∧ Kd.R (Kd.int .i64) 2 w' w.heap.size (fun _ => True) v3_ r4 ∧ Below w.heap.size w w' := by
 have hu28 := Tryz.underlying28
 have HB := tgk (Below.refl w.heap.size w)
 have H : ((impl_readSlashed.f k a0).bind fun bt102 => ((strings_Cut.f bt102.1 (⟨#[32]⟩ : ByteArray)).bind fun bt106 => ((strings_Cut.f bt106.2.1 (⟨#[120]⟩ : ByteArray)).bind fun bt109 => ((impl_ReadDecimal.f bt106.1).bind fun bt113 => ((impl_ReadDecimal.f bt109.1).bind fun bt115 => ((impl_ReadDecimal.f bt109.2.1).bind fun bt117 => ((slices_Concat_int64_int64.f k bt102.2).bind fun t119 => ((impl_ValidMatrix.f k bt113.1 bt115.1 bt117.1 t119).bind fun t122 => (if t122 = true then ((impl_MatrixText.f k bt113.1 bt115.1 bt117.1 t119).bind fun t123 => (if t123.toList = a0.toList then (some (bt113.1, bt115.1, bt117.1, t119, true)) else (some (0, 0, 0, ([] : List Int), false)))) else (some (0, 0, 0, ([] : List Int), false))))))))))) = some (r1, r2, r3, r4, r5) := h
 clear h
 obtain ⟨⟨t102, t103⟩, A2, H⟩ := tgbd H
 replace H : ((strings_Cut.f t102 (⟨#[32]⟩ : ByteArray)).bind fun bt106 => ((strings_Cut.f bt106.2.1 (⟨#[120]⟩ : ByteArray)).bind fun bt109 => ((impl_ReadDecimal.f bt106.1).bind fun bt113 => ((impl_ReadDecimal.f bt109.1).bind fun bt115 => ((impl_ReadDecimal.f bt109.2.1).bind fun bt117 => ((slices_Concat_int64_int64.f k t103).bind fun t119 => ((impl_ValidMatrix.f k bt113.1 bt115.1 bt117.1 t119).bind fun t122 => (if t122 = true then ((impl_MatrixText.f k bt113.1 bt115.1 bt117.1 t119).bind fun t123 => (if t123.toList = a0.toList then (some (bt113.1, bt115.1, bt117.1, t119, true)) else (some (0, 0, 0, ([] : List Int), false)))) else (some (0, 0, 0, ([] : List Int), false)))))))))) = some (r1, r2, r3, r4, r5) := H
 obtain ⟨⟨t106, t107, t108⟩, A3, H⟩ := tgbd H
 (try dsimp only at H)
 obtain ⟨⟨t109, t110, t111⟩, A4, H⟩ := tgbd H
 (try dsimp only at H)
 obtain ⟨⟨t113, t114⟩, A5, H⟩ := tgbd H
 (try dsimp only at H)
 obtain ⟨⟨t115, t116⟩, A6, H⟩ := tgbd H
 (try dsimp only at H)
 obtain ⟨⟨t117, t118⟩, A7, H⟩ := tgbd H
 (try dsimp only at H)
 obtain ⟨t119, A8, H⟩ := tgbd H
 (try dsimp only at H)
 obtain ⟨t122, A9, H⟩ := tgbd H
 (try dsimp only at H)
 by_cases c10 : t122 = true
 ·subst c10
  rw [if_pos rfl] at H
  obtain ⟨t123, A11, H⟩ := tgbd H
  (try dsimp only at H)
  by_cases c12 : t123.toList = a0.toList
  ·rw [if_pos c12] at H
   obtain ⟨c12b0, c12b1⟩ := tge c12
   clear c12
   simp only [Option.some.injEq, Prod.mk.injEq] at H
   obtain ⟨rfl, rfl, rfl, rfl, rfl⟩ := H
   go_enter Tryz.func10, Tryz.ntmps10
   go_wp2_with (first | ((with_reducible refine gate_dst (N := 2) rfl ?_); refine box_event ?hg (N := 2) ?hd (cs := #[.int .i64 0, .int .i64 0, .int .i64 0, .slice none 0 0]) (t := 28) ?hr ?_; (case hd => rfl); (case hg => rfl); (case hr => first | (go_simp; done) | (go_simp; rfl)); intro gb101 hg w13 hbox hb; have BK101 := tgk (hbox); have GW101 := tgk (show w.heap.size ≤ gb101 from (by rw [hg]; exact (below_size Z10.z7))); have GE101 := tgk (show w.heap.size ≤ gb101 from (by rw [hg]; exact (below_size Z10.z7))); replace HB := tgk (below_step Z10.z7 hb); clear hb hbox hg) | ((with_reducible refine gate_callee (f := 25) rfl ?_); refine goesL_ (some 15) rfl rfl Tryz.func25 (by kernel_rfl) rfl #[.string a0] rfl Z10.z2 ?_; (with_reducible refine (impl_readSlashed.calls k a0 t102 t103 _ ?side1 ?side2 ?side3 A2.out).mono ?_); (case side1 => exact (by exact LaidP.below hlP_ Z10.z1)); (case side2 => exact (by exact LaidE.below hlE_ Z10.z1)); (case side3 => exact Z10.z23); rintro e w14 ⟨v104, rfl, ho0, hb⟩; refine ⟨_, rfl, ?_⟩; have HO105 := tgk (Kd.S_lower ho0 (below_size Z10.z1)); replace BK101 := tgk (tgbb BK101 Z10.z3 hb); replace HB := tgk (below_step Z10.z1 hb); (try clear hb); (try clear ho0)) | ((with_reducible refine gate_callee (f := 26) rfl ?_); refine goesL_ (some 20) rfl rfl Tryz.func26 (by kernel_rfl) rfl #[.string t102, .string (⟨#[32]⟩ : ByteArray)] rfl Z10.z2 ?_; (with_reducible refine (strings_Cut.calls t102 (⟨#[32]⟩ : ByteArray) t106 t107 t108 _ ?side1 A3.out).mono ?_); (case side1 => exact Z10.z23); rintro e w15 ⟨rfl, hb⟩; refine ⟨_, rfl, ?_⟩; replace HO105 := tgk (Kd.S_below Z10.z5 hb); replace BK101 := tgk (tgbb BK101 Z10.z3 hb); replace HB := tgk (below_step Z10.z1 hb); (try clear hb); (try clear hi)) | ((with_reducible refine gate_callee (f := 26) rfl ?_); refine goesL_ (some 26) rfl rfl Tryz.func26 (by kernel_rfl) rfl #[.string t107, .string (⟨#[120]⟩ : ByteArray)] rfl Z10.z2 ?_; (with_reducible refine (strings_Cut.calls t107 (⟨#[120]⟩ : ByteArray) t109 t110 t111 _ ?side1 A4.out).mono ?_); (case side1 => exact Z10.z23); rintro e w16 ⟨rfl, hb⟩; refine ⟨_, rfl, ?_⟩; replace HO105 := tgk (Kd.S_below Z10.z5 hb); replace BK101 := tgk (tgbb BK101 Z10.z3 hb); replace HB := tgk (below_step Z10.z1 hb); (try clear hb); (try clear hi)) | ((with_reducible refine gate_dst (N := 12) rfl ?_); refine box_event ?hg (N := 12) ?hd (cs := #[.int .i64 0, .int .i64 0, .int .i64 0, .slice none 0 0]) (t := 28) ?hr ?_; (case hd => rfl); (case hg => rfl); (case hr => first | (go_simp; done) | (go_simp; rfl)); intro gb112 hg w17 hbox hb; have BK112 := tgk (hbox); have GW112 := tgk (show w.heap.size ≤ gb112 from (by rw [hg]; exact (below_size Z10.z1))); have GE112 := tgk (show w.heap.size ≤ gb112 from (by rw [hg]; exact (below_size Z10.z1))); have NB101_112 := tgk (show gb101 ≠ gb112 from (by rw [hg]; exact Nat.ne_of_lt (tgbl BK101 Z10.z3))); have NB112_101 := tgk (show gb112 ≠ gb101 from (by rw [hg]; exact Nat.ne_of_gt (tgbl BK101 Z10.z3))); replace HO105 := tgk (Kd.S_below Z10.z5 hb); replace BK101 := tgk (tgbb BK101 Z10.z3 hb); replace HB := tgk (below_step Z10.z1 hb); clear hb hbox hg) | ((with_reducible refine gate_callee (f := 27) rfl ?_); refine goesL_ (some 32) rfl rfl Tryz.func27 (by kernel_rfl) rfl #[.string t106] rfl Z10.z2 ?_; (with_reducible refine (impl_ReadDecimal.calls t106 t113 t114 _ ?side1 ?side2 A5.out).mono ?_); (case side1 => exact Z10.z21); (case side2 => exact Z10.z24); rintro e w18 ⟨rfl, hb⟩; refine ⟨_, rfl, ?_⟩; replace HO105 := tgk (Kd.S_below Z10.z5 hb); replace BK101 := tgk (tgbb BK101 Z10.z3 hb); replace BK112 := tgk (tgbb BK112 Z10.z15 hb); replace HB := tgk (below_step Z10.z0 hb); (try clear hb); have hnb19 := NB112_101.out; have hnc19 := NB101_112.out; obtain ⟨hcz20_0, hcz20_1, hcz20_2, hcz20_3, hfz20_0, hfz20_1, hfz20_2, hfz20_3⟩ := cells4 BK112.out) | ((with_reducible refine gate_callee (f := 27) rfl ?_); refine goesL_ (some 38) rfl rfl Tryz.func27 (by kernel_rfl) rfl #[.string t109] rfl Z10.z2 ?_; (with_reducible refine (impl_ReadDecimal.calls t109 t115 t116 _ ?side1 ?side2 A6.out).mono ?_); (case side1 => exact Z10.z21); (case side2 => exact Z10.z24); rintro e w21 ⟨rfl, hb⟩; refine ⟨_, rfl, ?_⟩; replace HO105 := tgk (Kd.S_below Z10.z14 hb); replace BK101 := tgk (tgbb BK101 Z10.z4 hb); replace BK112 := tgk (blk_below (g := gb112) (o := .cells #[.int .i64 t113, .int .i64 0, .int .i64 0, .slice none 0 0] 28 (0, 0)) Z10.z12 hb); replace HB := tgk (below_step Z10.z0 hb); (try clear hb); obtain ⟨hcz22_0, hcz22_1, hcz22_2, hcz22_3, hfz22_0, hfz22_1, hfz22_2, hfz22_3⟩ := cells4 BK112.out) | ((with_reducible refine gate_callee (f := 27) rfl ?_); refine goesL_ (some 44) rfl rfl Tryz.func27 (by kernel_rfl) rfl #[.string t110] rfl Z10.z2 ?_; (with_reducible refine (impl_ReadDecimal.calls t110 t117 t118 _ ?side1 ?side2 A7.out).mono ?_); (case side1 => exact Z10.z21); (case side2 => exact Z10.z24); rintro e w23 ⟨rfl, hb⟩; refine ⟨_, rfl, ?_⟩; replace HO105 := tgk (Kd.S_below Z10.z13 hb); replace BK101 := tgk (tgbb BK101 Z10.z4 hb); replace BK112 := tgk (blk_below (g := gb112) (o := .cells #[.int .i64 t113, .int .i64 t115, .int .i64 0, .slice none 0 0] 28 (0, 0)) Z10.z11 hb); replace HB := tgk (below_step Z10.z0 hb); (try clear hb); obtain ⟨hcz24_0, hcz24_1, hcz24_2, hcz24_3, hfz24_0, hfz24_1, hfz24_2, hfz24_3⟩ := cells4 BK112.out; obtain ⟨Ao25, co25, eo25⟩ := Kd.S_slice HO105.out; subst eo25) | ((with_reducible refine gate_callee (f := 28) rfl ?_); refine goesL_ (some 49) rfl rfl Tryz.func28 (by kernel_rfl) rfl #[.slice Ao25 t103.length co25] rfl Z10.z2 ?_; (with_reducible refine (slices_Concat_int64_int64.calls k _ _ t103 t119 _ ?side1 ?side2 A8.out).mono ?_); (case side1 => exact (by refine (Kd.S_reads' (e := 26) (base := w.heap.size) (ok := fun k_ => True) (n := t103.length) (c := co25) ?_).2.2; exact Z10.z6)); (case side2 => exact (Kd.S_reads' HO105.out).2.1); rintro e w26 ⟨v120, rfl, ho0, hb⟩; refine ⟨_, rfl, ?_⟩; have HO121 := tgk (Kd.R_lower ho0 (below_size Z10.z0)); replace HO105 := tgk (Kd.S_elder' Z10.z6 (Kd.R_base ho0) hb); replace BK101 := tgk (tgbb BK101 Z10.z4 hb); replace BK112 := tgk (blk_below (g := gb112) (o := .cells #[.int .i64 t113, .int .i64 t115, .int .i64 t117, .slice none 0 0] 28 (0, 0)) Z10.z10 hb); replace HB := tgk (below_step Z10.z0 hb); (try clear hb); (try clear ho0); obtain ⟨Ao27, co27, eo27⟩ := Kd.R_slice HO121.out; subst eo27; obtain ⟨hcz28_0, hcz28_1, hcz28_2, hcz28_3, hfz28_0, hfz28_1, hfz28_2, hfz28_3⟩ := cells4 BK112.out) | ((with_reducible refine gate_callee (f := 22) rfl ?_); refine goesL_ (some 52) rfl rfl Tryz.func22 (by kernel_rfl) rfl #[.agg #[.int .i64 t113, .int .i64 t115, .int .i64 t117, .slice Ao27 t119.length co27]] rfl Z10.z2 ?_; (with_reducible refine (impl_ValidMatrix.calls k t113 t115 t117 _ _ t119 true _ ?side1 ?side2 A9.out).mono ?_); (case side1 => exact (by refine (Kd.R_reads' (e := 2) (base := w.heap.size) (ok := fun k_ => True) (n := t119.length) (c := co27) ?_).2.2; exact Z10.z18)); (case side2 => exact (Kd.R_reads' HO121.out).2.1); rintro e w29 ⟨rfl, hb⟩; refine ⟨_, rfl, ?_⟩; replace HO105 := tgk (Kd.S_below (by (with_reducible repeat (first | apply Kd.S_alloc | apply Kd.S_drewN | apply Kd.S_drew)); exact (Kd.S_mono (Kd.S_far (p := ⟨gb112, 3, none⟩) (Kd.S_types HO105.out BK112.out (by decide)) (fun _ hk => hk.2) (.slice Ao27 t119.length co27)) (fun _ h_ => h_.1))) hb); replace HO121 := tgk (Kd.R_below Z10.z18 hb); replace BK101 := tgk (tgbb BK101 Z10.z4 hb); replace BK112 := tgk (blk_below (g := gb112) (o := .cells #[.int .i64 t113, .int .i64 t115, .int .i64 t117, .slice Ao27 t119.length co27] 28 (0, 0)) Z10.z9 hb); replace HB := tgk (below_step Z10.z0 hb); (try clear hb); obtain ⟨hcz30_0, hcz30_1, hcz30_2, hcz30_3, hfz30_0, hfz30_1, hfz30_2, hfz30_3⟩ := cells4 BK112.out) | (go_at_call 11; (with_reducible refine (impl_MatrixText.calls k t113 t115 t117 _ _ t119 t123 _ ?side1 ?side2 ?side3 A11.out).mono ?_); (case side1 => exact Z10.z19); (case side2 => exact (Kd.R_reads' HO121.out).2.1); (case side3 => exact Z10.z21); rintro e w31 ⟨rfl, hb⟩; replace HO105 := tgk (Kd.S_below Z10.z5 hb); replace HO121 := tgk (Kd.R_below (tgR HO121.out) hb); replace BK101 := tgk (tgbb BK101 Z10.z3 hb); replace BK112 := tgk (tgbb BK112 Z10.z15 hb); replace HB := tgk (below_step Z10.z0 hb); (try clear hb); obtain ⟨hcz32_0, hcz32_1, hcz32_2, hcz32_3, hfz32_0, hfz32_1, hfz32_2, hfz32_3⟩ := cells4 BK112.out; obtain ⟨hcz33_0, hcz33_1, hcz33_2, hcz33_3, hfz33_0, hfz33_1, hfz33_2, hfz33_3⟩ := cells4 BK101.out))
   refine bodyPost_ret (results_ct rfl _ _ gb101 28 #[.int .i64 t113, .int .i64 t115, .int .i64 t117, .slice Ao27 t119.length co27] (0, 0) _ rfl (by (with_reducible repeat (first | refine blk_drewN ?_ _ | refine blk_drew ?_ | refine blk_alloc ?_ _)); exact tgp BK101.out) Tryz.underlying28 rfl (by kernel_rfl)) rfl ?_
   exact ⟨_, Z10.z20, (by (with_reducible repeat (first | apply Kd.R_alloc | apply Kd.R_drewN | apply Kd.R_drew)); exact Kd.R_mono (Kd.R_far (p := ⟨gb101, 3, none⟩) (Kd.R_far (p := ⟨gb101, 2, none⟩) (Kd.R_far (p := ⟨gb101, 1, none⟩) (Kd.R_far (p := ⟨gb101, 0, none⟩) (Kd.R_types HO121.out BK101.out (by decide)) (fun _ hk => hk.2) (.int .i64 t113)) (fun _ hk => hk.2) (.int .i64 t115)) (fun _ hk => hk.2) (.int .i64 t117)) (fun _ hk => hk.2) (.slice Ao27 t119.length co27)) (fun _ hk => trivial)), Z10.z0⟩
  rw [if_neg c12] at H
  obtain ⟨c12b0, c12b1⟩ := tgn c12
  simp only [Option.some.injEq, Prod.mk.injEq] at H
  obtain ⟨rfl, rfl, rfl, rfl, rfl⟩ := H
  go_enter Tryz.func10, Tryz.ntmps10
  go_wp2_with (first | ((with_reducible refine gate_dst (N := 2) rfl ?_); refine box_event ?hg (N := 2) ?hd (cs := #[.int .i64 0, .int .i64 0, .int .i64 0, .slice none 0 0]) (t := 28) ?hr ?_; (case hd => rfl); (case hg => rfl); (case hr => first | (go_simp; done) | (go_simp; rfl)); intro gb101 hg w34 hbox hb; have BK101 := tgk (hbox); have GW101 := tgk (show w.heap.size ≤ gb101 from (by rw [hg]; exact (below_size Z10.z7))); have GE101 := tgk (show w.heap.size ≤ gb101 from (by rw [hg]; exact (below_size Z10.z7))); replace HB := tgk (below_step Z10.z7 hb); clear hb hbox hg) | ((with_reducible refine gate_callee (f := 25) rfl ?_); refine goesL_ (some 15) rfl rfl Tryz.func25 (by kernel_rfl) rfl #[.string a0] rfl Z10.z2 ?_; (with_reducible refine (impl_readSlashed.calls k a0 t102 t103 _ ?side1 ?side2 ?side3 A2.out).mono ?_); (case side1 => exact (by exact LaidP.below hlP_ Z10.z1)); (case side2 => exact (by exact LaidE.below hlE_ Z10.z1)); (case side3 => exact Z10.z23); rintro e w35 ⟨v104, rfl, ho0, hb⟩; refine ⟨_, rfl, ?_⟩; have HO105 := tgk (Kd.S_lower ho0 (below_size Z10.z1)); replace BK101 := tgk (tgbb BK101 Z10.z3 hb); replace HB := tgk (below_step Z10.z1 hb); (try clear hb); (try clear ho0)) | ((with_reducible refine gate_callee (f := 26) rfl ?_); refine goesL_ (some 20) rfl rfl Tryz.func26 (by kernel_rfl) rfl #[.string t102, .string (⟨#[32]⟩ : ByteArray)] rfl Z10.z2 ?_; (with_reducible refine (strings_Cut.calls t102 (⟨#[32]⟩ : ByteArray) t106 t107 t108 _ ?side1 A3.out).mono ?_); (case side1 => exact Z10.z23); rintro e w36 ⟨rfl, hb⟩; refine ⟨_, rfl, ?_⟩; replace HO105 := tgk (Kd.S_below Z10.z5 hb); replace BK101 := tgk (tgbb BK101 Z10.z3 hb); replace HB := tgk (below_step Z10.z1 hb); (try clear hb); (try clear hi)) | ((with_reducible refine gate_callee (f := 26) rfl ?_); refine goesL_ (some 26) rfl rfl Tryz.func26 (by kernel_rfl) rfl #[.string t107, .string (⟨#[120]⟩ : ByteArray)] rfl Z10.z2 ?_; (with_reducible refine (strings_Cut.calls t107 (⟨#[120]⟩ : ByteArray) t109 t110 t111 _ ?side1 A4.out).mono ?_); (case side1 => exact Z10.z23); rintro e w37 ⟨rfl, hb⟩; refine ⟨_, rfl, ?_⟩; replace HO105 := tgk (Kd.S_below Z10.z5 hb); replace BK101 := tgk (tgbb BK101 Z10.z3 hb); replace HB := tgk (below_step Z10.z1 hb); (try clear hb); (try clear hi)) | ((with_reducible refine gate_dst (N := 12) rfl ?_); refine box_event ?hg (N := 12) ?hd (cs := #[.int .i64 0, .int .i64 0, .int .i64 0, .slice none 0 0]) (t := 28) ?hr ?_; (case hd => rfl); (case hg => rfl); (case hr => first | (go_simp; done) | (go_simp; rfl)); intro gb112 hg w38 hbox hb; have BK112 := tgk (hbox); have GW112 := tgk (show w.heap.size ≤ gb112 from (by rw [hg]; exact (below_size Z10.z1))); have GE112 := tgk (show w.heap.size ≤ gb112 from (by rw [hg]; exact (below_size Z10.z1))); have NB101_112 := tgk (show gb101 ≠ gb112 from (by rw [hg]; exact Nat.ne_of_lt (tgbl BK101 Z10.z3))); have NB112_101 := tgk (show gb112 ≠ gb101 from (by rw [hg]; exact Nat.ne_of_gt (tgbl BK101 Z10.z3))); replace HO105 := tgk (Kd.S_below Z10.z5 hb); replace BK101 := tgk (tgbb BK101 Z10.z3 hb); replace HB := tgk (below_step Z10.z1 hb); clear hb hbox hg) | ((with_reducible refine gate_callee (f := 27) rfl ?_); refine goesL_ (some 32) rfl rfl Tryz.func27 (by kernel_rfl) rfl #[.string t106] rfl Z10.z2 ?_; (with_reducible refine (impl_ReadDecimal.calls t106 t113 t114 _ ?side1 ?side2 A5.out).mono ?_); (case side1 => exact Z10.z21); (case side2 => exact Z10.z24); rintro e w39 ⟨rfl, hb⟩; refine ⟨_, rfl, ?_⟩; replace HO105 := tgk (Kd.S_below Z10.z5 hb); replace BK101 := tgk (tgbb BK101 Z10.z3 hb); replace BK112 := tgk (tgbb BK112 Z10.z15 hb); replace HB := tgk (below_step Z10.z0 hb); (try clear hb); have hnb40 := NB112_101.out; have hnc40 := NB101_112.out; obtain ⟨hcz41_0, hcz41_1, hcz41_2, hcz41_3, hfz41_0, hfz41_1, hfz41_2, hfz41_3⟩ := cells4 BK112.out) | ((with_reducible refine gate_callee (f := 27) rfl ?_); refine goesL_ (some 38) rfl rfl Tryz.func27 (by kernel_rfl) rfl #[.string t109] rfl Z10.z2 ?_; (with_reducible refine (impl_ReadDecimal.calls t109 t115 t116 _ ?side1 ?side2 A6.out).mono ?_); (case side1 => exact Z10.z21); (case side2 => exact Z10.z24); rintro e w42 ⟨rfl, hb⟩; refine ⟨_, rfl, ?_⟩; replace HO105 := tgk (Kd.S_below Z10.z14 hb); replace BK101 := tgk (tgbb BK101 Z10.z4 hb); replace BK112 := tgk (blk_below (g := gb112) (o := .cells #[.int .i64 t113, .int .i64 0, .int .i64 0, .slice none 0 0] 28 (0, 0)) Z10.z12 hb); replace HB := tgk (below_step Z10.z0 hb); (try clear hb); obtain ⟨hcz43_0, hcz43_1, hcz43_2, hcz43_3, hfz43_0, hfz43_1, hfz43_2, hfz43_3⟩ := cells4 BK112.out) | ((with_reducible refine gate_callee (f := 27) rfl ?_); refine goesL_ (some 44) rfl rfl Tryz.func27 (by kernel_rfl) rfl #[.string t110] rfl Z10.z2 ?_; (with_reducible refine (impl_ReadDecimal.calls t110 t117 t118 _ ?side1 ?side2 A7.out).mono ?_); (case side1 => exact Z10.z21); (case side2 => exact Z10.z24); rintro e w44 ⟨rfl, hb⟩; refine ⟨_, rfl, ?_⟩; replace HO105 := tgk (Kd.S_below Z10.z13 hb); replace BK101 := tgk (tgbb BK101 Z10.z4 hb); replace BK112 := tgk (blk_below (g := gb112) (o := .cells #[.int .i64 t113, .int .i64 t115, .int .i64 0, .slice none 0 0] 28 (0, 0)) Z10.z11 hb); replace HB := tgk (below_step Z10.z0 hb); (try clear hb); obtain ⟨hcz45_0, hcz45_1, hcz45_2, hcz45_3, hfz45_0, hfz45_1, hfz45_2, hfz45_3⟩ := cells4 BK112.out; obtain ⟨Ao46, co46, eo46⟩ := Kd.S_slice HO105.out; subst eo46) | ((with_reducible refine gate_callee (f := 28) rfl ?_); refine goesL_ (some 49) rfl rfl Tryz.func28 (by kernel_rfl) rfl #[.slice Ao46 t103.length co46] rfl Z10.z2 ?_; (with_reducible refine (slices_Concat_int64_int64.calls k _ _ t103 t119 _ ?side1 ?side2 A8.out).mono ?_); (case side1 => exact (by refine (Kd.S_reads' (e := 26) (base := w.heap.size) (ok := fun k_ => True) (n := t103.length) (c := co46) ?_).2.2; exact Z10.z6)); (case side2 => exact (Kd.S_reads' HO105.out).2.1); rintro e w47 ⟨v120, rfl, ho0, hb⟩; refine ⟨_, rfl, ?_⟩; have HO121 := tgk (Kd.R_lower ho0 (below_size Z10.z0)); replace HO105 := tgk (Kd.S_elder' Z10.z6 (Kd.R_base ho0) hb); replace BK101 := tgk (tgbb BK101 Z10.z4 hb); replace BK112 := tgk (blk_below (g := gb112) (o := .cells #[.int .i64 t113, .int .i64 t115, .int .i64 t117, .slice none 0 0] 28 (0, 0)) Z10.z10 hb); replace HB := tgk (below_step Z10.z0 hb); (try clear hb); (try clear ho0); obtain ⟨Ao48, co48, eo48⟩ := Kd.R_slice HO121.out; subst eo48; obtain ⟨hcz49_0, hcz49_1, hcz49_2, hcz49_3, hfz49_0, hfz49_1, hfz49_2, hfz49_3⟩ := cells4 BK112.out) | ((with_reducible refine gate_callee (f := 22) rfl ?_); refine goesL_ (some 52) rfl rfl Tryz.func22 (by kernel_rfl) rfl #[.agg #[.int .i64 t113, .int .i64 t115, .int .i64 t117, .slice Ao48 t119.length co48]] rfl Z10.z2 ?_; (with_reducible refine (impl_ValidMatrix.calls k t113 t115 t117 _ _ t119 true _ ?side1 ?side2 A9.out).mono ?_); (case side1 => exact (by refine (Kd.R_reads' (e := 2) (base := w.heap.size) (ok := fun k_ => True) (n := t119.length) (c := co48) ?_).2.2; exact Z10.z17)); (case side2 => exact (Kd.R_reads' HO121.out).2.1); rintro e w50 ⟨rfl, hb⟩; refine ⟨_, rfl, ?_⟩; replace HO105 := tgk (Kd.S_below (by (with_reducible repeat (first | apply Kd.S_alloc | apply Kd.S_drewN | apply Kd.S_drew)); exact (Kd.S_mono (Kd.S_far (p := ⟨gb112, 3, none⟩) (Kd.S_types HO105.out BK112.out (by decide)) (fun _ hk => hk.2) (.slice Ao48 t119.length co48)) (fun _ h_ => h_.1))) hb); replace HO121 := tgk (Kd.R_below Z10.z17 hb); replace BK101 := tgk (tgbb BK101 Z10.z4 hb); replace BK112 := tgk (blk_below (g := gb112) (o := .cells #[.int .i64 t113, .int .i64 t115, .int .i64 t117, .slice Ao48 t119.length co48] 28 (0, 0)) Z10.z9 hb); replace HB := tgk (below_step Z10.z0 hb); (try clear hb); obtain ⟨hcz51_0, hcz51_1, hcz51_2, hcz51_3, hfz51_0, hfz51_1, hfz51_2, hfz51_3⟩ := cells4 BK112.out) | (go_at_call 11; (with_reducible refine (impl_MatrixText.calls k t113 t115 t117 _ _ t119 t123 _ ?side1 ?side2 ?side3 A11.out).mono ?_); (case side1 => exact Z10.z19); (case side2 => exact (Kd.R_reads' HO121.out).2.1); (case side3 => exact Z10.z21); rintro e w52 ⟨rfl, hb⟩; replace HO105 := tgk (Kd.S_below Z10.z5 hb); replace HO121 := tgk (Kd.R_below (tgR HO121.out) hb); replace BK101 := tgk (tgbb BK101 Z10.z3 hb); replace BK112 := tgk (tgbb BK112 Z10.z15 hb); replace HB := tgk (below_step Z10.z0 hb); (try clear hb); obtain ⟨hcz53_0, hcz53_1, hcz53_2, hcz53_3, hfz53_0, hfz53_1, hfz53_2, hfz53_3⟩ := cells4 BK101.out))
  refine bodyPost_ret (results_ct rfl _ _ gb101 28 #[.int .i64 0, .int .i64 0, .int .i64 0, .slice none 0 0] (0, 0) _ rfl Z10.z8 Tryz.underlying28 rfl (by kernel_rfl)) rfl ?_
  exact ⟨_, Z10.z20, Z10.z22, Z10.z0⟩
 replace c10 := Bool.eq_false_iff.mpr c10
 subst c10
 rw [if_neg (show ¬ (false = true) by decide)] at H
 simp only [Option.some.injEq, Prod.mk.injEq] at H
 obtain ⟨rfl, rfl, rfl, rfl, rfl⟩ := H
 go_enter Tryz.func10, Tryz.ntmps10
 go_wp2_with (first | ((with_reducible refine gate_dst (N := 2) rfl ?_); refine box_event ?hg (N := 2) ?hd (cs := #[.int .i64 0, .int .i64 0, .int .i64 0, .slice none 0 0]) (t := 28) ?hr ?_; (case hd => rfl); (case hg => rfl); (case hr => first | (go_simp; done) | (go_simp; rfl)); intro gb101 hg w54 hbox hb; have BK101 := tgk (hbox); have GW101 := tgk (show w.heap.size ≤ gb101 from (by rw [hg]; exact (below_size Z10.z7))); have GE101 := tgk (show w.heap.size ≤ gb101 from (by rw [hg]; exact (below_size Z10.z7))); replace HB := tgk (below_step Z10.z7 hb); clear hb hbox hg) | ((with_reducible refine gate_callee (f := 25) rfl ?_); refine goesL_ (some 15) rfl rfl Tryz.func25 (by kernel_rfl) rfl #[.string a0] rfl Z10.z2 ?_; (with_reducible refine (impl_readSlashed.calls k a0 t102 t103 _ ?side1 ?side2 ?side3 A2.out).mono ?_); (case side1 => exact (by exact LaidP.below hlP_ Z10.z1)); (case side2 => exact (by exact LaidE.below hlE_ Z10.z1)); (case side3 => exact Z10.z23); rintro e w55 ⟨v104, rfl, ho0, hb⟩; refine ⟨_, rfl, ?_⟩; have HO105 := tgk (Kd.S_lower ho0 (below_size Z10.z1)); replace BK101 := tgk (tgbb BK101 Z10.z3 hb); replace HB := tgk (below_step Z10.z1 hb); (try clear hb); (try clear ho0)) | ((with_reducible refine gate_callee (f := 26) rfl ?_); refine goesL_ (some 20) rfl rfl Tryz.func26 (by kernel_rfl) rfl #[.string t102, .string (⟨#[32]⟩ : ByteArray)] rfl Z10.z2 ?_; (with_reducible refine (strings_Cut.calls t102 (⟨#[32]⟩ : ByteArray) t106 t107 t108 _ ?side1 A3.out).mono ?_); (case side1 => exact Z10.z23); rintro e w56 ⟨rfl, hb⟩; refine ⟨_, rfl, ?_⟩; replace HO105 := tgk (Kd.S_below Z10.z5 hb); replace BK101 := tgk (tgbb BK101 Z10.z3 hb); replace HB := tgk (below_step Z10.z1 hb); (try clear hb); (try clear hi)) | ((with_reducible refine gate_callee (f := 26) rfl ?_); refine goesL_ (some 26) rfl rfl Tryz.func26 (by kernel_rfl) rfl #[.string t107, .string (⟨#[120]⟩ : ByteArray)] rfl Z10.z2 ?_; (with_reducible refine (strings_Cut.calls t107 (⟨#[120]⟩ : ByteArray) t109 t110 t111 _ ?side1 A4.out).mono ?_); (case side1 => exact Z10.z23); rintro e w57 ⟨rfl, hb⟩; refine ⟨_, rfl, ?_⟩; replace HO105 := tgk (Kd.S_below Z10.z5 hb); replace BK101 := tgk (tgbb BK101 Z10.z3 hb); replace HB := tgk (below_step Z10.z1 hb); (try clear hb); (try clear hi)) | ((with_reducible refine gate_dst (N := 12) rfl ?_); refine box_event ?hg (N := 12) ?hd (cs := #[.int .i64 0, .int .i64 0, .int .i64 0, .slice none 0 0]) (t := 28) ?hr ?_; (case hd => rfl); (case hg => rfl); (case hr => first | (go_simp; done) | (go_simp; rfl)); intro gb112 hg w58 hbox hb; have BK112 := tgk (hbox); have GW112 := tgk (show w.heap.size ≤ gb112 from (by rw [hg]; exact (below_size Z10.z1))); have GE112 := tgk (show w.heap.size ≤ gb112 from (by rw [hg]; exact (below_size Z10.z1))); have NB101_112 := tgk (show gb101 ≠ gb112 from (by rw [hg]; exact Nat.ne_of_lt (tgbl BK101 Z10.z3))); have NB112_101 := tgk (show gb112 ≠ gb101 from (by rw [hg]; exact Nat.ne_of_gt (tgbl BK101 Z10.z3))); replace HO105 := tgk (Kd.S_below Z10.z5 hb); replace BK101 := tgk (tgbb BK101 Z10.z3 hb); replace HB := tgk (below_step Z10.z1 hb); clear hb hbox hg) | ((with_reducible refine gate_callee (f := 27) rfl ?_); refine goesL_ (some 32) rfl rfl Tryz.func27 (by kernel_rfl) rfl #[.string t106] rfl Z10.z2 ?_; (with_reducible refine (impl_ReadDecimal.calls t106 t113 t114 _ ?side1 ?side2 A5.out).mono ?_); (case side1 => exact Z10.z21); (case side2 => exact Z10.z24); rintro e w59 ⟨rfl, hb⟩; refine ⟨_, rfl, ?_⟩; replace HO105 := tgk (Kd.S_below Z10.z5 hb); replace BK101 := tgk (tgbb BK101 Z10.z3 hb); replace BK112 := tgk (tgbb BK112 Z10.z15 hb); replace HB := tgk (below_step Z10.z0 hb); (try clear hb); have hnb60 := NB112_101.out; have hnc60 := NB101_112.out; obtain ⟨hcz61_0, hcz61_1, hcz61_2, hcz61_3, hfz61_0, hfz61_1, hfz61_2, hfz61_3⟩ := cells4 BK112.out) | ((with_reducible refine gate_callee (f := 27) rfl ?_); refine goesL_ (some 38) rfl rfl Tryz.func27 (by kernel_rfl) rfl #[.string t109] rfl Z10.z2 ?_; (with_reducible refine (impl_ReadDecimal.calls t109 t115 t116 _ ?side1 ?side2 A6.out).mono ?_); (case side1 => exact Z10.z21); (case side2 => exact Z10.z24); rintro e w62 ⟨rfl, hb⟩; refine ⟨_, rfl, ?_⟩; replace HO105 := tgk (Kd.S_below Z10.z14 hb); replace BK101 := tgk (tgbb BK101 Z10.z4 hb); replace BK112 := tgk (blk_below (g := gb112) (o := .cells #[.int .i64 t113, .int .i64 0, .int .i64 0, .slice none 0 0] 28 (0, 0)) Z10.z12 hb); replace HB := tgk (below_step Z10.z0 hb); (try clear hb); obtain ⟨hcz63_0, hcz63_1, hcz63_2, hcz63_3, hfz63_0, hfz63_1, hfz63_2, hfz63_3⟩ := cells4 BK112.out) | ((with_reducible refine gate_callee (f := 27) rfl ?_); refine goesL_ (some 44) rfl rfl Tryz.func27 (by kernel_rfl) rfl #[.string t110] rfl Z10.z2 ?_; (with_reducible refine (impl_ReadDecimal.calls t110 t117 t118 _ ?side1 ?side2 A7.out).mono ?_); (case side1 => exact Z10.z21); (case side2 => exact Z10.z24); rintro e w64 ⟨rfl, hb⟩; refine ⟨_, rfl, ?_⟩; replace HO105 := tgk (Kd.S_below Z10.z13 hb); replace BK101 := tgk (tgbb BK101 Z10.z4 hb); replace BK112 := tgk (blk_below (g := gb112) (o := .cells #[.int .i64 t113, .int .i64 t115, .int .i64 0, .slice none 0 0] 28 (0, 0)) Z10.z11 hb); replace HB := tgk (below_step Z10.z0 hb); (try clear hb); obtain ⟨hcz65_0, hcz65_1, hcz65_2, hcz65_3, hfz65_0, hfz65_1, hfz65_2, hfz65_3⟩ := cells4 BK112.out; obtain ⟨Ao66, co66, eo66⟩ := Kd.S_slice HO105.out; subst eo66) | ((with_reducible refine gate_callee (f := 28) rfl ?_); refine goesL_ (some 49) rfl rfl Tryz.func28 (by kernel_rfl) rfl #[.slice Ao66 t103.length co66] rfl Z10.z2 ?_; (with_reducible refine (slices_Concat_int64_int64.calls k _ _ t103 t119 _ ?side1 ?side2 A8.out).mono ?_); (case side1 => exact (by refine (Kd.S_reads' (e := 26) (base := w.heap.size) (ok := fun k_ => True) (n := t103.length) (c := co66) ?_).2.2; exact Z10.z6)); (case side2 => exact (Kd.S_reads' HO105.out).2.1); rintro e w67 ⟨v120, rfl, ho0, hb⟩; refine ⟨_, rfl, ?_⟩; have HO121 := tgk (Kd.R_lower ho0 (below_size Z10.z0)); replace HO105 := tgk (Kd.S_elder' Z10.z6 (Kd.R_base ho0) hb); replace BK101 := tgk (tgbb BK101 Z10.z4 hb); replace BK112 := tgk (blk_below (g := gb112) (o := .cells #[.int .i64 t113, .int .i64 t115, .int .i64 t117, .slice none 0 0] 28 (0, 0)) Z10.z10 hb); replace HB := tgk (below_step Z10.z0 hb); (try clear hb); (try clear ho0); obtain ⟨Ao68, co68, eo68⟩ := Kd.R_slice HO121.out; subst eo68; obtain ⟨hcz69_0, hcz69_1, hcz69_2, hcz69_3, hfz69_0, hfz69_1, hfz69_2, hfz69_3⟩ := cells4 BK112.out) | ((with_reducible refine gate_callee (f := 22) rfl ?_); refine goesL_ (some 52) rfl rfl Tryz.func22 (by kernel_rfl) rfl #[.agg #[.int .i64 t113, .int .i64 t115, .int .i64 t117, .slice Ao68 t119.length co68]] rfl Z10.z2 ?_; (with_reducible refine (impl_ValidMatrix.calls k t113 t115 t117 _ _ t119 false _ ?side1 ?side2 A9.out).mono ?_); (case side1 => exact (by refine (Kd.R_reads' (e := 2) (base := w.heap.size) (ok := fun k_ => True) (n := t119.length) (c := co68) ?_).2.2; exact Z10.z16)); (case side2 => exact (Kd.R_reads' HO121.out).2.1); rintro e w70 ⟨rfl, hb⟩; refine ⟨_, rfl, ?_⟩; replace HO105 := tgk (Kd.S_below (by (with_reducible repeat (first | apply Kd.S_alloc | apply Kd.S_drewN | apply Kd.S_drew)); exact (Kd.S_mono (Kd.S_far (p := ⟨gb112, 3, none⟩) (Kd.S_types HO105.out BK112.out (by decide)) (fun _ hk => hk.2) (.slice Ao68 t119.length co68)) (fun _ h_ => h_.1))) hb); replace HO121 := tgk (Kd.R_below Z10.z16 hb); replace BK101 := tgk (tgbb BK101 Z10.z4 hb); replace BK112 := tgk (blk_below (g := gb112) (o := .cells #[.int .i64 t113, .int .i64 t115, .int .i64 t117, .slice Ao68 t119.length co68] 28 (0, 0)) Z10.z9 hb); replace HB := tgk (below_step Z10.z0 hb); (try clear hb); obtain ⟨hcz71_0, hcz71_1, hcz71_2, hcz71_3, hfz71_0, hfz71_1, hfz71_2, hfz71_3⟩ := cells4 BK101.out))
 refine bodyPost_ret (results_ct rfl _ _ gb101 28 #[.int .i64 0, .int .i64 0, .int .i64 0, .slice none 0 0] (0, 0) _ rfl Z10.z8 Tryz.underlying28 rfl (by kernel_rfl)) rfl ?_
 exact ⟨_, Z10.z20, Z10.z22, Z10.z0⟩
end Go.Proofs.YtbalikebmacldaaGreatDoor.F
end
