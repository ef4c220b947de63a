-- Texts of this claim, merged by packw.py (a program of this session's).
import Derived.Test.YtbalikebmacldaaGreatDoorQFnMatrices2
import Derived.Test.YtbalikebmacldaaGreatDoorQFnMatrices3
import Derived.Test.YtbalikebmacldaaGreatDoorQFnMatrices4
import Derived.Test.YtbalikebmacldaaGreatDoorQFnMatrices6
import Derived.Test.YtbalikebmacldaaGreatDoorQFnMatrices10

section
namespace Go.Proofs.YtbalikebmacldaaGreatDoor.F
open Go.RowKit Go.Proofs.YtbalikebmacldaaGreatDoorW.PrintWords Go.Proofs.YtbalikebmacldaaGreatDoorW.PrintLast Go.Proofs.YtbalikebmacldaaGreatDoorW.PrintMore
attribute [local go_sem] max2_int min2_int max_two min_two max_three min_three max_four min_four   -- for this text's walks alone
set_option linter.unusedVariables false
set_option linter.unusedSimpArgs false
/-! ### laws_r8Same: function 17 -/
def laws_r8Same.l0 : Nat → List Int → List Int → Int → Option (Bool)
  | 0, _, _, _ => none
  | k + 1, x0, x1, x5 => if x5 < (x0.length : Int) then (if 0 ≤ x5 then (if x5 < (x1.length : Int) then (if (rd x0 x5) = (rd x1 x5) then (laws_r8Same.l0 k x0 x1 (wrap64 (x5 + 1))) else (some false)) else (none)) else (none)) else (some true)
def laws_r8Same.f (k : Nat) (l0 : List Int) (l1 : List Int) : Option (Bool) := if (l0.length : Int) = (l1.length : Int) then (laws_r8Same.l0 k l0 l1 0) else (some false)
theorem Z17.z2 {P : Prop} (h : P := by first | rfl | (simp; done) | (simp [*]; done)) : P := h
theorem Z17.z1 {P : Prop} (h : P := by repeat (first | exact Drawn0.refl _ | apply Drawn0.step)) : P := h
theorem Z17.z0 {P : Prop} (h : P := by first | (with_reducible assumption) | assumption) : P := h
set_option maxHeartbeats 8000000 in
set_option maxRecDepth 100000 in
theorem laws_r8Same.calls (k : Nat) (A0 : Option Addr) (c0 : Nat) (l0 : List Int) (A1 : Option Addr) (c1 : Nat) (l1 : List Int) (r : Bool) (w : World) (hr0 : Kd.C (Kd.int .i64) w A0 l0.length l0) (hc0 : l0.length ≤ c0) (hr1 : Kd.C (Kd.int .i64) w A1 l1.length l1) (hc1 : l1.length ≤ c1) (h : laws_r8Same.f k l0 l1 = some r) :
  Calls Tryz.prog 17 #[.slice A0 l0.length c0, .slice A1 l1.length c1] w fun e w' => e = .returned (.bool r) ∧ Drawn0 w w' := by
 have HR0 := Aside0.mk hr0
 have HC0 := Aside0.mk hc0
 clear hr0 hc0
 have HR1 := Aside0.mk hr1
 have HC1 := Aside0.mk hc1
 clear hr1 hc1
 have H : (if (l0.length : Int) = (l1.length : Int) then (laws_r8Same.l0 k l0 l1 0) else (some false)) = some r := h
 clear h
 by_cases c3 : (l0.length : Int) = (l1.length : Int)
 ·rw [if_pos c3] at H
  obtain ⟨c3b0, c3b1⟩ := tge c3
  have c3b2 : (l0.length == l1.length) = true := by first | simpa using c3 | (simp at c3 ⊢; omega)
  clear c3
  have H' := Aside0.mk H
  clear H
  go_enter Tryz.func17, Tryz.ntmps17
  go_wp2
  repeat (go_quiet (fail); try go_wp2)
  go_loopg [5] k (fun kq v5 w' => ∃ (x5_1 : Int), v5 = .int .i64 x5_1 ∧ Aside0 (laws_r8Same.l0 kq l0 l1 x5_1 = some r) ∧ Aside0 (kq ≤ k) ∧ Drawn0 w w')
  case atStart => exact ⟨(0), Z17.z2, H', ⟨Nat.le_refl _⟩, Z17.z1⟩
  case round =>
   clear H'
   try clear c1
   try clear p2
   try clear c3
   try clear c3b0
   try clear c3b1
   try clear c3b2
   obtain ⟨x5_1, rfl, HA, HK1, ⟨m1, rfl⟩⟩ := hrel
   cases gk with
   | zero => exact absurd HA.out (by simp [laws_r8Same.l0])
   | succ k1 =>
    have H := HA.out
    clear HA
    simp only [laws_r8Same.l0] at H
    by_cases c4 : x5_1 < (l0.length : Int)
    ·rw [if_pos c4] at H
     have c4b0 := decide_eq_true c4
     clear c4
     by_cases c5 : 0 ≤ x5_1
     ·rw [if_pos c5] at H
      have c5b0 := decide_eq_true c5; clear c5
      by_cases c6 : x5_1 < (l1.length : Int)
      ·rw [if_pos c6] at H
       have c6b0 := decide_eq_true c6; clear c6
       by_cases c7 : (rd l0 x5_1) = (rd l1 x5_1)
       ·rw [if_pos c7] at H
        obtain ⟨c7b0, c7b1⟩ := tge c7; clear c7; have H' := Aside0.mk H; clear H; have p101 : 0 ≤ (x5_1 : Int) := of_decide_eq_true Z17.z0; have q101 : x5_1 < (l0.length : Int) := of_decide_eq_true Z17.z0; obtain ⟨ad101, e101, hx101_0⟩ := Kd.at_int HR0.out x5_1 p101 q101; cases e101; replace p101 := eq_true p101; replace q101 := eq_true q101; have p102 : 0 ≤ (x5_1 : Int) := of_decide_eq_true Z17.z0; have q102 : x5_1 < (l1.length : Int) := of_decide_eq_true Z17.z0; obtain ⟨ad102, e102, hx102_0⟩ := Kd.at_int HR1.out x5_1 p102 q102; cases e102; replace p102 := eq_true p102; replace q102 := eq_true q102
        go_wp2
        repeat (go_quiet (fail); try go_wp2)
        go_roundg k1
        case measure => have := HK1.out; omega
        case rel => exact ⟨(wrap64 (x5_1 + 1)), Z17.z2, H', ⟨(by have := HK1.out; omega)⟩, Z17.z1⟩
       rw [if_neg c7] at H; obtain ⟨c7b0, c7b1⟩ := tgn c7; obtain rfl := Option.some.inj H; have p101 : 0 ≤ (x5_1 : Int) := of_decide_eq_true Z17.z0; have q101 : x5_1 < (l0.length : Int) := of_decide_eq_true Z17.z0; obtain ⟨ad101, e101, hx101_0⟩ := Kd.at_int HR0.out x5_1 p101 q101; cases e101; replace p101 := eq_true p101; replace q101 := eq_true q101; have p102 : 0 ≤ (x5_1 : Int) := of_decide_eq_true Z17.z0; have q102 : x5_1 < (l1.length : Int) := of_decide_eq_true Z17.z0; obtain ⟨ad102, e102, hx102_0⟩ := Kd.at_int HR1.out x5_1 p102 q102; cases e102; replace p102 := eq_true p102; replace q102 := eq_true q102
       go_wp2
       repeat (go_quiet (fail); try go_wp2)
       go_ret
       exact ⟨Z17.z2, Z17.z1⟩
      rw [if_neg c6] at H; exact absurd H (by simp)
     rw [if_neg c5] at H
     exact absurd H (by simp)
    rw [if_neg c4] at H
    have c4b0 := decide_eq_false c4
    clear c4
    obtain rfl := Option.some.inj H
    go_wp2
    repeat (go_quiet (fail); try go_wp2)
    go_ret
    exact ⟨Z17.z2, Z17.z1⟩
 rw [if_neg c3] at H
 obtain ⟨c3b0, c3b1⟩ := tgn c3
 have c3b2 : (l0.length == l1.length) = false := by first | simpa using c3 | (simp at c3 ⊢; omega)
 obtain rfl := Option.some.inj H
 go_enter Tryz.func17, Tryz.ntmps17
 go_wp2
 repeat (go_quiet (fail); try go_wp2)
 go_ret
 exact ⟨Z17.z2, Z17.z1⟩
/-! ### impl_eliminate_1: function 72: ours -/
def cellAt (c : Int) (l : List Int) : Bool := decide (rd l c ≠ 0)
set_option maxHeartbeats 4000000 in
set_option maxRecDepth 100000 in
theorem impl_eliminate_1.ask (w : World) (B : Nat) (c : Int) (hB : w.cell? ⟨B, 0, none⟩ = some (.int .i64 c)) (A : Option Addr) (cap : Nat) (l : List Int) (hr : Kd.C (Kd.int .i64) w A l.length l) (h0 : 0 ≤ c) (h1 : c < (l.length : Int)) :
    Calls Tryz.prog 72 #[.slice A l.length cap, .pointer (some ⟨B, 0, none⟩)] w fun e w' => e = .returned (.bool (cellAt c l)) ∧ ∃ q, w' = w.drewN q := by
  obtain ⟨ad, ea, hcell⟩ := Kd.at_int hr c h0 h1
  cases ea
  have hd : cellAt c l = decide (rd l c ≠ 0) := rfl
  generalize rd l c = y at hcell hd
  have d0 : decide (0 ≤ c) = true := decide_eq_true h0
  have d1 : decide (c < (l.length : Int)) = true := decide_eq_true h1
  have HR := Aside0.mk hr
  clear hr
  by_cases hy : y = 0
  · subst hy
    have G := Aside0.mk hd
    clear hd
    go_enter Tryz.func72, Tryz.ntmps72
    go_wp2
    go_ret
    exact ⟨by rw [G.out]; first | rfl | (simp; done), 0, rfl⟩
  · have b1 : decide (y = 0) = false := decide_eq_false hy
    have G := Aside0.mk hd
    have Y := Aside0.mk hy
    clear hd hy
    go_enter Tryz.func72, Tryz.ntmps72
    go_wp2
    go_ret
    exact ⟨by rw [G.out]; first | rfl | (simp [Y.out]; done) | (simp [*]; done), 0, rfl⟩
/-! ### slices_IndexFunc_int64_int64_71: function 71: ours -/
def slices_IndexFunc_int64_int64_71.f (rs : List (List Int)) (t c : Int) : Option Int :=
  if 0 ≤ t then (if t ≤ (rs.length : Int) then (if 0 ≤ c then (if ((rs.drop t.toNat).all fun l => decide (c < (l.length : Int))) = true then some (idxOf (cellAt c) (rs.drop t.toNat)) else none) else none) else none) else none
theorem slices_IndexFunc_int64_int64_71.parts {rs : List (List Int)} {t c r : Int} (h : slices_IndexFunc_int64_int64_71.f rs t c = some r) : 0 ≤ t ∧ t ≤ (rs.length : Int) ∧ 0 ≤ c ∧ (∀ l ∈ rs.drop t.toNat, c < (l.length : Int)) ∧ idxOf (cellAt c) (rs.drop t.toNat) = r := by
  unfold slices_IndexFunc_int64_int64_71.f at h
  by_cases h0 : 0 ≤ t
  · rw [if_pos h0] at h
    by_cases h1 : t ≤ (rs.length : Int)
    · rw [if_pos h1] at h
      by_cases h2 : 0 ≤ c
      · rw [if_pos h2] at h
        by_cases h3 : ((rs.drop t.toNat).all fun l => decide (c < (l.length : Int))) = true
        · rw [if_pos h3] at h
          exact ⟨h0, h1, h2, fun l hl => by simpa using List.all_eq_true.mp h3 l hl, Option.some.inj h⟩
        · rw [if_neg h3] at h; cases h
      · rw [if_neg h2] at h; cases h
    · rw [if_neg h1] at h; cases h
  · rw [if_neg h0] at h; cases h
theorem rd_rows_at (l : List (List Int)) (i : Nat) (hi : i < l.length) : rd_L2 l (i : Int) = l[i] := by
  unfold rd_L2; simp [List.getD_eq_getElem?_getD, List.getElem?_eq_getElem hi]
set_option maxHeartbeats 4000000 in
set_option maxRecDepth 100000 in
theorem slices_IndexFunc_int64_int64_71.tells (B : Nat) (A : Option Addr) (cap : Nat) (l : List (List Int)) (c : Int) (w : World) (hr : Kd.C (Kd.slice 2 (Kd.int .i64)) w A l.length l) (hB : w.cell? ⟨B, 0, none⟩ = some (.int .i64 c)) (h0 : 0 ≤ c) (hall : ∀ x ∈ l, c < (x.length : Int)) :
    Calls Tryz.prog 71 #[.slice A l.length cap, .func (.func 72) #[] #[.pointer (some ⟨B, 0, none⟩)]] w fun e w' => e = .returned (.int .i64 (idxOf (cellAt c) l)) ∧ ∃ q, w' = w.drewN q := by
  have hn : l.length ≤ 9223372036854775807 := hr.2.1
  have eg : ∀ args w, (callFunc 72 args).run Tryz.prog w = .ok (.enter 72 args) w := enters_of Tryz.func72 (by kernel_rfl) rfl
  have HALL := Aside0.mk hall
  have HC0 := Aside0.mk h0
  have HR := Aside0.mk hr
  have HBX := Aside0.mk hB
  clear hr hall h0 hB
  go_enter Tryz.func71, Tryz.ntmps71
  go_wp2
  go_loopg [5, 8] l.length (fun gg _ s8 wr => ∃ kk q : Nat, kk ≤ l.length ∧ l.length - kk ≤ gg ∧ s8 = .int .i64 kk ∧ wr = w.drewN q ∧ Aside0 (∀ j (hj : j < l.length), j < kk → cellAt c l[j] = false))
  case atStart => exact ⟨0, 0, Nat.zero_le _, by omega, rfl, rfl, ⟨fun j _ hj => absurd hj (Nat.not_lt_zero _)⟩⟩
  case round =>
    obtain ⟨kk, q, hkk, hg, rfl, rfl, AB⟩ := hrel
    by_cases hlt : kk < l.length
    · have hltz : (kk : Int) < (l.length : Int) := by omega
      obtain ⟨ad, Ar, cr, ea, hcell, hlr, hir⟩ := at_L2 HR.out (kk : Int) (by omega) hltz
      cases ea
      simp only [Int.toNat_natCast] at hcell
      have hy := Aside0.mk (rd_rows_at l kk hlt)
      have hwid := Aside0.mk (show c < ((rd_L2 l (kk : Int)).length : Int) from by rw [hy.out]; exact HALL.out _ (List.getElem_mem hlt))
      have hcall := fun q => impl_eliminate_1.ask (w.drewN q) B c HBX.out Ar cr (rd_L2 l (kk : Int)) (Kd.C_drewN hir q) HC0.out hwid.out
      clear hir hlr
      generalize rd_L2 l (kk : Int) = y at hcell hy hcall hwid
      cases hq : cellAt c y with
      | true =>
        rw [hq] at hcall
        have BB := Aside0.mk hq
        clear hq
        go_wp2_with (go_at_fn 72; refine (hcall _).mono ?_; rintro e w' ⟨rfl, q', rfl⟩)
        go_ret
        refine ⟨?_, _, rfl⟩
        rw [idxOf_hit hlt (by rw [← hy.out]; exact BB.out) AB.out]
        rfl
      | false =>
        rw [hq] at hcall
        have BB := Aside0.mk hq
        clear hq
        go_wp2_with (go_at_fn 72; refine (hcall _).mono ?_; rintro e w' ⟨rfl, q', rfl⟩)
        go_roundg (l.length - (kk + 1))
        case measure => omega
        case rel =>
          refine ⟨kk + 1, _, by omega, by omega, (by first | (congr 1; done) | (congr 1; omega) | (congr 1; unfold wrap64; omega)), rfl, ⟨fun j hj hj2 => ?_⟩⟩
          by_cases e : j = kk
          · subst e
            rw [← hy.out]; exact BB.out
          · exact AB.out j hj (by omega)
    · have hltz : ¬ (kk : Int) < (l.length : Int) := by omega
      have hk : kk = l.length := by omega
      subst hk
      go_wp2
      go_ret
      refine ⟨?_, q, rfl⟩
      rw [idxOf_miss (fun j hj => AB.out j hj hj)]
      rfl
theorem slices_IndexFunc_int64_int64_71.cut (B : Nat) (A : Option Addr) (cap : Nat) (l : List (List Int)) (t c r : Int) (hcap : l.length ≤ cap) (h : slices_IndexFunc_int64_int64_71.f l t c = some r) :
    ∃ A' : Option Addr, (∀ W : World, (Instr.slice 51 (.slice A l.length cap) (some (.int .i64 t)) none none).run Tryz.prog W = .ok (.slice A' (l.drop t.toNat).length (cap - t.toNat)) W) ∧
      ∀ w : World, Kd.C (Kd.slice 2 (Kd.int .i64)) w A l.length l → w.cell? ⟨B, 0, none⟩ = some (.int .i64 c) →
        Calls Tryz.prog 71 #[.slice A' (l.drop t.toNat).length (cap - t.toNat), .func (.func 72) #[] #[.pointer (some ⟨B, 0, none⟩)]] w fun e w' => e = .returned (.int .i64 r) ∧ ∃ q, w' = w.drewN q := by
  obtain ⟨h0, h1, h2, h3, rfl⟩ := slices_IndexFunc_int64_int64_71.parts h
  obtain ⟨i033, hi033, _, hsz33, _⟩ := info_parts info26
  obtain ⟨m, rfl⟩ := Int.eq_ofNat_of_zero_le h0
  simp only [Int.toNat_natCast] at *
  have hm : m ≤ l.length := by omega
  refine ⟨if cap = m then A else A.map (·.add m), fun W => ?_, fun w hC hB => ?_⟩
  · have hel : Tryz.prog.elem 51 = 26 := by simp [Program.elem, Tryz.underlying51]
    have hu : Tryz.prog.underlying 51 = some (.slice (Tryz.prog.elem 51)) := by rw [hel]; exact Tryz.underlying51
    rw [run_slice_l W 51 A l.length cap hu .i64 (m : Int) (Int.natCast_nonneg _) (by omega), hel]
    simp [sizeOf, typeInfo, hi033, hsz33, sliced, Result.andThen, List.length_drop]
  · have hD : Kd.C (Kd.slice 2 (Kd.int .i64)) w (if cap = m then A else A.map (·.add m)) (l.drop m).length (l.drop m) := by
      have := Kd.C_drop hC hm hcap
      simpa [show (Kd.slice 2 (Kd.int .i64)).sz = 1 from rfl] using this
    exact slices_IndexFunc_int64_int64_71.tells B _ (cap - m) (l.drop m) c w hD hB h2 h3
/-! ### impl_reduce: function 73 -/
def impl_reduce.f (a0 : Int) (a1 : Int) : Option (Int) := if a1 = 0 then (none) else (some (Int.tmod (wrap64 ((Int.tmod a0 a1) + a1)) a1))
set_option maxHeartbeats 8000000 in
set_option maxRecDepth 100000 in
theorem impl_reduce.calls (a0 : Int) (a1 : Int) (r : Int) (w : World) (h : impl_reduce.f a0 a1 = some r) :
  Calls Tryz.prog 73 #[.int .i64 a0, .int .i64 a1] w fun e w' => e = .returned (.int .i64 r) ∧ Drawn0 w w' := by
 have H : (if a1 = 0 then (none) else (some (Int.tmod (wrap64 ((Int.tmod a0 a1) + a1)) a1))) = some r := h
 clear h
 by_cases c3 : a1 = 0
 ·rw [if_pos c3] at H
  exact absurd H (by simp)
 rw [if_neg c3] at H
 obtain ⟨c3b0, c3b1⟩ := tgn c3
 obtain rfl := Option.some.inj H
 go_enter Tryz.func73, Tryz.ntmps73
 go_wp2
 go_ret
 exact ⟨(by first | rfl | (simp; done) | (simp [*]; done)), (by repeat (first | exact Drawn0.refl _ | apply Drawn0.step))⟩
/-! ### impl_powerOf: function 86 -/
def impl_powerOf.l0 : Nat → Int → Int → Int → Int → Option (Int)
  | 0, _, _, _, _ => none
  | k + 1, x0, x1, x2, x7 => if x1 > 0 then (if (Int.tmod x1 2) = 1 then (if x2 = 0 then (none) else (impl_powerOf.l0 k (Int.tmod (wrap64 (x0 * x0)) x2) (wrap64 (Int.tdiv x1 2)) x2 (Int.tmod (wrap64 (x7 * x0)) x2))) else (if x2 = 0 then (none) else (impl_powerOf.l0 k (Int.tmod (wrap64 (x0 * x0)) x2) (wrap64 (Int.tdiv x1 2)) x2 x7))) else (some x7)
def impl_powerOf.f (k : Nat) (a0 : Int) (a1 : Int) (a2 : Int) : Option (Int) := impl_powerOf.l0 k a0 a1 a2 1
theorem Z86.z1 {P : Prop} (h : P := by repeat (first | exact Drawn0.refl _ | apply Drawn0.step)) : P := h
theorem Z86.z0 {P : Prop} (h : P := by first | rfl | (simp; done) | (simp [*]; done)) : P := h
set_option maxHeartbeats 8000000 in
set_option maxRecDepth 100000 in
theorem impl_powerOf.calls (k : Nat) (a0 : Int) (a1 : Int) (a2 : Int) (r : Int) (w : World) (h : impl_powerOf.f k a0 a1 a2 = some r) :
  Calls Tryz.prog 86 #[.int .i64 a0, .int .i64 a1, .int .i64 a2] w fun e w' => e = .returned (.int .i64 r) ∧ Drawn0 w w' := by
 have H : (impl_powerOf.l0 k a0 a1 a2 1) = some r := h
 clear h
 have H' := Aside0.mk H
 clear H
 go_enter Tryz.func86, Tryz.ntmps86
 go_wp2
 go_loopg [0, 1, 7] k (fun kq v0 v1 v7 w' => ∃ (x0_1 : Int) (x1_1 : Int) (x7_1 : Int), v0 = .int .i64 x0_1 ∧ v1 = .int .i64 x1_1 ∧ v7 = .int .i64 x7_1 ∧ Aside0 (impl_powerOf.l0 kq x0_1 x1_1 a2 x7_1 = some r) ∧ Aside0 (kq ≤ k) ∧ Drawn0 w w')
 case atStart => exact ⟨(a0), (a1), (1), Z86.z0, Z86.z0, Z86.z0, H', ⟨Nat.le_refl _⟩, Z86.z1⟩
 case round =>
  clear H'
  try clear p2
  obtain ⟨x0_1, x1_1, x7_1, rfl, rfl, rfl, HA, HK1, ⟨m1, rfl⟩⟩ := hrel
  cases gk with
  | zero => exact absurd HA.out (by simp [impl_powerOf.l0])
  | succ k1 =>
   have H := HA.out
   clear HA
   simp only [impl_powerOf.l0] at H
   by_cases c4 : x1_1 > 0
   ·rw [if_pos c4] at H
    have c4b0 : decide (0 < x1_1) = true := decide_eq_true c4
    clear c4
    by_cases c5 : (Int.tmod x1_1 2) = 1
    ·rw [if_pos c5] at H
     obtain ⟨c5b0, c5b1⟩ := tge c5
     clear c5
     by_cases c6 : a2 = 0
     ·rw [if_pos c6] at H
      exact absurd H (by simp)
     rw [if_neg c6] at H
     obtain ⟨c6b0, c6b1⟩ := tgn c6
     have H' := Aside0.mk H
     clear H
     go_wp2
     go_roundg k1
     case measure => have := HK1.out; omega
     case rel => exact ⟨(Int.tmod (wrap64 (x0_1 * x0_1)) a2), (wrap64 (Int.tdiv x1_1 2)), (Int.tmod (wrap64 (x7_1 * x0_1)) a2), Z86.z0, Z86.z0, Z86.z0, H', ⟨(by have := HK1.out; omega)⟩, Z86.z1⟩
    rw [if_neg c5] at H
    obtain ⟨c5b0, c5b1⟩ := tgn c5
    by_cases c7 : a2 = 0
    ·rw [if_pos c7] at H
     exact absurd H (by simp)
    rw [if_neg c7] at H
    obtain ⟨c7b0, c7b1⟩ := tgn c7
    have H' := Aside0.mk H
    clear H
    go_wp2
    go_roundg k1
    case measure => have := HK1.out; omega
    case rel => exact ⟨(Int.tmod (wrap64 (x0_1 * x0_1)) a2), (wrap64 (Int.tdiv x1_1 2)), (x7_1), Z86.z0, Z86.z0, Z86.z0, H', ⟨(by have := HK1.out; omega)⟩, Z86.z1⟩
   rw [if_neg c4] at H
   have c4b0 : decide (0 < x1_1) = false := decide_eq_false c4
   clear c4
   obtain rfl := Option.some.inj H
   go_wp2
   go_ret
   exact ⟨Z86.z0, Z86.z1⟩
/-! ### impl_inverseOf: function 74 -/
def impl_inverseOf.f (k : Nat) (a0 : Int) (a1 : Int) : Option (Int) := (impl_powerOf.f k a0 (wrap64 (a1 - 2)) a1).bind fun t101 => (some t101)
set_option maxHeartbeats 8000000 in
set_option maxRecDepth 100000 in
theorem impl_inverseOf.calls (k : Nat) (a0 : Int) (a1 : Int) (r : Int) (w : World) (h : impl_inverseOf.f k a0 a1 = some r) :
  Calls Tryz.prog 74 #[.int .i64 a0, .int .i64 a1] w fun e w' => e = .returned (.int .i64 r) ∧ Drawn0 w w' := by
 have H : ((impl_powerOf.f k a0 (wrap64 (a1 - 2)) a1).bind fun t101 => (some t101)) = some r := h
 clear h
 replace H := Option.bind_eq_some_iff.mp H
 obtain ⟨t101, A30, H⟩ := H
 replace H : (some t101) = some r := H
 have A3 := Aside0.mk A30
 clear A30
 obtain rfl := Option.some.inj H
 go_enter Tryz.func74, Tryz.ntmps74
 go_wp2_with (first | ((with_reducible refine gate_callee (f := 86) rfl ?_); refine goesL_ (some 9) rfl rfl Tryz.func86 (by kernel_rfl) rfl #[.int .i64 a0, .int .i64 (wrap64 (a1 - 2)), .int .i64 a1] rfl (by (try simp only [List.map_toArray, List.map_cons, List.map_nil]); first | done | rfl | (simp only [List.length_drop, List.length_take]; rfl)) ?_; (with_reducible refine (impl_powerOf.calls k a0 (wrap64 (a1 - 2)) a1 t101 _ A3.out).mono ?_); rintro e w' ⟨rfl, ⟨nd, rfl⟩⟩; refine ⟨_, rfl, ?_⟩))
 go_ret
 exact ⟨(by first | rfl | (simp; done) | (simp [*]; done)), (by repeat (first | exact Drawn0.refl _ | apply Drawn0.step))⟩
/-! ### impl_eliminate: function 41 -/
mutual
def impl_eliminate.l0 : Nat → Int → Int → List Int → Int → Int → Int → List (List Int) → Option (List Int × Int × (List (List Int)))
  | 0, _, _, _, _, _, _, _ => none
  | k + 1, x1, x2, x8, x9, x16, x17, x900 => if x17 < x16 then ((slices_IndexFunc_int64_int64_71.f x900 (x8.length : Int) x17).bind fun t105 => (if t105 < 0 then (impl_eliminate.l0 k x1 x2 x8 0 x16 (wrap64 (x17 + 1)) x900) else (if t105 > 0 then (if 0 ≤ (wrap64 ((x8.length : Int) + t105)) then (if (wrap64 ((x8.length : Int) + t105)) < (x900.length : Int) then (if 0 ≤ (x8.length : Int) then (if (x8.length : Int) < (x900.length : Int) then ((impl_reduce.f (wrap64 (-x9)) x2).bind fun t110 => (impl_eliminate.j1 k x1 x2 x8 t110 (x8.length : Int) x16 x17 ((x900.set ((x8.length : Int) : Int).toNat (rd_L2 x900 (wrap64 ((x8.length : Int) + t105)))).set ((wrap64 ((x8.length : Int) + t105)) : Int).toNat (rd_L2 x900 (x8.length : Int))) x17)) else (none)) else (none)) else (none)) else (none)) else (impl_eliminate.j1 k x1 x2 x8 x9 (x8.length : Int) x16 x17 x900 x17)))) else (some (x8, x9, x900))
def impl_eliminate.j1 : Nat → Int → Int → List Int → Int → Int → Int → Int → List (List Int) → Int → Option (List Int × Int × (List (List Int)))
  | 0, _, _, _, _, _, _, _, _, _ => none
  | k + 1, x1, x2, x8, x9, x11, x16, x17, x900, x105000 => if 0 ≤ x11 then (if x11 < (x900.length : Int) then (if 0 ≤ x105000 then (if x105000 < ((rd_L2 x900 x11).length : Int) then (if x2 = 0 then (none) else (if 0 ≤ x1 then (if (x1 : Int).toNat ≤ 35184372088832 then ((impl_inverseOf.f k (rd (rd_L2 x900 x11) x105000) x2).bind fun t117 => ((impl_addTimes.f k (List.replicate (x1 : Int).toNat 0) (rd_L2 x900 x11) t117 x2).bind fun t118 => (impl_eliminate.l1 k x1 x2 x8 (Int.tmod (wrap64 (x9 * (rd (rd_L2 x900 x11) x105000))) x2) x11 x16 x17 (x900.length : Int) 0 (x900.set (x11 : Int).toNat t118) x105000))) else (none)) else (none))) else (none)) else (none)) else (none)) else (none)
def impl_eliminate.l1 : Nat → Int → Int → List Int → Int → Int → Int → Int → Int → Int → List (List Int) → Int → Option (List Int × Int × (List (List Int)))
  | 0, _, _, _, _, _, _, _, _, _, _, _ => none
  | k + 1, x1, x2, x8, x9, x11, x16, x17, x80, x81, x900, x105000 => if x81 < x80 then (if 0 ≤ x81 then (if x81 < (x900.length : Int) then (if x81 = x11 then (impl_eliminate.l1 k x1 x2 x8 x9 x11 x16 x17 x80 (wrap64 (x81 + 1)) x900 x105000) else (if 0 ≤ x105000 then (if x105000 < ((rd_L2 x900 x81).length : Int) then (if (rd (rd_L2 x900 x81) x105000) = 0 then (impl_eliminate.l1 k x1 x2 x8 x9 x11 x16 x17 x80 (wrap64 (x81 + 1)) x900 x105000) else (if 0 ≤ x11 then (if x11 < (x900.length : Int) then ((impl_addTimes.f k (rd_L2 x900 x81) (rd_L2 x900 x11) (wrap64 (x2 - (rd (rd_L2 x900 x81) x105000))) x2).bind fun t126 => (impl_eliminate.l1 k x1 x2 x8 x9 x11 x16 x17 x80 (wrap64 (x81 + 1)) (x900.set (x81 : Int).toNat t126) x105000)) else (none)) else (none))) else (none)) else (none))) else (none)) else (none)) else (if x8.length < 17592186044416 then (impl_eliminate.l0 k x1 x2 (x8 ++ [x105000]) x9 x16 (wrap64 (x17 + 1)) x900) else (none))
end
def impl_eliminate.f (k : Nat) (a0_0 : Int) (a0_1 : Int) (a0_2 : Int) (l0_3 : List Int) (a1 : Int) (a2 : Int) : Option (List Int × Int × (List (List Int))) := (impl_rowsOf.f k a0_0 a0_1 a0_2 l0_3).bind fun t101 => (impl_eliminate.l0 k a1 a2 ([] : List Int) 1 a1 0 t101)
theorem impl_eliminate.gen_w {C : World → Prop} (w1 : World) (h : ∀ W, W = w1 → C W) : C w1 := h _ rfl
theorem impl_eliminate.fk_row {W : World} {ok : Nat → Prop} {base : Nat} {v : Value} {xs : List Int} (h : Kd.R (Kd.int .i64) 2 W base ok v xs) : Kd.FK (Kd.slice 2 (Kd.int .i64)) W ok xs [v] := by
  obtain ⟨A, c, rfl⟩ := Kd.R_slice h
  exact Kd.FK_slice_mk (Kd.R_reads' h).2.1 (Kd.R_F h)
def impl_eliminate.T11 : Bool × List (List Nat × List Nat) := (true, [([], []), ([], []), ([], []), ([], []), ([], []), ([3, 4], [3, 4]), ([], []), ([], []), ([], []), ([7, 8], [7, 8]), ([6, 9], [6, 9]), ([10], [10]), ([], []), ([], []), ([12, 13], [12, 13]), ([14], [14]), ([0, 1, 0, 1, 6, 7, 8, 9, 10, 11, 15], [0, 1]), ([16, 11, 0, 1, 6, 7, 8, 9, 10, 11, 15], [11, 16]), ([2, 5, 0, 1, 2, 3, 4, 5, 6, 7, 8, 9, 10, 11, 12, 13, 14, 15, 16, 17], [2, 5]), ([18, 15, 17, 0, 1, 2, 3, 4, 5, 6, 7, 8, 9, 10, 11, 12, 13, 14, 15, 16, 17], [15, 18])])
def impl_eliminate.B11 : List Nat := [0, 0, 0, 0, 0, 24, 0, 0, 0, 384, 960, 1984, 0, 0, 12288, 28672, 65475, 131011, 262143, 524287]
theorem impl_eliminate.tab11 : rtab .any (opsOf Tryz.f41 11) = impl_eliminate.T11 := by kernel_rfl
theorem impl_eliminate.bits11 : waitsOk impl_eliminate.T11.2 impl_eliminate.B11 = true := by kernel_rfl
def impl_eliminate.T13 : Bool × List (List Nat × List Nat) := (true, [([], []), ([], []), ([0, 1], [0, 1]), ([2], [2]), ([], []), ([3, 4], [3, 4]), ([5], [5]), ([6, 0, 1, 2, 3, 4, 5, 6], [6])])
def impl_eliminate.B13 : List Nat := [0, 0, 3, 7, 0, 31, 63, 127]
theorem impl_eliminate.tab13 : rtab .any (opsOf Tryz.f41 13) = impl_eliminate.T13 := by kernel_rfl
theorem impl_eliminate.bits13 : waitsOk impl_eliminate.T13.2 impl_eliminate.B13 = true := by kernel_rfl
def impl_eliminate.T15 : Bool × List (List Nat × List Nat) := (true, [([], []), ([], []), ([], []), ([2, 2], [2]), ([], []), ([], []), ([4, 5], [4, 5]), ([6], [6]), ([], []), ([], []), ([8, 9], [8, 9]), ([], []), ([3, 7, 10, 11, 10], [3, 7, 10, 11]), ([0, 1, 0, 1, 2, 3, 4, 5, 6, 7, 8, 9, 10, 11, 12], [0, 1]), ([13, 12, 12, 0, 1, 2, 3, 4, 5, 6, 7, 8, 9, 10, 11, 12], [12, 13])])
def impl_eliminate.B15 : List Nat := [0, 0, 0, 4, 0, 0, 48, 112, 0, 0, 768, 0, 4092, 8191, 16383]
theorem impl_eliminate.tab15 : rtab .any (opsOf Tryz.f41 15) = impl_eliminate.T15 := by kernel_rfl
theorem impl_eliminate.bits15 : waitsOk impl_eliminate.T15.2 impl_eliminate.B15 = true := by kernel_rfl
def impl_eliminate.T20 : Bool × List (List Nat × List Nat) := (true, [([], []), ([], []), ([], []), ([], []), ([], []), ([3, 4], [3, 4]), ([5], [5]), ([], []), ([], []), ([], []), ([8, 9], [8, 9]), ([10], [10]), ([7, 11], [7, 11]), ([], []), ([2, 6, 12, 13], [2, 6, 12, 13]), ([0, 1, 0, 1, 2, 3, 4, 5, 6, 7, 8, 9, 10, 11, 12, 13, 14], [0, 1]), ([15, 14, 14, 0, 1, 2, 3, 4, 5, 6, 7, 8, 9, 10, 11, 12, 13, 14], [14, 15])])
def impl_eliminate.B20 : List Nat := [0, 0, 0, 0, 0, 24, 56, 0, 0, 0, 768, 1792, 3968, 0, 16380, 32767, 65535]
theorem impl_eliminate.tab20 : rtab .any (opsOf Tryz.f41 20) = impl_eliminate.T20 := by kernel_rfl
theorem impl_eliminate.bits20 : waitsOk impl_eliminate.T20.2 impl_eliminate.B20 = true := by kernel_rfl
theorem Z41.z26 {P : Prop} (h : P := by have := HK1.out; have := HJ12.out; have := HK3.out; omega) : P := h
theorem Z41.z25 {P : Prop} (h : P := by (with_reducible repeat (first | apply Kd.R_alloc | apply Kd.R_drewN | apply Kd.R_drew)); exact Kd.R_mono HO_8.out (fun _ hk => ⟨hk.1.1, ⟨hk.2, hk.1.2⟩⟩)) : P := h
theorem Z41.z24 {P : Prop} (h : P := by (with_reducible repeat (first | apply Kd.R_alloc | apply Kd.R_drewN | apply Kd.R_drew)); exact Kd.R_mono HO115.out (fun _ hk => ⟨hk.1.1.1, ⟨hk.1.2, hk.2⟩⟩)) : P := h
theorem Z41.z23 {P : Prop} (h : P := by (try simp only [hl900_12]); (try simp only [hl900_3]); (with_reducible repeat (first | apply Kd.R_alloc | apply Kd.R_drewN | apply Kd.R_drew)); exact HO_8.out) : P := h
theorem Z41.z22 {P : Prop} (h : P := by (try simp only [hl900_12]); (try simp only [hl900_3]); (with_reducible repeat (first | apply Kd.N_alloc | apply Kd.N_drewN | apply Kd.N_drew)); exact HO_900.out) : P := h
theorem Z41.z21 {P : Prop} (h : P := by (with_reducible repeat (first | apply Kd.N_alloc | apply Kd.N_drewN | apply Kd.N_drew)); exact Kd.N_mono HO_900.out (fun _ hk => ⟨hk.1.1, ⟨hk.2, ⟨hk.1.2.1, hk.1.2.2⟩⟩⟩)) : P := h
theorem Z41.z20 {P : Prop} (h : P := by (try simp only [hl900_12]); (try simp only [hl900_3]); (with_reducible repeat (first | refine blk_drewN ?_ _ | refine blk_drew ?_ | refine blk_alloc ?_ _)); exact BK104.out) : P := h
theorem Z41.z19 {P : Prop} (h : P := by repeat (first | exact (Kd.N_reads' HO_900.out).2.2 | (with_reducible refine Kd.C_alloc ?_ _) | (with_reducible refine Kd.C_drewN ?_ _) | (with_reducible refine Kd.C_drew ?_))) : P := h
theorem Z41.z18 {P : Prop} (h : P := by (with_reducible repeat (first | apply Kd.V_alloc | apply Kd.V_drewN | apply Kd.V_drew)); exact Kd.V_mono HL111_0.out (fun _ hk => ⟨hk.1.1.1, ⟨hk.2, ⟨hk.1.1.2.1, ⟨hk.1.2, hk.1.1.2.2⟩⟩⟩⟩)) : P := h
theorem Z41.z17 {P : Prop} (h : P := by (with_reducible repeat (first | apply Kd.V_alloc | apply Kd.V_drewN | apply Kd.V_drew)); exact Kd.V_mono HL116_0.out (fun _ hk => ⟨hk.1.1.1, ⟨hk.2, ⟨hk.1.1.2.1, ⟨hk.1.2, hk.1.1.2.2⟩⟩⟩⟩)) : P := h
theorem Z41.z16 {P : Prop} (h : P := by first | exact q122 | exact of_decide_eq_true Z41.z2 | (have e_ := (Kd.N_reads' HO_900.out).1; omega)) : P := h
theorem Z41.z15 {P : Prop} (h : P := by repeat (first | (with_reducible exact HR116_0.out) | (with_reducible refine Kd.C_alloc ?_ _) | (with_reducible refine Kd.C_drewN ?_ _) | (with_reducible refine Kd.C_drew ?_) | exact HR116_0.out)) : P := h
theorem Z41.z14 {P : Prop} (h : P := by repeat (first | (with_reducible exact HR124_0.out) | (with_reducible refine Kd.C_alloc ?_ _) | (with_reducible refine Kd.C_drewN ?_ _) | (with_reducible refine Kd.C_drew ?_) | exact HR124_0.out)) : P := h
theorem Z41.z13 {P : Prop} (h : P := by repeat (first | (with_reducible first | exact HB.out | apply below_alloc | apply pw_below_drewN | apply below_drew1 | refine below_set ?_ GB40.out | refine below_set ?_ GE104.out) | exact HB.out)) : P := h
theorem Z41.z12 {P : Prop} (h : P := by exact tgV HL111_0.out) : P := h
theorem Z41.z11 {P : Prop} (h : P := by exact tgV HL116_0.out) : P := h
theorem Z41.z10 {P : Prop} (h : P := by first | rfl | (simp; done) | (simp [*]; done)) : P := h
theorem Z41.z9 {P : Prop} (h : P := by repeat (first | (with_reducible exact HR111_0.out) | (with_reducible refine Kd.C_alloc ?_ _) | (with_reducible refine Kd.C_drewN ?_ _) | (with_reducible refine Kd.C_drew ?_) | exact HR111_0.out)) : P := h
theorem Z41.z8 {P : Prop} (h : P := by repeat (first | (with_reducible exact HR122_0.out) | (with_reducible refine Kd.C_alloc ?_ _) | (with_reducible refine Kd.C_drewN ?_ _) | (with_reducible refine Kd.C_drew ?_) | exact HR122_0.out)) : P := h
theorem Z41.z7 {P : Prop} (h : P := by (try simp only [List.map_toArray, List.map_cons, List.map_nil]); first | done | rfl | (simp only [List.length_drop, List.length_take]; rfl)) : P := h
theorem Z41.z6 {P : Prop} (h : P := by exact tgN HO_900.out) : P := h
theorem Z41.z5 {P : Prop} (h : P := by repeat (first | (with_reducible first | exact HB.out | apply below_alloc | apply pw_below_drewN | apply below_drew1) | exact HB.out)) : P := h
theorem Z41.z4 {P : Prop} (h : P := by exact tgR HO_8.out) : P := h
theorem Z41.z3 {P : Prop} (h : P := by exact tgB BK104.out) : P := h
theorem Z41.z2 {P : Prop} (h : P := by first | (with_reducible assumption) | assumption) : P := h
theorem Z41.z1 {P : Prop} (h : P := by repeat (first | (with_reducible first | exact HB.out | apply below_alloc | apply pw_below_drewN | apply below_drew1 | refine below_set ?_ GE104.out) | exact HB.out)) : P := h
theorem Z41.z0 {P : Prop} (h : P := by simp only [Act.put, List.setIfInBounds_toArray, List.set_cons_zero, List.set_cons_succ, i64_w, i32_w]; rfl) : P := h
set_option maxHeartbeats 8000000 in
set_option maxRecDepth 100000 in
theorem impl_eliminate.calls (k : Nat) (v102 : Value) (t101 : List (List Int)) (a1 a2 : Int) (r1 : List Int) (r2 : Int) (r3 : List (List Int)) (w wI : World) (hB : Below w.heap.size w wI) (hN : Kd.N (Kd.slice 2 (Kd.int .i64)) 26 wI w.heap.size (fun k_ => (w.heap.size ≤ k_)) v102 t101) (h : impl_eliminate.l0 k a1 a2 ([] : List Int) 1 a1 0 t101 = some (r1, r2, r3)) :
 Calls Tryz.prog 41 #[v102, .int .i64 a1, .int .i64 a2] wI fun e w' => ∃ v0_ : Value, e = .returned (.tuple #[v0_, .int .i64 r2]) ∧ Kd.R (Kd.int .i64) 2 w' w.heap.size (fun k_ => (w.heap.size ≤ k_)) v0_ r1 ∧ Kd.N (Kd.slice 2 (Kd.int .i64)) 26 w' w.heap.size (fun k_ => (w.heap.size ≤ k_) ∧ some k_ ≠ (v0_ : Value).ownBlock) v102 r3 ∧ Below w.heap.size w w' := by
 have HB := tgk hB
 have HO103 := tgk hN
 have H' := tgk h
 clear hB hN h
 have hmf : ∀ (fn : Fn) (first cap : Array Value) (w : World), (Instr.makeFunc fn first cap).run Tryz.prog w = .ok (.func fn first cap) w := fun _ _ _ _ => rfl
 go_enter Tryz.func41, Tryz.ntmps41
 go_wp2
 go_loopg [8, 9, 17] k (fun kq v8 v9 v17 w' => ∃ (x8_1 : List Int) (x9_1 : Int) (x17_1 : Int) (x900_1 : List (List Int)), v9 = .int .i64 x9_1 ∧ v17 = .int .i64 x17_1 ∧ Aside0 (impl_eliminate.l0 kq a1 a2 x8_1 x9_1 a1 x17_1 x900_1 = some (r1, r2, r3)) ∧ Aside0 (kq ≤ k) ∧ Aside0 (Kd.R (Kd.int .i64) 2 w' w.heap.size (fun k_ => (w.heap.size ≤ k_)) v8 x8_1) ∧ Aside0 (Kd.N (Kd.slice 2 (Kd.int .i64)) 26 w' w.heap.size (fun k_ => (w.heap.size ≤ k_) ∧ some k_ ≠ (v8 : Value).ownBlock) v102 x900_1) ∧ Aside0 (Below w.heap.size w w'))
 case atStart => exact ⟨(([] : List Int)), (1), (0), (t101), Z41.z10, Z41.z10, H', ⟨Nat.le_refl _⟩, ⟨(by first | exact Kd.R_nil _ _ _ _ _ | exact Kd.N_nil _ _ _ _ _ | exact Kd.V_nil _ _ _ _ _ | exact Kd.Q_nil _ _ _ _ _ | exact Kd.S_nil _ _ _ _ _)⟩, ⟨(by (with_reducible repeat (first | apply Kd.N_alloc | apply Kd.N_drewN | apply Kd.N_drew)); exact Kd.N_mono HO103.out (fun _ hk => ⟨hk, (by simp [Value.ownBlock])⟩))⟩, ⟨Z41.z5⟩⟩
 case round =>
  clear H'
  try clear p2
  try clear c3
  try clear c4
  obtain ⟨x8_1, x9_1, x17_1, x900_1, rfl, rfl, HA, HK1, HO_8, HO_900, HB⟩ := hrel
  cases gk with
  | zero => exact absurd HA.out (by simp [impl_eliminate.l0])
  | succ k1 =>
   have H := HA.out
   clear HA
   simp only [impl_eliminate.l0] at H
   by_cases c6 : x17_1 < a1
   ·rw [if_pos c6] at H
    have c6b0 := decide_eq_true c6
    clear c6
    obtain ⟨t105, A7, H⟩ := tgbd H
    replace H : (if t105 < 0 then (impl_eliminate.l0 k1 a1 a2 x8_1 0 a1 (wrap64 (x17_1 + 1)) x900_1) else (if t105 > 0 then (if 0 ≤ (wrap64 ((x8_1.length : Int) + t105)) then (if (wrap64 ((x8_1.length : Int) + t105)) < (x900_1.length : Int) then (if 0 ≤ (x8_1.length : Int) then (if (x8_1.length : Int) < (x900_1.length : Int) then ((impl_reduce.f (wrap64 (-x9_1)) a2).bind fun t110 => (impl_eliminate.j1 k1 a1 a2 x8_1 t110 (x8_1.length : Int) a1 x17_1 ((x900_1.set ((x8_1.length : Int) : Int).toNat (rd_L2 x900_1 (wrap64 ((x8_1.length : Int) + t105)))).set ((wrap64 ((x8_1.length : Int) + t105)) : Int).toNat (rd_L2 x900_1 (x8_1.length : Int))) x17_1)) else (none)) else (none)) else (none)) else (none)) else (impl_eliminate.j1 k1 a1 a2 x8_1 x9_1 (x8_1.length : Int) a1 x17_1 x900_1 x17_1))) = some (r1, r2, r3) := H
    by_cases c8 : t105 < 0
    ·rw [if_pos c8] at H
     have c8b0 := decide_eq_true c8
     clear c8
     have H' := tgk H
     clear H
     go_wp2_with (first | ((with_reducible refine gate_dst (N := 10) rfl ?_); refine box_event ?hg (N := 10) ?hd (cs := #[.int .i64 0]) (t := 2) ?hr ?_; (case hd => rfl); (case hg => rfl); (case hr => first | (go_simp; done) | (go_simp; rfl)); intro gb104 hg w9a hbox hb; have hcs_ : w9a.cell? ⟨gb104, 0, none⟩ = some (.int .i64 0) := (blk_cell hbox 0).trans rfl; have hfs_ := blk_frozen hbox 0; have AG_ := tgk hg; have AX_ := tgk hbox; have AB_ := tgk hb; clear hg hbox hb) | ((with_reducible refine gate_store (t := 2) (p := 10) rfl ?_); refine store_event (t := 2) (p := 10) (v := ?vo_s) (w1 := (w9a.setCell ⟨gb104, 0, none⟩ (.int .i64 x17_1))) ?hg ?ho ?hn ?hr ?_; (case ho => rfl); (case hg => rfl); (case hn => rfl); (case hr => first | (go_simp; done) | (go_simp; rfl)); intro w9 hw; have hg := AG_.out; have hbox := AX_.out; have hb := AB_.out; clear AG_ AX_ AB_; have hbox2 : (w9a.setCell ⟨gb104, 0, none⟩ (.int .i64 x17_1)).heap[gb104]? = some (.cells #[.int .i64 x17_1] 2 (0, 0)) := blk_put hbox 0 _ rfl; have hb2 := below_set (j := 0) (v := .int .i64 x17_1) hb (Nat.le_of_eq hg.symm); rw [← hw] at hbox2 hb2; clear hbox hb hcs_ hfs_ hw; have hbox := hbox2; have hb := hb2; clear hbox2 hb2; have BK104 := tgk (hbox); have GW104 := tgk (show w.heap.size ≤ gb104 from (by rw [hg]; exact (below_size Z41.z5))); have GE104 := tgk (show w.heap.size ≤ gb104 from (by rw [hg]; exact (below_size Z41.z5))); replace HO_8 := tgk (Kd.R_below (Kd.R_elderB Z41.z4 gb104 (Nat.le_of_eq hg.symm)) hb); replace HO_900 := tgk (Kd.N_below (Kd.N_elderB Z41.z6 gb104 (Nat.le_of_eq hg.symm)) hb); replace HB := tgk (below_step Z41.z5 hb); clear hb hbox hg; obtain ⟨Ao10, co10, eo10⟩ := Kd.R_slice HO_8.out; subst eo10; obtain ⟨hcz11_0, hfz11_0⟩ := cells1 BK104.out; obtain ⟨Ao12, co12, eo12⟩ := Kd.N_slice HO_900.out; subst eo12; obtain ⟨Acut_, hcut_, hcall_⟩ := slices_IndexFunc_int64_int64_71.cut gb104 Ao12 co12 x900_1 (x8_1.length : Int) x17_1 t105 (Kd.N_reads' HO_900.out).2.1 A7.out) | ((with_reducible refine gate_callee (f := 71) rfl ?_); refine goesL_ (some 26) rfl rfl Tryz.func71 (by kernel_rfl) rfl #[.slice Acut_ (x900_1.drop ((x8_1.length : Int)).toNat).length (co12 - ((x8_1.length : Int)).toNat), .func (.func 72) #[] #[.pointer (some ⟨gb104, 0, none⟩)]] rfl Z41.z7 ?_; (with_reducible refine (hcall_ _ ?side1 ?side2).mono ?_); (case side1 => exact Z41.z19); (case side2 => exact (by exact (blk_cell Z41.z3 0).trans rfl)); rintro e w' ⟨rfl, nd, rfl⟩; refine ⟨_, rfl, ?_⟩))
     go_roundg k1
     case measure => have := HK1.out; omega
     case rel => exact ⟨(x8_1), (0), (wrap64 (x17_1 + 1)), (x900_1), Z41.z10, Z41.z10, H', ⟨(by have := HK1.out; omega)⟩, ⟨(by (with_reducible repeat (first | apply Kd.R_alloc | apply Kd.R_drewN | apply Kd.R_drew)); exact Kd.R_mono HO_8.out (fun _ hk => hk.1))⟩, ⟨(by (with_reducible repeat (first | apply Kd.N_alloc | apply Kd.N_drewN | apply Kd.N_drew)); exact Kd.N_mono HO_900.out (fun _ hk => ⟨hk.1.1, hk.1.2⟩))⟩, ⟨Z41.z1⟩⟩
    rw [if_neg c8] at H
    have c8b0 := decide_eq_false c8
    clear c8
    have HC13 := tgk H
    clear H
    go_upto_if 30 with (first | ((with_reducible refine gate_dst (N := 10) rfl ?_); refine box_event ?hg (N := 10) ?hd (cs := #[.int .i64 0]) (t := 2) ?hr ?_; (case hd => rfl); (case hg => rfl); (case hr => first | (go_simp; done) | (go_simp; rfl)); intro gb104 hg w9a hbox hb; have hcs_ : w9a.cell? ⟨gb104, 0, none⟩ = some (.int .i64 0) := (blk_cell hbox 0).trans rfl; have hfs_ := blk_frozen hbox 0; have AG_ := tgk hg; have AX_ := tgk hbox; have AB_ := tgk hb; clear hg hbox hb) | ((with_reducible refine gate_store (t := 2) (p := 10) rfl ?_); refine store_event (t := 2) (p := 10) (v := ?vo_s) (w1 := (w9a.setCell ⟨gb104, 0, none⟩ (.int .i64 x17_1))) ?hg ?ho ?hn ?hr ?_; (case ho => rfl); (case hg => rfl); (case hn => rfl); (case hr => first | (go_simp; done) | (go_simp; rfl)); intro w14 hw; have hg := AG_.out; have hbox := AX_.out; have hb := AB_.out; clear AG_ AX_ AB_; have hbox2 : (w9a.setCell ⟨gb104, 0, none⟩ (.int .i64 x17_1)).heap[gb104]? = some (.cells #[.int .i64 x17_1] 2 (0, 0)) := blk_put hbox 0 _ rfl; have hb2 := below_set (j := 0) (v := .int .i64 x17_1) hb (Nat.le_of_eq hg.symm); rw [← hw] at hbox2 hb2; clear hbox hb hcs_ hfs_ hw; have hbox := hbox2; have hb := hb2; clear hbox2 hb2; have BK104 := tgk (hbox); have GW104 := tgk (show w.heap.size ≤ gb104 from (by rw [hg]; exact (below_size Z41.z5))); have GE104 := tgk (show w.heap.size ≤ gb104 from (by rw [hg]; exact (below_size Z41.z5))); replace HO_8 := tgk (Kd.R_below (Kd.R_elderB Z41.z4 gb104 (Nat.le_of_eq hg.symm)) hb); replace HO_900 := tgk (Kd.N_below (Kd.N_elderB Z41.z6 gb104 (Nat.le_of_eq hg.symm)) hb); replace HB := tgk (below_step Z41.z5 hb); clear hb hbox hg; obtain ⟨Ao15, co15, eo15⟩ := Kd.R_slice HO_8.out; subst eo15; obtain ⟨hcz16_0, hfz16_0⟩ := cells1 BK104.out; obtain ⟨Ao17, co17, eo17⟩ := Kd.N_slice HO_900.out; subst eo17; obtain ⟨Acut_, hcut_, hcall_⟩ := slices_IndexFunc_int64_int64_71.cut gb104 Ao17 co17 x900_1 (x8_1.length : Int) x17_1 t105 (Kd.N_reads' HO_900.out).2.1 A7.out) | ((with_reducible refine gate_callee (f := 71) rfl ?_); refine goesL_ (some 26) rfl rfl Tryz.func71 (by kernel_rfl) rfl #[.slice Acut_ (x900_1.drop ((x8_1.length : Int)).toNat).length (co17 - ((x8_1.length : Int)).toNat), .func (.func 72) #[] #[.pointer (some ⟨gb104, 0, none⟩)]] rfl Z41.z7 ?_; (with_reducible refine (hcall_ _ ?side1 ?side2).mono ?_); (case side1 => exact Z41.z19); (case side2 => exact (by exact (blk_cell Z41.z3 0).trans rfl)); rintro e w' ⟨rfl, nd, rfl⟩; refine ⟨_, rfl, ?_⟩))
    (try simp only [Act.put, List.setIfInBounds_toArray, List.set_cons_zero, List.set_cons_succ])
    go_cut [9] (fun v9 wc => ∃ (kq : Nat) (x9_12 : Int) (x900_12 : List (List Int)), v9 = .int .i64 x9_12 ∧ Aside0 (impl_eliminate.j1 kq a1 a2 x8_1 x9_12 (x8_1.length : Int) a1 x17_1 x900_12 x17_1 = some (r1, r2, r3)) ∧ Aside0 (kq ≤ k1) ∧ Aside0 (Kd.R (Kd.int .i64) 2 wc w.heap.size (fun k_ => (w.heap.size ≤ k_) ∧ k_ ≠ gb104) (.slice Ao15 x8_1.length co15) x8_1) ∧ Aside0 (Kd.N (Kd.slice 2 (Kd.int .i64)) 26 wc w.heap.size (fun k_ => (w.heap.size ≤ k_) ∧ some k_ ≠ ((.slice Ao15 x8_1.length co15) : Value).ownBlock ∧ k_ ≠ gb104) (.slice Ao17 x900_1.length co17) x900_12) ∧ Aside0 (wc.heap[gb104]? = some (.cells #[.int .i64 x17_1] 2 (0, 0))) ∧ Aside0 (Below w.heap.size w wc))
    case first =>
     have H := HC13.out
     clear HC13
     by_cases c18 : t105 > 0
     ·rw [if_pos c18] at H
      have c18b0 : decide (0 < t105) = true := decide_eq_true c18; clear c18
      (first | rw [c18b0] | (simp only [i64_w, i32_w]; rw [c18b0]) | skip)
      obtain ⟨ji19, hji19⟩ : ∃ j_ : Int, (wrap64 ((x8_1.length : Int) + t105)) = j_ := ⟨_, rfl⟩; replace H : (if 0 ≤ (ji19) then (if (ji19) < (x900_1.length : Int) then (if 0 ≤ (x8_1.length : Int) then (if (x8_1.length : Int) < (x900_1.length : Int) then ((impl_reduce.f (wrap64 (-x9_1)) a2).bind fun t110 => (impl_eliminate.j1 k1 a1 a2 x8_1 t110 (x8_1.length : Int) a1 x17_1 ((x900_1.set ((x8_1.length : Int) : Int).toNat (rd_L2 x900_1 (ji19))).set ((ji19) : Int).toNat (rd_L2 x900_1 (x8_1.length : Int))) x17_1)) else (none)) else (none)) else (none)) else (none)) = some (r1, r2, r3) := by first | (rw [hji19] at H; exact H) | (simp only [hji19] at H ⊢; exact H)
      have hji19w : (IntKind.i64.wrap ((x8_1.length : Int) + t105)) = ji19 := (i64_w _).trans hji19
      by_cases c20 : 0 ≤ (ji19)
      ·rw [if_pos c20] at H
       have c20b0 := decide_eq_true c20; clear c20
       by_cases c21 : (ji19) < (x900_1.length : Int)
       ·rw [if_pos c21] at H
        have c21b0 := decide_eq_true c21; clear c21
        by_cases c22 : 0 ≤ (x8_1.length : Int)
        ·rw [if_pos c22] at H
         have c22b0 := decide_eq_true c22; have c22b1 : decide (0 ≤ x8_1.length) = true := decide_eq_true (by omega); clear c22
         by_cases c23 : (x8_1.length : Int) < (x900_1.length : Int)
         ·rw [if_pos c23] at H
          have c23b0 := decide_eq_true c23; have c23b1 : decide (x8_1.length < x900_1.length) = true := decide_eq_true (Int.ofNat_lt.mp c23); clear c23; obtain ⟨y108, hy108⟩ : ∃ y_ : List (List Int), y_ = (x900_1.set ((x8_1.length : Int) : Int).toNat (rd_L2 x900_1 (ji19))) := ⟨_, rfl⟩; replace H : ((impl_reduce.f (wrap64 (-x9_1)) a2).bind fun t110 => (impl_eliminate.j1 k1 a1 a2 x8_1 t110 (x8_1.length : Int) a1 x17_1 (y108.set ((ji19) : Int).toNat (rd_L2 x900_1 (x8_1.length : Int))) x17_1)) = some (r1, r2, r3) := by first | (rw [hy108]; with_reducible exact H) | (have H2_ := (Option.bind_some _ _).symm.trans H; rw [hy108]; with_reducible exact H2_) | (have H2_ := (Option.bind_some _ _).symm.trans H; with_reducible exact H2_) | with_reducible exact H | (rw [hy108]; exact H) | exact H
          have Ny108 := tgk hy108; clear hy108; obtain ⟨y109, hy109⟩ : ∃ y_ : List (List Int), y_ = (y108.set ((ji19) : Int).toNat (rd_L2 x900_1 (x8_1.length : Int))) := ⟨_, rfl⟩; replace H : ((impl_reduce.f (wrap64 (-x9_1)) a2).bind fun t110 => (impl_eliminate.j1 k1 a1 a2 x8_1 t110 (x8_1.length : Int) a1 x17_1 y109 x17_1)) = some (r1, r2, r3) := by first | (rw [hy109]; with_reducible exact H) | (have H2_ := (Option.bind_some _ _).symm.trans H; rw [hy109]; with_reducible exact H2_) | (have H2_ := (Option.bind_some _ _).symm.trans H; with_reducible exact H2_) | with_reducible exact H | (rw [hy109]; exact H) | exact H
          have Ny109 := tgk hy109; clear hy109; obtain ⟨t110, A26, H⟩ := tgbd H
          (try dsimp only at H)
          have H' := tgk H; clear H
          try go_wp2
          replace HO_8 := tgk (Kd.R_drew (Kd.R_drewN HO_8.out nd)); replace HO_900 := tgk (Kd.N_drew (Kd.N_drewN HO_900.out nd)); replace BK104 := tgk (blk_drew (blk_drewN BK104.out nd)); replace HB := tgk (below_drew1 (pw_below_drewN HB.out nd)); have p106 : 0 ≤ ((ji19) : Int) := of_decide_eq_true Z41.z2; have q106 : (ji19) < (x900_1.length : Int) := of_decide_eq_true Z41.z2; obtain ⟨ad106, A106_0, c106_0, e106, hx106_0, hl106_0, hi106_0⟩ := at_L2 (Kd.N_reads' HO_900.out).2.2 (ji19) p106 q106; cases e106; obtain ⟨ce106, hce106, hMe106, hcc106⟩ := Kd.N_get HO_900.out [] (ji19) p106 (by first | exact q106 | exact of_decide_eq_true Z41.z2 | (have e_ := (Kd.N_reads' HO_900.out).1; omega)); obtain ⟨ua106_0, uc106_0, rfl, ul106_0, ge106_0⟩ := Kd.FK_slice_open hMe106; have hv106_0 := hcc106 0 _ rfl; rw [Nat.add_zero, show ((Kd.slice 2 (Kd.int .i64))).sz = 1 from rfl, Nat.mul_one] at hv106_0; replace hv106_0 := Option.some.inj (hv106_0.symm.trans hx106_0); injection hv106_0 with hva_ hvn_ hvc_; rw [hva_] at ge106_0; rw [hvc_] at ul106_0; have HL106_0 := tgk (show Kd.V (Kd.int .i64) 2 _ w.heap.size _ _ (rd_L2 x900_1 (ji19)) from Kd.V_mk ul106_0 ge106_0); clear hva_ hvn_ hvc_ ge106_0 ul106_0 hcc106 hce106; have HR106_0 := tgk hi106_0; have HC106_0 := tgk hl106_0; clear hi106_0 hl106_0; replace p106 := eq_true p106; replace q106 := eq_true q106; have p107 : 0 ≤ ((x8_1.length : Int) : Int) := of_decide_eq_true Z41.z2; have q107 : (x8_1.length : Int) < (x900_1.length : Int) := of_decide_eq_true Z41.z2; obtain ⟨ad107, A107_0, c107_0, e107, hx107_0, hl107_0, hi107_0⟩ := at_L2 (Kd.N_reads' HO_900.out).2.2 (x8_1.length : Int) p107 q107; obtain rfl : ad106 = ad107 := (by injection e107); obtain ⟨ce107, hce107, hMe107, hcc107⟩ := Kd.N_get HO_900.out [] (x8_1.length : Int) p107 (by first | exact q107 | exact of_decide_eq_true Z41.z2 | (have e_ := (Kd.N_reads' HO_900.out).1; omega)); obtain ⟨ua107_0, uc107_0, rfl, ul107_0, ge107_0⟩ := Kd.FK_slice_open hMe107; have hv107_0 := hcc107 0 _ rfl; rw [Nat.add_zero, show ((Kd.slice 2 (Kd.int .i64))).sz = 1 from rfl, Nat.mul_one] at hv107_0; replace hv107_0 := Option.some.inj (hv107_0.symm.trans hx107_0); injection hv107_0 with hva_ hvn_ hvc_; rw [hva_] at ge107_0; rw [hvc_] at ul107_0; have HL107_0 := tgk (show Kd.V (Kd.int .i64) 2 _ w.heap.size _ _ (rd_L2 x900_1 (x8_1.length : Int)) from Kd.V_mk ul107_0 ge107_0); clear hva_ hvn_ hvc_ ge107_0 ul107_0 hcc107 hce107; have HR107_0 := tgk hi107_0; have HC107_0 := tgk hl107_0; clear hi107_0 hl107_0
          (try simp only [Go.IntWalk.toNatUp] at hx107_0)
          replace p107 := eq_true p107; replace q107 := eq_true q107; have p24 : 0 ≤ ((x8_1.length : Int) : Int) := of_decide_eq_true Z41.z2; have q24 : ((x8_1.length : Int) : Int) < ((x900_1.length : Int) : Int) := of_decide_eq_true Z41.z2; obtain ⟨go24, co24, eo24, gb24, gl24, cl24, HG24⟩ := Kd.N_form HO_900.out (by omega)
          (first | cases eo24 | (injection eo24 with ea_ en_ ec_; (first | subst ea_ | (injection ea_ with ea_; subst ea_)); subst ec_; clear en_))
          have GB24 := tgk gb24; have GG24 := tgk HG24; clear gb24 gl24 HG24
          (first | simp only [add_plain] at hx106_0 | skip)
          (first | simp only [add_plain] at hx107_0 | skip)
          obtain ⟨ce24, hcl24, hM24, hcc24, hfr24⟩ := Kd.N_elem HO_900.out [] ((x8_1.length : Int) : Int) p24 q24; obtain ⟨ua24_0, uc24_0, rfl, ul24_0, ge24_0⟩ := Kd.FK_slice_open hM24; have hx24_0 := hcc24 0 _ rfl; have hf24_0 := hfr24 0
          (try simp only [show ((Kd.slice 2 (Kd.int .i64))).sz = 1 from rfl, Nat.mul_one, Nat.add_zero] at hx24_0)
          (try simp only [show ((Kd.slice 2 (Kd.int .i64))).sz = 1 from rfl, Nat.mul_one, Nat.add_zero] at hf24_0)
          clear hcl24 hcc24 hfr24 hM24; replace p24 := eq_true p24; replace q24 := eq_true q24; have n_ := tgk (Kd.N_mono (ok' := (fun k_ => (w.heap.size ≤ k_) ∧ some k_ ≠ (.slice Ao15 x8_1.length co15 : Value).ownBlock ∧ k_ ≠ gb104)) HO_900.out (fun k_ hk => ⟨hk.1.1, ⟨hk.1.2, hk.2⟩⟩)); clear HO_900; have HO_900 := n_; clear n_; refine start_ (n := 20) (S := fun w' => w'.cell? ⟨go24, ((ji19) : Int).toNat, none⟩ = some (.slice A106_0 (rd_L2 x900_1 (ji19)).length c106_0) ∧ w'.cell? ⟨go24, ((x8_1.length : Int) : Int).toNat, none⟩ = some (.slice A107_0 (rd_L2 x900_1 (x8_1.length : Int)).length c107_0)) (ds := [17, 19]) #[false, false, false, false, false, false, false, false, false, false, false, false, false, false, false, false, false, false, false, false] (by kernel_rfl) rfl rfl ⟨hx106_0, hx107_0⟩ (fun hHeld => ?_); refine with_tabW impl_eliminate.tab11 impl_eliminate.bits11 (fun HT_ HW_ => ?_); generalize (w14.drewN nd).drew = w14d at HO_8 HO_900 BK104 HB HL106_0 HR106_0 HL107_0 HR107_0 hx106_0 hx107_0 hx24_0 hf24_0 GG24 hHeld ⊢
          have HX27 := tgk (show Kd.N (Kd.slice 2 (Kd.int .i64)) 26 w14d w.heap.size (fun k_ => (w.heap.size ≤ k_) ∧ some k_ ≠ (.slice Ao15 x8_1.length co15 : Value).ownBlock ∧ k_ ≠ gb104) (.slice (some ⟨go24, 0, none⟩) x900_1.length co17) x900_1 from Z41.z6); obtain ⟨ce27, hcl27, hM27, hcc27, hfr27⟩ := Kd.N_elem HX27.out [] ((x8_1.length : Int) : Int) (of_decide_eq_true Z41.z2) (by have h_ : ((x8_1.length : Int) : Int) < ((x900_1.length : Int) : Int) := of_decide_eq_true Z41.z2; first | exact h_ | (have e_ := (Kd.N_reads' HO_900.out).1; omega) | simpa using h_); obtain ⟨ua27_0, uc27_0, rfl, ul27_0, ge27_0⟩ := Kd.FK_slice_open hM27; have HP27 := Kd.N_seg HX27.out ((x8_1.length : Int) : Int) (of_decide_eq_true Z41.z2) (by have h_ : ((x8_1.length : Int) : Int) < ((x900_1.length : Int) : Int) := of_decide_eq_true Z41.z2; first | exact h_ | (have e_ := (Kd.N_reads' HO_900.out).1; omega) | simpa using h_) (seg := [.slice A106_0 (rd_L2 x900_1 (ji19)).length c106_0]) (j := 0) hcl27 hcc27 (show 1 ≤ 1 from by decide) (x' := rd_L2 x900_1 (ji19)) (Kd.FK_slice_mk (Kd.V_reads' (Kd.V_mono (ok' := (fun k_ => ((fun k_ => (w.heap.size ≤ k_) ∧ some k_ ≠ (.slice Ao15 x8_1.length co15 : Value).ownBlock ∧ k_ ≠ gb104)) k_ ∧ k_ ≠ go24)) (HL106_0.out) (fun k_ hk => ⟨⟨hk.1.1.1, ⟨hk.1.1.2, hk.1.2⟩⟩, fun e_ => (hk.2) (by rw [e_]; rfl)⟩))).2.1 (Kd.V_F (Kd.V_mono (ok' := (fun k_ => ((fun k_ => (w.heap.size ≤ k_) ∧ some k_ ≠ (.slice Ao15 x8_1.length co15 : Value).ownBlock ∧ k_ ≠ gb104)) k_ ∧ k_ ≠ go24)) (HL106_0.out) (fun k_ hk => ⟨⟨hk.1.1.1, ⟨hk.1.1.2, hk.1.2⟩⟩, fun e_ => (hk.2) (by rw [e_]; rfl)⟩)))) (fun _ hk => hk); have hx27_0 := hcc27 0 _ rfl
          (try simp only [show ((Kd.slice 2 (Kd.int .i64))).sz = 1 from rfl, Nat.mul_one, Nat.add_zero] at hx27_0)
          have hf27_0 := hfr27 0
          (try simp only [show ((Kd.slice 2 (Kd.int .i64))).sz = 1 from rfl, Nat.mul_one, Nat.add_zero] at hf27_0)
          clear hcl27 hcc27 hfr27 hM27
          (try simp only [show ((Kd.slice 2 (Kd.int .i64))).sz = 1 from rfl, Nat.mul_one, Nat.add_zero] at HP27)
          (try simp only [show ((Kd.slice 2 (Kd.int .i64))).sz = 1 from rfl, Nat.mul_one, Nat.add_zero] at HP27)
          refine tgpP 0 31 (tgb 20 1) ?_; refine tgpP 1 32 (tgb 20 3) ?_; refine tgpP 2 33 (tgb 20 7) ?_; refine tgpP 3 34 (tgb 20 15) ?_; refine tgpP 4 35 (tgb 20 31) ?_; refine tgpP 5 36 (tgb 20 63) ?_; refine tgpP 6 37 (tgb 20 127) ?_; refine tgpP 7 38 (tgb 20 255) ?_; refine tgpP 8 39 (tgb 20 511) ?_; refine tgpP 9 40 (tgb 20 1023) ?_; refine tgpP 10 41 (tgb 20 2047) ?_; refine take_ (i := 11) (N := some 42) (v := ?_) (a' := ?_) (tgb 20 4095) rfl rfl (take_ofW HT_.out HW_.out (by kernel_rfl)) (fun _ _ _ h => h) (Or.inl ⟨(by rfl), ?_⟩) hHeld ?_ ?_
          rotate_left
          ·rintro w' ⟨s0, s1⟩
           (try simp only [Go.IntWalk.toNatUp, Int.toNat_natCast] at s0)
           (try simp only [Go.IntWalk.toNatUp, Int.toNat_natCast] at s1)
           go_simp
           with_reducible rfl
          rotate_left
          ·exact Z41.z0
          refine tgpP 12 43 (tgb 20 8191) ?_; refine tgpP 13 44 (tgb 20 16383) ?_; refine tgpP 14 45 (tgb 20 32767) ?_; refine take_ (i := 15) (N := some 46) (v := ?_) (a' := ?_) (tgb 20 65535) rfl rfl (take_ofW HT_.out HW_.out (by kernel_rfl)) (fun _ _ _ h => h) (Or.inl ⟨(by rfl), ?_⟩) hHeld ?_ ?_
          rotate_left
          ·rintro w' ⟨s0, s1⟩
           (try simp only [Go.IntWalk.toNatUp, Int.toNat_natCast] at s0)
           (try simp only [Go.IntWalk.toNatUp, Int.toNat_natCast] at s1)
           go_simp
           with_reducible rfl
          rotate_left
          ·exact Z41.z0
          refine tgpP 16 47 (tgb 20 131071) ?_
          (try simp only [Go.IntWalk.toNatUp, Int.toNat_natCast] at hx24_0)
          (try simp only [Go.IntWalk.toNatUp, Int.toNat_natCast] at hf24_0)
          refine last_ (i := 17) (N := none) (tgb 20 262143) rfl rfl (one_of HT_.out (by kernel_rfl)) (by decide) (fun K hK => ?_); refine skip_ (w1 := ?_) (by rfl) rfl ?_ ?_
          rotate_left
          ·go_simp
           rfl
          refine hK.out _ _ ?_; clear hK K; refine impl_eliminate.gen_w (C := fun W => wpAnyLast _ _ _ _ _ _ _ _ _ W) (w14d.setCell ⟨go24, ((x8_1.length : Int) : Int).toNat, none⟩ (.slice A106_0 (rd_L2 x900_1 (ji19)).length c106_0)) (fun w28 hw => ?_); have hg : w14d.grownBy w28 (some go24) := (by rw [hw]; exact HP27.2); have hp_ : Kd.N (Kd.slice 2 (Kd.int .i64)) 26 w28 w.heap.size (fun k_ => (w.heap.size ≤ k_) ∧ some k_ ≠ (.slice Ao15 x8_1.length co15 : Value).ownBlock ∧ k_ ≠ gb104) (.slice (some ⟨go24, 0, none⟩) x900_1.length co17) y108 := (by rw [hw, Ny108.out]; exact HP27.1); clear HP27; have n0_ := tgk (Kd.R_over' (v := (.slice (some ⟨go24, 0, none⟩) x900_1.length co17)) Z41.z4 (Kd.N_typed HO_900.out) (by decide) hg); have n1_ := tgk (hp_); have n2_ := tgk (blk_grown (g := gb104) (o := .cells #[.int .i64 x17_1] 2 (0, 0)) Z41.z3 hg (Kd.N_ne HO_900.out BK104.out (by decide))); have n3_ := tgk (Kd.V_afterv (v := (.slice (some ⟨go24, 0, none⟩) x900_1.length co17)) (v1 := (.slice (some ⟨go24, 0, none⟩) x900_1.length co17)) (ok := (fun k_ => (w.heap.size ≤ k_) ∧ some k_ ≠ (.slice Ao15 x8_1.length co15 : Value).ownBlock ∧ k_ ≠ gb104)) (by (with_reducible repeat (first | apply Kd.V_alloc | apply Kd.V_drewN | apply Kd.V_drew)); exact Kd.V_mono HL106_0.out (fun _ hk => ⟨⟨hk.1.1.1, ⟨hk.1.1.2, hk.1.2⟩⟩, hk.2⟩)) hg (.inl rfl)); have n4_ := tgk (Kd.V_afterv (v := (.slice (some ⟨go24, 0, none⟩) x900_1.length co17)) (v1 := (.slice (some ⟨go24, 0, none⟩) x900_1.length co17)) (ok := (fun k_ => (w.heap.size ≤ k_) ∧ some k_ ≠ (.slice Ao15 x8_1.length co15 : Value).ownBlock ∧ k_ ≠ gb104)) (by (with_reducible repeat (first | apply Kd.V_alloc | apply Kd.V_drewN | apply Kd.V_drew)); exact Kd.V_mono HL107_0.out (fun _ hk => ⟨⟨hk.1.1.1, ⟨hk.1.1.2, hk.1.2⟩⟩, hk.2⟩)) hg (.inl rfl)); have n5_ := tgk ((by rw [hw]; exact below_set (HB.out) GB24.out : Below w.heap.size w w28)); clear HO_8 HO_900 BK104 HL106_0 HL107_0 HB; have HO_8 := n0_; have HO_900 := n1_; have BK104 := n2_; have HL106_0 := n3_; have HL107_0 := n4_; have HB := n5_; clear n0_ n1_ n2_ n3_ n4_ n5_ hg hw hp_; have p25 : 0 ≤ ((ji19) : Int) := of_decide_eq_true Z41.z2; have q25 : ((ji19) : Int) < ((x900_1.length : Int) : Int) := of_decide_eq_true Z41.z2; obtain ⟨ce25, hcl25, hM25, hcc25, hfr25⟩ := Kd.N_elem HO_900.out [] ((ji19) : Int) p25 q25; obtain ⟨ua25_0, uc25_0, rfl, ul25_0, ge25_0⟩ := Kd.FK_slice_open hM25; have hx25_0 := hcc25 0 _ rfl; have hf25_0 := hfr25 0
          (try simp only [show ((Kd.slice 2 (Kd.int .i64))).sz = 1 from rfl, Nat.mul_one, Nat.add_zero] at hx25_0)
          (try simp only [show ((Kd.slice 2 (Kd.int .i64))).sz = 1 from rfl, Nat.mul_one, Nat.add_zero] at hf25_0)
          clear hcl25 hcc25 hfr25 hM25; replace p25 := eq_true p25; replace q25 := eq_true q25; have HX29 := tgk (show Kd.N (Kd.slice 2 (Kd.int .i64)) 26 w28 w.heap.size (fun k_ => (w.heap.size ≤ k_) ∧ some k_ ≠ (.slice Ao15 x8_1.length co15 : Value).ownBlock ∧ k_ ≠ gb104) (.slice (some ⟨go24, 0, none⟩) x900_1.length co17) y108 from Z41.z6); obtain ⟨ce29, hcl29, hM29, hcc29, hfr29⟩ := Kd.N_elem HX29.out [] ((ji19) : Int) (of_decide_eq_true Z41.z2) (by have h_ : ((ji19) : Int) < ((x900_1.length : Int) : Int) := of_decide_eq_true Z41.z2; first | exact h_ | (have e_ := (Kd.N_reads' HO_900.out).1; omega) | simpa using h_); obtain ⟨ua29_0, uc29_0, rfl, ul29_0, ge29_0⟩ := Kd.FK_slice_open hM29; have HP29 := Kd.N_seg HX29.out ((ji19) : Int) (of_decide_eq_true Z41.z2) (by have h_ : ((ji19) : Int) < ((x900_1.length : Int) : Int) := of_decide_eq_true Z41.z2; first | exact h_ | (have e_ := (Kd.N_reads' HO_900.out).1; omega) | simpa using h_) (seg := [.slice A107_0 (rd_L2 x900_1 (x8_1.length : Int)).length c107_0]) (j := 0) hcl29 hcc29 (show 1 ≤ 1 from by decide) (x' := rd_L2 x900_1 (x8_1.length : Int)) (Kd.FK_slice_mk (Kd.V_reads' (Kd.V_mono (ok' := (fun k_ => ((fun k_ => (w.heap.size ≤ k_) ∧ some k_ ≠ (.slice Ao15 x8_1.length co15 : Value).ownBlock ∧ k_ ≠ gb104)) k_ ∧ k_ ≠ go24)) (HL107_0.out) (fun k_ hk => ⟨⟨hk.1.1, ⟨hk.1.2.1, hk.1.2.2⟩⟩, fun e_ => (hk.2) (by rw [e_]; rfl)⟩))).2.1 (Kd.V_F (Kd.V_mono (ok' := (fun k_ => ((fun k_ => (w.heap.size ≤ k_) ∧ some k_ ≠ (.slice Ao15 x8_1.length co15 : Value).ownBlock ∧ k_ ≠ gb104)) k_ ∧ k_ ≠ go24)) (HL107_0.out) (fun k_ hk => ⟨⟨hk.1.1, ⟨hk.1.2.1, hk.1.2.2⟩⟩, fun e_ => (hk.2) (by rw [e_]; rfl)⟩)))) (fun _ hk => hk); have hx29_0 := hcc29 0 _ rfl
          (try simp only [show ((Kd.slice 2 (Kd.int .i64))).sz = 1 from rfl, Nat.mul_one, Nat.add_zero] at hx29_0)
          have hf29_0 := hfr29 0
          (try simp only [show ((Kd.slice 2 (Kd.int .i64))).sz = 1 from rfl, Nat.mul_one, Nat.add_zero] at hf29_0)
          clear hcl29 hcc29 hfr29 hM29
          (try simp only [show ((Kd.slice 2 (Kd.int .i64))).sz = 1 from rfl, Nat.mul_one, Nat.add_zero] at HP29)
          (try simp only [show ((Kd.slice 2 (Kd.int .i64))).sz = 1 from rfl, Nat.mul_one, Nat.add_zero] at HP29)
          refine tgpP 18 48 (tgb 20 524287) ?_; refine last_ (i := 19) (N := none) (tgb 20 1048575) rfl rfl (one_of HT_.out (by kernel_rfl)) (by decide) (fun K hK => ?_)
          (try simp only [Go.IntWalk.toNatUp, Int.toNat_natCast] at hx25_0)
          (try simp only [Go.IntWalk.toNatUp, Int.toNat_natCast] at hf25_0)
          (try simp only [Go.IntWalk.toNatUp, Int.toNat_natCast] at hx29_0)
          (try simp only [Go.IntWalk.toNatUp, Int.toNat_natCast] at hf29_0)
          refine skip_ (w1 := ?_) (by rfl) rfl ?_ ?_
          rotate_left
          ·go_simp
           rfl
          refine hK.out _ _ ?_; clear hK K; refine impl_eliminate.gen_w (C := fun W => wpAnyLast _ _ _ _ _ _ _ _ _ W) (w28.setCell ⟨go24, ((ji19) : Int).toNat, none⟩ (.slice A107_0 (rd_L2 x900_1 (x8_1.length : Int)).length c107_0)) (fun w30 hw => ?_); have hg : w28.grownBy w30 (some go24) := (by rw [hw]; exact HP29.2); have hp_ : Kd.N (Kd.slice 2 (Kd.int .i64)) 26 w30 w.heap.size (fun k_ => (w.heap.size ≤ k_) ∧ some k_ ≠ (.slice Ao15 x8_1.length co15 : Value).ownBlock ∧ k_ ≠ gb104) (.slice (some ⟨go24, 0, none⟩) x900_1.length co17) y109 := (by rw [hw, Ny109.out]; exact HP29.1); clear HP29; have n0_ := tgk (Kd.R_over' (v := (.slice (some ⟨go24, 0, none⟩) x900_1.length co17)) Z41.z4 (Kd.N_typed HO_900.out) (by decide) hg); have n1_ := tgk (hp_); have n2_ := tgk (blk_grown (g := gb104) (o := .cells #[.int .i64 x17_1] 2 (0, 0)) Z41.z3 hg (Kd.N_ne HO_900.out BK104.out (by decide))); have n3_ := tgk (Kd.V_afterv (v := (.slice (some ⟨go24, 0, none⟩) x900_1.length co17)) (v1 := (.slice (some ⟨go24, 0, none⟩) x900_1.length co17)) (ok := (fun k_ => (w.heap.size ≤ k_) ∧ some k_ ≠ (.slice Ao15 x8_1.length co15 : Value).ownBlock ∧ k_ ≠ gb104)) (tgV HL106_0.out) hg (.inl rfl)); have n4_ := tgk (Kd.V_afterv (v := (.slice (some ⟨go24, 0, none⟩) x900_1.length co17)) (v1 := (.slice (some ⟨go24, 0, none⟩) x900_1.length co17)) (ok := (fun k_ => (w.heap.size ≤ k_) ∧ some k_ ≠ (.slice Ao15 x8_1.length co15 : Value).ownBlock ∧ k_ ≠ gb104)) (tgV HL107_0.out) hg (.inl rfl)); have n5_ := tgk ((by rw [hw]; exact below_set (HB.out) GB24.out : Below w.heap.size w w30)); clear HO_8 HO_900 BK104 HL106_0 HL107_0 HB; have HO_8 := n0_; have HO_900 := n1_; have BK104 := n2_; have HL106_0 := n3_; have HL107_0 := n4_; have HB := n5_; clear n0_ n1_ n2_ n3_ n4_ n5_ hg hw hp_; refine done_ (done_of HT_.out (by kernel_rfl)) ?_
          go_wp2_with (first | ((with_reducible refine gate_callee (f := 73) rfl ?_); refine goesL_ (some 52) rfl rfl Tryz.func73 (by kernel_rfl) rfl #[.int .i64 (wrap64 (-x9_1)), .int .i64 a2] rfl Z41.z7 ?_; (with_reducible refine (impl_reduce.calls (wrap64 (-x9_1)) a2 t110 _ A26.out).mono ?_); rintro e w' ⟨rfl, ⟨nd, rfl⟩⟩; refine ⟨_, rfl, ?_⟩))
          go_meet
          case rel => exact ⟨_, (t110), (y109), Z41.z10, H', ⟨(by have := HK1.out; first | omega | exact Nat.le_refl _)⟩, ⟨Z41.z4⟩, ⟨Z41.z6⟩, ⟨Z41.z3⟩, ⟨Z41.z1⟩⟩
         rw [if_neg c23] at H; exact absurd H (by simp)
        rw [if_neg c22] at H; exact absurd H (by simp)
       rw [if_neg c21] at H; exact absurd H (by simp)
      rw [if_neg c20] at H; exact absurd H (by simp)
     rw [if_neg c18] at H
     have c18b0 : decide (0 < t105) = false := decide_eq_false c18
     clear c18
     (first | rw [c18b0] | (simp only [i64_w, i32_w]; rw [c18b0]) | skip)
     have H' := tgk H
     clear H
     go_wp2
     go_meet
     case rel => exact ⟨_, (x9_1), (x900_1), Z41.z10, H', ⟨(by have := HK1.out; first | omega | exact Nat.le_refl _)⟩, ⟨Z41.z4⟩, ⟨(by (with_reducible repeat (first | apply Kd.N_alloc | apply Kd.N_drewN | apply Kd.N_drew)); exact Kd.N_mono HO_900.out (fun _ hk => ⟨hk.1.1, ⟨hk.1.2, hk.2⟩⟩))⟩, ⟨Z41.z3⟩, ⟨Z41.z1⟩⟩
    case rest =>
     clear HC13
     try clear c1
     try clear p1
     try clear q1
     try clear hx1
     try clear c2
     try clear p2
     try clear q2
     try clear hx2
     try clear c3
     try clear c4
     try clear c6
     try clear c6b0
     try clear p6
     try clear c7
     try clear c8
     try clear c8b0
     try clear c10
     try clear p10
     try clear q10
     try clear hx10
     try clear c18
     try clear c18b0
     try clear c20
     try clear c20b0
     try clear c21
     try clear c21b0
     try clear c22
     try clear c22b0
     try clear c22b1
     try clear c23
     try clear c23b0
     try clear c23b1
     try clear c24
     try clear p24
     try clear q24
     try clear hx24
     try clear hf24
     try clear c25
     try clear p25
     try clear q25
     try clear hx25
     try clear hf25
     try clear c27
     try clear hx27
     try clear hf27
     try clear c29
     try clear hx29
     try clear hf29
     try clear hcz11_0
     try clear hcz16_0
     try clear hfz11_0
     try clear hfz16_0
     try clear hx106_0
     try clear hx107_0
     try clear hx24_0
     try clear hx25_0
     try clear hx27_0
     try clear hx29_0
     try clear p106
     try clear p107
     try clear p2
     try clear p24
     try clear p25
     try clear q106
     try clear q107
     try clear q24
     try clear q25
     obtain ⟨kq, x9_12, x900_12, rfl, HA, HJ12, HO_8, HO_900, BK104, HB⟩ := hcut
     have hl900_12 := (Kd.N_reads' HO_900.out).1
     rw [hl900_12] at HO_900
     (try simp only [hl900_12])
     (try simp only [hl900_12] at BK104)
     (try simp only [hl900_12] at HO_8)
     cases kq with
     | zero => exact absurd HA.out (by simp [impl_eliminate.j1])
     | succ kj12 =>
      have H := HA.out
      clear HA; simp only [impl_eliminate.j1] at H
      by_cases c31 : 0 ≤ (x8_1.length : Int)
      ·rw [if_pos c31] at H
       have c31b0 := decide_eq_true c31; have c31b1 : decide (0 ≤ x8_1.length) = true := decide_eq_true (by omega); clear c31
       by_cases c32 : (x8_1.length : Int) < (x900_12.length : Int)
       ·rw [if_pos c32] at H
        have c32b0 := decide_eq_true c32; have c32b1 : decide (x8_1.length < x900_12.length) = true := decide_eq_true (Int.ofNat_lt.mp c32); clear c32
        by_cases c33 : 0 ≤ x17_1
        ·rw [if_pos c33] at H
         have c33b0 := decide_eq_true c33; clear c33
         by_cases c34 : x17_1 < ((rd_L2 x900_12 (x8_1.length : Int)).length : Int)
         ·rw [if_pos c34] at H
          have c34b0 := decide_eq_true c34; clear c34
          by_cases c35 : a2 = 0
          ·rw [if_pos c35] at H
           exact absurd H (by simp)
          rw [if_neg c35] at H; obtain ⟨c35b0, c35b1⟩ := tgn c35
          by_cases c36 : 0 ≤ a1
          ·rw [if_pos c36] at H
           have c36b0 := eq_true c36; have c36b1 := decide_eq_true c36; clear c36
           by_cases c37 : (a1 : Int).toNat ≤ 35184372088832
           ·rw [if_pos c37] at H
            have c37b0 := eq_true c37; have c37b1 := decide_eq_true c37; clear c37; obtain ⟨y113, hy113⟩ : ∃ y_ : List Int, y_ = (List.replicate (a1 : Int).toNat 0) := ⟨_, rfl⟩; replace H : ((impl_inverseOf.f kj12 (rd (rd_L2 x900_12 (x8_1.length : Int)) x17_1) a2).bind fun t117 => ((impl_addTimes.f kj12 y113 (rd_L2 x900_12 (x8_1.length : Int)) t117 a2).bind fun t118 => (impl_eliminate.l1 kj12 a1 a2 x8_1 (Int.tmod (wrap64 (x9_12 * (rd (rd_L2 x900_12 (x8_1.length : Int)) x17_1))) a2) (x8_1.length : Int) a1 x17_1 (x900_12.length : Int) 0 (x900_12.set ((x8_1.length : Int) : Int).toNat t118) x17_1))) = some (r1, r2, r3) := by first | (rw [hy113]; with_reducible exact H) | (have H2_ := (Option.bind_some _ _).symm.trans H; rw [hy113]; with_reducible exact H2_) | (have H2_ := (Option.bind_some _ _).symm.trans H; with_reducible exact H2_) | with_reducible exact H | (rw [hy113]; exact H) | exact H
            have Ny113 := tgk hy113; clear hy113; obtain ⟨t117, A38, H⟩ := tgbd H
            (try dsimp only at H)
            obtain ⟨t118, A39, H⟩ := tgbd H
            (try dsimp only at H)
            obtain ⟨y121, hy121⟩ : ∃ y_ : List (List Int), y_ = (x900_12.set ((x8_1.length : Int) : Int).toNat t118) := ⟨_, rfl⟩; replace H : (impl_eliminate.l1 kj12 a1 a2 x8_1 (Int.tmod (wrap64 (x9_12 * (rd (rd_L2 x900_12 (x8_1.length : Int)) x17_1))) a2) (x8_1.length : Int) a1 x17_1 (x900_12.length : Int) 0 y121 x17_1) = some (r1, r2, r3) := by first | (rw [hy121]; with_reducible exact H) | (have H2_ := (Option.bind_some _ _).symm.trans H; rw [hy121]; with_reducible exact H2_) | (have H2_ := (Option.bind_some _ _).symm.trans H; with_reducible exact H2_) | with_reducible exact H | (rw [hy121]; exact H) | exact H
            have Ny121 := tgk hy121; clear hy121; have H' := tgk H; clear H
            try go_wp2
            replace HO_8 := tgk (Kd.R_drew HO_8.out); replace HO_900 := tgk (Kd.N_drew HO_900.out); replace BK104 := tgk (blk_drew BK104.out); replace HB := tgk (below_drew1 HB.out); have p111 : 0 ≤ ((x8_1.length : Int) : Int) := of_decide_eq_true Z41.z2; have q111 : (x8_1.length : Int) < (x900_12.length : Int) := of_decide_eq_true Z41.z2; obtain ⟨ad111, A111_0, c111_0, e111, hx111_0, hl111_0, hi111_0⟩ := at_L2 (Kd.N_reads' HO_900.out).2.2 (x8_1.length : Int) p111 q111; cases e111; obtain ⟨ce111, hce111, hMe111, hcc111⟩ := Kd.N_get HO_900.out [] (x8_1.length : Int) p111 (by first | exact q111 | exact of_decide_eq_true Z41.z2 | (have e_ := (Kd.N_reads' HO_900.out).1; omega)); obtain ⟨ua111_0, uc111_0, rfl, ul111_0, ge111_0⟩ := Kd.FK_slice_open hMe111; have hv111_0 := hcc111 0 _ rfl; rw [Nat.add_zero, show ((Kd.slice 2 (Kd.int .i64))).sz = 1 from rfl, Nat.mul_one] at hv111_0; replace hv111_0 := Option.some.inj (hv111_0.symm.trans hx111_0); injection hv111_0 with hva_ hvn_ hvc_; rw [hva_] at ge111_0; rw [hvc_] at ul111_0; have HL111_0 := tgk (show Kd.V (Kd.int .i64) 2 _ w.heap.size _ _ (rd_L2 x900_12 (x8_1.length : Int)) from Kd.V_mk ul111_0 ge111_0); clear hva_ hvn_ hvc_ ge111_0 ul111_0 hcc111 hce111; have HR111_0 := tgk hi111_0; have HC111_0 := tgk hl111_0; clear hi111_0 hl111_0
            (try simp only [Go.IntWalk.toNatUp] at hx111_0)
            (try simp only [hl900_12] at p111)
            (try simp only [hl900_12] at q111)
            (try simp only [hl900_12] at hx111_0)
            replace p111 := eq_true p111; replace q111 := eq_true q111; have p112 : 0 ≤ (x17_1 : Int) := of_decide_eq_true Z41.z2; have q112 : x17_1 < ((rd_L2 x900_12 (x8_1.length : Int)).length : Int) := of_decide_eq_true Z41.z2; obtain ⟨ad112, e112, hx112_0⟩ := Kd.at_int Z41.z9 x17_1 p112 q112; cases e112; replace p112 := eq_true p112; replace q112 := eq_true q112; refine start_ (n := 8) (S := fun w' => w'.cell? ⟨gb104, 0, none⟩ = some (.int .i64 x17_1) ∧ w'.cell? (ad111.add ((x8_1.length : Int)).toNat) = some (.slice (some ad112) (rd_L2 x900_12 (x8_1.length : Int)).length c111_0) ∧ w'.cell? (ad112.add (x17_1).toNat) = some (.int .i64 (rd (rd_L2 x900_12 (x8_1.length : Int)) x17_1))) (ds := []) #[false, false, false, false, false, false, false, false] (by kernel_rfl) rfl rfl ⟨(blk_cell BK104.out 0).trans rfl, hx111_0, hx112_0⟩ (fun hHeld => ?_); refine with_tabW impl_eliminate.tab13 impl_eliminate.bits13 (fun HT_ HW_ => ?_); generalize wc.drew = w41 at HO_8 HO_900 BK104 HB HL111_0 HR111_0 hx111_0 hx112_0 hHeld ⊢
            refine tgpP 0 53 (tgb 8 1) ?_; refine tgpP 1 54 (tgb 8 3) ?_; refine tgpP 2 55 (tgb 8 7) ?_; refine take_ (i := 3) (N := some 56) (v := ?_) (a' := ?_) (tgb 8 15) rfl rfl (take_ofW HT_.out HW_.out (by kernel_rfl)) (fun _ _ _ h => h) (Or.inl ⟨(by rfl), ?_⟩) hHeld ?_ ?_
            rotate_left
            ·rintro w' ⟨s0, s1, s2⟩
             (try simp only [Go.IntWalk.toNatUp, Int.toNat_natCast] at s0)
             (try simp only [Go.IntWalk.toNatUp, Int.toNat_natCast] at s1)
             (try simp only [Go.IntWalk.toNatUp, Int.toNat_natCast] at s2)
             go_simp
             with_reducible rfl
            rotate_left
            ·exact Z41.z0
            refine take_ (i := 4) (N := some 57) (v := ?_) (a' := ?_) (tgb 8 31) rfl rfl (take_ofW HT_.out HW_.out (by kernel_rfl)) (fun _ _ _ h => h) (Or.inl ⟨(by rfl), ?_⟩) hHeld ?_ ?_
            rotate_left
            ·rintro w' ⟨s0, s1, s2⟩
             (try simp only [Go.IntWalk.toNatUp, Int.toNat_natCast] at s0)
             (try simp only [Go.IntWalk.toNatUp, Int.toNat_natCast] at s1)
             (try simp only [Go.IntWalk.toNatUp, Int.toNat_natCast] at s2)
             go_simp
             with_reducible rfl
            rotate_left
            ·exact Z41.z0
            refine tgpP 5 58 (tgb 8 63) ?_; refine take_ (i := 6) (N := some 59) (v := ?_) (a' := ?_) (tgb 8 127) rfl rfl (take_ofW HT_.out HW_.out (by kernel_rfl)) (fun _ _ _ h => h) (Or.inl ⟨(by rfl), ?_⟩) hHeld ?_ ?_
            rotate_left
            ·rintro w' ⟨s0, s1, s2⟩
             (try simp only [Go.IntWalk.toNatUp, Int.toNat_natCast] at s0)
             (try simp only [Go.IntWalk.toNatUp, Int.toNat_natCast] at s1)
             (try simp only [Go.IntWalk.toNatUp, Int.toNat_natCast] at s2)
             go_simp
             with_reducible rfl
            rotate_left
            ·exact Z41.z0
            refine tgpP 7 13 (tgb 8 255) ?_; refine done_ (done_of HT_.out (by kernel_rfl)) ?_
            try go_wp2
            replace HO_8 := tgk (Kd.R_drew HO_8.out); replace HO_900 := tgk (Kd.N_drew HO_900.out); replace HL111_0 := tgk (Kd.V_drew HL111_0.out); replace BK104 := tgk (blk_drew BK104.out); replace HR111_0 := tgk (Kd.C_drew HR111_0.out); replace HB := tgk (below_drew1 HB.out); have p116 : 0 ≤ ((x8_1.length : Int) : Int) := of_decide_eq_true Z41.z2; have q116 : (x8_1.length : Int) < (x900_12.length : Int) := of_decide_eq_true Z41.z2; obtain ⟨ad116, A116_0, c116_0, e116, hx116_0, hl116_0, hi116_0⟩ := at_L2 (Kd.N_reads' HO_900.out).2.2 (x8_1.length : Int) p116 q116; obtain rfl : ad111 = ad116 := (by injection e116); obtain ⟨ce116, hce116, hMe116, hcc116⟩ := Kd.N_get HO_900.out [] (x8_1.length : Int) p116 (by first | exact q116 | exact of_decide_eq_true Z41.z2 | (have e_ := (Kd.N_reads' HO_900.out).1; omega)); obtain ⟨ua116_0, uc116_0, rfl, ul116_0, ge116_0⟩ := Kd.FK_slice_open hMe116; have hv116_0 := hcc116 0 _ rfl; rw [Nat.add_zero, show ((Kd.slice 2 (Kd.int .i64))).sz = 1 from rfl, Nat.mul_one] at hv116_0; replace hv116_0 := Option.some.inj (hv116_0.symm.trans hx116_0); injection hv116_0 with hva_ hvn_ hvc_; rw [hva_] at ge116_0; rw [hvc_] at ul116_0; have HL116_0 := tgk (show Kd.V (Kd.int .i64) 2 _ w.heap.size _ _ (rd_L2 x900_12 (x8_1.length : Int)) from Kd.V_mk ul116_0 ge116_0); clear hva_ hvn_ hvc_ ge116_0 ul116_0 hcc116 hce116; have HR116_0 := tgk hi116_0; have HC116_0 := tgk hl116_0; clear hi116_0 hl116_0
            (try simp only [Go.IntWalk.toNatUp] at hx116_0)
            (try simp only [hl900_12] at p116)
            (try simp only [hl900_12] at q116)
            (try simp only [hl900_12] at hx116_0)
            replace p116 := eq_true p116; replace q116 := eq_true q116; refine start_ (n := 15) (S := fun w' => w'.cell? (ad111.add ((x8_1.length : Int)).toNat) = some (.slice A116_0 (rd_L2 x900_12 (x8_1.length : Int)).length c116_0)) (ds := [14]) #[false, false, false, false, false, false, false, false, false, false, false, false, false, false, false] (by kernel_rfl) rfl rfl (hx116_0) (fun hHeld => ?_); refine with_tabW impl_eliminate.tab15 impl_eliminate.bits15 (fun HT_ HW_ => ?_); generalize w41.drew = w42 at HO_8 HO_900 HL111_0 BK104 HR111_0 HB HL116_0 HR116_0 hx116_0 hHeld ⊢
            refine tgpP 0 65 (tgb 15 1) ?_; refine tgpP 1 66 (tgb 15 3) ?_; refine tgpP 2 67 (tgb 15 7) ?_; refine tgpP 4 69 (tgb 15 23) ?_; refine tgpP 5 70 (tgb 15 55) ?_; refine tgpP 6 71 (tgb 15 119) ?_; refine tgpP 8 73 (tgb 15 375) ?_; refine tgpP 9 74 (tgb 15 887) ?_; refine tgpP 11 76 (tgb 15 2935) ?_; refine take_ (i := 7) (N := some 72) (v := ?_) (a' := ?_) (tgb 15 3063) rfl rfl (take_ofW HT_.out HW_.out (by kernel_rfl)) (fun _ _ _ h => h) (Or.inl ⟨(by rfl), ?_⟩) hHeld ?_ ?_
            rotate_left
            ·intro w' s0
             (try simp only [Go.IntWalk.toNatUp, Int.toNat_natCast] at s0)
             go_simp
             with_reducible rfl
            rotate_left
            ·exact Z41.z0
            refine join_ (σ := Value) 3 (tgb 15 4095) (fun s_ => [(68, s_), (75, .int .i64 t117)]) (fun s_ w' => (w'.cell? (ad111.add ((x8_1.length : Int)).toNat) = some (.slice A116_0 (rd_L2 x900_12 (x8_1.length : Int)).length c116_0)) ∧ (Kd.V (Kd.int .i64) 2 w' w.heap.size (fun k_ => (w.heap.size ≤ k_) ∧ some k_ ≠ (s_ : Value).ownBlock ∧ some k_ ≠ (.slice Ao15 x8_1.length co15 : Value).ownBlock ∧ some k_ ≠ (.slice (some ad111) x900_12.length co17 : Value).ownBlock ∧ k_ ≠ gb104) (.slice (some ad112) (rd_L2 x900_12 (x8_1.length : Int)).length c111_0) (rd_L2 x900_12 (x8_1.length : Int))) ∧ (Kd.V (Kd.int .i64) 2 w' w.heap.size (fun k_ => (w.heap.size ≤ k_) ∧ some k_ ≠ (s_ : Value).ownBlock ∧ some k_ ≠ (.slice Ao15 x8_1.length co15 : Value).ownBlock ∧ some k_ ≠ (.slice (some ad111) x900_12.length co17 : Value).ownBlock ∧ k_ ≠ gb104) (.slice A116_0 (rd_L2 x900_12 (x8_1.length : Int)).length c116_0) (rd_L2 x900_12 (x8_1.length : Int))) ∧ (Kd.R (Kd.int .i64) 2 w' w.heap.size (fun k_ => (w.heap.size ≤ k_) ∧ some k_ ≠ (.slice Ao15 x8_1.length co15 : Value).ownBlock ∧ k_ ≠ gb104) s_ y113) ∧ (Kd.R (Kd.int .i64) 2 w' w.heap.size (fun k_ => (w.heap.size ≤ k_) ∧ some k_ ≠ (s_ : Value).ownBlock ∧ k_ ≠ gb104) (.slice Ao15 x8_1.length co15) x8_1) ∧ (Kd.N (Kd.slice 2 (Kd.int .i64)) 26 w' w.heap.size (fun k_ => (w.heap.size ≤ k_) ∧ some k_ ≠ (s_ : Value).ownBlock ∧ some k_ ≠ (.slice Ao15 x8_1.length co15 : Value).ownBlock ∧ k_ ≠ gb104) (.slice (some ad111) x900_12.length co17) x900_12) ∧ (w'.heap[gb104]? = some (.cells #[.int .i64 x17_1] 2 (0, 0))) ∧ (Below w.heap.size w w')) ?_ ?_
            rotate_left
            ·intro hCont
             refine two_ (i := 3) (j := 10) (Ni := some 68) (Nj := some 75) (tgb 15 3071) (tgb 15 4087) rfl rfl rfl rfl (two_of HT_.out (by kernel_rfl)) (by decide) (by decide) (fun K hK => ?_) (fun K hK => ?_)
             ·skip
              refine Kd.R_make_step (Kd.int .i64) _ 2 (by rfl) (N := 68) rfl 26 _ _ rfl a1 rfl rfl Tryz.underlying26 (.int .i64 0) 8 info2 rfl (by decide) (by omega) 0 (ok := fun _ => True) (okp := fun _ => True) rfl (fun _ hk => hk) trivial (of_decide_eq_true Z41.z2) (Nat.le_trans (Nat.mul_le_mul_right _ (of_decide_eq_true Z41.z2 : a1.toNat ≤ 35184372088832)) (by omega)) (Below.refl _ _) (Nat.le_refl _) ?_
              intro v114 w43 ho44 hb hg_ hnew_
              have HS0_ := (hb.cell (World.block_lt_of_cell? _ _ (hHeld))).trans (hHeld); clear hg_ hnew_
              (first | rw [← Ny113.out] at ho44 | (simp only [Int.reduceToNat] at ho44; rw [← Ny113.out] at ho44))
              have n0_ := tgk (Kd.R_elder' Z41.z4 (Kd.R_base ho44) hb); have n1_ := tgk (Kd.N_elder' Z41.z6 (Kd.R_base ho44) hb); have n2_ := tgk (Kd.V_elder' Z41.z12 (Kd.R_base ho44) hb); have n3_ := tgk (Kd.V_elder' Z41.z11 (Kd.R_base ho44) hb); have n4_ := tgk (Kd.R_lower (Kd.R_newB (Kd.R_new' (Kd.R_newM (M := fun k_ => (w.heap.size ≤ k_)) ho44 (below_size Z41.z1) (fun k_ h_ => h_)) (Kd.R_lt Z41.z4)) (g := gb104) (o := .cells #[.int .i64 x17_1] 2 (0, 0)) Z41.z3) (below_size Z41.z1)); have n5_ := tgk (tgbb BK104 Z41.z3 hb); have n6_ := tgk (Kd.C_below Z41.z9 hb); have n7_ := tgk (Kd.C_below Z41.z15 hb); have n8_ := tgk (below_step Z41.z1 hb); clear HO_8 HO_900 HL111_0 HL116_0 BK104 HR111_0 HR116_0 HB; have HO_8 := n0_; have HO_900 := n1_; have HL111_0 := n2_; have HL116_0 := n3_; have HO115 := n4_; have BK104 := n5_; have HR111_0 := n6_; have HR116_0 := n7_; have HB := n8_; clear n0_ n1_ n2_ n3_ n4_ n5_ n6_ n7_ n8_ hb ho44; refine hK.out _ _ (HS0_) (fun hHeld => ?_); clear hK K; refine tgnm 68 ?_; refine one_ (i := 10) (N := some 75) (tgb 15 4095) rfl rfl (one_of HT_.out (by kernel_rfl)) (by decide) (fun K hK => ?_); refine goes_ Tryz.func74 (by kernel_rfl) rfl #[.int .i64 (rd (rd_L2 x900_12 (x8_1.length : Int)) x17_1), .int .i64 a2] (by rfl) rfl rfl Z41.z7 ?_
              with_reducible refine (impl_inverseOf.calls kj12 (rd (rd_L2 x900_12 (x8_1.length : Int)) x17_1) a2 t117 _ A38.out).mono ?_
              rintro e w' ⟨rfl, ⟨nd, rfl⟩⟩
              refine ⟨_, rfl, ?_⟩; refine hK.out _ _ (hHeld) (fun hHeld => ?_); clear hK K; refine tgnm 75 ?_; exact norm_ (by simp only [putAll, Act.put, List.setIfInBounds_toArray, List.set_cons_zero, List.set_cons_succ]) (hCont (v114) _ ⟨hHeld, Z41.z18, Z41.z17, Z41.z24, Z41.z25, Z41.z21, Z41.z3, Z41.z1⟩)
             skip
             refine goes_ Tryz.func74 (by kernel_rfl) rfl #[.int .i64 (rd (rd_L2 x900_12 (x8_1.length : Int)) x17_1), .int .i64 a2] (by rfl) rfl rfl Z41.z7 ?_
             with_reducible refine (impl_inverseOf.calls kj12 (rd (rd_L2 x900_12 (x8_1.length : Int)) x17_1) a2 t117 _ A38.out).mono ?_
             rintro e w' ⟨rfl, ⟨nd, rfl⟩⟩
             refine ⟨_, rfl, ?_⟩; refine hK.out _ _ (hHeld) (fun hHeld => ?_); clear hK K; refine tgnm 75 ?_; refine one_ (i := 3) (N := some 68) (tgb 15 4095) rfl rfl (one_of HT_.out (by kernel_rfl)) (by decide) (fun K hK => ?_); refine Kd.R_make_step (Kd.int .i64) _ 2 (by rfl) (N := 68) rfl 26 _ _ rfl a1 rfl rfl Tryz.underlying26 (.int .i64 0) 8 info2 rfl (by decide) (by omega) 0 (ok := fun _ => True) (okp := fun _ => True) rfl (fun _ hk => hk) trivial (of_decide_eq_true Z41.z2) (Nat.le_trans (Nat.mul_le_mul_right _ (of_decide_eq_true Z41.z2 : a1.toNat ≤ 35184372088832)) (by omega)) (Below.refl _ _) (Nat.le_refl _) ?_
             intro v114 w43 ho44 hb hg_ hnew_
             have HS0_ := (hb.cell (World.block_lt_of_cell? _ _ (hHeld))).trans (hHeld); clear hg_ hnew_
             (first | rw [← Ny113.out] at ho44 | (simp only [Int.reduceToNat] at ho44; rw [← Ny113.out] at ho44))
             have n0_ := tgk (Kd.R_elder' Z41.z4 (Kd.R_base ho44) hb); have n1_ := tgk (Kd.N_elder' Z41.z6 (Kd.R_base ho44) hb); have n2_ := tgk (Kd.V_elder' Z41.z12 (Kd.R_base ho44) hb); have n3_ := tgk (Kd.V_elder' Z41.z11 (Kd.R_base ho44) hb); have n4_ := tgk (Kd.R_lower (Kd.R_newB (Kd.R_new' (Kd.R_newM (M := fun k_ => (w.heap.size ≤ k_)) ho44 (below_size Z41.z1) (fun k_ h_ => h_)) (Kd.R_lt Z41.z4)) (g := gb104) (o := .cells #[.int .i64 x17_1] 2 (0, 0)) Z41.z3) (below_size Z41.z1)); have n5_ := tgk (tgbb BK104 Z41.z3 hb); have n6_ := tgk (Kd.C_below Z41.z9 hb); have n7_ := tgk (Kd.C_below Z41.z15 hb); have n8_ := tgk (below_step Z41.z1 hb); clear HO_8 HO_900 HL111_0 HL116_0 BK104 HR111_0 HR116_0 HB; have HO_8 := n0_; have HO_900 := n1_; have HL111_0 := n2_; have HL116_0 := n3_; have HO115 := n4_; have BK104 := n5_; have HR111_0 := n6_; have HR116_0 := n7_; have HB := n8_; clear n0_ n1_ n2_ n3_ n4_ n5_ n6_ n7_ n8_ hb ho44; refine hK.out _ _ (HS0_) (fun hHeld => ?_); clear hK K; refine tgnm 68 ?_; exact norm_ (by simp only [putAll, Act.put, List.setIfInBounds_toArray, List.set_cons_zero, List.set_cons_succ]) (hCont (v114) _ ⟨hHeld, Z41.z18, Z41.z17, Z41.z24, Z41.z25, Z41.z21, Z41.z3, Z41.z1⟩)
            rintro v114 w45 ⟨hS_, h0_, h1_, h2_, h3_, h4_, h5_, h6_⟩
            have n0_ : Aside0 (Kd.V (Kd.int .i64) 2 w45 w.heap.size (fun k_ => (w.heap.size ≤ k_) ∧ some k_ ≠ (v114 : Value).ownBlock ∧ some k_ ≠ (.slice Ao15 x8_1.length co15 : Value).ownBlock ∧ some k_ ≠ (.slice (some ad111) x900_12.length co17 : Value).ownBlock ∧ k_ ≠ gb104) (.slice (some ad112) (rd_L2 x900_12 (x8_1.length : Int)).length c111_0) (rd_L2 x900_12 (x8_1.length : Int))) := ⟨h0_⟩; have n1_ : Aside0 (Kd.V (Kd.int .i64) 2 w45 w.heap.size (fun k_ => (w.heap.size ≤ k_) ∧ some k_ ≠ (v114 : Value).ownBlock ∧ some k_ ≠ (.slice Ao15 x8_1.length co15 : Value).ownBlock ∧ some k_ ≠ (.slice (some ad111) x900_12.length co17 : Value).ownBlock ∧ k_ ≠ gb104) (.slice A116_0 (rd_L2 x900_12 (x8_1.length : Int)).length c116_0) (rd_L2 x900_12 (x8_1.length : Int))) := ⟨h1_⟩; have n2_ : Aside0 (Kd.R (Kd.int .i64) 2 w45 w.heap.size (fun k_ => (w.heap.size ≤ k_) ∧ some k_ ≠ (.slice Ao15 x8_1.length co15 : Value).ownBlock ∧ k_ ≠ gb104) v114 y113) := ⟨h2_⟩; have n3_ : Aside0 (Kd.R (Kd.int .i64) 2 w45 w.heap.size (fun k_ => (w.heap.size ≤ k_) ∧ some k_ ≠ (v114 : Value).ownBlock ∧ k_ ≠ gb104) (.slice Ao15 x8_1.length co15) x8_1) := ⟨h3_⟩; have n4_ : Aside0 (Kd.N (Kd.slice 2 (Kd.int .i64)) 26 w45 w.heap.size (fun k_ => (w.heap.size ≤ k_) ∧ some k_ ≠ (v114 : Value).ownBlock ∧ some k_ ≠ (.slice Ao15 x8_1.length co15 : Value).ownBlock ∧ k_ ≠ gb104) (.slice (some ad111) x900_12.length co17) x900_12) := ⟨h4_⟩; have n5_ : Aside0 (w45.heap[gb104]? = some (.cells #[.int .i64 x17_1] 2 (0, 0))) := ⟨h5_⟩; have n6_ : Aside0 (Below w.heap.size w w45) := ⟨h6_⟩; clear HO_8 HO_900 HL111_0 BK104 HR111_0 HB h0_ h1_ h2_ h3_ h4_ h5_ h6_; have HL111_0 := n0_; have HL116_0 := n1_; have HO115 := n2_; have HO_8 := n3_; have HO_900 := n4_; have BK104 := n5_; have HB := n6_; clear n0_ n1_ n2_ n3_ n4_ n5_ n6_; have hHeld : w45.cell? (ad111.add ((x8_1.length : Int)).toNat) = some (.slice A116_0 (rd_L2 x900_12 (x8_1.length : Int)).length c116_0) := hS_; obtain ⟨Ao46, co46, eo46⟩ := Kd.R_slice HO115.out
            (first | subst eo46 | (injection eo46 with f1_ f2_ f3_; have f4_ := f1_.symm; have f5_ := f3_.symm; clear f1_ f2_ f3_; subst f4_; subst f5_))
            refine norm_ (a' := ?_) ?_ ?_
            rotate_left
            ·simp only [putAll, Act.put, List.setIfInBounds_toArray, List.set_cons_zero, List.set_cons_succ]
             rfl
            refine one_ (i := 12) (N := some 77) (tgb 15 8191) rfl rfl (one_of HT_.out (by kernel_rfl)) (by decide) (fun K hK => ?_); refine goes_ Tryz.func68 (by kernel_rfl) rfl #[.slice Ao46 y113.length co46, .slice A116_0 (rd_L2 x900_12 (x8_1.length : Int)).length c116_0, .int .i64 t117, .int .i64 a2] (by rfl) rfl rfl Z41.z7 ?_
            with_reducible refine (impl_addTimes.calls kj12 _ _ y113 _ _ (rd_L2 x900_12 (x8_1.length : Int)) t117 a2 t118 _ ?side1 ?side2 ?side3 ?side4 A39.out).mono ?_
            (case side1 => exact (by repeat (first | exact (Kd.R_reads' HO115.out).2.2 | (with_reducible refine Kd.C_alloc ?_ _) | (with_reducible refine Kd.C_drewN ?_ _) | (with_reducible refine Kd.C_drew ?_))))
            (case side2 => exact (Kd.R_reads' HO115.out).2.1)
            (case side3 => exact (by repeat (first | exact ((Kd.V_reads' Z41.z11).2.2) | (with_reducible refine Kd.C_alloc ?_ _) | (with_reducible refine Kd.C_drewN ?_ _) | (with_reducible refine Kd.C_drew ?_))))
            (case side4 => exact HC116_0.out)
            rintro e w47 ⟨v119, rfl, ho0, hb⟩
            obtain ⟨Av119, cv119, ev119⟩ := Kd.R_slice ho0; subst ev119; have HS0_ := (hb.cell (World.block_lt_of_cell? _ _ (hHeld))).trans (hHeld); refine ⟨_, rfl, ?_⟩; have HO120 := tgk (Kd.R_lower (Kd.R_newB (Kd.R_new' (Kd.R_new' (Kd.R_newM (M := fun k_ => (w.heap.size ≤ k_)) ho0 (below_size Z41.z1) (fun k_ h_ => h_)) (Kd.R_lt Z41.z4)) (Kd.R_lt (tgR HO115.out))) (g := gb104) (o := .cells #[.int .i64 x17_1] 2 (0, 0)) Z41.z3) (below_size Z41.z1)); replace HO_8 := tgk (Kd.R_elder' Z41.z4 (Kd.R_base ho0) hb); replace HO_900 := tgk (Kd.N_elder' Z41.z6 (Kd.R_base ho0) hb); replace HL111_0 := tgk (Kd.V_elder' Z41.z12 (Kd.R_base ho0) hb); replace HL116_0 := tgk (Kd.V_elder' Z41.z11 (Kd.R_base ho0) hb); replace HO115 := tgk (Kd.R_elder' (tgR HO115.out) (Kd.R_base ho0) hb); replace BK104 := tgk (tgbb BK104 Z41.z3 hb); replace HB := tgk (below_step Z41.z1 hb); (try clear hb); (try clear hb2); (try clear hk); (try clear hi); (try clear ho0); have p40 : 0 ≤ ((x8_1.length : Int) : Int) := of_decide_eq_true Z41.z2; have q40 : ((x8_1.length : Int) : Int) < ((x900_12.length : Int) : Int) := of_decide_eq_true Z41.z2; obtain ⟨go40, co40, eo40, gb40, gl40, cl40, HG40⟩ := Kd.N_form HO_900.out (by omega)
            (first | cases eo40 | (injection eo40 with ea_ en_ ec_; (first | subst ea_ | (injection ea_ with ea_; subst ea_)); subst ec_; clear en_))
            have GB40 := tgk gb40; have GG40 := tgk HG40; clear gb40 gl40 HG40
            (first | simp only [add_plain] at hx111_0 | skip)
            (first | simp only [add_plain] at hx116_0 | skip)
            obtain ⟨ce40, hcl40, hM40, hcc40, hfr40⟩ := Kd.N_elem HO_900.out [] ((x8_1.length : Int) : Int) p40 q40; obtain ⟨ua40_0, uc40_0, rfl, ul40_0, ge40_0⟩ := Kd.FK_slice_open hM40; have hx40_0 := hcc40 0 _ rfl; have hf40_0 := hfr40 0
            (try simp only [show ((Kd.slice 2 (Kd.int .i64))).sz = 1 from rfl, Nat.mul_one, Nat.add_zero] at hx40_0)
            (try simp only [show ((Kd.slice 2 (Kd.int .i64))).sz = 1 from rfl, Nat.mul_one, Nat.add_zero] at hf40_0)
            clear hcl40 hcc40 hfr40 hM40; replace p40 := eq_true p40; replace q40 := eq_true q40; have HX48 := tgk (show Kd.N (Kd.slice 2 (Kd.int .i64)) 26 _ w.heap.size (fun k_ => (w.heap.size ≤ k_) ∧ some k_ ≠ (.slice Ao15 x8_1.length co15 : Value).ownBlock ∧ some k_ ≠ (.slice Ao46 y113.length co46 : Value).ownBlock ∧ some k_ ≠ ((.slice Av119 t118.length cv119) : Value).ownBlock ∧ k_ ≠ gb104) (.slice (some ⟨go40, 0, none⟩) x900_12.length co17) x900_12 from (Kd.N_mono (HO_900.out) (fun k_ hk => ⟨hk.1.1, ⟨hk.1.2.2.1, ⟨hk.1.2.1, ⟨hk.2, hk.1.2.2.2⟩⟩⟩⟩))); replace HX48 := tgk (show Kd.N (Kd.slice 2 (Kd.int .i64)) 26 _ w.heap.size (fun k_ => (w.heap.size ≤ k_) ∧ some k_ ≠ (.slice Ao15 x8_1.length co15 : Value).ownBlock ∧ some k_ ≠ (.slice Ao46 y113.length co46 : Value).ownBlock ∧ k_ ≠ gb104) (.slice (some ⟨go40, 0, none⟩) x900_12.length co17) x900_12 from Kd.N_mono HX48.out (fun k_ hk => ⟨hk.1, ⟨hk.2.1, ⟨hk.2.2.1, hk.2.2.2.2⟩⟩⟩)); obtain ⟨ce48, hcl48, hM48, hcc48, hfr48⟩ := Kd.N_elem HX48.out [] ((x8_1.length : Int) : Int) (of_decide_eq_true Z41.z2) (by have h_ : ((x8_1.length : Int) : Int) < ((x900_12.length : Int) : Int) := of_decide_eq_true Z41.z2; first | exact h_ | (have e_ := (Kd.N_reads' HO_900.out).1; omega) | simpa using h_); obtain ⟨ua48_0, uc48_0, rfl, ul48_0, ge48_0⟩ := Kd.FK_slice_open hM48; have HP48 := (Kd.N_seg HX48.out ((x8_1.length : Int) : Int) (of_decide_eq_true Z41.z2) (by have h_ : ((x8_1.length : Int) : Int) < ((x900_12.length : Int) : Int) := of_decide_eq_true Z41.z2; first | exact h_ | (have e_ := (Kd.N_reads' HO_900.out).1; omega) | simpa using h_) (seg := [(.slice Av119 t118.length cv119)]) (j := 0) hcl48 hcc48 (show 1 ≤ 1 from by decide) (x' := t118) (impl_eliminate.fk_row (Kd.R_mono (ok' := (fun k_ => ((fun k_ => (w.heap.size ≤ k_) ∧ some k_ ≠ (.slice Ao15 x8_1.length co15 : Value).ownBlock ∧ some k_ ≠ (.slice Ao46 y113.length co46 : Value).ownBlock ∧ k_ ≠ gb104)) k_ ∧ k_ ≠ go40)) (Kd.R_apart' (HO120.out) (Kd.N_typed HO_900.out) (by decide)) (fun k_ hk => ⟨⟨hk.1.1.1.1.1, ⟨hk.1.1.1.2, ⟨hk.1.1.2, hk.1.2⟩⟩⟩, fun e_ => (hk.2) (by rw [e_]; rfl)⟩))) (fun _ hk => hk)).1
            (try simp only [show ((Kd.slice 2 (Kd.int .i64))).sz = 1 from rfl, Nat.mul_one, Nat.add_zero] at HP48)
            rw [← Ny121.out] at HP48; have HQ48 := tgk HP48; clear hcl48 hcc48 hfr48 hM48 HP48; refine hK.out _ _ (HS0_) (fun hHeld => ?_); clear hK K; refine tgnm 77 ?_; refine tgpP 13 78 (tgb 15 16383) ?_; refine last_ (i := 14) (N := none) (tgb 15 32767) rfl rfl (one_of HT_.out (by kernel_rfl)) (by decide) (fun K hK => ?_)
            (try simp only [Go.IntWalk.toNatUp, Int.toNat_natCast] at hx40_0)
            (try simp only [Go.IntWalk.toNatUp, Int.toNat_natCast] at hf40_0)
            refine skip_ (w1 := ?_) (by rfl) rfl ?_ ?_
            rotate_left
            ·go_simp
             rfl
            refine hK.out _ _ ?_; clear hK K; refine done_ (done_of HT_.out (by kernel_rfl)) ?_
            try go_wp2
            go_loopg [81] kj12 (fun kq v81 w' => ∃ (x81_3 : Int) (x900_3 : List (List Int)), v81 = .int .i64 x81_3 ∧ Aside0 (impl_eliminate.l1 kq a1 a2 x8_1 (Int.tmod (wrap64 (x9_12 * (rd (rd_L2 x900_12 (x8_1.length : Int)) x17_1))) a2) (x8_1.length : Int) a1 x17_1 (x900_12.length : Int) x81_3 x900_3 x17_1 = some (r1, r2, r3)) ∧ Aside0 (kq ≤ kj12) ∧ Aside0 (Kd.R (Kd.int .i64) 2 w' w.heap.size (fun k_ => (w.heap.size ≤ k_) ∧ k_ ≠ gb104) (.slice Ao15 x8_1.length co15) x8_1) ∧ Aside0 (Kd.N (Kd.slice 2 (Kd.int .i64)) 26 w' w.heap.size (fun k_ => (w.heap.size ≤ k_) ∧ some k_ ≠ ((.slice Ao15 x8_1.length co15) : Value).ownBlock ∧ k_ ≠ gb104) (.slice (some ⟨go40, 0, none⟩) x900_12.length co17) x900_3) ∧ Aside0 (w'.heap[gb104]? = some (.cells #[.int .i64 x17_1] 2 (0, 0))) ∧ Aside0 (Below w.heap.size w w'))
            case atStart => exact ⟨(0), (y121), Z41.z10, H', ⟨Nat.le_refl _⟩, ⟨(by (try simp only [hl900_12]); (with_reducible repeat (first | apply Kd.R_alloc | apply Kd.R_drewN | apply Kd.R_drew)); exact Kd.R_mono (Kd.R_far (p := ⟨go40, ((x8_1.length : Int) : Int).toNat, none⟩) (Kd.R_types HO_8.out (Kd.N_typed HO_900.out _ rfl).choose_spec (by decide)) (fun _ hk => hk.2) ((.slice Av119 t118.length cv119))) (fun _ hk => ⟨hk.1.1.1, hk.1.1.2.2⟩))⟩, ⟨(by (try simp only [hl900_12]); (with_reducible repeat (first | apply Kd.N_alloc | apply Kd.N_drewN | apply Kd.N_drew)); exact Kd.N_mono HQ48.out (fun _ hk => ⟨hk.1, ⟨hk.2.1, hk.2.2.2⟩⟩))⟩, ⟨(by (try simp only [hl900_12]); (with_reducible repeat (first | refine blk_drewN ?_ _ | refine blk_drew ?_ | refine blk_alloc ?_ _)); refine blk_far ?_ (by have h_ := Kd.N_ne HO_900.out BK104.out (by decide); intro e_; exact h_ (by rw [e_]; rfl)) _; (with_reducible repeat (first | refine blk_drewN ?_ _ | refine blk_drew ?_ | refine blk_alloc ?_ _)); exact BK104.out)⟩, ⟨Z41.z13⟩⟩
            case round =>
             clear H'; (try clear c1); (try clear p1); (try clear q1); (try clear hx1); (try clear c2); (try clear p2); (try clear q2); (try clear hx2); (try clear c3); (try clear c4); (try clear p4); (try clear q4); (try clear hx4); (try clear hf4); (try clear c6); (try clear c6b0); (try clear p6); (try clear c7); (try clear c8); (try clear c8b0); (try clear c10); (try clear p10); (try clear q10); (try clear hx10); (try clear c11); (try clear p11); (try clear q11); (try clear hx11); (try clear c18); (try clear c18b0); (try clear c20); (try clear c20b0); (try clear c21); (try clear c21b0); (try clear c22); (try clear c22b0); (try clear c22b1); (try clear c23); (try clear c23b0); (try clear c23b1); (try clear c24); (try clear p24); (try clear q24); (try clear hx24); (try clear hf24); (try clear c25); (try clear p25); (try clear q25); (try clear hx25); (try clear hf25); (try clear c27); (try clear hx27); (try clear hf27); (try clear c29); (try clear hx29); (try clear hf29); (try clear c31); (try clear c31b0); (try clear c31b1); (try clear c32); (try clear c32b0); (try clear c32b1); (try clear c33); (try clear c33b0); (try clear c34); (try clear c34b0); (try clear c35); (try clear c35b0); (try clear c35b1); (try clear c36); (try clear c36b0); (try clear c36b1); (try clear c37); (try clear c37b0); (try clear c37b1); (try clear c40); (try clear p40); (try clear q40); (try clear hx40); (try clear hf40); (try clear c48); (try clear hcz11_0); (try clear hcz16_0); (try clear hfz11_0); (try clear hfz16_0); (try clear hx106_0); (try clear hx107_0); (try clear hx111_0); (try clear hx112_0); (try clear hx116_0); (try clear hx24_0); (try clear hx25_0); (try clear hx27_0); (try clear hx29_0); (try clear hx40_0); (try clear p10); (try clear p106); (try clear p107); (try clear p111); (try clear p112); (try clear p116); (try clear p2); (try clear p24); (try clear p25); (try clear p40); (try clear p6); (try clear q10); (try clear q106); (try clear q107); (try clear q111); (try clear q112); (try clear q116); (try clear q2); (try clear q24); (try clear q25); (try clear q40); obtain ⟨x81_3, x900_3, rfl, HA, HK3, HO_8, HO_900, BK104, HB⟩ := hrel; have hl900_3 := (Kd.N_reads' HO_900.out).1; rw [hl900_3] at HO_900
             (try simp only [hl900_3])
             (try simp only [hl900_3] at BK104)
             (try simp only [hl900_3] at HO_8)
             cases gk with
             | zero => exact absurd HA.out (by simp [impl_eliminate.l1])
             | succ k3 =>
              have H := HA.out
              clear HA; simp only [impl_eliminate.l1] at H
              by_cases c49 : x81_3 < (x900_12.length : Int)
              ·rw [if_pos c49] at H
               have c49b0 := decide_eq_true c49; clear c49
               by_cases c50 : 0 ≤ x81_3
               ·rw [if_pos c50] at H
                have c50b0 := decide_eq_true c50; clear c50
                by_cases c51 : x81_3 < (x900_3.length : Int)
                ·rw [if_pos c51] at H
                 have c51b0 := decide_eq_true c51; clear c51
                 by_cases c52 : x81_3 = (x8_1.length : Int)
                 ·rw [if_pos c52] at H
                  obtain ⟨c52b0, c52b1⟩ := tge c52; clear c52; have H' := tgk H; clear H; have p122 : 0 ≤ (x81_3 : Int) := of_decide_eq_true Z41.z2; have q122 : x81_3 < (x900_3.length : Int) := of_decide_eq_true Z41.z2; obtain ⟨ad122, A122_0, c122_0, e122, hx122_0, hl122_0, hi122_0⟩ := at_L2 (Kd.N_reads' HO_900.out).2.2 x81_3 p122 q122; obtain rfl : (⟨go40, 0, none⟩ : Addr) = ad122 := (by injection e122); obtain ⟨ce122, hce122, hMe122, hcc122⟩ := Kd.N_get HO_900.out [] x81_3 p122 Z41.z16; obtain ⟨ua122_0, uc122_0, rfl, ul122_0, ge122_0⟩ := Kd.FK_slice_open hMe122; have hv122_0 := hcc122 0 _ rfl; rw [Nat.add_zero, show ((Kd.slice 2 (Kd.int .i64))).sz = 1 from rfl, Nat.mul_one] at hv122_0; replace hv122_0 := Option.some.inj (hv122_0.symm.trans hx122_0); injection hv122_0 with hva_ hvn_ hvc_; rw [hva_] at ge122_0; rw [hvc_] at ul122_0; have HL122_0 := tgk (show Kd.V (Kd.int .i64) 2 _ w.heap.size _ _ (rd_L2 x900_3 x81_3) from Kd.V_mk ul122_0 ge122_0); clear hva_ hvn_ hvc_ ge122_0 ul122_0 hcc122 hce122
                  (first | simp only [add_plain] at hx122_0 | simp only [add_at] at hx122_0 | simp only [Addr.add, Nat.zero_add] at hx122_0 | skip)
                  have HR122_0 := tgk hi122_0; have HC122_0 := tgk hl122_0; clear hi122_0 hl122_0; replace p122 := eq_true p122; replace q122 := eq_true q122
                  go_wp2
                  (try simp only [← hl900_3])
                  go_roundg k3
                  case measure => have := HK1.out; have := HJ12.out; have := HK3.out; omega
                  case rel => exact ⟨(wrap64 (x81_3 + 1)), (x900_3), Z41.z10, H', ⟨Z41.z26⟩, ⟨Z41.z23⟩, ⟨Z41.z22⟩, ⟨Z41.z20⟩, ⟨Z41.z1⟩⟩
                 rw [if_neg c52] at H; obtain ⟨c52b0, c52b1⟩ := tgn c52
                 by_cases c53 : 0 ≤ x17_1
                 ·rw [if_pos c53] at H
                  have c53b0 := decide_eq_true c53; clear c53
                  by_cases c54 : x17_1 < ((rd_L2 x900_3 x81_3).length : Int)
                  ·rw [if_pos c54] at H
                   have c54b0 := decide_eq_true c54; clear c54
                   by_cases c55 : (rd (rd_L2 x900_3 x81_3) x17_1) = 0
                   ·rw [if_pos c55] at H
                    obtain ⟨c55b0, c55b1⟩ := tge c55; clear c55; have H' := tgk H; clear H; have p122 : 0 ≤ (x81_3 : Int) := of_decide_eq_true Z41.z2; have q122 : x81_3 < (x900_3.length : Int) := of_decide_eq_true Z41.z2; obtain ⟨ad122, A122_0, c122_0, e122, hx122_0, hl122_0, hi122_0⟩ := at_L2 (Kd.N_reads' HO_900.out).2.2 x81_3 p122 q122; obtain rfl : (⟨go40, 0, none⟩ : Addr) = ad122 := (by injection e122); obtain ⟨ce122, hce122, hMe122, hcc122⟩ := Kd.N_get HO_900.out [] x81_3 p122 Z41.z16; obtain ⟨ua122_0, uc122_0, rfl, ul122_0, ge122_0⟩ := Kd.FK_slice_open hMe122; have hv122_0 := hcc122 0 _ rfl; rw [Nat.add_zero, show ((Kd.slice 2 (Kd.int .i64))).sz = 1 from rfl, Nat.mul_one] at hv122_0; replace hv122_0 := Option.some.inj (hv122_0.symm.trans hx122_0); injection hv122_0 with hva_ hvn_ hvc_; rw [hva_] at ge122_0; rw [hvc_] at ul122_0; have HL122_0 := tgk (show Kd.V (Kd.int .i64) 2 _ w.heap.size _ _ (rd_L2 x900_3 x81_3) from Kd.V_mk ul122_0 ge122_0); clear hva_ hvn_ hvc_ ge122_0 ul122_0 hcc122 hce122
                    (first | simp only [add_plain] at hx122_0 | simp only [add_at] at hx122_0 | simp only [Addr.add, Nat.zero_add] at hx122_0 | skip)
                    have HR122_0 := tgk hi122_0; have HC122_0 := tgk hl122_0; clear hi122_0 hl122_0; replace p122 := eq_true p122; replace q122 := eq_true q122; obtain ⟨hcz56_0, hfz56_0⟩ := cells1 BK104.out; have p123 : 0 ≤ (x17_1 : Int) := of_decide_eq_true Z41.z2; have q123 : x17_1 < ((rd_L2 x900_3 x81_3).length : Int) := of_decide_eq_true Z41.z2; obtain ⟨ad123, e123, hx123_0⟩ := Kd.at_int Z41.z8 x17_1 p123 q123; cases e123; replace p123 := eq_true p123; replace q123 := eq_true q123
                    go_wp2
                    (try simp only [← hl900_3])
                    go_roundg k3
                    case measure => have := HK1.out; have := HJ12.out; have := HK3.out; omega
                    case rel => exact ⟨(wrap64 (x81_3 + 1)), (x900_3), Z41.z10, H', ⟨Z41.z26⟩, ⟨Z41.z23⟩, ⟨Z41.z22⟩, ⟨Z41.z20⟩, ⟨Z41.z1⟩⟩
                   rw [if_neg c55] at H; obtain ⟨c55b0, c55b1⟩ := tgn c55
                   by_cases c57 : 0 ≤ (x8_1.length : Int)
                   ·rw [if_pos c57] at H
                    have c57b0 := decide_eq_true c57; have c57b1 : decide (0 ≤ x8_1.length) = true := decide_eq_true (by omega); clear c57
                    by_cases c58 : (x8_1.length : Int) < (x900_3.length : Int)
                    ·rw [if_pos c58] at H
                     have c58b0 := decide_eq_true c58; have c58b1 : decide (x8_1.length < x900_3.length) = true := decide_eq_true (Int.ofNat_lt.mp c58); clear c58; obtain ⟨t126, A59, H⟩ := tgbd H
                     (try dsimp only at H)
                     obtain ⟨y129, hy129⟩ : ∃ y_ : List (List Int), y_ = (x900_3.set (x81_3 : Int).toNat t126) := ⟨_, rfl⟩; replace H : (impl_eliminate.l1 k3 a1 a2 x8_1 (Int.tmod (wrap64 (x9_12 * (rd (rd_L2 x900_12 (x8_1.length : Int)) x17_1))) a2) (x8_1.length : Int) a1 x17_1 (x900_12.length : Int) (wrap64 (x81_3 + 1)) y129 x17_1) = some (r1, r2, r3) := by first | (rw [hy129]; with_reducible exact H) | (have H2_ := (Option.bind_some _ _).symm.trans H; rw [hy129]; with_reducible exact H2_) | (have H2_ := (Option.bind_some _ _).symm.trans H; with_reducible exact H2_) | with_reducible exact H | (rw [hy129]; exact H) | exact H
                     have Ny129 := tgk hy129; clear hy129; have H' := tgk H; clear H; have p122 : 0 ≤ (x81_3 : Int) := of_decide_eq_true Z41.z2; have q122 : x81_3 < (x900_3.length : Int) := of_decide_eq_true Z41.z2; obtain ⟨ad122, A122_0, c122_0, e122, hx122_0, hl122_0, hi122_0⟩ := at_L2 (Kd.N_reads' HO_900.out).2.2 x81_3 p122 q122; obtain rfl : (⟨go40, 0, none⟩ : Addr) = ad122 := (by injection e122); obtain ⟨ce122, hce122, hMe122, hcc122⟩ := Kd.N_get HO_900.out [] x81_3 p122 Z41.z16; obtain ⟨ua122_0, uc122_0, rfl, ul122_0, ge122_0⟩ := Kd.FK_slice_open hMe122; have hv122_0 := hcc122 0 _ rfl; rw [Nat.add_zero, show ((Kd.slice 2 (Kd.int .i64))).sz = 1 from rfl, Nat.mul_one] at hv122_0; replace hv122_0 := Option.some.inj (hv122_0.symm.trans hx122_0); injection hv122_0 with hva_ hvn_ hvc_; rw [hva_] at ge122_0; rw [hvc_] at ul122_0; have HL122_0 := tgk (show Kd.V (Kd.int .i64) 2 _ w.heap.size _ _ (rd_L2 x900_3 x81_3) from Kd.V_mk ul122_0 ge122_0); clear hva_ hvn_ hvc_ ge122_0 ul122_0 hcc122 hce122
                     (first | simp only [add_plain] at hx122_0 | simp only [add_at] at hx122_0 | simp only [Addr.add, Nat.zero_add] at hx122_0 | skip)
                     have HR122_0 := tgk hi122_0; have HC122_0 := tgk hl122_0; clear hi122_0 hl122_0; replace p122 := eq_true p122; replace q122 := eq_true q122; obtain ⟨hcz61_0, hfz61_0⟩ := cells1 BK104.out; have p123 : 0 ≤ (x17_1 : Int) := of_decide_eq_true Z41.z2; have q123 : x17_1 < ((rd_L2 x900_3 x81_3).length : Int) := of_decide_eq_true Z41.z2; obtain ⟨ad123, e123, hx123_0⟩ := Kd.at_int Z41.z8 x17_1 p123 q123; cases e123; replace p123 := eq_true p123; replace q123 := eq_true q123
                     try go_wp2
                     replace HO_8 := tgk (Kd.R_drew HO_8.out); replace HO_900 := tgk (Kd.N_drew HO_900.out); replace HL122_0 := tgk (Kd.V_drew HL122_0.out); replace BK104 := tgk (blk_drew BK104.out); replace HR122_0 := tgk (Kd.C_drew HR122_0.out); replace HB := tgk (below_drew1 HB.out); have p124 : 0 ≤ ((x8_1.length : Int) : Int) := of_decide_eq_true Z41.z2; have q124 : (x8_1.length : Int) < (x900_3.length : Int) := of_decide_eq_true Z41.z2; obtain ⟨ad124, A124_0, c124_0, e124, hx124_0, hl124_0, hi124_0⟩ := at_L2 (Kd.N_reads' HO_900.out).2.2 (x8_1.length : Int) p124 q124; obtain rfl : (⟨go40, 0, none⟩ : Addr) = ad124 := (by injection e124); obtain ⟨ce124, hce124, hMe124, hcc124⟩ := Kd.N_get HO_900.out [] (x8_1.length : Int) p124 (by first | exact q124 | exact of_decide_eq_true Z41.z2 | (have e_ := (Kd.N_reads' HO_900.out).1; omega)); obtain ⟨ua124_0, uc124_0, rfl, ul124_0, ge124_0⟩ := Kd.FK_slice_open hMe124; have hv124_0 := hcc124 0 _ rfl; rw [Nat.add_zero, show ((Kd.slice 2 (Kd.int .i64))).sz = 1 from rfl, Nat.mul_one] at hv124_0; replace hv124_0 := Option.some.inj (hv124_0.symm.trans hx124_0); injection hv124_0 with hva_ hvn_ hvc_; rw [hva_] at ge124_0; rw [hvc_] at ul124_0; have HL124_0 := tgk (show Kd.V (Kd.int .i64) 2 _ w.heap.size _ _ (rd_L2 x900_3 (x8_1.length : Int)) from Kd.V_mk ul124_0 ge124_0); clear hva_ hvn_ hvc_ ge124_0 ul124_0 hcc124 hce124
                     (first | simp only [add_plain] at hx124_0 | simp only [add_at] at hx124_0 | simp only [Addr.add, Nat.zero_add] at hx124_0 | skip)
                     have HR124_0 := tgk hi124_0; have HC124_0 := tgk hl124_0; clear hi124_0 hl124_0
                     (try simp only [Go.IntWalk.toNatUp] at hx124_0)
                     (try simp only [hl900_12, hl900_3] at p124)
                     (try simp only [hl900_12, hl900_3] at q124)
                     (try simp only [hl900_12, hl900_3] at hx124_0)
                     replace p124 := eq_true p124; replace q124 := eq_true q124; have p125 : 0 ≤ (x17_1 : Int) := of_decide_eq_true Z41.z2; have q125 : x17_1 < ((rd_L2 x900_3 x81_3).length : Int) := of_decide_eq_true Z41.z2; obtain ⟨ad125, e125, hx125_0⟩ := Kd.at_int Z41.z8 x17_1 p125 q125; obtain rfl : ad123 = ad125 := (by injection e125); replace p125 := eq_true p125; replace q125 := eq_true q125; refine start_ (n := 17) (S := fun w' => w'.cell? ⟨gb104, 0, none⟩ = some (.int .i64 x17_1) ∧ w'.cell? ⟨go40, ((x8_1.length : Int)).toNat, none⟩ = some (.slice A124_0 (rd_L2 x900_3 (x8_1.length : Int)).length c124_0) ∧ w'.cell? (ad123.add (x17_1).toNat) = some (.int .i64 (rd (rd_L2 x900_3 x81_3) x17_1))) (ds := [16]) #[false, false, false, false, false, false, false, false, false, false, false, false, false, false, false, false, false] (by kernel_rfl) rfl rfl ⟨(blk_cell BK104.out 0).trans rfl, hx124_0, hx125_0⟩ (fun hHeld => ?_); refine with_tabW impl_eliminate.tab20 impl_eliminate.bits20 (fun HT_ HW_ => ?_); generalize wr.drew = w62 at HO_8 HO_900 HL122_0 BK104 HR122_0 HB HL124_0 HR124_0 hx124_0 hx125_0 hHeld ⊢
                     refine tgpP 0 96 (tgb 17 1) ?_; refine tgpP 1 97 (tgb 17 3) ?_; refine tgpP 2 98 (tgb 17 7) ?_; refine tgpP 3 99 (tgb 17 15) ?_; refine tgpP 4 100 (tgb 17 31) ?_; refine tgpP 5 101 (tgb 17 63) ?_; refine tgpP 7 103 (tgb 17 191) ?_; refine tgpP 8 104 (tgb 17 447) ?_; refine tgpP 13 109 (tgb 17 8639) ?_; refine take_ (i := 6) (N := some 102) (v := ?_) (a' := ?_) (tgb 17 8703) rfl rfl (take_ofW HT_.out HW_.out (by kernel_rfl)) (fun _ _ _ h => h) (Or.inl ⟨(by rfl), ?_⟩) hHeld ?_ ?_
                     rotate_left
                     ·rintro w' ⟨s0, s1, s2⟩
                      (try simp only [Go.IntWalk.toNatUp, Int.toNat_natCast] at s0)
                      (try simp only [Go.IntWalk.toNatUp, Int.toNat_natCast] at s1)
                      (try simp only [Go.IntWalk.toNatUp, Int.toNat_natCast] at s2)
                      go_simp
                      with_reducible rfl
                     rotate_left
                     ·exact Z41.z0
                     refine take_ (i := 9) (N := some 105) (v := ?_) (a' := ?_) (tgb 17 9215) rfl rfl (take_ofW HT_.out HW_.out (by kernel_rfl)) (fun _ _ _ h => h) (Or.inl ⟨(by rfl), ?_⟩) hHeld ?_ ?_
                     rotate_left
                     ·rintro w' ⟨s0, s1, s2⟩
                      (try simp only [Go.IntWalk.toNatUp, Int.toNat_natCast] at s0)
                      (try simp only [Go.IntWalk.toNatUp, Int.toNat_natCast] at s1)
                      (try simp only [Go.IntWalk.toNatUp, Int.toNat_natCast] at s2)
                      go_simp
                      with_reducible rfl
                     rotate_left
                     ·exact Z41.z0
                     refine tgpP 10 106 (tgb 17 10239) ?_; refine take_ (i := 11) (N := some 107) (v := ?_) (a' := ?_) (tgb 17 12287) rfl rfl (take_ofW HT_.out HW_.out (by kernel_rfl)) (fun _ _ _ h => h) (Or.inl ⟨(by rfl), ?_⟩) hHeld ?_ ?_
                     rotate_left
                     ·rintro w' ⟨s0, s1, s2⟩
                      (try simp only [Go.IntWalk.toNatUp, Int.toNat_natCast] at s0)
                      (try simp only [Go.IntWalk.toNatUp, Int.toNat_natCast] at s1)
                      (try simp only [Go.IntWalk.toNatUp, Int.toNat_natCast] at s2)
                      go_simp
                      with_reducible rfl
                     rotate_left
                     ·exact Z41.z0
                     refine tgpP 12 108 (tgb 17 16383) ?_; refine one_ (i := 14) (N := some 110) (tgb 17 32767) rfl rfl (one_of HT_.out (by kernel_rfl)) (by decide) (fun K hK => ?_); refine goes_ Tryz.func68 (by kernel_rfl) rfl #[.slice (some ad123) (rd_L2 x900_3 x81_3).length c122_0, .slice A124_0 (rd_L2 x900_3 (x8_1.length : Int)).length c124_0, .int .i64 (wrap64 (a2 - (rd (rd_L2 x900_3 x81_3) x17_1))), .int .i64 a2] (by rfl) rfl rfl Z41.z7 ?_
                     with_reducible refine (impl_addTimes.calls k3 _ _ (rd_L2 x900_3 x81_3) _ _ (rd_L2 x900_3 (x8_1.length : Int)) (wrap64 (a2 - (rd (rd_L2 x900_3 x81_3) x17_1))) a2 t126 _ ?side1 ?side2 ?side3 ?side4 A59.out).mono ?_
                     (case side1 => exact (by repeat (first | exact Z41.z8 | (with_reducible refine Kd.C_alloc ?_ _) | (with_reducible refine Kd.C_drewN ?_ _) | (with_reducible refine Kd.C_drew ?_))))
                     (case side2 => exact HC122_0.out)
                     (case side3 => exact (by repeat (first | exact Z41.z14 | (with_reducible refine Kd.C_alloc ?_ _) | (with_reducible refine Kd.C_drewN ?_ _) | (with_reducible refine Kd.C_drew ?_))))
                     (case side4 => exact HC124_0.out)
                     rintro e w63 ⟨v127, rfl, ho0, hb⟩
                     obtain ⟨Av127, cv127, ev127⟩ := Kd.R_slice ho0; subst ev127; have HS1_ := (hb.cell (World.block_lt_of_cell? _ _ (hHeld.2.1))).trans (hHeld.2.1); have HS2_ := (hb.cell (World.block_lt_of_cell? _ _ (hHeld.2.2))).trans (hHeld.2.2); refine ⟨_, rfl, ?_⟩; have HO128 := tgk (Kd.R_lower (Kd.R_newB (Kd.R_new' (Kd.R_newM (M := fun k_ => (w.heap.size ≤ k_)) ho0 (below_size Z41.z1) (fun k_ h_ => h_)) (Kd.R_lt Z41.z4)) (g := gb104) (o := .cells #[.int .i64 x17_1] 2 (0, 0)) Z41.z3) (below_size Z41.z1)); replace HO_8 := tgk (Kd.R_elder' Z41.z4 (Kd.R_base ho0) hb); replace HO_900 := tgk (Kd.N_elder' Z41.z6 (Kd.R_base ho0) hb); replace HL122_0 := tgk (Kd.V_elder' (tgV HL122_0.out) (Kd.R_base ho0) hb); replace HL124_0 := tgk (Kd.V_elder' (tgV HL124_0.out) (Kd.R_base ho0) hb); replace BK104 := tgk (tgbb BK104 Z41.z3 hb); replace HR122_0 := tgk (Kd.C_below Z41.z8 hb); replace HR124_0 := tgk (Kd.C_below Z41.z14 hb); replace HB := tgk (below_step Z41.z1 hb); (try clear hb); (try clear hb2); (try clear hk); (try clear hi); (try clear ho0); have p60 : 0 ≤ (x81_3 : Int) := of_decide_eq_true Z41.z2; have q60 : (x81_3 : Int) < ((x900_3.length : Int) : Int) := of_decide_eq_true Z41.z2; obtain ⟨ce60, hcl60, hM60, hcc60, hfr60⟩ := Kd.N_elem HO_900.out [] (x81_3 : Int) p60 q60; obtain ⟨ua60_0, uc60_0, rfl, ul60_0, ge60_0⟩ := Kd.FK_slice_open hM60; have hx60_0 := hcc60 0 _ rfl; have hf60_0 := hfr60 0
                     (try simp only [show ((Kd.slice 2 (Kd.int .i64))).sz = 1 from rfl, Nat.mul_one, Nat.add_zero] at hx60_0)
                     (try simp only [show ((Kd.slice 2 (Kd.int .i64))).sz = 1 from rfl, Nat.mul_one, Nat.add_zero] at hf60_0)
                     clear hcl60 hcc60 hfr60 hM60; replace p60 := eq_true p60; replace q60 := eq_true q60; have HX64 := tgk (show Kd.N (Kd.slice 2 (Kd.int .i64)) 26 _ w.heap.size (fun k_ => (w.heap.size ≤ k_) ∧ some k_ ≠ (.slice Ao15 x8_1.length co15 : Value).ownBlock ∧ some k_ ≠ ((.slice Av127 t126.length cv127) : Value).ownBlock ∧ k_ ≠ gb104) (.slice (some ⟨go40, 0, none⟩) x900_3.length co17) x900_3 from (Kd.N_mono (HO_900.out) (fun k_ hk => ⟨hk.1.1, ⟨hk.1.2.1, ⟨hk.2, hk.1.2.2⟩⟩⟩))); replace HX64 := tgk (show Kd.N (Kd.slice 2 (Kd.int .i64)) 26 _ w.heap.size (fun k_ => (w.heap.size ≤ k_) ∧ some k_ ≠ (.slice Ao15 x8_1.length co15 : Value).ownBlock ∧ k_ ≠ gb104) (.slice (some ⟨go40, 0, none⟩) x900_3.length co17) x900_3 from Kd.N_mono HX64.out (fun k_ hk => ⟨hk.1, ⟨hk.2.1, hk.2.2.2⟩⟩)); obtain ⟨ce64, hcl64, hM64, hcc64, hfr64⟩ := Kd.N_elem HX64.out [] (x81_3 : Int) (of_decide_eq_true Z41.z2) (by have h_ : (x81_3 : Int) < ((x900_3.length : Int) : Int) := of_decide_eq_true Z41.z2; first | exact h_ | (have e_ := (Kd.N_reads' HO_900.out).1; omega) | simpa using h_); obtain ⟨ua64_0, uc64_0, rfl, ul64_0, ge64_0⟩ := Kd.FK_slice_open hM64; have HP64 := (Kd.N_seg HX64.out (x81_3 : Int) (of_decide_eq_true Z41.z2) (by have h_ : (x81_3 : Int) < ((x900_3.length : Int) : Int) := of_decide_eq_true Z41.z2; first | exact h_ | (have e_ := (Kd.N_reads' HO_900.out).1; omega) | simpa using h_) (seg := [(.slice Av127 t126.length cv127)]) (j := 0) hcl64 hcc64 (show 1 ≤ 1 from by decide) (x' := t126) (impl_eliminate.fk_row (Kd.R_mono (ok' := (fun k_ => ((fun k_ => (w.heap.size ≤ k_) ∧ some k_ ≠ (.slice Ao15 x8_1.length co15 : Value).ownBlock ∧ k_ ≠ gb104)) k_ ∧ k_ ≠ go40)) (Kd.R_apart' (HO128.out) (Kd.N_typed HO_900.out) (by decide)) (fun k_ hk => ⟨⟨hk.1.1.1.1, ⟨hk.1.1.2, hk.1.2⟩⟩, fun e_ => (hk.2) (by rw [e_]; rfl)⟩))) (fun _ hk => hk)).1
                     (try simp only [show ((Kd.slice 2 (Kd.int .i64))).sz = 1 from rfl, Nat.mul_one, Nat.add_zero] at HP64)
                     rw [← Ny129.out] at HP64; have HQ64 := tgk HP64; clear hcl64 hcc64 hfr64 hM64 HP64; refine hK.out _ _ ⟨(blk_cell BK104.out 0).trans rfl, HS1_, HS2_⟩ (fun hHeld => ?_); clear hK K; refine tgnm 110 ?_; refine tgpP 15 111 (tgb 17 65535) ?_; refine last_ (i := 16) (N := none) (tgb 17 131071) rfl rfl (one_of HT_.out (by kernel_rfl)) (by decide) (fun K hK => ?_)
                     (try simp only [Go.IntWalk.toNatUp, Int.toNat_natCast] at hx60_0)
                     (try simp only [Go.IntWalk.toNatUp, Int.toNat_natCast] at hf60_0)
                     refine skip_ (w1 := ?_) (by rfl) rfl ?_ ?_
                     rotate_left
                     ·go_simp
                      rfl
                     refine hK.out _ _ ?_; clear hK K; refine done_ (done_of HT_.out (by kernel_rfl)) ?_
                     try go_wp2
                     (try simp only [← hl900_3])
                     go_roundg k3
                     case measure => have := HK1.out; have := HJ12.out; have := HK3.out; omega
                     case rel => exact ⟨(wrap64 (x81_3 + 1)), (y129), Z41.z10, H', ⟨Z41.z26⟩, ⟨(by (try simp only [hl900_12]); (try simp only [hl900_3]); (with_reducible repeat (first | apply Kd.R_alloc | apply Kd.R_drewN | apply Kd.R_drew)); exact Kd.R_mono (Kd.R_far (p := ⟨go40, (x81_3 : Int).toNat, none⟩) (Kd.R_types HO_8.out (Kd.N_typed HO_900.out _ rfl).choose_spec (by decide)) (fun _ hk => hk.2) ((.slice Av127 t126.length cv127))) (fun _ hk => ⟨hk.1.1.1, hk.1.1.2⟩))⟩, ⟨(by (try simp only [hl900_12]); (try simp only [hl900_3]); (with_reducible repeat (first | apply Kd.N_alloc | apply Kd.N_drewN | apply Kd.N_drew)); exact HQ64.out)⟩, ⟨(by (try simp only [hl900_12]); (try simp only [hl900_3]); (with_reducible repeat (first | refine blk_drewN ?_ _ | refine blk_drew ?_ | refine blk_alloc ?_ _)); refine blk_far ?_ (by have h_ := Kd.N_ne HO_900.out BK104.out (by decide); intro e_; exact h_ (by rw [e_]; rfl)) _; (with_reducible repeat (first | refine blk_drewN ?_ _ | refine blk_drew ?_ | refine blk_alloc ?_ _)); exact BK104.out)⟩, ⟨Z41.z13⟩⟩
                    rw [if_neg c58] at H; exact absurd H (by simp)
                   rw [if_neg c57] at H; exact absurd H (by simp)
                  rw [if_neg c54] at H; exact absurd H (by simp)
                 rw [if_neg c53] at H; exact absurd H (by simp)
                rw [if_neg c51] at H; exact absurd H (by simp)
               rw [if_neg c50] at H; exact absurd H (by simp)
              rw [if_neg c49] at H; have c49b0 := decide_eq_false c49; have c49b9 := c49b0
              (try rw [hl900_3] at c49b9)
              clear c49
              by_cases c65 : x8_1.length < 17592186044416
              ·rw [if_pos c65] at H
               have LMc65 := tgk c65; clear c65; obtain ⟨y130, hy130⟩ : ∃ y_ : List Int, y_ = (x8_1 ++ [x17_1]) := ⟨_, rfl⟩; replace H : (impl_eliminate.l0 k3 a1 a2 y130 (Int.tmod (wrap64 (x9_12 * (rd (rd_L2 x900_12 (x8_1.length : Int)) x17_1))) a2) a1 (wrap64 (x17_1 + 1)) x900_3) = some (r1, r2, r3) := by first | (rw [hy130]; with_reducible exact H) | (have H2_ := (Option.bind_some _ _).symm.trans H; rw [hy130]; with_reducible exact H2_) | (have H2_ := (Option.bind_some _ _).symm.trans H; with_reducible exact H2_) | with_reducible exact H | (rw [hy130]; exact H) | exact H
               have Ny130 := tgk hy130; clear hy130; have H' := tgk H; clear H; obtain ⟨hcz66_0, hfz66_0⟩ := cells1 BK104.out
               go_wp2_with (first | ((with_reducible refine gate_builtin (b := .append) (xs := #[.tmp 113, .tmp 115]) rfl ?_); at_builtin; refine Kd.R_append (Kd.int .i64) (w0 := w) w.heap.size rfl (.tmp 113) (.tmp 115) 26 2 (.int .i64 0) 8 rfl Tryz.underlying26 info2 rfl (by decide) (by omega) (.slice Ao15 x8_1.length co15) x8_1 x17_1 [.int .i64 x17_1] (fun k_ => (w.heap.size ≤ k_) ∧ k_ ≠ gb104) (fun _ => False) rfl rfl ?aP (fun _ hk => hk.elim) ?aF ?aO ?aB ?aS ?aL ?_; (case aP => exact rfl); (case aB => exact Z41.z1); (case aF => exact (fun k_ hk => ⟨(Nat.le_trans (below_size Z41.z1) hk), Kd.freshB (g := gb104) (o := .cells #[.int .i64 x17_1] 2 (0, 0)) Z41.z3 k_ hk⟩)); (case aO => exact Z41.z4); (case aS => exact (below_size Z41.z1)); (case aL => have := LMc65.out; omega); intro v131 w67 ho hb hg hat; rw [← Ny130.out] at ho; have HO132 := tgk (ho); replace HO_900 := tgk (Kd.N_afterv (ok := (fun k_ => (w.heap.size ≤ k_) ∧ k_ ≠ gb104)) (by (with_reducible repeat (first | apply Kd.N_alloc | apply Kd.N_drewN | apply Kd.N_drew)); exact Kd.N_mono HO_900.out (fun _ hk => ⟨⟨hk.1, hk.2.2⟩, hk.2.1⟩)) hg hat); replace BK104 := tgk (blk_grown (g := gb104) (o := .cells #[.int .i64 x17_1] 2 (0, 0)) Z41.z3 hg (Kd.R_away HO_8.out (fun _ hk => hk.2))); replace HB := tgk (hb); clear HO_8; clear ho hb hg hat))
               (try simp only [← hl900_12, ← hl900_3])
               go_roundg k3
               case measure => have := HK1.out; have := HJ12.out; have := HK3.out; omega
               case rel => exact ⟨(y130), ((Int.tmod (wrap64 (x9_12 * (rd (rd_L2 x900_12 (x8_1.length : Int)) x17_1))) a2)), (wrap64 (x17_1 + 1)), (x900_3), Z41.z10, Z41.z10, H', ⟨Z41.z26⟩, ⟨(by (try simp only [hl900_12]); (try simp only [hl900_3]); (with_reducible repeat (first | apply Kd.R_alloc | apply Kd.R_drewN | apply Kd.R_drew)); exact Kd.R_mono HO132.out (fun _ hk => hk.1))⟩, ⟨(by (try simp only [hl900_12]); (try simp only [hl900_3]); (with_reducible repeat (first | apply Kd.N_alloc | apply Kd.N_drewN | apply Kd.N_drew)); exact Kd.N_mono HO_900.out (fun _ hk => ⟨hk.1.1, hk.2⟩))⟩, ⟨Z41.z1⟩⟩
              rw [if_neg c65] at H; exact absurd H (by simp)
           rw [if_neg c37] at H; exact absurd H (by simp)
          rw [if_neg c36] at H; exact absurd H (by simp)
         rw [if_neg c34] at H; exact absurd H (by simp)
        rw [if_neg c33] at H; exact absurd H (by simp)
       rw [if_neg c32] at H; exact absurd H (by simp)
      rw [if_neg c31] at H; exact absurd H (by simp)
   rw [if_neg c6] at H
   have c6b0 := decide_eq_false c6
   clear c6
   simp only [Option.some.injEq, Prod.mk.injEq] at H
   obtain ⟨rfl, rfl, rfl⟩ := H
   go_wp2
   go_ret2
   exact ⟨_, (by first | rfl | (simp [errW_none, errW_some] <;> rfl) | (simp [*, errW_none, errW_some] <;> rfl)), Z41.z4, Z41.z6, Z41.z5⟩
end Go.Proofs.YtbalikebmacldaaGreatDoor.F
end
