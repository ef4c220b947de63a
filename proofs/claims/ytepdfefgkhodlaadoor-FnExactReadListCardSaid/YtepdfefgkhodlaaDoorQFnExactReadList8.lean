-- Texts of this claim, merged by pack.py (a program of this session's).
import Derived.Test.YtepdfefgkhodlaaDoorQFnExactReadList1
import Derived.KernelRfl
import Derived.Test.YtepdfefgkhodlaaDoorQFnExactReadList2
import Derived.Test.YtepdfefgkhodlaaDoorQFnExactReadList7

section
namespace Go.Proofs.YtepdfefgkhodlaaDoor.F
open Go.RowKit Go.Proofs.YtepdfefgkhodlaaDoorW.PrintWords Go.Proofs.YtepdfefgkhodlaaDoorW.PrintLast Go.Proofs.YtepdfefgkhodlaaDoorW.PrintMore
attribute [local go_sem] max2_int min2_int max_two min_two max_three min_three max_four min_four   -- for this text's walks alone
set_option linter.unusedVariables false
set_option linter.unusedSimpArgs false

/-! ### laws_toInt64S: function 18 -/
def laws_toInt64S.l0 : Nat → List Int → List Int → Int → Option (List Int)
  | 0, _, _, _ => none
  | k + 1, x0, x3, x4 => if x4 < (x0.length : Int) then (if 0 ≤ x4 then (if x4 < (x3.length : Int) then (laws_toInt64S.l0 k x0 (x3.set (x4 : Int).toNat (rd x0 x4)) (wrap64 (x4 + 1))) else (none)) else (none)) else (some x3)
def laws_toInt64S.f (k : Nat) (l0 : List Int) : Option (List Int) := if 0 ≤ (l0.length : Int) then (if ((l0.length : Int) : Int).toNat ≤ 35184372088832 then (laws_toInt64S.l0 k l0 (List.replicate ((l0.length : Int) : Int).toNat 0) 0) else (none)) else (none)
theorem laws_toInt64S.mono_l : ∀ k, (∀ y0 y1 y2, LeO (laws_toInt64S.l0 k y0 y1 y2) (laws_toInt64S.l0 (k + 1) y0 y1 y2))
  | 0 => fun _ _ _ r h => by simp [laws_toInt64S.l0] at h
  | k + 1 => by
    have ih0 := laws_toInt64S.mono_l k
    · intro y0 y1 y2
      unfold laws_toInt64S.l0
      repeat' first
      | (with_reducible exact ih0 _ _ _)
      | (with_reducible exact LeO.refl _)
      | (with_reducible exact LeO.none _)
      | (with_reducible refine LeO.ite ?_ ?_)
      | (with_reducible refine LeO.bind ?_ (fun _ => ?_))
      | exact ih0 _ _ _
      | exact LeO.none _
      | refine LeO.ite ?_ ?_
      | refine LeO.bind ?_ (fun _ => ?_)
theorem laws_toInt64S.mono : ∀ a0 k, LeO (laws_toInt64S.f k a0) (laws_toInt64S.f (k + 1) a0) := by
  intro a0 k
  have ih0 := laws_toInt64S.mono_l k
  unfold laws_toInt64S.f
  repeat' first
      | (with_reducible exact ih0 _ _ _)
      | (with_reducible exact LeO.refl _)
      | (with_reducible exact LeO.none _)
      | (with_reducible refine LeO.ite ?_ ?_)
      | (with_reducible refine LeO.bind ?_ (fun _ => ?_))
      | exact ih0 _ _ _
      | exact LeO.none _
      | refine LeO.ite ?_ ?_
      | refine LeO.bind ?_ (fun _ => ?_)
theorem Z18.z1 {P : Prop} (h : P := by first | (with_reducible assumption) | assumption) : P := h
theorem Z18.z0 {P : Prop} (h : P := by repeat (first | (with_reducible first | exact HB.out | apply below_alloc | apply pw_below_drewN | apply below_drew1) | exact HB.out)) : P := h
set_option maxHeartbeats 8000000 in
set_option maxRecDepth 100000 in
theorem laws_toInt64S.calls (k : Nat) (A0 : Option Addr) (c0 : Nat) (l0 : List Int) (r : List Int) (w : World) (hr0 : Kd.C (Kd.int .i64) w A0 l0.length l0) (hc0 : l0.length ≤ c0) (h : laws_toInt64S.f k l0 = some r) :
  Calls Tryd.prog 18 #[.slice A0 l0.length c0] w fun e w' => ∃ v0_ : Value, e = .returned (v0_) ∧ Kd.R (Kd.int .i64) 2 w' w.heap.size (fun _ => True) v0_ r ∧ Below w.heap.size w w' := by
 have HR0 := Aside0.mk hr0
 have HC0 := Aside0.mk hc0
 clear hr0 hc0
 have HB := Aside0.mk (Below.refl w.heap.size w)
 have H : (if 0 ≤ (l0.length : Int) then (if ((l0.length : Int) : Int).toNat ≤ 35184372088832 then (laws_toInt64S.l0 k l0 (List.replicate ((l0.length : Int) : Int).toNat 0) 0) else (none)) else (none)) = some r := h
 clear h
 by_cases c2 : 0 ≤ (l0.length : Int)
 ·rw [if_pos c2] at H
  have c2b0 := eq_true c2
  have c2b1 : decide (0 ≤ (l0.length : Int)) = true := decide_eq_true c2
  clear c2
  by_cases c3 : ((l0.length : Int) : Int).toNat ≤ 35184372088832
  ·rw [if_pos c3] at H
   have c3b0 := eq_true c3
   have c3b1 : decide (((l0.length : Int) : Int).toNat ≤ 35184372088832) = true := decide_eq_true c3
   clear c3
   obtain ⟨y101, hy101⟩ : ∃ y_ : List Int, y_ = (List.replicate ((l0.length : Int) : Int).toNat 0) := ⟨_, rfl⟩
   replace H : (laws_toInt64S.l0 k l0 y101 0) = some r := by first | (rw [hy101]; with_reducible exact H) | (have H2_ := (Option.bind_some _ _).symm.trans H; rw [hy101]; with_reducible exact H2_) | (have H2_ := (Option.bind_some _ _).symm.trans H; with_reducible exact H2_) | with_reducible exact H | (rw [hy101]; exact H) | exact H
   have Ny101 := Aside0.mk hy101
   clear hy101
   have H' := Aside0.mk H
   clear H
   go_enter Tryd.func18, Tryd.ntmps18
   go_wp2_with (first | ((with_reducible refine gate_dst (N := 7) rfl ?_); refine Kd.R_make (Kd.int .i64) _ 2 rfl (N := 7) rfl 31 _ _ rfl (l0.length : Int) rfl rfl Tryd.underlying31 (.int .i64 0) 8 info2 rfl (by decide) (by omega) 0 (ok := fun _ => True) (okp := fun _ => True) rfl (fun _ hk => hk) trivial (of_decide_eq_true Z18.z1) (Nat.le_trans (Nat.mul_le_mul_right _ (of_decide_eq_true Z18.z1 : (l0.length : Int).toNat ≤ 35184372088832)) (by omega)) (Below.refl _ _) (Nat.le_refl _) ?_; intro v102 w4 ho5 hb hg_ hnew_; clear hg_ hnew_; (first | rw [← Ny101.out] at ho5 | (simp only [Int.reduceToNat] at ho5; rw [← Ny101.out] at ho5)); have n0_ := Aside0.mk (Kd.R_lower ho5 (below_size Z18.z0)); have n1_ := Aside0.mk (below_step Z18.z0 hb); clear HB; have HO103 := n0_; have HB := n1_; clear n0_ n1_; clear hb ho5))
   go_loopg [4] k (fun kq v4 w' => ∃ (x3_1 : List Int) (x4_1 : Int), v4 = .int .i64 x4_1 ∧ Aside0 (laws_toInt64S.l0 kq l0 x3_1 x4_1 = some r) ∧ Aside0 (kq ≤ k) ∧ Aside0 (Kd.R (Kd.int .i64) 2 w' w.heap.size (fun _ => True) v102 x3_1) ∧ Aside0 (Below w.heap.size w w'))
   case atStart => exact ⟨(y101), (0), (by first | rfl | (simp; done) | (simp [*]; done)), H', ⟨Nat.le_refl _⟩, ⟨(by (with_reducible repeat (first | apply Kd.R_alloc | apply Kd.R_drewN | apply Kd.R_drew)); exact HO103.out)⟩, ⟨Z18.z0⟩⟩
   case round =>
    clear H'
    try clear c1
    try clear c2
    try clear c2b0
    try clear c2b1
    try clear p2
    try clear c3
    try clear c3b0
    try clear c3b1
    obtain ⟨x3_1, x4_1, rfl, HA, HK1, HO_3, HB⟩ := hrel
    cases gk with
    | zero => exact absurd HA.out (by simp [laws_toInt64S.l0])
    | succ k1 =>
     have H := HA.out
     clear HA
     simp only [laws_toInt64S.l0] at H
     by_cases c6 : x4_1 < (l0.length : Int)
     ·rw [if_pos c6] at H
      have c6b0 : decide (x4_1 < (l0.length : Int)) = true := decide_eq_true c6
      clear c6
      by_cases c7 : 0 ≤ x4_1
      ·rw [if_pos c7] at H
       have c7b0 : decide (0 ≤ x4_1) = true := decide_eq_true c7
       clear c7
       by_cases c8 : x4_1 < (x3_1.length : Int)
       ·rw [if_pos c8] at H
        have c8b0 : decide (x4_1 < (x3_1.length : Int)) = true := decide_eq_true c8
        clear c8
        obtain ⟨y105, hy105⟩ : ∃ y_ : List Int, y_ = (x3_1.set (x4_1 : Int).toNat (rd l0 x4_1)) := ⟨_, rfl⟩
        replace H : (laws_toInt64S.l0 k1 l0 y105 (wrap64 (x4_1 + 1))) = some r := by first | (rw [hy105]; with_reducible exact H) | (have H2_ := (Option.bind_some _ _).symm.trans H; rw [hy105]; with_reducible exact H2_) | (have H2_ := (Option.bind_some _ _).symm.trans H; with_reducible exact H2_) | with_reducible exact H | (rw [hy105]; exact H) | exact H
        have Ny105 := Aside0.mk hy105
        clear hy105
        have H' := Aside0.mk H
        clear H
        have p104 : 0 ≤ (x4_1 : Int) := of_decide_eq_true Z18.z1
        have q104 : x4_1 < (l0.length : Int) := of_decide_eq_true Z18.z1
        obtain ⟨ad104, e104, hx104_0⟩ := Kd.at_int HR0.out x4_1 p104 q104
        cases e104
        replace hx104_0 := (HB.out.cell (World.block_lt_of_cell? w _ hx104_0)).trans hx104_0
        replace p104 := eq_true p104
        replace q104 := eq_true q104
        have p9 : 0 ≤ (x4_1 : Int) := of_decide_eq_true Z18.z1
        have q9 : (x4_1 : Int) < ((x3_1.length : Int) : Int) := of_decide_eq_true Z18.z1
        obtain ⟨go9, co9, eo9, gb9, gl9, cl9, HG9⟩ := Kd.R_form HO_3.out (by omega)
        (first | cases eo9 | (injection eo9 with ea_ en_ ec_; (first | subst ea_ | (injection ea_ with ea_; subst ea_)); subst ec_; clear en_))
        have GB9 := Aside0.mk gb9
        have GG9 := Aside0.mk HG9
        clear gb9 gl9 HG9
        obtain ⟨hx9_0, hf9_0⟩ := Kd.R_celln 0 HO_3.out (x4_1 : Int) p9 q9
        replace p9 := eq_true p9
        replace q9 := eq_true q9
        have HP10 := Kd.R_putg HO_3.out (x4_1 : Int) (rd l0 x4_1)
        go_wp2_with (first | ((with_reducible refine gate_store (t := 2) (p := 20) rfl ?_); refine store_event (t := 2) (p := 20) (v := ?vo_w11) (w1 := (wr.setCell ⟨go9, (x4_1 : Int).toNat, none⟩ (.int .i64 (rd l0 x4_1)))) ?hg ?ho ?hn ?hr ?_; (case ho => rfl); (case hg => rfl); (case hn => rfl); (case hr => first | (go_simp; done) | (go_simp; rfl)); intro w11 hw; have hg : wr.grownBy w11 (some go9) := (by rw [hw]; exact HP10.2); have hp_ : Kd.R (Kd.int .i64) 2 w11 w.heap.size (fun _ => True) (.slice (some ⟨go9, 0, none⟩) x3_1.length co9) y105 := (by rw [hw, Ny105.out]; exact HP10.1); clear HP10; have n0_ := Aside0.mk (hp_); have n1_ := Aside0.mk ((by rw [hw]; exact below_set (HB.out) GB9.out : Below w.heap.size w w11)); clear HO_3 HB; have HO_3 := n0_; have HB := n1_; clear n0_ n1_; clear hg hw hp_))
        go_roundg k1
        case measure => have := HK1.out; omega
        case rel => exact ⟨(y105), (wrap64 (x4_1 + 1)), (by first | rfl | (simp; done) | (simp [*]; done)), H', ⟨(by have := HK1.out; omega)⟩, ⟨(by (with_reducible repeat (first | apply Kd.R_alloc | apply Kd.R_drewN | apply Kd.R_drew)); exact HO_3.out)⟩, ⟨Z18.z0⟩⟩
       rw [if_neg c8] at H
       exact absurd H (by simp)
      rw [if_neg c7] at H
      exact absurd H (by simp)
     rw [if_neg c6] at H
     have c6b0 : decide (x4_1 < (l0.length : Int)) = false := decide_eq_false c6
     clear c6
     obtain rfl := Option.some.inj H
     go_wp2
     go_ret
     exact ⟨_, (by first | rfl | (simp [errW_none, errW_some] <;> rfl) | (simp [*, errW_none, errW_some] <;> rfl)), (by (with_reducible repeat (first | apply Kd.R_alloc | apply Kd.R_drewN | apply Kd.R_drew)); exact HO_3.out), Z18.z0⟩
  rw [if_neg c3] at H
  exact absurd H (by simp)
 rw [if_neg c2] at H
 exact absurd H (by simp)

end Go.Proofs.YtepdfefgkhodlaaDoor.F
end

section
set_option linter.unusedVariables false
set_option linter.unusedSimpArgs false
set_option linter.unusedSectionVars false
namespace Go.Proofs.YtepdfefgkhodlaaDoor.Lin

def primes251 : List Nat := [2,3,5,7,11,13,17,19,23,29,31,37,41,43,47,53,59,61,67,71,73,79,83,89,97,101,103,107,109,113,127,131,137,139,149,151,157,163,167,173,179,181,191,193,197,199,211,223,227,229,233,239,241,251]
/-- A prime up to 251. -/
def isP (p : Int) : Bool := decide (2 ≤ p) && decide (p ≤ 251) && decide (p.toNat ∈ primes251)
theorem isP_ge {p : Int} (h : isP p = true) : 2 ≤ p ∧ p ≤ 251 := by unfold isP at h; simp at h; omega
/-- One row gets a multiple of another one. -/
def addRow (p : Int) (a b : List Int) (c : Int) : List Int := List.zipWith (fun x y => (x + c * y) % p) a b
theorem getD_set {α : Type} (l : List α) (k : Nat) (v d : α) (hk : k < l.length) (i : Nat) : (l.set k v).getD i d = if i = k then v else l.getD i d := by
  simp only [List.getD_eq_getElem?_getD, List.getElem?_set]
  by_cases h : k = i
  · subst h; simp [hk]
  · simp [h, Ne.symm h]
theorem addRow_getD {p : Int} {a b : List Int} {c : Int} {j : Nat} (ha : j < a.length) (hb : j < b.length) : (addRow p a b c).getD j 0 = (a.getD j 0 + c * b.getD j 0) % p := by
  unfold addRow
  simp [List.getD_eq_getElem?_getD, List.getElem?_zipWith, List.getElem?_eq_getElem ha, List.getElem?_eq_getElem hb]
end Go.Proofs.YtepdfefgkhodlaaDoor.Lin
end

section
set_option linter.unusedVariables false
set_option linter.unusedSimpArgs false
set_option linter.unusedSectionVars false
namespace Go.Proofs.YtepdfefgkhodlaaDoor.F
open Go.RowKit Go.Proofs.YtepdfefgkhodlaaDoorW.PrintWords Go.Proofs.YtepdfefgkhodlaaDoorW.PrintLast Go.Proofs.YtepdfefgkhodlaaDoor.Lin

theorem w64_idV {x : Int} (h0 : -9223372036854775808 ≤ x) (h1 : x ≤ 9223372036854775807) : wrap64 x = x := by unfold wrap64; omega
theorem w64_succ {i n : Nat} (h : i < n) (hn : n ≤ 35184372088832) : wrap64 ((i : Int) + 1) = ((i + 1 : Nat) : Int) := by
  rw [w64_idV (x := (i : Int) + 1) (by omega) (by omega)]; omega
theorem rd_nat (l : List Int) (i : Nat) : rd l (i : Int) = l.getD i 0 := by unfold rd; rw [Int.toNat_natCast]
theorem getD_at {α : Type} {l : List α} {i : Nat} {d : α} (h : i < l.length) : l.getD i d = l[i] := by simp [List.getD_eq_getElem?_getD, h]
theorem ext_getD {l m : List Int} (hl : l.length = m.length) (h : ∀ j, j < l.length → l.getD j 0 = m.getD j 0) : l = m := by
  refine List.ext_getElem hl (fun j h1 h2 => ?_)
  have := h j h1
  rwa [getD_at h1, getD_at h2] at this
theorem copy_loop {l : List Int} (hl : l.length ≤ 35184372088832) (d : Nat) : ∀ (k i : Nat) (acc : List Int), l.length - i = d → i ≤ l.length → d < k → acc.length = l.length → (∀ j, j < i → acc.getD j 0 = l.getD j 0) →
    laws_toInt64S.l0 k l acc i = some l := by
  induction d with
  | zero =>
    intro k i acc hd hi hk ha h
    obtain ⟨k, rfl⟩ : ∃ m, k = m + 1 := ⟨k - 1, by omega⟩
    simp only [laws_toInt64S.l0]
    rw [if_neg (by omega), ext_getD ha (fun j hj => h j (by omega))]
  | succ d ih =>
    intro k i acc hd hi hk ha h
    obtain ⟨k, rfl⟩ : ∃ m, k = m + 1 := ⟨k - 1, by omega⟩
    simp only [laws_toInt64S.l0]
    rw [if_pos (by omega), if_pos (by omega), if_pos (by omega), w64_succ (n := l.length) (by omega) hl, Int.toNat_natCast, rd_nat]
    refine ih k (i + 1) _ (by omega) (by omega) (by omega) (by simp [ha]) (fun j hj => ?_)
    rw [getD_set _ _ _ _ (by omega)]
    by_cases e : j = i
    · rw [if_pos e, e]
    · rw [if_neg e]; exact h j (by omega)
/-- A copy is what is copied. -/
theorem copy_tells {l : List Int} (hl : l.length ≤ 35184372088832) {k : Nat} (hk : l.length < k) : laws_toInt64S.f k l = some l := by
  unfold laws_toInt64S.f
  rw [if_pos (by omega), if_pos (by omega), Int.toNat_natCast]
  exact copy_loop hl l.length k 0 _ (by omega) (by omega) hk (by simp) (fun j hj => by omega)
theorem eq_loop {a b : List Int} (ha : a.length ≤ 35184372088832) (hab : a.length = b.length) (d : Nat) : ∀ (k i : Nat), a.length - i = d → i ≤ a.length → d < k → (∀ j, j < i → a.getD j 0 = b.getD j 0) →
    laws_eqInt64S.l0 k a b i = some (decide (a = b)) := by
  induction d with
  | zero =>
    intro k i hd hi hk h
    obtain ⟨k, rfl⟩ : ∃ m, k = m + 1 := ⟨k - 1, by omega⟩
    simp only [laws_eqInt64S.l0]
    rw [if_neg (by omega), decide_eq_true (ext_getD hab (fun j hj => h j (by omega)))]
  | succ d ih =>
    intro k i hd hi hk h
    obtain ⟨k, rfl⟩ : ∃ m, k = m + 1 := ⟨k - 1, by omega⟩
    simp only [laws_eqInt64S.l0]
    rw [if_pos (by omega), if_pos (by omega), if_pos (by omega), w64_succ (n := a.length) (by omega) ha, rd_nat, rd_nat]
    by_cases e : a.getD i 0 = b.getD i 0
    · rw [if_pos e]
      refine ih k (i + 1) (by omega) (by omega) (by omega) (fun j hj => ?_)
      by_cases e2 : j = i
      · rw [e2]; exact e
      · exact h j (by omega)
    · rw [if_neg e, decide_eq_false (fun h => e (by rw [h]))]
theorem eq_tells {a b : List Int} (ha : a.length ≤ 35184372088832) {k : Nat} (hk : a.length < k) : laws_eqInt64S.f k a b = some (decide (a = b)) := by
  unfold laws_eqInt64S.f
  by_cases h : a.length = b.length
  · rw [if_pos (by omega)]
    exact eq_loop ha h a.length k 0 (by omega) (by omega) hk (fun j hj => by omega)
  · rw [if_neg (by omega), decide_eq_false (fun e => h (by rw [e]))]

open Go.Lib
theorem bt_nat (s : ByteArray) {i : Nat} (h : i < s.data.toList.length) : bt s (i : Int) = ((s.data.toList[i].toNat : Nat) : Int) := by
  have hs : i < s.size := by rw [size_len]; exact h
  unfold bt
  simp only [Int.toNat_natCast]
  rw [dif_pos hs]
  rfl
theorem digit_tellsN (b : Int) : spec_l01Digit.f b = some (decide (48 ≤ b) && decide (b ≤ 57)) := by
  unfold spec_l01Digit.f
  by_cases h : b ≥ 48
  · rw [if_pos h, decide_eq_true (show 48 ≤ b from h), Bool.true_and]
  · rw [if_neg h, decide_eq_false (show ¬ 48 ≤ b from h), Bool.false_and]
theorem num_loop (s : ByteArray) (hs : s.data.toList.length ≤ 1048576) (at_ : Int) : ∀ (d i k acc : Nat), s.data.toList.length - i = d → i ≤ s.data.toList.length → d < k → Aside0 ((acc + 1) * 10 ^ d ≤ 1000000000000000000) →
    spec_l01Number.l0 k s at_ acc i = some (if (s.data.toList.drop i).all isDig = true then (if at_ = 1 then -((decVal acc (s.data.toList.drop i) : Nat) : Int) else (decVal acc (s.data.toList.drop i) : Nat), true) else (0, false)) := by
  intro d
  induction d with
  | zero =>
    intro i k acc hd hi hk ha
    have ha := ha.out
    rw [Nat.pow_zero, Nat.mul_one] at ha
    obtain ⟨k, rfl⟩ : ∃ q, k = q + 1 := ⟨k - 1, by omega⟩
    simp only [spec_l01Number.l0]
    rw [if_neg (by rw [size_len]; omega), List.drop_eq_nil_of_le (by omega)]
    show _ = some (if true = true then _ else _)
    rw [if_pos rfl]
    show _ = some (if at_ = 1 then -(acc : Int) else (acc : Int), true)
    by_cases h1 : at_ = 1
    · rw [if_pos h1, if_pos h1, w64_idV (x := -(acc : Int)) (by omega) (by omega)]
    · rw [if_neg h1, if_neg h1]
  | succ d ih =>
    intro i k acc hd hi hk ha
    obtain ⟨k, rfl⟩ : ∃ q, k = q + 1 := ⟨k - 1, by omega⟩
    have hlt : i < s.data.toList.length := by omega
    have h10 : (acc + 1) * 10 ≤ 1000000000000000000 := by
      have hpow : 1 ≤ 10 ^ d := Nat.one_le_pow _ _ (by decide)
      have ha := ha.out
      rw [Nat.pow_succ, Nat.mul_comm (10 ^ d) 10, ← Nat.mul_assoc] at ha
      exact Nat.le_trans (Nat.le_mul_of_pos_right _ hpow) ha
    simp only [spec_l01Number.l0]
    rw [if_pos (by rw [size_len]; omega), if_pos (by omega), bt_nat s hlt, digit_tellsN, Option.bind_some, List.drop_eq_getElem_cons hlt, List.all_cons]
    generalize s.data.toList[i] = b
    by_cases hb : isDig b = true
    · have hbd := isDig_iff.mp hb
      rw [hb, Bool.true_and, decide_eq_true (show (48 : Int) ≤ (b.toNat : Int) by omega), decide_eq_true (show (b.toNat : Int) ≤ 57 by omega), Bool.true_and, if_pos rfl]
      have hle : acc * 10 + (b.toNat - 48) + 1 ≤ (acc + 1) * 10 := by omega
      have := ih (i + 1) k (acc * 10 + (b.toNat - 48)) (by omega) (by omega) (by omega) ⟨by
        refine Nat.le_trans ?_ ha.out
        rw [Nat.pow_succ, Nat.mul_comm (10 ^ d) 10, ← Nat.mul_assoc]
        exact Nat.mul_le_mul_right _ hle⟩
      have b1 : -9223372036854775808 ≤ 10 * (acc : Int) ∧ 10 * (acc : Int) ≤ 9223372036854775807 := by omega
      have b2 : -9223372036854775808 ≤ 10 * (acc : Int) + ((b.toNat - 48 : Nat) : Int) ∧ 10 * (acc : Int) + ((b.toNat - 48 : Nat) : Int) ≤ 9223372036854775807 := by omega
      have b3 : 10 * (acc : Int) + ((b.toNat - 48 : Nat) : Int) = ((acc * 10 + (b.toNat - 48) : Nat) : Int) := by omega
      have e2 : ((b.toNat : Int) - 48) % 256 = ((b.toNat - 48 : Nat) : Int) := by omega
      rw [w64_succ (n := s.data.toList.length) hlt (by omega), w64_idV b1.1 b1.2, e2, w64_idV b2.1 b2.2, b3]
      rw [this]
      rfl
    · have hbf : isDig b = false := Bool.eq_false_iff.mpr hb
      have hq : (decide ((48 : Int) ≤ (b.toNat : Int)) && decide ((b.toNat : Int) ≤ 57)) = false := by
        rw [← hbf]; unfold isDig
        congr 1
        · exact decide_eq_decide.mpr (by omega)
        · exact decide_eq_decide.mpr (by omega)
      rw [hq, hbf, Bool.false_and, if_neg (by decide), if_neg (by decide)]
theorem number_j1 (s : ByteArray) (hs : s.data.toList.length ≤ 1048576) (at_ : Nat) (h1 : at_ ≤ 1) (hat : (at_ = 1) = (s.data.toList.head? = some 45)) {k : Nat} (hk : s.data.toList.length + 5 ≤ k) :
    spec_l01Number.j1 k s at_ = some (numOf s.data.toList) := by
  obtain ⟨k, rfl⟩ : ∃ q, k = q + 2 := ⟨k - 2, by omega⟩
  have hdig : digitsOf s.data.toList = s.data.toList.drop at_ := by
    unfold digitsOf
    by_cases h : at_ = 1
    · rw [if_pos (hat ▸ h), h]
    · rw [if_neg (hat ▸ h), show at_ = 0 by omega, List.drop_zero]
  have hle : at_ ≤ s.data.toList.length := by
    by_cases h : at_ = 1
    · have := hat ▸ h
      cases hq : s.data.toList with
      | nil => rw [hq] at this; cases this
      | cons x r => simp; omega
    · omega
  unfold numOf
  rw [hdig]
  have hdl : (s.data.toList.drop at_).length = s.data.toList.length - at_ := List.length_drop
  rw [hdl]
  have j2t : ∀ a, spec_l01Number.j2 (k + 1) s a true = some (0, false) := fun a => by simp only [spec_l01Number.j2, if_true]
  simp only [spec_l01Number.j1]
  rw [size_len]
  by_cases c1 : s.data.toList.length - at_ = 0
  · rw [if_pos (show ((s.data.toList.length : Nat) : Int) = (at_ : Int) by omega), j2t, if_pos (.inl c1)]
  · rw [if_neg (show ¬ ((s.data.toList.length : Nat) : Int) = (at_ : Int) by omega), w64_idV (by omega) (by omega)]
    by_cases c2 : 18 < s.data.toList.length - at_
    · rw [if_pos (by omega), j2t, if_pos (.inr (.inl c2))]
    · have hlt : at_ < s.data.toList.length := by omega
      rw [if_neg (by omega), if_pos (by omega), if_pos (by omega), bt_nat s hlt]
      have hh : (s.data.toList.drop at_).head? = some s.data.toList[at_] := by rw [List.drop_eq_getElem_cons hlt]; rfl
      have loop := num_loop s hs (at_ : Int) (s.data.toList.length - at_) at_ k 0 rfl (by omega) (by omega) ⟨by
        rw [Nat.zero_add, Nat.one_mul, ← pow18]; exact Nat.pow_le_pow_right (by decide) (by omega)⟩
      have fin : spec_l01Number.l0 k s (at_ : Int) 0 (at_ : Int) = some (if (s.data.toList.drop at_).all isDig = false then (0, false) else (if s.data.toList.head? = some 45 then -((decVal 0 (s.data.toList.drop at_) : Nat) : Int) else (decVal 0 (s.data.toList.drop at_) : Nat), true)) := by
        refine loop.trans ?_
        congr 1
        by_cases hq : (s.data.toList.drop at_).all isDig = true
        · rw [if_pos hq, if_neg (show ¬ (s.data.toList.drop at_).all isDig = false by rw [hq]; decide)]
          by_cases h : at_ = 1
          · rw [if_pos (show (at_ : Int) = 1 by omega), if_pos (hat ▸ h)]
          · rw [if_neg (show ¬ (at_ : Int) = 1 by omega), if_neg (hat ▸ h)]
        · rw [if_neg hq, if_pos (Bool.eq_false_iff.mpr hq)]
      by_cases c3 : ((s.data.toList[at_].toNat : Nat) : Int) = 48
      · have h48 : s.data.toList[at_] = 48 := UInt8.toNat_inj.mp (by rw [show (48 : UInt8).toNat = 48 from rfl]; omega)
        rw [if_pos c3]
        by_cases c4 : 1 < s.data.toList.length
        · rw [decide_eq_true (show ((s.data.toList.length : Nat) : Int) > 1 by omega), j2t, if_pos (.inr (.inr (.inl ⟨by rw [hh, h48], c4⟩)))]
        · rw [decide_eq_false (show ¬ ((s.data.toList.length : Nat) : Int) > 1 by omega)]
          simp only [spec_l01Number.j2]
          rw [if_neg (by decide), fin]
          congr 1
          by_cases hq : (s.data.toList.drop at_).all isDig = false
          · rw [if_pos hq, if_pos (.inr (.inr (.inr hq)))]
          · have hn : ¬ (s.data.toList.length - at_ = 0 ∨ 18 < s.data.toList.length - at_ ∨ ((s.data.toList.drop at_).head? = some 48 ∧ 1 < s.data.toList.length) ∨ (s.data.toList.drop at_).all isDig = false) := by
              rintro (h | h | h | h)
              · omega
              · omega
              · omega
              · exact hq h
            rw [if_neg hq, if_neg hn]
      · rw [if_neg c3]
        simp only [spec_l01Number.j2]
        rw [if_neg (by decide), fin]
        congr 1
        by_cases hq : (s.data.toList.drop at_).all isDig = false
        · rw [if_pos hq, if_pos (.inr (.inr (.inr hq)))]
        · have hn : ¬ (s.data.toList.length - at_ = 0 ∨ 18 < s.data.toList.length - at_ ∨ ((s.data.toList.drop at_).head? = some 48 ∧ 1 < s.data.toList.length) ∨ (s.data.toList.drop at_).all isDig = false) := by
            rintro (h | h | h | h)
            · omega
            · omega
            · have h1 := h.1
              rw [hh] at h1
              have h2 := Option.some.inj h1
              exact c3 (by rw [h2]; rfl)
            · exact hq h
          rw [if_neg hq, if_neg hn]
theorem number_tells (s : ByteArray) (hs : s.size ≤ 1048576) {k : Nat} (hk : s.size + 8 ≤ k) : spec_l01Number.f k s = some (numOf s.data.toList) := by
  rw [size_len] at hs hk
  unfold spec_l01Number.f
  have j0 : ∀ b : Bool, (b = true) = (s.data.toList.head? = some 45) → spec_l01Number.j0 k s 0 b = some (numOf s.data.toList) := fun b hb => by
    obtain ⟨k, rfl⟩ : ∃ q, k = q + 1 := ⟨k - 1, by omega⟩
    simp only [spec_l01Number.j0]
    by_cases h : b = true
    · rw [if_pos h]
      exact number_j1 s hs 1 (by omega) (by rw [← hb]; simp [h]) (by omega)
    · rw [if_neg h]
      exact number_j1 s hs 0 (by omega) (by rw [← hb]; simp [h]) (by omega)
  by_cases h0 : 0 < s.data.toList.length
  · rw [if_pos (show (s.size : Int) > 0 by rw [size_len]; omega), if_pos (show (0 : Int) < (s.size : Int) by rw [size_len]; omega)]
    refine j0 _ ?_
    have e := bt_nat s h0
    rw [show ((0 : Nat) : Int) = 0 from rfl] at e
    rw [e]
    have hh : s.data.toList.head? = some s.data.toList[0] := by
      rw [List.head?_eq_getElem?, List.getElem?_eq_getElem h0]
    rw [hh]
    apply propext
    rw [beq_iff_eq, Option.some.injEq]
    exact ⟨fun h => UInt8.toNat_inj.mp (by rw [show (45 : UInt8).toNat = 45 from rfl]; omega), fun h => by rw [h]; rfl⟩
  · rw [if_neg (show ¬ (s.size : Int) > 0 by rw [size_len]; omega)]
    refine j0 _ ?_
    have : s.data.toList = [] := List.eq_nil_of_length_eq_zero (by omega)
    rw [this]; simp
theorem readDec_eq (s : ByteArray) : readDec s = numOf s.data.toList := readOf_eq s.data.toList
theorem readDecimal_tells (s : ByteArray) (hs : s.size ≤ 281474976710656) : impl_ReadDecimal.f s = some (numOf s.data.toList) := by
  unfold impl_ReadDecimal.f
  rw [if_pos hs, readDec_eq]
end Go.Proofs.YtepdfefgkhodlaaDoor.F
end
