-- Texts of this claim, merged by pack.py (a program of this session's).
import Derived.Test.YtkndhjchlnepmaaDoorQFnBasics0
import Derived.Test.YtkndhjchlnepmaaDoorQFnBasics4

section
namespace Go.Proofs.YtkndhjchlnepmaaDoor.F
open Go.RowKit Go.Proofs.YtkndhjchlnepmaaDoorW.PrintWords Go.Proofs.YtkndhjchlnepmaaDoorW.PrintLast Go.Proofs.YtkndhjchlnepmaaDoorW.PrintMore
attribute [local go_sem] max2_int min2_int max_two min_two max_three min_three max_four min_four   -- for this text's walks alone
set_option linter.unusedVariables false
set_option linter.unusedSimpArgs false

/-! ### impl_ReadDecimal: function 14: ours -/
/-- The library's two errors hold what an interface holds. -/
def LaidE (w : World) : Prop := (∃ tp p, w.cell? ⟨0, 0, none⟩ = some (.iface tp p)) ∧ ∃ tp p, w.cell? ⟨1, 0, none⟩ = some (.iface tp p)
theorem LaidE.below {w w' : World} (h : LaidE w) (hb : Below w.heap.size w w') : LaidE w' := by
  obtain ⟨⟨t1, p1, h1⟩, t2, p2, h2⟩ := h
  exact ⟨⟨t1, p1, (hb.cell (p := ⟨0, 0, none⟩) (World.block_lt_of_cell? w _ h1)).trans h1⟩, t2, p2, (hb.cell (p := ⟨1, 0, none⟩) (World.block_lt_of_cell? w _ h2)).trans h2⟩
/-- The number with a decimal text. -/
def readDec (s : ByteArray) : Int × Bool :=
  if (Lib.trimPrefix s.data.toList [45]).length < 1 ∨ 18 < (Lib.trimPrefix s.data.toList [45]).length then (0, false) else
  match Lib.parseIntB 64 s.data.toList with
  | .ok v => if Lib.itoa v = s.data.toList then (v, true) else (0, false)
  | _ => (0, false)
def impl_ReadDecimal.f (a0 : ByteArray) : Option (Int × Bool) := if a0.size ≤ 281474976710656 then some (readDec a0) else none
theorem strconv_ParseInt.ends (s : ByteArray) (hs : s.size ≤ 281474976710656) (w : World) (hl : LaidE w) :
    Calls Tryd.prog 34 #[.string s, .int .i64 10, .int .i64 64] w fun e w' => Below w.heap.size w w' ∧
      match Lib.parseIntB 64 s.data.toList with
      | .ok v => e = .returned (.tuple #[.int .i64 v, .nilIface])
      | _ => ∃ (v : Int) (t N : Nat), e = .returned (.tuple #[.int .i64 v, .iface t (.pointer (some ⟨N, 0, none⟩))]) := by
  obtain ⟨⟨t1, p1, h1⟩, t2, p2, h2⟩ := hl
  cases h : Lib.parseIntB 64 s.data.toList with
  | ok v =>
    refine (Tryd.strconv_ParseInt_10_at64_ok s (by omega) v h w).mono ?_
    rintro e w' ⟨rfl, rfl | ⟨t, rfl⟩⟩
    · exact ⟨Below.refl _ _, rfl⟩
    · exact ⟨Lib.bytesWorld_below _ _ _, rfl⟩
  | range =>
    refine (Tryd.strconv_ParseInt_10_at64_range s hs h _ w h2 (.inr ⟨_, _, rfl⟩)).mono ?_
    rintro e w' ⟨N, rfl, _, _, hb⟩
    exact ⟨hb, _, _, _, rfl⟩
  | _ =>
    refine (Tryd.strconv_ParseInt_10_at64_syntax s hs h _ w h1 (.inr ⟨_, _, rfl⟩)).mono ?_
    rintro e w' ⟨N, rfl, _, _, hb⟩
    exact ⟨hb, _, _, _, rfl⟩
set_option maxHeartbeats 4000000 in
set_option maxRecDepth 100000 in
theorem impl_ReadDecimal.calls (a0 : ByteArray) (r1 : Int) (r2 : Bool) (w : World) (hlP_ : LaidP w) (hlE_ : LaidE w) (h : impl_ReadDecimal.f a0 = some (r1, r2)) :
  Calls Tryd.prog 14 #[.string a0] w fun e w' => e = .returned (.tuple #[.int .i64 r1, .bool r2]) ∧ Below w.heap.size w w' := by
 unfold impl_ReadDecimal.f at h
 by_cases hb : a0.size ≤ 281474976710656
 ·rw [if_pos hb] at h
  have hf := Option.some.inj h
  clear h
  have hT := Tryd.strings_TrimPrefix a0 (⟨#[45]⟩ : ByteArray) w
  have hP := strconv_ParseInt.ends a0 hb w hlE_
  unfold readDec at hf
  have e45 : (⟨#[45]⟩ : ByteArray).data.toList = [45] := rfl
  rw [e45] at hT
  have hd : (⟨(Lib.trimPrefix a0.data.toList [45]).toArray⟩ : ByteArray).size = (Lib.trimPrefix a0.data.toList [45]).length := by simp [ByteArray.size]
  generalize (⟨(Lib.trimPrefix a0.data.toList [45]).toArray⟩ : ByteArray) = d at hT hd
  rw [← hd] at hf
  clear hd e45 hb
  by_cases h1 : d.size < 1
  ·rw [if_pos (.inl h1)] at hf
   obtain ⟨rfl, rfl⟩ := Prod.mk.inj hf
   have b1 : decide ((d.size : Int) < 1) = true := decide_eq_true (by omega)
   have b2 : decide (d.size < 1) = true := decide_eq_true h1
   clear hf hP h1
   go_enter Tryd.func14, Tryd.ntmps14
   go_wp2_with (go_at_call 33; refine hT.mono ?_; rintro e w' ⟨rfl, rfl⟩)
   go_ret2
   exact ⟨rfl, Below.refl _ _⟩
  have b1 : decide ((d.size : Int) < 1) = false := decide_eq_false (by omega)
  have b2 : decide (d.size < 1) = false := decide_eq_false h1
  by_cases h2 : 18 < d.size
  ·rw [if_pos (.inr h2)] at hf
   obtain ⟨rfl, rfl⟩ := Prod.mk.inj hf
   have b3 : decide (18 < (d.size : Int)) = true := decide_eq_true (by omega)
   have b4 : decide (18 < d.size) = true := decide_eq_true h2
   clear hf hP h1 h2
   go_enter Tryd.func14, Tryd.ntmps14
   go_wp2_with (go_at_call 33; refine hT.mono ?_; rintro e w' ⟨rfl, rfl⟩)
   go_ret2
   exact ⟨rfl, Below.refl _ _⟩
  rw [if_neg (fun hh => hh.elim h1 h2)] at hf
  have b3 : decide (18 < (d.size : Int)) = false := decide_eq_false (by omega)
  have b4 : decide (18 < d.size) = false := decide_eq_false h2
  clear h1 h2
  cases hp : Lib.parseIntB 64 a0.data.toList with
  | ok v =>
   rw [hp] at hf hP
   simp only at hf hP
   have hv := Lib.parseIntB_bounds hp
   rw [show ((2 ^ (64 - 1) : Nat) : Int) = 9223372036854775808 by decide] at hv
   have hD : impl_Decimal.f v = some ⟨(Lib.itoa v).toArray⟩ := by
    unfold impl_Decimal.f
    rw [if_pos (by have := hv; omega)]
   have hE : (⟨(Lib.itoa v).toArray⟩ : ByteArray).toList = Lib.itoa v := by rw [Lib.toList_data]
   have hS : a0.toList = a0.data.toList := Lib.toList_data a0
   by_cases he : Lib.itoa v = a0.data.toList
   ·rw [if_pos he] at hf
    obtain ⟨rfl, rfl⟩ := Prod.mk.inj hf
    rw [← hE, ← hS] at he
    generalize (⟨(Lib.itoa v).toArray⟩ : ByteArray) = x at he hD
    have q1 : (x.toList == a0.toList) = true := beq_iff_eq.mpr he
    have q2 : (x.toList != a0.toList) = false := bne_eq_false_iff_eq.mpr he
    have HD := Aside0.mk hD
    have HP := Aside0.mk hlP_
    clear hf hv hD hE hS he hp hlP_ hlE_
    go_enter Tryd.func14, Tryd.ntmps14
    go_wp2_with (first | (go_at_call 33; refine hT.mono ?_; rintro e w' ⟨rfl, rfl⟩) | (go_at_call 34; refine hP.mono ?_; rintro e w1 ⟨hb1, rfl⟩; have HB1 := Aside0.mk hb1; clear hb1) | (go_at_call 15; refine (impl_Decimal.calls v x w1 (LaidP.below HP.out HB1.out) HD.out).mono ?_; rintro e w2 ⟨rfl, hb2⟩; have HB2 := Aside0.mk hb2; clear hb2))
    go_ret2
    exact ⟨rfl, below_step HB1.out HB2.out⟩
   rw [if_neg he] at hf
   obtain ⟨rfl, rfl⟩ := Prod.mk.inj hf
   rw [← hE, ← hS] at he
   generalize (⟨(Lib.itoa v).toArray⟩ : ByteArray) = x at he hD
   have q1 : (x.toList == a0.toList) = false := beq_eq_false_iff_ne.mpr he
   have q2 : (x.toList != a0.toList) = true := bne_iff_ne.mpr he
   have HD := Aside0.mk hD
   have HP := Aside0.mk hlP_
   clear hf hv hD hE hS he hp hlP_ hlE_
   go_enter Tryd.func14, Tryd.ntmps14
   go_wp2_with (first | (go_at_call 33; refine hT.mono ?_; rintro e w' ⟨rfl, rfl⟩) | (go_at_call 34; refine hP.mono ?_; rintro e w1 ⟨hb1, rfl⟩; have HB1 := Aside0.mk hb1; clear hb1) | (go_at_call 15; refine (impl_Decimal.calls v x w1 (LaidP.below HP.out HB1.out) HD.out).mono ?_; rintro e w2 ⟨rfl, hb2⟩; have HB2 := Aside0.mk hb2; clear hb2))
   go_ret2
   exact ⟨rfl, below_step HB1.out HB2.out⟩
  | range =>
   rw [hp] at hf hP
   simp only at hf hP
   obtain ⟨rfl, rfl⟩ := Prod.mk.inj hf
   clear hf hp hlP_ hlE_
   go_enter Tryd.func14, Tryd.ntmps14
   go_wp2_with (first | (go_at_call 33; refine hT.mono ?_; rintro e w' ⟨rfl, rfl⟩) | (go_at_call 34; refine hP.mono ?_; rintro e w1 ⟨hb1, v, t, N, rfl⟩; have HB1 := Aside0.mk hb1; clear hb1))
   go_ret2
   exact ⟨rfl, HB1.out⟩
  | _ =>
   rw [hp] at hf hP
   simp only at hf hP
   obtain ⟨rfl, rfl⟩ := Prod.mk.inj hf
   clear hf hp hlP_ hlE_
   go_enter Tryd.func14, Tryd.ntmps14
   go_wp2_with (first | (go_at_call 33; refine hT.mono ?_; rintro e w' ⟨rfl, rfl⟩) | (go_at_call 34; refine hP.mono ?_; rintro e w1 ⟨hb1, v, t, N, rfl⟩; have HB1 := Aside0.mk hb1; clear hb1))
   go_ret2
   exact ⟨rfl, HB1.out⟩
 rw [if_neg hb] at h; cases h


/-! ### strings_Split: function 29: ours -/
/-- The library's MaxLen holds a number. -/
def LaidM (w : World) : Prop := ∃ m, w.cell? ⟨3, 0, none⟩ = some (.int .i64 m)
theorem LaidM.below {w w' : World} (h : LaidM w) (hb : Below w.heap.size w w') : LaidM w' := by
  obtain ⟨m, hm⟩ := h
  exact ⟨m, (hb.cell (p := ⟨3, 0, none⟩) (World.block_lt_of_cell? w _ hm)).trans hm⟩
/-- A new row of strings. -/
theorem new_strs (w : World) (e : Nat) (l : List ByteArray) (hl : l.length ≤ maxLen) : Kd.R Kd.string e (w.alloc (.cells (l.map Value.string).toArray e)) w.heap.size (fun _ => True) (.slice (some ⟨w.heap.size, 0, none⟩) l.length l.length) l := by
  refine ⟨fun _ _ => trivial, l.map Value.string, ⟨by simp [Kd.string, Kd.scalar], .inr ⟨w.heap.size, l.length, (l.map Value.string).toArray, rfl, Nat.le_refl _, ?_, Nat.le_refl _, hl, by simp [Kd.string, Kd.scalar], by simp only [Kd.string, Kd.scalar, Nat.mul_one]; exact List.take_of_length_le (by simp)⟩⟩, by simp [Kd.string, Kd.scalar], fun j p hj => ?_⟩
  · show (w.heap.push _)[w.heap.size]? = _
    simp
  · show (l.map Value.string |>.drop (j * 1)).take 1 = [Value.string p]
    rw [Nat.mul_one]
    obtain ⟨hj', rfl⟩ := List.getElem?_eq_some_iff.mp hj
    rw [List.drop_eq_getElem_cons (by simpa using hj')]
    simp
/-- The parts of a text. -/
def strings_Split.f (a0 a1 : ByteArray) : Option (List ByteArray) := if a0.size < 4294967281 ∧ 1 ≤ a1.size then some (Lib.splitB a1 0 (Lib.countB a0 a1) a0) else none
theorem strings_Split.calls (a0 a1 : ByteArray) (r : List ByteArray) (w : World) (hlM_ : LaidM w) (h : strings_Split.f a0 a1 = some r) :
  Calls Tryd.prog 29 #[.string a0, .string a1] w fun e w' => ∃ v0_ : Value, e = .returned v0_ ∧ Kd.R Kd.string 9 w' w.heap.size (fun _ => True) v0_ r ∧ Below w.heap.size w w' := by
 unfold strings_Split.f at h
 by_cases hb : a0.size < 4294967281 ∧ 1 ≤ a1.size
 ·rw [if_pos hb] at h
  obtain rfl := Option.some.inj h
  obtain ⟨m, hm⟩ := hlM_
  have hle := Lib.countB_le a1 hb.2 a0.size a0 (Nat.le_refl _)
  have hlen := Lib.splitB_all a1 hb.2 0 _ a0 rfl
  have hmax : (Lib.splitB a1 0 (Lib.countB a0 a1) a0).length ≤ maxLen := by rw [hlen]; unfold maxLen; omega
  refine (Tryd.strings_Split a0 a1 m w hb.1 hm hb.2).mono ?_
  rintro e w' ⟨rfl, rfl⟩
  have hr := new_strs w 9 _ hmax
  rw [hlen] at hr
  exact ⟨_, rfl, hr, (Below.refl _ w).alloc (Nat.le_refl _) _⟩
 rw [if_neg hb] at h; cases h


/-! ### impl_ReadList: function 12 -/
def impl_ReadList.l0 : Nat → ByteArray → List Int → List ByteArray → Int → Int → Option (List Int × Bool)
  | 0, _, _, _, _, _ => none
  | k + 1, x0, x4, x12, x13, x14 => if x14 < x13 then (if 0 ≤ x14 then (if x14 < (x12.length : Int) then ((impl_ReadDecimal.f (rdOf ByteArray.empty x12 x14)).bind fun bt105 => (if x4.length < 17592186044416 then (impl_ReadList.l0 k x0 (x4 ++ [bt105.1]) x12 x13 (wrap64 (x14 + 1))) else (none))) else (none)) else (none)) else ((impl_ListText.f k x4).bind fun t110 => (if t110.toList = x0.toList then (some (x4, true)) else (some (([] : List Int), false))))
def impl_ReadList.f (k : Nat) (a0 : ByteArray) : Option (List Int × Bool) := if a0.toList = ([45] : List UInt8) then (some (([] : List Int), true)) else ((strings_Split.f a0 (⟨#[44]⟩ : ByteArray)).bind fun t101 => (impl_ReadList.l0 k a0 ([] : List Int) t101 (t101.length : Int) 0))
theorem impl_ReadList.mono_l : ∀ k, (∀ y0 y1 y2 y3 y4, LeO (impl_ReadList.l0 k y0 y1 y2 y3 y4) (impl_ReadList.l0 (k + 1) y0 y1 y2 y3 y4))
  | 0 => fun _ _ _ _ _ r h => by simp [impl_ReadList.l0] at h
  | k + 1 => by
    have ih0 := impl_ReadList.mono_l k
    · intro y0 y1 y2 y3 y4
      unfold impl_ReadList.l0
      repeat' first
      | (with_reducible exact ih0 _ _ _ _ _)
      | (with_reducible exact impl_ListText.mono _ _)
      | (with_reducible exact LeO.refl _)
      | (with_reducible exact LeO.none _)
      | (with_reducible refine LeO.ite ?_ ?_)
      | (with_reducible refine LeO.bind ?_ (fun _ => ?_))
      | exact ih0 _ _ _ _ _
      | exact impl_ListText.mono _ _
      | exact LeO.none _
      | refine LeO.ite ?_ ?_
      | refine LeO.bind ?_ (fun _ => ?_)
theorem impl_ReadList.mono : ∀ a0 k, LeO (impl_ReadList.f k a0) (impl_ReadList.f (k + 1) a0) := by
  intro a0 k
  have ih0 := impl_ReadList.mono_l k
  unfold impl_ReadList.f
  repeat' first
      | (with_reducible exact ih0 _ _ _ _ _)
      | (with_reducible exact impl_ListText.mono _ _)
      | (with_reducible exact LeO.refl _)
      | (with_reducible exact LeO.none _)
      | (with_reducible refine LeO.ite ?_ ?_)
      | (with_reducible refine LeO.bind ?_ (fun _ => ?_))
      | exact ih0 _ _ _ _ _
      | exact impl_ListText.mono _ _
      | exact LeO.none _
      | refine LeO.ite ?_ ?_
      | refine LeO.bind ?_ (fun _ => ?_)
theorem Z12.z6 {P : Prop} (h : P := by repeat (first | exact (Kd.R_reads' HO_4.out).2.2 | (with_reducible refine Kd.C_alloc ?_ _) | (with_reducible refine Kd.C_drewN ?_ _) | (with_reducible refine Kd.C_drew ?_))) : P := h
theorem Z12.z5 {P : Prop} (h : P := by first | rfl | (simp [errW_none, errW_some] <;> rfl) | (simp [*, errW_none, errW_some] <;> rfl)) : P := h
theorem Z12.z4 {P : Prop} (h : P := by first | exact Kd.R_nil _ _ _ _ _ | exact Kd.N_nil _ _ _ _ _ | exact Kd.V_nil _ _ _ _ _ | exact Kd.Q_nil _ _ _ _ _ | exact Kd.S_nil _ _ _ _ _) : P := h
theorem Z12.z3 {P : Prop} (h : P := by (with_reducible repeat (first | apply Kd.R_alloc | apply Kd.R_drewN | apply Kd.R_drew)); exact HO_12.out) : P := h
theorem Z12.z2 {P : Prop} (h : P := by (try simp only [List.map_toArray, List.map_cons, List.map_nil]); first | done | rfl | (simp only [List.length_drop, List.length_take]; rfl)) : P := h
theorem Z12.z1 {P : Prop} (h : P := by (with_reducible repeat (first | apply Kd.R_alloc | apply Kd.R_drewN | apply Kd.R_drew)); exact HO_4.out) : P := h
theorem Z12.z0 {P : Prop} (h : P := by repeat (first | (with_reducible first | exact HB.out | apply below_alloc | apply pw_below_drewN | apply below_drew1) | exact HB.out)) : P := h
set_option maxHeartbeats 8000000 in
set_option maxRecDepth 100000 in
theorem impl_ReadList.calls (k : Nat) (a0 : ByteArray) (r1 : List Int) (r2 : Bool) (w : World) (hlP_ : LaidP w) (hlE_ : LaidE w) (hlM_ : LaidM w) (h : impl_ReadList.f k a0 = some (r1, r2)) :
  Calls Tryd.prog 12 #[.string a0] w fun e w' => ∃ v0_ : Value, e = .returned (.tuple #[v0_, .bool r2]) ∧ Kd.R (Kd.int .i64) 2 w' w.heap.size (fun _ => True) v0_ r1 ∧ Below w.heap.size w w' := by
 have HB := Aside0.mk (Below.refl w.heap.size w)
 have H : (if a0.toList = ([45] : List UInt8) then (some (([] : List Int), true)) else ((strings_Split.f a0 (⟨#[44]⟩ : ByteArray)).bind fun t101 => (impl_ReadList.l0 k a0 ([] : List Int) t101 (t101.length : Int) 0))) = some (r1, r2) := h
 clear h
 by_cases c2 : a0.toList = ([45] : List UInt8)
 ·rw [if_pos c2] at H
  have c2b0 : (a0.toList == ([45] : List UInt8)) = true := beq_iff_eq.mpr c2
  have c2b1 : (a0.toList != ([45] : List UInt8)) = false := bne_eq_false_iff_eq.mpr c2
  clear c2
  simp only [Option.some.injEq, Prod.mk.injEq] at H
  obtain ⟨rfl, rfl⟩ := H
  go_enter Tryd.func12, Tryd.ntmps12
  go_wp2
  go_ret2
  exact ⟨_, Z12.z5, Z12.z4, Z12.z0⟩
 rw [if_neg c2] at H
 have c2b0 : (a0.toList == ([45] : List UInt8)) = false := beq_eq_false_iff_ne.mpr c2
 have c2b1 : (a0.toList != ([45] : List UInt8)) = true := bne_iff_ne.mpr c2
 replace H := Option.bind_eq_some_iff.mp H
 obtain ⟨t101, A30, H⟩ := H
 replace H : (impl_ReadList.l0 k a0 ([] : List Int) t101 (t101.length : Int) 0) = some (r1, r2) := H
 have A3 := Aside0.mk A30
 clear A30
 have H' := Aside0.mk H
 clear H
 go_enter Tryd.func12, Tryd.ntmps12
 go_wp2_with (first | ((with_reducible refine gate_callee (f := 29) rfl ?_); refine goesL_ (some 12) rfl rfl Tryd.func29 (by kernel_rfl) rfl #[.string a0, .string (⟨#[44]⟩ : ByteArray)] rfl Z12.z2 ?_; (with_reducible refine (strings_Split.calls a0 (⟨#[44]⟩ : ByteArray) t101 _ ?side1 A3.out).mono ?_); (case side1 => exact (by exact LaidM.below hlM_ Z12.z0)); rintro e w4 ⟨v102, rfl, ho0, hb⟩; refine ⟨_, rfl, ?_⟩; have n0_ := Aside0.mk (Kd.R_lower ho0 (below_size Z12.z0)); have n1_ := Aside0.mk (below_step Z12.z0 hb); clear HB; have HO103 := n0_; have HB := n1_; clear n0_ n1_; (try clear hb); (try clear hb2); (try clear hk); (try clear hi); (try clear ho0); obtain ⟨Ao5, co5, eo5⟩ := Kd.R_slice HO103.out; subst eo5))
 go_loopg [4, 14] k (fun kq v4 v14 w' => ∃ (x4_1 : List Int) (x14_1 : Int), v14 = .int .i64 x14_1 ∧ Aside0 (impl_ReadList.l0 kq a0 x4_1 t101 (t101.length : Int) x14_1 = some (r1, r2)) ∧ Aside0 (kq ≤ k) ∧ Aside0 (Kd.R (Kd.int .i64) 2 w' w.heap.size (fun _ => True) v4 x4_1) ∧ Aside0 (Kd.R Kd.string 9 w' w.heap.size (fun _ => True) (.slice Ao5 t101.length co5) t101) ∧ Aside0 (Below w.heap.size w w'))
 case atStart => exact ⟨(([] : List Int)), (0), (by first | rfl | (simp; done) | (simp [*]; done)), H', ⟨Nat.le_refl _⟩, ⟨Z12.z4⟩, ⟨(by (with_reducible repeat (first | apply Kd.R_alloc | apply Kd.R_drewN | apply Kd.R_drew)); exact HO103.out)⟩, ⟨Z12.z0⟩⟩
 case round =>
  clear H'
  try clear c1
  try clear c2
  try clear c2b0
  try clear c2b1
  try clear p2
  obtain ⟨x4_1, x14_1, rfl, HA, HK1, HO_4, HO_12, HB⟩ := hrel
  cases gk with
  | zero => exact absurd HA.out (by simp [impl_ReadList.l0])
  | succ k1 =>
   have H := HA.out
   clear HA
   simp only [impl_ReadList.l0] at H
   by_cases c6 : x14_1 < (t101.length : Int)
   ·rw [if_pos c6] at H
    have c6b0 : decide (x14_1 < (t101.length : Int)) = true := decide_eq_true c6
    clear c6
    by_cases c7 : 0 ≤ x14_1
    ·rw [if_pos c7] at H
     have c7b0 : decide (0 ≤ x14_1) = true := decide_eq_true c7
     clear c7
     by_cases c8 : x14_1 < (t101.length : Int)
     ·rw [if_pos c8] at H
      have c8b0 : decide (x14_1 < (t101.length : Int)) = true := decide_eq_true c8
      clear c8
      replace H := Option.bind_eq_some_iff.mp H
      obtain ⟨⟨t105, t106⟩, A90, H⟩ := H
      replace H : (if x4_1.length < 17592186044416 then (impl_ReadList.l0 k1 a0 (x4_1 ++ [t105]) t101 (t101.length : Int) (wrap64 (x14_1 + 1))) else (none)) = some (r1, r2) := H
      have A9 := Aside0.mk A90
      clear A90
      by_cases c10 : x4_1.length < 17592186044416
      ·rw [if_pos c10] at H
       have LMc10 := Aside0.mk c10
       clear c10
       obtain ⟨y107, hy107⟩ : ∃ y_ : List Int, y_ = (x4_1 ++ [t105]) := ⟨_, rfl⟩
       replace H : (impl_ReadList.l0 k1 a0 y107 t101 (t101.length : Int) (wrap64 (x14_1 + 1))) = some (r1, r2) := by first | (rw [hy107]; with_reducible exact H) | (have H2_ := (Option.bind_some _ _).symm.trans H; rw [hy107]; with_reducible exact H2_) | (have H2_ := (Option.bind_some _ _).symm.trans H; with_reducible exact H2_) | with_reducible exact H | (rw [hy107]; exact H) | exact H
       have Ny107 := Aside0.mk hy107
       clear hy107
       have H' := Aside0.mk H
       clear H
       have p104 : 0 ≤ (x14_1 : Int) := of_decide_eq_true (by first | (with_reducible assumption) | assumption)
       have q104 : x14_1 < (t101.length : Int) := of_decide_eq_true (by first | (with_reducible assumption) | assumption)
       obtain ⟨ad104, e104, hx104_0⟩ := Kd.at_string (Kd.R_reads' HO_12.out).2.2 x14_1 p104 q104
       cases e104
       replace p104 := eq_true p104
       replace q104 := eq_true q104
       go_wp2_with (first | ((with_reducible refine gate_callee (f := 14) rfl ?_); refine goesL_ (some 20) rfl rfl Tryd.func14 (by kernel_rfl) rfl #[.string (rdOf ByteArray.empty t101 x14_1)] rfl Z12.z2 ?_; (with_reducible refine (impl_ReadDecimal.calls (rdOf ByteArray.empty t101 x14_1) t105 t106 _ ?side1 ?side2 A9.out).mono ?_); (case side1 => exact (by exact LaidP.below hlP_ Z12.z0)); (case side2 => exact (by exact LaidE.below hlE_ Z12.z0)); rintro e w11 ⟨rfl, hb⟩; refine ⟨_, rfl, ?_⟩; have n0_ := Aside0.mk (Kd.R_below Z12.z1 hb); have n1_ := Aside0.mk (Kd.R_below Z12.z3 hb); have n2_ := Aside0.mk (below_step Z12.z0 hb); clear HO_4 HO_12 HB; have HO_4 := n0_; have HO_12 := n1_; have HB := n2_; clear n0_ n1_ n2_; (try clear hb); (try clear hb2); (try clear hk); (try clear hi)) | ((with_reducible refine gate_builtin (b := .append) (xs := #[.tmp 23, .tmp 25]) rfl ?_); at_builtin; refine Kd.R_append (Kd.int .i64) (w0 := w) w.heap.size rfl (.tmp 23) (.tmp 25) 30 2 (.int .i64 0) 8 rfl Tryd.underlying30 info2 rfl (by decide) (by omega) u4 x4_1 t105 [.int .i64 t105] (fun _ => True) (fun _ => False) rfl rfl ?aP (fun _ hk => hk.elim) ?aF ?aO ?aB ?aS ?aL ?_; (case aP => exact rfl); (case aB => exact Z12.z0); (case aF => exact (fun _ _ => trivial)); (case aO => exact Z12.z1); (case aS => exact (below_size Z12.z0)); (case aL => have := LMc10.out; omega); intro v108 w12 ho hb hg hat; rw [← Ny107.out] at ho; have n0_ := Aside0.mk (Kd.R_over' Z12.z3 (Kd.R_typed Z12.z1) (by decide) hg); have n1_ := Aside0.mk (hb); have n2_ := Aside0.mk (ho); clear HO_12 HB HO_4; have HO_12 := n0_; have HB := n1_; have HO109 := n2_; clear n0_ n1_ n2_; clear ho hb hg hat))
       go_roundg k1
       case measure => have := HK1.out; omega
       case rel => exact ⟨(y107), (wrap64 (x14_1 + 1)), (by first | rfl | (simp; done) | (simp [*]; done)), H', ⟨(by have := HK1.out; omega)⟩, ⟨(by (with_reducible repeat (first | apply Kd.R_alloc | apply Kd.R_drewN | apply Kd.R_drew)); exact HO109.out)⟩, ⟨Z12.z3⟩, ⟨Z12.z0⟩⟩
      rw [if_neg c10] at H
      exact absurd H (by simp)
     rw [if_neg c8] at H
     exact absurd H (by simp)
    rw [if_neg c7] at H
    exact absurd H (by simp)
   rw [if_neg c6] at H
   have c6b0 : decide (x14_1 < (t101.length : Int)) = false := decide_eq_false c6
   clear c6
   replace H := Option.bind_eq_some_iff.mp H
   obtain ⟨t110, A130, H⟩ := H
   replace H : (if t110.toList = a0.toList then (some (x4_1, true)) else (some (([] : List Int), false))) = some (r1, r2) := H
   have A13 := Aside0.mk A130
   clear A130
   by_cases c14 : t110.toList = a0.toList
   ·rw [if_pos c14] at H
    have c14b0 : (t110.toList == a0.toList) = true := beq_iff_eq.mpr c14
    have c14b1 : (t110.toList != a0.toList) = false := bne_eq_false_iff_eq.mpr c14
    clear c14
    simp only [Option.some.injEq, Prod.mk.injEq] at H
    obtain ⟨rfl, rfl⟩ := H
    obtain ⟨Ao15, co15, eo15⟩ := Kd.R_slice HO_4.out
    subst eo15
    go_wp2_with (first | ((with_reducible refine gate_callee (f := 13) rfl ?_); refine goesL_ (some 29) rfl rfl Tryd.func13 (by kernel_rfl) rfl #[.slice Ao15 x4_1.length co15] rfl Z12.z2 ?_; (with_reducible refine (impl_ListText.calls k1 _ _ x4_1 t110 _ ?side1 ?side2 ?side3 A13.out).mono ?_); (case side1 => exact Z12.z6); (case side2 => exact (Kd.R_reads' HO_4.out).2.1); (case side3 => exact (by exact LaidP.below hlP_ Z12.z0)); rintro e w16 ⟨rfl, hb⟩; refine ⟨_, rfl, ?_⟩; have n0_ := Aside0.mk (Kd.R_below Z12.z1 hb); have n1_ := Aside0.mk (Kd.R_below Z12.z3 hb); have n2_ := Aside0.mk (below_step Z12.z0 hb); clear HO_4 HO_12 HB; have HO_4 := n0_; have HO_12 := n1_; have HB := n2_; clear n0_ n1_ n2_; (try clear hb); (try clear hb2); (try clear hk); (try clear hi)))
    go_ret2
    exact ⟨_, Z12.z5, Z12.z1, Z12.z0⟩
   rw [if_neg c14] at H
   have c14b0 : (t110.toList == a0.toList) = false := beq_eq_false_iff_ne.mpr c14
   have c14b1 : (t110.toList != a0.toList) = true := bne_iff_ne.mpr c14
   simp only [Option.some.injEq, Prod.mk.injEq] at H
   obtain ⟨rfl, rfl⟩ := H
   obtain ⟨Ao17, co17, eo17⟩ := Kd.R_slice HO_4.out
   subst eo17
   go_wp2_with (first | ((with_reducible refine gate_callee (f := 13) rfl ?_); refine goesL_ (some 29) rfl rfl Tryd.func13 (by kernel_rfl) rfl #[.slice Ao17 x4_1.length co17] rfl Z12.z2 ?_; (with_reducible refine (impl_ListText.calls k1 _ _ x4_1 t110 _ ?side1 ?side2 ?side3 A13.out).mono ?_); (case side1 => exact Z12.z6); (case side2 => exact (Kd.R_reads' HO_4.out).2.1); (case side3 => exact (by exact LaidP.below hlP_ Z12.z0)); rintro e w18 ⟨rfl, hb⟩; refine ⟨_, rfl, ?_⟩; have n0_ := Aside0.mk (Kd.R_below Z12.z1 hb); have n1_ := Aside0.mk (Kd.R_below Z12.z3 hb); have n2_ := Aside0.mk (below_step Z12.z0 hb); clear HO_4 HO_12 HB; have HO_4 := n0_; have HO_12 := n1_; have HB := n2_; clear n0_ n1_ n2_; (try clear hb); (try clear hb2); (try clear hk); (try clear hi)))
   go_ret2
   exact ⟨_, Z12.z5, Z12.z4, Z12.z0⟩

end Go.Proofs.YtkndhjchlnepmaaDoor.F
end
