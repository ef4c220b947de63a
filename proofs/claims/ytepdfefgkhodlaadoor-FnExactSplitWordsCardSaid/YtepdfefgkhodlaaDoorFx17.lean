-- Written by gprint.py, a program of this session's that drives the kit's print, for this claim. Not trusted: checked as any text.
import Derived.Test.YtepdfefgkhodlaaDoorFx0
import Derived.Test.YtepdfefgkhodlaaDoorFx3
namespace Go.Proofs.YtepdfefgkhodlaaDoor.F
open Go.RowKit Go.Proofs.YtepdfefgkhodlaaDoorW.PrintWords Go.Proofs.YtepdfefgkhodlaaDoorW.PrintLast Go.Proofs.YtepdfefgkhodlaaDoorW.PrintMore
attribute [local go_sem] max2_int min2_int max_two min_two max_three min_three max_four min_four   -- for this text's walks alone
set_option linter.unusedVariables false
set_option linter.unusedSimpArgs false

/-! ### impl_ReadDecimal: function 16: ours -/
/-- The library's two errors hold what an interface holds. -/
def LaidE (w : World) : Prop := (∃ tp p, w.cell? ⟨1, 0, none⟩ = some (.iface tp p)) ∧ ∃ tp p, w.cell? ⟨2, 0, none⟩ = some (.iface tp p)
theorem LaidE.below {w w' : World} (h : LaidE w) (hb : Below w.heap.size w w') : LaidE w' := by
  obtain ⟨⟨t1, p1, h1⟩, t2, p2, h2⟩ := h
  exact ⟨⟨t1, p1, (hb.cell (p := ⟨1, 0, none⟩) (World.block_lt_of_cell? w _ h1)).trans h1⟩, t2, p2, (hb.cell (p := ⟨2, 0, none⟩) (World.block_lt_of_cell? w _ h2)).trans h2⟩
/-- The number with a decimal text. -/
def readDec (s : ByteArray) : Int × Bool :=
  if (Lib.trimPrefix s.data.toList [45]).length < 1 ∨ 18 < (Lib.trimPrefix s.data.toList [45]).length then (0, false) else
  match Lib.parseIntB 64 s.data.toList with
  | .ok v => if Lib.itoa v = s.data.toList then (v, true) else (0, false)
  | _ => (0, false)
def impl_ReadDecimal.f (a0 : ByteArray) : Option (Int × Bool) := if a0.size ≤ 281474976710656 then some (readDec a0) else none
theorem strconv_ParseInt.ends (s : ByteArray) (hs : s.size ≤ 281474976710656) (w : World) (hl : LaidE w) :
    Calls Tryd.prog 32 #[.string s, .int .i64 10, .int .i64 64] w fun e w' => Below w.heap.size w w' ∧
      match Lib.parseIntB 64 s.data.toList with
      | .ok v => e = .returned (.tuple #[.int .i64 v, .nilIface])
      | _ => ∃ (v : Int) (t N : Nat), e = .returned (.tuple #[.int .i64 v, .iface t (.pointer (some ⟨N, 0, none⟩))]) := by
  obtain ⟨⟨t1, p1, h1⟩, t2, p2, h2⟩ := hl
  cases h : Lib.parseIntB 64 s.data.toList with
  | ok v =>
    refine (Tryd.strconv_ParseInt_10_at64_ok s (by omega) v h w).mono ?_
    rintro e w' ⟨rfl, rfl | ⟨t, rfl⟩⟩
    · exact ⟨Below.refl _ _, rfl⟩
    · exact ⟨Lib.bytesWorld_below _ _ _, rfl⟩
  | range =>
    refine (Tryd.strconv_ParseInt_10_at64_range s hs h _ w h2 (.inr ⟨_, _, rfl⟩)).mono ?_
    rintro e w' ⟨N, rfl, _, _, hb⟩
    exact ⟨hb, _, _, _, rfl⟩
  | _ =>
    refine (Tryd.strconv_ParseInt_10_at64_syntax s hs h _ w h1 (.inr ⟨_, _, rfl⟩)).mono ?_
    rintro e w' ⟨N, rfl, _, _, hb⟩
    exact ⟨hb, _, _, _, rfl⟩
set_option maxHeartbeats 4000000 in
set_option maxRecDepth 100000 in
theorem impl_ReadDecimal.calls (a0 : ByteArray) (r1 : Int) (r2 : Bool) (w : World) (hlP_ : LaidP w) (hlE_ : LaidE w) (h : impl_ReadDecimal.f a0 = some (r1, r2)) :
    Calls Tryd.prog 16 #[.string a0] w fun e w' => e = .returned (.tuple #[.int .i64 r1, .bool r2]) ∧ Below w.heap.size w w' := by
  unfold impl_ReadDecimal.f at h
  by_cases hb : a0.size ≤ 281474976710656
  · rw [if_pos hb] at h
    have hf := Option.some.inj h
    clear h
    have hT := Tryd.strings_TrimPrefix a0 (⟨#[45]⟩ : ByteArray) w
    have hP := strconv_ParseInt.ends a0 hb w hlE_
    unfold readDec at hf
    have e45 : (⟨#[45]⟩ : ByteArray).data.toList = [45] := rfl
    rw [e45] at hT
    have hd : (⟨(Lib.trimPrefix a0.data.toList [45]).toArray⟩ : ByteArray).size = (Lib.trimPrefix a0.data.toList [45]).length := by simp [ByteArray.size]
    generalize (⟨(Lib.trimPrefix a0.data.toList [45]).toArray⟩ : ByteArray) = d at hT hd
    rw [← hd] at hf
    clear hd e45 hb
    by_cases h1 : d.size < 1
    · rw [if_pos (.inl h1)] at hf
      obtain ⟨rfl, rfl⟩ := Prod.mk.inj hf
      have b1 : decide ((d.size : Int) < 1) = true := decide_eq_true (by omega)
      have b2 : decide (d.size < 1) = true := decide_eq_true h1
      clear hf hP h1
      go_enter Tryd.func16, Tryd.ntmps16
      go_wp2_with (go_at_call 31; refine hT.mono ?_; rintro e w' ⟨rfl, rfl⟩)
      go_ret2
      exact ⟨rfl, Below.refl _ _⟩
    · have b1 : decide ((d.size : Int) < 1) = false := decide_eq_false (by omega)
      have b2 : decide (d.size < 1) = false := decide_eq_false h1
      by_cases h2 : 18 < d.size
      · rw [if_pos (.inr h2)] at hf
        obtain ⟨rfl, rfl⟩ := Prod.mk.inj hf
        have b3 : decide (18 < (d.size : Int)) = true := decide_eq_true (by omega)
        have b4 : decide (18 < d.size) = true := decide_eq_true h2
        clear hf hP h1 h2
        go_enter Tryd.func16, Tryd.ntmps16
        go_wp2_with (go_at_call 31; refine hT.mono ?_; rintro e w' ⟨rfl, rfl⟩)
        go_ret2
        exact ⟨rfl, Below.refl _ _⟩
      · rw [if_neg (fun hh => hh.elim h1 h2)] at hf
        have b3 : decide (18 < (d.size : Int)) = false := decide_eq_false (by omega)
        have b4 : decide (18 < d.size) = false := decide_eq_false h2
        clear h1 h2
        cases hp : Lib.parseIntB 64 a0.data.toList with
        | ok v =>
          rw [hp] at hf hP
          simp only at hf hP
          have hv := Lib.parseIntB_bounds hp
          rw [show ((2 ^ (64 - 1) : Nat) : Int) = 9223372036854775808 by decide] at hv
          have hD : impl_Decimal.f v = some ⟨(Lib.itoa v).toArray⟩ := by
            unfold impl_Decimal.f
            rw [if_pos (by have := hv; omega)]
          have hE : (⟨(Lib.itoa v).toArray⟩ : ByteArray).toList = Lib.itoa v := by rw [Lib.toList_data]
          have hS : a0.toList = a0.data.toList := Lib.toList_data a0
          by_cases he : Lib.itoa v = a0.data.toList
          · rw [if_pos he] at hf
            obtain ⟨rfl, rfl⟩ := Prod.mk.inj hf
            rw [← hE, ← hS] at he
            generalize (⟨(Lib.itoa v).toArray⟩ : ByteArray) = x at he hD
            have q1 : (x.toList == a0.toList) = true := beq_iff_eq.mpr he
            have q2 : (x.toList != a0.toList) = false := bne_eq_false_iff_eq.mpr he
            have HD := Aside0.mk hD
            have HP := Aside0.mk hlP_
            clear hf hv hD hE hS he hp hlP_ hlE_
            go_enter Tryd.func16, Tryd.ntmps16
            go_wp2_with (first | (go_at_call 31; refine hT.mono ?_; rintro e w' ⟨rfl, rfl⟩) | (go_at_call 32; refine hP.mono ?_; rintro e w1 ⟨hb1, rfl⟩; have HB1 := Aside0.mk hb1; clear hb1) | (go_at_call 9; refine (impl_Decimal.calls v x w1 (LaidP.below HP.out HB1.out) HD.out).mono ?_; rintro e w2 ⟨rfl, hb2⟩; have HB2 := Aside0.mk hb2; clear hb2))
            go_ret2
            exact ⟨rfl, below_step HB1.out HB2.out⟩
          · rw [if_neg he] at hf
            obtain ⟨rfl, rfl⟩ := Prod.mk.inj hf
            rw [← hE, ← hS] at he
            generalize (⟨(Lib.itoa v).toArray⟩ : ByteArray) = x at he hD
            have q1 : (x.toList == a0.toList) = false := beq_eq_false_iff_ne.mpr he
            have q2 : (x.toList != a0.toList) = true := bne_iff_ne.mpr he
            have HD := Aside0.mk hD
            have HP := Aside0.mk hlP_
            clear hf hv hD hE hS he hp hlP_ hlE_
            go_enter Tryd.func16, Tryd.ntmps16
            go_wp2_with (first | (go_at_call 31; refine hT.mono ?_; rintro e w' ⟨rfl, rfl⟩) | (go_at_call 32; refine hP.mono ?_; rintro e w1 ⟨hb1, rfl⟩; have HB1 := Aside0.mk hb1; clear hb1) | (go_at_call 9; refine (impl_Decimal.calls v x w1 (LaidP.below HP.out HB1.out) HD.out).mono ?_; rintro e w2 ⟨rfl, hb2⟩; have HB2 := Aside0.mk hb2; clear hb2))
            go_ret2
            exact ⟨rfl, below_step HB1.out HB2.out⟩
        | range =>
          rw [hp] at hf hP
          simp only at hf hP
          obtain ⟨rfl, rfl⟩ := Prod.mk.inj hf
          clear hf hp hlP_ hlE_
          go_enter Tryd.func16, Tryd.ntmps16
          go_wp2_with (first | (go_at_call 31; refine hT.mono ?_; rintro e w' ⟨rfl, rfl⟩) | (go_at_call 32; refine hP.mono ?_; rintro e w1 ⟨hb1, v, t, N, rfl⟩; have HB1 := Aside0.mk hb1; clear hb1))
          go_ret2
          exact ⟨rfl, HB1.out⟩
        | _ =>
          rw [hp] at hf hP
          simp only at hf hP
          obtain ⟨rfl, rfl⟩ := Prod.mk.inj hf
          clear hf hp hlP_ hlE_
          go_enter Tryd.func16, Tryd.ntmps16
          go_wp2_with (first | (go_at_call 31; refine hT.mono ?_; rintro e w' ⟨rfl, rfl⟩) | (go_at_call 32; refine hP.mono ?_; rintro e w1 ⟨hb1, v, t, N, rfl⟩; have HB1 := Aside0.mk hb1; clear hb1))
          go_ret2
          exact ⟨rfl, HB1.out⟩
  · rw [if_neg hb] at h; cases h

end Go.Proofs.YtepdfefgkhodlaaDoor.F
