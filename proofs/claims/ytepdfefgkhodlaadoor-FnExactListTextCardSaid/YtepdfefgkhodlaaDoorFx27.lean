-- Written by gprint.py, a program of this session's that drives the kit's print, for this claim. Not trusted: checked as any text.
import Derived.Test.YtepdfefgkhodlaaDoorFx0
namespace Go.Proofs.YtepdfefgkhodlaaDoor.F
open Go.RowKit Go.Proofs.YtepdfefgkhodlaaDoorW.PrintWords Go.Proofs.YtepdfefgkhodlaaDoorW.PrintLast Go.Proofs.YtepdfefgkhodlaaDoorW.PrintMore
attribute [local go_sem] max2_int min2_int max_two min_two max_three min_three max_four min_four   -- for this text's walks alone
set_option linter.unusedVariables false
set_option linter.unusedSimpArgs false

/-! ### strings_Join: function 38: ours -/
/-- Texts joined. -/
def strings_Join.f (l0 : List ByteArray) (a1 : ByteArray) : Option ByteArray := if l0.length ≤ 1048576 ∧ (Lib.join (l0.map (·.data.toList)) a1.data.toList).length ≤ 140737488355328 then some ⟨(Lib.join (l0.map (·.data.toList)) a1.data.toList).toArray⟩ else none
theorem strings_Join.calls (A0 : Option Addr) (c0 : Nat) (l0 : List ByteArray) (a1 : ByteArray) (r : ByteArray) (w : World) (hr0 : Kd.C Kd.string w A0 l0.length l0) (hc0 : l0.length ≤ c0) (h : strings_Join.f l0 a1 = some r) :
    Calls Tryd.prog 38 #[.slice A0 l0.length c0, .string a1] w fun e w' => e = .returned (.string r) ∧ Below w.heap.size w w' := by
  unfold strings_Join.f at h
  by_cases hb : l0.length ≤ 1048576 ∧ (Lib.join (l0.map (·.data.toList)) a1.data.toList).length ≤ 140737488355328
  · rw [if_pos hb] at h
    obtain rfl := Option.some.inj h
    cases l0 with
    | nil =>
      refine (Tryd.strings_Join_none A0 c0 a1 w).mono ?_
      rintro e w' ⟨rfl, rfl⟩
      exact ⟨rfl, Below.refl _ _⟩
    | cons x xs =>
      obtain ⟨ad, rfl, hcell⟩ := hr0.2.2 (by simp)
      have hc : ∀ (j : Nat) y, (x :: xs)[j]? = some y → w.cell? (ad.add j) = some (.string y) := fun j y hj => by
        obtain ⟨c, hl, hK, hu⟩ := hcell j y hj
        have hK' : c = [Value.string y] := hK
        subst hK'
        have := hu 0 _ rfl
        simpa [Kd.string, Kd.scalar] using this
      have h0 := hc 0 x rfl
      obtain ⟨bk, o, sp⟩ := ad
      have hsp : sp = none := by
        cases sp with
        | none => rfl
        | some q =>
          exfalso
          simp only [Addr.add, World.cell?, if_true] at h0
          cases hh : w.heap[bk]? with
          | none => rw [hh] at h0; cases h0
          | some ob => cases ob <;> (rw [hh] at h0; simp at h0)
      subst hsp
      have hbk : bk < w.heap.size := World.block_lt_of_cell? w _ h0
      refine (Tryd.strings_Join bk o c0 (x :: xs) a1 w (fun j y hj => ?_) hbk (by have := hb.1; omega) hc0 hb.2).mono ?_
      · have := hc j y hj
        by_cases hj0 : j = 0
        · subst hj0; simpa [Addr.add] using this
        · simpa [Addr.add, hj0] using this
      · rintro e w' ⟨rfl, hbel⟩
        exact ⟨rfl, hbel⟩
  · rw [if_neg hb] at h; cases h

end Go.Proofs.YtepdfefgkhodlaaDoor.F
