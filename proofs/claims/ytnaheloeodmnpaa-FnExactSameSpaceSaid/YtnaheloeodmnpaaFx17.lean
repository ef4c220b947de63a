-- Written by gprint.py, a program of this session's that drives the kit's print, for this claim. Not trusted: checked as any text.
import Derived.Test.YtnaheloeodmnpaaFx0
import Derived.Test.YtnaheloeodmnpaaFx3
import Derived.Test.YtnaheloeodmnpaaFx6
import Derived.Test.YtnaheloeodmnpaaFx9
import Derived.Test.YtnaheloeodmnpaaFx13
import Derived.Test.YtnaheloeodmnpaaFx16
namespace Go.Proofs.Ytnaheloeodmnpaa.F
open Go.RowKit Go.Proofs.YtnaheloeodmnpaaW.PrintWords Go.Proofs.YtnaheloeodmnpaaW.PrintLast Go.Proofs.YtnaheloeodmnpaaW.PrintMore
attribute [local go_sem] max2_int min2_int max_two min_two max_three min_three max_four min_four   -- for this text's walks alone
set_option linter.unusedVariables false
set_option linter.unusedSimpArgs false

/-! ### laws_FnExactSameSpace: function 3 -/
def laws_FnExactSameSpace.f (k : Nat) (a0_0 : Int) (a0_1 : Int) (l0_2 : List (List Int)) (a1_0 : Int) (a1_1 : Int) (l1_2 : List (List Int)) : Option (Bool) := (laws_szSpace.f k a0_0 a0_1 l0_2 1048576).bind fun t103 => (if t103 < 0 then (some true) else ((laws_szSpace.f k a1_0 a1_1 l1_2 t103).bind fun t104 => (if t104 < 0 then (some true) else ((laws_toSpace.f k a0_0 a0_1 l0_2).bind fun bt105 => ((laws_toSpace.f k a1_0 a1_1 l1_2).bind fun bt110 => ((spec_SameSpace.f k bt105.1 bt105.2.1 bt105.2.2 bt110.1 bt110.2.1 bt110.2.2).bind fun t115 => ((laws_toSpace.f k a0_0 a0_1 l0_2).bind fun bt116 => ((laws_toSpace.f k a1_0 a1_1 l1_2).bind fun bt122 => ((impl_SameSpace.f k bt116.1 bt116.2.1 bt116.2.2 bt122.1 bt122.2.1 bt122.2.2).bind fun t128 => (if (t128 != t115) = true then (some false) else ((laws_toSpace.f k a0_0 a0_1 l0_2).bind fun bt129 => ((laws_eqSpace.f k bt116.1 bt116.2.1 bt116.2.2 bt129.1 bt129.2.1 bt129.2.2).bind fun t134 => (if t134 = true then ((laws_toSpace.f k a1_0 a1_1 l1_2).bind fun bt135 => ((laws_eqSpace.f k bt122.1 bt122.2.1 bt122.2.2 bt135.1 bt135.2.1 bt135.2.2).bind fun t140 => (if t140 = true then (some true) else (some false)))) else (some false))))))))))))))
theorem laws_FnExactSameSpace.mono : ∀ a0 a1 a2 a3 a4 a5 k, LeO (laws_FnExactSameSpace.f k a0 a1 a2 a3 a4 a5) (laws_FnExactSameSpace.f (k + 1) a0 a1 a2 a3 a4 a5) := by
  intro a0 a1 a2 a3 a4 a5 k
  unfold laws_FnExactSameSpace.f
  repeat' first
      | (with_reducible exact impl_SameSpace.mono _ _ _ _ _ _ _)
      | (with_reducible exact laws_eqSpace.mono _ _ _ _ _ _ _)
      | (with_reducible exact laws_szSpace.mono _ _ _ _ _)
      | (with_reducible exact laws_toSpace.mono _ _ _ _)
      | (with_reducible exact spec_SameSpace.mono _ _ _ _ _ _ _)
      | (with_reducible exact LeO.refl _)
      | (with_reducible exact LeO.none _)
      | (with_reducible refine LeO.ite ?_ ?_)
      | (with_reducible refine LeO.bind ?_ (fun _ => ?_))
      | exact impl_SameSpace.mono _ _ _ _ _ _ _
      | exact laws_eqSpace.mono _ _ _ _ _ _ _
      | exact laws_szSpace.mono _ _ _ _ _
      | exact laws_toSpace.mono _ _ _ _
      | exact spec_SameSpace.mono _ _ _ _ _ _ _
      | exact LeO.none _
      | refine LeO.ite ?_ ?_
      | refine LeO.bind ?_ (fun _ => ?_)
theorem Z3.bb {w0 w w1 : World} {g : Nat} {o : Obj} (_B : Aside0 (w0.heap[g]? = some o)) (h : w.heap[g]? = some o) (hb : Below w.heap.size w w1) : w1.heap[g]? = some o := blk_below h hb
theorem Z3.bl {w0 w : World} {g : Nat} {o : Obj} (_B : Aside0 (w0.heap[g]? = some o)) (h : w.heap[g]? = some o) : g < w.heap.size := blk_lt h
theorem Z3.k {p : Prop} (h : p) : Aside0 p := ⟨h⟩
theorem Z3.z60 {P : Prop} (h : P := by repeat (first | exact (Kd.S_reads' HO126.out).2.2 | (with_reducible refine Kd.C_alloc ?_ _) | (with_reducible refine Kd.C_drewN ?_ _) | (with_reducible refine Kd.C_drew ?_))) : P := h
theorem Z3.z59 {P : Prop} (h : P := by repeat (first | exact (Kd.S_reads' HO139.out).2.2 | (with_reducible refine Kd.C_alloc ?_ _) | (with_reducible refine Kd.C_drewN ?_ _) | (with_reducible refine Kd.C_drew ?_))) : P := h
theorem Z3.z58 {P : Prop} (h : P := by rw [hg]; exact (below_size Z3.z10)) : P := h
theorem Z3.z57 {P : Prop} (h : P := by rw [hg]; exact (below_size Z3.z15)) : P := h
theorem Z3.z56 {P : Prop} (h : P := by rw [hg]; exact Nat.ne_of_gt (Z3.bl BK102 Z3.z2)) : P := h
theorem Z3.z55 {P : Prop} (h : P := by rw [hg]; exact Nat.ne_of_lt (Z3.bl BK102 Z3.z2)) : P := h
theorem Z3.z54 {P : Prop} (h : P := by repeat (first | exact (Kd.S_reads' HO120.out).2.2 | (with_reducible refine Kd.C_alloc ?_ _) | (with_reducible refine Kd.C_drewN ?_ _) | (with_reducible refine Kd.C_drew ?_))) : P := h
theorem Z3.z53 {P : Prop} (h : P := by repeat (first | exact (Kd.S_reads' HO133.out).2.2 | (with_reducible refine Kd.C_alloc ?_ _) | (with_reducible refine Kd.C_drewN ?_ _) | (with_reducible refine Kd.C_drew ?_))) : P := h
theorem Z3.z52 {P : Prop} (h : P := by rw [hg]; exact Nat.ne_of_gt (Z3.bl BK101 Z3.z1)) : P := h
theorem Z3.z51 {P : Prop} (h : P := by rw [hg]; exact Nat.ne_of_lt (Z3.bl BK101 Z3.z1)) : P := h
theorem Z3.z50 {P : Prop} (h : P := by first | rfl | (simp [errW_none, errW_some] <;> rfl) | (simp [*, errW_none, errW_some] <;> rfl)) : P := h
theorem Z3.z49 {P : Prop} (h : P := by (with_reducible repeat (first | apply Kd.S_alloc | apply Kd.S_drewN | apply Kd.S_drew)); exact (Kd.S_mono (Kd.S_far (p := ⟨gb121, 2, none⟩) (Kd.S_far (p := ⟨gb121, 1, none⟩) (Kd.S_far (p := ⟨gb121, 0, none⟩) (Kd.S_types HO109.out BK121.out (by decide)) (fun _ hk => hk.2) (.int .i64 t116)) (fun _ hk => hk.2) (.int .i64 t117)) (fun _ hk => hk.2) (.slice Ao45 t118.length co45)) (fun _ h_ => h_.1))) : P := h
theorem Z3.z48 {P : Prop} (h : P := by (with_reducible repeat (first | apply Kd.S_alloc | apply Kd.S_drewN | apply Kd.S_drew)); exact (Kd.S_mono (Kd.S_far (p := ⟨gb121, 2, none⟩) (Kd.S_far (p := ⟨gb121, 1, none⟩) (Kd.S_far (p := ⟨gb121, 0, none⟩) (Kd.S_types HO109.out BK121.out (by decide)) (fun _ hk => hk.2) (.int .i64 t116)) (fun _ hk => hk.2) (.int .i64 t117)) (fun _ hk => hk.2) (.slice Ao81 t118.length co81)) (fun _ h_ => h_.1))) : P := h
theorem Z3.z47 {P : Prop} (h : P := by (with_reducible repeat (first | apply Kd.S_alloc | apply Kd.S_drewN | apply Kd.S_drew)); exact (Kd.S_mono (Kd.S_far (p := ⟨gb121, 2, none⟩) (Kd.S_far (p := ⟨gb121, 1, none⟩) (Kd.S_far (p := ⟨gb121, 0, none⟩) (Kd.S_types HO114.out BK121.out (by decide)) (fun _ hk => hk.2) (.int .i64 t116)) (fun _ hk => hk.2) (.int .i64 t117)) (fun _ hk => hk.2) (.slice Ao45 t118.length co45)) (fun _ h_ => h_.1))) : P := h
theorem Z3.z46 {P : Prop} (h : P := by (with_reducible repeat (first | apply Kd.S_alloc | apply Kd.S_drewN | apply Kd.S_drew)); exact (Kd.S_mono (Kd.S_far (p := ⟨gb121, 2, none⟩) (Kd.S_far (p := ⟨gb121, 1, none⟩) (Kd.S_far (p := ⟨gb121, 0, none⟩) (Kd.S_types HO114.out BK121.out (by decide)) (fun _ hk => hk.2) (.int .i64 t116)) (fun _ hk => hk.2) (.int .i64 t117)) (fun _ hk => hk.2) (.slice Ao81 t118.length co81)) (fun _ h_ => h_.1))) : P := h
theorem Z3.z45 {P : Prop} (h : P := by (with_reducible repeat (first | apply Kd.S_alloc | apply Kd.S_drewN | apply Kd.S_drew)); exact (Kd.S_mono (Kd.S_far (p := ⟨gb121, 2, none⟩) (Kd.S_far (p := ⟨gb121, 1, none⟩) (Kd.S_far (p := ⟨gb121, 0, none⟩) (Kd.S_types HO120.out BK121.out (by decide)) (fun _ hk => hk.2) (.int .i64 t116)) (fun _ hk => hk.2) (.int .i64 t117)) (fun _ hk => hk.2) (.slice Ao45 t118.length co45)) (fun _ h_ => h_.1))) : P := h
theorem Z3.z44 {P : Prop} (h : P := by (with_reducible repeat (first | apply Kd.S_alloc | apply Kd.S_drewN | apply Kd.S_drew)); exact (Kd.S_mono (Kd.S_far (p := ⟨gb121, 2, none⟩) (Kd.S_far (p := ⟨gb121, 1, none⟩) (Kd.S_far (p := ⟨gb121, 0, none⟩) (Kd.S_types HO120.out BK121.out (by decide)) (fun _ hk => hk.2) (.int .i64 t116)) (fun _ hk => hk.2) (.int .i64 t117)) (fun _ hk => hk.2) (.slice Ao81 t118.length co81)) (fun _ h_ => h_.1))) : P := h
theorem Z3.z43 {P : Prop} (h : P := by (with_reducible repeat (first | apply Kd.S_alloc | apply Kd.S_drewN | apply Kd.S_drew)); exact (Kd.S_mono (Kd.S_far (p := ⟨gb127, 2, none⟩) (Kd.S_far (p := ⟨gb127, 1, none⟩) (Kd.S_far (p := ⟨gb127, 0, none⟩) (Kd.S_types HO120.out BK127.out (by decide)) (fun _ hk => hk.2) (.int .i64 t122)) (fun _ hk => hk.2) (.int .i64 t123)) (fun _ hk => hk.2) (.slice Ao53 t124.length co53)) (fun _ h_ => h_.1))) : P := h
theorem Z3.z42 {P : Prop} (h : P := by (with_reducible repeat (first | apply Kd.S_alloc | apply Kd.S_drewN | apply Kd.S_drew)); exact (Kd.S_mono (Kd.S_far (p := ⟨gb127, 2, none⟩) (Kd.S_far (p := ⟨gb127, 1, none⟩) (Kd.S_far (p := ⟨gb127, 0, none⟩) (Kd.S_types HO120.out BK127.out (by decide)) (fun _ hk => hk.2) (.int .i64 t122)) (fun _ hk => hk.2) (.int .i64 t123)) (fun _ hk => hk.2) (.slice Ao89 t124.length co89)) (fun _ h_ => h_.1))) : P := h
theorem Z3.z41 {P : Prop} (h : P := by (with_reducible repeat (first | apply Kd.S_alloc | apply Kd.S_drewN | apply Kd.S_drew)); exact (Kd.S_mono (Kd.S_far (p := ⟨gb127, 2, none⟩) (Kd.S_far (p := ⟨gb127, 1, none⟩) (Kd.S_far (p := ⟨gb127, 0, none⟩) (Kd.S_types HO126.out BK127.out (by decide)) (fun _ hk => hk.2) (.int .i64 t122)) (fun _ hk => hk.2) (.int .i64 t123)) (fun _ hk => hk.2) (.slice Ao53 t124.length co53)) (fun _ h_ => h_.1))) : P := h
theorem Z3.z40 {P : Prop} (h : P := by (with_reducible repeat (first | apply Kd.S_alloc | apply Kd.S_drewN | apply Kd.S_drew)); exact (Kd.S_mono (Kd.S_far (p := ⟨gb127, 2, none⟩) (Kd.S_far (p := ⟨gb127, 1, none⟩) (Kd.S_far (p := ⟨gb127, 0, none⟩) (Kd.S_types HO126.out BK127.out (by decide)) (fun _ hk => hk.2) (.int .i64 t122)) (fun _ hk => hk.2) (.int .i64 t123)) (fun _ hk => hk.2) (.slice Ao89 t124.length co89)) (fun _ h_ => h_.1))) : P := h
theorem Z3.z39 {P : Prop} (h : P := by (with_reducible repeat (first | apply Kd.S_alloc | apply Kd.S_drewN | apply Kd.S_drew)); exact (Kd.S_mono (Kd.S_far (p := ⟨gb121, 2, none⟩) (Kd.S_far (p := ⟨gb121, 1, none⟩) (Kd.S_far (p := ⟨gb121, 0, none⟩) (Kd.S_types HO109.out BK121.out (by decide)) (fun _ hk => hk.2) (.int .i64 t116)) (fun _ hk => hk.2) (.int .i64 t117)) (fun _ hk => hk.2) (.slice Ao119 t118.length co119)) (fun _ h_ => h_.1))) : P := h
theorem Z3.z38 {P : Prop} (h : P := by (with_reducible repeat (first | apply Kd.S_alloc | apply Kd.S_drewN | apply Kd.S_drew)); exact (Kd.S_mono (Kd.S_far (p := ⟨gb121, 2, none⟩) (Kd.S_far (p := ⟨gb121, 1, none⟩) (Kd.S_far (p := ⟨gb121, 0, none⟩) (Kd.S_types HO109.out BK121.out (by decide)) (fun _ hk => hk.2) (.int .i64 t116)) (fun _ hk => hk.2) (.int .i64 t117)) (fun _ hk => hk.2) (.slice Ao157 t118.length co157)) (fun _ h_ => h_.1))) : P := h
theorem Z3.z37 {P : Prop} (h : P := by (with_reducible repeat (first | apply Kd.S_alloc | apply Kd.S_drewN | apply Kd.S_drew)); exact (Kd.S_mono (Kd.S_far (p := ⟨gb121, 2, none⟩) (Kd.S_far (p := ⟨gb121, 1, none⟩) (Kd.S_far (p := ⟨gb121, 0, none⟩) (Kd.S_types HO114.out BK121.out (by decide)) (fun _ hk => hk.2) (.int .i64 t116)) (fun _ hk => hk.2) (.int .i64 t117)) (fun _ hk => hk.2) (.slice Ao119 t118.length co119)) (fun _ h_ => h_.1))) : P := h
theorem Z3.z36 {P : Prop} (h : P := by (with_reducible repeat (first | apply Kd.S_alloc | apply Kd.S_drewN | apply Kd.S_drew)); exact (Kd.S_mono (Kd.S_far (p := ⟨gb121, 2, none⟩) (Kd.S_far (p := ⟨gb121, 1, none⟩) (Kd.S_far (p := ⟨gb121, 0, none⟩) (Kd.S_types HO114.out BK121.out (by decide)) (fun _ hk => hk.2) (.int .i64 t116)) (fun _ hk => hk.2) (.int .i64 t117)) (fun _ hk => hk.2) (.slice Ao157 t118.length co157)) (fun _ h_ => h_.1))) : P := h
theorem Z3.z35 {P : Prop} (h : P := by (with_reducible repeat (first | apply Kd.S_alloc | apply Kd.S_drewN | apply Kd.S_drew)); exact (Kd.S_mono (Kd.S_far (p := ⟨gb121, 2, none⟩) (Kd.S_far (p := ⟨gb121, 1, none⟩) (Kd.S_far (p := ⟨gb121, 0, none⟩) (Kd.S_types HO120.out BK121.out (by decide)) (fun _ hk => hk.2) (.int .i64 t116)) (fun _ hk => hk.2) (.int .i64 t117)) (fun _ hk => hk.2) (.slice Ao119 t118.length co119)) (fun _ h_ => h_.1))) : P := h
theorem Z3.z34 {P : Prop} (h : P := by (with_reducible repeat (first | apply Kd.S_alloc | apply Kd.S_drewN | apply Kd.S_drew)); exact (Kd.S_mono (Kd.S_far (p := ⟨gb121, 2, none⟩) (Kd.S_far (p := ⟨gb121, 1, none⟩) (Kd.S_far (p := ⟨gb121, 0, none⟩) (Kd.S_types HO120.out BK121.out (by decide)) (fun _ hk => hk.2) (.int .i64 t116)) (fun _ hk => hk.2) (.int .i64 t117)) (fun _ hk => hk.2) (.slice Ao157 t118.length co157)) (fun _ h_ => h_.1))) : P := h
theorem Z3.z33 {P : Prop} (h : P := by (with_reducible repeat (first | apply Kd.S_alloc | apply Kd.S_drewN | apply Kd.S_drew)); exact (Kd.S_mono (Kd.S_far (p := ⟨gb127, 2, none⟩) (Kd.S_far (p := ⟨gb127, 1, none⟩) (Kd.S_far (p := ⟨gb127, 0, none⟩) (Kd.S_types HO120.out BK127.out (by decide)) (fun _ hk => hk.2) (.int .i64 t122)) (fun _ hk => hk.2) (.int .i64 t123)) (fun _ hk => hk.2) (.slice Ao127 t124.length co127)) (fun _ h_ => h_.1))) : P := h
theorem Z3.z32 {P : Prop} (h : P := by (with_reducible repeat (first | apply Kd.S_alloc | apply Kd.S_drewN | apply Kd.S_drew)); exact (Kd.S_mono (Kd.S_far (p := ⟨gb127, 2, none⟩) (Kd.S_far (p := ⟨gb127, 1, none⟩) (Kd.S_far (p := ⟨gb127, 0, none⟩) (Kd.S_types HO120.out BK127.out (by decide)) (fun _ hk => hk.2) (.int .i64 t122)) (fun _ hk => hk.2) (.int .i64 t123)) (fun _ hk => hk.2) (.slice Ao165 t124.length co165)) (fun _ h_ => h_.1))) : P := h
theorem Z3.z31 {P : Prop} (h : P := by (with_reducible repeat (first | apply Kd.S_alloc | apply Kd.S_drewN | apply Kd.S_drew)); exact (Kd.S_mono (Kd.S_far (p := ⟨gb127, 2, none⟩) (Kd.S_far (p := ⟨gb127, 1, none⟩) (Kd.S_far (p := ⟨gb127, 0, none⟩) (Kd.S_types HO126.out BK127.out (by decide)) (fun _ hk => hk.2) (.int .i64 t122)) (fun _ hk => hk.2) (.int .i64 t123)) (fun _ hk => hk.2) (.slice Ao127 t124.length co127)) (fun _ h_ => h_.1))) : P := h
theorem Z3.z30 {P : Prop} (h : P := by (with_reducible repeat (first | apply Kd.S_alloc | apply Kd.S_drewN | apply Kd.S_drew)); exact (Kd.S_mono (Kd.S_far (p := ⟨gb127, 2, none⟩) (Kd.S_far (p := ⟨gb127, 1, none⟩) (Kd.S_far (p := ⟨gb127, 0, none⟩) (Kd.S_types HO126.out BK127.out (by decide)) (fun _ hk => hk.2) (.int .i64 t122)) (fun _ hk => hk.2) (.int .i64 t123)) (fun _ hk => hk.2) (.slice Ao165 t124.length co165)) (fun _ h_ => h_.1))) : P := h
theorem Z3.z29 {P : Prop} (h : P := by (repeat (first | (with_reducible first | refine blk_drewN ?_ _ | refine blk_drew ?_ | refine blk_alloc ?_ _) | refine blk_far ?_ NB101_121.out _)); exact BK101.out) : P := h
theorem Z3.z28 {P : Prop} (h : P := by (repeat (first | (with_reducible first | refine blk_drewN ?_ _ | refine blk_drew ?_ | refine blk_alloc ?_ _) | refine blk_far ?_ NB101_127.out _)); exact BK101.out) : P := h
theorem Z3.z27 {P : Prop} (h : P := by (repeat (first | (with_reducible first | refine blk_drewN ?_ _ | refine blk_drew ?_ | refine blk_alloc ?_ _) | refine blk_far ?_ NB102_121.out _)); exact BK102.out) : P := h
theorem Z3.z26 {P : Prop} (h : P := by (repeat (first | (with_reducible first | refine blk_drewN ?_ _ | refine blk_drew ?_ | refine blk_alloc ?_ _) | refine blk_far ?_ NB102_127.out _)); exact BK102.out) : P := h
theorem Z3.z25 {P : Prop} (h : P := by (repeat (first | (with_reducible first | refine blk_drewN ?_ _ | refine blk_drew ?_ | refine blk_alloc ?_ _) | refine blk_far ?_ NB121_127.out _)); exact BK121.out) : P := h
theorem Z3.z24 {P : Prop} (h : P := by repeat (first | exact (Kd.S_reads' HO109.out).2.2 | (with_reducible refine Kd.C_alloc ?_ _) | (with_reducible refine Kd.C_drewN ?_ _) | (with_reducible refine Kd.C_drew ?_))) : P := h
theorem Z3.z23 {P : Prop} (h : P := by repeat (first | exact (Kd.S_reads' HO114.out).2.2 | (with_reducible refine Kd.C_alloc ?_ _) | (with_reducible refine Kd.C_drewN ?_ _) | (with_reducible refine Kd.C_drew ?_))) : P := h
theorem Z3.z22 {P : Prop} (h : P := by (with_reducible repeat (first | apply Kd.S_alloc | apply Kd.S_drewN | apply Kd.S_drew)); exact HO133.out) : P := h
theorem Z3.z21 {P : Prop} (h : P := by (with_reducible repeat (first | refine blk_drewN ?_ _ | refine blk_drew ?_ | refine blk_alloc ?_ _)); exact BK127.out) : P := h
theorem Z3.z20 {P : Prop} (h : P := by exact ⟨(blk_cell BK127.out 0).trans rfl, (blk_cell BK127.out 1).trans rfl, (blk_cell BK127.out 2).trans rfl, (blk_cell BK102.out 0).trans rfl, (blk_cell BK102.out 1).trans rfl, (blk_cell BK102.out 2).trans rfl⟩) : P := h
theorem Z3.z19 {P : Prop} (h : P := by (with_reducible repeat (first | apply Kd.S_alloc | apply Kd.S_drewN | apply Kd.S_drew)); exact HO126.out) : P := h
theorem Z3.z18 {P : Prop} (h : P := by exact ⟨(blk_cell BK121.out 0).trans rfl, (blk_cell BK121.out 1).trans rfl, (blk_cell BK121.out 2).trans rfl, (blk_cell BK101.out 0).trans rfl, (blk_cell BK101.out 1).trans rfl, (blk_cell BK101.out 2).trans rfl⟩) : P := h
theorem Z3.z17 {P : Prop} (h : P := by repeat (first | exact (Kd.C_below HR1_2.out HB.out) | (with_reducible refine Kd.C_alloc ?_ _) | (with_reducible refine Kd.C_drewN ?_ _) | (with_reducible refine Kd.C_drew ?_))) : P := h
theorem Z3.z16 {P : Prop} (h : P := by (with_reducible repeat (first | apply Kd.S_alloc | apply Kd.S_drewN | apply Kd.S_drew)); exact HO120.out) : P := h
theorem Z3.z15 {P : Prop} (h : P := by repeat (first | (with_reducible first | exact HB.out | apply below_alloc | apply pw_below_drewN | apply below_drew1) | exact HB.out)) : P := h
theorem Z3.z14 {P : Prop} (h : P := by (with_reducible repeat (first | refine blk_drewN ?_ _ | refine blk_drew ?_ | refine blk_alloc ?_ _)); refine blk_put (cs := #[.int .i64 t116, .int .i64 t117, .slice none 0 0]) ?_ 2 _ rfl; (with_reducible repeat (first | refine blk_drewN ?_ _ | refine blk_drew ?_ | refine blk_alloc ?_ _)); refine blk_put (cs := #[.int .i64 t116, .int .i64 0, .slice none 0 0]) ?_ 1 _ rfl; (with_reducible repeat (first | refine blk_drewN ?_ _ | refine blk_drew ?_ | refine blk_alloc ?_ _)); refine blk_put (cs := #[.int .i64 0, .int .i64 0, .slice none 0 0]) ?_ 0 _ rfl; (with_reducible repeat (first | refine blk_drewN ?_ _ | refine blk_drew ?_ | refine blk_alloc ?_ _)); exact BK121.out) : P := h
theorem Z3.z13 {P : Prop} (h : P := by (with_reducible repeat (first | refine blk_drewN ?_ _ | refine blk_drew ?_ | refine blk_alloc ?_ _)); refine blk_put (cs := #[.int .i64 t122, .int .i64 t123, .slice none 0 0]) ?_ 2 _ rfl; (with_reducible repeat (first | refine blk_drewN ?_ _ | refine blk_drew ?_ | refine blk_alloc ?_ _)); refine blk_put (cs := #[.int .i64 t122, .int .i64 0, .slice none 0 0]) ?_ 1 _ rfl; (with_reducible repeat (first | refine blk_drewN ?_ _ | refine blk_drew ?_ | refine blk_alloc ?_ _)); refine blk_put (cs := #[.int .i64 0, .int .i64 0, .slice none 0 0]) ?_ 0 _ rfl; (with_reducible repeat (first | refine blk_drewN ?_ _ | refine blk_drew ?_ | refine blk_alloc ?_ _)); exact BK127.out) : P := h
theorem Z3.z12 {P : Prop} (h : P := by (with_reducible repeat (first | refine blk_drewN ?_ _ | refine blk_drew ?_ | refine blk_alloc ?_ _)); exact BK121.out) : P := h
theorem Z3.z11 {P : Prop} (h : P := by simp only [Act.put, List.setIfInBounds_toArray, List.set_cons_zero, List.set_cons_succ, i64_w, i32_w]; rfl) : P := h
theorem Z3.z10 {P : Prop} (h : P := by repeat (first | (with_reducible first | exact HB.out | apply below_alloc | apply pw_below_drewN | apply below_drew1 | refine below_set ?_ GE101.out) | exact HB.out)) : P := h
theorem Z3.z9 {P : Prop} (h : P := by repeat (first | exact (Kd.C_below HR0_2.out HB.out) | (with_reducible refine Kd.C_alloc ?_ _) | (with_reducible refine Kd.C_drewN ?_ _) | (with_reducible refine Kd.C_drew ?_))) : P := h
theorem Z3.z8 {P : Prop} (h : P := by (with_reducible repeat (first | apply Kd.S_alloc | apply Kd.S_drewN | apply Kd.S_drew)); exact HO114.out) : P := h
theorem Z3.z7 {P : Prop} (h : P := by exact ⟨(blk_cell BK101.out 0).trans rfl, (blk_cell BK101.out 1).trans rfl, (blk_cell BK101.out 2).trans rfl, (blk_cell BK102.out 0).trans rfl, (blk_cell BK102.out 1).trans rfl, (blk_cell BK102.out 2).trans rfl⟩) : P := h
theorem Z3.z6 {P : Prop} (h : P := by (with_reducible repeat (first | apply Kd.S_alloc | apply Kd.S_drewN | apply Kd.S_drew)); exact HO109.out) : P := h
theorem Z3.z5 {P : Prop} (h : P := by repeat (first | (with_reducible first | exact HB.out | apply below_alloc | apply pw_below_drewN | apply below_drew1 | refine below_set ?_ GE101.out | refine below_set ?_ GE102.out | refine below_set ?_ GE121.out) | exact HB.out)) : P := h
theorem Z3.z4 {P : Prop} (h : P := by (try simp only [List.map_toArray, List.map_cons, List.map_nil]); first | done | rfl | (simp only [List.length_drop, List.length_take]; rfl)) : P := h
theorem Z3.z3 {P : Prop} (h : P := by repeat (first | (with_reducible first | exact HB.out | apply below_alloc | apply pw_below_drewN | apply below_drew1 | refine below_set ?_ GE101.out | refine below_set ?_ GE102.out | refine below_set ?_ GE121.out | refine below_set ?_ GE127.out) | exact HB.out)) : P := h
theorem Z3.z2 {P : Prop} (h : P := by (with_reducible repeat (first | refine blk_drewN ?_ _ | refine blk_drew ?_ | refine blk_alloc ?_ _)); exact BK102.out) : P := h
theorem Z3.z1 {P : Prop} (h : P := by (with_reducible repeat (first | refine blk_drewN ?_ _ | refine blk_drew ?_ | refine blk_alloc ?_ _)); exact BK101.out) : P := h
theorem Z3.z0 {P : Prop} (h : P := by repeat (first | (with_reducible first | exact HB.out | apply below_alloc | apply pw_below_drewN | apply below_drew1 | refine below_set ?_ GE101.out | refine below_set ?_ GE102.out) | exact HB.out)) : P := h
set_option maxHeartbeats 8000000 in
set_option maxRecDepth 100000 in
theorem laws_FnExactSameSpace.calls (k : Nat) (a0_0 : Int) (a0_1 : Int) (A0_2 : Option Addr) (c0_2 : Nat) (l0_2 : List (List Int)) (a1_0 : Int) (a1_1 : Int) (A1_2 : Option Addr) (c1_2 : Nat) (l1_2 : List (List Int)) (r : Bool) (w : World) (hr0_2 : Kd.C (Kd.slice 2 (Kd.int .i64)) w A0_2 l0_2.length l0_2) (hc0_2 : l0_2.length ≤ c0_2) (hr1_2 : Kd.C (Kd.slice 2 (Kd.int .i64)) w A1_2 l1_2.length l1_2) (hc1_2 : l1_2.length ≤ c1_2) (h : laws_FnExactSameSpace.f k a0_0 a0_1 l0_2 a1_0 a1_1 l1_2 = some r) :
  Calls Try.prog 3 #[.agg #[.int .i64 a0_0, .int .i64 a0_1, .slice A0_2 l0_2.length c0_2], .agg #[.int .i64 a1_0, .int .i64 a1_1, .slice A1_2 l1_2.length c1_2]] w fun e w' => e = .returned (.bool r) ∧ Below w.heap.size w w' := by
 have hu24 := Try.underlying24
 have hu27 := Try.underlying27
 have HR0_2 := Z3.k hr0_2
 have HC0_2 := Z3.k hc0_2
 clear hr0_2 hc0_2
 have HR1_2 := Z3.k hr1_2
 have HC1_2 := Z3.k hc1_2
 clear hr1_2 hc1_2
 have HB := Z3.k (Below.refl w.heap.size w)
 have H : ((laws_szSpace.f k a0_0 a0_1 l0_2 1048576).bind fun t103 => (if t103 < 0 then (some true) else ((laws_szSpace.f k a1_0 a1_1 l1_2 t103).bind fun t104 => (if t104 < 0 then (some true) else ((laws_toSpace.f k a0_0 a0_1 l0_2).bind fun bt105 => ((laws_toSpace.f k a1_0 a1_1 l1_2).bind fun bt110 => ((spec_SameSpace.f k bt105.1 bt105.2.1 bt105.2.2 bt110.1 bt110.2.1 bt110.2.2).bind fun t115 => ((laws_toSpace.f k a0_0 a0_1 l0_2).bind fun bt116 => ((laws_toSpace.f k a1_0 a1_1 l1_2).bind fun bt122 => ((impl_SameSpace.f k bt116.1 bt116.2.1 bt116.2.2 bt122.1 bt122.2.1 bt122.2.2).bind fun t128 => (if (t128 != t115) = true then (some false) else ((laws_toSpace.f k a0_0 a0_1 l0_2).bind fun bt129 => ((laws_eqSpace.f k bt116.1 bt116.2.1 bt116.2.2 bt129.1 bt129.2.1 bt129.2.2).bind fun t134 => (if t134 = true then ((laws_toSpace.f k a1_0 a1_1 l1_2).bind fun bt135 => ((laws_eqSpace.f k bt122.1 bt122.2.1 bt122.2.2 bt135.1 bt135.2.1 bt135.2.2).bind fun t140 => (if t140 = true then (some true) else (some false)))) else (some false))))))))))))))) = some r := h
 clear h
 replace H := Option.bind_eq_some_iff.mp H
 obtain ⟨t103, A30, H⟩ := H
 replace H : (if t103 < 0 then (some true) else ((laws_szSpace.f k a1_0 a1_1 l1_2 t103).bind fun t104 => (if t104 < 0 then (some true) else ((laws_toSpace.f k a0_0 a0_1 l0_2).bind fun bt105 => ((laws_toSpace.f k a1_0 a1_1 l1_2).bind fun bt110 => ((spec_SameSpace.f k bt105.1 bt105.2.1 bt105.2.2 bt110.1 bt110.2.1 bt110.2.2).bind fun t115 => ((laws_toSpace.f k a0_0 a0_1 l0_2).bind fun bt116 => ((laws_toSpace.f k a1_0 a1_1 l1_2).bind fun bt122 => ((impl_SameSpace.f k bt116.1 bt116.2.1 bt116.2.2 bt122.1 bt122.2.1 bt122.2.2).bind fun t128 => (if (t128 != t115) = true then (some false) else ((laws_toSpace.f k a0_0 a0_1 l0_2).bind fun bt129 => ((laws_eqSpace.f k bt116.1 bt116.2.1 bt116.2.2 bt129.1 bt129.2.1 bt129.2.2).bind fun t134 => (if t134 = true then ((laws_toSpace.f k a1_0 a1_1 l1_2).bind fun bt135 => ((laws_eqSpace.f k bt122.1 bt122.2.1 bt122.2.2 bt135.1 bt135.2.1 bt135.2.2).bind fun t140 => (if t140 = true then (some true) else (some false)))) else (some false)))))))))))))) = some r := H
 have A3 := Z3.k A30
 clear A30
 by_cases c4 : t103 < 0
 ·rw [if_pos c4] at H
  have c4b0 : decide (t103 < 0) = true := decide_eq_true c4
  clear c4
  obtain rfl := Option.some.inj H
  go_enter Try.func3, Try.ntmps3
  go_wp2_with (first | ((with_reducible refine gate_dst (N := 2) rfl ?_); refine box_event ?hg (N := 2) ?hd (cs := #[.int .i64 a0_0, .int .i64 a0_1, .slice A0_2 l0_2.length c0_2]) (t := 24) ?hr ?_; (case hd => rfl); (case hg => rfl); (case hr => first | (go_simp; done) | (go_simp; rfl)); intro gb101 hg w5 hbox hb; have n0_ := Z3.k (below_step Z3.z15 hb); have n1_ := Z3.k (hbox); have n2_ := Z3.k (show w.heap.size ≤ gb101 from Z3.z57); have n3_ := Z3.k (show w.heap.size ≤ gb101 from Z3.z57); clear HB; have HB := n0_; have BK101 := n1_; have GW101 := n2_; have GE101 := n3_; clear n0_ n1_ n2_ n3_; clear hb hbox hg) | ((with_reducible refine gate_dst (N := 3) rfl ?_); refine box_event ?hg (N := 3) ?hd (cs := #[.int .i64 a1_0, .int .i64 a1_1, .slice A1_2 l1_2.length c1_2]) (t := 24) ?hr ?_; (case hd => rfl); (case hg => rfl); (case hr => first | (go_simp; done) | (go_simp; rfl)); intro gb102 hg w6 hbox hb; have n0_ := Z3.k (Z3.bb BK101 Z3.z1 hb); have n1_ := Z3.k (below_step Z3.z10 hb); have n2_ := Z3.k (hbox); have n3_ := Z3.k (show w.heap.size ≤ gb102 from Z3.z58); have n4_ := Z3.k (show w.heap.size ≤ gb102 from Z3.z58); have n5_ := Z3.k (show gb101 ≠ gb102 from Z3.z51); have n6_ := Z3.k (show gb102 ≠ gb101 from Z3.z52); clear BK101 HB; have BK101 := n0_; have HB := n1_; have BK102 := n2_; have GW102 := n3_; have GE102 := n4_; have NB101_102 := n5_; have NB102_101 := n6_; clear n0_ n1_ n2_ n3_ n4_ n5_ n6_; clear hb hbox hg; have hnb7 := NB101_102.out; have hnc7 := NB102_101.out; have hcz8_0 : w6.cell? ⟨gb101, 0, none⟩ = some (.int .i64 a0_0) := (blk_cell BK101.out 0).trans rfl; have hcz8_1 : w6.cell? ⟨gb101, 1, none⟩ = some (.int .i64 a0_1) := (blk_cell BK101.out 1).trans rfl; have hcz8_2 : w6.cell? ⟨gb101, 2, none⟩ = some (.slice A0_2 l0_2.length c0_2) := (blk_cell BK101.out 2).trans rfl; have hfz8_0 := blk_frozen BK101.out 0; have hfz8_1 := blk_frozen BK101.out 1; have hfz8_2 := blk_frozen BK101.out 2) | ((with_reducible refine gate_callee (f := 4) rfl ?_); refine goesL_ (some 12) rfl rfl Try.func4 (by kernel_rfl) rfl #[.agg #[.int .i64 a0_0, .int .i64 a0_1, .slice A0_2 l0_2.length c0_2], .int .i64 1048576] rfl Z3.z4 ?_; (with_reducible refine (laws_szSpace.calls k a0_0 a0_1 _ _ l0_2 1048576 t103 _ ?side1 ?side2 A3.out).mono ?_); (case side1 => exact Z3.z9); (case side2 => exact HC0_2.out); rintro e w9 ⟨rfl, hb⟩; refine ⟨_, rfl, ?_⟩; have n0_ := Z3.k (Z3.bb BK101 Z3.z1 hb); have n1_ := Z3.k (Z3.bb BK102 Z3.z2 hb); have n2_ := Z3.k (below_step Z3.z0 hb); clear BK101 BK102 HB; have BK101 := n0_; have BK102 := n1_; have HB := n2_; clear n0_ n1_ n2_; (try clear hb); (try clear hb2); (try clear hk); (try clear hi)))
  go_ret
  exact ⟨Z3.z50, Z3.z0⟩
 rw [if_neg c4] at H
 have c4b0 : decide (t103 < 0) = false := decide_eq_false c4
 clear c4
 replace H := Option.bind_eq_some_iff.mp H
 obtain ⟨t104, A100, H⟩ := H
 replace H : (if t104 < 0 then (some true) else ((laws_toSpace.f k a0_0 a0_1 l0_2).bind fun bt105 => ((laws_toSpace.f k a1_0 a1_1 l1_2).bind fun bt110 => ((spec_SameSpace.f k bt105.1 bt105.2.1 bt105.2.2 bt110.1 bt110.2.1 bt110.2.2).bind fun t115 => ((laws_toSpace.f k a0_0 a0_1 l0_2).bind fun bt116 => ((laws_toSpace.f k a1_0 a1_1 l1_2).bind fun bt122 => ((impl_SameSpace.f k bt116.1 bt116.2.1 bt116.2.2 bt122.1 bt122.2.1 bt122.2.2).bind fun t128 => (if (t128 != t115) = true then (some false) else ((laws_toSpace.f k a0_0 a0_1 l0_2).bind fun bt129 => ((laws_eqSpace.f k bt116.1 bt116.2.1 bt116.2.2 bt129.1 bt129.2.1 bt129.2.2).bind fun t134 => (if t134 = true then ((laws_toSpace.f k a1_0 a1_1 l1_2).bind fun bt135 => ((laws_eqSpace.f k bt122.1 bt122.2.1 bt122.2.2 bt135.1 bt135.2.1 bt135.2.2).bind fun t140 => (if t140 = true then (some true) else (some false)))) else (some false)))))))))))) = some r := H
 have A10 := Z3.k A100
 clear A100
 by_cases c11 : t104 < 0
 ·rw [if_pos c11] at H
  have c11b0 : decide (t104 < 0) = true := decide_eq_true c11
  clear c11
  obtain rfl := Option.some.inj H
  go_enter Try.func3, Try.ntmps3
  go_wp2_with (first | ((with_reducible refine gate_dst (N := 2) rfl ?_); refine box_event ?hg (N := 2) ?hd (cs := #[.int .i64 a0_0, .int .i64 a0_1, .slice A0_2 l0_2.length c0_2]) (t := 24) ?hr ?_; (case hd => rfl); (case hg => rfl); (case hr => first | (go_simp; done) | (go_simp; rfl)); intro gb101 hg w12 hbox hb; have n0_ := Z3.k (below_step Z3.z15 hb); have n1_ := Z3.k (hbox); have n2_ := Z3.k (show w.heap.size ≤ gb101 from Z3.z57); have n3_ := Z3.k (show w.heap.size ≤ gb101 from Z3.z57); clear HB; have HB := n0_; have BK101 := n1_; have GW101 := n2_; have GE101 := n3_; clear n0_ n1_ n2_ n3_; clear hb hbox hg) | ((with_reducible refine gate_dst (N := 3) rfl ?_); refine box_event ?hg (N := 3) ?hd (cs := #[.int .i64 a1_0, .int .i64 a1_1, .slice A1_2 l1_2.length c1_2]) (t := 24) ?hr ?_; (case hd => rfl); (case hg => rfl); (case hr => first | (go_simp; done) | (go_simp; rfl)); intro gb102 hg w13 hbox hb; have n0_ := Z3.k (Z3.bb BK101 Z3.z1 hb); have n1_ := Z3.k (below_step Z3.z10 hb); have n2_ := Z3.k (hbox); have n3_ := Z3.k (show w.heap.size ≤ gb102 from Z3.z58); have n4_ := Z3.k (show w.heap.size ≤ gb102 from Z3.z58); have n5_ := Z3.k (show gb101 ≠ gb102 from Z3.z51); have n6_ := Z3.k (show gb102 ≠ gb101 from Z3.z52); clear BK101 HB; have BK101 := n0_; have HB := n1_; have BK102 := n2_; have GW102 := n3_; have GE102 := n4_; have NB101_102 := n5_; have NB102_101 := n6_; clear n0_ n1_ n2_ n3_ n4_ n5_ n6_; clear hb hbox hg; have hnb14 := NB101_102.out; have hnc14 := NB102_101.out; have hcz15_0 : w13.cell? ⟨gb101, 0, none⟩ = some (.int .i64 a0_0) := (blk_cell BK101.out 0).trans rfl; have hcz15_1 : w13.cell? ⟨gb101, 1, none⟩ = some (.int .i64 a0_1) := (blk_cell BK101.out 1).trans rfl; have hcz15_2 : w13.cell? ⟨gb101, 2, none⟩ = some (.slice A0_2 l0_2.length c0_2) := (blk_cell BK101.out 2).trans rfl; have hfz15_0 := blk_frozen BK101.out 0; have hfz15_1 := blk_frozen BK101.out 1; have hfz15_2 := blk_frozen BK101.out 2) | ((with_reducible refine gate_callee (f := 4) rfl ?_); refine goesL_ (some 12) rfl rfl Try.func4 (by kernel_rfl) rfl #[.agg #[.int .i64 a0_0, .int .i64 a0_1, .slice A0_2 l0_2.length c0_2], .int .i64 1048576] rfl Z3.z4 ?_; (with_reducible refine (laws_szSpace.calls k a0_0 a0_1 _ _ l0_2 1048576 t103 _ ?side1 ?side2 A3.out).mono ?_); (case side1 => exact Z3.z9); (case side2 => exact HC0_2.out); rintro e w16 ⟨rfl, hb⟩; refine ⟨_, rfl, ?_⟩; have n0_ := Z3.k (Z3.bb BK101 Z3.z1 hb); have n1_ := Z3.k (Z3.bb BK102 Z3.z2 hb); have n2_ := Z3.k (below_step Z3.z0 hb); clear BK101 BK102 HB; have BK101 := n0_; have BK102 := n1_; have HB := n2_; clear n0_ n1_ n2_; (try clear hb); (try clear hb2); (try clear hk); (try clear hi); have hcz17_0 : w16.cell? ⟨gb102, 0, none⟩ = some (.int .i64 a1_0) := (blk_cell BK102.out 0).trans rfl; have hcz17_1 : w16.cell? ⟨gb102, 1, none⟩ = some (.int .i64 a1_1) := (blk_cell BK102.out 1).trans rfl; have hcz17_2 : w16.cell? ⟨gb102, 2, none⟩ = some (.slice A1_2 l1_2.length c1_2) := (blk_cell BK102.out 2).trans rfl; have hfz17_0 := blk_frozen BK102.out 0; have hfz17_1 := blk_frozen BK102.out 1; have hfz17_2 := blk_frozen BK102.out 2) | ((with_reducible refine gate_callee (f := 4) rfl ?_); refine goesL_ (some 17) rfl rfl Try.func4 (by kernel_rfl) rfl #[.agg #[.int .i64 a1_0, .int .i64 a1_1, .slice A1_2 l1_2.length c1_2], .int .i64 t103] rfl Z3.z4 ?_; (with_reducible refine (laws_szSpace.calls k a1_0 a1_1 _ _ l1_2 t103 t104 _ ?side1 ?side2 A10.out).mono ?_); (case side1 => exact Z3.z17); (case side2 => exact HC1_2.out); rintro e w18 ⟨rfl, hb⟩; refine ⟨_, rfl, ?_⟩; have n0_ := Z3.k (Z3.bb BK101 Z3.z1 hb); have n1_ := Z3.k (Z3.bb BK102 Z3.z2 hb); have n2_ := Z3.k (below_step Z3.z0 hb); clear BK101 BK102 HB; have BK101 := n0_; have BK102 := n1_; have HB := n2_; clear n0_ n1_ n2_; (try clear hb); (try clear hb2); (try clear hk); (try clear hi)))
  go_ret
  exact ⟨Z3.z50, Z3.z0⟩
 rw [if_neg c11] at H
 have c11b0 : decide (t104 < 0) = false := decide_eq_false c11
 clear c11
 replace H := Option.bind_eq_some_iff.mp H
 obtain ⟨⟨t105, t106, t107⟩, A190, H⟩ := H
 replace H : ((laws_toSpace.f k a1_0 a1_1 l1_2).bind fun bt110 => ((spec_SameSpace.f k t105 t106 t107 bt110.1 bt110.2.1 bt110.2.2).bind fun t115 => ((laws_toSpace.f k a0_0 a0_1 l0_2).bind fun bt116 => ((laws_toSpace.f k a1_0 a1_1 l1_2).bind fun bt122 => ((impl_SameSpace.f k bt116.1 bt116.2.1 bt116.2.2 bt122.1 bt122.2.1 bt122.2.2).bind fun t128 => (if (t128 != t115) = true then (some false) else ((laws_toSpace.f k a0_0 a0_1 l0_2).bind fun bt129 => ((laws_eqSpace.f k bt116.1 bt116.2.1 bt116.2.2 bt129.1 bt129.2.1 bt129.2.2).bind fun t134 => (if t134 = true then ((laws_toSpace.f k a1_0 a1_1 l1_2).bind fun bt135 => ((laws_eqSpace.f k bt122.1 bt122.2.1 bt122.2.2 bt135.1 bt135.2.1 bt135.2.2).bind fun t140 => (if t140 = true then (some true) else (some false)))) else (some false)))))))))) = some r := H
 have A19 := Z3.k A190
 clear A190
 replace H := Option.bind_eq_some_iff.mp H
 obtain ⟨⟨t110, t111, t112⟩, A200, H⟩ := H
 replace H : ((spec_SameSpace.f k t105 t106 t107 t110 t111 t112).bind fun t115 => ((laws_toSpace.f k a0_0 a0_1 l0_2).bind fun bt116 => ((laws_toSpace.f k a1_0 a1_1 l1_2).bind fun bt122 => ((impl_SameSpace.f k bt116.1 bt116.2.1 bt116.2.2 bt122.1 bt122.2.1 bt122.2.2).bind fun t128 => (if (t128 != t115) = true then (some false) else ((laws_toSpace.f k a0_0 a0_1 l0_2).bind fun bt129 => ((laws_eqSpace.f k bt116.1 bt116.2.1 bt116.2.2 bt129.1 bt129.2.1 bt129.2.2).bind fun t134 => (if t134 = true then ((laws_toSpace.f k a1_0 a1_1 l1_2).bind fun bt135 => ((laws_eqSpace.f k bt122.1 bt122.2.1 bt122.2.2 bt135.1 bt135.2.1 bt135.2.2).bind fun t140 => (if t140 = true then (some true) else (some false)))) else (some false))))))))) = some r := H
 have A20 := Z3.k A200
 clear A200
 replace H := Option.bind_eq_some_iff.mp H
 obtain ⟨t115, A210, H⟩ := H
 replace H : ((laws_toSpace.f k a0_0 a0_1 l0_2).bind fun bt116 => ((laws_toSpace.f k a1_0 a1_1 l1_2).bind fun bt122 => ((impl_SameSpace.f k bt116.1 bt116.2.1 bt116.2.2 bt122.1 bt122.2.1 bt122.2.2).bind fun t128 => (if (t128 != t115) = true then (some false) else ((laws_toSpace.f k a0_0 a0_1 l0_2).bind fun bt129 => ((laws_eqSpace.f k bt116.1 bt116.2.1 bt116.2.2 bt129.1 bt129.2.1 bt129.2.2).bind fun t134 => (if t134 = true then ((laws_toSpace.f k a1_0 a1_1 l1_2).bind fun bt135 => ((laws_eqSpace.f k bt122.1 bt122.2.1 bt122.2.2 bt135.1 bt135.2.1 bt135.2.2).bind fun t140 => (if t140 = true then (some true) else (some false)))) else (some false)))))))) = some r := H
 have A21 := Z3.k A210
 clear A210
 replace H := Option.bind_eq_some_iff.mp H
 obtain ⟨⟨t116, t117, t118⟩, A220, H⟩ := H
 replace H : ((laws_toSpace.f k a1_0 a1_1 l1_2).bind fun bt122 => ((impl_SameSpace.f k t116 t117 t118 bt122.1 bt122.2.1 bt122.2.2).bind fun t128 => (if (t128 != t115) = true then (some false) else ((laws_toSpace.f k a0_0 a0_1 l0_2).bind fun bt129 => ((laws_eqSpace.f k t116 t117 t118 bt129.1 bt129.2.1 bt129.2.2).bind fun t134 => (if t134 = true then ((laws_toSpace.f k a1_0 a1_1 l1_2).bind fun bt135 => ((laws_eqSpace.f k bt122.1 bt122.2.1 bt122.2.2 bt135.1 bt135.2.1 bt135.2.2).bind fun t140 => (if t140 = true then (some true) else (some false)))) else (some false))))))) = some r := H
 have A22 := Z3.k A220
 clear A220
 replace H := Option.bind_eq_some_iff.mp H
 obtain ⟨⟨t122, t123, t124⟩, A230, H⟩ := H
 replace H : ((impl_SameSpace.f k t116 t117 t118 t122 t123 t124).bind fun t128 => (if (t128 != t115) = true then (some false) else ((laws_toSpace.f k a0_0 a0_1 l0_2).bind fun bt129 => ((laws_eqSpace.f k t116 t117 t118 bt129.1 bt129.2.1 bt129.2.2).bind fun t134 => (if t134 = true then ((laws_toSpace.f k a1_0 a1_1 l1_2).bind fun bt135 => ((laws_eqSpace.f k t122 t123 t124 bt135.1 bt135.2.1 bt135.2.2).bind fun t140 => (if t140 = true then (some true) else (some false)))) else (some false)))))) = some r := H
 have A23 := Z3.k A230
 clear A230
 replace H := Option.bind_eq_some_iff.mp H
 obtain ⟨t128, A240, H⟩ := H
 replace H : (if (t128 != t115) = true then (some false) else ((laws_toSpace.f k a0_0 a0_1 l0_2).bind fun bt129 => ((laws_eqSpace.f k t116 t117 t118 bt129.1 bt129.2.1 bt129.2.2).bind fun t134 => (if t134 = true then ((laws_toSpace.f k a1_0 a1_1 l1_2).bind fun bt135 => ((laws_eqSpace.f k t122 t123 t124 bt135.1 bt135.2.1 bt135.2.2).bind fun t140 => (if t140 = true then (some true) else (some false)))) else (some false))))) = some r := H
 have A24 := Z3.k A240
 clear A240
 by_cases c25 : (t128 != t115) = true
 ·rw [if_pos c25] at H
  have c25b0 : (t128 != t115) = true := c25
  (try (have c25b1 : decide (t128 = t115) = false := by simpa using c25))
  (try (have c25b2 : (t128 == t115) = false := by simpa using c25))
  (try (have c25b3 : ¬ (t128 = t115) := by simpa using c25))
  clear c25
  obtain rfl := Option.some.inj H
  go_enter Try.func3, Try.ntmps3
  try go_wp2_with (first | ((with_reducible refine gate_dst (N := 2) rfl ?_); refine box_event ?hg (N := 2) ?hd (cs := #[.int .i64 a0_0, .int .i64 a0_1, .slice A0_2 l0_2.length c0_2]) (t := 24) ?hr ?_; (case hd => rfl); (case hg => rfl); (case hr => first | (go_simp; done) | (go_simp; rfl)); intro gb101 hg w26 hbox hb; have n0_ := Z3.k (below_step Z3.z15 hb); have n1_ := Z3.k (hbox); have n2_ := Z3.k (show w.heap.size ≤ gb101 from Z3.z57); have n3_ := Z3.k (show w.heap.size ≤ gb101 from Z3.z57); clear HB; have HB := n0_; have BK101 := n1_; have GW101 := n2_; have GE101 := n3_; clear n0_ n1_ n2_ n3_; clear hb hbox hg) | ((with_reducible refine gate_dst (N := 3) rfl ?_); refine box_event ?hg (N := 3) ?hd (cs := #[.int .i64 a1_0, .int .i64 a1_1, .slice A1_2 l1_2.length c1_2]) (t := 24) ?hr ?_; (case hd => rfl); (case hg => rfl); (case hr => first | (go_simp; done) | (go_simp; rfl)); intro gb102 hg w27 hbox hb; have n0_ := Z3.k (Z3.bb BK101 Z3.z1 hb); have n1_ := Z3.k (below_step Z3.z10 hb); have n2_ := Z3.k (hbox); have n3_ := Z3.k (show w.heap.size ≤ gb102 from Z3.z58); have n4_ := Z3.k (show w.heap.size ≤ gb102 from Z3.z58); have n5_ := Z3.k (show gb101 ≠ gb102 from Z3.z51); have n6_ := Z3.k (show gb102 ≠ gb101 from Z3.z52); clear BK101 HB; have BK101 := n0_; have HB := n1_; have BK102 := n2_; have GW102 := n3_; have GE102 := n4_; have NB101_102 := n5_; have NB102_101 := n6_; clear n0_ n1_ n2_ n3_ n4_ n5_ n6_; clear hb hbox hg; have hnb28 := NB101_102.out; have hnc28 := NB102_101.out; have hcz29_0 : w27.cell? ⟨gb101, 0, none⟩ = some (.int .i64 a0_0) := (blk_cell BK101.out 0).trans rfl; have hcz29_1 : w27.cell? ⟨gb101, 1, none⟩ = some (.int .i64 a0_1) := (blk_cell BK101.out 1).trans rfl; have hcz29_2 : w27.cell? ⟨gb101, 2, none⟩ = some (.slice A0_2 l0_2.length c0_2) := (blk_cell BK101.out 2).trans rfl; have hfz29_0 := blk_frozen BK101.out 0; have hfz29_1 := blk_frozen BK101.out 1; have hfz29_2 := blk_frozen BK101.out 2) | ((with_reducible refine gate_callee (f := 4) rfl ?_); refine goesL_ (some 12) rfl rfl Try.func4 (by kernel_rfl) rfl #[.agg #[.int .i64 a0_0, .int .i64 a0_1, .slice A0_2 l0_2.length c0_2], .int .i64 1048576] rfl Z3.z4 ?_; (with_reducible refine (laws_szSpace.calls k a0_0 a0_1 _ _ l0_2 1048576 t103 _ ?side1 ?side2 A3.out).mono ?_); (case side1 => exact Z3.z9); (case side2 => exact HC0_2.out); rintro e w30 ⟨rfl, hb⟩; refine ⟨_, rfl, ?_⟩; have n0_ := Z3.k (Z3.bb BK101 Z3.z1 hb); have n1_ := Z3.k (Z3.bb BK102 Z3.z2 hb); have n2_ := Z3.k (below_step Z3.z0 hb); clear BK101 BK102 HB; have BK101 := n0_; have BK102 := n1_; have HB := n2_; clear n0_ n1_ n2_; (try clear hb); (try clear hb2); (try clear hk); (try clear hi); have hcz31_0 : w30.cell? ⟨gb102, 0, none⟩ = some (.int .i64 a1_0) := (blk_cell BK102.out 0).trans rfl; have hcz31_1 : w30.cell? ⟨gb102, 1, none⟩ = some (.int .i64 a1_1) := (blk_cell BK102.out 1).trans rfl; have hcz31_2 : w30.cell? ⟨gb102, 2, none⟩ = some (.slice A1_2 l1_2.length c1_2) := (blk_cell BK102.out 2).trans rfl; have hfz31_0 := blk_frozen BK102.out 0; have hfz31_1 := blk_frozen BK102.out 1; have hfz31_2 := blk_frozen BK102.out 2) | ((with_reducible refine gate_callee (f := 4) rfl ?_); refine goesL_ (some 17) rfl rfl Try.func4 (by kernel_rfl) rfl #[.agg #[.int .i64 a1_0, .int .i64 a1_1, .slice A1_2 l1_2.length c1_2], .int .i64 t103] rfl Z3.z4 ?_; (with_reducible refine (laws_szSpace.calls k a1_0 a1_1 _ _ l1_2 t103 t104 _ ?side1 ?side2 A10.out).mono ?_); (case side1 => exact Z3.z17); (case side2 => exact HC1_2.out); rintro e w32 ⟨rfl, hb⟩; refine ⟨_, rfl, ?_⟩; have n0_ := Z3.k (Z3.bb BK101 Z3.z1 hb); have n1_ := Z3.k (Z3.bb BK102 Z3.z2 hb); have n2_ := Z3.k (below_step Z3.z0 hb); clear BK101 BK102 HB; have BK101 := n0_; have BK102 := n1_; have HB := n2_; clear n0_ n1_ n2_; (try clear hb); (try clear hb2); (try clear hk); (try clear hi)))
  have n0_ := Z3.k (blk_drew BK101.out)
  have n1_ := Z3.k (blk_drew BK102.out)
  have n2_ := Z3.k (below_drew1 HB.out)
  clear BK101 BK102 HB
  have BK101 := n0_
  have BK102 := n1_
  have HB := n2_
  clear n0_ n1_ n2_
  refine start_ (n := 6) (S := fun w' => w'.cell? ⟨gb101, 0, none⟩ = some (.int .i64 a0_0) ∧ w'.cell? ⟨gb101, 1, none⟩ = some (.int .i64 a0_1) ∧ w'.cell? ⟨gb101, 2, none⟩ = some (.slice A0_2 l0_2.length c0_2) ∧ w'.cell? ⟨gb102, 0, none⟩ = some (.int .i64 a1_0) ∧ w'.cell? ⟨gb102, 1, none⟩ = some (.int .i64 a1_1) ∧ w'.cell? ⟨gb102, 2, none⟩ = some (.slice A1_2 l1_2.length c1_2)) (ds := []) #[false, false, false, false, false, false] (by kernel_rfl) rfl rfl Z3.z7 (fun hHeld => ?_)
  generalize w32.drew = w33 at BK101 BK102 HB hHeld ⊢
  refine take_ (i := 0) (N := some 20) (v := ?_) (a' := ?_) #[true, false, false, false, false, false] rfl rfl (by kernel_rfl) (fun _ _ _ h => h) (Or.inl ⟨(by rfl), ?_⟩) hHeld ?_ ?_
  rotate_left
  ·rintro w' ⟨s0, s1, s2, s3, s4, s5⟩
   go_simp
   with_reducible rfl
  rotate_left
  ·exact Z3.z11
  refine take_ (i := 2) (N := some 22) (v := ?_) (a' := ?_) #[true, false, true, false, false, false] rfl rfl (by kernel_rfl) (fun _ _ _ h => h) (Or.inl ⟨(by rfl), ?_⟩) hHeld ?_ ?_
  rotate_left
  ·rintro w' ⟨s0, s1, s2, s3, s4, s5⟩
   go_simp
   with_reducible rfl
  rotate_left
  ·exact Z3.z11
  refine one_ (i := 1) (N := some 21) #[true, true, true, false, false, false] rfl rfl (by kernel_rfl) (by decide) (fun K hK => ?_)
  refine goes_ Try.func6 (by kernel_rfl) rfl #[.agg #[.int .i64 a0_0, .int .i64 a0_1, .slice A0_2 l0_2.length c0_2]] (by rfl) rfl rfl Z3.z4 ?_
  with_reducible refine (laws_toSpace.calls k a0_0 a0_1 _ _ l0_2 t105 t106 t107 _ ?side1 ?side2 A19.out).mono ?_
  (case side1 => exact Z3.z9)
  (case side2 => exact HC0_2.out)
  rintro e w34 ⟨v108, rfl, ho0, hb⟩
  refine ⟨_, rfl, ?_⟩
  have n0_ := Z3.k (Kd.S_lower ho0 (below_size Z3.z0))
  have n1_ := Z3.k (Z3.bb BK101 Z3.z1 hb)
  have n2_ := Z3.k (Z3.bb BK102 Z3.z2 hb)
  have n3_ := Z3.k (below_step Z3.z0 hb)
  clear BK101 BK102 HB
  have HO109 := n0_
  have BK101 := n1_
  have BK102 := n2_
  have HB := n3_
  clear n0_ n1_ n2_ n3_
  (try clear hb)
  (try clear hb2)
  (try clear hk)
  (try clear hi)
  (try clear ho0)
  refine hK.out _ _ Z3.z7 (fun hHeld => ?_)
  clear hK K
  refine norm_ (a' := ?_) ?_ ?_
  rotate_left
  ·show Act.put _ (some 21) _ = _
   simp only [Act.put, List.setIfInBounds_toArray, List.set_cons_zero, List.set_cons_succ, i64_w, i32_w]
   rfl
  refine one_ (i := 3) (N := some 23) #[true, true, true, true, false, false] rfl rfl (by kernel_rfl) (by decide) (fun K hK => ?_)
  refine goes_ Try.func6 (by kernel_rfl) rfl #[.agg #[.int .i64 a1_0, .int .i64 a1_1, .slice A1_2 l1_2.length c1_2]] (by rfl) rfl rfl Z3.z4 ?_
  with_reducible refine (laws_toSpace.calls k a1_0 a1_1 _ _ l1_2 t110 t111 t112 _ ?side1 ?side2 A20.out).mono ?_
  (case side1 => exact Z3.z17)
  (case side2 => exact HC1_2.out)
  rintro e w35 ⟨v113, rfl, ho0, hb⟩
  refine ⟨_, rfl, ?_⟩
  have n0_ := Z3.k (Kd.S_elder' Z3.z6 (Kd.S_base ho0) hb)
  have n1_ := Z3.k (Kd.S_lower (Kd.S_new' ho0 (Kd.S_lt Z3.z6)) (below_size Z3.z0))
  have n2_ := Z3.k (Z3.bb BK101 Z3.z1 hb)
  have n3_ := Z3.k (Z3.bb BK102 Z3.z2 hb)
  have n4_ := Z3.k (below_step Z3.z0 hb)
  clear HO109 BK101 BK102 HB
  have HO109 := n0_
  have HO114 := n1_
  have BK101 := n2_
  have BK102 := n3_
  have HB := n4_
  clear n0_ n1_ n2_ n3_ n4_
  (try clear hb)
  (try clear hb2)
  (try clear hk)
  (try clear hi)
  (try clear ho0)
  obtain ⟨Ao36, co36, eo36⟩ := Kd.S_slice HO109.out
  (first | subst eo36 | (injection eo36 with f1_ f2_ f3_; have f4_ := f1_.symm; have f5_ := f3_.symm; clear f1_ f2_ f3_; subst f4_; subst f5_))
  obtain ⟨Ao37, co37, eo37⟩ := Kd.S_slice HO114.out
  (first | subst eo37 | (injection eo37 with f1_ f2_ f3_; have f4_ := f1_.symm; have f5_ := f3_.symm; clear f1_ f2_ f3_; subst f4_; subst f5_))
  refine hK.out _ _ Z3.z7 (fun hHeld => ?_)
  clear hK K
  refine norm_ (a' := ?_) ?_ ?_
  rotate_left
  ·show Act.put _ (some 23) _ = _
   simp only [Act.put, List.setIfInBounds_toArray, List.set_cons_zero, List.set_cons_succ, i64_w, i32_w]
   rfl
  refine one_ (i := 4) (N := some 24) #[true, true, true, true, true, false] rfl rfl (by kernel_rfl) (by decide) (fun K hK => ?_)
  refine goes_ Try.func5 (by kernel_rfl) rfl #[.agg #[.int .i64 t105, .int .i64 t106, .slice Ao36 t107.length co36], .agg #[.int .i64 t110, .int .i64 t111, .slice Ao37 t112.length co37]] (by rfl) rfl rfl Z3.z4 ?_
  with_reducible refine (spec_SameSpace.calls k t105 t106 _ _ t107 t110 t111 _ _ t112 t115 _ ?side1 ?side2 ?side3 ?side4 A21.out).mono ?_
  (case side1 => exact Z3.z24)
  (case side2 => exact (Kd.S_reads' HO109.out).2.1)
  (case side3 => exact Z3.z23)
  (case side4 => exact (Kd.S_reads' HO114.out).2.1)
  rintro e w38 ⟨rfl, hb⟩
  refine ⟨_, rfl, ?_⟩
  have n0_ := Z3.k (Kd.S_below Z3.z6 hb)
  have n1_ := Z3.k (Kd.S_below Z3.z8 hb)
  have n2_ := Z3.k (Z3.bb BK101 Z3.z1 hb)
  have n3_ := Z3.k (Z3.bb BK102 Z3.z2 hb)
  have n4_ := Z3.k (below_step Z3.z0 hb)
  clear HO109 HO114 BK101 BK102 HB
  have HO109 := n0_
  have HO114 := n1_
  have BK101 := n2_
  have BK102 := n3_
  have HB := n4_
  clear n0_ n1_ n2_ n3_ n4_
  (try clear hb)
  (try clear hb2)
  (try clear hk)
  (try clear hi)
  refine hK.out _ _ Z3.z7 (fun hHeld => ?_)
  clear hK K
  refine norm_ (a' := ?_) ?_ ?_
  rotate_left
  ·show Act.put _ (some 24) _ = _
   simp only [Act.put, List.setIfInBounds_toArray, List.set_cons_zero, List.set_cons_succ, i64_w, i32_w]
   rfl
  refine pure_ (i := 5) (N := some 6) (v := ?_) (a' := ?_) #[true, true, true, true, true, true] rfl rfl (by kernel_rfl) (fun _ _ _ h => h) (Or.inl ⟨(by rfl), ?_⟩) ?_ ?_
  rotate_left
  ·intro w'
   go_simp
   with_reducible rfl
  rotate_left
  ·exact Z3.z11
  refine done_ (by kernel_rfl) ?_
  have hcz39_0 : w38.cell? ⟨gb101, 0, none⟩ = some (.int .i64 a0_0) := (blk_cell BK101.out 0).trans rfl
  have hcz39_1 : w38.cell? ⟨gb101, 1, none⟩ = some (.int .i64 a0_1) := (blk_cell BK101.out 1).trans rfl
  have hcz39_2 : w38.cell? ⟨gb101, 2, none⟩ = some (.slice A0_2 l0_2.length c0_2) := (blk_cell BK101.out 2).trans rfl
  have hfz39_0 := blk_frozen BK101.out 0
  have hfz39_1 := blk_frozen BK101.out 1
  have hfz39_2 := blk_frozen BK101.out 2
  try go_wp2_with (first | ((with_reducible refine gate_callee (f := 6) rfl ?_); refine goesL_ (some 26) rfl rfl Try.func6 (by kernel_rfl) rfl #[.agg #[.int .i64 a0_0, .int .i64 a0_1, .slice A0_2 l0_2.length c0_2]] rfl Z3.z4 ?_; (with_reducible refine (laws_toSpace.calls k a0_0 a0_1 _ _ l0_2 t116 t117 t118 _ ?side1 ?side2 A22.out).mono ?_); (case side1 => exact Z3.z9); (case side2 => exact HC0_2.out); rintro e w40 ⟨v119, rfl, ho0, hb⟩; refine ⟨_, rfl, ?_⟩; have n0_ := Z3.k (Kd.S_elder' Z3.z6 (Kd.S_base ho0) hb); have n1_ := Z3.k (Kd.S_elder' Z3.z8 (Kd.S_base ho0) hb); have n2_ := Z3.k (Kd.S_lower (Kd.S_new' (Kd.S_new' ho0 (Kd.S_lt Z3.z6)) (Kd.S_lt Z3.z8)) (below_size Z3.z0)); have n3_ := Z3.k (Z3.bb BK101 Z3.z1 hb); have n4_ := Z3.k (Z3.bb BK102 Z3.z2 hb); have n5_ := Z3.k (below_step Z3.z0 hb); clear HO109 HO114 BK101 BK102 HB; have HO109 := n0_; have HO114 := n1_; have HO120 := n2_; have BK101 := n3_; have BK102 := n4_; have HB := n5_; clear n0_ n1_ n2_ n3_ n4_ n5_; (try clear hb); (try clear hb2); (try clear hk); (try clear hi); (try clear ho0)) | ((with_reducible refine gate_dst (N := 7) rfl ?_); refine box_event ?hg (N := 7) ?hd (cs := #[.int .i64 0, .int .i64 0, .slice none 0 0]) (t := 27) ?hr ?_; (case hd => rfl); (case hg => rfl); (case hr => first | (go_simp; done) | (go_simp; rfl)); intro gb121 hg w41 hbox hb; have n0_ := Z3.k (Kd.S_below Z3.z6 hb); have n1_ := Z3.k (Kd.S_below Z3.z8 hb); have n2_ := Z3.k (Kd.S_below Z3.z16 hb); have n3_ := Z3.k (Z3.bb BK101 Z3.z1 hb); have n4_ := Z3.k (Z3.bb BK102 Z3.z2 hb); have n5_ := Z3.k (below_step Z3.z0 hb); have n6_ := Z3.k (hbox); have n7_ := Z3.k (show w.heap.size ≤ gb121 from (by rw [hg]; exact (below_size Z3.z0))); have n8_ := Z3.k (show w.heap.size ≤ gb121 from (by rw [hg]; exact (below_size Z3.z0))); have n9_ := Z3.k (show gb101 ≠ gb121 from Z3.z51); have n10_ := Z3.k (show gb121 ≠ gb101 from Z3.z52); have n11_ := Z3.k (show gb102 ≠ gb121 from Z3.z55); have n12_ := Z3.k (show gb121 ≠ gb102 from Z3.z56); clear HO109 HO114 HO120 BK101 BK102 HB; have HO109 := n0_; have HO114 := n1_; have HO120 := n2_; have BK101 := n3_; have BK102 := n4_; have HB := n5_; have BK121 := n6_; have GW121 := n7_; have GE121 := n8_; have NB101_121 := n9_; have NB121_101 := n10_; have NB102_121 := n11_; have NB121_102 := n12_; clear n0_ n1_ n2_ n3_ n4_ n5_ n6_ n7_ n8_ n9_ n10_ n11_ n12_; clear hb hbox hg; have hnb42 := NB121_101.out; have hnc42 := NB101_121.out; have hnb43 := NB121_102.out; have hnc43 := NB102_121.out; have hcz44_0 : w41.cell? ⟨gb121, 0, none⟩ = some (.int .i64 0) := (blk_cell BK121.out 0).trans rfl; have hcz44_1 : w41.cell? ⟨gb121, 1, none⟩ = some (.int .i64 0) := (blk_cell BK121.out 1).trans rfl; have hcz44_2 : w41.cell? ⟨gb121, 2, none⟩ = some (.slice none 0 0) := (blk_cell BK121.out 2).trans rfl; have hfz44_0 := blk_frozen BK121.out 0; have hfz44_1 := blk_frozen BK121.out 1; have hfz44_2 := blk_frozen BK121.out 2; obtain ⟨Ao45, co45, eo45⟩ := Kd.S_slice HO120.out; subst eo45; have hcz46_0 : w41.cell? ⟨gb102, 0, none⟩ = some (.int .i64 a1_0) := (blk_cell BK102.out 0).trans rfl; have hcz46_1 : w41.cell? ⟨gb102, 1, none⟩ = some (.int .i64 a1_1) := (blk_cell BK102.out 1).trans rfl; have hcz46_2 : w41.cell? ⟨gb102, 2, none⟩ = some (.slice A1_2 l1_2.length c1_2) := (blk_cell BK102.out 2).trans rfl; have hfz46_0 := blk_frozen BK102.out 0; have hfz46_1 := blk_frozen BK102.out 1; have hfz46_2 := blk_frozen BK102.out 2) | ((with_reducible refine gate_callee (f := 6) rfl ?_); refine goesL_ (some 28) rfl rfl Try.func6 (by kernel_rfl) rfl #[.agg #[.int .i64 a1_0, .int .i64 a1_1, .slice A1_2 l1_2.length c1_2]] rfl Z3.z4 ?_; (with_reducible refine (laws_toSpace.calls k a1_0 a1_1 _ _ l1_2 t122 t123 t124 _ ?side1 ?side2 A23.out).mono ?_); (case side1 => exact (by exact Kd.C_below HR1_2.out Z3.z5)); (case side2 => exact HC1_2.out); rintro e w47 ⟨v125, rfl, ho0, hb⟩; refine ⟨_, rfl, ?_⟩; have n0_ := Z3.k (Kd.S_elder' Z3.z49 (Kd.S_base ho0) hb); have n1_ := Z3.k (Kd.S_elder' Z3.z47 (Kd.S_base ho0) hb); have n2_ := Z3.k (Kd.S_elder' Z3.z45 (Kd.S_base ho0) hb); have n3_ := Z3.k (Kd.S_lower (Kd.S_new' (Kd.S_new' (Kd.S_new' ho0 (Kd.S_lt Z3.z49)) (Kd.S_lt Z3.z47)) (Kd.S_lt Z3.z45)) (below_size Z3.z5)); have n4_ := Z3.k (Z3.bb BK101 Z3.z29 hb); have n5_ := Z3.k (Z3.bb BK102 Z3.z27 hb); have n6_ := Z3.k (blk_below (g := gb121) (o := .cells #[.int .i64 t116, .int .i64 t117, .slice Ao45 t118.length co45] 27 (0, 0)) Z3.z14 hb); have n7_ := Z3.k (below_step Z3.z5 hb); clear HO109 HO114 HO120 BK101 BK102 BK121 HB; have HO109 := n0_; have HO114 := n1_; have HO120 := n2_; have HO126 := n3_; have BK101 := n4_; have BK102 := n5_; have BK121 := n6_; have HB := n7_; clear n0_ n1_ n2_ n3_ n4_ n5_ n6_ n7_; (try clear hb); (try clear hb2); (try clear hk); (try clear hi); (try clear ho0)) | ((with_reducible refine gate_dst (N := 8) rfl ?_); refine box_event ?hg (N := 8) ?hd (cs := #[.int .i64 0, .int .i64 0, .slice none 0 0]) (t := 27) ?hr ?_; (case hd => rfl); (case hg => rfl); (case hr => first | (go_simp; done) | (go_simp; rfl)); intro gb127 hg w48 hbox hb; have n0_ := Z3.k (Kd.S_below Z3.z6 hb); have n1_ := Z3.k (Kd.S_below Z3.z8 hb); have n2_ := Z3.k (Kd.S_below Z3.z16 hb); have n3_ := Z3.k (Kd.S_below Z3.z19 hb); have n4_ := Z3.k (Z3.bb BK101 Z3.z1 hb); have n5_ := Z3.k (Z3.bb BK102 Z3.z2 hb); have n6_ := Z3.k (Z3.bb BK121 Z3.z12 hb); have n7_ := Z3.k (below_step Z3.z5 hb); have n8_ := Z3.k (hbox); have n9_ := Z3.k (show w.heap.size ≤ gb127 from (by rw [hg]; exact (below_size Z3.z5))); have n10_ := Z3.k (show w.heap.size ≤ gb127 from (by rw [hg]; exact (below_size Z3.z5))); have n11_ := Z3.k (show gb101 ≠ gb127 from Z3.z51); have n12_ := Z3.k (show gb127 ≠ gb101 from Z3.z52); have n13_ := Z3.k (show gb102 ≠ gb127 from Z3.z55); have n14_ := Z3.k (show gb127 ≠ gb102 from Z3.z56); have n15_ := Z3.k (show gb121 ≠ gb127 from (by rw [hg]; exact Nat.ne_of_lt (Z3.bl BK121 Z3.z12))); have n16_ := Z3.k (show gb127 ≠ gb121 from (by rw [hg]; exact Nat.ne_of_gt (Z3.bl BK121 Z3.z12))); clear HO109 HO114 HO120 HO126 BK101 BK102 BK121 HB; have HO109 := n0_; have HO114 := n1_; have HO120 := n2_; have HO126 := n3_; have BK101 := n4_; have BK102 := n5_; have BK121 := n6_; have HB := n7_; have BK127 := n8_; have GW127 := n9_; have GE127 := n10_; have NB101_127 := n11_; have NB127_101 := n12_; have NB102_127 := n13_; have NB127_102 := n14_; have NB121_127 := n15_; have NB127_121 := n16_; clear n0_ n1_ n2_ n3_ n4_ n5_ n6_ n7_ n8_ n9_ n10_ n11_ n12_ n13_ n14_ n15_ n16_; clear hb hbox hg; have hnb49 := NB127_101.out; have hnc49 := NB101_127.out; have hnb50 := NB127_102.out; have hnc50 := NB102_127.out; have hnb51 := NB127_121.out; have hnc51 := NB121_127.out; have hcz52_0 : w48.cell? ⟨gb127, 0, none⟩ = some (.int .i64 0) := (blk_cell BK127.out 0).trans rfl; have hcz52_1 : w48.cell? ⟨gb127, 1, none⟩ = some (.int .i64 0) := (blk_cell BK127.out 1).trans rfl; have hcz52_2 : w48.cell? ⟨gb127, 2, none⟩ = some (.slice none 0 0) := (blk_cell BK127.out 2).trans rfl; have hfz52_0 := blk_frozen BK127.out 0; have hfz52_1 := blk_frozen BK127.out 1; have hfz52_2 := blk_frozen BK127.out 2; obtain ⟨Ao53, co53, eo53⟩ := Kd.S_slice HO126.out; subst eo53; have hcz54_0 : w48.cell? ⟨gb121, 0, none⟩ = some (.int .i64 t116) := (blk_cell BK121.out 0).trans rfl; have hcz54_1 : w48.cell? ⟨gb121, 1, none⟩ = some (.int .i64 t117) := (blk_cell BK121.out 1).trans rfl; have hcz54_2 : w48.cell? ⟨gb121, 2, none⟩ = some (.slice Ao45 t118.length co45) := (blk_cell BK121.out 2).trans rfl; have hfz54_0 := blk_frozen BK121.out 0; have hfz54_1 := blk_frozen BK121.out 1; have hfz54_2 := blk_frozen BK121.out 2) | ((with_reducible refine gate_callee (f := 7) rfl ?_); refine goesL_ (some 31) rfl rfl Try.func7 (by kernel_rfl) rfl #[.agg #[.int .i64 t116, .int .i64 t117, .slice Ao45 t118.length co45], .agg #[.int .i64 t122, .int .i64 t123, .slice Ao53 t124.length co53]] rfl Z3.z4 ?_; (with_reducible refine (impl_SameSpace.calls k t116 t117 _ _ t118 t122 t123 _ _ t124 t128 _ ?side1 ?side2 ?side3 ?side4 A24.out).mono ?_); (case side1 => exact (by refine (Kd.S_reads' (e := 34) (base := w.heap.size) (ok := fun k_ => (((True ∧ some k_ ≠ (.slice Ao36 t107.length co36 : Value).ownBlock) ∧ some k_ ≠ (.slice Ao37 t112.length co37 : Value).ownBlock) ∧ some k_ ≠ (.slice Ao53 t124.length co53 : Value).ownBlock)) (n := t118.length) (c := co45) ?_).2.2; exact Z3.z43)); (case side2 => exact (Kd.S_reads' HO120.out).2.1); (case side3 => exact (by refine (Kd.S_reads' (e := 34) (base := w.heap.size) (ok := fun k_ => (((True ∧ some k_ ≠ (.slice Ao36 t107.length co36 : Value).ownBlock) ∧ some k_ ≠ (.slice Ao37 t112.length co37 : Value).ownBlock) ∧ some k_ ≠ (.slice Ao45 t118.length co45 : Value).ownBlock)) (n := t124.length) (c := co53) ?_).2.2; exact Z3.z41)); (case side4 => exact (Kd.S_reads' HO126.out).2.1); rintro e w55 ⟨rfl, hb⟩; refine ⟨_, rfl, ?_⟩; have n0_ := Z3.k (Kd.S_below (by (with_reducible repeat (first | apply Kd.S_alloc | apply Kd.S_drewN | apply Kd.S_drew)); exact (Kd.S_mono (Kd.S_far (p := ⟨gb127, 2, none⟩) (Kd.S_far (p := ⟨gb127, 1, none⟩) (Kd.S_far (p := ⟨gb127, 0, none⟩) (Kd.S_types HO109.out BK127.out (by decide)) (fun _ hk => hk.2) (.int .i64 t122)) (fun _ hk => hk.2) (.int .i64 t123)) (fun _ hk => hk.2) (.slice Ao53 t124.length co53)) (fun _ h_ => h_.1))) hb); have n1_ := Z3.k (Kd.S_below (by (with_reducible repeat (first | apply Kd.S_alloc | apply Kd.S_drewN | apply Kd.S_drew)); exact (Kd.S_mono (Kd.S_far (p := ⟨gb127, 2, none⟩) (Kd.S_far (p := ⟨gb127, 1, none⟩) (Kd.S_far (p := ⟨gb127, 0, none⟩) (Kd.S_types HO114.out BK127.out (by decide)) (fun _ hk => hk.2) (.int .i64 t122)) (fun _ hk => hk.2) (.int .i64 t123)) (fun _ hk => hk.2) (.slice Ao53 t124.length co53)) (fun _ h_ => h_.1))) hb); have n2_ := Z3.k (Kd.S_below Z3.z43 hb); have n3_ := Z3.k (Kd.S_below Z3.z41 hb); have n4_ := Z3.k (Z3.bb BK101 Z3.z28 hb); have n5_ := Z3.k (Z3.bb BK102 Z3.z26 hb); have n6_ := Z3.k (Z3.bb BK121 Z3.z25 hb); have n7_ := Z3.k (blk_below (g := gb127) (o := .cells #[.int .i64 t122, .int .i64 t123, .slice Ao53 t124.length co53] 27 (0, 0)) Z3.z13 hb); have n8_ := Z3.k (below_step Z3.z3 hb); clear HO109 HO114 HO120 HO126 BK101 BK102 BK121 BK127 HB; have HO109 := n0_; have HO114 := n1_; have HO120 := n2_; have HO126 := n3_; have BK101 := n4_; have BK102 := n5_; have BK121 := n6_; have BK127 := n7_; have HB := n8_; clear n0_ n1_ n2_ n3_ n4_ n5_ n6_ n7_ n8_; (try clear hb); (try clear hb2); (try clear hk); (try clear hi)))
  go_ret
  exact ⟨Z3.z50, Z3.z3⟩
 rw [if_neg c25] at H
 have c25b0 : (t128 != t115) = false := by simpa using c25
 (try (have c25b1 : decide (t128 = t115) = true := by simpa using c25))
 (try (have c25b2 : (t128 == t115) = true := by simpa using c25))
 clear c25
 replace H := Option.bind_eq_some_iff.mp H
 obtain ⟨⟨t129, t130, t131⟩, A560, H⟩ := H
 replace H : ((laws_eqSpace.f k t116 t117 t118 t129 t130 t131).bind fun t134 => (if t134 = true then ((laws_toSpace.f k a1_0 a1_1 l1_2).bind fun bt135 => ((laws_eqSpace.f k t122 t123 t124 bt135.1 bt135.2.1 bt135.2.2).bind fun t140 => (if t140 = true then (some true) else (some false)))) else (some false))) = some r := H
 have A56 := Z3.k A560
 clear A560
 replace H := Option.bind_eq_some_iff.mp H
 obtain ⟨t134, A570, H⟩ := H
 replace H : (if t134 = true then ((laws_toSpace.f k a1_0 a1_1 l1_2).bind fun bt135 => ((laws_eqSpace.f k t122 t123 t124 bt135.1 bt135.2.1 bt135.2.2).bind fun t140 => (if t140 = true then (some true) else (some false)))) else (some false)) = some r := H
 have A57 := Z3.k A570
 clear A570
 by_cases c58 : t134 = true
 ·subst c58
  have H1 : ((laws_toSpace.f k a1_0 a1_1 l1_2).bind fun bt135 => ((laws_eqSpace.f k t122 t123 t124 bt135.1 bt135.2.1 bt135.2.2).bind fun t140 => (if t140 = true then (some true) else (some false)))) = some r := by rw [if_pos rfl] at H; exact H
  clear H
  have H := H1
  clear H1
  replace H := Option.bind_eq_some_iff.mp H
  obtain ⟨⟨t135, t136, t137⟩, A590, H⟩ := H
  replace H : ((laws_eqSpace.f k t122 t123 t124 t135 t136 t137).bind fun t140 => (if t140 = true then (some true) else (some false))) = some r := H
  have A59 := Z3.k A590
  clear A590
  replace H := Option.bind_eq_some_iff.mp H
  obtain ⟨t140, A600, H⟩ := H
  replace H : (if t140 = true then (some true) else (some false)) = some r := H
  have A60 := Z3.k A600
  clear A600
  by_cases c61 : t140 = true
  ·subst c61
   have H1 : (some true) = some r := by rw [if_pos rfl] at H; exact H
   clear H
   have H := H1
   clear H1
   obtain rfl := Option.some.inj H
   go_enter Try.func3, Try.ntmps3
   try go_wp2_with (first | ((with_reducible refine gate_dst (N := 2) rfl ?_); refine box_event ?hg (N := 2) ?hd (cs := #[.int .i64 a0_0, .int .i64 a0_1, .slice A0_2 l0_2.length c0_2]) (t := 24) ?hr ?_; (case hd => rfl); (case hg => rfl); (case hr => first | (go_simp; done) | (go_simp; rfl)); intro gb101 hg w62 hbox hb; have n0_ := Z3.k (below_step Z3.z15 hb); have n1_ := Z3.k (hbox); have n2_ := Z3.k (show w.heap.size ≤ gb101 from Z3.z57); have n3_ := Z3.k (show w.heap.size ≤ gb101 from Z3.z57); clear HB; have HB := n0_; have BK101 := n1_; have GW101 := n2_; have GE101 := n3_; clear n0_ n1_ n2_ n3_; clear hb hbox hg) | ((with_reducible refine gate_dst (N := 3) rfl ?_); refine box_event ?hg (N := 3) ?hd (cs := #[.int .i64 a1_0, .int .i64 a1_1, .slice A1_2 l1_2.length c1_2]) (t := 24) ?hr ?_; (case hd => rfl); (case hg => rfl); (case hr => first | (go_simp; done) | (go_simp; rfl)); intro gb102 hg w63 hbox hb; have n0_ := Z3.k (Z3.bb BK101 Z3.z1 hb); have n1_ := Z3.k (below_step Z3.z10 hb); have n2_ := Z3.k (hbox); have n3_ := Z3.k (show w.heap.size ≤ gb102 from Z3.z58); have n4_ := Z3.k (show w.heap.size ≤ gb102 from Z3.z58); have n5_ := Z3.k (show gb101 ≠ gb102 from Z3.z51); have n6_ := Z3.k (show gb102 ≠ gb101 from Z3.z52); clear BK101 HB; have BK101 := n0_; have HB := n1_; have BK102 := n2_; have GW102 := n3_; have GE102 := n4_; have NB101_102 := n5_; have NB102_101 := n6_; clear n0_ n1_ n2_ n3_ n4_ n5_ n6_; clear hb hbox hg; have hnb64 := NB101_102.out; have hnc64 := NB102_101.out; have hcz65_0 : w63.cell? ⟨gb101, 0, none⟩ = some (.int .i64 a0_0) := (blk_cell BK101.out 0).trans rfl; have hcz65_1 : w63.cell? ⟨gb101, 1, none⟩ = some (.int .i64 a0_1) := (blk_cell BK101.out 1).trans rfl; have hcz65_2 : w63.cell? ⟨gb101, 2, none⟩ = some (.slice A0_2 l0_2.length c0_2) := (blk_cell BK101.out 2).trans rfl; have hfz65_0 := blk_frozen BK101.out 0; have hfz65_1 := blk_frozen BK101.out 1; have hfz65_2 := blk_frozen BK101.out 2) | ((with_reducible refine gate_callee (f := 4) rfl ?_); refine goesL_ (some 12) rfl rfl Try.func4 (by kernel_rfl) rfl #[.agg #[.int .i64 a0_0, .int .i64 a0_1, .slice A0_2 l0_2.length c0_2], .int .i64 1048576] rfl Z3.z4 ?_; (with_reducible refine (laws_szSpace.calls k a0_0 a0_1 _ _ l0_2 1048576 t103 _ ?side1 ?side2 A3.out).mono ?_); (case side1 => exact Z3.z9); (case side2 => exact HC0_2.out); rintro e w66 ⟨rfl, hb⟩; refine ⟨_, rfl, ?_⟩; have n0_ := Z3.k (Z3.bb BK101 Z3.z1 hb); have n1_ := Z3.k (Z3.bb BK102 Z3.z2 hb); have n2_ := Z3.k (below_step Z3.z0 hb); clear BK101 BK102 HB; have BK101 := n0_; have BK102 := n1_; have HB := n2_; clear n0_ n1_ n2_; (try clear hb); (try clear hb2); (try clear hk); (try clear hi); have hcz67_0 : w66.cell? ⟨gb102, 0, none⟩ = some (.int .i64 a1_0) := (blk_cell BK102.out 0).trans rfl; have hcz67_1 : w66.cell? ⟨gb102, 1, none⟩ = some (.int .i64 a1_1) := (blk_cell BK102.out 1).trans rfl; have hcz67_2 : w66.cell? ⟨gb102, 2, none⟩ = some (.slice A1_2 l1_2.length c1_2) := (blk_cell BK102.out 2).trans rfl; have hfz67_0 := blk_frozen BK102.out 0; have hfz67_1 := blk_frozen BK102.out 1; have hfz67_2 := blk_frozen BK102.out 2) | ((with_reducible refine gate_callee (f := 4) rfl ?_); refine goesL_ (some 17) rfl rfl Try.func4 (by kernel_rfl) rfl #[.agg #[.int .i64 a1_0, .int .i64 a1_1, .slice A1_2 l1_2.length c1_2], .int .i64 t103] rfl Z3.z4 ?_; (with_reducible refine (laws_szSpace.calls k a1_0 a1_1 _ _ l1_2 t103 t104 _ ?side1 ?side2 A10.out).mono ?_); (case side1 => exact Z3.z17); (case side2 => exact HC1_2.out); rintro e w68 ⟨rfl, hb⟩; refine ⟨_, rfl, ?_⟩; have n0_ := Z3.k (Z3.bb BK101 Z3.z1 hb); have n1_ := Z3.k (Z3.bb BK102 Z3.z2 hb); have n2_ := Z3.k (below_step Z3.z0 hb); clear BK101 BK102 HB; have BK101 := n0_; have BK102 := n1_; have HB := n2_; clear n0_ n1_ n2_; (try clear hb); (try clear hb2); (try clear hk); (try clear hi)))
   have n0_ := Z3.k (blk_drew BK101.out)
   have n1_ := Z3.k (blk_drew BK102.out)
   have n2_ := Z3.k (below_drew1 HB.out)
   clear BK101 BK102 HB
   have BK101 := n0_
   have BK102 := n1_
   have HB := n2_
   clear n0_ n1_ n2_
   refine start_ (n := 6) (S := fun w' => w'.cell? ⟨gb101, 0, none⟩ = some (.int .i64 a0_0) ∧ w'.cell? ⟨gb101, 1, none⟩ = some (.int .i64 a0_1) ∧ w'.cell? ⟨gb101, 2, none⟩ = some (.slice A0_2 l0_2.length c0_2) ∧ w'.cell? ⟨gb102, 0, none⟩ = some (.int .i64 a1_0) ∧ w'.cell? ⟨gb102, 1, none⟩ = some (.int .i64 a1_1) ∧ w'.cell? ⟨gb102, 2, none⟩ = some (.slice A1_2 l1_2.length c1_2)) (ds := []) #[false, false, false, false, false, false] (by kernel_rfl) rfl rfl Z3.z7 (fun hHeld => ?_)
   generalize w68.drew = w69 at BK101 BK102 HB hHeld ⊢
   refine take_ (i := 0) (N := some 20) (v := ?_) (a' := ?_) #[true, false, false, false, false, false] rfl rfl (by kernel_rfl) (fun _ _ _ h => h) (Or.inl ⟨(by rfl), ?_⟩) hHeld ?_ ?_
   rotate_left
   ·rintro w' ⟨s0, s1, s2, s3, s4, s5⟩
    go_simp
    with_reducible rfl
   rotate_left
   ·exact Z3.z11
   refine take_ (i := 2) (N := some 22) (v := ?_) (a' := ?_) #[true, false, true, false, false, false] rfl rfl (by kernel_rfl) (fun _ _ _ h => h) (Or.inl ⟨(by rfl), ?_⟩) hHeld ?_ ?_
   rotate_left
   ·rintro w' ⟨s0, s1, s2, s3, s4, s5⟩
    go_simp
    with_reducible rfl
   rotate_left
   ·exact Z3.z11
   refine one_ (i := 1) (N := some 21) #[true, true, true, false, false, false] rfl rfl (by kernel_rfl) (by decide) (fun K hK => ?_)
   refine goes_ Try.func6 (by kernel_rfl) rfl #[.agg #[.int .i64 a0_0, .int .i64 a0_1, .slice A0_2 l0_2.length c0_2]] (by rfl) rfl rfl Z3.z4 ?_
   with_reducible refine (laws_toSpace.calls k a0_0 a0_1 _ _ l0_2 t105 t106 t107 _ ?side1 ?side2 A19.out).mono ?_
   (case side1 => exact Z3.z9)
   (case side2 => exact HC0_2.out)
   rintro e w70 ⟨v108, rfl, ho0, hb⟩
   refine ⟨_, rfl, ?_⟩
   have n0_ := Z3.k (Kd.S_lower ho0 (below_size Z3.z0))
   have n1_ := Z3.k (Z3.bb BK101 Z3.z1 hb)
   have n2_ := Z3.k (Z3.bb BK102 Z3.z2 hb)
   have n3_ := Z3.k (below_step Z3.z0 hb)
   clear BK101 BK102 HB
   have HO109 := n0_
   have BK101 := n1_
   have BK102 := n2_
   have HB := n3_
   clear n0_ n1_ n2_ n3_
   (try clear hb)
   (try clear hb2)
   (try clear hk)
   (try clear hi)
   (try clear ho0)
   refine hK.out _ _ Z3.z7 (fun hHeld => ?_)
   clear hK K
   refine norm_ (a' := ?_) ?_ ?_
   rotate_left
   ·show Act.put _ (some 21) _ = _
    simp only [Act.put, List.setIfInBounds_toArray, List.set_cons_zero, List.set_cons_succ, i64_w, i32_w]
    rfl
   refine one_ (i := 3) (N := some 23) #[true, true, true, true, false, false] rfl rfl (by kernel_rfl) (by decide) (fun K hK => ?_)
   refine goes_ Try.func6 (by kernel_rfl) rfl #[.agg #[.int .i64 a1_0, .int .i64 a1_1, .slice A1_2 l1_2.length c1_2]] (by rfl) rfl rfl Z3.z4 ?_
   with_reducible refine (laws_toSpace.calls k a1_0 a1_1 _ _ l1_2 t110 t111 t112 _ ?side1 ?side2 A20.out).mono ?_
   (case side1 => exact Z3.z17)
   (case side2 => exact HC1_2.out)
   rintro e w71 ⟨v113, rfl, ho0, hb⟩
   refine ⟨_, rfl, ?_⟩
   have n0_ := Z3.k (Kd.S_elder' Z3.z6 (Kd.S_base ho0) hb)
   have n1_ := Z3.k (Kd.S_lower (Kd.S_new' ho0 (Kd.S_lt Z3.z6)) (below_size Z3.z0))
   have n2_ := Z3.k (Z3.bb BK101 Z3.z1 hb)
   have n3_ := Z3.k (Z3.bb BK102 Z3.z2 hb)
   have n4_ := Z3.k (below_step Z3.z0 hb)
   clear HO109 BK101 BK102 HB
   have HO109 := n0_
   have HO114 := n1_
   have BK101 := n2_
   have BK102 := n3_
   have HB := n4_
   clear n0_ n1_ n2_ n3_ n4_
   (try clear hb)
   (try clear hb2)
   (try clear hk)
   (try clear hi)
   (try clear ho0)
   obtain ⟨Ao72, co72, eo72⟩ := Kd.S_slice HO109.out
   (first | subst eo72 | (injection eo72 with f1_ f2_ f3_; have f4_ := f1_.symm; have f5_ := f3_.symm; clear f1_ f2_ f3_; subst f4_; subst f5_))
   obtain ⟨Ao73, co73, eo73⟩ := Kd.S_slice HO114.out
   (first | subst eo73 | (injection eo73 with f1_ f2_ f3_; have f4_ := f1_.symm; have f5_ := f3_.symm; clear f1_ f2_ f3_; subst f4_; subst f5_))
   refine hK.out _ _ Z3.z7 (fun hHeld => ?_)
   clear hK K
   refine norm_ (a' := ?_) ?_ ?_
   rotate_left
   ·show Act.put _ (some 23) _ = _
    simp only [Act.put, List.setIfInBounds_toArray, List.set_cons_zero, List.set_cons_succ, i64_w, i32_w]
    rfl
   refine one_ (i := 4) (N := some 24) #[true, true, true, true, true, false] rfl rfl (by kernel_rfl) (by decide) (fun K hK => ?_)
   refine goes_ Try.func5 (by kernel_rfl) rfl #[.agg #[.int .i64 t105, .int .i64 t106, .slice Ao72 t107.length co72], .agg #[.int .i64 t110, .int .i64 t111, .slice Ao73 t112.length co73]] (by rfl) rfl rfl Z3.z4 ?_
   with_reducible refine (spec_SameSpace.calls k t105 t106 _ _ t107 t110 t111 _ _ t112 t115 _ ?side1 ?side2 ?side3 ?side4 A21.out).mono ?_
   (case side1 => exact Z3.z24)
   (case side2 => exact (Kd.S_reads' HO109.out).2.1)
   (case side3 => exact Z3.z23)
   (case side4 => exact (Kd.S_reads' HO114.out).2.1)
   rintro e w74 ⟨rfl, hb⟩
   refine ⟨_, rfl, ?_⟩
   have n0_ := Z3.k (Kd.S_below Z3.z6 hb)
   have n1_ := Z3.k (Kd.S_below Z3.z8 hb)
   have n2_ := Z3.k (Z3.bb BK101 Z3.z1 hb)
   have n3_ := Z3.k (Z3.bb BK102 Z3.z2 hb)
   have n4_ := Z3.k (below_step Z3.z0 hb)
   clear HO109 HO114 BK101 BK102 HB
   have HO109 := n0_
   have HO114 := n1_
   have BK101 := n2_
   have BK102 := n3_
   have HB := n4_
   clear n0_ n1_ n2_ n3_ n4_
   (try clear hb)
   (try clear hb2)
   (try clear hk)
   (try clear hi)
   refine hK.out _ _ Z3.z7 (fun hHeld => ?_)
   clear hK K
   refine norm_ (a' := ?_) ?_ ?_
   rotate_left
   ·show Act.put _ (some 24) _ = _
    simp only [Act.put, List.setIfInBounds_toArray, List.set_cons_zero, List.set_cons_succ, i64_w, i32_w]
    rfl
   refine pure_ (i := 5) (N := some 6) (v := ?_) (a' := ?_) #[true, true, true, true, true, true] rfl rfl (by kernel_rfl) (fun _ _ _ h => h) (Or.inl ⟨(by rfl), ?_⟩) ?_ ?_
   rotate_left
   ·intro w'
    go_simp
    with_reducible rfl
   rotate_left
   ·exact Z3.z11
   refine done_ (by kernel_rfl) ?_
   have hcz75_0 : w74.cell? ⟨gb101, 0, none⟩ = some (.int .i64 a0_0) := (blk_cell BK101.out 0).trans rfl
   have hcz75_1 : w74.cell? ⟨gb101, 1, none⟩ = some (.int .i64 a0_1) := (blk_cell BK101.out 1).trans rfl
   have hcz75_2 : w74.cell? ⟨gb101, 2, none⟩ = some (.slice A0_2 l0_2.length c0_2) := (blk_cell BK101.out 2).trans rfl
   have hfz75_0 := blk_frozen BK101.out 0
   have hfz75_1 := blk_frozen BK101.out 1
   have hfz75_2 := blk_frozen BK101.out 2
   try go_wp2_with (first | ((with_reducible refine gate_callee (f := 6) rfl ?_); refine goesL_ (some 26) rfl rfl Try.func6 (by kernel_rfl) rfl #[.agg #[.int .i64 a0_0, .int .i64 a0_1, .slice A0_2 l0_2.length c0_2]] rfl Z3.z4 ?_; (with_reducible refine (laws_toSpace.calls k a0_0 a0_1 _ _ l0_2 t116 t117 t118 _ ?side1 ?side2 A22.out).mono ?_); (case side1 => exact Z3.z9); (case side2 => exact HC0_2.out); rintro e w76 ⟨v119, rfl, ho0, hb⟩; refine ⟨_, rfl, ?_⟩; have n0_ := Z3.k (Kd.S_elder' Z3.z6 (Kd.S_base ho0) hb); have n1_ := Z3.k (Kd.S_elder' Z3.z8 (Kd.S_base ho0) hb); have n2_ := Z3.k (Kd.S_lower (Kd.S_new' (Kd.S_new' ho0 (Kd.S_lt Z3.z6)) (Kd.S_lt Z3.z8)) (below_size Z3.z0)); have n3_ := Z3.k (Z3.bb BK101 Z3.z1 hb); have n4_ := Z3.k (Z3.bb BK102 Z3.z2 hb); have n5_ := Z3.k (below_step Z3.z0 hb); clear HO109 HO114 BK101 BK102 HB; have HO109 := n0_; have HO114 := n1_; have HO120 := n2_; have BK101 := n3_; have BK102 := n4_; have HB := n5_; clear n0_ n1_ n2_ n3_ n4_ n5_; (try clear hb); (try clear hb2); (try clear hk); (try clear hi); (try clear ho0)) | ((with_reducible refine gate_dst (N := 7) rfl ?_); refine box_event ?hg (N := 7) ?hd (cs := #[.int .i64 0, .int .i64 0, .slice none 0 0]) (t := 27) ?hr ?_; (case hd => rfl); (case hg => rfl); (case hr => first | (go_simp; done) | (go_simp; rfl)); intro gb121 hg w77 hbox hb; have n0_ := Z3.k (Kd.S_below Z3.z6 hb); have n1_ := Z3.k (Kd.S_below Z3.z8 hb); have n2_ := Z3.k (Kd.S_below Z3.z16 hb); have n3_ := Z3.k (Z3.bb BK101 Z3.z1 hb); have n4_ := Z3.k (Z3.bb BK102 Z3.z2 hb); have n5_ := Z3.k (below_step Z3.z0 hb); have n6_ := Z3.k (hbox); have n7_ := Z3.k (show w.heap.size ≤ gb121 from (by rw [hg]; exact (below_size Z3.z0))); have n8_ := Z3.k (show w.heap.size ≤ gb121 from (by rw [hg]; exact (below_size Z3.z0))); have n9_ := Z3.k (show gb101 ≠ gb121 from Z3.z51); have n10_ := Z3.k (show gb121 ≠ gb101 from Z3.z52); have n11_ := Z3.k (show gb102 ≠ gb121 from Z3.z55); have n12_ := Z3.k (show gb121 ≠ gb102 from Z3.z56); clear HO109 HO114 HO120 BK101 BK102 HB; have HO109 := n0_; have HO114 := n1_; have HO120 := n2_; have BK101 := n3_; have BK102 := n4_; have HB := n5_; have BK121 := n6_; have GW121 := n7_; have GE121 := n8_; have NB101_121 := n9_; have NB121_101 := n10_; have NB102_121 := n11_; have NB121_102 := n12_; clear n0_ n1_ n2_ n3_ n4_ n5_ n6_ n7_ n8_ n9_ n10_ n11_ n12_; clear hb hbox hg; have hnb78 := NB121_101.out; have hnc78 := NB101_121.out; have hnb79 := NB121_102.out; have hnc79 := NB102_121.out; have hcz80_0 : w77.cell? ⟨gb121, 0, none⟩ = some (.int .i64 0) := (blk_cell BK121.out 0).trans rfl; have hcz80_1 : w77.cell? ⟨gb121, 1, none⟩ = some (.int .i64 0) := (blk_cell BK121.out 1).trans rfl; have hcz80_2 : w77.cell? ⟨gb121, 2, none⟩ = some (.slice none 0 0) := (blk_cell BK121.out 2).trans rfl; have hfz80_0 := blk_frozen BK121.out 0; have hfz80_1 := blk_frozen BK121.out 1; have hfz80_2 := blk_frozen BK121.out 2; obtain ⟨Ao81, co81, eo81⟩ := Kd.S_slice HO120.out; subst eo81; have hcz82_0 : w77.cell? ⟨gb102, 0, none⟩ = some (.int .i64 a1_0) := (blk_cell BK102.out 0).trans rfl; have hcz82_1 : w77.cell? ⟨gb102, 1, none⟩ = some (.int .i64 a1_1) := (blk_cell BK102.out 1).trans rfl; have hcz82_2 : w77.cell? ⟨gb102, 2, none⟩ = some (.slice A1_2 l1_2.length c1_2) := (blk_cell BK102.out 2).trans rfl; have hfz82_0 := blk_frozen BK102.out 0; have hfz82_1 := blk_frozen BK102.out 1; have hfz82_2 := blk_frozen BK102.out 2) | ((with_reducible refine gate_callee (f := 6) rfl ?_); refine goesL_ (some 28) rfl rfl Try.func6 (by kernel_rfl) rfl #[.agg #[.int .i64 a1_0, .int .i64 a1_1, .slice A1_2 l1_2.length c1_2]] rfl Z3.z4 ?_; (with_reducible refine (laws_toSpace.calls k a1_0 a1_1 _ _ l1_2 t122 t123 t124 _ ?side1 ?side2 A23.out).mono ?_); (case side1 => exact (by exact Kd.C_below HR1_2.out Z3.z5)); (case side2 => exact HC1_2.out); rintro e w83 ⟨v125, rfl, ho0, hb⟩; refine ⟨_, rfl, ?_⟩; have n0_ := Z3.k (Kd.S_elder' Z3.z48 (Kd.S_base ho0) hb); have n1_ := Z3.k (Kd.S_elder' Z3.z46 (Kd.S_base ho0) hb); have n2_ := Z3.k (Kd.S_elder' Z3.z44 (Kd.S_base ho0) hb); have n3_ := Z3.k (Kd.S_lower (Kd.S_new' (Kd.S_new' (Kd.S_new' ho0 (Kd.S_lt Z3.z48)) (Kd.S_lt Z3.z46)) (Kd.S_lt Z3.z44)) (below_size Z3.z5)); have n4_ := Z3.k (Z3.bb BK101 Z3.z29 hb); have n5_ := Z3.k (Z3.bb BK102 Z3.z27 hb); have n6_ := Z3.k (blk_below (g := gb121) (o := .cells #[.int .i64 t116, .int .i64 t117, .slice Ao81 t118.length co81] 27 (0, 0)) Z3.z14 hb); have n7_ := Z3.k (below_step Z3.z5 hb); clear HO109 HO114 HO120 BK101 BK102 BK121 HB; have HO109 := n0_; have HO114 := n1_; have HO120 := n2_; have HO126 := n3_; have BK101 := n4_; have BK102 := n5_; have BK121 := n6_; have HB := n7_; clear n0_ n1_ n2_ n3_ n4_ n5_ n6_ n7_; (try clear hb); (try clear hb2); (try clear hk); (try clear hi); (try clear ho0)) | ((with_reducible refine gate_dst (N := 8) rfl ?_); refine box_event ?hg (N := 8) ?hd (cs := #[.int .i64 0, .int .i64 0, .slice none 0 0]) (t := 27) ?hr ?_; (case hd => rfl); (case hg => rfl); (case hr => first | (go_simp; done) | (go_simp; rfl)); intro gb127 hg w84 hbox hb; have n0_ := Z3.k (Kd.S_below Z3.z6 hb); have n1_ := Z3.k (Kd.S_below Z3.z8 hb); have n2_ := Z3.k (Kd.S_below Z3.z16 hb); have n3_ := Z3.k (Kd.S_below Z3.z19 hb); have n4_ := Z3.k (Z3.bb BK101 Z3.z1 hb); have n5_ := Z3.k (Z3.bb BK102 Z3.z2 hb); have n6_ := Z3.k (Z3.bb BK121 Z3.z12 hb); have n7_ := Z3.k (below_step Z3.z5 hb); have n8_ := Z3.k (hbox); have n9_ := Z3.k (show w.heap.size ≤ gb127 from (by rw [hg]; exact (below_size Z3.z5))); have n10_ := Z3.k (show w.heap.size ≤ gb127 from (by rw [hg]; exact (below_size Z3.z5))); have n11_ := Z3.k (show gb101 ≠ gb127 from Z3.z51); have n12_ := Z3.k (show gb127 ≠ gb101 from Z3.z52); have n13_ := Z3.k (show gb102 ≠ gb127 from Z3.z55); have n14_ := Z3.k (show gb127 ≠ gb102 from Z3.z56); have n15_ := Z3.k (show gb121 ≠ gb127 from (by rw [hg]; exact Nat.ne_of_lt (Z3.bl BK121 Z3.z12))); have n16_ := Z3.k (show gb127 ≠ gb121 from (by rw [hg]; exact Nat.ne_of_gt (Z3.bl BK121 Z3.z12))); clear HO109 HO114 HO120 HO126 BK101 BK102 BK121 HB; have HO109 := n0_; have HO114 := n1_; have HO120 := n2_; have HO126 := n3_; have BK101 := n4_; have BK102 := n5_; have BK121 := n6_; have HB := n7_; have BK127 := n8_; have GW127 := n9_; have GE127 := n10_; have NB101_127 := n11_; have NB127_101 := n12_; have NB102_127 := n13_; have NB127_102 := n14_; have NB121_127 := n15_; have NB127_121 := n16_; clear n0_ n1_ n2_ n3_ n4_ n5_ n6_ n7_ n8_ n9_ n10_ n11_ n12_ n13_ n14_ n15_ n16_; clear hb hbox hg; have hnb85 := NB127_101.out; have hnc85 := NB101_127.out; have hnb86 := NB127_102.out; have hnc86 := NB102_127.out; have hnb87 := NB127_121.out; have hnc87 := NB121_127.out; have hcz88_0 : w84.cell? ⟨gb127, 0, none⟩ = some (.int .i64 0) := (blk_cell BK127.out 0).trans rfl; have hcz88_1 : w84.cell? ⟨gb127, 1, none⟩ = some (.int .i64 0) := (blk_cell BK127.out 1).trans rfl; have hcz88_2 : w84.cell? ⟨gb127, 2, none⟩ = some (.slice none 0 0) := (blk_cell BK127.out 2).trans rfl; have hfz88_0 := blk_frozen BK127.out 0; have hfz88_1 := blk_frozen BK127.out 1; have hfz88_2 := blk_frozen BK127.out 2; obtain ⟨Ao89, co89, eo89⟩ := Kd.S_slice HO126.out; subst eo89; have hcz90_0 : w84.cell? ⟨gb121, 0, none⟩ = some (.int .i64 t116) := (blk_cell BK121.out 0).trans rfl; have hcz90_1 : w84.cell? ⟨gb121, 1, none⟩ = some (.int .i64 t117) := (blk_cell BK121.out 1).trans rfl; have hcz90_2 : w84.cell? ⟨gb121, 2, none⟩ = some (.slice Ao81 t118.length co81) := (blk_cell BK121.out 2).trans rfl; have hfz90_0 := blk_frozen BK121.out 0; have hfz90_1 := blk_frozen BK121.out 1; have hfz90_2 := blk_frozen BK121.out 2) | ((with_reducible refine gate_callee (f := 7) rfl ?_); refine goesL_ (some 31) rfl rfl Try.func7 (by kernel_rfl) rfl #[.agg #[.int .i64 t116, .int .i64 t117, .slice Ao81 t118.length co81], .agg #[.int .i64 t122, .int .i64 t123, .slice Ao89 t124.length co89]] rfl Z3.z4 ?_; (with_reducible refine (impl_SameSpace.calls k t116 t117 _ _ t118 t122 t123 _ _ t124 t128 _ ?side1 ?side2 ?side3 ?side4 A24.out).mono ?_); (case side1 => exact (by refine (Kd.S_reads' (e := 34) (base := w.heap.size) (ok := fun k_ => (((True ∧ some k_ ≠ (.slice Ao72 t107.length co72 : Value).ownBlock) ∧ some k_ ≠ (.slice Ao73 t112.length co73 : Value).ownBlock) ∧ some k_ ≠ (.slice Ao89 t124.length co89 : Value).ownBlock)) (n := t118.length) (c := co81) ?_).2.2; exact Z3.z42)); (case side2 => exact (Kd.S_reads' HO120.out).2.1); (case side3 => exact (by refine (Kd.S_reads' (e := 34) (base := w.heap.size) (ok := fun k_ => (((True ∧ some k_ ≠ (.slice Ao72 t107.length co72 : Value).ownBlock) ∧ some k_ ≠ (.slice Ao73 t112.length co73 : Value).ownBlock) ∧ some k_ ≠ (.slice Ao81 t118.length co81 : Value).ownBlock)) (n := t124.length) (c := co89) ?_).2.2; exact Z3.z40)); (case side4 => exact (Kd.S_reads' HO126.out).2.1); rintro e w91 ⟨rfl, hb⟩; refine ⟨_, rfl, ?_⟩; have n0_ := Z3.k (Kd.S_below (by (with_reducible repeat (first | apply Kd.S_alloc | apply Kd.S_drewN | apply Kd.S_drew)); exact (Kd.S_mono (Kd.S_far (p := ⟨gb127, 2, none⟩) (Kd.S_far (p := ⟨gb127, 1, none⟩) (Kd.S_far (p := ⟨gb127, 0, none⟩) (Kd.S_types HO109.out BK127.out (by decide)) (fun _ hk => hk.2) (.int .i64 t122)) (fun _ hk => hk.2) (.int .i64 t123)) (fun _ hk => hk.2) (.slice Ao89 t124.length co89)) (fun _ h_ => h_.1))) hb); have n1_ := Z3.k (Kd.S_below (by (with_reducible repeat (first | apply Kd.S_alloc | apply Kd.S_drewN | apply Kd.S_drew)); exact (Kd.S_mono (Kd.S_far (p := ⟨gb127, 2, none⟩) (Kd.S_far (p := ⟨gb127, 1, none⟩) (Kd.S_far (p := ⟨gb127, 0, none⟩) (Kd.S_types HO114.out BK127.out (by decide)) (fun _ hk => hk.2) (.int .i64 t122)) (fun _ hk => hk.2) (.int .i64 t123)) (fun _ hk => hk.2) (.slice Ao89 t124.length co89)) (fun _ h_ => h_.1))) hb); have n2_ := Z3.k (Kd.S_below Z3.z42 hb); have n3_ := Z3.k (Kd.S_below Z3.z40 hb); have n4_ := Z3.k (Z3.bb BK101 Z3.z28 hb); have n5_ := Z3.k (Z3.bb BK102 Z3.z26 hb); have n6_ := Z3.k (Z3.bb BK121 Z3.z25 hb); have n7_ := Z3.k (blk_below (g := gb127) (o := .cells #[.int .i64 t122, .int .i64 t123, .slice Ao89 t124.length co89] 27 (0, 0)) Z3.z13 hb); have n8_ := Z3.k (below_step Z3.z3 hb); clear HO109 HO114 HO120 HO126 BK101 BK102 BK121 BK127 HB; have HO109 := n0_; have HO114 := n1_; have HO120 := n2_; have HO126 := n3_; have BK101 := n4_; have BK102 := n5_; have BK121 := n6_; have BK127 := n7_; have HB := n8_; clear n0_ n1_ n2_ n3_ n4_ n5_ n6_ n7_ n8_; (try clear hb); (try clear hb2); (try clear hk); (try clear hi)))
   have n0_ := Z3.k (Kd.S_drew HO109.out)
   have n1_ := Z3.k (Kd.S_drew HO114.out)
   have n2_ := Z3.k (Kd.S_drew HO120.out)
   have n3_ := Z3.k (Kd.S_drew HO126.out)
   have n4_ := Z3.k (blk_drew BK101.out)
   have n5_ := Z3.k (blk_drew BK102.out)
   have n6_ := Z3.k (blk_drew BK121.out)
   have n7_ := Z3.k (blk_drew BK127.out)
   have n8_ := Z3.k (below_drew1 HB.out)
   clear HO109 HO114 HO120 HO126 BK101 BK102 BK121 BK127 HB
   have HO109 := n0_
   have HO114 := n1_
   have HO120 := n2_
   have HO126 := n3_
   have BK101 := n4_
   have BK102 := n5_
   have BK121 := n6_
   have BK127 := n7_
   have HB := n8_
   clear n0_ n1_ n2_ n3_ n4_ n5_ n6_ n7_ n8_
   refine start_ (n := 5) (S := fun w' => w'.cell? ⟨gb121, 0, none⟩ = some (.int .i64 t116) ∧ w'.cell? ⟨gb121, 1, none⟩ = some (.int .i64 t117) ∧ w'.cell? ⟨gb121, 2, none⟩ = some (.slice Ao81 t118.length co81) ∧ w'.cell? ⟨gb101, 0, none⟩ = some (.int .i64 a0_0) ∧ w'.cell? ⟨gb101, 1, none⟩ = some (.int .i64 a0_1) ∧ w'.cell? ⟨gb101, 2, none⟩ = some (.slice A0_2 l0_2.length c0_2)) (ds := []) #[false, false, false, false, false] (by kernel_rfl) rfl rfl Z3.z18 (fun hHeld => ?_)
   generalize w91.drew = w92 at HO109 HO114 HO120 HO126 BK101 BK102 BK121 BK127 HB hHeld ⊢
   refine take_ (i := 0) (N := some 35) (v := ?_) (a' := ?_) #[true, false, false, false, false] rfl rfl (by kernel_rfl) (fun _ _ _ h => h) (Or.inl ⟨(by rfl), ?_⟩) hHeld ?_ ?_
   rotate_left
   ·rintro w' ⟨s0, s1, s2, s3, s4, s5⟩
    go_simp
    with_reducible rfl
   rotate_left
   ·exact Z3.z11
   refine take_ (i := 1) (N := some 36) (v := ?_) (a' := ?_) #[true, true, false, false, false] rfl rfl (by kernel_rfl) (fun _ _ _ h => h) (Or.inl ⟨(by rfl), ?_⟩) hHeld ?_ ?_
   rotate_left
   ·rintro w' ⟨s0, s1, s2, s3, s4, s5⟩
    go_simp
    with_reducible rfl
   rotate_left
   ·exact Z3.z11
   refine one_ (i := 2) (N := some 37) #[true, true, true, false, false] rfl rfl (by kernel_rfl) (by decide) (fun K hK => ?_)
   refine goes_ Try.func6 (by kernel_rfl) rfl #[.agg #[.int .i64 a0_0, .int .i64 a0_1, .slice A0_2 l0_2.length c0_2]] (by rfl) rfl rfl Z3.z4 ?_
   with_reducible refine (laws_toSpace.calls k a0_0 a0_1 _ _ l0_2 t129 t130 t131 _ ?side1 ?side2 A56.out).mono ?_
   (case side1 => exact Z3.z9)
   (case side2 => exact HC0_2.out)
   rintro e w93 ⟨v132, rfl, ho0, hb⟩
   refine ⟨_, rfl, ?_⟩
   have n0_ := Z3.k (Kd.S_elder' Z3.z6 (Kd.S_base ho0) hb)
   have n1_ := Z3.k (Kd.S_elder' Z3.z8 (Kd.S_base ho0) hb)
   have n2_ := Z3.k (Kd.S_elder' Z3.z16 (Kd.S_base ho0) hb)
   have n3_ := Z3.k (Kd.S_elder' Z3.z19 (Kd.S_base ho0) hb)
   have n4_ := Z3.k (Kd.S_lower (Kd.S_new' (Kd.S_new' (Kd.S_new' (Kd.S_new' ho0 (Kd.S_lt Z3.z6)) (Kd.S_lt Z3.z8)) (Kd.S_lt Z3.z16)) (Kd.S_lt Z3.z19)) (below_size Z3.z3))
   have n5_ := Z3.k (Z3.bb BK101 Z3.z1 hb)
   have n6_ := Z3.k (Z3.bb BK102 Z3.z2 hb)
   have n7_ := Z3.k (Z3.bb BK121 Z3.z12 hb)
   have n8_ := Z3.k (Z3.bb BK127 Z3.z21 hb)
   have n9_ := Z3.k (below_step Z3.z3 hb)
   clear HO109 HO114 HO120 HO126 BK101 BK102 BK121 BK127 HB
   have HO109 := n0_
   have HO114 := n1_
   have HO120 := n2_
   have HO126 := n3_
   have HO133 := n4_
   have BK101 := n5_
   have BK102 := n6_
   have BK121 := n7_
   have BK127 := n8_
   have HB := n9_
   clear n0_ n1_ n2_ n3_ n4_ n5_ n6_ n7_ n8_ n9_
   (try clear hb)
   (try clear hb2)
   (try clear hk)
   (try clear hi)
   (try clear ho0)
   obtain ⟨Ao94, co94, eo94⟩ := Kd.S_slice HO133.out
   (first | subst eo94 | (injection eo94 with f1_ f2_ f3_; have f4_ := f1_.symm; have f5_ := f3_.symm; clear f1_ f2_ f3_; subst f4_; subst f5_))
   refine hK.out _ _ Z3.z18 (fun hHeld => ?_)
   clear hK K
   refine norm_ (a' := ?_) ?_ ?_
   rotate_left
   ·show Act.put _ (some 37) _ = _
    simp only [Act.put, List.setIfInBounds_toArray, List.set_cons_zero, List.set_cons_succ, i64_w, i32_w]
    rfl
   refine one_ (i := 3) (N := some 38) #[true, true, true, true, false] rfl rfl (by kernel_rfl) (by decide) (fun K hK => ?_)
   refine goes_ Try.func8 (by kernel_rfl) rfl #[.agg #[.int .i64 t116, .int .i64 t117, .slice Ao81 t118.length co81], .agg #[.int .i64 t129, .int .i64 t130, .slice Ao94 t131.length co94]] (by rfl) rfl rfl Z3.z4 ?_
   with_reducible refine (laws_eqSpace.calls k t116 t117 _ _ t118 t129 t130 _ _ t131 true _ ?side1 ?side2 ?side3 ?side4 A57.out).mono ?_
   (case side1 => exact Z3.z54)
   (case side2 => exact (Kd.S_reads' HO120.out).2.1)
   (case side3 => exact Z3.z53)
   (case side4 => exact (Kd.S_reads' HO133.out).2.1)
   rintro e w95 ⟨rfl, hb⟩
   refine ⟨_, rfl, ?_⟩
   have n0_ := Z3.k (Kd.S_below Z3.z6 hb)
   have n1_ := Z3.k (Kd.S_below Z3.z8 hb)
   have n2_ := Z3.k (Kd.S_below Z3.z16 hb)
   have n3_ := Z3.k (Kd.S_below Z3.z19 hb)
   have n4_ := Z3.k (Kd.S_below Z3.z22 hb)
   have n5_ := Z3.k (Z3.bb BK101 Z3.z1 hb)
   have n6_ := Z3.k (Z3.bb BK102 Z3.z2 hb)
   have n7_ := Z3.k (Z3.bb BK121 Z3.z12 hb)
   have n8_ := Z3.k (Z3.bb BK127 Z3.z21 hb)
   have n9_ := Z3.k (below_step Z3.z3 hb)
   clear HO109 HO114 HO120 HO126 HO133 BK101 BK102 BK121 BK127 HB
   have HO109 := n0_
   have HO114 := n1_
   have HO120 := n2_
   have HO126 := n3_
   have HO133 := n4_
   have BK101 := n5_
   have BK102 := n6_
   have BK121 := n7_
   have BK127 := n8_
   have HB := n9_
   clear n0_ n1_ n2_ n3_ n4_ n5_ n6_ n7_ n8_ n9_
   (try clear hb)
   (try clear hb2)
   (try clear hk)
   (try clear hi)
   refine hK.out _ _ Z3.z18 (fun hHeld => ?_)
   clear hK K
   refine norm_ (a' := ?_) ?_ ?_
   rotate_left
   ·show Act.put _ (some 38) _ = _
    simp only [Act.put, List.setIfInBounds_toArray, List.set_cons_zero, List.set_cons_succ, i64_w, i32_w]
    rfl
   refine pure_ (i := 4) (N := some 39) (v := ?_) (a' := ?_) #[true, true, true, true, true] rfl rfl (by kernel_rfl) (fun _ _ _ h => h) (Or.inl ⟨(by rfl), ?_⟩) ?_ ?_
   rotate_left
   ·intro w'
    go_simp
    with_reducible rfl
   rotate_left
   ·exact Z3.z11
   refine done_ (by kernel_rfl) ?_
   try go_wp2
   have n0_ := Z3.k (Kd.S_drew HO109.out)
   have n1_ := Z3.k (Kd.S_drew HO114.out)
   have n2_ := Z3.k (Kd.S_drew HO120.out)
   have n3_ := Z3.k (Kd.S_drew HO126.out)
   have n4_ := Z3.k (Kd.S_drew HO133.out)
   have n5_ := Z3.k (blk_drew BK101.out)
   have n6_ := Z3.k (blk_drew BK102.out)
   have n7_ := Z3.k (blk_drew BK121.out)
   have n8_ := Z3.k (blk_drew BK127.out)
   have n9_ := Z3.k (below_drew1 HB.out)
   clear HO109 HO114 HO120 HO126 HO133 BK101 BK102 BK121 BK127 HB
   have HO109 := n0_
   have HO114 := n1_
   have HO120 := n2_
   have HO126 := n3_
   have HO133 := n4_
   have BK101 := n5_
   have BK102 := n6_
   have BK121 := n7_
   have BK127 := n8_
   have HB := n9_
   clear n0_ n1_ n2_ n3_ n4_ n5_ n6_ n7_ n8_ n9_
   refine start_ (n := 5) (S := fun w' => w'.cell? ⟨gb127, 0, none⟩ = some (.int .i64 t122) ∧ w'.cell? ⟨gb127, 1, none⟩ = some (.int .i64 t123) ∧ w'.cell? ⟨gb127, 2, none⟩ = some (.slice Ao89 t124.length co89) ∧ w'.cell? ⟨gb102, 0, none⟩ = some (.int .i64 a1_0) ∧ w'.cell? ⟨gb102, 1, none⟩ = some (.int .i64 a1_1) ∧ w'.cell? ⟨gb102, 2, none⟩ = some (.slice A1_2 l1_2.length c1_2)) (ds := []) #[false, false, false, false, false] (by kernel_rfl) rfl rfl Z3.z20 (fun hHeld => ?_)
   generalize w95.drew = w96 at HO109 HO114 HO120 HO126 HO133 BK101 BK102 BK121 BK127 HB hHeld ⊢
   refine take_ (i := 0) (N := some 40) (v := ?_) (a' := ?_) #[true, false, false, false, false] rfl rfl (by kernel_rfl) (fun _ _ _ h => h) (Or.inl ⟨(by rfl), ?_⟩) hHeld ?_ ?_
   rotate_left
   ·rintro w' ⟨s0, s1, s2, s3, s4, s5⟩
    go_simp
    with_reducible rfl
   rotate_left
   ·exact Z3.z11
   refine take_ (i := 1) (N := some 41) (v := ?_) (a' := ?_) #[true, true, false, false, false] rfl rfl (by kernel_rfl) (fun _ _ _ h => h) (Or.inl ⟨(by rfl), ?_⟩) hHeld ?_ ?_
   rotate_left
   ·rintro w' ⟨s0, s1, s2, s3, s4, s5⟩
    go_simp
    with_reducible rfl
   rotate_left
   ·exact Z3.z11
   refine one_ (i := 2) (N := some 42) #[true, true, true, false, false] rfl rfl (by kernel_rfl) (by decide) (fun K hK => ?_)
   refine goes_ Try.func6 (by kernel_rfl) rfl #[.agg #[.int .i64 a1_0, .int .i64 a1_1, .slice A1_2 l1_2.length c1_2]] (by rfl) rfl rfl Z3.z4 ?_
   with_reducible refine (laws_toSpace.calls k a1_0 a1_1 _ _ l1_2 t135 t136 t137 _ ?side1 ?side2 A59.out).mono ?_
   (case side1 => exact Z3.z17)
   (case side2 => exact HC1_2.out)
   rintro e w97 ⟨v138, rfl, ho0, hb⟩
   refine ⟨_, rfl, ?_⟩
   have n0_ := Z3.k (Kd.S_elder' Z3.z6 (Kd.S_base ho0) hb)
   have n1_ := Z3.k (Kd.S_elder' Z3.z8 (Kd.S_base ho0) hb)
   have n2_ := Z3.k (Kd.S_elder' Z3.z16 (Kd.S_base ho0) hb)
   have n3_ := Z3.k (Kd.S_elder' Z3.z19 (Kd.S_base ho0) hb)
   have n4_ := Z3.k (Kd.S_elder' Z3.z22 (Kd.S_base ho0) hb)
   have n5_ := Z3.k (Kd.S_lower (Kd.S_new' (Kd.S_new' (Kd.S_new' (Kd.S_new' (Kd.S_new' ho0 (Kd.S_lt Z3.z6)) (Kd.S_lt Z3.z8)) (Kd.S_lt Z3.z16)) (Kd.S_lt Z3.z19)) (Kd.S_lt Z3.z22)) (below_size Z3.z3))
   have n6_ := Z3.k (Z3.bb BK101 Z3.z1 hb)
   have n7_ := Z3.k (Z3.bb BK102 Z3.z2 hb)
   have n8_ := Z3.k (Z3.bb BK121 Z3.z12 hb)
   have n9_ := Z3.k (Z3.bb BK127 Z3.z21 hb)
   have n10_ := Z3.k (below_step Z3.z3 hb)
   clear HO109 HO114 HO120 HO126 HO133 BK101 BK102 BK121 BK127 HB
   have HO109 := n0_
   have HO114 := n1_
   have HO120 := n2_
   have HO126 := n3_
   have HO133 := n4_
   have HO139 := n5_
   have BK101 := n6_
   have BK102 := n7_
   have BK121 := n8_
   have BK127 := n9_
   have HB := n10_
   clear n0_ n1_ n2_ n3_ n4_ n5_ n6_ n7_ n8_ n9_ n10_
   (try clear hb)
   (try clear hb2)
   (try clear hk)
   (try clear hi)
   (try clear ho0)
   obtain ⟨Ao98, co98, eo98⟩ := Kd.S_slice HO139.out
   (first | subst eo98 | (injection eo98 with f1_ f2_ f3_; have f4_ := f1_.symm; have f5_ := f3_.symm; clear f1_ f2_ f3_; subst f4_; subst f5_))
   refine hK.out _ _ Z3.z20 (fun hHeld => ?_)
   clear hK K
   refine norm_ (a' := ?_) ?_ ?_
   rotate_left
   ·show Act.put _ (some 42) _ = _
    simp only [Act.put, List.setIfInBounds_toArray, List.set_cons_zero, List.set_cons_succ, i64_w, i32_w]
    rfl
   refine one_ (i := 3) (N := some 43) #[true, true, true, true, false] rfl rfl (by kernel_rfl) (by decide) (fun K hK => ?_)
   refine goes_ Try.func8 (by kernel_rfl) rfl #[.agg #[.int .i64 t122, .int .i64 t123, .slice Ao89 t124.length co89], .agg #[.int .i64 t135, .int .i64 t136, .slice Ao98 t137.length co98]] (by rfl) rfl rfl Z3.z4 ?_
   with_reducible refine (laws_eqSpace.calls k t122 t123 _ _ t124 t135 t136 _ _ t137 true _ ?side1 ?side2 ?side3 ?side4 A60.out).mono ?_
   (case side1 => exact Z3.z60)
   (case side2 => exact (Kd.S_reads' HO126.out).2.1)
   (case side3 => exact Z3.z59)
   (case side4 => exact (Kd.S_reads' HO139.out).2.1)
   rintro e w99 ⟨rfl, hb⟩
   refine ⟨_, rfl, ?_⟩
   have n0_ := Z3.k (Kd.S_below Z3.z6 hb)
   have n1_ := Z3.k (Kd.S_below Z3.z8 hb)
   have n2_ := Z3.k (Kd.S_below Z3.z16 hb)
   have n3_ := Z3.k (Kd.S_below Z3.z19 hb)
   have n4_ := Z3.k (Kd.S_below Z3.z22 hb)
   have n5_ := Z3.k (Kd.S_below (by (with_reducible repeat (first | apply Kd.S_alloc | apply Kd.S_drewN | apply Kd.S_drew)); exact HO139.out) hb)
   have n6_ := Z3.k (Z3.bb BK101 Z3.z1 hb)
   have n7_ := Z3.k (Z3.bb BK102 Z3.z2 hb)
   have n8_ := Z3.k (Z3.bb BK121 Z3.z12 hb)
   have n9_ := Z3.k (Z3.bb BK127 Z3.z21 hb)
   have n10_ := Z3.k (below_step Z3.z3 hb)
   clear HO109 HO114 HO120 HO126 HO133 HO139 BK101 BK102 BK121 BK127 HB
   have HO109 := n0_
   have HO114 := n1_
   have HO120 := n2_
   have HO126 := n3_
   have HO133 := n4_
   have HO139 := n5_
   have BK101 := n6_
   have BK102 := n7_
   have BK121 := n8_
   have BK127 := n9_
   have HB := n10_
   clear n0_ n1_ n2_ n3_ n4_ n5_ n6_ n7_ n8_ n9_ n10_
   (try clear hb)
   (try clear hb2)
   (try clear hk)
   (try clear hi)
   refine hK.out _ _ Z3.z20 (fun hHeld => ?_)
   clear hK K
   refine norm_ (a' := ?_) ?_ ?_
   rotate_left
   ·show Act.put _ (some 43) _ = _
    simp only [Act.put, List.setIfInBounds_toArray, List.set_cons_zero, List.set_cons_succ, i64_w, i32_w]
    rfl
   refine pure_ (i := 4) (N := some 44) (v := ?_) (a' := ?_) #[true, true, true, true, true] rfl rfl (by kernel_rfl) (fun _ _ _ h => h) (Or.inl ⟨(by rfl), ?_⟩) ?_ ?_
   rotate_left
   ·intro w'
    go_simp
    with_reducible rfl
   rotate_left
   ·exact Z3.z11
   refine done_ (by kernel_rfl) ?_
   try go_wp2
   go_ret
   exact ⟨Z3.z50, Z3.z3⟩
  replace c61 := Bool.eq_false_iff.mpr c61
  subst c61
  have H1 : (some false) = some r := by rw [if_neg (show ¬ (false = true) by decide)] at H; exact H
  clear H
  have H := H1
  clear H1
  obtain rfl := Option.some.inj H
  go_enter Try.func3, Try.ntmps3
  try go_wp2_with (first | ((with_reducible refine gate_dst (N := 2) rfl ?_); refine box_event ?hg (N := 2) ?hd (cs := #[.int .i64 a0_0, .int .i64 a0_1, .slice A0_2 l0_2.length c0_2]) (t := 24) ?hr ?_; (case hd => rfl); (case hg => rfl); (case hr => first | (go_simp; done) | (go_simp; rfl)); intro gb101 hg w100 hbox hb; have n0_ := Z3.k (below_step Z3.z15 hb); have n1_ := Z3.k (hbox); have n2_ := Z3.k (show w.heap.size ≤ gb101 from Z3.z57); have n3_ := Z3.k (show w.heap.size ≤ gb101 from Z3.z57); clear HB; have HB := n0_; have BK101 := n1_; have GW101 := n2_; have GE101 := n3_; clear n0_ n1_ n2_ n3_; clear hb hbox hg) | ((with_reducible refine gate_dst (N := 3) rfl ?_); refine box_event ?hg (N := 3) ?hd (cs := #[.int .i64 a1_0, .int .i64 a1_1, .slice A1_2 l1_2.length c1_2]) (t := 24) ?hr ?_; (case hd => rfl); (case hg => rfl); (case hr => first | (go_simp; done) | (go_simp; rfl)); intro gb102 hg w101 hbox hb; have n0_ := Z3.k (Z3.bb BK101 Z3.z1 hb); have n1_ := Z3.k (below_step Z3.z10 hb); have n2_ := Z3.k (hbox); have n3_ := Z3.k (show w.heap.size ≤ gb102 from Z3.z58); have n4_ := Z3.k (show w.heap.size ≤ gb102 from Z3.z58); have n5_ := Z3.k (show gb101 ≠ gb102 from Z3.z51); have n6_ := Z3.k (show gb102 ≠ gb101 from Z3.z52); clear BK101 HB; have BK101 := n0_; have HB := n1_; have BK102 := n2_; have GW102 := n3_; have GE102 := n4_; have NB101_102 := n5_; have NB102_101 := n6_; clear n0_ n1_ n2_ n3_ n4_ n5_ n6_; clear hb hbox hg; have hnb102 := NB101_102.out; have hnc102 := NB102_101.out; have hcz103_0 : w101.cell? ⟨gb101, 0, none⟩ = some (.int .i64 a0_0) := (blk_cell BK101.out 0).trans rfl; have hcz103_1 : w101.cell? ⟨gb101, 1, none⟩ = some (.int .i64 a0_1) := (blk_cell BK101.out 1).trans rfl; have hcz103_2 : w101.cell? ⟨gb101, 2, none⟩ = some (.slice A0_2 l0_2.length c0_2) := (blk_cell BK101.out 2).trans rfl; have hfz103_0 := blk_frozen BK101.out 0; have hfz103_1 := blk_frozen BK101.out 1; have hfz103_2 := blk_frozen BK101.out 2) | ((with_reducible refine gate_callee (f := 4) rfl ?_); refine goesL_ (some 12) rfl rfl Try.func4 (by kernel_rfl) rfl #[.agg #[.int .i64 a0_0, .int .i64 a0_1, .slice A0_2 l0_2.length c0_2], .int .i64 1048576] rfl Z3.z4 ?_; (with_reducible refine (laws_szSpace.calls k a0_0 a0_1 _ _ l0_2 1048576 t103 _ ?side1 ?side2 A3.out).mono ?_); (case side1 => exact Z3.z9); (case side2 => exact HC0_2.out); rintro e w104 ⟨rfl, hb⟩; refine ⟨_, rfl, ?_⟩; have n0_ := Z3.k (Z3.bb BK101 Z3.z1 hb); have n1_ := Z3.k (Z3.bb BK102 Z3.z2 hb); have n2_ := Z3.k (below_step Z3.z0 hb); clear BK101 BK102 HB; have BK101 := n0_; have BK102 := n1_; have HB := n2_; clear n0_ n1_ n2_; (try clear hb); (try clear hb2); (try clear hk); (try clear hi); have hcz105_0 : w104.cell? ⟨gb102, 0, none⟩ = some (.int .i64 a1_0) := (blk_cell BK102.out 0).trans rfl; have hcz105_1 : w104.cell? ⟨gb102, 1, none⟩ = some (.int .i64 a1_1) := (blk_cell BK102.out 1).trans rfl; have hcz105_2 : w104.cell? ⟨gb102, 2, none⟩ = some (.slice A1_2 l1_2.length c1_2) := (blk_cell BK102.out 2).trans rfl; have hfz105_0 := blk_frozen BK102.out 0; have hfz105_1 := blk_frozen BK102.out 1; have hfz105_2 := blk_frozen BK102.out 2) | ((with_reducible refine gate_callee (f := 4) rfl ?_); refine goesL_ (some 17) rfl rfl Try.func4 (by kernel_rfl) rfl #[.agg #[.int .i64 a1_0, .int .i64 a1_1, .slice A1_2 l1_2.length c1_2], .int .i64 t103] rfl Z3.z4 ?_; (with_reducible refine (laws_szSpace.calls k a1_0 a1_1 _ _ l1_2 t103 t104 _ ?side1 ?side2 A10.out).mono ?_); (case side1 => exact Z3.z17); (case side2 => exact HC1_2.out); rintro e w106 ⟨rfl, hb⟩; refine ⟨_, rfl, ?_⟩; have n0_ := Z3.k (Z3.bb BK101 Z3.z1 hb); have n1_ := Z3.k (Z3.bb BK102 Z3.z2 hb); have n2_ := Z3.k (below_step Z3.z0 hb); clear BK101 BK102 HB; have BK101 := n0_; have BK102 := n1_; have HB := n2_; clear n0_ n1_ n2_; (try clear hb); (try clear hb2); (try clear hk); (try clear hi)))
  have n0_ := Z3.k (blk_drew BK101.out)
  have n1_ := Z3.k (blk_drew BK102.out)
  have n2_ := Z3.k (below_drew1 HB.out)
  clear BK101 BK102 HB
  have BK101 := n0_
  have BK102 := n1_
  have HB := n2_
  clear n0_ n1_ n2_
  refine start_ (n := 6) (S := fun w' => w'.cell? ⟨gb101, 0, none⟩ = some (.int .i64 a0_0) ∧ w'.cell? ⟨gb101, 1, none⟩ = some (.int .i64 a0_1) ∧ w'.cell? ⟨gb101, 2, none⟩ = some (.slice A0_2 l0_2.length c0_2) ∧ w'.cell? ⟨gb102, 0, none⟩ = some (.int .i64 a1_0) ∧ w'.cell? ⟨gb102, 1, none⟩ = some (.int .i64 a1_1) ∧ w'.cell? ⟨gb102, 2, none⟩ = some (.slice A1_2 l1_2.length c1_2)) (ds := []) #[false, false, false, false, false, false] (by kernel_rfl) rfl rfl Z3.z7 (fun hHeld => ?_)
  generalize w106.drew = w107 at BK101 BK102 HB hHeld ⊢
  refine take_ (i := 0) (N := some 20) (v := ?_) (a' := ?_) #[true, false, false, false, false, false] rfl rfl (by kernel_rfl) (fun _ _ _ h => h) (Or.inl ⟨(by rfl), ?_⟩) hHeld ?_ ?_
  rotate_left
  ·rintro w' ⟨s0, s1, s2, s3, s4, s5⟩
   go_simp
   with_reducible rfl
  rotate_left
  ·exact Z3.z11
  refine take_ (i := 2) (N := some 22) (v := ?_) (a' := ?_) #[true, false, true, false, false, false] rfl rfl (by kernel_rfl) (fun _ _ _ h => h) (Or.inl ⟨(by rfl), ?_⟩) hHeld ?_ ?_
  rotate_left
  ·rintro w' ⟨s0, s1, s2, s3, s4, s5⟩
   go_simp
   with_reducible rfl
  rotate_left
  ·exact Z3.z11
  refine one_ (i := 1) (N := some 21) #[true, true, true, false, false, false] rfl rfl (by kernel_rfl) (by decide) (fun K hK => ?_)
  refine goes_ Try.func6 (by kernel_rfl) rfl #[.agg #[.int .i64 a0_0, .int .i64 a0_1, .slice A0_2 l0_2.length c0_2]] (by rfl) rfl rfl Z3.z4 ?_
  with_reducible refine (laws_toSpace.calls k a0_0 a0_1 _ _ l0_2 t105 t106 t107 _ ?side1 ?side2 A19.out).mono ?_
  (case side1 => exact Z3.z9)
  (case side2 => exact HC0_2.out)
  rintro e w108 ⟨v108, rfl, ho0, hb⟩
  refine ⟨_, rfl, ?_⟩
  have n0_ := Z3.k (Kd.S_lower ho0 (below_size Z3.z0))
  have n1_ := Z3.k (Z3.bb BK101 Z3.z1 hb)
  have n2_ := Z3.k (Z3.bb BK102 Z3.z2 hb)
  have n3_ := Z3.k (below_step Z3.z0 hb)
  clear BK101 BK102 HB
  have HO109 := n0_
  have BK101 := n1_
  have BK102 := n2_
  have HB := n3_
  clear n0_ n1_ n2_ n3_
  (try clear hb)
  (try clear hb2)
  (try clear hk)
  (try clear hi)
  (try clear ho0)
  refine hK.out _ _ Z3.z7 (fun hHeld => ?_)
  clear hK K
  refine norm_ (a' := ?_) ?_ ?_
  rotate_left
  ·show Act.put _ (some 21) _ = _
   simp only [Act.put, List.setIfInBounds_toArray, List.set_cons_zero, List.set_cons_succ, i64_w, i32_w]
   rfl
  refine one_ (i := 3) (N := some 23) #[true, true, true, true, false, false] rfl rfl (by kernel_rfl) (by decide) (fun K hK => ?_)
  refine goes_ Try.func6 (by kernel_rfl) rfl #[.agg #[.int .i64 a1_0, .int .i64 a1_1, .slice A1_2 l1_2.length c1_2]] (by rfl) rfl rfl Z3.z4 ?_
  with_reducible refine (laws_toSpace.calls k a1_0 a1_1 _ _ l1_2 t110 t111 t112 _ ?side1 ?side2 A20.out).mono ?_
  (case side1 => exact Z3.z17)
  (case side2 => exact HC1_2.out)
  rintro e w109 ⟨v113, rfl, ho0, hb⟩
  refine ⟨_, rfl, ?_⟩
  have n0_ := Z3.k (Kd.S_elder' Z3.z6 (Kd.S_base ho0) hb)
  have n1_ := Z3.k (Kd.S_lower (Kd.S_new' ho0 (Kd.S_lt Z3.z6)) (below_size Z3.z0))
  have n2_ := Z3.k (Z3.bb BK101 Z3.z1 hb)
  have n3_ := Z3.k (Z3.bb BK102 Z3.z2 hb)
  have n4_ := Z3.k (below_step Z3.z0 hb)
  clear HO109 BK101 BK102 HB
  have HO109 := n0_
  have HO114 := n1_
  have BK101 := n2_
  have BK102 := n3_
  have HB := n4_
  clear n0_ n1_ n2_ n3_ n4_
  (try clear hb)
  (try clear hb2)
  (try clear hk)
  (try clear hi)
  (try clear ho0)
  obtain ⟨Ao110, co110, eo110⟩ := Kd.S_slice HO109.out
  (first | subst eo110 | (injection eo110 with f1_ f2_ f3_; have f4_ := f1_.symm; have f5_ := f3_.symm; clear f1_ f2_ f3_; subst f4_; subst f5_))
  obtain ⟨Ao111, co111, eo111⟩ := Kd.S_slice HO114.out
  (first | subst eo111 | (injection eo111 with f1_ f2_ f3_; have f4_ := f1_.symm; have f5_ := f3_.symm; clear f1_ f2_ f3_; subst f4_; subst f5_))
  refine hK.out _ _ Z3.z7 (fun hHeld => ?_)
  clear hK K
  refine norm_ (a' := ?_) ?_ ?_
  rotate_left
  ·show Act.put _ (some 23) _ = _
   simp only [Act.put, List.setIfInBounds_toArray, List.set_cons_zero, List.set_cons_succ, i64_w, i32_w]
   rfl
  refine one_ (i := 4) (N := some 24) #[true, true, true, true, true, false] rfl rfl (by kernel_rfl) (by decide) (fun K hK => ?_)
  refine goes_ Try.func5 (by kernel_rfl) rfl #[.agg #[.int .i64 t105, .int .i64 t106, .slice Ao110 t107.length co110], .agg #[.int .i64 t110, .int .i64 t111, .slice Ao111 t112.length co111]] (by rfl) rfl rfl Z3.z4 ?_
  with_reducible refine (spec_SameSpace.calls k t105 t106 _ _ t107 t110 t111 _ _ t112 t115 _ ?side1 ?side2 ?side3 ?side4 A21.out).mono ?_
  (case side1 => exact Z3.z24)
  (case side2 => exact (Kd.S_reads' HO109.out).2.1)
  (case side3 => exact Z3.z23)
  (case side4 => exact (Kd.S_reads' HO114.out).2.1)
  rintro e w112 ⟨rfl, hb⟩
  refine ⟨_, rfl, ?_⟩
  have n0_ := Z3.k (Kd.S_below Z3.z6 hb)
  have n1_ := Z3.k (Kd.S_below Z3.z8 hb)
  have n2_ := Z3.k (Z3.bb BK101 Z3.z1 hb)
  have n3_ := Z3.k (Z3.bb BK102 Z3.z2 hb)
  have n4_ := Z3.k (below_step Z3.z0 hb)
  clear HO109 HO114 BK101 BK102 HB
  have HO109 := n0_
  have HO114 := n1_
  have BK101 := n2_
  have BK102 := n3_
  have HB := n4_
  clear n0_ n1_ n2_ n3_ n4_
  (try clear hb)
  (try clear hb2)
  (try clear hk)
  (try clear hi)
  refine hK.out _ _ Z3.z7 (fun hHeld => ?_)
  clear hK K
  refine norm_ (a' := ?_) ?_ ?_
  rotate_left
  ·show Act.put _ (some 24) _ = _
   simp only [Act.put, List.setIfInBounds_toArray, List.set_cons_zero, List.set_cons_succ, i64_w, i32_w]
   rfl
  refine pure_ (i := 5) (N := some 6) (v := ?_) (a' := ?_) #[true, true, true, true, true, true] rfl rfl (by kernel_rfl) (fun _ _ _ h => h) (Or.inl ⟨(by rfl), ?_⟩) ?_ ?_
  rotate_left
  ·intro w'
   go_simp
   with_reducible rfl
  rotate_left
  ·exact Z3.z11
  refine done_ (by kernel_rfl) ?_
  have hcz113_0 : w112.cell? ⟨gb101, 0, none⟩ = some (.int .i64 a0_0) := (blk_cell BK101.out 0).trans rfl
  have hcz113_1 : w112.cell? ⟨gb101, 1, none⟩ = some (.int .i64 a0_1) := (blk_cell BK101.out 1).trans rfl
  have hcz113_2 : w112.cell? ⟨gb101, 2, none⟩ = some (.slice A0_2 l0_2.length c0_2) := (blk_cell BK101.out 2).trans rfl
  have hfz113_0 := blk_frozen BK101.out 0
  have hfz113_1 := blk_frozen BK101.out 1
  have hfz113_2 := blk_frozen BK101.out 2
  try go_wp2_with (first | ((with_reducible refine gate_callee (f := 6) rfl ?_); refine goesL_ (some 26) rfl rfl Try.func6 (by kernel_rfl) rfl #[.agg #[.int .i64 a0_0, .int .i64 a0_1, .slice A0_2 l0_2.length c0_2]] rfl Z3.z4 ?_; (with_reducible refine (laws_toSpace.calls k a0_0 a0_1 _ _ l0_2 t116 t117 t118 _ ?side1 ?side2 A22.out).mono ?_); (case side1 => exact Z3.z9); (case side2 => exact HC0_2.out); rintro e w114 ⟨v119, rfl, ho0, hb⟩; refine ⟨_, rfl, ?_⟩; have n0_ := Z3.k (Kd.S_elder' Z3.z6 (Kd.S_base ho0) hb); have n1_ := Z3.k (Kd.S_elder' Z3.z8 (Kd.S_base ho0) hb); have n2_ := Z3.k (Kd.S_lower (Kd.S_new' (Kd.S_new' ho0 (Kd.S_lt Z3.z6)) (Kd.S_lt Z3.z8)) (below_size Z3.z0)); have n3_ := Z3.k (Z3.bb BK101 Z3.z1 hb); have n4_ := Z3.k (Z3.bb BK102 Z3.z2 hb); have n5_ := Z3.k (below_step Z3.z0 hb); clear HO109 HO114 BK101 BK102 HB; have HO109 := n0_; have HO114 := n1_; have HO120 := n2_; have BK101 := n3_; have BK102 := n4_; have HB := n5_; clear n0_ n1_ n2_ n3_ n4_ n5_; (try clear hb); (try clear hb2); (try clear hk); (try clear hi); (try clear ho0)) | ((with_reducible refine gate_dst (N := 7) rfl ?_); refine box_event ?hg (N := 7) ?hd (cs := #[.int .i64 0, .int .i64 0, .slice none 0 0]) (t := 27) ?hr ?_; (case hd => rfl); (case hg => rfl); (case hr => first | (go_simp; done) | (go_simp; rfl)); intro gb121 hg w115 hbox hb; have n0_ := Z3.k (Kd.S_below Z3.z6 hb); have n1_ := Z3.k (Kd.S_below Z3.z8 hb); have n2_ := Z3.k (Kd.S_below Z3.z16 hb); have n3_ := Z3.k (Z3.bb BK101 Z3.z1 hb); have n4_ := Z3.k (Z3.bb BK102 Z3.z2 hb); have n5_ := Z3.k (below_step Z3.z0 hb); have n6_ := Z3.k (hbox); have n7_ := Z3.k (show w.heap.size ≤ gb121 from (by rw [hg]; exact (below_size Z3.z0))); have n8_ := Z3.k (show w.heap.size ≤ gb121 from (by rw [hg]; exact (below_size Z3.z0))); have n9_ := Z3.k (show gb101 ≠ gb121 from Z3.z51); have n10_ := Z3.k (show gb121 ≠ gb101 from Z3.z52); have n11_ := Z3.k (show gb102 ≠ gb121 from Z3.z55); have n12_ := Z3.k (show gb121 ≠ gb102 from Z3.z56); clear HO109 HO114 HO120 BK101 BK102 HB; have HO109 := n0_; have HO114 := n1_; have HO120 := n2_; have BK101 := n3_; have BK102 := n4_; have HB := n5_; have BK121 := n6_; have GW121 := n7_; have GE121 := n8_; have NB101_121 := n9_; have NB121_101 := n10_; have NB102_121 := n11_; have NB121_102 := n12_; clear n0_ n1_ n2_ n3_ n4_ n5_ n6_ n7_ n8_ n9_ n10_ n11_ n12_; clear hb hbox hg; have hnb116 := NB121_101.out; have hnc116 := NB101_121.out; have hnb117 := NB121_102.out; have hnc117 := NB102_121.out; have hcz118_0 : w115.cell? ⟨gb121, 0, none⟩ = some (.int .i64 0) := (blk_cell BK121.out 0).trans rfl; have hcz118_1 : w115.cell? ⟨gb121, 1, none⟩ = some (.int .i64 0) := (blk_cell BK121.out 1).trans rfl; have hcz118_2 : w115.cell? ⟨gb121, 2, none⟩ = some (.slice none 0 0) := (blk_cell BK121.out 2).trans rfl; have hfz118_0 := blk_frozen BK121.out 0; have hfz118_1 := blk_frozen BK121.out 1; have hfz118_2 := blk_frozen BK121.out 2; obtain ⟨Ao119, co119, eo119⟩ := Kd.S_slice HO120.out; subst eo119; have hcz120_0 : w115.cell? ⟨gb102, 0, none⟩ = some (.int .i64 a1_0) := (blk_cell BK102.out 0).trans rfl; have hcz120_1 : w115.cell? ⟨gb102, 1, none⟩ = some (.int .i64 a1_1) := (blk_cell BK102.out 1).trans rfl; have hcz120_2 : w115.cell? ⟨gb102, 2, none⟩ = some (.slice A1_2 l1_2.length c1_2) := (blk_cell BK102.out 2).trans rfl; have hfz120_0 := blk_frozen BK102.out 0; have hfz120_1 := blk_frozen BK102.out 1; have hfz120_2 := blk_frozen BK102.out 2) | ((with_reducible refine gate_callee (f := 6) rfl ?_); refine goesL_ (some 28) rfl rfl Try.func6 (by kernel_rfl) rfl #[.agg #[.int .i64 a1_0, .int .i64 a1_1, .slice A1_2 l1_2.length c1_2]] rfl Z3.z4 ?_; (with_reducible refine (laws_toSpace.calls k a1_0 a1_1 _ _ l1_2 t122 t123 t124 _ ?side1 ?side2 A23.out).mono ?_); (case side1 => exact (by exact Kd.C_below HR1_2.out Z3.z5)); (case side2 => exact HC1_2.out); rintro e w121 ⟨v125, rfl, ho0, hb⟩; refine ⟨_, rfl, ?_⟩; have n0_ := Z3.k (Kd.S_elder' Z3.z39 (Kd.S_base ho0) hb); have n1_ := Z3.k (Kd.S_elder' Z3.z37 (Kd.S_base ho0) hb); have n2_ := Z3.k (Kd.S_elder' Z3.z35 (Kd.S_base ho0) hb); have n3_ := Z3.k (Kd.S_lower (Kd.S_new' (Kd.S_new' (Kd.S_new' ho0 (Kd.S_lt Z3.z39)) (Kd.S_lt Z3.z37)) (Kd.S_lt Z3.z35)) (below_size Z3.z5)); have n4_ := Z3.k (Z3.bb BK101 Z3.z29 hb); have n5_ := Z3.k (Z3.bb BK102 Z3.z27 hb); have n6_ := Z3.k (blk_below (g := gb121) (o := .cells #[.int .i64 t116, .int .i64 t117, .slice Ao119 t118.length co119] 27 (0, 0)) Z3.z14 hb); have n7_ := Z3.k (below_step Z3.z5 hb); clear HO109 HO114 HO120 BK101 BK102 BK121 HB; have HO109 := n0_; have HO114 := n1_; have HO120 := n2_; have HO126 := n3_; have BK101 := n4_; have BK102 := n5_; have BK121 := n6_; have HB := n7_; clear n0_ n1_ n2_ n3_ n4_ n5_ n6_ n7_; (try clear hb); (try clear hb2); (try clear hk); (try clear hi); (try clear ho0)) | ((with_reducible refine gate_dst (N := 8) rfl ?_); refine box_event ?hg (N := 8) ?hd (cs := #[.int .i64 0, .int .i64 0, .slice none 0 0]) (t := 27) ?hr ?_; (case hd => rfl); (case hg => rfl); (case hr => first | (go_simp; done) | (go_simp; rfl)); intro gb127 hg w122 hbox hb; have n0_ := Z3.k (Kd.S_below Z3.z6 hb); have n1_ := Z3.k (Kd.S_below Z3.z8 hb); have n2_ := Z3.k (Kd.S_below Z3.z16 hb); have n3_ := Z3.k (Kd.S_below Z3.z19 hb); have n4_ := Z3.k (Z3.bb BK101 Z3.z1 hb); have n5_ := Z3.k (Z3.bb BK102 Z3.z2 hb); have n6_ := Z3.k (Z3.bb BK121 Z3.z12 hb); have n7_ := Z3.k (below_step Z3.z5 hb); have n8_ := Z3.k (hbox); have n9_ := Z3.k (show w.heap.size ≤ gb127 from (by rw [hg]; exact (below_size Z3.z5))); have n10_ := Z3.k (show w.heap.size ≤ gb127 from (by rw [hg]; exact (below_size Z3.z5))); have n11_ := Z3.k (show gb101 ≠ gb127 from Z3.z51); have n12_ := Z3.k (show gb127 ≠ gb101 from Z3.z52); have n13_ := Z3.k (show gb102 ≠ gb127 from Z3.z55); have n14_ := Z3.k (show gb127 ≠ gb102 from Z3.z56); have n15_ := Z3.k (show gb121 ≠ gb127 from (by rw [hg]; exact Nat.ne_of_lt (Z3.bl BK121 Z3.z12))); have n16_ := Z3.k (show gb127 ≠ gb121 from (by rw [hg]; exact Nat.ne_of_gt (Z3.bl BK121 Z3.z12))); clear HO109 HO114 HO120 HO126 BK101 BK102 BK121 HB; have HO109 := n0_; have HO114 := n1_; have HO120 := n2_; have HO126 := n3_; have BK101 := n4_; have BK102 := n5_; have BK121 := n6_; have HB := n7_; have BK127 := n8_; have GW127 := n9_; have GE127 := n10_; have NB101_127 := n11_; have NB127_101 := n12_; have NB102_127 := n13_; have NB127_102 := n14_; have NB121_127 := n15_; have NB127_121 := n16_; clear n0_ n1_ n2_ n3_ n4_ n5_ n6_ n7_ n8_ n9_ n10_ n11_ n12_ n13_ n14_ n15_ n16_; clear hb hbox hg; have hnb123 := NB127_101.out; have hnc123 := NB101_127.out; have hnb124 := NB127_102.out; have hnc124 := NB102_127.out; have hnb125 := NB127_121.out; have hnc125 := NB121_127.out; have hcz126_0 : w122.cell? ⟨gb127, 0, none⟩ = some (.int .i64 0) := (blk_cell BK127.out 0).trans rfl; have hcz126_1 : w122.cell? ⟨gb127, 1, none⟩ = some (.int .i64 0) := (blk_cell BK127.out 1).trans rfl; have hcz126_2 : w122.cell? ⟨gb127, 2, none⟩ = some (.slice none 0 0) := (blk_cell BK127.out 2).trans rfl; have hfz126_0 := blk_frozen BK127.out 0; have hfz126_1 := blk_frozen BK127.out 1; have hfz126_2 := blk_frozen BK127.out 2; obtain ⟨Ao127, co127, eo127⟩ := Kd.S_slice HO126.out; subst eo127; have hcz128_0 : w122.cell? ⟨gb121, 0, none⟩ = some (.int .i64 t116) := (blk_cell BK121.out 0).trans rfl; have hcz128_1 : w122.cell? ⟨gb121, 1, none⟩ = some (.int .i64 t117) := (blk_cell BK121.out 1).trans rfl; have hcz128_2 : w122.cell? ⟨gb121, 2, none⟩ = some (.slice Ao119 t118.length co119) := (blk_cell BK121.out 2).trans rfl; have hfz128_0 := blk_frozen BK121.out 0; have hfz128_1 := blk_frozen BK121.out 1; have hfz128_2 := blk_frozen BK121.out 2) | ((with_reducible refine gate_callee (f := 7) rfl ?_); refine goesL_ (some 31) rfl rfl Try.func7 (by kernel_rfl) rfl #[.agg #[.int .i64 t116, .int .i64 t117, .slice Ao119 t118.length co119], .agg #[.int .i64 t122, .int .i64 t123, .slice Ao127 t124.length co127]] rfl Z3.z4 ?_; (with_reducible refine (impl_SameSpace.calls k t116 t117 _ _ t118 t122 t123 _ _ t124 t128 _ ?side1 ?side2 ?side3 ?side4 A24.out).mono ?_); (case side1 => exact (by refine (Kd.S_reads' (e := 34) (base := w.heap.size) (ok := fun k_ => (((True ∧ some k_ ≠ (.slice Ao110 t107.length co110 : Value).ownBlock) ∧ some k_ ≠ (.slice Ao111 t112.length co111 : Value).ownBlock) ∧ some k_ ≠ (.slice Ao127 t124.length co127 : Value).ownBlock)) (n := t118.length) (c := co119) ?_).2.2; exact Z3.z33)); (case side2 => exact (Kd.S_reads' HO120.out).2.1); (case side3 => exact (by refine (Kd.S_reads' (e := 34) (base := w.heap.size) (ok := fun k_ => (((True ∧ some k_ ≠ (.slice Ao110 t107.length co110 : Value).ownBlock) ∧ some k_ ≠ (.slice Ao111 t112.length co111 : Value).ownBlock) ∧ some k_ ≠ (.slice Ao119 t118.length co119 : Value).ownBlock)) (n := t124.length) (c := co127) ?_).2.2; exact Z3.z31)); (case side4 => exact (Kd.S_reads' HO126.out).2.1); rintro e w129 ⟨rfl, hb⟩; refine ⟨_, rfl, ?_⟩; have n0_ := Z3.k (Kd.S_below (by (with_reducible repeat (first | apply Kd.S_alloc | apply Kd.S_drewN | apply Kd.S_drew)); exact (Kd.S_mono (Kd.S_far (p := ⟨gb127, 2, none⟩) (Kd.S_far (p := ⟨gb127, 1, none⟩) (Kd.S_far (p := ⟨gb127, 0, none⟩) (Kd.S_types HO109.out BK127.out (by decide)) (fun _ hk => hk.2) (.int .i64 t122)) (fun _ hk => hk.2) (.int .i64 t123)) (fun _ hk => hk.2) (.slice Ao127 t124.length co127)) (fun _ h_ => h_.1))) hb); have n1_ := Z3.k (Kd.S_below (by (with_reducible repeat (first | apply Kd.S_alloc | apply Kd.S_drewN | apply Kd.S_drew)); exact (Kd.S_mono (Kd.S_far (p := ⟨gb127, 2, none⟩) (Kd.S_far (p := ⟨gb127, 1, none⟩) (Kd.S_far (p := ⟨gb127, 0, none⟩) (Kd.S_types HO114.out BK127.out (by decide)) (fun _ hk => hk.2) (.int .i64 t122)) (fun _ hk => hk.2) (.int .i64 t123)) (fun _ hk => hk.2) (.slice Ao127 t124.length co127)) (fun _ h_ => h_.1))) hb); have n2_ := Z3.k (Kd.S_below Z3.z33 hb); have n3_ := Z3.k (Kd.S_below Z3.z31 hb); have n4_ := Z3.k (Z3.bb BK101 Z3.z28 hb); have n5_ := Z3.k (Z3.bb BK102 Z3.z26 hb); have n6_ := Z3.k (Z3.bb BK121 Z3.z25 hb); have n7_ := Z3.k (blk_below (g := gb127) (o := .cells #[.int .i64 t122, .int .i64 t123, .slice Ao127 t124.length co127] 27 (0, 0)) Z3.z13 hb); have n8_ := Z3.k (below_step Z3.z3 hb); clear HO109 HO114 HO120 HO126 BK101 BK102 BK121 BK127 HB; have HO109 := n0_; have HO114 := n1_; have HO120 := n2_; have HO126 := n3_; have BK101 := n4_; have BK102 := n5_; have BK121 := n6_; have BK127 := n7_; have HB := n8_; clear n0_ n1_ n2_ n3_ n4_ n5_ n6_ n7_ n8_; (try clear hb); (try clear hb2); (try clear hk); (try clear hi)))
  have n0_ := Z3.k (Kd.S_drew HO109.out)
  have n1_ := Z3.k (Kd.S_drew HO114.out)
  have n2_ := Z3.k (Kd.S_drew HO120.out)
  have n3_ := Z3.k (Kd.S_drew HO126.out)
  have n4_ := Z3.k (blk_drew BK101.out)
  have n5_ := Z3.k (blk_drew BK102.out)
  have n6_ := Z3.k (blk_drew BK121.out)
  have n7_ := Z3.k (blk_drew BK127.out)
  have n8_ := Z3.k (below_drew1 HB.out)
  clear HO109 HO114 HO120 HO126 BK101 BK102 BK121 BK127 HB
  have HO109 := n0_
  have HO114 := n1_
  have HO120 := n2_
  have HO126 := n3_
  have BK101 := n4_
  have BK102 := n5_
  have BK121 := n6_
  have BK127 := n7_
  have HB := n8_
  clear n0_ n1_ n2_ n3_ n4_ n5_ n6_ n7_ n8_
  refine start_ (n := 5) (S := fun w' => w'.cell? ⟨gb121, 0, none⟩ = some (.int .i64 t116) ∧ w'.cell? ⟨gb121, 1, none⟩ = some (.int .i64 t117) ∧ w'.cell? ⟨gb121, 2, none⟩ = some (.slice Ao119 t118.length co119) ∧ w'.cell? ⟨gb101, 0, none⟩ = some (.int .i64 a0_0) ∧ w'.cell? ⟨gb101, 1, none⟩ = some (.int .i64 a0_1) ∧ w'.cell? ⟨gb101, 2, none⟩ = some (.slice A0_2 l0_2.length c0_2)) (ds := []) #[false, false, false, false, false] (by kernel_rfl) rfl rfl Z3.z18 (fun hHeld => ?_)
  generalize w129.drew = w130 at HO109 HO114 HO120 HO126 BK101 BK102 BK121 BK127 HB hHeld ⊢
  refine take_ (i := 0) (N := some 35) (v := ?_) (a' := ?_) #[true, false, false, false, false] rfl rfl (by kernel_rfl) (fun _ _ _ h => h) (Or.inl ⟨(by rfl), ?_⟩) hHeld ?_ ?_
  rotate_left
  ·rintro w' ⟨s0, s1, s2, s3, s4, s5⟩
   go_simp
   with_reducible rfl
  rotate_left
  ·exact Z3.z11
  refine take_ (i := 1) (N := some 36) (v := ?_) (a' := ?_) #[true, true, false, false, false] rfl rfl (by kernel_rfl) (fun _ _ _ h => h) (Or.inl ⟨(by rfl), ?_⟩) hHeld ?_ ?_
  rotate_left
  ·rintro w' ⟨s0, s1, s2, s3, s4, s5⟩
   go_simp
   with_reducible rfl
  rotate_left
  ·exact Z3.z11
  refine one_ (i := 2) (N := some 37) #[true, true, true, false, false] rfl rfl (by kernel_rfl) (by decide) (fun K hK => ?_)
  refine goes_ Try.func6 (by kernel_rfl) rfl #[.agg #[.int .i64 a0_0, .int .i64 a0_1, .slice A0_2 l0_2.length c0_2]] (by rfl) rfl rfl Z3.z4 ?_
  with_reducible refine (laws_toSpace.calls k a0_0 a0_1 _ _ l0_2 t129 t130 t131 _ ?side1 ?side2 A56.out).mono ?_
  (case side1 => exact Z3.z9)
  (case side2 => exact HC0_2.out)
  rintro e w131 ⟨v132, rfl, ho0, hb⟩
  refine ⟨_, rfl, ?_⟩
  have n0_ := Z3.k (Kd.S_elder' Z3.z6 (Kd.S_base ho0) hb)
  have n1_ := Z3.k (Kd.S_elder' Z3.z8 (Kd.S_base ho0) hb)
  have n2_ := Z3.k (Kd.S_elder' Z3.z16 (Kd.S_base ho0) hb)
  have n3_ := Z3.k (Kd.S_elder' Z3.z19 (Kd.S_base ho0) hb)
  have n4_ := Z3.k (Kd.S_lower (Kd.S_new' (Kd.S_new' (Kd.S_new' (Kd.S_new' ho0 (Kd.S_lt Z3.z6)) (Kd.S_lt Z3.z8)) (Kd.S_lt Z3.z16)) (Kd.S_lt Z3.z19)) (below_size Z3.z3))
  have n5_ := Z3.k (Z3.bb BK101 Z3.z1 hb)
  have n6_ := Z3.k (Z3.bb BK102 Z3.z2 hb)
  have n7_ := Z3.k (Z3.bb BK121 Z3.z12 hb)
  have n8_ := Z3.k (Z3.bb BK127 Z3.z21 hb)
  have n9_ := Z3.k (below_step Z3.z3 hb)
  clear HO109 HO114 HO120 HO126 BK101 BK102 BK121 BK127 HB
  have HO109 := n0_
  have HO114 := n1_
  have HO120 := n2_
  have HO126 := n3_
  have HO133 := n4_
  have BK101 := n5_
  have BK102 := n6_
  have BK121 := n7_
  have BK127 := n8_
  have HB := n9_
  clear n0_ n1_ n2_ n3_ n4_ n5_ n6_ n7_ n8_ n9_
  (try clear hb)
  (try clear hb2)
  (try clear hk)
  (try clear hi)
  (try clear ho0)
  obtain ⟨Ao132, co132, eo132⟩ := Kd.S_slice HO133.out
  (first | subst eo132 | (injection eo132 with f1_ f2_ f3_; have f4_ := f1_.symm; have f5_ := f3_.symm; clear f1_ f2_ f3_; subst f4_; subst f5_))
  refine hK.out _ _ Z3.z18 (fun hHeld => ?_)
  clear hK K
  refine norm_ (a' := ?_) ?_ ?_
  rotate_left
  ·show Act.put _ (some 37) _ = _
   simp only [Act.put, List.setIfInBounds_toArray, List.set_cons_zero, List.set_cons_succ, i64_w, i32_w]
   rfl
  refine one_ (i := 3) (N := some 38) #[true, true, true, true, false] rfl rfl (by kernel_rfl) (by decide) (fun K hK => ?_)
  refine goes_ Try.func8 (by kernel_rfl) rfl #[.agg #[.int .i64 t116, .int .i64 t117, .slice Ao119 t118.length co119], .agg #[.int .i64 t129, .int .i64 t130, .slice Ao132 t131.length co132]] (by rfl) rfl rfl Z3.z4 ?_
  with_reducible refine (laws_eqSpace.calls k t116 t117 _ _ t118 t129 t130 _ _ t131 true _ ?side1 ?side2 ?side3 ?side4 A57.out).mono ?_
  (case side1 => exact Z3.z54)
  (case side2 => exact (Kd.S_reads' HO120.out).2.1)
  (case side3 => exact Z3.z53)
  (case side4 => exact (Kd.S_reads' HO133.out).2.1)
  rintro e w133 ⟨rfl, hb⟩
  refine ⟨_, rfl, ?_⟩
  have n0_ := Z3.k (Kd.S_below Z3.z6 hb)
  have n1_ := Z3.k (Kd.S_below Z3.z8 hb)
  have n2_ := Z3.k (Kd.S_below Z3.z16 hb)
  have n3_ := Z3.k (Kd.S_below Z3.z19 hb)
  have n4_ := Z3.k (Kd.S_below Z3.z22 hb)
  have n5_ := Z3.k (Z3.bb BK101 Z3.z1 hb)
  have n6_ := Z3.k (Z3.bb BK102 Z3.z2 hb)
  have n7_ := Z3.k (Z3.bb BK121 Z3.z12 hb)
  have n8_ := Z3.k (Z3.bb BK127 Z3.z21 hb)
  have n9_ := Z3.k (below_step Z3.z3 hb)
  clear HO109 HO114 HO120 HO126 HO133 BK101 BK102 BK121 BK127 HB
  have HO109 := n0_
  have HO114 := n1_
  have HO120 := n2_
  have HO126 := n3_
  have HO133 := n4_
  have BK101 := n5_
  have BK102 := n6_
  have BK121 := n7_
  have BK127 := n8_
  have HB := n9_
  clear n0_ n1_ n2_ n3_ n4_ n5_ n6_ n7_ n8_ n9_
  (try clear hb)
  (try clear hb2)
  (try clear hk)
  (try clear hi)
  refine hK.out _ _ Z3.z18 (fun hHeld => ?_)
  clear hK K
  refine norm_ (a' := ?_) ?_ ?_
  rotate_left
  ·show Act.put _ (some 38) _ = _
   simp only [Act.put, List.setIfInBounds_toArray, List.set_cons_zero, List.set_cons_succ, i64_w, i32_w]
   rfl
  refine pure_ (i := 4) (N := some 39) (v := ?_) (a' := ?_) #[true, true, true, true, true] rfl rfl (by kernel_rfl) (fun _ _ _ h => h) (Or.inl ⟨(by rfl), ?_⟩) ?_ ?_
  rotate_left
  ·intro w'
   go_simp
   with_reducible rfl
  rotate_left
  ·exact Z3.z11
  refine done_ (by kernel_rfl) ?_
  try go_wp2
  have n0_ := Z3.k (Kd.S_drew HO109.out)
  have n1_ := Z3.k (Kd.S_drew HO114.out)
  have n2_ := Z3.k (Kd.S_drew HO120.out)
  have n3_ := Z3.k (Kd.S_drew HO126.out)
  have n4_ := Z3.k (Kd.S_drew HO133.out)
  have n5_ := Z3.k (blk_drew BK101.out)
  have n6_ := Z3.k (blk_drew BK102.out)
  have n7_ := Z3.k (blk_drew BK121.out)
  have n8_ := Z3.k (blk_drew BK127.out)
  have n9_ := Z3.k (below_drew1 HB.out)
  clear HO109 HO114 HO120 HO126 HO133 BK101 BK102 BK121 BK127 HB
  have HO109 := n0_
  have HO114 := n1_
  have HO120 := n2_
  have HO126 := n3_
  have HO133 := n4_
  have BK101 := n5_
  have BK102 := n6_
  have BK121 := n7_
  have BK127 := n8_
  have HB := n9_
  clear n0_ n1_ n2_ n3_ n4_ n5_ n6_ n7_ n8_ n9_
  refine start_ (n := 5) (S := fun w' => w'.cell? ⟨gb127, 0, none⟩ = some (.int .i64 t122) ∧ w'.cell? ⟨gb127, 1, none⟩ = some (.int .i64 t123) ∧ w'.cell? ⟨gb127, 2, none⟩ = some (.slice Ao127 t124.length co127) ∧ w'.cell? ⟨gb102, 0, none⟩ = some (.int .i64 a1_0) ∧ w'.cell? ⟨gb102, 1, none⟩ = some (.int .i64 a1_1) ∧ w'.cell? ⟨gb102, 2, none⟩ = some (.slice A1_2 l1_2.length c1_2)) (ds := []) #[false, false, false, false, false] (by kernel_rfl) rfl rfl Z3.z20 (fun hHeld => ?_)
  generalize w133.drew = w134 at HO109 HO114 HO120 HO126 HO133 BK101 BK102 BK121 BK127 HB hHeld ⊢
  refine take_ (i := 0) (N := some 40) (v := ?_) (a' := ?_) #[true, false, false, false, false] rfl rfl (by kernel_rfl) (fun _ _ _ h => h) (Or.inl ⟨(by rfl), ?_⟩) hHeld ?_ ?_
  rotate_left
  ·rintro w' ⟨s0, s1, s2, s3, s4, s5⟩
   go_simp
   with_reducible rfl
  rotate_left
  ·exact Z3.z11
  refine take_ (i := 1) (N := some 41) (v := ?_) (a' := ?_) #[true, true, false, false, false] rfl rfl (by kernel_rfl) (fun _ _ _ h => h) (Or.inl ⟨(by rfl), ?_⟩) hHeld ?_ ?_
  rotate_left
  ·rintro w' ⟨s0, s1, s2, s3, s4, s5⟩
   go_simp
   with_reducible rfl
  rotate_left
  ·exact Z3.z11
  refine one_ (i := 2) (N := some 42) #[true, true, true, false, false] rfl rfl (by kernel_rfl) (by decide) (fun K hK => ?_)
  refine goes_ Try.func6 (by kernel_rfl) rfl #[.agg #[.int .i64 a1_0, .int .i64 a1_1, .slice A1_2 l1_2.length c1_2]] (by rfl) rfl rfl Z3.z4 ?_
  with_reducible refine (laws_toSpace.calls k a1_0 a1_1 _ _ l1_2 t135 t136 t137 _ ?side1 ?side2 A59.out).mono ?_
  (case side1 => exact Z3.z17)
  (case side2 => exact HC1_2.out)
  rintro e w135 ⟨v138, rfl, ho0, hb⟩
  refine ⟨_, rfl, ?_⟩
  have n0_ := Z3.k (Kd.S_elder' Z3.z6 (Kd.S_base ho0) hb)
  have n1_ := Z3.k (Kd.S_elder' Z3.z8 (Kd.S_base ho0) hb)
  have n2_ := Z3.k (Kd.S_elder' Z3.z16 (Kd.S_base ho0) hb)
  have n3_ := Z3.k (Kd.S_elder' Z3.z19 (Kd.S_base ho0) hb)
  have n4_ := Z3.k (Kd.S_elder' Z3.z22 (Kd.S_base ho0) hb)
  have n5_ := Z3.k (Kd.S_lower (Kd.S_new' (Kd.S_new' (Kd.S_new' (Kd.S_new' (Kd.S_new' ho0 (Kd.S_lt Z3.z6)) (Kd.S_lt Z3.z8)) (Kd.S_lt Z3.z16)) (Kd.S_lt Z3.z19)) (Kd.S_lt Z3.z22)) (below_size Z3.z3))
  have n6_ := Z3.k (Z3.bb BK101 Z3.z1 hb)
  have n7_ := Z3.k (Z3.bb BK102 Z3.z2 hb)
  have n8_ := Z3.k (Z3.bb BK121 Z3.z12 hb)
  have n9_ := Z3.k (Z3.bb BK127 Z3.z21 hb)
  have n10_ := Z3.k (below_step Z3.z3 hb)
  clear HO109 HO114 HO120 HO126 HO133 BK101 BK102 BK121 BK127 HB
  have HO109 := n0_
  have HO114 := n1_
  have HO120 := n2_
  have HO126 := n3_
  have HO133 := n4_
  have HO139 := n5_
  have BK101 := n6_
  have BK102 := n7_
  have BK121 := n8_
  have BK127 := n9_
  have HB := n10_
  clear n0_ n1_ n2_ n3_ n4_ n5_ n6_ n7_ n8_ n9_ n10_
  (try clear hb)
  (try clear hb2)
  (try clear hk)
  (try clear hi)
  (try clear ho0)
  obtain ⟨Ao136, co136, eo136⟩ := Kd.S_slice HO139.out
  (first | subst eo136 | (injection eo136 with f1_ f2_ f3_; have f4_ := f1_.symm; have f5_ := f3_.symm; clear f1_ f2_ f3_; subst f4_; subst f5_))
  refine hK.out _ _ Z3.z20 (fun hHeld => ?_)
  clear hK K
  refine norm_ (a' := ?_) ?_ ?_
  rotate_left
  ·show Act.put _ (some 42) _ = _
   simp only [Act.put, List.setIfInBounds_toArray, List.set_cons_zero, List.set_cons_succ, i64_w, i32_w]
   rfl
  refine one_ (i := 3) (N := some 43) #[true, true, true, true, false] rfl rfl (by kernel_rfl) (by decide) (fun K hK => ?_)
  refine goes_ Try.func8 (by kernel_rfl) rfl #[.agg #[.int .i64 t122, .int .i64 t123, .slice Ao127 t124.length co127], .agg #[.int .i64 t135, .int .i64 t136, .slice Ao136 t137.length co136]] (by rfl) rfl rfl Z3.z4 ?_
  with_reducible refine (laws_eqSpace.calls k t122 t123 _ _ t124 t135 t136 _ _ t137 false _ ?side1 ?side2 ?side3 ?side4 A60.out).mono ?_
  (case side1 => exact Z3.z60)
  (case side2 => exact (Kd.S_reads' HO126.out).2.1)
  (case side3 => exact Z3.z59)
  (case side4 => exact (Kd.S_reads' HO139.out).2.1)
  rintro e w137 ⟨rfl, hb⟩
  refine ⟨_, rfl, ?_⟩
  have n0_ := Z3.k (Kd.S_below Z3.z6 hb)
  have n1_ := Z3.k (Kd.S_below Z3.z8 hb)
  have n2_ := Z3.k (Kd.S_below Z3.z16 hb)
  have n3_ := Z3.k (Kd.S_below Z3.z19 hb)
  have n4_ := Z3.k (Kd.S_below Z3.z22 hb)
  have n5_ := Z3.k (Kd.S_below (by (with_reducible repeat (first | apply Kd.S_alloc | apply Kd.S_drewN | apply Kd.S_drew)); exact HO139.out) hb)
  have n6_ := Z3.k (Z3.bb BK101 Z3.z1 hb)
  have n7_ := Z3.k (Z3.bb BK102 Z3.z2 hb)
  have n8_ := Z3.k (Z3.bb BK121 Z3.z12 hb)
  have n9_ := Z3.k (Z3.bb BK127 Z3.z21 hb)
  have n10_ := Z3.k (below_step Z3.z3 hb)
  clear HO109 HO114 HO120 HO126 HO133 HO139 BK101 BK102 BK121 BK127 HB
  have HO109 := n0_
  have HO114 := n1_
  have HO120 := n2_
  have HO126 := n3_
  have HO133 := n4_
  have HO139 := n5_
  have BK101 := n6_
  have BK102 := n7_
  have BK121 := n8_
  have BK127 := n9_
  have HB := n10_
  clear n0_ n1_ n2_ n3_ n4_ n5_ n6_ n7_ n8_ n9_ n10_
  (try clear hb)
  (try clear hb2)
  (try clear hk)
  (try clear hi)
  refine hK.out _ _ Z3.z20 (fun hHeld => ?_)
  clear hK K
  refine norm_ (a' := ?_) ?_ ?_
  rotate_left
  ·show Act.put _ (some 43) _ = _
   simp only [Act.put, List.setIfInBounds_toArray, List.set_cons_zero, List.set_cons_succ, i64_w, i32_w]
   rfl
  refine pure_ (i := 4) (N := some 44) (v := ?_) (a' := ?_) #[true, true, true, true, true] rfl rfl (by kernel_rfl) (fun _ _ _ h => h) (Or.inl ⟨(by rfl), ?_⟩) ?_ ?_
  rotate_left
  ·intro w'
   go_simp
   with_reducible rfl
  rotate_left
  ·exact Z3.z11
  refine done_ (by kernel_rfl) ?_
  try go_wp2
  go_ret
  exact ⟨Z3.z50, Z3.z3⟩
 replace c58 := Bool.eq_false_iff.mpr c58
 subst c58
 have H1 : (some false) = some r := by rw [if_neg (show ¬ (false = true) by decide)] at H; exact H
 clear H
 have H := H1
 clear H1
 obtain rfl := Option.some.inj H
 go_enter Try.func3, Try.ntmps3
 try go_wp2_with (first | ((with_reducible refine gate_dst (N := 2) rfl ?_); refine box_event ?hg (N := 2) ?hd (cs := #[.int .i64 a0_0, .int .i64 a0_1, .slice A0_2 l0_2.length c0_2]) (t := 24) ?hr ?_; (case hd => rfl); (case hg => rfl); (case hr => first | (go_simp; done) | (go_simp; rfl)); intro gb101 hg w138 hbox hb; have n0_ := Z3.k (below_step Z3.z15 hb); have n1_ := Z3.k (hbox); have n2_ := Z3.k (show w.heap.size ≤ gb101 from Z3.z57); have n3_ := Z3.k (show w.heap.size ≤ gb101 from Z3.z57); clear HB; have HB := n0_; have BK101 := n1_; have GW101 := n2_; have GE101 := n3_; clear n0_ n1_ n2_ n3_; clear hb hbox hg) | ((with_reducible refine gate_dst (N := 3) rfl ?_); refine box_event ?hg (N := 3) ?hd (cs := #[.int .i64 a1_0, .int .i64 a1_1, .slice A1_2 l1_2.length c1_2]) (t := 24) ?hr ?_; (case hd => rfl); (case hg => rfl); (case hr => first | (go_simp; done) | (go_simp; rfl)); intro gb102 hg w139 hbox hb; have n0_ := Z3.k (Z3.bb BK101 Z3.z1 hb); have n1_ := Z3.k (below_step Z3.z10 hb); have n2_ := Z3.k (hbox); have n3_ := Z3.k (show w.heap.size ≤ gb102 from Z3.z58); have n4_ := Z3.k (show w.heap.size ≤ gb102 from Z3.z58); have n5_ := Z3.k (show gb101 ≠ gb102 from Z3.z51); have n6_ := Z3.k (show gb102 ≠ gb101 from Z3.z52); clear BK101 HB; have BK101 := n0_; have HB := n1_; have BK102 := n2_; have GW102 := n3_; have GE102 := n4_; have NB101_102 := n5_; have NB102_101 := n6_; clear n0_ n1_ n2_ n3_ n4_ n5_ n6_; clear hb hbox hg; have hnb140 := NB101_102.out; have hnc140 := NB102_101.out; have hcz141_0 : w139.cell? ⟨gb101, 0, none⟩ = some (.int .i64 a0_0) := (blk_cell BK101.out 0).trans rfl; have hcz141_1 : w139.cell? ⟨gb101, 1, none⟩ = some (.int .i64 a0_1) := (blk_cell BK101.out 1).trans rfl; have hcz141_2 : w139.cell? ⟨gb101, 2, none⟩ = some (.slice A0_2 l0_2.length c0_2) := (blk_cell BK101.out 2).trans rfl; have hfz141_0 := blk_frozen BK101.out 0; have hfz141_1 := blk_frozen BK101.out 1; have hfz141_2 := blk_frozen BK101.out 2) | ((with_reducible refine gate_callee (f := 4) rfl ?_); refine goesL_ (some 12) rfl rfl Try.func4 (by kernel_rfl) rfl #[.agg #[.int .i64 a0_0, .int .i64 a0_1, .slice A0_2 l0_2.length c0_2], .int .i64 1048576] rfl Z3.z4 ?_; (with_reducible refine (laws_szSpace.calls k a0_0 a0_1 _ _ l0_2 1048576 t103 _ ?side1 ?side2 A3.out).mono ?_); (case side1 => exact Z3.z9); (case side2 => exact HC0_2.out); rintro e w142 ⟨rfl, hb⟩; refine ⟨_, rfl, ?_⟩; have n0_ := Z3.k (Z3.bb BK101 Z3.z1 hb); have n1_ := Z3.k (Z3.bb BK102 Z3.z2 hb); have n2_ := Z3.k (below_step Z3.z0 hb); clear BK101 BK102 HB; have BK101 := n0_; have BK102 := n1_; have HB := n2_; clear n0_ n1_ n2_; (try clear hb); (try clear hb2); (try clear hk); (try clear hi); have hcz143_0 : w142.cell? ⟨gb102, 0, none⟩ = some (.int .i64 a1_0) := (blk_cell BK102.out 0).trans rfl; have hcz143_1 : w142.cell? ⟨gb102, 1, none⟩ = some (.int .i64 a1_1) := (blk_cell BK102.out 1).trans rfl; have hcz143_2 : w142.cell? ⟨gb102, 2, none⟩ = some (.slice A1_2 l1_2.length c1_2) := (blk_cell BK102.out 2).trans rfl; have hfz143_0 := blk_frozen BK102.out 0; have hfz143_1 := blk_frozen BK102.out 1; have hfz143_2 := blk_frozen BK102.out 2) | ((with_reducible refine gate_callee (f := 4) rfl ?_); refine goesL_ (some 17) rfl rfl Try.func4 (by kernel_rfl) rfl #[.agg #[.int .i64 a1_0, .int .i64 a1_1, .slice A1_2 l1_2.length c1_2], .int .i64 t103] rfl Z3.z4 ?_; (with_reducible refine (laws_szSpace.calls k a1_0 a1_1 _ _ l1_2 t103 t104 _ ?side1 ?side2 A10.out).mono ?_); (case side1 => exact Z3.z17); (case side2 => exact HC1_2.out); rintro e w144 ⟨rfl, hb⟩; refine ⟨_, rfl, ?_⟩; have n0_ := Z3.k (Z3.bb BK101 Z3.z1 hb); have n1_ := Z3.k (Z3.bb BK102 Z3.z2 hb); have n2_ := Z3.k (below_step Z3.z0 hb); clear BK101 BK102 HB; have BK101 := n0_; have BK102 := n1_; have HB := n2_; clear n0_ n1_ n2_; (try clear hb); (try clear hb2); (try clear hk); (try clear hi)))
 have n0_ := Z3.k (blk_drew BK101.out)
 have n1_ := Z3.k (blk_drew BK102.out)
 have n2_ := Z3.k (below_drew1 HB.out)
 clear BK101 BK102 HB
 have BK101 := n0_
 have BK102 := n1_
 have HB := n2_
 clear n0_ n1_ n2_
 refine start_ (n := 6) (S := fun w' => w'.cell? ⟨gb101, 0, none⟩ = some (.int .i64 a0_0) ∧ w'.cell? ⟨gb101, 1, none⟩ = some (.int .i64 a0_1) ∧ w'.cell? ⟨gb101, 2, none⟩ = some (.slice A0_2 l0_2.length c0_2) ∧ w'.cell? ⟨gb102, 0, none⟩ = some (.int .i64 a1_0) ∧ w'.cell? ⟨gb102, 1, none⟩ = some (.int .i64 a1_1) ∧ w'.cell? ⟨gb102, 2, none⟩ = some (.slice A1_2 l1_2.length c1_2)) (ds := []) #[false, false, false, false, false, false] (by kernel_rfl) rfl rfl Z3.z7 (fun hHeld => ?_)
 generalize w144.drew = w145 at BK101 BK102 HB hHeld ⊢
 refine take_ (i := 0) (N := some 20) (v := ?_) (a' := ?_) #[true, false, false, false, false, false] rfl rfl (by kernel_rfl) (fun _ _ _ h => h) (Or.inl ⟨(by rfl), ?_⟩) hHeld ?_ ?_
 rotate_left
 ·rintro w' ⟨s0, s1, s2, s3, s4, s5⟩
  go_simp
  with_reducible rfl
 rotate_left
 ·exact Z3.z11
 refine take_ (i := 2) (N := some 22) (v := ?_) (a' := ?_) #[true, false, true, false, false, false] rfl rfl (by kernel_rfl) (fun _ _ _ h => h) (Or.inl ⟨(by rfl), ?_⟩) hHeld ?_ ?_
 rotate_left
 ·rintro w' ⟨s0, s1, s2, s3, s4, s5⟩
  go_simp
  with_reducible rfl
 rotate_left
 ·exact Z3.z11
 refine one_ (i := 1) (N := some 21) #[true, true, true, false, false, false] rfl rfl (by kernel_rfl) (by decide) (fun K hK => ?_)
 refine goes_ Try.func6 (by kernel_rfl) rfl #[.agg #[.int .i64 a0_0, .int .i64 a0_1, .slice A0_2 l0_2.length c0_2]] (by rfl) rfl rfl Z3.z4 ?_
 with_reducible refine (laws_toSpace.calls k a0_0 a0_1 _ _ l0_2 t105 t106 t107 _ ?side1 ?side2 A19.out).mono ?_
 (case side1 => exact Z3.z9)
 (case side2 => exact HC0_2.out)
 rintro e w146 ⟨v108, rfl, ho0, hb⟩
 refine ⟨_, rfl, ?_⟩
 have n0_ := Z3.k (Kd.S_lower ho0 (below_size Z3.z0))
 have n1_ := Z3.k (Z3.bb BK101 Z3.z1 hb)
 have n2_ := Z3.k (Z3.bb BK102 Z3.z2 hb)
 have n3_ := Z3.k (below_step Z3.z0 hb)
 clear BK101 BK102 HB
 have HO109 := n0_
 have BK101 := n1_
 have BK102 := n2_
 have HB := n3_
 clear n0_ n1_ n2_ n3_
 (try clear hb)
 (try clear hb2)
 (try clear hk)
 (try clear hi)
 (try clear ho0)
 refine hK.out _ _ Z3.z7 (fun hHeld => ?_)
 clear hK K
 refine norm_ (a' := ?_) ?_ ?_
 rotate_left
 ·show Act.put _ (some 21) _ = _
  simp only [Act.put, List.setIfInBounds_toArray, List.set_cons_zero, List.set_cons_succ, i64_w, i32_w]
  rfl
 refine one_ (i := 3) (N := some 23) #[true, true, true, true, false, false] rfl rfl (by kernel_rfl) (by decide) (fun K hK => ?_)
 refine goes_ Try.func6 (by kernel_rfl) rfl #[.agg #[.int .i64 a1_0, .int .i64 a1_1, .slice A1_2 l1_2.length c1_2]] (by rfl) rfl rfl Z3.z4 ?_
 with_reducible refine (laws_toSpace.calls k a1_0 a1_1 _ _ l1_2 t110 t111 t112 _ ?side1 ?side2 A20.out).mono ?_
 (case side1 => exact Z3.z17)
 (case side2 => exact HC1_2.out)
 rintro e w147 ⟨v113, rfl, ho0, hb⟩
 refine ⟨_, rfl, ?_⟩
 have n0_ := Z3.k (Kd.S_elder' Z3.z6 (Kd.S_base ho0) hb)
 have n1_ := Z3.k (Kd.S_lower (Kd.S_new' ho0 (Kd.S_lt Z3.z6)) (below_size Z3.z0))
 have n2_ := Z3.k (Z3.bb BK101 Z3.z1 hb)
 have n3_ := Z3.k (Z3.bb BK102 Z3.z2 hb)
 have n4_ := Z3.k (below_step Z3.z0 hb)
 clear HO109 BK101 BK102 HB
 have HO109 := n0_
 have HO114 := n1_
 have BK101 := n2_
 have BK102 := n3_
 have HB := n4_
 clear n0_ n1_ n2_ n3_ n4_
 (try clear hb)
 (try clear hb2)
 (try clear hk)
 (try clear hi)
 (try clear ho0)
 obtain ⟨Ao148, co148, eo148⟩ := Kd.S_slice HO109.out
 (first | subst eo148 | (injection eo148 with f1_ f2_ f3_; have f4_ := f1_.symm; have f5_ := f3_.symm; clear f1_ f2_ f3_; subst f4_; subst f5_))
 obtain ⟨Ao149, co149, eo149⟩ := Kd.S_slice HO114.out
 (first | subst eo149 | (injection eo149 with f1_ f2_ f3_; have f4_ := f1_.symm; have f5_ := f3_.symm; clear f1_ f2_ f3_; subst f4_; subst f5_))
 refine hK.out _ _ Z3.z7 (fun hHeld => ?_)
 clear hK K
 refine norm_ (a' := ?_) ?_ ?_
 rotate_left
 ·show Act.put _ (some 23) _ = _
  simp only [Act.put, List.setIfInBounds_toArray, List.set_cons_zero, List.set_cons_succ, i64_w, i32_w]
  rfl
 refine one_ (i := 4) (N := some 24) #[true, true, true, true, true, false] rfl rfl (by kernel_rfl) (by decide) (fun K hK => ?_)
 refine goes_ Try.func5 (by kernel_rfl) rfl #[.agg #[.int .i64 t105, .int .i64 t106, .slice Ao148 t107.length co148], .agg #[.int .i64 t110, .int .i64 t111, .slice Ao149 t112.length co149]] (by rfl) rfl rfl Z3.z4 ?_
 with_reducible refine (spec_SameSpace.calls k t105 t106 _ _ t107 t110 t111 _ _ t112 t115 _ ?side1 ?side2 ?side3 ?side4 A21.out).mono ?_
 (case side1 => exact Z3.z24)
 (case side2 => exact (Kd.S_reads' HO109.out).2.1)
 (case side3 => exact Z3.z23)
 (case side4 => exact (Kd.S_reads' HO114.out).2.1)
 rintro e w150 ⟨rfl, hb⟩
 refine ⟨_, rfl, ?_⟩
 have n0_ := Z3.k (Kd.S_below Z3.z6 hb)
 have n1_ := Z3.k (Kd.S_below Z3.z8 hb)
 have n2_ := Z3.k (Z3.bb BK101 Z3.z1 hb)
 have n3_ := Z3.k (Z3.bb BK102 Z3.z2 hb)
 have n4_ := Z3.k (below_step Z3.z0 hb)
 clear HO109 HO114 BK101 BK102 HB
 have HO109 := n0_
 have HO114 := n1_
 have BK101 := n2_
 have BK102 := n3_
 have HB := n4_
 clear n0_ n1_ n2_ n3_ n4_
 (try clear hb)
 (try clear hb2)
 (try clear hk)
 (try clear hi)
 refine hK.out _ _ Z3.z7 (fun hHeld => ?_)
 clear hK K
 refine norm_ (a' := ?_) ?_ ?_
 rotate_left
 ·show Act.put _ (some 24) _ = _
  simp only [Act.put, List.setIfInBounds_toArray, List.set_cons_zero, List.set_cons_succ, i64_w, i32_w]
  rfl
 refine pure_ (i := 5) (N := some 6) (v := ?_) (a' := ?_) #[true, true, true, true, true, true] rfl rfl (by kernel_rfl) (fun _ _ _ h => h) (Or.inl ⟨(by rfl), ?_⟩) ?_ ?_
 rotate_left
 ·intro w'
  go_simp
  with_reducible rfl
 rotate_left
 ·exact Z3.z11
 refine done_ (by kernel_rfl) ?_
 have hcz151_0 : w150.cell? ⟨gb101, 0, none⟩ = some (.int .i64 a0_0) := (blk_cell BK101.out 0).trans rfl
 have hcz151_1 : w150.cell? ⟨gb101, 1, none⟩ = some (.int .i64 a0_1) := (blk_cell BK101.out 1).trans rfl
 have hcz151_2 : w150.cell? ⟨gb101, 2, none⟩ = some (.slice A0_2 l0_2.length c0_2) := (blk_cell BK101.out 2).trans rfl
 have hfz151_0 := blk_frozen BK101.out 0
 have hfz151_1 := blk_frozen BK101.out 1
 have hfz151_2 := blk_frozen BK101.out 2
 try go_wp2_with (first | ((with_reducible refine gate_callee (f := 6) rfl ?_); refine goesL_ (some 26) rfl rfl Try.func6 (by kernel_rfl) rfl #[.agg #[.int .i64 a0_0, .int .i64 a0_1, .slice A0_2 l0_2.length c0_2]] rfl Z3.z4 ?_; (with_reducible refine (laws_toSpace.calls k a0_0 a0_1 _ _ l0_2 t116 t117 t118 _ ?side1 ?side2 A22.out).mono ?_); (case side1 => exact Z3.z9); (case side2 => exact HC0_2.out); rintro e w152 ⟨v119, rfl, ho0, hb⟩; refine ⟨_, rfl, ?_⟩; have n0_ := Z3.k (Kd.S_elder' Z3.z6 (Kd.S_base ho0) hb); have n1_ := Z3.k (Kd.S_elder' Z3.z8 (Kd.S_base ho0) hb); have n2_ := Z3.k (Kd.S_lower (Kd.S_new' (Kd.S_new' ho0 (Kd.S_lt Z3.z6)) (Kd.S_lt Z3.z8)) (below_size Z3.z0)); have n3_ := Z3.k (Z3.bb BK101 Z3.z1 hb); have n4_ := Z3.k (Z3.bb BK102 Z3.z2 hb); have n5_ := Z3.k (below_step Z3.z0 hb); clear HO109 HO114 BK101 BK102 HB; have HO109 := n0_; have HO114 := n1_; have HO120 := n2_; have BK101 := n3_; have BK102 := n4_; have HB := n5_; clear n0_ n1_ n2_ n3_ n4_ n5_; (try clear hb); (try clear hb2); (try clear hk); (try clear hi); (try clear ho0)) | ((with_reducible refine gate_dst (N := 7) rfl ?_); refine box_event ?hg (N := 7) ?hd (cs := #[.int .i64 0, .int .i64 0, .slice none 0 0]) (t := 27) ?hr ?_; (case hd => rfl); (case hg => rfl); (case hr => first | (go_simp; done) | (go_simp; rfl)); intro gb121 hg w153 hbox hb; have n0_ := Z3.k (Kd.S_below Z3.z6 hb); have n1_ := Z3.k (Kd.S_below Z3.z8 hb); have n2_ := Z3.k (Kd.S_below Z3.z16 hb); have n3_ := Z3.k (Z3.bb BK101 Z3.z1 hb); have n4_ := Z3.k (Z3.bb BK102 Z3.z2 hb); have n5_ := Z3.k (below_step Z3.z0 hb); have n6_ := Z3.k (hbox); have n7_ := Z3.k (show w.heap.size ≤ gb121 from (by rw [hg]; exact (below_size Z3.z0))); have n8_ := Z3.k (show w.heap.size ≤ gb121 from (by rw [hg]; exact (below_size Z3.z0))); have n9_ := Z3.k (show gb101 ≠ gb121 from Z3.z51); have n10_ := Z3.k (show gb121 ≠ gb101 from Z3.z52); have n11_ := Z3.k (show gb102 ≠ gb121 from Z3.z55); have n12_ := Z3.k (show gb121 ≠ gb102 from Z3.z56); clear HO109 HO114 HO120 BK101 BK102 HB; have HO109 := n0_; have HO114 := n1_; have HO120 := n2_; have BK101 := n3_; have BK102 := n4_; have HB := n5_; have BK121 := n6_; have GW121 := n7_; have GE121 := n8_; have NB101_121 := n9_; have NB121_101 := n10_; have NB102_121 := n11_; have NB121_102 := n12_; clear n0_ n1_ n2_ n3_ n4_ n5_ n6_ n7_ n8_ n9_ n10_ n11_ n12_; clear hb hbox hg; have hnb154 := NB121_101.out; have hnc154 := NB101_121.out; have hnb155 := NB121_102.out; have hnc155 := NB102_121.out; have hcz156_0 : w153.cell? ⟨gb121, 0, none⟩ = some (.int .i64 0) := (blk_cell BK121.out 0).trans rfl; have hcz156_1 : w153.cell? ⟨gb121, 1, none⟩ = some (.int .i64 0) := (blk_cell BK121.out 1).trans rfl; have hcz156_2 : w153.cell? ⟨gb121, 2, none⟩ = some (.slice none 0 0) := (blk_cell BK121.out 2).trans rfl; have hfz156_0 := blk_frozen BK121.out 0; have hfz156_1 := blk_frozen BK121.out 1; have hfz156_2 := blk_frozen BK121.out 2; obtain ⟨Ao157, co157, eo157⟩ := Kd.S_slice HO120.out; subst eo157; have hcz158_0 : w153.cell? ⟨gb102, 0, none⟩ = some (.int .i64 a1_0) := (blk_cell BK102.out 0).trans rfl; have hcz158_1 : w153.cell? ⟨gb102, 1, none⟩ = some (.int .i64 a1_1) := (blk_cell BK102.out 1).trans rfl; have hcz158_2 : w153.cell? ⟨gb102, 2, none⟩ = some (.slice A1_2 l1_2.length c1_2) := (blk_cell BK102.out 2).trans rfl; have hfz158_0 := blk_frozen BK102.out 0; have hfz158_1 := blk_frozen BK102.out 1; have hfz158_2 := blk_frozen BK102.out 2) | ((with_reducible refine gate_callee (f := 6) rfl ?_); refine goesL_ (some 28) rfl rfl Try.func6 (by kernel_rfl) rfl #[.agg #[.int .i64 a1_0, .int .i64 a1_1, .slice A1_2 l1_2.length c1_2]] rfl Z3.z4 ?_; (with_reducible refine (laws_toSpace.calls k a1_0 a1_1 _ _ l1_2 t122 t123 t124 _ ?side1 ?side2 A23.out).mono ?_); (case side1 => exact (by exact Kd.C_below HR1_2.out Z3.z5)); (case side2 => exact HC1_2.out); rintro e w159 ⟨v125, rfl, ho0, hb⟩; refine ⟨_, rfl, ?_⟩; have n0_ := Z3.k (Kd.S_elder' Z3.z38 (Kd.S_base ho0) hb); have n1_ := Z3.k (Kd.S_elder' Z3.z36 (Kd.S_base ho0) hb); have n2_ := Z3.k (Kd.S_elder' Z3.z34 (Kd.S_base ho0) hb); have n3_ := Z3.k (Kd.S_lower (Kd.S_new' (Kd.S_new' (Kd.S_new' ho0 (Kd.S_lt Z3.z38)) (Kd.S_lt Z3.z36)) (Kd.S_lt Z3.z34)) (below_size Z3.z5)); have n4_ := Z3.k (Z3.bb BK101 Z3.z29 hb); have n5_ := Z3.k (Z3.bb BK102 Z3.z27 hb); have n6_ := Z3.k (blk_below (g := gb121) (o := .cells #[.int .i64 t116, .int .i64 t117, .slice Ao157 t118.length co157] 27 (0, 0)) Z3.z14 hb); have n7_ := Z3.k (below_step Z3.z5 hb); clear HO109 HO114 HO120 BK101 BK102 BK121 HB; have HO109 := n0_; have HO114 := n1_; have HO120 := n2_; have HO126 := n3_; have BK101 := n4_; have BK102 := n5_; have BK121 := n6_; have HB := n7_; clear n0_ n1_ n2_ n3_ n4_ n5_ n6_ n7_; (try clear hb); (try clear hb2); (try clear hk); (try clear hi); (try clear ho0)) | ((with_reducible refine gate_dst (N := 8) rfl ?_); refine box_event ?hg (N := 8) ?hd (cs := #[.int .i64 0, .int .i64 0, .slice none 0 0]) (t := 27) ?hr ?_; (case hd => rfl); (case hg => rfl); (case hr => first | (go_simp; done) | (go_simp; rfl)); intro gb127 hg w160 hbox hb; have n0_ := Z3.k (Kd.S_below Z3.z6 hb); have n1_ := Z3.k (Kd.S_below Z3.z8 hb); have n2_ := Z3.k (Kd.S_below Z3.z16 hb); have n3_ := Z3.k (Kd.S_below Z3.z19 hb); have n4_ := Z3.k (Z3.bb BK101 Z3.z1 hb); have n5_ := Z3.k (Z3.bb BK102 Z3.z2 hb); have n6_ := Z3.k (Z3.bb BK121 Z3.z12 hb); have n7_ := Z3.k (below_step Z3.z5 hb); have n8_ := Z3.k (hbox); have n9_ := Z3.k (show w.heap.size ≤ gb127 from (by rw [hg]; exact (below_size Z3.z5))); have n10_ := Z3.k (show w.heap.size ≤ gb127 from (by rw [hg]; exact (below_size Z3.z5))); have n11_ := Z3.k (show gb101 ≠ gb127 from Z3.z51); have n12_ := Z3.k (show gb127 ≠ gb101 from Z3.z52); have n13_ := Z3.k (show gb102 ≠ gb127 from Z3.z55); have n14_ := Z3.k (show gb127 ≠ gb102 from Z3.z56); have n15_ := Z3.k (show gb121 ≠ gb127 from (by rw [hg]; exact Nat.ne_of_lt (Z3.bl BK121 Z3.z12))); have n16_ := Z3.k (show gb127 ≠ gb121 from (by rw [hg]; exact Nat.ne_of_gt (Z3.bl BK121 Z3.z12))); clear HO109 HO114 HO120 HO126 BK101 BK102 BK121 HB; have HO109 := n0_; have HO114 := n1_; have HO120 := n2_; have HO126 := n3_; have BK101 := n4_; have BK102 := n5_; have BK121 := n6_; have HB := n7_; have BK127 := n8_; have GW127 := n9_; have GE127 := n10_; have NB101_127 := n11_; have NB127_101 := n12_; have NB102_127 := n13_; have NB127_102 := n14_; have NB121_127 := n15_; have NB127_121 := n16_; clear n0_ n1_ n2_ n3_ n4_ n5_ n6_ n7_ n8_ n9_ n10_ n11_ n12_ n13_ n14_ n15_ n16_; clear hb hbox hg; have hnb161 := NB127_101.out; have hnc161 := NB101_127.out; have hnb162 := NB127_102.out; have hnc162 := NB102_127.out; have hnb163 := NB127_121.out; have hnc163 := NB121_127.out; have hcz164_0 : w160.cell? ⟨gb127, 0, none⟩ = some (.int .i64 0) := (blk_cell BK127.out 0).trans rfl; have hcz164_1 : w160.cell? ⟨gb127, 1, none⟩ = some (.int .i64 0) := (blk_cell BK127.out 1).trans rfl; have hcz164_2 : w160.cell? ⟨gb127, 2, none⟩ = some (.slice none 0 0) := (blk_cell BK127.out 2).trans rfl; have hfz164_0 := blk_frozen BK127.out 0; have hfz164_1 := blk_frozen BK127.out 1; have hfz164_2 := blk_frozen BK127.out 2; obtain ⟨Ao165, co165, eo165⟩ := Kd.S_slice HO126.out; subst eo165; have hcz166_0 : w160.cell? ⟨gb121, 0, none⟩ = some (.int .i64 t116) := (blk_cell BK121.out 0).trans rfl; have hcz166_1 : w160.cell? ⟨gb121, 1, none⟩ = some (.int .i64 t117) := (blk_cell BK121.out 1).trans rfl; have hcz166_2 : w160.cell? ⟨gb121, 2, none⟩ = some (.slice Ao157 t118.length co157) := (blk_cell BK121.out 2).trans rfl; have hfz166_0 := blk_frozen BK121.out 0; have hfz166_1 := blk_frozen BK121.out 1; have hfz166_2 := blk_frozen BK121.out 2) | ((with_reducible refine gate_callee (f := 7) rfl ?_); refine goesL_ (some 31) rfl rfl Try.func7 (by kernel_rfl) rfl #[.agg #[.int .i64 t116, .int .i64 t117, .slice Ao157 t118.length co157], .agg #[.int .i64 t122, .int .i64 t123, .slice Ao165 t124.length co165]] rfl Z3.z4 ?_; (with_reducible refine (impl_SameSpace.calls k t116 t117 _ _ t118 t122 t123 _ _ t124 t128 _ ?side1 ?side2 ?side3 ?side4 A24.out).mono ?_); (case side1 => exact (by refine (Kd.S_reads' (e := 34) (base := w.heap.size) (ok := fun k_ => (((True ∧ some k_ ≠ (.slice Ao148 t107.length co148 : Value).ownBlock) ∧ some k_ ≠ (.slice Ao149 t112.length co149 : Value).ownBlock) ∧ some k_ ≠ (.slice Ao165 t124.length co165 : Value).ownBlock)) (n := t118.length) (c := co157) ?_).2.2; exact Z3.z32)); (case side2 => exact (Kd.S_reads' HO120.out).2.1); (case side3 => exact (by refine (Kd.S_reads' (e := 34) (base := w.heap.size) (ok := fun k_ => (((True ∧ some k_ ≠ (.slice Ao148 t107.length co148 : Value).ownBlock) ∧ some k_ ≠ (.slice Ao149 t112.length co149 : Value).ownBlock) ∧ some k_ ≠ (.slice Ao157 t118.length co157 : Value).ownBlock)) (n := t124.length) (c := co165) ?_).2.2; exact Z3.z30)); (case side4 => exact (Kd.S_reads' HO126.out).2.1); rintro e w167 ⟨rfl, hb⟩; refine ⟨_, rfl, ?_⟩; have n0_ := Z3.k (Kd.S_below (by (with_reducible repeat (first | apply Kd.S_alloc | apply Kd.S_drewN | apply Kd.S_drew)); exact (Kd.S_mono (Kd.S_far (p := ⟨gb127, 2, none⟩) (Kd.S_far (p := ⟨gb127, 1, none⟩) (Kd.S_far (p := ⟨gb127, 0, none⟩) (Kd.S_types HO109.out BK127.out (by decide)) (fun _ hk => hk.2) (.int .i64 t122)) (fun _ hk => hk.2) (.int .i64 t123)) (fun _ hk => hk.2) (.slice Ao165 t124.length co165)) (fun _ h_ => h_.1))) hb); have n1_ := Z3.k (Kd.S_below (by (with_reducible repeat (first | apply Kd.S_alloc | apply Kd.S_drewN | apply Kd.S_drew)); exact (Kd.S_mono (Kd.S_far (p := ⟨gb127, 2, none⟩) (Kd.S_far (p := ⟨gb127, 1, none⟩) (Kd.S_far (p := ⟨gb127, 0, none⟩) (Kd.S_types HO114.out BK127.out (by decide)) (fun _ hk => hk.2) (.int .i64 t122)) (fun _ hk => hk.2) (.int .i64 t123)) (fun _ hk => hk.2) (.slice Ao165 t124.length co165)) (fun _ h_ => h_.1))) hb); have n2_ := Z3.k (Kd.S_below Z3.z32 hb); have n3_ := Z3.k (Kd.S_below Z3.z30 hb); have n4_ := Z3.k (Z3.bb BK101 Z3.z28 hb); have n5_ := Z3.k (Z3.bb BK102 Z3.z26 hb); have n6_ := Z3.k (Z3.bb BK121 Z3.z25 hb); have n7_ := Z3.k (blk_below (g := gb127) (o := .cells #[.int .i64 t122, .int .i64 t123, .slice Ao165 t124.length co165] 27 (0, 0)) Z3.z13 hb); have n8_ := Z3.k (below_step Z3.z3 hb); clear HO109 HO114 HO120 HO126 BK101 BK102 BK121 BK127 HB; have HO109 := n0_; have HO114 := n1_; have HO120 := n2_; have HO126 := n3_; have BK101 := n4_; have BK102 := n5_; have BK121 := n6_; have BK127 := n7_; have HB := n8_; clear n0_ n1_ n2_ n3_ n4_ n5_ n6_ n7_ n8_; (try clear hb); (try clear hb2); (try clear hk); (try clear hi)))
 have n0_ := Z3.k (Kd.S_drew HO109.out)
 have n1_ := Z3.k (Kd.S_drew HO114.out)
 have n2_ := Z3.k (Kd.S_drew HO120.out)
 have n3_ := Z3.k (Kd.S_drew HO126.out)
 have n4_ := Z3.k (blk_drew BK101.out)
 have n5_ := Z3.k (blk_drew BK102.out)
 have n6_ := Z3.k (blk_drew BK121.out)
 have n7_ := Z3.k (blk_drew BK127.out)
 have n8_ := Z3.k (below_drew1 HB.out)
 clear HO109 HO114 HO120 HO126 BK101 BK102 BK121 BK127 HB
 have HO109 := n0_
 have HO114 := n1_
 have HO120 := n2_
 have HO126 := n3_
 have BK101 := n4_
 have BK102 := n5_
 have BK121 := n6_
 have BK127 := n7_
 have HB := n8_
 clear n0_ n1_ n2_ n3_ n4_ n5_ n6_ n7_ n8_
 refine start_ (n := 5) (S := fun w' => w'.cell? ⟨gb121, 0, none⟩ = some (.int .i64 t116) ∧ w'.cell? ⟨gb121, 1, none⟩ = some (.int .i64 t117) ∧ w'.cell? ⟨gb121, 2, none⟩ = some (.slice Ao157 t118.length co157) ∧ w'.cell? ⟨gb101, 0, none⟩ = some (.int .i64 a0_0) ∧ w'.cell? ⟨gb101, 1, none⟩ = some (.int .i64 a0_1) ∧ w'.cell? ⟨gb101, 2, none⟩ = some (.slice A0_2 l0_2.length c0_2)) (ds := []) #[false, false, false, false, false] (by kernel_rfl) rfl rfl Z3.z18 (fun hHeld => ?_)
 generalize w167.drew = w168 at HO109 HO114 HO120 HO126 BK101 BK102 BK121 BK127 HB hHeld ⊢
 refine take_ (i := 0) (N := some 35) (v := ?_) (a' := ?_) #[true, false, false, false, false] rfl rfl (by kernel_rfl) (fun _ _ _ h => h) (Or.inl ⟨(by rfl), ?_⟩) hHeld ?_ ?_
 rotate_left
 ·rintro w' ⟨s0, s1, s2, s3, s4, s5⟩
  go_simp
  with_reducible rfl
 rotate_left
 ·exact Z3.z11
 refine take_ (i := 1) (N := some 36) (v := ?_) (a' := ?_) #[true, true, false, false, false] rfl rfl (by kernel_rfl) (fun _ _ _ h => h) (Or.inl ⟨(by rfl), ?_⟩) hHeld ?_ ?_
 rotate_left
 ·rintro w' ⟨s0, s1, s2, s3, s4, s5⟩
  go_simp
  with_reducible rfl
 rotate_left
 ·exact Z3.z11
 refine one_ (i := 2) (N := some 37) #[true, true, true, false, false] rfl rfl (by kernel_rfl) (by decide) (fun K hK => ?_)
 refine goes_ Try.func6 (by kernel_rfl) rfl #[.agg #[.int .i64 a0_0, .int .i64 a0_1, .slice A0_2 l0_2.length c0_2]] (by rfl) rfl rfl Z3.z4 ?_
 with_reducible refine (laws_toSpace.calls k a0_0 a0_1 _ _ l0_2 t129 t130 t131 _ ?side1 ?side2 A56.out).mono ?_
 (case side1 => exact Z3.z9)
 (case side2 => exact HC0_2.out)
 rintro e w169 ⟨v132, rfl, ho0, hb⟩
 refine ⟨_, rfl, ?_⟩
 have n0_ := Z3.k (Kd.S_elder' Z3.z6 (Kd.S_base ho0) hb)
 have n1_ := Z3.k (Kd.S_elder' Z3.z8 (Kd.S_base ho0) hb)
 have n2_ := Z3.k (Kd.S_elder' Z3.z16 (Kd.S_base ho0) hb)
 have n3_ := Z3.k (Kd.S_elder' Z3.z19 (Kd.S_base ho0) hb)
 have n4_ := Z3.k (Kd.S_lower (Kd.S_new' (Kd.S_new' (Kd.S_new' (Kd.S_new' ho0 (Kd.S_lt Z3.z6)) (Kd.S_lt Z3.z8)) (Kd.S_lt Z3.z16)) (Kd.S_lt Z3.z19)) (below_size Z3.z3))
 have n5_ := Z3.k (Z3.bb BK101 Z3.z1 hb)
 have n6_ := Z3.k (Z3.bb BK102 Z3.z2 hb)
 have n7_ := Z3.k (Z3.bb BK121 Z3.z12 hb)
 have n8_ := Z3.k (Z3.bb BK127 Z3.z21 hb)
 have n9_ := Z3.k (below_step Z3.z3 hb)
 clear HO109 HO114 HO120 HO126 BK101 BK102 BK121 BK127 HB
 have HO109 := n0_
 have HO114 := n1_
 have HO120 := n2_
 have HO126 := n3_
 have HO133 := n4_
 have BK101 := n5_
 have BK102 := n6_
 have BK121 := n7_
 have BK127 := n8_
 have HB := n9_
 clear n0_ n1_ n2_ n3_ n4_ n5_ n6_ n7_ n8_ n9_
 (try clear hb)
 (try clear hb2)
 (try clear hk)
 (try clear hi)
 (try clear ho0)
 obtain ⟨Ao170, co170, eo170⟩ := Kd.S_slice HO133.out
 (first | subst eo170 | (injection eo170 with f1_ f2_ f3_; have f4_ := f1_.symm; have f5_ := f3_.symm; clear f1_ f2_ f3_; subst f4_; subst f5_))
 refine hK.out _ _ Z3.z18 (fun hHeld => ?_)
 clear hK K
 refine norm_ (a' := ?_) ?_ ?_
 rotate_left
 ·show Act.put _ (some 37) _ = _
  simp only [Act.put, List.setIfInBounds_toArray, List.set_cons_zero, List.set_cons_succ, i64_w, i32_w]
  rfl
 refine one_ (i := 3) (N := some 38) #[true, true, true, true, false] rfl rfl (by kernel_rfl) (by decide) (fun K hK => ?_)
 refine goes_ Try.func8 (by kernel_rfl) rfl #[.agg #[.int .i64 t116, .int .i64 t117, .slice Ao157 t118.length co157], .agg #[.int .i64 t129, .int .i64 t130, .slice Ao170 t131.length co170]] (by rfl) rfl rfl Z3.z4 ?_
 with_reducible refine (laws_eqSpace.calls k t116 t117 _ _ t118 t129 t130 _ _ t131 false _ ?side1 ?side2 ?side3 ?side4 A57.out).mono ?_
 (case side1 => exact Z3.z54)
 (case side2 => exact (Kd.S_reads' HO120.out).2.1)
 (case side3 => exact Z3.z53)
 (case side4 => exact (Kd.S_reads' HO133.out).2.1)
 rintro e w171 ⟨rfl, hb⟩
 refine ⟨_, rfl, ?_⟩
 have n0_ := Z3.k (Kd.S_below Z3.z6 hb)
 have n1_ := Z3.k (Kd.S_below Z3.z8 hb)
 have n2_ := Z3.k (Kd.S_below Z3.z16 hb)
 have n3_ := Z3.k (Kd.S_below Z3.z19 hb)
 have n4_ := Z3.k (Kd.S_below Z3.z22 hb)
 have n5_ := Z3.k (Z3.bb BK101 Z3.z1 hb)
 have n6_ := Z3.k (Z3.bb BK102 Z3.z2 hb)
 have n7_ := Z3.k (Z3.bb BK121 Z3.z12 hb)
 have n8_ := Z3.k (Z3.bb BK127 Z3.z21 hb)
 have n9_ := Z3.k (below_step Z3.z3 hb)
 clear HO109 HO114 HO120 HO126 HO133 BK101 BK102 BK121 BK127 HB
 have HO109 := n0_
 have HO114 := n1_
 have HO120 := n2_
 have HO126 := n3_
 have HO133 := n4_
 have BK101 := n5_
 have BK102 := n6_
 have BK121 := n7_
 have BK127 := n8_
 have HB := n9_
 clear n0_ n1_ n2_ n3_ n4_ n5_ n6_ n7_ n8_ n9_
 (try clear hb)
 (try clear hb2)
 (try clear hk)
 (try clear hi)
 refine hK.out _ _ Z3.z18 (fun hHeld => ?_)
 clear hK K
 refine norm_ (a' := ?_) ?_ ?_
 rotate_left
 ·show Act.put _ (some 38) _ = _
  simp only [Act.put, List.setIfInBounds_toArray, List.set_cons_zero, List.set_cons_succ, i64_w, i32_w]
  rfl
 refine pure_ (i := 4) (N := some 39) (v := ?_) (a' := ?_) #[true, true, true, true, true] rfl rfl (by kernel_rfl) (fun _ _ _ h => h) (Or.inl ⟨(by rfl), ?_⟩) ?_ ?_
 rotate_left
 ·intro w'
  go_simp
  with_reducible rfl
 rotate_left
 ·exact Z3.z11
 refine done_ (by kernel_rfl) ?_
 try go_wp2
 go_ret
 exact ⟨Z3.z50, Z3.z3⟩

/-- THE ONE PURE STATEMENT of laws_FnExactSameSpace: yours. -/
def laws_FnExactSameSpace.Pure : Prop := ∀ (a0_0 : Int) (a0_1 : Int) (l0_2 : List (List Int)) (a1_0 : Int) (a1_1 : Int) (l1_2 : List (List Int)), (Lit.int .i64 a0_0).wf = true → (Lit.int .i64 a0_1).wf = true → l0_2.length ≤ maxLen → (∀ r ∈ l0_2, r.length ≤ maxLen ∧ ∀ x ∈ r, (Lit.int .i64 x).wf = true) → (Lit.int .i64 a1_0).wf = true → (Lit.int .i64 a1_1).wf = true → l1_2.length ≤ maxLen → (∀ r ∈ l1_2, r.length ≤ maxLen ∧ ∀ x ∈ r, (Lit.int .i64 x).wf = true) → ∃ k, laws_FnExactSameSpace.f k a0_0 a0_1 l0_2 a1_0 a1_1 l1_2 = some true
theorem laws_FnExactSameSpace.walk (P : laws_FnExactSameSpace.Pure) (a0_0 : Int) (a0_1 : Int) (a0_2 : Option Addr) (cap0_2 : Nat) (l0_2 : List (List Int)) (a1_0 : Int) (a1_1 : Int) (a1_2 : Option Addr) (cap1_2 : Nat) (l1_2 : List (List Int)) (w : World) (w0_0 : (Lit.int .i64 a0_0).wf = true) (w0_1 : (Lit.int .i64 a0_1).wf = true) (hr0_2 : Kd.C (Kd.slice 2 (Kd.int .i64)) w a0_2 l0_2.length l0_2) (hc0_2 : l0_2.length ≤ cap0_2) (hm0_2 : l0_2.length ≤ maxLen) (hw0_2 : ∀ r ∈ l0_2, r.length ≤ maxLen ∧ ∀ x ∈ r, (Lit.int .i64 x).wf = true) (w1_0 : (Lit.int .i64 a1_0).wf = true) (w1_1 : (Lit.int .i64 a1_1).wf = true) (hr1_2 : Kd.C (Kd.slice 2 (Kd.int .i64)) w a1_2 l1_2.length l1_2) (hc1_2 : l1_2.length ≤ cap1_2) (hm1_2 : l1_2.length ≤ maxLen) (hw1_2 : ∀ r ∈ l1_2, r.length ≤ maxLen ∧ ∀ x ∈ r, (Lit.int .i64 x).wf = true) :
    Calls Try.prog 3 #[.agg #[.int .i64 a0_0, .int .i64 a0_1, .slice a0_2 l0_2.length cap0_2], .agg #[.int .i64 a1_0, .int .i64 a1_1, .slice a1_2 l1_2.length cap1_2]] w fun e w' => e = .returned (.bool true) ∧ Below w.heap.size w w' := by
  obtain ⟨k, h⟩ := P a0_0 a0_1 l0_2 a1_0 a1_1 l1_2 w0_0 w0_1 hm0_2 hw0_2 w1_0 w1_1 hm1_2 hw1_2
  refine (laws_FnExactSameSpace.calls k a0_0 a0_1 _ _ l0_2 a1_0 a1_1 _ _ l1_2 true w hr0_2 hc0_2 hr1_2 hc1_2 h).mono ?_
  rintro e w' ⟨rfl, hd⟩
  exact ⟨rfl, hd⟩

end Go.Proofs.Ytnaheloeodmnpaa.F
