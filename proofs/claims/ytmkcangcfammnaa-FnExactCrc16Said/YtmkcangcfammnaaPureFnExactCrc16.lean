/- Both functions return the same check value for any text and start. -/
import Derived.Test.YtmkcangcfammnaaFx57
import Derived.Test.YtmkcangcfammnaaCrc
import Derived.KernelRfl
set_option linter.unusedVariables false
set_option linter.unusedSimpArgs false
set_option linter.unusedSectionVars false
namespace Go.Proofs.Ytmkcangcfammnaa.F
open Go.RowKit Go.Proofs.YtmkcangcfammnaaW.PrintWords Go.Proofs.YtmkcangcfammnaaW.PrintLast Go.Proofs.Ytmkcangcfammnaa.Lin

theorem FnExactCrc16_pure : laws_FnExactCrc16.Pure := by
  intro s a _ _
  by_cases hs : s.size ≤ 1048576
  · have hl : ((bytesOf s).length : Int) = (s.size : Int) := by rw [bytesOf_length]
    have hw : impl_within.f = spec_l00In.f := rfl
    obtain ⟨k, v, h⟩ := crc_total s hs s.size 0 a (by omega)
    have h : spec_l01Crc.l0 k s a 0 = some v := h
    have h2 := (same_crc s k).1 a 0
    refine ⟨k, ?_⟩
    unfold laws_FnExactCrc16.f spec_Crc16.f impl_Crc16.f impl_Crc16.g spec_l01Crc.f
    rw [if_neg (by omega), if_pos (by omega), hw, hl, h2, h]
    cases ht : spec_l00In.f a 0 65535 with
    | none =>
      exfalso
      unfold spec_l00In.f at ht
      split at ht <;> cases ht
    | some t => cases t <;> simp
  · refine ⟨0, ?_⟩
    unfold laws_FnExactCrc16.f
    rw [if_pos (by omega)]
end Go.Proofs.Ytmkcangcfammnaa.F
namespace Go.Proofs.Ytmkcangcfammnaa.Pure
theorem FnExactCrc16 : F.laws_FnExactCrc16.Pure := F.FnExactCrc16_pure
end Go.Proofs.Ytmkcangcfammnaa.Pure
