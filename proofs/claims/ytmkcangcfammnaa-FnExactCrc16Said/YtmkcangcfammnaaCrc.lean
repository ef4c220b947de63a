import Derived.Test.YtmkcangcfammnaaFx22
import Derived.Test.YtmkcangcfammnaaFx25
import Derived.Test.YtmkcangcfammnaaFx54
import Derived.Test.YtmkcangcfammnaaFx55
import Derived.Test.YtmkcangcfammnaaFx56
import Derived.Test.YtmkcangcfammnaaLinS
import Derived.KernelRfl
set_option linter.unusedVariables false
set_option linter.unusedSimpArgs false
set_option linter.unusedSectionVars false
namespace Go.Proofs.Ytmkcangcfammnaa.F
open Go.RowKit Go.Proofs.YtmkcangcfammnaaW.PrintWords Go.Proofs.YtmkcangcfammnaaW.PrintLast Go.Proofs.Ytmkcangcfammnaa.Lin

theorem w64_idC {x : Int} (h0 : -9223372036854775808 ≤ x) (h1 : x ≤ 9223372036854775807) : wrap64 x = x := by unfold wrap64; omega
theorem rd_bytesC (s : ByteArray) {i : Int} (h0 : 0 ≤ i) (h1 : i < (s.size : Int)) : rd (bytesOf s) i = bt s i := by
  have h : i.toNat < s.size := by omega
  have h' : i.toNat < s.data.toList.length := by rw [data_length]; exact h
  unfold rd bt bytesOf
  rw [dif_pos h, List.getD_eq_getElem?_getD, List.getElem?_map, List.getElem?_eq_getElem h']
  simp only [Option.map_some, Option.getD_some, Array.getElem_toList]
  rfl
theorem same_crc (s : ByteArray) (k : Nat) : (∀ x i, impl_Crc16.l0 k x (bytesOf s) (s.size : Int) i = spec_l01Crc.l0 k s x i) ∧ (∀ x i j, impl_Crc16.l1 k x (bytesOf s) (s.size : Int) i j = spec_l01Crc.l1 k s x i j) := by
  have hl : ((bytesOf s).length : Int) = (s.size : Int) := by rw [bytesOf_length]
  induction k with
  | zero => exact ⟨fun _ _ => rfl, fun _ _ _ => rfl⟩
  | succ k ih =>
    refine ⟨fun x i => ?_, fun x i j => ?_⟩
    · simp only [impl_Crc16.l0, spec_l01Crc.l0]
      by_cases h : i < (s.size : Int)
      · by_cases h0 : 0 ≤ i
        · rw [if_pos h, if_pos h, if_pos h0, if_pos h0, if_pos (by omega), rd_bytesC s h0 h, ih.2]
        · rw [if_pos h, if_pos h, if_neg h0, if_neg h0]
      · rw [if_neg h, if_neg h]
    · simp only [impl_Crc16.l1, spec_l01Crc.l1, ih.1, ih.2]
theorem crc_row (s : ByteArray) (i : Int) (hn : ∀ x, ∃ k v, spec_l01Crc.l0 k s x (wrap64 (i + 1)) = some v) (d : Nat) : ∀ (j : Nat) (x : Int), 8 - j = d → ∃ k v, spec_l01Crc.l1 k s x i j = some v := by
  induction d with
  | zero =>
    intro j x hd
    obtain ⟨k, v, h⟩ := hn x
    refine ⟨k + 1, v, ?_⟩
    simp only [spec_l01Crc.l1]
    rw [if_neg (by omega), h]
  | succ d ih =>
    intro j x hd
    have e : wrap64 ((j : Int) + 1) = ((j + 1 : Nat) : Int) := by rw [w64_idC (by omega) (by omega)]; omega
    by_cases q : wrap64 (x * 2) > 65535
    · obtain ⟨k, v, h⟩ := ih (j + 1) (Go.bits .xor .i64 (Go.bits .and .i64 (wrap64 (x * 2)) 65535) 4129) (by omega)
      refine ⟨k + 1, v, ?_⟩
      simp only [spec_l01Crc.l1]
      rw [if_pos (by omega), if_pos q, e, h]
    · obtain ⟨k, v, h⟩ := ih (j + 1) (wrap64 (x * 2)) (by omega)
      refine ⟨k + 1, v, ?_⟩
      simp only [spec_l01Crc.l1]
      rw [if_pos (by omega), if_neg q, e, h]
theorem crc_total (s : ByteArray) (hs : s.size ≤ 1048576) (d : Nat) : ∀ (i : Nat) (x : Int), s.size - i = d → ∃ k v, spec_l01Crc.l0 k s x i = some v := by
  induction d with
  | zero =>
    intro i x hd
    refine ⟨1, x, ?_⟩
    simp only [spec_l01Crc.l0]
    rw [if_neg (by omega)]
  | succ d ih =>
    intro i x hd
    have e : wrap64 ((i : Int) + 1) = ((i + 1 : Nat) : Int) := by rw [w64_idC (by omega) (by omega)]; omega
    obtain ⟨k, v, h⟩ := crc_row s i (fun x => by rw [e]; exact ih (i + 1) x (by omega)) 8 0 (Go.bits .xor .i64 x (wrap64 ((wrap64 (bt s i)) * 256))) (by omega)
    refine ⟨k + 1, v, ?_⟩
    simp only [spec_l01Crc.l0]
    rw [if_pos (by omega), if_pos (by omega)]
    exact h
end Go.Proofs.Ytmkcangcfammnaa.F
