import Derived.Test.YtmkcangcfammnaaFx48
import Derived.Test.YtmkcangcfammnaaFx49
import Derived.Test.YtmkcangcfammnaaFx50
import Derived.Test.YtmkcangcfammnaaFx51
import Derived.Test.YtmkcangcfammnaaFx52
import Derived.Test.YtmkcangcfammnaaLinS
import Derived.KernelRfl
set_option linter.unusedVariables false
set_option linter.unusedSimpArgs false
set_option linter.unusedSectionVars false
namespace Go.Proofs.Ytmkcangcfammnaa.F
open Go.RowKit Go.Proofs.YtmkcangcfammnaaW.PrintWords Go.Proofs.YtmkcangcfammnaaW.PrintLast Go.Proofs.Ytmkcangcfammnaa.Lin

theorem w64_idB {x : Int} (h0 : -9223372036854775808 ≤ x) (h1 : x ≤ 9223372036854775807) : wrap64 x = x := by unfold wrap64; omega
theorem rd_bytes (s : ByteArray) {i : Int} (h0 : 0 ≤ i) (h1 : i < (s.size : Int)) : rd (bytesOf s) i = bt s i := by
  have h : i.toNat < s.size := by omega
  have h' : i.toNat < s.data.toList.length := by rw [data_length]; exact h
  unfold rd bt bytesOf
  rw [dif_pos h, List.getD_eq_getElem?_getD, List.getElem?_map, List.getElem?_eq_getElem h']
  simp only [Option.map_some, Option.getD_some, Array.getElem_toList]
  rfl
theorem emptyB (s : ByteArray) (h : s.size = 0) : s.toList = ([] : List UInt8) := by
  unfold ByteArray.toList ByteArray.toList.loop
  rw [if_neg (by omega)]
  rfl
theorem emptyB' (s : ByteArray) (h : s.toList = ([] : List UInt8)) : s.size = 0 := by
  rcases Nat.eq_zero_or_pos s.size with e | e
  · exact e
  · exfalso
    have hk : ∀ (n i : Nat) (r : List UInt8), s.size - i = n → r.length + n ≤ (ByteArray.toList.loop s i r).length := by
      intro n
      induction n with
      | zero =>
        intro i r hn
        unfold ByteArray.toList.loop
        rw [if_neg (by omega)]; simp
      | succ n ih =>
        intro i r hn
        unfold ByteArray.toList.loop
        rw [if_pos (by omega)]
        have := ih (i + 1) (s.get! i :: r) (by omega)
        simp only [List.length_cons] at this
        omega
    have := hk s.size 0 [] (by omega)
    unfold ByteArray.toList at h
    rw [h] at this
    simp only [List.length_nil] at this
    omega
theorem small_tells (b : Int) : spec_l01Small.f b = some (decide (97 ≤ b) && decide (b ≤ 122)) := by
  unfold spec_l01Small.f
  by_cases h : b ≥ 97
  · have : 97 ≤ b := h
    simp [this]
  · have : ¬ 97 ≤ b := h
    simp [this]
theorem digit_tells (b : Int) : spec_l01Digit.f b = some (decide (48 ≤ b) && decide (b ≤ 57)) := by
  unfold spec_l01Digit.f
  by_cases h : b ≥ 48
  · have : 48 ≤ b := h
    simp [this]
  · have : ¬ 48 ≤ b := h
    simp [this]
theorem step_name (k : Nat) (s : ByteArray) {i : Int} (h0 : 0 ≤ i) (h1 : i < (s.size : Int)) (q : i ≠ 0 ∨ (97 ≤ bt s i ∧ bt s i ≤ 122)) (ih : impl_IsName.l0 k (bytesOf s) (s.size : Int) (wrap64 (i + 1)) = spec_l01Name.l0 k s (wrap64 (i + 1))) :
    impl_IsName.l0 (k + 1) (bytesOf s) (s.size : Int) i = spec_l01Name.l0 (k + 1) s i := by
  have hl : ((bytesOf s).length : Int) = (s.size : Int) := by rw [bytesOf_length]
  simp only [impl_IsName.l0, spec_l01Name.l0, small_tells, digit_tells, Option.bind_some]
  rw [if_pos h1, if_pos h0, if_pos (by omega), if_pos h1, if_pos h0, rd_bytes s h0 h1, ih]
  generalize spec_l01Name.l0 k s (wrap64 (i + 1)) = z
  generalize bt s i = b at q
  by_cases a1 : b ≥ 97
  · by_cases a2 : b ≤ 122
    · have g : 97 ≤ b := a1
      have g2 : b ≥ 48 := by omega
      simp only [a1, a2, g2, if_true, g, decide_true, Bool.and_self]
    · have g : 97 ≤ b := a1
      have g2 : b ≥ 48 := by omega
      have g3 : ¬ b ≤ 57 := by omega
      have g4 : 48 ≤ b := g2
      simp only [a1, a2, g2, g3, if_true, if_false, g, g4, decide_true, decide_false, Bool.true_and, Bool.false_eq_true]
      split <;> rfl
  · have g : ¬ 97 ≤ b := a1
    have qi : i ≠ 0 := by
      rcases q with q | q
      · exact q
      · exact absurd q.1 g
    by_cases a3 : b ≥ 48
    · have g4 : 48 ≤ b := a3
      by_cases a4 : b ≤ 57
      · simp only [a1, a3, a4, g, g4, qi, if_true, if_false, decide_true, decide_false, Bool.false_and, Bool.and_self, Bool.false_eq_true]
      · simp only [a1, a3, a4, g, g4, qi, if_true, if_false, decide_true, decide_false, Bool.false_and, Bool.true_and, Bool.false_eq_true]
    · have g4 : ¬ 48 ≤ b := a3
      simp only [a1, a3, g, g4, qi, if_false, decide_false, Bool.false_and, Bool.false_eq_true]
theorem rest_name (s : ByteArray) (hs : s.size ≤ 1048576) (k : Nat) : ∀ i : Int, 0 < i → i ≤ (s.size : Int) → impl_IsName.l0 k (bytesOf s) (s.size : Int) i = spec_l01Name.l0 k s i := by
  induction k with
  | zero => intro i _ _; rfl
  | succ k ih =>
    intro i h0 h1
    by_cases h : i < (s.size : Int)
    · exact step_name k s (by omega) h (.inl (by omega)) (by rw [w64_idB (by omega) (by omega)]; exact ih (i + 1) (by omega) (by omega))
    · simp only [impl_IsName.l0, spec_l01Name.l0]
      rw [if_neg h, if_neg h]
theorem bad_name (k : Nat) (s : ByteArray) (h : 0 < s.size) (a : ¬ (97 ≤ bt s 0 ∧ bt s 0 ≤ 122)) : impl_IsName.l0 (k + 1) (bytesOf s) (s.size : Int) 0 = some false := by
  have hl : ((bytesOf s).length : Int) = (s.size : Int) := by rw [bytesOf_length]
  simp only [impl_IsName.l0]
  rw [if_pos (by omega), if_pos (by omega), if_pos (by omega), rd_bytes s (by omega) (by omega)]
  generalize impl_IsName.l0 k (bytesOf s) (s.size : Int) (wrap64 (0 + 1)) = z
  generalize bt s 0 = b at a
  by_cases a1 : b ≥ 97
  · have a2 : ¬ b ≤ 122 := fun q => a ⟨a1, q⟩
    by_cases a3 : b ≥ 48
    · simp only [a1, a2, a3, if_true, if_false]
    · simp only [a1, a2, a3, if_true, if_false]
  · by_cases a3 : b ≥ 48
    · simp only [a1, a3, if_true, if_false]
    · simp only [a1, a3, if_true, if_false]
theorem same_name (s : ByteArray) (hs : s.size ≤ 1048576) (k : Nat) : impl_IsName.f (k + 3) s = spec_IsName.f (k + 3) s := by
  unfold impl_IsName.f impl_IsName.g spec_IsName.f spec_l01Name.f
  rw [if_pos (by omega)]
  have hl : ((bytesOf s).length : Int) = (s.size : Int) := by rw [bytesOf_length]
  have hb : ∀ o : Option Bool, (o.bind fun t => some t) = o := fun o => by cases o <;> rfl
  rw [hb]
  by_cases h : s.size = 0
  · rw [if_pos (by omega), if_pos (emptyB s h)]
    simp [impl_IsName.j0, spec_l01Name.j0]
  · rw [if_neg (by omega), if_neg (fun e => h (emptyB' s e))]
    by_cases h2 : (s.size : Int) > 10
    · rw [if_pos h2, decide_eq_true h2]
      simp [impl_IsName.j0, spec_l01Name.j0]
    · rw [if_neg h2, decide_eq_false h2, if_pos (by omega), small_tells]
      simp only [Option.bind_some, impl_IsName.j0, spec_l01Name.j0, Bool.false_eq_true, if_false, hl]
      by_cases a : 97 ≤ bt s 0 ∧ bt s 0 ≤ 122
      · have e : (decide (97 ≤ bt s 0) && decide (bt s 0 ≤ 122)) = true := by rw [decide_eq_true a.1, decide_eq_true a.2]; rfl
        rw [e]
        simp only [Bool.not_true, Bool.false_eq_true, if_false]
        exact step_name (k + 1) s (by omega) (by omega) (.inr a) (by rw [w64_idB (by omega) (by omega)]; exact rest_name s hs (k + 1) (0 + 1) (by omega) (by omega))
      · have e : (decide (97 ≤ bt s 0) && decide (bt s 0 ≤ 122)) = false := by
          by_cases a1 : 97 ≤ bt s 0
          · have a2 : ¬ bt s 0 ≤ 122 := fun z => a ⟨a1, z⟩
            simp [a2]
          · simp [a1]
        rw [e]
        simp only [Bool.not_false, if_true]
        exact bad_name (k + 1) s (by omega) a
theorem name_total (s : ByteArray) (hs : s.size ≤ 1048576) (d : Nat) : ∀ (k i : Nat), s.size - i = d → d < k → ∃ v, spec_l01Name.l0 k s i = some v := by
  induction d with
  | zero =>
    intro k i hd hk
    obtain ⟨k, rfl⟩ : ∃ m, k = m + 1 := ⟨k - 1, by omega⟩
    simp only [spec_l01Name.l0]
    rw [if_neg (by omega)]
    exact ⟨_, rfl⟩
  | succ d ih =>
    intro k i hd hk
    obtain ⟨k, rfl⟩ : ∃ m, k = m + 1 := ⟨k - 1, by omega⟩
    obtain ⟨v, hv⟩ := ih k (i + 1) (by omega) (by omega)
    have e : wrap64 ((i : Int) + 1) = ((i + 1 : Nat) : Int) := by rw [w64_idB (by omega) (by omega)]; omega
    simp only [spec_l01Name.l0, small_tells, digit_tells, Option.bind_some]
    rw [if_pos (by omega), if_pos (by omega), e, hv]
    split
    · exact ⟨_, rfl⟩
    · split
      · exact ⟨_, rfl⟩
      · exact ⟨_, rfl⟩
theorem specName_total (s : ByteArray) (hs : s.size ≤ 1048576) {k : Nat} (hk : s.size + 3 ≤ k) : ∃ v, spec_IsName.f k s = some v := by
  unfold spec_IsName.f spec_l01Name.f
  obtain ⟨k, rfl⟩ : ∃ m, k = m + 1 := ⟨k - 1, by omega⟩
  obtain ⟨v, hv⟩ := name_total s hs s.size k 0 (by omega) (by omega)
  have hv : spec_l01Name.l0 k s 0 = some v := hv
  by_cases h : s.size = 0
  · rw [if_pos (emptyB s h)]; simp only [spec_l01Name.j0]; exact ⟨_, rfl⟩
  · rw [if_neg (fun e => h (emptyB' s e))]
    by_cases h2 : (s.size : Int) > 10
    · rw [if_pos h2]; simp only [spec_l01Name.j0]; exact ⟨_, rfl⟩
    · rw [if_neg h2, if_pos (by omega), small_tells]
      simp only [Option.bind_some, spec_l01Name.j0, hv]
      split
      · exact ⟨_, rfl⟩
      · exact ⟨_, rfl⟩
end Go.Proofs.Ytmkcangcfammnaa.F
