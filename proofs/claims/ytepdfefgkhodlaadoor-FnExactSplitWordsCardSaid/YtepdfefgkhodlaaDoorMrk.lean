import Derived.Test.YtepdfefgkhodlaaDoorFx9
import Derived.Test.YtepdfefgkhodlaaDoorFx10
import Derived.Test.YtepdfefgkhodlaaDoorFx11
import Derived.Test.YtepdfefgkhodlaaDoorFx12
import Derived.Test.YtepdfefgkhodlaaDoorDec
import Derived.Test.YtepdfefgkhodlaaDoorSpl
import Derived.Test.YtepdfefgkhodlaaDoorVecS
import Derived.KernelRfl
set_option linter.unusedVariables false
set_option linter.unusedSimpArgs false
set_option linter.unusedSectionVars false
namespace Go.Proofs.YtepdfefgkhodlaaDoor.F
open Go.RowKit Go.Proofs.YtepdfefgkhodlaaDoorW.PrintWords Go.Proofs.YtepdfefgkhodlaaDoorW.PrintLast Go.Proofs.YtepdfefgkhodlaaDoor.Lin

open Go.Lib
/-- A mark's text. -/
def markT (m : Int) : ByteArray := B (109 :: decDigits m.toNat)
theorem mark_text_loop (K : Nat) (r : ByteArray) : ∀ (j u : Nat) (acc : List UInt8) (k : Nat), u < 10 ^ j → 1 ≤ u → u ≤ 9223372036854775807 → K + j ≤ k → acc.length + j ≤ 100 →
    (∀ k', K ≤ k' → laws_markText.l0 k' 0 (B (decDigits u ++ acc)) = some r) → laws_markText.l0 k u (B acc) = some r := by
  intro j
  induction j with
  | zero => intro u acc k h hu; exfalso; rw [Nat.pow_zero] at h; omega
  | succ j ih =>
    intro u acc k h hu h1 hk ha H
    obtain ⟨k, rfl⟩ : ∃ q, k = q + 1 := ⟨k - 1, by omega⟩
    rw [Nat.pow_succ] at h
    simp only [laws_markText.l0]
    have e1 : Int.tmod (u : Int) 10 = ((u % 10 : Nat) : Int) := rfl
    have e2 : Int.tdiv (u : Int) 10 = ((u / 10 : Nat) : Int) := rfl
    have hd : isDig (UInt8.ofNat (48 + u % 10)) = true := isDig_iff.mpr (by rw [ofNat_dig (by omega)]; omega)
    have es : strOfNums [(48 : Int) + ((u % 10 : Nat) : Int)] = B [UInt8.ofNat (48 + u % 10)] := by
      unfold strOfNums B
      congr 2
    rw [if_pos (by omega), Option.bind_some, e1, e2, w64_idV (x := 48 + ((u % 10 : Nat) : Int)) (by omega) (by omega), w64_idV (x := ((u / 10 : Nat) : Int)) (by omega) (by omega), Int.emod_eq_of_lt (by omega) (by omega), es, if_pos (by rw [B_size, B_size]; have e : ([UInt8.ofNat (48 + u % 10)] : List UInt8).length = 1 := rfl; omega), B_append]
    by_cases hs : u < 10
    · have := H k (by omega)
      rw [decDigits, dif_pos hs] at this
      rw [show u / 10 = 0 by omega, show u % 10 = u by omega]
      exact this
    · refine ih (u / 10) _ k (by omega) (by omega) (by omega) (by omega) (by simp; omega) (fun k' hk' => ?_)
      have := H k' hk'
      rw [decDigits, dif_neg hs, List.append_assoc] at this
      exact this
theorem markText_tells {m : Int} (h0 : 1 ≤ m) (h1 : m ≤ 9223372036854775807) {k : Nat} (hk : 100 ≤ k) : laws_markText.f k m = some (markT m) := by
  obtain ⟨u, rfl⟩ := Int.eq_ofNat_of_zero_le (show 0 ≤ m by omega)
  unfold laws_markText.f markT
  rw [if_neg (by omega), Int.toNat_natCast]
  have e0 : (⟨#[]⟩ : ByteArray) = B [] := rfl
  rw [e0]
  have hu : u < 10 ^ 20 := Nat.lt_of_lt_of_le (show u < 10000000000000000000 by omega) (by decide)
  have hlen : (decDigits u).length ≤ 20 := by
    have := revDig_length u hu
    unfold revDig at this
    rwa [List.length_map, List.length_reverse] at this
  refine mark_text_loop 10 _ 20 u [] k hu (by omega) (by omega) (by omega) (by simp) (fun k' hk' => ?_)
  obtain ⟨k', rfl⟩ : ∃ q, k' = q + 1 := ⟨k' - 1, by omega⟩
  simp only [laws_markText.l0]
  have em : (⟨#[109]⟩ : ByteArray) = B [109] := rfl
  rw [if_neg (by omega), List.append_nil, if_pos (by rw [B_size]; omega), em, B_append]
  rfl
/-- The marks, one after another. -/
def marksT (m : Int) (n : Nat) : List ByteArray := (List.range n).map (fun j : Nat => markT (m + (j : Int)))
theorem marksT_length (m : Int) (n : Nat) : (marksT m n).length = n := by unfold marksT; simp
theorem marksT_getD (m : Int) {n j : Nat} (h : j < n) : (marksT m n).getD j ByteArray.empty = markT (m + j) := by unfold marksT; simp [List.getD_eq_getElem?_getD, h]
theorem ext_getS {l m : List ByteArray} (hl : l.length = m.length) (h : ∀ j, j < l.length → l.getD j ByteArray.empty = m.getD j ByteArray.empty) : l = m := by
  refine List.ext_getElem hl (fun j h1 h2 => ?_)
  have := h j h1
  rwa [getD_at h1, getD_at h2] at this
theorem rdOf_nat (l : List ByteArray) (i : Nat) : rdOf ByteArray.empty l (i : Int) = l.getD i ByteArray.empty := by unfold rdOf; rw [Int.toNat_natCast]
theorem markS_loop {m0 : Int} {n : Nat} (hm : 1 ≤ m0) (hm' : m0 + n ≤ 4611686018427387904) (hn : n ≤ 35184372088832) (d : Nat) : ∀ (k i : Nat) (acc : List ByteArray) (m : Int), n - i = d → i ≤ n → d + 101 < k → acc.length = n → m = m0 + i → (∀ j, j < i → acc.getD j ByteArray.empty = markT (m0 + j)) →
    laws_markStringS.l0 k acc m i = some (m0 + n, marksT m0 n) := by
  induction d with
  | zero =>
    intro k i acc m hd hi hk ha he h
    obtain ⟨k, rfl⟩ : ∃ m, k = m + 1 := ⟨k - 1, by omega⟩
    simp only [laws_markStringS.l0]
    rw [if_neg (by omega)]
    have e1 : m = m0 + n := by omega
    have e2 : acc = marksT m0 n := ext_getS (by rw [marksT_length, ha]) (fun j hj => by rw [h j (by omega), marksT_getD m0 (by omega)])
    rw [e1, e2]
  | succ d ih =>
    intro k i acc m hd hi hk ha he h
    obtain ⟨k, rfl⟩ : ∃ m, k = m + 1 := ⟨k - 1, by omega⟩
    simp only [laws_markStringS.l0]
    rw [if_pos (by omega), markText_tells (m := m) (by omega) (by omega) (by omega), Option.bind_some, if_pos (by omega), w64_succ (n := n) (by omega) hn, Int.toNat_natCast, w64_idV (x := m + 1) (by omega) (by omega)]
    refine ih k (i + 1) _ (m + 1) (by omega) (by omega) (by omega) (by simp [ha]) (by omega) (fun j hj => ?_)
    rw [getD_set _ _ _ _ (by omega)]
    by_cases e : j = i
    · rw [if_pos e, e, ← he]
    · rw [if_neg e]; exact h j (by omega)
theorem markS_tells {l : List ByteArray} {m : Int} (hm : 1 ≤ m) (hm' : m + l.length ≤ 4611686018427387904) (hl : l.length ≤ 35184372088832) {k : Nat} (hk : l.length + 102 ≤ k) : laws_markStringS.f k l m = some (m + l.length, marksT m l.length) := by
  unfold laws_markStringS.f
  exact markS_loop hm hm' hl l.length k 0 l m (by omega) (by omega) (by omega) rfl (by omega) (fun j hj => by omega)
theorem heldS_loop {m0 : Int} {n : Nat} (hm : 1 ≤ m0) (hm' : m0 + n ≤ 4611686018427387904) (hn : n ≤ 35184372088832) (d : Nat) : ∀ (k i : Nat) (m : Int), n - i = d → i ≤ n → d + 101 < k → m = m0 + i →
    laws_heldStringS.l0 k (marksT m0 n) m i = some (m0 + n) := by
  induction d with
  | zero =>
    intro k i m hd hi hk he
    obtain ⟨k, rfl⟩ : ∃ m, k = m + 1 := ⟨k - 1, by omega⟩
    simp only [laws_heldStringS.l0, marksT_length]
    rw [if_neg (by omega)]
    have e1 : m = m0 + n := by omega
    rw [e1]
  | succ d ih =>
    intro k i m hd hi hk he
    obtain ⟨k, rfl⟩ : ∃ m, k = m + 1 := ⟨k - 1, by omega⟩
    simp only [laws_heldStringS.l0, marksT_length]
    rw [if_pos (by omega), if_pos (by omega), markText_tells (m := m) (by omega) (by omega) (by omega), Option.bind_some, rdOf_nat, marksT_getD m0 (by omega), if_pos (by rw [he]), w64_succ (n := n) (by omega) hn, w64_idV (x := m + 1) (by omega) (by omega)]
    exact ih k (i + 1) (m + 1) (by omega) (by omega) (by omega) (by omega)
theorem heldS_tells {m : Int} {n : Nat} (hm : 1 ≤ m) (hm' : m + n ≤ 4611686018427387904) (hn : n ≤ 35184372088832) {k : Nat} (hk : n + 102 ≤ k) : laws_heldStringS.f k (marksT m n) m = some (m + n) := by
  unfold laws_heldStringS.f
  exact heldS_loop hm hm' hn n k 0 m (by omega) (by omega) (by omega) (by omega)
theorem eqS_loop (a : List ByteArray) (ha : a.length ≤ 35184372088832) (d : Nat) : ∀ (k i : Nat), a.length - i = d → i ≤ a.length → d < k → laws_eqStringS.l0 k a a i = some true := by
  induction d with
  | zero =>
    intro k i hd hi hk
    obtain ⟨k, rfl⟩ : ∃ m, k = m + 1 := ⟨k - 1, by omega⟩
    simp only [laws_eqStringS.l0]
    rw [if_neg (by omega)]
  | succ d ih =>
    intro k i hd hi hk
    obtain ⟨k, rfl⟩ : ∃ m, k = m + 1 := ⟨k - 1, by omega⟩
    simp only [laws_eqStringS.l0]
    rw [if_pos (by omega), if_pos (by omega), if_pos (by omega), if_pos trivial, w64_succ (n := a.length) (by omega) ha]
    exact ih k (i + 1) (by omega) (by omega) (by omega)
theorem eqS_tells (a : List ByteArray) (ha : a.length ≤ 35184372088832) {k : Nat} (hk : a.length < k) : laws_eqStringS.f k a a = some true := by
  unfold laws_eqStringS.f
  rw [if_pos rfl]
  exact eqS_loop a ha a.length k 0 (by omega) (by omega) hk
end Go.Proofs.YtepdfefgkhodlaaDoor.F
