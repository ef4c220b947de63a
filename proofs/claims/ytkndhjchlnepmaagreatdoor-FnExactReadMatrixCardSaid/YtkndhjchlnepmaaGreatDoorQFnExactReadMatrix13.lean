-- Texts of this claim, merged by packw.py (a program of this session's).
import Derived.Test.YtkndhjchlnepmaaGreatDoorQFnExactReadMatrix2
import Derived.Test.YtkndhjchlnepmaaGreatDoorQFnExactReadMatrix3
import Derived.Test.YtkndhjchlnepmaaGreatDoorQFnExactReadMatrix4
import Derived.Test.YtkndhjchlnepmaaGreatDoorQFnExactReadMatrix5
import Derived.Test.YtkndhjchlnepmaaGreatDoorQFnExactReadMatrix6
import Derived.Test.YtkndhjchlnepmaaGreatDoorQFnExactReadMatrix8
import Derived.Test.YtkndhjchlnepmaaGreatDoorQFnExactReadMatrix9
import Derived.Test.YtkndhjchlnepmaaGreatDoorQFnExactReadMatrix12
import Derived.KernelRfl
import Derived.Test.YtkndhjchlnepmaaGreatDoorQFnExactReadMatrix10
import Derived.Test.YtkndhjchlnepmaaGreatDoorRows
import Derived.WalkKit
import Derived.ProofKit
import Derived.OpenShut
import Derived.ShutString
import Derived.ChangeOld
import Derived.Below
import Derived.SizedLaws
import Derived.Test.YtkndhjchlnepmaaGreatDoorCards
import Derived.Test.YtkndhjchlnepmaaGreatDoorTie
import Derived.Deep.DeepHandedRow
import Derived.Deep.DeepWitnessRowRef
import Derived.Lib.LaidTab
import Derived.Stop.LaidErr
import Derived.LaidMore
import Derived.MakeChecks
import Derived.Shelf.Vars

section
set_option linter.unusedVariables false
set_option linter.unusedSimpArgs false
set_option linter.unusedSectionVars false
namespace Go.Proofs.YtkndhjchlnepmaaGreatDoor.F
open Go.RowKit Go.Proofs.YtkndhjchlnepmaaGreatDoorW.PrintWords Go.Proofs.YtkndhjchlnepmaaGreatDoorW.PrintLast Go.Proofs.YtkndhjchlnepmaaGreatDoor.Lin
open Go.Lib
theorem concatL_size {rs : List (List Int)} (hr : rs.length ≤ 1048577) (hl : rs.flatten.length ≤ 100000000) (d : Nat) : ∀ k i, rs.length - i = d → i ≤ rs.length → d < k →
    ∃ k', k = k' + d + 1 ∧ slices_Concat_int64_int64.l0 k rs ((rs.take i).flatten.length : Int) rs rs.length i = slices_Concat_int64_int64.l1 k' [] rs rs.length 0 := by
  have hle : ∀ i, (rs.take i).flatten.length ≤ rs.flatten.length := fun i => by
    have : rs.flatten = (rs.take i).flatten ++ (rs.drop i).flatten := by rw [← List.flatten_append, List.take_append_drop]
    rw [this, List.length_append]; omega
  induction d with
  | zero =>
    intro k i hd hi hk
    obtain ⟨k, rfl⟩ : ∃ m, k = m + 1 := ⟨k - 1, by omega⟩
    refine ⟨k, by omega, ?_⟩
    have h1 := hle i
    simp only [slices_Concat_int64_int64.l0]
    rw [if_neg (nlt_nat (by omega))]
    have g : slices_Grow_int64_int64.f [] ((rs.take i).flatten.length : Int) = some [] := by
      unfold slices_Grow_int64_int64.f
      rw [if_pos (show ([] : List Int).length = 0 from rfl), if_pos (by omega), if_pos (by omega)]
    rw [g, Option.bind_some]
  | succ d ih =>
    intro k i hd hi hk
    obtain ⟨k, rfl⟩ : ∃ m, k = m + 1 := ⟨k - 1, by omega⟩
    obtain ⟨k', e1, e2⟩ := ih k (i + 1) (by omega) (by omega) (by omega)
    refine ⟨k', by omega, ?_⟩
    have hiR : i < rs.length := by omega
    have h1 := hle (i + 1)
    rw [← e2, take_flatten_succ rs hiR, List.length_append]
    rw [take_flatten_succ rs hiR, List.length_append] at h1
    have e3 : ((rs.take i).flatten.length : Int) + ((rs.getD i []).length : Int) = (((rs.take i).flatten.length + (rs.getD i []).length : Nat) : Int) := by omega
    simp only [slices_Concat_int64_int64.l0]
    rw [if_pos (lt_nat hiR), if_pos (idx0 _), if_pos (lt_nat hiR), rdL_nat, e3, w64_idV (x := (((rs.take i).flatten.length + (rs.getD i []).length : Nat) : Int)) (by omega) (by omega), if_neg (by omega), w64_succ (n := 1048577) (by omega) (by omega)]
theorem concatL_rows {rs : List (List Int)} (hr : rs.length ≤ 1048577) (hl : rs.flatten.length ≤ 100000000) (d : Nat) : ∀ k i, rs.length - i = d → i ≤ rs.length → d < k →
    slices_Concat_int64_int64.l1 k (rs.take i).flatten rs rs.length i = some rs.flatten := by
  have hle : ∀ i, (rs.take i).flatten.length ≤ rs.flatten.length := fun i => by
    have : rs.flatten = (rs.take i).flatten ++ (rs.drop i).flatten := by rw [← List.flatten_append, List.take_append_drop]
    rw [this, List.length_append]; omega
  induction d with
  | zero =>
    intro k i hd hi hk
    obtain ⟨k, rfl⟩ : ∃ m, k = m + 1 := ⟨k - 1, by omega⟩
    simp only [slices_Concat_int64_int64.l1]
    rw [if_neg (nlt_nat (by omega)), List.take_of_length_le (by omega)]
  | succ d ih =>
    intro k i hd hi hk
    obtain ⟨k, rfl⟩ : ∃ m, k = m + 1 := ⟨k - 1, by omega⟩
    have hiR : i < rs.length := by omega
    have h1 := hle (i + 1)
    have e2 := ih k (i + 1) (by omega) (by omega) (by omega)
    rw [take_flatten_succ rs hiR] at h1 e2
    rw [List.length_append] at h1
    simp only [slices_Concat_int64_int64.l1]
    rw [if_pos (lt_nat hiR), if_pos (idx0 _), if_pos (lt_nat hiR), rdL_nat, if_pos (by omega), w64_succ (n := 1048577) (by omega) (by omega)]
    exact e2
theorem concatL_tells {rs : List (List Int)} (hr : rs.length ≤ 1048577) (hl : rs.flatten.length ≤ 100000000) {k : Nat} (hk : rs.length + rs.length + 2 ≤ k) : slices_Concat_int64_int64.f k rs = some rs.flatten := by
  unfold slices_Concat_int64_int64.f
  obtain ⟨k', e1, e2⟩ := concatL_size hr hl rs.length k 0 (by omega) (by omega) (by omega)
  refine e2.trans ?_
  exact concatL_rows hr hl rs.length k' 0 (by omega) (by omega) (by omega)
def valsOf (P : List (List UInt8)) : List (List Int) := P.map (fun x => (readL x).1)
theorem vals_take_succ {P : List (List UInt8)} {i : Nat} (h : i < P.length) : valsOf (P.take (i + 1)) = valsOf (P.take i) ++ [(readL P[i]).1] := by
  unfold valsOf
  rw [List.take_add_one, List.getElem?_eq_getElem h, List.map_append]; rfl
theorem vals_length (P : List (List UInt8)) : (valsOf P).length = P.length := by unfold valsOf; simp
theorem flat_short : ∀ (rs : List (List Int)), (∀ x ∈ rs, x.length ≤ 64) → rs.flatten.length ≤ rs.length * 64
  | [], _ => by simp
  | r :: t, h => by
    have h1 := h r List.mem_cons_self
    have h2 := flat_short t (fun x hx => h x (List.mem_cons_of_mem _ hx))
    rw [List.flatten_cons, List.length_append, List.length_cons]
    omega
theorem vals_short (P : List (List UInt8)) : ∀ x ∈ valsOf P, x.length ≤ 64 := fun x hx => by
  obtain ⟨y, _, rfl⟩ := List.mem_map.mp hx
  exact readL_short y
theorem vals_flat (P : List (List UInt8)) : (valsOf P).flatten.length ≤ P.length * 64 := by
  have := flat_short _ (vals_short P)
  rwa [vals_length] at this
theorem slashL_loop (H : List ByteArray) (h0 : 0 < H.length) {P : List (List UInt8)} (hP : P.length ≤ 1048577) (hs : ∀ x ∈ P, x.length ≤ 1048576) {K0 : Nat} (hK : 1048700 ≤ K0) (d : Nat) : ∀ (k i : Nat), P.length - i = d → i ≤ P.length → d + K0 ≤ k →
    impl_readSlashed.l0 k H (valsOf (P.take i)) (P.map B) P.length i = some (H.getD 0 ByteArray.empty, valsOf P) := by
  induction d with
  | zero =>
    intro k i hd hi hk
    obtain ⟨k, rfl⟩ : ∃ m, k = m + 1 := ⟨k - 1, by omega⟩
    simp only [impl_readSlashed.l0]
    rw [if_neg (by omega), if_pos (by omega), List.take_of_length_le (by omega)]
    rfl
  | succ d ih =>
    intro k i hd hi hk
    obtain ⟨k, rfl⟩ : ∃ m, k = m + 1 := ⟨k - 1, by omega⟩
    have hlt : i < P.length := by omega
    have g1 : (i : Int) < (P.length : Int) := by omega
    have g2 : (0 : Int) ≤ (i : Int) := by omega
    have g4 : P.length ≤ 35184372088832 := by omega
    have b1 : P.length - (i + 1) = d := by omega
    have b2 : i + 1 ≤ P.length := by omega
    have b3 : d + K0 ≤ k := by omega
    have b4 : 1048700 ≤ k := Nat.le_trans hK (Nat.le_trans (Nat.le_add_left K0 d) b3)
    have g5 : (valsOf (P.take i)).length < 5864062014805 := by rw [vals_length, List.length_take]; omega
    have g3 : (i : Int) < ((P.map B).length : Int) := by rw [List.length_map]; exact g1
    have e1 : impl_ReadList.f k (B P[i]) = some (readL P[i]) := by
      rw [implRead_tells _ (by rw [B_size]; exact hs _ (List.getElem_mem hlt)) b4, B_list]
    have e2 := ih k (i + 1) b1 b2 b3
    rw [vals_take_succ hlt] at e2
    simp only [impl_readSlashed.l0]
    rw [if_pos g1, if_pos g2, if_pos g3, rdOf_natR, getBR hlt, e1, Option.bind_some, if_pos g5, w64_succ hlt g4]
    exact e2
theorem readSlashed_all {s h : List UInt8} {T : List (List UInt8)} (hs : s.length ≤ 1048576) (eW : splitL 47 s = h :: T) {k : Nat} (hk : 3000000 ≤ k) : impl_readSlashed.f k (B s) = some (B h, valsOf T) := by
  have e := split_tells (B s) (by rw [B_size]; exact hs) 47
  rw [B_list, eW] at e
  have hlen := splitL_length 47 s
  rw [eW, List.length_cons] at hlen
  have hsh := splitL_short 47 s
  rw [eW] at hsh
  have g1 : (1 : Int) ≤ (((h :: T).map B).length : Int) := by rw [List.length_map, List.length_cons]; omega
  have e2 := slashL_loop ((h :: T).map B) (by simp) (P := T) (by omega) (fun x hx => Nat.le_trans (hsh x (List.mem_cons_of_mem _ hx)) hs) (K0 := 1048700) (Nat.le_refl _) T.length k 0 (by omega) (by omega) (by omega)
  have hd : (((h :: T).map B).drop 1) = T.map B := rfl
  have hl2 : (((T.map B).length : Nat) : Int) = (T.length : Int) := by rw [List.length_map]
  unfold impl_readSlashed.f
  rw [e, Option.bind_some, if_pos g1, Option.bind_some, hd, hl2]
  exact e2
theorem cut_all (x : List UInt8) (c : UInt8) (hx : x.length ≤ 1048576) : ∃ a b o, strings_Cut.f (B x) ⟨#[c]⟩ = some (B a, B b, o) ∧ a.length ≤ 1048576 ∧ b.length ≤ 1048576 := by
  refine ⟨(cut x [c]).1, (cut x [c]).2.1, (cut x [c]).2.2, ?_, ?_, ?_⟩
  · unfold strings_Cut.f
    rw [if_pos (by rw [B_size]; omega), B_list]
    rfl
  · unfold cut
    split
    · simp; omega
    · exact hx
  · unfold cut
    split
    · simp; omega
    · exact Nat.zero_le _
def zeroM : Int × Int × Int × List Int × Bool := (0, 0, 0, [], false)
def finT (s : ByteArray) (p r c : Int) (l : List Int) : Int × Int × Int × List Int × Bool := if matOk p r c l = true then (if (textOut p r c l).toList = s.toList then (p, r, c, l, true) else zeroM) else zeroM
theorem split_some (c : UInt8) (s : List UInt8) : ∃ h T, splitL c s = h :: T := by
  cases hq : splitL c s with
  | nil => exact absurd hq (splitL_ne c s)
  | cons h T => exact ⟨h, T, rfl⟩
theorem impl_total {s : List UInt8} (hs : s.length ≤ 1048576) : ∃ p r c l, ∀ k, 3000000 ≤ k → impl_ReadMatrix.f k (B s) = some (finT (B s) p r c l) := by
  obtain ⟨h, T, eW⟩ := split_some 47 s
  have hsh := splitL_short 47 s
  rw [eW] at hsh
  have hh := Nat.le_trans (hsh h List.mem_cons_self) hs
  have hlen := splitL_length 47 s
  rw [eW, List.length_cons] at hlen
  obtain ⟨a, b, o1, e2, la, lb⟩ := cut_all h 32 hh
  obtain ⟨c, d, o2, e3, lc, ld⟩ := cut_all b 120 lb
  refine ⟨(numOf a).1, (numOf c).1, (numOf d).1, (valsOf T).flatten, fun k hk => ?_⟩
  have e1 := readSlashed_all hs eW hk
  have d1 : impl_ReadDecimal.f (B a) = some (numOf a) := by rw [readDecimal_tells _ (by rw [B_size]; omega), B_list]
  have d2 : impl_ReadDecimal.f (B c) = some (numOf c) := by rw [readDecimal_tells _ (by rw [B_size]; omega), B_list]
  have d3 : impl_ReadDecimal.f (B d) = some (numOf d) := by rw [readDecimal_tells _ (by rw [B_size]; omega), B_list]
  have hv := vals_length T
  have hf := vals_flat T
  have e4 := concatL_tells (rs := valsOf T) (by omega) (by omega) (k := k) (by omega)
  have e5 : impl_ValidMatrix.f k (numOf a).1 (numOf c).1 (numOf d).1 (valsOf T).flatten = some (matOk (numOf a).1 (numOf c).1 (numOf d).1 (valsOf T).flatten) := implOk_tells _ _ _ (by omega)
  have e6 := impl_textM (numOf a).1 (numOf c).1 (numOf d).1 (l := (valsOf T).flatten) (k := k) (by omega)
  unfold impl_ReadMatrix.f finT
  rw [e1, Option.bind_some]
  dsimp only
  rw [e2, Option.bind_some]
  dsimp only
  rw [e3, Option.bind_some]
  dsimp only
  rw [d1, Option.bind_some, d2, Option.bind_some, d3, Option.bind_some, e4, Option.bind_some, e5, Option.bind_some]
  by_cases h1 : matOk (numOf a).1 (numOf c).1 (numOf d).1 (valsOf T).flatten = true
  · rw [if_pos h1, if_pos h1, e6, Option.bind_some]
    by_cases h2 : (textOut (numOf a).1 (numOf c).1 (numOf d).1 (valsOf T).flatten).toList = (B s).toList
    · rw [if_pos h2, if_pos h2]
    · rw [if_neg h2, if_neg h2]; rfl
  · rw [if_neg h1, if_neg h1]; rfl
def goodRow (c : Int) (x : List UInt8) : Bool := (readL x).2 && decide (((readL x).1.length : Int) = c)
def finS (p r c : Int) (l : List Int) : Int × Int × Int × List Int × Bool := if matOk p r c l = true then (p, r, c, l, true) else zeroM
theorem specM_loop {P : List (List UInt8)} (hP : P.length ≤ 1048577) (hs : ∀ x ∈ P, x.length ≤ 1048576) (p r c : Int) {K0 : Nat} (hK : 70000000 ≤ K0) (d : Nat) : ∀ (k i : Nat) (acc : List Int), P.length - i = d → i ≤ P.length → d + K0 ≤ k → acc.length + d * 64 ≤ 67200000 →
    spec_l03Read.l0 k (P.map B) c i p r c acc = some (if (P.drop i).all (goodRow c) = true then finS p r c (acc ++ (valsOf (P.drop i)).flatten) else zeroM) := by
  induction d with
  | zero =>
    intro k i acc hd hi hk ha
    obtain ⟨k, rfl⟩ : ∃ m, k = m + 1 := ⟨k - 1, by omega⟩
    have hk2 : acc.length + 20 < k := by omega
    have ha2 : acc.length ≤ 35184372088832 := by omega
    have hn : ¬ (i : Int) < ((P.map B).length : Int) := by rw [List.length_map]; omega
    simp only [spec_l03Read.l0]
    rw [if_neg hn, specOk_tells p r c ha2 hk2, Option.bind_some, List.drop_eq_nil_of_le (by omega), List.all_nil, if_pos rfl]
    unfold finS
    by_cases h1 : matOk p r c acc = true
    · have e : acc ++ (valsOf []).flatten = acc := by show acc ++ [] = acc; simp
      rw [e, if_pos h1, if_pos h1]
    · have e : acc ++ (valsOf []).flatten = acc := by show acc ++ [] = acc; simp
      rw [e, if_neg h1, if_neg h1]; rfl
  | succ d ih =>
    intro k i acc hd hi hk ha
    obtain ⟨k, rfl⟩ : ∃ m, k = m + 1 := ⟨k - 1, by omega⟩
    have hlt : i < P.length := by omega
    have g1 : (i : Int) < ((P.map B).length : Int) := by rw [List.length_map]; omega
    have g2 : (0 : Int) ≤ (i : Int) := by omega
    have g4 : P.length ≤ 35184372088832 := by omega
    have b1 : P.length - (i + 1) = d := by omega
    have b2 : i + 1 ≤ P.length := by omega
    have b3 : d + K0 ≤ k := by omega
    have b4 : 2097300 ≤ k := Nat.le_trans (Nat.le_trans (by decide) hK) (Nat.le_trans (Nat.le_add_left K0 d) b3)
    have hr := readL_short P[i]
    have g5 : acc.length + (readL P[i]).1.length < 17592186044416 := by omega
    have e1 : spec_ReadList.f k (B P[i]) = some (readL P[i]) := by
      rw [specRead_tells _ (by rw [B_size]; exact hs _ (List.getElem_mem hlt)) b4, B_list]
    have e2 := ih k (i + 1) (acc ++ (readL P[i]).1) b1 b2 b3 (by rw [List.length_append]; omega)
    have e3 : (P.drop i).all (goodRow c) = (goodRow c P[i] && (P.drop (i + 1)).all (goodRow c)) := by rw [List.drop_eq_getElem_cons hlt, List.all_cons]
    have e4 : acc ++ (valsOf (P.drop i)).flatten = acc ++ (readL P[i]).1 ++ (valsOf (P.drop (i + 1))).flatten := by
      rw [List.drop_eq_getElem_cons hlt, List.append_assoc]; rfl
    have e5 : goodRow c P[i] = ((readL P[i]).2 && decide (((readL P[i]).1.length : Int) = c)) := rfl
    simp only [spec_l03Read.l0]
    rw [if_pos g1, if_pos g2, rdOf_natR, getBR hlt, e1, Option.bind_some, e3, e4, e5]
    cases hb : (readL P[i]).2 with
    | false => rw [if_neg (by decide), Bool.false_and, Bool.false_and, if_neg (by decide)]; rfl
    | true =>
      rw [if_pos rfl, Bool.true_and]
      by_cases hc : ((readL P[i]).1.length : Int) = c
      · rw [if_pos hc, if_pos g5, decide_eq_true hc, Bool.true_and, w64_succ hlt g4]
        exact e2
      · rw [if_neg hc, decide_eq_false hc, Bool.false_and, if_neg (by decide)]; rfl
theorem specHead_two {h a b c d : List UInt8} (hh : h.length ≤ 1048576) (e1 : splitL 32 h = [a, b]) (e2 : splitL 120 b = [c, d]) {k : Nat} (hk : 1048700 ≤ k) : spec_l03Head.f k (B h) = some ((numOf a).1, (numOf c).1, (numOf d).1, ((numOf a).2 && ((numOf c).2 && (numOf d).2))) := by
  have hsh := splitL_short 32 h
  rw [e1] at hsh
  have la := hsh a (by simp)
  have lb := hsh b (by simp)
  have hsh2 := splitL_short 120 b
  rw [e2] at hsh2
  have lc := hsh2 c (by simp)
  have ld := hsh2 d (by simp)
  have s1 : spec_l01Split.f k (B h) 32 = some [B a, B b] := by
    rw [l01Split_tells (B h) (by rw [B_size]; exact hh) 32 (n := 32) rfl (k := k) (by rw [B_size]; omega), B_list, e1]; rfl
  have s2 : spec_l01Split.f k (B b) 120 = some [B c, B d] := by
    rw [l01Split_tells (B b) (by rw [B_size]; omega) 120 (n := 120) rfl (k := k) (by rw [B_size]; omega), B_list, e2]; rfl
  have n1 : spec_l01Number.f k (B a) = some (numOf a) := number_tells _ (by rw [B_size]; omega) (by rw [B_size]; omega)
  have n2 : spec_l01Number.f k (B c) = some (numOf c) := number_tells _ (by rw [B_size]; omega) (by rw [B_size]; omega)
  have n3 : spec_l01Number.f k (B d) = some (numOf d) := number_tells _ (by rw [B_size]; omega) (by rw [B_size]; omega)
  have r1 : rdOf ByteArray.empty [B a, B b] 1 = B b := rfl
  have r0 : rdOf ByteArray.empty [B a, B b] 0 = B a := rfl
  have q1 : rdOf ByteArray.empty [B c, B d] 1 = B d := rfl
  have q0 : rdOf ByteArray.empty [B c, B d] 0 = B c := rfl
  have L1 : (([B a, B b].length : Nat) : Int) = 2 := rfl
  have L2 : (([B c, B d].length : Nat) : Int) = 2 := rfl
  unfold spec_l03Head.f
  rw [s1, Option.bind_some, L1, if_pos rfl, if_pos (by decide), r1, s2, Option.bind_some, L2, if_pos rfl, if_pos (by decide), r0, n1, Option.bind_some, if_pos (by decide), q0, n2, Option.bind_some, if_pos (by decide), q1, n3, Option.bind_some]
  cases h1 : (numOf a).2 with
  | false => rw [if_neg (by decide)]; rfl
  | true =>
    rw [if_pos rfl]
    cases h2 : (numOf c).2 with
    | false => rw [if_neg (by decide)]; rfl
    | true => rw [if_pos rfl]; rfl
theorem two_of : ∀ {L : List (List UInt8)}, L.length = 2 → ∃ a b, L = [a, b]
  | [], h => by cases h
  | [_], h => by cases h
  | [a, b], _ => ⟨a, b, rfl⟩
  | _ :: _ :: _ :: r, h => by simp at h
theorem specHead_not {h : List UInt8} (hh : h.length ≤ 1048576) (e : ∀ a b c d, splitL 32 h = [a, b] → splitL 120 b = [c, d] → False) {k : Nat} (hk : 1048700 ≤ k) : spec_l03Head.f k (B h) = some (0, 0, 0, false) := by
  have s1 : spec_l01Split.f k (B h) 32 = some ((splitL 32 h).map B) := by
    rw [l01Split_tells (B h) (by rw [B_size]; exact hh) 32 (n := 32) rfl (k := k) (by rw [B_size]; omega), B_list]
  have hsh := splitL_short 32 h
  unfold spec_l03Head.f
  rw [s1, Option.bind_some]
  by_cases h2 : (splitL 32 h).length = 2
  · obtain ⟨a, b, e1⟩ := two_of h2
    rw [e1] at hsh ⊢
    have lb := hsh b (by simp)
    have s2 : spec_l01Split.f k (B b) 120 = some ((splitL 120 b).map B) := by
      rw [l01Split_tells (B b) (by rw [B_size]; omega) 120 (n := 120) rfl (k := k) (by rw [B_size]; omega), B_list]
    have r1 : rdOf ByteArray.empty (List.map B [a, b]) 1 = B b := rfl
    have L1 : (((List.map B [a, b]).length : Nat) : Int) = 2 := rfl
    rw [L1, if_pos rfl, if_pos (by decide), r1, s2, Option.bind_some]
    by_cases h3 : (splitL 120 b).length = 2
    · obtain ⟨c, d, e2⟩ := two_of h3
      exact (e a b c d e1 e2).elim
    · rw [if_neg (by rw [List.length_map]; omega)]
  · rw [if_neg (by rw [List.length_map]; omega)]
theorem spec_read_of {s h : List UInt8} {T : List (List UInt8)} (hs : s.length ≤ 1048576) (eW : splitL 47 s = h :: T) {p r c : Int} {b : Bool} (eH : ∀ k, 1048700 ≤ k → spec_l03Head.f k (B h) = some (p, r, c, b)) (r0 : -1000000000000000000 ≤ r) (r1 : r ≤ 1000000000000000000) {k : Nat} (hk : 80000000 ≤ k) :
    spec_ReadMatrix.f k (B s) = some (if b = true ∧ (T.length : Int) = r ∧ T.all (goodRow c) = true then finS p r c (valsOf T).flatten else zeroM) := by
  have hsh := splitL_short 47 s
  rw [eW] at hsh
  have hlen := splitL_length 47 s
  rw [eW, List.length_cons] at hlen
  obtain ⟨k, rfl⟩ : ∃ m, k = m + 1 := ⟨k - 1, by omega⟩
  have s1 : spec_l01Split.f (k + 1) (B s) 47 = some ((h :: T).map B) := by
    rw [l01Split_tells (B s) (by rw [B_size]; exact hs) 47 (n := 47) rfl (k := k + 1) (by rw [B_size]; omega), B_list, eW]
  have L1 : ((((h :: T).map B).length : Nat) : Int) = (T.length : Int) + 1 := by rw [List.length_map, List.length_cons]; omega
  have e0 : rdOf ByteArray.empty ((h :: T).map B) 0 = B h := rfl
  have eh := eH (k + 1) (by omega)
  have hw : wrap64 (r + 1) = r + 1 := w64_idV (by omega) (by omega)
  have e2 := specM_loop (P := h :: T) (by rw [List.length_cons]; omega) (fun x hx => Nat.le_trans (hsh x hx) hs) p r c (K0 := 70000000) (Nat.le_refl _) T.length k 1 [] (by rw [List.length_cons]; omega) (by rw [List.length_cons]; omega) (by omega) (by rw [List.length_nil]; omega)
  have e3 : (h :: T).drop 1 = T := rfl
  rw [e3, List.nil_append] at e2
  have f1 : spec_l03Read.f (k + 1) (B s) = some (if b = true ∧ (T.length : Int) = r ∧ T.all (goodRow c) = true then finS p r c (valsOf T).flatten else zeroM) := by
    unfold spec_l03Read.f
    rw [s1, Option.bind_some, if_pos (by rw [L1]; omega), e0, eh, Option.bind_some]
    dsimp only
    rw [L1, hw]
    cases b with
    | false =>
      rw [if_neg (by decide)]
      simp only [spec_l03Read.j0]
      rw [if_pos trivial, if_neg (fun q => absurd q.1 (by decide))]; rfl
    | true =>
      rw [if_pos rfl]
      simp only [spec_l03Read.j0]
      by_cases hq : (T.length : Int) = r
      · rw [if_neg (by rw [hq]; simp)]
        refine e2.trans ?_
        by_cases hg : T.all (goodRow c) = true
        · rw [if_pos hg, if_pos ⟨by simp, hq, hg⟩]
        · rw [if_neg hg, if_neg (fun q => hg q.2.2)]
      · have hne : ((T.length : Int) + 1 != r + 1) = true := by rw [bne_iff_ne]; omega
        rw [if_pos hne, if_neg (fun q => hq q.2.1)]; rfl
  unfold spec_ReadMatrix.f
  rw [f1, Option.bind_some]
theorem readL_true {x : List UInt8} {v : List Int} (h : readL x = (v, true)) : listTxt v = x ∧ fits v = true := by
  unfold readL at h
  by_cases h45 : x = [45]
  · rw [if_pos h45] at h
    obtain rfl : [] = v := congrArg Prod.fst h
    subst h45
    exact ⟨rfl, rfl⟩
  · rw [if_neg h45] at h
    by_cases hc : (splitL 44 x).length ≤ 64 ∧ (splitL 44 x).all partOk = true
    · rw [if_pos hc] at h
      obtain rfl : numsOf (splitL 44 x) = v := congrArg Prod.fst h
      have hf : fits (numsOf (splitL 44 x)) = true := by
        unfold fits
        rw [nums_length, decide_eq_true hc.1, Bool.true_and, List.all_eq_true]
        intro y hy
        obtain ⟨z, hz, rfl⟩ := List.mem_map.mp hy
        have := List.all_eq_true.mp hc.2 z hz
        unfold partOk at this
        rw [Bool.and_eq_true] at this
        exact this.2
      have ht := (text_iff x h45).mpr hc
      rw [row_text hf] at ht
      exact ⟨ht, hf⟩
    · rw [if_neg hc] at h
      exact absurd (congrArg Prod.snd h) Bool.false_ne_true
theorem split_two {c : UInt8} {s a b : List UInt8} (h : splitL c s = [a, b]) : s = a ++ c :: b := by
  have := join_split c s
  rw [h, join_cons2, join_one] at this
  rw [← this]; simp
theorem rows_back {p : Int} {C : Nat} {rs : List (List Int)} (hok : RowsOk p C rs) : rowsM rs.length C rs.flatten = rs := by
  apply List.ext_getElem (by rw [rowsM_length])
  intro i h1 h2
  have e := row_of_tab hok h2
  have hl : (tab rs.length C (cell rs)).length = rs.length * C := tab_length _ _ _
  rw [slice_row hl h2, getD_at h2, ← flatten_rows hok] at e
  rw [← e]
  simp only [rowsM, List.getElem_map, List.getElem_range]
theorem spec_text {p r c : Int} {h : List UInt8} {T : List (List UInt8)} {s : List UInt8} (eW : splitL 47 s = h :: T) (eh : h = headTxt p r c) (hT : (T.length : Int) = r) (hg : T.all (goodRow c) = true) (hm : matOk p r c (valsOf T).flatten = true) : s = mtxTxt p r.toNat c.toNat (valsOf T).flatten := by
  obtain ⟨R, C, hr, hc, h1, h2, h3, h4, h5⟩ := dimsM hm
  subst hr; subst hc
  have hRT : T.length = R := by omega
  have hall := (matOk_iff.mp hm).2.2.2.2
  have hrow : ∀ x ∈ T, listTxt (readL x).1 = x ∧ (readL x).1.length = C := fun x hx => by
    have := List.all_eq_true.mp hg x hx
    unfold goodRow at this
    rw [Bool.and_eq_true, decide_eq_true_eq] at this
    refine ⟨(readL_true (v := (readL x).1) (by rw [← this.1])).1, by omega⟩
  have hok : RowsOk p C (valsOf T) := fun y hy => by
    obtain ⟨x, hx, rfl⟩ := List.mem_map.mp hy
    refine ⟨(hrow x hx).2, fun z hz => hall z (List.mem_flatten.mpr ⟨_, hy, hz⟩)⟩
  have hb := rows_back hok
  rw [vals_length, hRT] at hb
  have hj := join_split 47 s
  rw [eW] at hj
  have hmap : (valsOf T).map listTxt = T := by
    unfold valsOf
    rw [List.map_map]
    refine (List.map_congr_left (g := id) (fun x hx => (hrow x hx).1)).trans (List.map_id _)
  unfold mtxTxt
  rw [Int.toNat_natCast, Int.toNat_natCast, hb, rowsTxt_join, hmap, ← eh, hj]
theorem head_split {p r c : Int} : splitL 32 (headTxt p r c) = [itoa p, itoa r ++ 120 :: itoa c] ∧ splitL 120 (itoa r ++ 120 :: itoa c) = [itoa r, itoa c] := by
  have f1 : ∀ v : Int, (32 : UInt8) ∉ itoa v := fun v => no_byte (by decide) (by decide)
  have f2 : ∀ v : Int, (120 : UInt8) ∉ itoa v := fun v => no_byte (by decide) (by decide)
  refine ⟨?_, ?_⟩
  · rw [show headTxt p r c = itoa p ++ 32 :: (itoa r ++ 120 :: itoa c) by unfold headTxt; simp, splitL_cut _ (f1 p), splitL_none]
    intro h
    rcases List.mem_append.mp h with h | h
    · exact f1 r h
    · rcases List.mem_cons.mp h with h | h
      · exact absurd h (by decide)
      · exact f1 c h
  · rw [splitL_cut _ (f2 r), splitL_none (f2 c)]
theorem spec_forward {p : Int} {R C : Nat} {l : List Int} (hm : matOk p R C l = true) (hs : (mtxTxt p R C l).length ≤ 1048576) {k : Nat} (hk : 80000000 ≤ k) : spec_ReadMatrix.f k (B (mtxTxt p R C l)) = some (p, (R : Int), (C : Int), l, true) := by
  obtain ⟨R', C', hR', hC', h1, h2, h3, h4, h5⟩ := dimsM hm
  have eR : R = R' := by omega
  have eC : C = C' := by omega
  subst eR; subst eC
  have hfr := fits_row h4 (R := R) (C := C) (by omega) h5
  have hrows := rowsM_ok (R := R) (C := C) h5
  have eW : splitL 47 (mtxTxt p R C l) = headTxt p R C :: (rowsM R C l).map listTxt := split_mtx _ _ _ _
  have hlh : (headTxt p R C).length ≤ 1048576 := by
    have := head_length p R C (by omega) (by omega) (by omega)
    omega
  have eH : ∀ k, 1048700 ≤ k → spec_l03Head.f k (B (headTxt p R C)) = some (p, (R : Int), (C : Int), true) := fun k hk => by
    rw [specHead_two hlh (head_split (p := p) (r := R) (c := C)).1 (head_split (p := p) (r := R) (c := C)).2 hk, numOf_itoa (by omega) (by omega), numOf_itoa (by omega) (by omega), numOf_itoa (by omega) (by omega)]; rfl
  have hv : valsOf ((rowsM R C l).map listTxt) = rowsM R C l := by
    unfold valsOf
    rw [List.map_map]
    refine (List.map_congr_left (g := id) (fun x hx => ?_)).trans (List.map_id _)
    show (readL (listTxt x)).1 = x
    rw [read_row (hfr x hx)]
  have hfl : (rowsM R C l).flatten = l := by
    have := flatten_rows hrows
    rw [rowsM_length, rowsM_tab h3] at this
    exact this
  have hg : ((rowsM R C l).map listTxt).all (goodRow C) = true := by
    rw [List.all_eq_true]
    intro x hx
    obtain ⟨y, hy, rfl⟩ := List.mem_map.mp hx
    unfold goodRow
    rw [read_row (hfr y hy), Bool.and_eq_true, decide_eq_true_eq]
    refine ⟨rfl, ?_⟩
    have := (hrows y hy).1
    show ((y.length : Nat) : Int) = (C : Int)
    omega
  rw [spec_read_of hs eW eH (by omega) (by omega) hk, if_pos ⟨rfl, by rw [List.length_map, rowsM_length], hg⟩, hv, hfl]
  unfold finS
  rw [if_pos hm]
theorem spec_cases {s : List UInt8} (hs : s.length ≤ 1048576) : (∀ k, 80000000 ≤ k → spec_ReadMatrix.f k (B s) = some zeroM) ∨ ∃ (p : Int) (R C : Nat) (l : List Int), matOk p R C l = true ∧ s = mtxTxt p R C l := by
  obtain ⟨h, T, eW⟩ := split_some 47 s
  have hsh := splitL_short 47 s
  rw [eW] at hsh
  have hh := Nat.le_trans (hsh h List.mem_cons_self) hs
  by_cases hx : ∀ a b c d, splitL 32 h = [a, b] → splitL 120 b = [c, d] → False
  · left
    intro k hk
    rw [spec_read_of hs eW (fun k hk => specHead_not hh hx hk) (by decide) (by decide) hk, if_neg (fun q => absurd q.1 (by decide))]
  · have hx : ∃ a b c d, splitL 32 h = [a, b] ∧ splitL 120 b = [c, d] := Classical.byContradiction fun hn => hx fun a b c d e1 e2 => hn ⟨a, b, c, d, e1, e2⟩
    obtain ⟨a, b, c, d, e1, e2⟩ := hx
    have nr := numOf_range c
    by_cases hq : ((numOf a).2 && ((numOf c).2 && (numOf d).2)) = true ∧ (T.length : Int) = (numOf c).1 ∧ T.all (goodRow (numOf d).1) = true ∧ matOk (numOf a).1 (numOf c).1 (numOf d).1 (valsOf T).flatten = true
    · right
      obtain ⟨q1, q2, q3, q4⟩ := hq
      rw [Bool.and_eq_true, Bool.and_eq_true] at q1
      have i1 := (numOf_true (s := a) (v := (numOf a).1) (by rw [← q1.1])).1
      have i2 := (numOf_true (s := c) (v := (numOf c).1) (by rw [← q1.2.1])).1
      have i3 := (numOf_true (s := d) (v := (numOf d).1) (by rw [← q1.2.2])).1
      have eh : h = headTxt (numOf a).1 (numOf c).1 (numOf d).1 := by
        unfold headTxt
        rw [i1, i2, i3, split_two e1, split_two e2]; simp
      have ht := spec_text eW eh q2 q3 q4
      obtain ⟨R, C, hR, hC, _⟩ := dimsM q4
      refine ⟨(numOf a).1, R, C, (valsOf T).flatten, ?_, ?_⟩
      · rw [← hR, ← hC]; exact q4
      · rw [hR, hC, Int.toNat_natCast, Int.toNat_natCast] at ht; exact ht
    · left
      intro k hk
      rw [spec_read_of hs eW (fun k hk => specHead_two hh e1 e2 hk) (by omega) (by omega) hk]
      by_cases hq2 : ((numOf a).2 && ((numOf c).2 && (numOf d).2)) = true ∧ (T.length : Int) = (numOf c).1 ∧ T.all (goodRow (numOf d).1) = true
      · rw [if_pos hq2]
        unfold finS
        rw [if_neg (fun q => hq ⟨hq2.1, hq2.2.1, hq2.2.2, q⟩)]
      · rw [if_neg hq2]
theorem both_read {s : List UInt8} (hs : s.length ≤ 1048576) : ∃ p r c l b, l.length ≤ 1024 ∧ (∀ k, 80000000 ≤ k → spec_ReadMatrix.f k (B s) = some (p, r, c, l, b)) ∧ ∀ k, 80000000 ≤ k → impl_ReadMatrix.f k (B s) = some (p, r, c, l, b) := by
  have mtx : ∀ {p : Int} {R C : Nat} {l : List Int}, matOk p R C l = true → s = mtxTxt p R C l → ∃ p r c l b, l.length ≤ 1024 ∧ (∀ k, 80000000 ≤ k → spec_ReadMatrix.f k (B s) = some (p, r, c, l, b)) ∧ ∀ k, 80000000 ≤ k → impl_ReadMatrix.f k (B s) = some (p, r, c, l, b) := fun {p R C l} hm e => by
    obtain ⟨R', C', hR', hC', h1, h2, h3, _⟩ := dimsM hm
    have hl : l.length ≤ 1024 := by rw [h3]; exact Nat.mul_le_mul h1 h2
    refine ⟨p, R, C, l, true, hl, fun k hk => ?_, fun k hk => ?_⟩
    · rw [e]; exact spec_forward hm (by rw [← e]; exact hs) hk
    · have := read_matrix hm (k := k) (by omega)
      unfold textOut at this
      rw [if_pos hm, Int.toNat_natCast, Int.toNat_natCast, ← e] at this
      exact this
  rcases spec_cases hs with h | ⟨p, R, C, l, hm, e⟩
  · obtain ⟨p, r, c, l, hi⟩ := impl_total hs
    by_cases hq : matOk p r c l = true ∧ (textOut p r c l).toList = (B s).toList
    · obtain ⟨R, C, hR, hC, _⟩ := dimsM hq.1
      subst hR; subst hC
      refine mtx hq.1 ?_
      have := hq.2
      unfold textOut at this
      rw [if_pos hq.1, B_toList, B_toList, Int.toNat_natCast, Int.toNat_natCast] at this
      exact this.symm
    · refine ⟨0, 0, 0, [], false, by decide, h, fun k hk => ?_⟩
      rw [hi k (by omega)]
      unfold finT
      by_cases h1 : matOk p r c l = true
      · rw [if_pos h1, if_neg (fun q => hq ⟨h1, q⟩)]; rfl
      · rw [if_neg h1]; rfl
  · exact mtx hm e
end Go.Proofs.YtkndhjchlnepmaaGreatDoor.F
end

section
/- Both functions read the same matrix out of any text. -/
set_option linter.unusedVariables false
set_option linter.unusedSimpArgs false
set_option linter.unusedSectionVars false
namespace Go.Proofs.YtkndhjchlnepmaaGreatDoor.F
open Go.RowKit Go.Proofs.YtkndhjchlnepmaaGreatDoorW.PrintWords Go.Proofs.YtkndhjchlnepmaaGreatDoorW.PrintLast Go.Proofs.YtkndhjchlnepmaaGreatDoor.Lin
theorem readMatrix_chain {K : Nat} {s : ByteArray} {p r c : Int} {l : List Int} {b : Bool} (hs : ¬ (s.size : Int) > 1048576) (c1 : ∀ k, K ≤ k → spec_ReadMatrix.f k s = some (p, r, c, l, b)) (c2 : ∀ k, K ≤ k → impl_ReadMatrix.f k s = some (p, r, c, l, b))
    (c3 : ∀ k, K ≤ k → laws_eqMatrix.f k p r c l p r c l = some true) (c4 : ∀ k, K ≤ k → laws_markMatrix.f k p r c l 1 = some (1 + (l.length : Int), iota 1 l.length)) (c5 : ∀ k, K ≤ k → laws_heldMatrix.f k p r c (iota 1 l.length) 1 = some (1 + (l.length : Int))) : laws_FnExactReadMatrix.f (K + 2) s = some true := by
  have n1 : ¬ (1 + (l.length : Int) < 0) := by omega
  have k1 : K ≤ K + 1 := Nat.le_add_right _ _
  have k2 : K ≤ K + 2 := Nat.le_add_right _ _
  have f1 : laws_FnExactReadMatrix.j1 (K + 1) (1 + (l.length : Int)) false p r c (iota 1 l.length) = some true := by
    simp only [laws_FnExactReadMatrix.j1]
    rw [if_neg (by decide), c5 K (Nat.le_refl _), Option.bind_some, if_neg n1, if_pos rfl]
  have f0 : laws_FnExactReadMatrix.j0 (K + 2) s b false p r c l p r c l = some true := by
    simp only [laws_FnExactReadMatrix.j0]
    rw [if_neg (by decide), c4 _ k1, Option.bind_some]
    dsimp only
    rw [c5 _ k1, Option.bind_some, if_neg n1, if_pos rfl, c2 _ k1, Option.bind_some]
    dsimp only
    rw [c3 _ k1, Option.bind_some, if_pos rfl, bne_self_eq_false]
    exact f1
  unfold laws_FnExactReadMatrix.f
  rw [if_neg hs, c1 _ k2, Option.bind_some, c2 _ k2, Option.bind_some]
  dsimp only
  rw [c3 _ k2, Option.bind_some, if_pos rfl, bne_self_eq_false]
  exact f0
theorem FnExactReadMatrix_pure : laws_FnExactReadMatrix.Pure := by
  intro s _
  by_cases hs : (s.size : Int) > 1048576
  · refine ⟨0, ?_⟩
    unfold laws_FnExactReadMatrix.f
    rw [if_pos hs]
  · obtain ⟨p, r, c, l, b, hl, c1, c2⟩ := both_read (s := s.data.toList) (by rw [← size_len]; omega)
    rw [B_of] at c1 c2
    have hl2 : l.length ≤ 35184372088832 := Nat.le_trans hl (by decide)
    obtain ⟨K, hK⟩ : ∃ K : Nat, 80000000 ≤ K := ⟨80000000, Nat.le_refl _⟩
    have hb : ∀ k, K ≤ k → l.length < k := fun k hk => Nat.lt_of_le_of_lt hl (Nat.lt_of_lt_of_le (Nat.lt_of_lt_of_le (by decide) hK) hk)
    exact ⟨K + 2, readMatrix_chain hs (fun k hk => c1 k (Nat.le_trans hK hk)) (fun k hk => c2 k (Nat.le_trans hK hk)) (fun k hk => eqMatrix_tells hl2 (hb k hk)) (fun k hk => markMatrix_tells hl2 (hb k hk)) (fun k hk => heldMatrix_tells hl2 (hb k hk))⟩
end Go.Proofs.YtkndhjchlnepmaaGreatDoor.F
namespace Go.Proofs.YtkndhjchlnepmaaGreatDoor.Pure
theorem FnExactReadMatrix : F.laws_FnExactReadMatrix.Pure := F.FnExactReadMatrix_pure
end Go.Proofs.YtkndhjchlnepmaaGreatDoor.Pure
end

section
namespace Go.Proofs.YtkndhjchlnepmaaGreatDoor.fnExactReadMatrix
open Go.ChangeShapes Go.WideShapes Go.ChangeAt Go.RowKit
open Go.ChangeMaps (open_string shut_string)
set_option linter.unusedVariables false
theorem own : ownKnob Tryz.prog.godebug = none := by kernel_rfl
theorem gP : Tryz.prog.globalNamed "internal/strconv.uint64pow10" = some 3 := by kernel_rfl
theorem gPT : (Tryz.prog.globals[3]?).map (·.type) = some 153 := by kernel_rfl
theorem gPc : Tryz.prog.cellsOf 153 = 20 := by kernel_rfl
theorem gPe : Tryz.prog.cellsOf 90 = 1 := by kernel_rfl
theorem laidP {W : World} (h0 : laidMetH Tryz.prog Rows.fnExactReadMatrixRow.laid W) : F.LaidP W := by
  rw [MakeChecks.laidMetH_plain _ _ _ (by kernel_rfl)] at h0
  have h := h0
  exact Lib.tabIs_of_head gP gPT Tryz.underlying153 Tryz.underlying90 gPe gPc (laidMet.tail (laidMet.tail h))
theorem cE : Tryz.prog.cellsOf 159 = 1 := by kernel_rfl
theorem cS : Tryz.prog.cellsOf 9 = 1 := by kernel_rfl
theorem star : "*" ++ "errors.errorString" = "*errors.errorString" := by decide
theorem rowE (u : TypeId) (h : Tryz.prog.typeName? 3 u = some "*errors.errorString") : u = 157 :=
  typeName_ptr_named (nm := "errors.errorString") (by rw [star]; kernel_rfl) (by kernel_rfl) (by decide) u (by rw [star]; exact h)
theorem gES : Tryz.prog.globalNamed "strconv.ErrSyntax" = some 1 := by kernel_rfl
theorem gEST : (Tryz.prog.globals[1]?).map (·.type) = some 85 := by kernel_rfl
theorem gER : Tryz.prog.globalNamed "strconv.ErrRange" = some 2 := by kernel_rfl
theorem gERT : (Tryz.prog.globals[2]?).map (·.type) = some 85 := by kernel_rfl
theorem laidE {W : World} (h0 : laidMetH Tryz.prog Rows.fnExactReadMatrixRow.laid W) : F.LaidE W := by
  rw [MakeChecks.laidMetH_plain _ _ _ (by kernel_rfl)] at h0
  have h := h0
  obtain ⟨aS, sS, vS, -, -, -⟩ := laid_sentinel (laidMet.tail (laidMet.tail (laidMet.tail (laidMet.tail (laidMet.tail h))))) gES gEST Tryz.underlying85 rowE Tryz.underlying157 Tryz.underlying159 rfl rfl Tryz.underlying9 cE cS
  obtain ⟨aR, sR, vR, -, -, -⟩ := laid_sentinel (laidMet.tail (laidMet.tail (laidMet.tail (laidMet.tail h)))) gER gERT Tryz.underlying85 rowE Tryz.underlying157 Tryz.underlying159 rfl rfl Tryz.underlying9 cE cS
  exact ⟨⟨_, _, by have z := World.var?_cell gES vS 0; simpa using z⟩, _, _, by have z := World.var?_cell gER vR 0; simpa using z⟩
theorem laidM {W : World} (h : W.ShapedOpen Tryz.prog) : F.LaidM W :=
  cell_of_shapedOpen_int (g := 0) (t := 3) (zero := #[.int .i64 0]) h (of_decide_eq_true (by kernel_rfl)) (by kernel_rfl) rfl (by kernel_rfl) (by kernel_rfl) Tryz.underlying3
set_option maxRecDepth 100000 in
theorem contract (H : Type) (enc : TypeId × Value → H) (W : World) (base : Nat) (args : Array Value) (ds gs : List (DataW H)) (before : List MemPlace)
    (hval0 : ∀ (j : Nat) t v, Tryz.f3.params[j]? = some t → args[j]? = some v → Value.okWide Tryz.prog W .any base t v)
    (hW : DataW.Whole enc Tryz.prog Tryz.f3.params.toList Rows.fnExactReadMatrixSpec.vars false W args.toList ds gs before)
    (hsz0 : (DataW.weightsEach Tryz.prog (Tryz.f3.params.toList ++ Rows.fnExactReadMatrixSpec.plain.varTypes Tryz.prog) (ds ++ gs)).all (· ≤ reachBytes) = true)
    (hL : laidMetH Tryz.prog Rows.fnExactReadMatrixRow.laid W) (hsh : W.ShapedOpen Tryz.prog) :
    Calls Tryz.prog 3 args W fun e W' => ∃ v, e = .returned v ∧ Rows.fnExactReadMatrixSpec.post enc Tryz.prog Tryz.f3 false true false false W args v W' := by
  have hsz : (DataW.weightsEach Tryz.prog (Tryz.f3.params.toList ++ Rows.fnExactReadMatrixSpec.plain.varTypes Tryz.prog) (ds ++ gs)).all (· ≤ reachBytes) = true := hsz0
  have hval : ∀ (j : Nat) t v, Tryz.f3.params[j]? = some t → args[j]? = some v → Value.okWide Tryz.prog W .any base t v := hval0
  have hW' := hW
  obtain ⟨p, q, hA0, hV, rfl, hfz, hnd⟩ := hW
  have hA : DataW.TrodAll enc Tryz.prog W 0 (fun _ => true) true Tryz.f3.params.toList args.toList ds p := hA0
  rw [Tryz.params3] at hA hval hsz
  obtain ⟨v0, vs0, d0, ds0, p0, q0, hargs, rfl, rfl, h0, r0⟩ := trodAll_cons hA
  obtain ⟨rfl, rfl, rfl⟩ := trodAll_nil r0
  obtain rfl : args = #[v0] := by cases args; simp_all
  obtain ⟨rfl, rfl⟩ := trodVars_none hV
  obtain ⟨a0, rfl, rfl, rfl, y0⟩ := open_string Tryz.underlying9 (hval 0 9 v0 rfl rfl) h0
  have w0 : a0.size ≤ 140737488351232 := by
    have z := sized_string hsz (j := 0) (t := 9) rfl rfl
    rw [Array.length_toList] at z
    exact z
  clear hA0 hval0 hsz0 hsz
  refine (F.laws_FnExactReadMatrix.walk Pure.FnExactReadMatrix a0 W w0 (laidP hL) (laidE hL) (laidM hsh)).mono fun e W' ⟨he, bel⟩ => ?_
  subst he
  exact ⟨_, rfl, _, _, _, [], _, [], hW', trodAll_mk1 (shut_bool Tryz.underlying4 _), (trodAll_cons_mk (shut_string Tryz.underlying9 y0) trodAll_mk0), rfl, bel.frame _, fun h => by cases h⟩
noncomputable def first8 : Array Value := match Pinned.utf8First with
  | .agg ds => (ds.map fun d => match d with | .lit (.int k z) => Value.int k z | _ => .nilIface).toArray
  | _ => #[]
noncomputable def laidWorld (os : Os) : World := { World.doorLaid Tryz.prog 72 os with heap := (World.doorLaid Tryz.prog 72 os).heap.modify 4 fun
      | .cells _ t frozen => .cells first8 t frozen
      | o => o }
theorem laid_met (os : Os) : laidMet Tryz.prog Rows.fnExactReadMatrixRow.laid ((laidWorld os).forCall (fun _ _ => 0) ⟨#[], #[.string ByteArray.empty], []⟩).memory :=
  laidMet_of_run' 8 (by kernel_rfl) (by kernel_rfl)
theorem reads (os : Os) {H : Type} (enc : TypeId × Value → H) : ∃ places, DataW.whole enc Tryz.prog ((laidWorld os).forCall (fun _ _ => 0) ⟨#[], #[.string ByteArray.empty], []⟩).memory Tryz.f3.params.toList Rows.fnExactReadMatrixSpec.vars false (#[.string ByteArray.empty] : Array Value).toList 8 = some ([.lit (.string [])], [], places) :=
  ⟨[], by kernel_rfl⟩
set_option maxRecDepth 100000 in
theorem lifted (os : Os) (started : os.Started) (H : Type) (enc : TypeId × Value → H) (F : Stop.Interp) :
    ReturnsInHanded {} Tryz.checked os 3 .any ((OpenSpec.ofChange Rows.fnExactReadMatrixSpec).preRow enc Tryz.prog Tryz.f3 Rows.fnExactReadMatrixRow.domain false Rows.fnExactReadMatrixRow.laid) (((OpenSpec.ofChange Rows.fnExactReadMatrixSpec).at F).post enc Tryz.prog Tryz.f3 false true false false) := by
  obtain ⟨places, hx⟩ := reads os enc
  refine returnsInHanded_of_row (C := Tryz.checked) (s := OpenSpec.ofChange Rows.fnExactReadMatrixSpec) own started (by kernel_rfl) Tryz.func3
    (witness_row_atRef (enc := enc) (C := Tryz.checked) false (laidWorld os) #[.string ByteArray.empty] rfl (by kernel_rfl) (by kernel_rfl) (by kernel_rfl)
      (OpenSpec.preRow_of_cond 8 hx (by kernel_rfl) (fun k hk => by cases hk) (by kernel_rfl) (laid_met os))) ?_
  intro W base args ds gs before hval hW _ _ hsz hL hsh _
  exact contract H enc W base args ds gs before hval hW hsz hL hsh
theorem said : Rows.FnExactReadMatrixSaid :=
  OpenClaim.holds_of_cond 3 Tryz.f3 rfl rfl rfl rfl rfl rfl rfl ⟨rfl, rfl, rfl, rfl, rfl⟩ rfl rfl rfl rfl rfl (by kernel_rfl) Tryz.func3 (by kernel_rfl)
    (of_decide_eq_true (by kernel_rfl)) (by unfold Func.isWrapper; first | (rw [if_pos (by decide +kernel)]; kernel_rfl) | (rw [if_neg (by decide +kernel)]; exact ⟨rfl, rfl⟩))
    (fun os started H enc _ F => by rw [OpenClaim.pre_eq_preRow]; exact lifted os started H enc F)
theorem standIns : (Tryz.f3.params.toList.all fun t => !Tryz.prog.wantsStandIn t) = true := by kernel_rfl
theorem plain (f : FuncId) (fn : Func) (hf : Tryz.pinned.checked.prog.funcNamed "loop.example/g01005/laws.FnExactReadMatrix" = some f) (hfn : Tryz.pinned.checked.prog.funcs[f]? = some fn) :
    true = Tryz.pinned.checked.prog.looks [] ∧ ∀ (j : Nat) t, fn.params[j]? = some t → Tryz.pinned.checked.prog.wantsStandIn t = false := by
  obtain rfl : f = 3 := Option.some.inj ((show Tryz.prog.funcNamed "loop.example/g01005/laws.FnExactReadMatrix" = some 3 by kernel_rfl).symm.trans hf) |>.symm
  obtain rfl : fn = Tryz.f3 := (Option.some.inj (Tryz.func3.symm.trans hfn)).symm
  refine ⟨by kernel_rfl, fun j t ht => ?_⟩
  have h := List.all_eq_true.mp standIns t (Array.mem_toList_iff.mpr (Array.mem_of_getElem? ht))
  exact (show Tryz.prog.wantsStandIn t = false by simpa using h)
theorem card : Rows.FnExactReadMatrixCardSaid :=
  Claim7.holds_tied_plain_at .later [] _ _ _ _ said (fun _ h => by cases h) (by kernel_rfl) (fun _ h => by cases h) fnExactReadMatrix_row_tie rfl ⟨rfl, rfl⟩ (by kernel_rfl) rfl plain (by kernel_rfl)
#print axioms card
end Go.Proofs.YtkndhjchlnepmaaGreatDoor.fnExactReadMatrix
namespace Go.Proofs.YtkndhjchlnepmaaGreatDoor
theorem fnExactReadMatrix_holds : Rows.FnExactReadMatrixCardSaid := fnExactReadMatrix.card
end Go.Proofs.YtkndhjchlnepmaaGreatDoor
end
