-- Texts of this claim, merged by packw.py (a program of this session's).
import Derived.Test.YtkndhjchlnepmaaDoorQFnExactMatrixText6
import Derived.Test.YtkndhjchlnepmaaDoorQFnExactMatrixText10
import Derived.KernelRfl
import Derived.Test.YtkndhjchlnepmaaDoorQFnExactMatrixText4
import Derived.Test.YtkndhjchlnepmaaDoorQFnExactMatrixText5
import Derived.Test.YtkndhjchlnepmaaDoorQFnExactMatrixText7
import Derived.Test.YtkndhjchlnepmaaDoorQFnExactMatrixText8
import Derived.Test.YtkndhjchlnepmaaDoorQFnExactMatrixText9
import Derived.SizedLaws
import Derived.ChangeSlices
import Derived.Test.YtkndhjchlnepmaaDoorRows
import Derived.WalkKit
import Derived.ProofKit
import Derived.OpenShut
import Derived.ShutString
import Derived.ChangeOld
import Derived.Below
import Derived.Test.YtkndhjchlnepmaaDoorCards
import Derived.Test.YtkndhjchlnepmaaDoorTie
import Derived.Deep.DeepHandedRow
import Derived.Deep.DeepWitnessRowRef
import Derived.Lib.LaidTab
import Derived.Stop.LaidErr
import Derived.LaidMore
import Derived.MakeChecks
import Derived.Shelf.Vars
import Derived.Lib.SmallJoins
import Derived.Deep.Slices

section
set_option linter.unusedVariables false
set_option linter.unusedSimpArgs false
set_option linter.unusedSectionVars false
namespace Go.Proofs.YtkndhjchlnepmaaDoor.F
open Go.RowKit Go.Proofs.YtkndhjchlnepmaaDoorW.PrintWords Go.Proofs.YtkndhjchlnepmaaDoorW.PrintLast Go.Proofs.YtkndhjchlnepmaaDoor.Lin
end Go.Proofs.YtkndhjchlnepmaaDoor.F
end

section
set_option linter.unusedVariables false
set_option linter.unusedSimpArgs false
set_option linter.unusedSectionVars false
namespace Go.Proofs.YtkndhjchlnepmaaDoor.F
open Go.RowKit Go.Proofs.YtkndhjchlnepmaaDoorW.PrintWords Go.Proofs.YtkndhjchlnepmaaDoorW.PrintLast Go.Proofs.YtkndhjchlnepmaaDoor.Lin
open Go.Lib
def rowTxt (r : List Int) : List UInt8 := 47 :: listTxt r
def rowsTxt (rs : List (List Int)) : List UInt8 := (rs.map rowTxt).flatten
def headTxt (p r c : Int) : List UInt8 := itoa p ++ [32] ++ itoa r ++ [120] ++ itoa c
def mtxTxt (p : Int) (R C : Nat) (l : List Int) : List UInt8 := headTxt p R C ++ rowsTxt (rowsM R C l)
theorem rowsTxt_cons (r : List Int) (rs : List (List Int)) : rowsTxt (r :: rs) = rowTxt r ++ rowsTxt rs := by unfold rowsTxt; simp
theorem rowsTxt_drop {rs : List (List Int)} {i : Nat} (h : i < rs.length) : rowsTxt (rs.drop i) = rowTxt rs[i] ++ rowsTxt (rs.drop (i + 1)) := by rw [List.drop_eq_getElem_cons h, rowsTxt_cons]
theorem listTxt_short {l : List Int} (h : fits l = true) : (listTxt l).length ≤ 1408 := by
  obtain ⟨f1, f2⟩ := fits_at h
  unfold listTxt
  by_cases h0 : l.length = 0
  · rw [if_pos h0]; simp
  · rw [if_neg h0]
    have := join_short (l.map itoa) 21 (fun t ht => by
      obtain ⟨v, hv, rfl⟩ := List.mem_map.mp ht
      have := f2 v hv
      exact itoa_short (by omega) (by omega))
    rw [List.length_map] at this
    have h2 : l.length * (21 + 1) ≤ 64 * 22 := Nat.mul_le_mul f1 (Nat.le_refl _)
    omega
theorem rowsTxt_short {rs : List (List Int)} (h : ∀ r ∈ rs, fits r = true) : (rowsTxt rs).length ≤ rs.length * 1409 := by
  induction rs with
  | nil => simp [rowsTxt]
  | cons r rs ih =>
    have h1 := listTxt_short (h r List.mem_cons_self)
    have h2 := ih (fun x hx => h x (List.mem_cons_of_mem _ hx))
    rw [rowsTxt_cons, List.length_append, List.length_cons, Nat.add_mul, Nat.one_mul]
    unfold rowTxt
    rw [List.length_cons]
    omega
theorem fits_row {p : Int} (hp : 2 ≤ p ∧ p ≤ 251) {R C : Nat} (hC : C ≤ 64) {l : List Int} (hv : ∀ j, 0 ≤ l.getD j 0 ∧ l.getD j 0 < p) : ∀ r ∈ rowsM R C l, fits r = true := fun r hr => by
  obtain ⟨a, b⟩ := rowsM_ok (R := R) (C := C) hv r hr
  unfold fits
  rw [Bool.and_eq_true]
  exact ⟨decide_eq_true (by omega), List.all_eq_true.mpr (fun x hx => decide_eq_true (by have := b x hx; omega))⟩
theorem row_text {r : List Int} (h : fits r = true) : listText r = listTxt r := by unfold listText; rw [if_pos h]
theorem slashed_loop {rs : List (List Int)} (hl : rs.length ≤ 64) (hf : ∀ r ∈ rs, fits r = true) (d : Nat) : ∀ (k i : Nat) (acc : List UInt8), rs.length - i = d → i ≤ rs.length → d + 200 ≤ k → acc.length + d * 1409 ≤ 1000000 →
    impl_slashed.l0 k acc rs i = some (B (acc ++ rowsTxt (rs.drop i))) := by
  induction d with
  | zero =>
    intro k i acc hd hi hk ha
    obtain ⟨k, rfl⟩ : ∃ m, k = m + 1 := ⟨k - 1, by omega⟩
    simp only [impl_slashed.l0]
    rw [if_neg (by omega), List.drop_eq_nil_of_le (by omega)]
    simp [rowsTxt, B]
  | succ d ih =>
    intro k i acc hd hi hk ha
    obtain ⟨k, rfl⟩ : ∃ m, k = m + 1 := ⟨k - 1, by omega⟩
    rw [Nat.succ_mul] at ha
    have hlt : i < rs.length := by omega
    have g1 : (i : Int) < (rs.length : Int) := by omega
    have g2 : (0 : Int) ≤ (i : Int) := by omega
    have hr := hf _ (List.getElem_mem hlt)
    have hfr := fits_at hr
    have hs := listTxt_short hr
    have g3 : acc.length + ((B (listTxt rs[i])).size + 1) ≤ 140737488355328 := by rw [B_size]; omega
    have e1 : impl_ListText.f k rs[i] = some (B (listTxt rs[i])) := by
      rw [implListText_tells _ (by omega) (fun x hx => by have := hfr.2 x hx; omega) (by omega), row_text hr]
    have g4 : rs.length ≤ 35184372088832 := by omega
    have e2 := ih k (i + 1) (acc ++ 47 :: listTxt rs[i]) (by omega) (by omega) (by omega) (by rw [List.length_append, List.length_cons]; omega)
    simp only [impl_slashed.l0]
    rw [if_pos g1, if_pos g2, rdL_nat, getD_at hlt, e1, Option.bind_some, if_pos g3, B_list, w64_succ hlt g4, e2, rowsTxt_drop hlt]
    simp [rowTxt]
theorem slashed_tells {rs : List (List Int)} (hl : rs.length ≤ 64) (hf : ∀ r ∈ rs, fits r = true) {k : Nat} (hk : 300 ≤ k) : impl_slashed.f k rs = some (B (rowsTxt rs)) := by
  have h2 : rs.length * 1409 ≤ 64 * 1409 := Nat.mul_le_mul hl (Nat.le_refl _)
  have := slashed_loop hl hf rs.length k 0 [] (by omega) (by omega) (by omega) (by simp; omega)
  rw [List.drop_zero, List.nil_append] at this
  unfold impl_slashed.f
  exact this
theorem l01List_tells {l : List Int} (h : fits l = true) {k : Nat} (hk : 400 ≤ k) : spec_l01List.f k l = some (B (listTxt l)) := by
  have hf := fits_at h
  unfold spec_l01List.f listTxt
  by_cases h0 : l.length = 0
  · rw [if_pos (by omega), if_pos h0]; rfl
  · rw [if_neg (by omega), if_neg h0]
    have := l01List_loop l hf.1 (fun x hx => by have := hf.2 x hx; omega) l.length 0 k (by omega) (by omega) (by omega)
    have e : (⟨#[]⟩ : ByteArray) = B (join ((l.take 0).map itoa) [44]) := rfl
    have this' : spec_l01List.l0 k l (⟨#[]⟩ : ByteArray) 0 = some (B (join (l.map itoa) [44])) := this
    exact this'
theorem textS_loop {p : Int} (hp : 2 ≤ p ∧ p ≤ 251) {R C : Nat} (hR : R ≤ 64) (hC : C ≤ 64) {l : List Int} (hl : l.length = R * C) (hv : ∀ j, 0 ≤ l.getD j 0 ∧ l.getD j 0 < p) (q1 : Int) {K0 : Nat} (hK : 400 ≤ K0) (d : Nat) : ∀ (k i : Nat) (acc : List UInt8), R - i = d → i ≤ R → d + K0 ≤ k → acc.length + d * 1409 ≤ 1000000 →
    spec_l03Text.l0 k (B acc) i q1 R C l = some (B (acc ++ rowsTxt ((rowsM R C l).drop i))) := by
  induction d with
  | zero =>
    intro k i acc hd hi hk ha
    obtain ⟨k, rfl⟩ : ∃ m, k = m + 1 := ⟨k - 1, by omega⟩
    simp only [spec_l03Text.l0]
    rw [if_neg (by omega), List.drop_eq_nil_of_le (by rw [rowsM_length]; omega)]
    simp [rowsTxt]
  | succ d ih =>
    intro k i acc hd hi hk ha
    obtain ⟨k, rfl⟩ : ∃ m, k = m + 1 := ⟨k - 1, by omega⟩
    rw [Nat.succ_mul] at ha
    have hlt : i < R := by omega
    have b1 : R - (i + 1) = d := by omega
    have b2 : i + 1 ≤ R := by omega
    have b3 : d + K0 ≤ k := by omega
    have b4 : 400 ≤ k := Nat.le_trans hK (Nat.le_trans (Nat.le_add_left K0 d) b3)
    have b5 : ∀ X, X ≤ 1408 → acc.length + (1 + X) + d * 1409 ≤ 1000000 := fun X hX => by omega
    have b6 : ∀ X, X ≤ 1408 → 1 + X ≤ 9223372036854775807 := fun X hX => by omega
    have b7 : ∀ X, X ≤ 1408 → acc.length + (1 + X) ≤ 9223372036854775807 := fun X hX => by omega
    have g1 : (i : Int) < (R : Int) := by omega
    have g2 : (0 : Int) ≤ ((i * C : Nat) : Int) := by omega
    have hm1 : i * C ≤ (i + 1) * C := Nat.mul_le_mul_right _ (by omega)
    have hm2 : (i + 1) * C ≤ R * C := Nat.mul_le_mul_right _ (by omega)
    have g3 : ((i * C : Nat) : Int) ≤ (((i + 1) * C : Nat) : Int) := by omega
    have g4 : (((i + 1) * C : Nat) : Int) ≤ (l.length : Int) := by omega
    have n1 : i ≤ 128 := by omega
    have n2 : i + 1 ≤ 128 := by omega
    have n3 : C ≤ 128 := by omega
    have n4 : R ≤ 35184372088832 := by omega
    have w1 : wrap64 ((i : Int) * (C : Int)) = ((i * C : Nat) : Int) := w64_mulN n1 n3
    have w2 : wrap64 (wrap64 ((i : Int) + 1) * (C : Int)) = (((i + 1) * C : Nat) : Int) := by
      rw [w64_succ hlt n4]
      exact w64_mulN n2 n3
    have w3 : wrap64 ((i : Int) + 1) = ((i + 1 : Nat) : Int) := w64_succ hlt n4
    have hltM : i < (rowsM R C l).length := by rw [rowsM_length]; exact hlt
    have e0 : (l.take ((i + 1) * C)).drop (i * C) = (rowsM R C l)[i] := (slice_row hl hlt).trans (by simp [rowsM])
    have hr := fits_row hp hC hv _ (List.getElem_mem hltM)
    have hs := listTxt_short hr
    have e47 : (⟨#[47]⟩ : ByteArray) = B [47] := rfl
    have l47 : ([47] : List UInt8).length = 1 := rfl
    have e1 := l01List_tells hr b4
    have e2 := ih k (i + 1) (acc ++ ([47] ++ listTxt (rowsM R C l)[i])) b1 b2 b3 (by
      rw [List.length_append, List.length_append, l47]
      exact b5 _ hs)
    have g5 : 1 + (B (listTxt (rowsM R C l)[i])).size ≤ 9223372036854775807 := by rw [B_size]; exact b6 _ hs
    have g6 : (B acc).size + (B ([47] ++ listTxt (rowsM R C l)[i])).size ≤ 9223372036854775807 := by
      rw [B_size, B_size, List.length_append, l47]
      exact b7 _ hs
    simp only [spec_l03Text.l0]
    rw [if_pos g1, w1, w2, if_pos g2, if_pos g3, if_pos g4, Int.toNat_natCast, Int.toNat_natCast, e0, e1, Option.bind_some, if_pos g5, e47, B_append, if_pos g6, B_append, w3, e2, rowsTxt_drop hltM]
    simp [rowTxt]
def textOut (p r c : Int) (l : List Int) : ByteArray := if matOk p r c l = true then B (mtxTxt p r.toNat c.toNat l) else B []
theorem head_length (p r c : Int) (hp : -9223372036854775808 ≤ p ∧ p ≤ 9223372036854775807) (hr : -9223372036854775808 ≤ r ∧ r ≤ 9223372036854775807) (hc : -9223372036854775808 ≤ c ∧ c ≤ 9223372036854775807) : (headTxt p r c).length ≤ 65 := by
  unfold headTxt
  simp only [List.length_append, List.length_cons, List.length_nil]
  have a := itoa_short hp.1 hp.2
  have b := itoa_short hr.1 hr.2
  have d := itoa_short hc.1 hc.2
  omega
theorem impl_textM (p r c : Int) {l : List Int} {k : Nat} (hk : 17000 ≤ k) : impl_MatrixText.f k p r c l = some (textOut p r c l) := by
  unfold impl_MatrixText.f textOut
  rw [implOk_tells p r c (by omega)]
  cases h : matOk p r c l with
  | false => rfl
  | true =>
    obtain ⟨R, C, rfl, rfl, h1, h2, h3, h4, h5⟩ := dimsM h
    have d1 : impl_Decimal.f p = some (B (itoa p)) := decimal_tells (by omega) (by omega)
    have d2 : impl_Decimal.f (R : Int) = some (B (itoa R)) := decimal_tells (by omega) (by omega)
    have d3 : impl_Decimal.f (C : Int) = some (B (itoa C)) := decimal_tells (by omega) (by omega)
    have s1 := itoa_short (x := p) (by omega) (by omega)
    have s2 := itoa_short (x := (R : Int)) (by omega) (by omega)
    have s3 := itoa_short (x := (C : Int)) (by omega) (by omega)
    have e32 : (⟨#[32]⟩ : ByteArray) = B [32] := rfl
    have e120 : (⟨#[120]⟩ : ByteArray) = B [120] := rfl
    have er := rowsOf_tells (p := p) (R := R) (C := C) (by omega) (by omega) h3 (k := k) (by omega)
    have hfr := fits_row h4 (R := R) (C := C) (by omega) h5
    have es := slashed_tells (rs := rowsM R C l) (by rw [rowsM_length]; omega) hfr (k := k) (by omega)
    have ls := rowsTxt_short hfr
    rw [rowsM_length] at ls
    have ls2 : R * 1409 ≤ 32 * 1409 := Nat.mul_le_mul h1 (Nat.le_refl _)
    have l32 : ([32] : List UInt8).length = 1 := rfl
    have l120 : ([120] : List UInt8).length = 1 := rfl
    simp only [Option.bind_some, if_true, Int.toNat_natCast, e32, e120]
    rw [d1, Option.bind_some, if_pos (by rw [B_size]; omega), d2, Option.bind_some, B_append, if_pos (by rw [B_size, B_size, List.length_append]; omega), B_append, if_pos (by rw [B_size, List.length_append, List.length_append]; omega), d3, Option.bind_some, B_append, if_pos (by rw [B_size, B_size, List.length_append, List.length_append, List.length_append]; omega), er, Option.bind_some, es, Option.bind_some, B_append, if_pos (by rw [B_size, B_size, List.length_append, List.length_append, List.length_append, List.length_append]; omega), B_append]
    rfl
theorem spec_textM (p r c : Int) {l : List Int} (hl : l.length ≤ 1048576) {k : Nat} (hk : l.length + 17000 ≤ k) : spec_MatrixText.f k p r c l = some (textOut p r c l) := by
  unfold spec_MatrixText.f textOut
  rw [specOk_tells p r c (by omega) (by omega)]
  cases h : matOk p r c l with
  | false => rfl
  | true =>
    obtain ⟨R, C, rfl, rfl, h1, h2, h3, h4, h5⟩ := dimsM h
    have d1 : spec_l01Dec.f k p = some (B (itoa p)) := l01Dec_tells (by omega) (by omega) (by omega)
    have d2 : spec_l01Dec.f k (R : Int) = some (B (itoa R)) := l01Dec_tells (by omega) (by omega) (by omega)
    have d3 : spec_l01Dec.f k (C : Int) = some (B (itoa C)) := l01Dec_tells (by omega) (by omega) (by omega)
    have s1 := itoa_short (x := p) (by omega) (by omega)
    have s2 := itoa_short (x := (R : Int)) (by omega) (by omega)
    have s3 := itoa_short (x := (C : Int)) (by omega) (by omega)
    have e32 : (⟨#[32]⟩ : ByteArray) = B [32] := rfl
    have e120 : (⟨#[120]⟩ : ByteArray) = B [120] := rfl
    have l32 : ([32] : List UInt8).length = 1 := rfl
    have l120 : ([120] : List UInt8).length = 1 := rfl
    have ls2 : R * 1409 ≤ 32 * 1409 := Nat.mul_le_mul h1 (Nat.le_refl _)
    have e := textS_loop h4 (R := R) (C := C) (by omega) (by omega) h3 h5 p (K0 := 400) (Nat.le_refl _) R k 0 (headTxt p R C) (by omega) (by omega) (by omega) (by
      have := head_length p R C (by omega) (by omega) (by omega)
      omega)
    have e' : spec_l03Text.l0 k (B (headTxt p R C)) 0 p R C l = some (B (headTxt p R C ++ rowsTxt ((rowsM R C l).drop 0))) := e
    simp only [Option.bind_some, if_true, Int.toNat_natCast]
    unfold spec_l03Text.f
    rw [d1, Option.bind_some, e32, e120, if_pos (by rw [B_size]; omega), d2, Option.bind_some, B_append, if_pos (by rw [B_size, B_size, List.length_append]; omega), B_append, if_pos (by rw [B_size, List.length_append, List.length_append]; omega), d3, Option.bind_some, B_append, if_pos (by rw [B_size, B_size, List.length_append, List.length_append, List.length_append]; omega), B_append]
    rw [show itoa p ++ [32] ++ itoa (R : Int) ++ [120] ++ itoa (C : Int) = headTxt p R C from rfl, e', List.drop_zero, Option.bind_some]
    rfl
end Go.Proofs.YtkndhjchlnepmaaDoor.F
end

section
/- Both functions write the same text of a valid matrix and an empty one of any other; the matrix stays as it is. -/
set_option linter.unusedVariables false
set_option linter.unusedSimpArgs false
set_option linter.unusedSectionVars false
namespace Go.Proofs.YtkndhjchlnepmaaDoor.F
open Go.RowKit Go.Proofs.YtkndhjchlnepmaaDoorW.PrintWords Go.Proofs.YtkndhjchlnepmaaDoorW.PrintLast Go.Proofs.YtkndhjchlnepmaaDoor.Lin
theorem FnExactMatrixText_pure : laws_FnExactMatrixText.Pure := by
  intro p r c l _ _ _ hm _
  by_cases hl : l.length ≤ 1048576
  · obtain ⟨K, hK⟩ : ∃ K, K = l.length + 17000 := ⟨_, rfl⟩
    refine ⟨K, ?_⟩
    unfold laws_FnExactMatrixText.f
    rw [szMatrix_tells p r c hm, if_pos hl, Option.bind_some, if_neg (by omega), toMatrix_tells p r c (by omega) (by omega), Option.bind_some]
    dsimp only
    rw [spec_textM p r c hl (by omega), Option.bind_some, Option.bind_some]
    dsimp only
    rw [impl_textM p r c (by omega), Option.bind_some, if_pos rfl, Option.bind_some]
    dsimp only
    rw [eqMatrix_tells (by omega) (by omega), Option.bind_some, if_pos rfl]
  · refine ⟨0, ?_⟩
    unfold laws_FnExactMatrixText.f
    rw [szMatrix_tells p r c hm, if_neg hl]
    rfl
end Go.Proofs.YtkndhjchlnepmaaDoor.F
namespace Go.Proofs.YtkndhjchlnepmaaDoor.Pure
theorem FnExactMatrixText : F.laws_FnExactMatrixText.Pure := F.FnExactMatrixText_pure
end Go.Proofs.YtkndhjchlnepmaaDoor.Pure
end

section
-- PRINTED BY print.sh 35421559b90ae4d0a3588c463048766b98c2df88dd9212a6774a882060cdf62d: not written by this session
-- PRINTED WORDS (module Derived/Print/Sized.lean): go-gate-2's, for the rows of laws over slices: an AI agent of Go's test side, Tue Nov 17 2026; no person has read it. Lean checks it.
namespace Go.Proofs.YtkndhjchlnepmaaDoorW.PrintWords
open Go.ChangeShapes Go.WideShapes
end Go.Proofs.YtkndhjchlnepmaaDoorW.PrintWords
end

section
namespace Go.Proofs.YtkndhjchlnepmaaDoor.fnExactMatrixText
open Go.ChangeShapes Go.WideShapes Go.ChangeAt Go.RowKit Go.Joins
open Go.ChangeMaps (open_string shut_string)
set_option linter.unusedVariables false
theorem own : ownKnob Tryd.prog.godebug = none := by kernel_rfl
theorem laidOut : laidOutB Tryd.prog = true := by kernel_rfl
def IsRow (k : IntKind) (w : World) (a : Option Addr) (len cap : Nat) (zs : List Int) : Prop :=
  (a = none ∧ len = 0 ∧ cap = 0 ∧ zs = []) ∨
  ∃ x, a = some x ∧ len ≤ cap ∧ cap ≤ maxLen ∧ zs.length = cap ∧ (∀ i, i < zs.length → w.cell? (x.add i) = some (.int k (zs.getD i 0))) ∧ ∀ n ∈ zs, (Lit.int k n).wf = true
theorem row_of {H : Type} {enc : TypeId × Value → H} {P : Program} {W : World} {n : Nat} {t e : TypeId} {k : IntKind} {v : Value} {y : DataW H × List MemPlace} (hs : P.underlying t = some (.slice e)) (hi : P.underlying e = some (.int k)) (hc : P.cellsOf e = 1)
    (hf : DataW.trod enc P W 0 (fun _ => true) true n t [v] = some y) : ∃ a len cap zs, v = .slice a len cap ∧ IsRow k W a len cap zs := by
  rcases open_ints hs hi hc hf with ⟨hcs, _⟩ | ⟨x, l, c, zs, hcs, _, hl, hm, hz, _, hcell, hwz⟩
  · simp at hcs
    exact ⟨_, _, _, [], hcs, .inl ⟨rfl, rfl, rfl, rfl⟩⟩
  · simp at hcs
    exact ⟨_, _, _, zs, hcs, .inr ⟨_, rfl, hl, hm, by simpa using hz, hcell, hwz⟩⟩
theorem gP : Tryd.prog.globalNamed "internal/strconv.uint64pow10" = some 2 := by kernel_rfl
theorem gPT : (Tryd.prog.globals[2]?).map (·.type) = some 120 := by kernel_rfl
theorem gPc : Tryd.prog.cellsOf 120 = 20 := by kernel_rfl
theorem gPe : Tryd.prog.cellsOf 70 = 1 := by kernel_rfl
theorem laidP {W : World} (h0 : laidMetH Tryd.prog Rows.fnExactMatrixTextRow.laid W) : F.LaidP W := by
  rw [MakeChecks.laidMetH_plain _ _ _ (by kernel_rfl)] at h0
  have h := h0
  exact Lib.tabIs_of_head gP gPT Tryd.underlying120 Tryd.underlying70 gPe gPc (laidMet.tail (laidMet.tail h))
set_option maxRecDepth 100000 in
theorem contract (H : Type) (enc : TypeId × Value → H) (W : World) (base : Nat) (args : Array Value) (ds gs : List (DataW H)) (before : List MemPlace)
    (hval0 : ∀ (j : Nat) t v, Tryd.f4.params[j]? = some t → args[j]? = some v → Value.okWide Tryd.prog W .any base t v)
    (hW : DataW.Whole enc Tryd.prog Tryd.f4.params.toList Rows.fnExactMatrixTextSpec.vars false W args.toList ds gs before)
    (hsz0 : (DataW.weightsEach Tryd.prog (Tryd.f4.params.toList ++ Rows.fnExactMatrixTextSpec.plain.varTypes Tryd.prog) (ds ++ gs)).all (· ≤ reachBytes) = true)
    (hL : laidMetH Tryd.prog Rows.fnExactMatrixTextRow.laid W) (hsh : W.ShapedOpen Tryd.prog) :
    Calls Tryd.prog 4 args W fun e W' => ∃ v, e = .returned v ∧ Rows.fnExactMatrixTextSpec.post enc Tryd.prog Tryd.f4 false true false false W args v W' := by
  have hsz : (DataW.weightsEach Tryd.prog (Tryd.f4.params.toList ++ Rows.fnExactMatrixTextSpec.plain.varTypes Tryd.prog) (ds ++ gs)).all (· ≤ reachBytes) = true := hsz0
  have hval : ∀ (j : Nat) t v, Tryd.f4.params[j]? = some t → args[j]? = some v → Value.okWide Tryd.prog W .any base t v := hval0
  have hW' := hW
  obtain ⟨p, q, hA0, hV, rfl, hfz, hnd⟩ := hW
  have hA : DataW.TrodAll enc Tryd.prog W 0 (fun _ => true) true Tryd.f4.params.toList args.toList ds p := hA0
  rw [Tryd.params4] at hA hval hsz
  obtain ⟨v0, vs0, d0, ds0, p0, q0, hargs, rfl, rfl, h0, r0⟩ := trodAll_cons hA
  obtain ⟨rfl, rfl, rfl⟩ := trodAll_nil r0
  obtain rfl : args = #[v0] := by cases args; simp_all
  obtain ⟨rfl, rfl⟩ := trodVars_none hV
  have k0 := h0
  have lt0 : ∀ x ∈ p0, x.block < W.heap.size := by obtain ⟨m, hm⟩ := k0; exact DataW.trod_lt m _ _ _ hm
  obtain ⟨c0_0, c0_1, c0_2, c0_3, y0_0, y0_1, y0_2, y0_3, m0, rfl, _, _, g0_0, g0_1, g0_2, g0_3⟩ := open_agg4 Tryd.underlying39 (by kernel_rfl) (show Tryd.prog.cellsOf 39 = 4 by kernel_rfl) (hval 0 39 v0 rfl rfl) h0
  obtain ⟨a0_0, e0_0, _, w0_0⟩ := DataW.trod_int Tryd.underlying2 g0_0
  simp at e0_0
  subst e0_0
  obtain ⟨a0_1, e0_1, _, w0_1⟩ := DataW.trod_int Tryd.underlying2 g0_1
  simp at e0_1
  subst e0_1
  obtain ⟨a0_2, e0_2, _, w0_2⟩ := DataW.trod_int Tryd.underlying2 g0_2
  simp at e0_2
  subst e0_2
  obtain ⟨a0_3, len0_3, cap0_3, z0_3, rfl, w0_3⟩ := row_of Tryd.underlying30 Tryd.underlying2 (by kernel_rfl) g0_3
  clear hA0 hval0 hsz0 hsz
  refine (F.laws_FnExactMatrixText.walk Pure.FnExactMatrixText a0_0 a0_1 a0_2 a0_3 len0_3 cap0_3 z0_3 W w0_0 w0_1 w0_2 w0_3 (laidP hL)).mono fun e W' ⟨he, bel⟩ => ?_
  subst he
  exact ⟨_, rfl, _, _, _, [], _, [], hW', trodAll_mk1 (shut_bool Tryd.underlying4 _), (trodAll_cons_mk (Below.trod laidOut (by kernel_rfl) (of_decide_eq_true (by kernel_rfl)) k0 bel lt0) trodAll_mk0), rfl, bel.frame _, fun h => by cases h⟩
noncomputable def laidWorld (os : Os) : World := World.doorLaid Tryd.prog 72 os
theorem laid_met (os : Os) : laidMet Tryd.prog Rows.fnExactMatrixTextRow.laid ((laidWorld os).forCall (fun _ _ => 0) ⟨#[], #[.agg #[.int .i64 0, .int .i64 0, .int .i64 0, .slice none 0 0]], []⟩).memory :=
  laidMet_of_run' 8 (by kernel_rfl) (by kernel_rfl)
theorem reads (os : Os) {H : Type} (enc : TypeId × Value → H) : ∃ places, DataW.whole enc Tryd.prog ((laidWorld os).forCall (fun _ _ => 0) ⟨#[], #[.agg #[.int .i64 0, .int .i64 0, .int .i64 0, .slice none 0 0]], []⟩).memory Tryd.f4.params.toList Rows.fnExactMatrixTextSpec.vars false (#[.agg #[.int .i64 0, .int .i64 0, .int .i64 0, .slice none 0 0]] : Array Value).toList 8 = some ([.agg [.lit (.int .i64 0), .lit (.int .i64 0), .lit (.int .i64 0), .nil]], [], places) :=
  ⟨[], by kernel_rfl⟩
set_option maxRecDepth 100000 in
theorem lifted (os : Os) (started : os.Started) (H : Type) (enc : TypeId × Value → H) (F : Stop.Interp) :
    ReturnsInHanded {} Tryd.checked os 4 .any ((OpenSpec.ofChange Rows.fnExactMatrixTextSpec).preRow enc Tryd.prog Tryd.f4 Rows.fnExactMatrixTextRow.domain false Rows.fnExactMatrixTextRow.laid) (((OpenSpec.ofChange Rows.fnExactMatrixTextSpec).at F).post enc Tryd.prog Tryd.f4 false true false false) := by
  obtain ⟨places, hx⟩ := reads os enc
  refine returnsInHanded_of_row (C := Tryd.checked) (s := OpenSpec.ofChange Rows.fnExactMatrixTextSpec) own started (by kernel_rfl) Tryd.func4
    (witness_row_atRef (enc := enc) (C := Tryd.checked) false (laidWorld os) #[.agg #[.int .i64 0, .int .i64 0, .int .i64 0, .slice none 0 0]] rfl (by kernel_rfl) (by kernel_rfl) (by kernel_rfl)
      (OpenSpec.preRow_of_cond 8 hx (by kernel_rfl) (fun k hk => by cases hk) (by kernel_rfl) (laid_met os))) ?_
  intro W base args ds gs before hval hW _ _ hsz hL hsh _
  exact contract H enc W base args ds gs before hval hW hsz hL hsh
theorem said : Rows.FnExactMatrixTextSaid :=
  OpenClaim.holds_of_cond 4 Tryd.f4 rfl rfl rfl rfl rfl rfl rfl ⟨rfl, rfl, rfl, rfl, rfl⟩ rfl rfl rfl rfl rfl (by kernel_rfl) Tryd.func4 (by kernel_rfl)
    (of_decide_eq_true (by kernel_rfl)) (by unfold Func.isWrapper; first | (rw [if_pos (by decide +kernel)]; kernel_rfl) | (rw [if_neg (by decide +kernel)]; exact ⟨rfl, rfl⟩))
    (fun os started H enc _ F => by rw [OpenClaim.pre_eq_preRow]; exact lifted os started H enc F)
theorem standIns : (Tryd.f4.params.toList.all fun t => !Tryd.prog.wantsStandIn t) = true := by kernel_rfl
theorem plain (f : FuncId) (fn : Func) (hf : Tryd.pinned.checked.prog.funcNamed "loop.example/g01005/laws.FnExactMatrixText" = some f) (hfn : Tryd.pinned.checked.prog.funcs[f]? = some fn) :
    true = Tryd.pinned.checked.prog.looks [] ∧ ∀ (j : Nat) t, fn.params[j]? = some t → Tryd.pinned.checked.prog.wantsStandIn t = false := by
  obtain rfl : f = 4 := Option.some.inj ((show Tryd.prog.funcNamed "loop.example/g01005/laws.FnExactMatrixText" = some 4 by kernel_rfl).symm.trans hf) |>.symm
  obtain rfl : fn = Tryd.f4 := (Option.some.inj (Tryd.func4.symm.trans hfn)).symm
  refine ⟨by kernel_rfl, fun j t ht => ?_⟩
  have h := List.all_eq_true.mp standIns t (Array.mem_toList_iff.mpr (Array.mem_of_getElem? ht))
  exact (show Tryd.prog.wantsStandIn t = false by simpa using h)
theorem card : Rows.FnExactMatrixTextCardSaid :=
  Claim7.holds_tied_plain_at .later [] _ _ _ _ said (fun _ h => by cases h) (by kernel_rfl) (fun _ h => by cases h) fnExactMatrixText_row_tie rfl ⟨rfl, rfl⟩ (by kernel_rfl) rfl plain (by kernel_rfl)
#print axioms card
end Go.Proofs.YtkndhjchlnepmaaDoor.fnExactMatrixText
namespace Go.Proofs.YtkndhjchlnepmaaDoor
theorem fnExactMatrixText_holds : Rows.FnExactMatrixTextCardSaid := fnExactMatrixText.card
end Go.Proofs.YtkndhjchlnepmaaDoor
end
