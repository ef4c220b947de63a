-- Texts of this claim, merged by packw.py (a program of this session's).
import Derived.Test.YtmbbjmkcbpefhaaQFnExactCertificate4
import Derived.Test.YtmbbjmkcbpefhaaQFnExactCertificate11
import Derived.Test.YtmbbjmkcbpefhaaQFnExactCertificate12
import Derived.KernelRfl
import Derived.Test.YtmbbjmkcbpefhaaQFnExactCertificate6
import Derived.Test.YtmbbjmkcbpefhaaQFnExactCertificate7
import Derived.Test.YtmbbjmkcbpefhaaQFnExactCertificate10
import Derived.SizedLaws
import Derived.ChangeSlices
import Derived.Test.YtmbbjmkcbpefhaaRows
import Derived.WalkKit
import Derived.ProofKit
import Derived.OpenShut
import Derived.ShutString
import Derived.ChangeOld
import Derived.Below
import Derived.Lib.SmallJoins
import Derived.Deep.Slices

section
set_option linter.unusedVariables false
set_option linter.unusedSimpArgs false
set_option linter.unusedSectionVars false
namespace Go.Proofs.Ytmbbjmkcbpefhaa.F
open Go.RowKit Go.Proofs.YtmbbjmkcbpefhaaW.PrintWords Go.Proofs.YtmbbjmkcbpefhaaW.PrintLast Go.Proofs.Ytmbbjmkcbpefhaa.Lin
def solRes (p r c : Int) (l b : List Int) : List Int × Int := if askOf p r c l b = 0 then (if (slvOf p c.toNat (augM r.toNat c.toNat l b)).2 = true then ((slvOf p c.toNat (augM r.toNat c.toNat l b)).1, 0) else ([], 3)) else ([], askOf p r c l b)
theorem slvOf_length (p : Int) (C : Nat) (aug : List (List Int)) : (slvOf p C aug).1.length ≤ C := by
  unfold slvOf
  split
  · simp
  · rw [sx_length]; exact Nat.le_refl _
theorem own_tells {l : List Int} (hl : l.length ≤ 35184372088) : spec_l00Own.f l = some l := by
  unfold spec_l00Own.f
  rw [Option.bind_some, List.length_nil, if_pos (by omega), List.nil_append]
theorem ask_zero {p r c : Int} {l b : List Int} (h : askOf p r c l b = 0) : matOk p r c l = true ∧ rhsOk r p b = true := by
  unfold askOf at h
  by_cases h1 : matOk p r c l = true
  · rw [if_pos h1] at h
    by_cases h2 : rhsOk r p b = true
    · exact ⟨h1, h2⟩
    · rw [if_neg h2] at h; omega
  · rw [if_neg h1] at h; omega
def crtRows (R C : Nat) (l b : List Int) : List (List Int) := colsM R C l ++ [b]
theorem crtRows_length (R C : Nat) (l b : List Int) : (crtRows R C l b).length = C + 1 := by unfold crtRows colsM; simp
theorem crtRows_ok {p : Int} {R C : Nat} {l b : List Int} (hv : ∀ j, 0 ≤ l.getD j 0 ∧ l.getD j 0 < p) (hbl : b.length = R) (hb : ∀ j, 0 ≤ b.getD j 0 ∧ b.getD j 0 < p) : RowsOk p R (crtRows R C l b) := by
  intro r hr
  unfold crtRows at hr
  rcases List.mem_append.mp hr with h | h
  · exact colsM_ok hv r h
  · obtain rfl : r = b := by simpa using h
    refine ⟨hbl, fun x hx => ?_⟩
    obtain ⟨j, hj, e⟩ := List.mem_iff_getElem.mp hx
    have := hb j
    rw [getD_at hj, e] at this
    exact this
def crtL (R C : Nat) (l b : List Int) : List Int := tab (C + 1) R (cell (crtRows R C l b))
def crtGoal (C : Nat) : List Int := (List.replicate (C + 1) 0).set C 1
theorem crtGoal_length (C : Nat) : (crtGoal C).length = C + 1 := by unfold crtGoal; simp
theorem crtGoal_ok {p : Int} (hp : 2 ≤ p) (C j : Nat) : 0 ≤ (crtGoal C).getD j 0 ∧ (crtGoal C).getD j 0 < p := by
  unfold crtGoal
  rw [List.getD_eq_getElem?_getD, List.getElem?_set]
  split
  · split
    · simp; omega
    · simp; omega
  · rw [List.getElem?_replicate]
    split
    · simp; omega
    · simp; omega
theorem crtL_ok {p : Int} (hp : 2 ≤ p) {R C : Nat} {l b : List Int} (hv : ∀ j, 0 ≤ l.getD j 0 ∧ l.getD j 0 < p) (hbl : b.length = R) (hb : ∀ j, 0 ≤ b.getD j 0 ∧ b.getD j 0 < p) (j : Nat) : 0 ≤ (crtL R C l b).getD j 0 ∧ (crtL R C l b).getD j 0 < p :=
  okTab hp (fun i k _ _ => rangeC hp (crtRows_ok hv hbl hb) i k) j
def crtAug (R C : Nat) (l b : List Int) : List (List Int) := augM (C + 1) R (crtL R C l b) (crtGoal C)
section
variable {p : Int} {R C : Nat} {l b : List Int}
theorem implCrt_tells (hp : isP p = true) (hR : R ≤ 32) (hC : C ≤ 32) (hl : l.length = R * C) (hv : ∀ j, 0 ≤ l.getD j 0 ∧ l.getD j 0 < p) (hbl : b.length = R) (hb : ∀ j, 0 ≤ b.getD j 0 ∧ b.getD j 0 < p) {k : Nat} (hk : 17000 ≤ k) :
    impl_certificate.f k p R C l b = some (slvOf p R (crtAug R C l b)) := by
  have h2 := isP_ge hp
  have h3 := crtRows_length R C l b
  have h4 : (colsM R C l).length = C := by unfold colsM; simp
  unfold impl_certificate.f
  rw [implCols_tells p hR hC hl (by omega), Option.bind_some, if_pos (by omega), Option.bind_some, show colsM R C l ++ [b] = crtRows R C l b from rfl, if_pos (by omega), if_pos (by omega), Option.bind_some, h3]
  rw [show wrap64 (((C + 1 : Nat) : Int) - 1) = (C : Int) by rw [w64_idV (by omega) (by omega)]; omega, if_pos (by omega), if_pos (by simp; omega), Int.toNat_natCast, Int.toNat_natCast, matrixOf_tells (q := p) (R : Int) (crtRows_ok hv hbl hb) (by omega) (by omega) (by omega), Option.bind_some, h3]
  dsimp only
  have e := implSolve_tells hp (R := C + 1) (C := R) (l := crtL R C l b) (b := crtGoal C) (by omega) (by omega) (by unfold crtL; rw [tab_length]) (crtL_ok h2.1 hv hbl hb) (crtGoal_length C) (crtGoal_ok h2.1 C) (k := k) (by omega)
  unfold crtL crtGoal at e
  rw [e, Option.bind_some]
  rfl
theorem specCrt_tells (hp : isP p = true) (hR : R ≤ 32) (hC : C ≤ 32) (hl : l.length = R * C) (hv : ∀ j, 0 ≤ l.getD j 0 ∧ l.getD j 0 < p) (hbl : b.length = R) (hb : ∀ j, 0 ≤ b.getD j 0 ∧ b.getD j 0 < p) {k : Nat} (hk : 2000000 ≤ k) :
    spec_l04Against.f k p R C l b = some (slvOf p R (crtAug R C l b)) := by
  have h2 := isP_ge hp
  have h3 := crtRows_length R C l b
  have h4 : (colsM R C l).length = C := by unfold colsM; simp
  unfold spec_l04Against.f
  rw [specCols_tells (p := p) hR hC hl (by omega), Option.bind_some, if_pos (by omega), Option.bind_some, show colsM R C l ++ [b] = crtRows R C l b from rfl, l04Rows_tells (by omega) (crtRows_ok hv hbl hb) (by omega) (by omega), Option.bind_some, if_pos (by omega), if_pos (by omega), Option.bind_some, h3]
  rw [show wrap64 (((C + 1 : Nat) : Int) - 1) = (C : Int) by rw [w64_idV (by omega) (by omega)]; omega, if_pos (by omega), if_pos (by simp; omega), Int.toNat_natCast, Int.toNat_natCast, flatten_rows (crtRows_ok hv hbl hb), h3]
  dsimp only
  have e := specSolve_tells hp (R := C + 1) (C := R) (l := crtL R C l b) (b := crtGoal C) (by omega) (by omega) (by unfold crtL; rw [tab_length]) (crtL_ok h2.1 hv hbl hb) (crtGoal_length C) (crtGoal_ok h2.1 C) (k := k) (by omega)
  unfold crtL crtGoal at e
  rw [e, Option.bind_some]
  rfl
end
def crtRes (p r c : Int) (l b : List Int) : List Int × Int := if askOf p r c l b = 0 then (if (slvOf p r.toNat (crtAug r.toNat c.toNat l b)).2 = true then ((slvOf p r.toNat (crtAug r.toNat c.toNat l b)).1, 0) else ([], 3)) else ([], askOf p r c l b)
theorem implCertM (p r c : Int) {l b : List Int} {k : Nat} (hk : 17000 ≤ k) : impl_Certificate.f k p r c l b = some (crtRes p r c l b) := by
  unfold impl_Certificate.f crtRes
  rw [rightSide_tells p r c (by omega), Option.bind_some]
  by_cases h : askOf p r c l b = 0
  · obtain ⟨h1, h2⟩ := ask_zero h
    obtain ⟨R, C, rfl, rfl, hR, hC, hl, hv, hbl, hb⟩ := ask_dims h1 h2
    rw [if_pos h, if_pos h, implCrt_tells (matOk_iff.mp h1).1 hR hC hl hv hbl hb hk, Option.bind_some, Int.toNat_natCast, Int.toNat_natCast]
    by_cases e : (slvOf p R (crtAug R C l b)).2 = true
    · rw [if_pos e, if_pos e]
    · rw [if_neg e, if_neg e]
  · rw [if_neg h, if_neg h]
theorem specCertM (p r c : Int) {l b : List Int} (hl : l.length ≤ 1048576) (hb : b.length ≤ 1048576) {k : Nat} (hk : 2000000 ≤ k) : spec_Certificate.f k p r c l b = some (crtRes p r c l b) := by
  unfold spec_Certificate.f crtRes
  rw [ask_tells p r c hl hb hk, Option.bind_some]
  by_cases h : askOf p r c l b = 0
  · obtain ⟨h1, h2⟩ := ask_zero h
    obtain ⟨R, C, rfl, rfl, hR, hC, hl, hv, hbl, hb⟩ := ask_dims h1 h2
    have hs := slvOf_length p R (crtAug R C l b)
    rw [if_pos h, if_pos h, specCrt_tells (matOk_iff.mp h1).1 hR hC hl hv hbl hb (by omega), Option.bind_some, Int.toNat_natCast, Int.toNat_natCast]
    by_cases e : (slvOf p R (crtAug R C l b)).2 = true
    · rw [if_pos e, if_pos e, own_tells (by omega), Option.bind_some]
    · rw [if_neg e, if_neg e]
  · rw [if_neg h, if_neg h]
theorem crtRes_length (p r c : Int) (l b : List Int) : (crtRes p r c l b).1.length ≤ 1000 := by
  unfold crtRes
  split
  · rename_i h
    obtain ⟨h1, h2⟩ := ask_zero h
    obtain ⟨R, C, rfl, rfl, hR, hC, hl, hv, hbl, hb⟩ := ask_dims h1 h2
    have hs := slvOf_length p R (crtAug R C l b)
    simp only [Int.toNat_natCast]
    split
    · show (slvOf p R (crtAug R C l b)).1.length ≤ 1000; omega
    · simp
  · simp
end Go.Proofs.Ytmbbjmkcbpefhaa.F
end

section
/- Both functions refuse the same matrices and right sides, and both eliminations of the turned system answer the same: a row that shows that nothing solves, or that there is none; what is returned lies in memory of its own, what was passed in stays as it is, and a second call answers the same. -/
set_option linter.unusedVariables false
set_option linter.unusedSimpArgs false
set_option linter.unusedSectionVars false
namespace Go.Proofs.Ytmbbjmkcbpefhaa.F
open Go.RowKit Go.Proofs.YtmbbjmkcbpefhaaW.PrintWords Go.Proofs.YtmbbjmkcbpefhaaW.PrintLast Go.Proofs.Ytmbbjmkcbpefhaa.Lin
theorem FnExactCertificate_pure : laws_FnExactCertificate.Pure := by
  intro p r c l b _ _ _ hm _ hbm _ _
  by_cases hbl : b.length ≤ 1048576
  · by_cases hl : l.length ≤ 1048576
    · have ho := crtRes_length p r c l b
      obtain ⟨B, hB⟩ : ∃ B, B = l.length + b.length + 2000000 := ⟨_, rfl⟩
      have c1 : ∀ k, B ≤ k → laws_toMatrix.f k p r c l = some (p, r, c, l) := fun k hk => toMatrix_tells p r c (by omega) (by omega)
      have c2 : ∀ k, B ≤ k → laws_toInt64S.f k b = some b := fun k hk => copy_tells (by omega) (by omega)
      have c3 : ∀ k, B ≤ k → spec_Certificate.f k p r c l b = some (crtRes p r c l b) := fun k hk => specCertM p r c hl hbl (by omega)
      have c4 : ∀ k, B ≤ k → impl_Certificate.f k p r c l b = some (crtRes p r c l b) := fun k hk => implCertM p r c (by omega)
      generalize crtRes p r c l b = o at *
      obtain ⟨x, code⟩ := o
      dsimp only at ho
      have c5 : ∀ k, B ≤ k → laws_eqMatrix.f k p r c l p r c l = some true := fun k hk => eqMatrix_tells (by omega) (by omega)
      have c6 : ∀ k, B ≤ k → laws_eqInt64S.f k x x = some true := fun k hk => by rw [eq_tells (by omega) (by omega)]; simp
      have c7 : ∀ k, B ≤ k → laws_eqInt64S.f k b b = some true := fun k hk => by rw [eq_tells (by omega) (by omega)]; simp
      have c8 : ∀ k, B ≤ k → laws_markMatrix.f k p r c l 1 = some (1 + (l.length : Int), iota 1 l.length) := fun k hk => markMatrix_tells (by omega) (by omega)
      have d1 : ∀ k, B ≤ k → laws_markInt64S.f k b (1 + (l.length : Int)) = some (1 + (l.length : Int) + (b.length : Int), iota (1 + (l.length : Int)) b.length) := fun k hk => mark_tells (by omega) (by omega) (by omega) (by omega)
      have d2 : ∀ k, B ≤ k → laws_markInt64S.f k x 1 = some (1 + (x.length : Int), iota 1 x.length) := fun k hk => mark_tells (by omega) (by omega) (by omega) (by omega)
      have d3 : ∀ k, B ≤ k → laws_heldInt64S.f k (iota 1 x.length) 1 = some (1 + (x.length : Int)) := fun k hk => held_tells (by omega) (by omega) (by omega) (by omega)
      have n0 : ¬ ((b.length : Int) > 1048576) := by omega
      have n1 : ¬ (1048576 - (l.length : Int) < 0) := by omega
      have n2 : ¬ (1 + (l.length : Int) + (b.length : Int) < 0) := by omega
      have n3 : ¬ (1 + (x.length : Int) < 0) := by omega
      refine ⟨B + 1 + 1 + 1, ?_⟩
      unfold laws_FnExactCertificate.f
      rw [if_neg n0, szMatrix_tells p r c hm, if_pos hl]
      simp (disch := omega) only [Option.bind_some, if_true, if_false, bne_self_eq_false, Bool.false_eq_true, c1, c2, c3, c4, c5, c6, c7, c8, d1, d2, d3, n1, n2, n3]
      simp only [laws_FnExactCertificate.j0]
      simp (disch := omega) only [Option.bind_some, if_true, if_false, bne_self_eq_false, Bool.false_eq_true, c1, c2, c3, c4, c5, c6, c7, c8, d1, d2, d3, n1, n2, n3]
      simp only [laws_FnExactCertificate.j1]
      simp (disch := omega) only [Option.bind_some, if_true, if_false, bne_self_eq_false, Bool.false_eq_true, c1, c2, c3, c4, c5, c6, c7, c8, d1, d2, d3, n1, n2, n3]
      simp only [laws_FnExactCertificate.j2]
      simp (disch := omega) only [Option.bind_some, if_true, if_false, bne_self_eq_false, Bool.false_eq_true, c1, c2, c3, c4, c5, c6, c7, c8, d1, d2, d3, n1, n2, n3]
    · refine ⟨0, ?_⟩
      unfold laws_FnExactCertificate.f
      rw [if_neg (by omega), szMatrix_tells p r c hm, if_neg hl]
      rfl
  · refine ⟨0, ?_⟩
    unfold laws_FnExactCertificate.f
    rw [if_pos (by omega)]
end Go.Proofs.Ytmbbjmkcbpefhaa.F
namespace Go.Proofs.Ytmbbjmkcbpefhaa.Pure
theorem FnExactCertificate : F.laws_FnExactCertificate.Pure := F.FnExactCertificate_pure
end Go.Proofs.Ytmbbjmkcbpefhaa.Pure
end

section
-- PRINTED BY print.sh 35421559b90ae4d0a3588c463048766b98c2df88dd9212a6774a882060cdf62d: not written by this session
-- PRINTED WORDS (module Derived/Print/Sized.lean): go-gate-2's, for the rows of laws over slices: an AI agent of Go's test side, Tue Nov 17 2026; no person has read it. Lean checks it.
namespace Go.Proofs.YtmbbjmkcbpefhaaW.PrintWords
open Go.ChangeShapes Go.WideShapes
theorem sized_ints {H : Type} {enc : TypeId × Value → H} {P : Program} {W : World} {base : Nat} {spare : Nat → Bool} {held : Bool} {t e : TypeId} {k : IntKind} {a : Option Addr} {len cap : Nat} {d : DataW H} {ps : List MemPlace} {ts : List TypeId} {ds : List (DataW H)} {j : Nat}
    (hsz : (DataW.weightsEach P ts ds).all (· ≤ reachBytes) = true) (ht : ts[j]? = some t) (hd : ds[j]? = some d) (hu : P.underlying t = some (.slice e)) (he : P.underlying e = some (.int k)) (hc : P.cellsOf e = 1) {B : Nat} (hB : P.bytesOf e = B)
    (h : DataW.Trod enc P W base spare held t (.slice a len cap) d ps) : len * B ≤ 140737488351232 := by
  obtain ⟨fuel, hf⟩ := h
  rcases open_ints hu he hc hf with ⟨hcs, _⟩ | ⟨x, l, c, zs, hcs, _, hl, _, hz, hx, _, _⟩
  · simp [Value.cells] at hcs
    obtain ⟨rfl, rfl, rfl⟩ := hcs
    simp
  · simp [Value.cells] at hcs
    obtain ⟨rfl, rfl, rfl⟩ := hcs
    obtain ⟨hx, _⟩ := Prod.mk.inj hx
    subst hx
    have z := sized_slice hsz ht hd hu
    rw [hB] at z
    have hl2 : len ≤ zs.length := by
      rw [hz]
      split
      · exact hl
      · exact Nat.le_refl _
    have h1 : (lits (H := H) k (zs.take len)).length + (lits (H := H) k (zs.drop len)).length = zs.length := by
      simp [lits]
      omega
    rw [h1] at z
    exact Nat.le_trans (Nat.mul_le_mul_right _ hl2) z
end Go.Proofs.YtmbbjmkcbpefhaaW.PrintWords
end

section
namespace Go.Proofs.Ytmbbjmkcbpefhaa.fnExactCertificate
open Go.ChangeShapes Go.WideShapes Go.ChangeAt Go.RowKit Go.Joins
open Go.ChangeMaps (open_string shut_string)
set_option linter.unusedVariables false
theorem own : ownKnob Try.prog.godebug = none := by kernel_rfl
theorem laidOut : laidOutB Try.prog = true := by kernel_rfl
def IsRow (k : IntKind) (w : World) (a : Option Addr) (len cap : Nat) (zs : List Int) : Prop :=
  (a = none ∧ len = 0 ∧ cap = 0 ∧ zs = []) ∨
  ∃ x, a = some x ∧ len ≤ cap ∧ cap ≤ maxLen ∧ zs.length = cap ∧ (∀ i, i < zs.length → w.cell? (x.add i) = some (.int k (zs.getD i 0))) ∧ ∀ n ∈ zs, (Lit.int k n).wf = true
theorem row_of {H : Type} {enc : TypeId × Value → H} {P : Program} {W : World} {n : Nat} {t e : TypeId} {k : IntKind} {v : Value} {y : DataW H × List MemPlace} (hs : P.underlying t = some (.slice e)) (hi : P.underlying e = some (.int k)) (hc : P.cellsOf e = 1)
    (hf : DataW.trod enc P W 0 (fun _ => true) true n t [v] = some y) : ∃ a len cap zs, v = .slice a len cap ∧ IsRow k W a len cap zs := by
  rcases open_ints hs hi hc hf with ⟨hcs, _⟩ | ⟨x, l, c, zs, hcs, _, hl, hm, hz, _, hcell, hwz⟩
  · simp at hcs
    exact ⟨_, _, _, [], hcs, .inl ⟨rfl, rfl, rfl, rfl⟩⟩
  · simp at hcs
    exact ⟨_, _, _, zs, hcs, .inr ⟨_, rfl, hl, hm, by simpa using hz, hcell, hwz⟩⟩
set_option maxRecDepth 100000 in
theorem lifted (os : Os) (started : os.Started) (H : Type) (enc : TypeId × Value → H) :
    ReturnsInHanded {} Try.checked os 5 .any (Rows.fnExactCertificateSpec.pre6 enc Try.prog Try.f5 Rows.fnExactCertificateRow.domain false) (Rows.fnExactCertificateSpec.post enc Try.prog Try.f5 false true false false) := by
  refine returnsInHanded_of_change_sized (C := Try.checked) own started (by kernel_rfl) Try.func5
    (ChangeSpec.witness6 (enc := enc) (C := Try.checked) false ⟨#[], #[.agg #[.int .i64 0, .int .i64 0, .int .i64 0, .slice none 0 0], .slice none 0 0], []⟩ 8 (by kernel_rfl) (by kernel_rfl) (by kernel_rfl) (by kernel_rfl)) ?_
  intro W base args ds gs before hval0 hW hcnd hsz0 _
  have hsz : (DataW.weightsEach Try.prog (Try.f5.params.toList ++ Rows.fnExactCertificateSpec.plain.varTypes Try.prog) (ds ++ gs)).all (· ≤ reachBytes) = true := hsz0
  have hval : ∀ (j : Nat) t v, Try.f5.params[j]? = some t → args[j]? = some v → Value.okWide Try.prog W .any base t v := hval0
  have hW' := hW
  obtain ⟨p, q, hA0, hV, rfl, hfz, hnd⟩ := hW
  have hA : DataW.TrodAll enc Try.prog W 0 (fun _ => true) true Try.f5.params.toList args.toList ds p := hA0
  rw [Try.params5] at hA hval hsz
  obtain ⟨v0, vs0, d0, ds0, p0, q0, hargs, rfl, rfl, h0, r0⟩ := trodAll_cons hA
  obtain ⟨v1, vs1, d1, ds1, p1, q1, rfl, rfl, rfl, h1, r1⟩ := trodAll_cons r0
  obtain ⟨rfl, rfl, rfl⟩ := trodAll_nil r1
  obtain rfl : args = #[v0, v1] := by cases args; simp_all
  obtain ⟨rfl, rfl⟩ := trodVars_none hV
  have k0 := h0
  have lt0 : ∀ x ∈ p0, x.block < W.heap.size := by obtain ⟨m, hm⟩ := k0; exact DataW.trod_lt m _ _ _ hm
  obtain ⟨c0_0, c0_1, c0_2, c0_3, y0_0, y0_1, y0_2, y0_3, m0, rfl, _, _, g0_0, g0_1, g0_2, g0_3⟩ := open_agg4 Try.underlying24 (by kernel_rfl) (show Try.prog.cellsOf 24 = 4 by kernel_rfl) (hval 0 24 v0 rfl rfl) h0
  obtain ⟨a0_0, e0_0, _, w0_0⟩ := DataW.trod_int Try.underlying2 g0_0
  simp at e0_0
  subst e0_0
  obtain ⟨a0_1, e0_1, _, w0_1⟩ := DataW.trod_int Try.underlying2 g0_1
  simp at e0_1
  subst e0_1
  obtain ⟨a0_2, e0_2, _, w0_2⟩ := DataW.trod_int Try.underlying2 g0_2
  simp at e0_2
  subst e0_2
  obtain ⟨a0_3, len0_3, cap0_3, z0_3, rfl, w0_3⟩ := row_of Try.underlying22 Try.underlying2 (by kernel_rfl) g0_3
  obtain ⟨a1, len1, cap1, rfl⟩ := okWide_slice Try.underlying22 (hval 1 22 v1 rfl rfl)
  have k1 := h1
  have lt1 : ∀ x ∈ p1, x.block < W.heap.size := by obtain ⟨m, hm⟩ := k1; exact DataW.trod_lt m _ _ _ hm
  have y1 : len1 * 8 ≤ 140737488351232 := Go.Proofs.YtmbbjmkcbpefhaaW.PrintWords.sized_ints hsz (j := 1) (t := 22) rfl rfl Try.underlying22 Try.underlying2 (by kernel_rfl) (by kernel_rfl) h1
  obtain ⟨z1, w1⟩ : ∃ zs, IsRow .i64 W a1 len1 cap1 zs := by
    obtain ⟨fuel, hf⟩ := h1
    obtain ⟨a, l, c, zs, e, hz⟩ := row_of (v := .slice a1 len1 cap1) Try.underlying22 Try.underlying2 (by kernel_rfl) hf
    cases e
    exact ⟨zs, hz⟩
  clear hA0 hval0 hsz0 hsz
  refine (F.laws_FnExactCertificate.walk Pure.FnExactCertificate a0_0 a0_1 a0_2 a0_3 len0_3 cap0_3 z0_3 a1 len1 cap1 z1 W w0_0 w0_1 w0_2 w0_3 w1 y1).mono fun e W' ⟨he, bel⟩ => ?_
  subst he
  exact ⟨_, rfl, _, _, _, [], _, [], hW', trodAll_mk1 (shut_bool Try.underlying4 _), (trodAll_cons_mk (Below.trod laidOut (by kernel_rfl) (of_decide_eq_true (by kernel_rfl)) k0 bel lt0) (trodAll_cons_mk (Below.trod laidOut (by kernel_rfl) (of_decide_eq_true (by kernel_rfl)) k1 bel lt1) trodAll_mk0)), rfl, bel.frame _, fun h => by cases h⟩
theorem over : Rows.fnExactCertificateRow.holds Try.pinned (OpenSpec.ofChange Rows.fnExactCertificateSpec) :=
  OpenClaim.holds_of_wide 5 Try.f5 rfl rfl rfl rfl rfl rfl rfl ⟨rfl, rfl, rfl, rfl, rfl⟩ rfl rfl rfl rfl rfl (by kernel_rfl) Try.func5 (by kernel_rfl)
    (of_decide_eq_true (by kernel_rfl)) (by unfold Func.isWrapper; first | (rw [if_pos (by decide +kernel)]; kernel_rfl) | (rw [if_neg (by decide +kernel)]; exact ⟨rfl, rfl⟩))
    (fun os started H enc _ => lifted os started H enc)
theorem proved : Rows.FnExactCertificateSaid := over
#print axioms proved
end Go.Proofs.Ytmbbjmkcbpefhaa.fnExactCertificate
namespace Go.Proofs.Ytmbbjmkcbpefhaa
theorem fnExactCertificate_holds : Rows.FnExactCertificateSaid := fnExactCertificate.proved
end Go.Proofs.Ytmbbjmkcbpefhaa
end
