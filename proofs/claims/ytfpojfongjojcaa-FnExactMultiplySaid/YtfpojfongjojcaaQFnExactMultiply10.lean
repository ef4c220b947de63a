-- Texts of this claim, merged by pack.py (a program of this session's).
import Derived.Test.YtfpojfongjojcaaQFnExactMultiply2
import Derived.Test.YtfpojfongjojcaaQFnExactMultiply5
import Derived.Test.YtfpojfongjojcaaQFnExactMultiply8
import Derived.Test.YtfpojfongjojcaaQFnExactMultiply7
import Derived.Test.YtfpojfongjojcaaQFnExactMultiply9
import Derived.KernelRfl
import Derived.Test.YtfpojfongjojcaaRows
import Derived.WalkKit
import Derived.ProofKit
import Derived.OpenShut
import Derived.ShutString
import Derived.ChangeOld
import Derived.Below
import Derived.SizedLaws
import Derived.Lib.SmallJoins
import Derived.Test.YtfpojfongjojcaaWSized

section
/- Both functions refuse the same pairs of matrices and return the same product, in memory of its own; the matrices stay as they are. -/
set_option linter.unusedVariables false
set_option linter.unusedSimpArgs false
set_option linter.unusedSectionVars false
namespace Go.Proofs.Ytfpojfongjojcaa.F
open Go.RowKit Go.Proofs.YtfpojfongjojcaaW.PrintWords Go.Proofs.YtfpojfongjojcaaW.PrintLast Go.Proofs.Ytfpojfongjojcaa.Lin

theorem FnExactMultiply_pure : laws_FnExactMultiply.Pure := by
  intro p r c a p' r' c' b _ _ _ hm _ _ _ _ hm' _
  by_cases hl : a.length ≤ 1048576
  · by_cases hl' : b.length ≤ 1048576 - a.length
    · have ho := mulOut_length p r c p' r' c' a b
      obtain ⟨B, hB⟩ : ∃ B, B = a.length + b.length + 400000 := ⟨_, rfl⟩
      have c1 : ∀ k, B ≤ k → laws_toMatrix.f k p r c a = some (p, r, c, a) := fun k hk => toMatrix_tells p r c (by omega) (by omega)
      have c1' : ∀ k, B ≤ k → laws_toMatrix.f k p' r' c' b = some (p', r', c', b) := fun k hk => toMatrix_tells p' r' c' (by omega) (by omega)
      have c2 : ∀ k, B ≤ k → spec_Multiply.f k p r c a p' r' c' b = some (mulOut p r c a p' r' c' b) := fun k hk => spec_mulM p r c p' r' c' (by omega) (by omega) (by omega)
      have c3 : ∀ k, B ≤ k → impl_Multiply.f k p r c a p' r' c' b = some (mulOut p r c a p' r' c' b) := fun k hk => impl_mulM p r c p' r' c' (by omega)
      generalize mulOut p r c a p' r' c' b = o at *
      obtain ⟨o1, o2, o3, o, code⟩ := o
      dsimp only at ho
      have c4 : ∀ k, B ≤ k → laws_eqMatrix.f k p r c a p r c a = some true := fun k hk => eqMatrix_tells (by omega) (by omega)
      have c4' : ∀ k, B ≤ k → laws_eqMatrix.f k p' r' c' b p' r' c' b = some true := fun k hk => eqMatrix_tells (by omega) (by omega)
      have c5 : ∀ k, B ≤ k → laws_eqMatrix.f k o1 o2 o3 o o1 o2 o3 o = some true := fun k hk => eqMatrix_tells (by omega) (by omega)
      have c6 : ∀ k, B ≤ k → laws_markMatrix.f k p r c a 1 = some (1 + (a.length : Int), iota 1 a.length) := fun k hk => markMatrix_tells (by omega) (by omega)
      have c6' : ∀ k, B ≤ k → laws_markMatrix.f k p' r' c' b (1 + (a.length : Int)) = some (1 + (a.length : Int) + (b.length : Int), iota (1 + (a.length : Int)) b.length) := fun k hk => markMatrix_at (by omega) (by omega) (by omega) (by omega)
      have c7 : ∀ k, B ≤ k → laws_markMatrix.f k o1 o2 o3 o 1 = some (1 + (o.length : Int), iota 1 o.length) := fun k hk => markMatrix_tells (by omega) (by omega)
      have c8 : ∀ k, B ≤ k → laws_heldMatrix.f k o1 o2 o3 (iota 1 o.length) 1 = some (1 + (o.length : Int)) := fun k hk => heldMatrix_tells (by omega) (by omega)
      have n0 : ¬ (1048576 - (a.length : Int) < 0) := by omega
      have n0' : ¬ (1048576 - (a.length : Int) - (b.length : Int) < 0) := by omega
      have n1 : ¬ (1 + (a.length : Int) + (b.length : Int) < 0) := by omega
      have n2 : ¬ (1 + (o.length : Int) < 0) := by omega
      have z1 : laws_szMatrix.f p r c a 1048576 = some (1048576 - (a.length : Int)) := by rw [szMatrix_tells p r c hm, if_pos hl]
      have z2 : laws_szMatrix.f p' r' c' b (1048576 - (a.length : Int)) = some (1048576 - (a.length : Int) - (b.length : Int)) := by rw [szMatrix_at p' r' c' hm' (by omega) (by omega), if_pos (by omega)]
      refine ⟨B + 1 + 1 + 1, ?_⟩
      unfold laws_FnExactMultiply.f
      simp (disch := omega) only [z1, z2, Option.bind_some, if_true, if_false, bne_self_eq_false, Bool.false_eq_true, c1, c1', c2, c3, c4, c4', c5, c6, c6', c7, c8, n0, n0', n1, n2]
      simp only [laws_FnExactMultiply.j0]
      simp (disch := omega) only [Option.bind_some, if_true, if_false, bne_self_eq_false, Bool.false_eq_true, c1, c1', c2, c3, c4, c4', c5, c6, c6', c7, c8, n0, n0', n1, n2]
      simp only [laws_FnExactMultiply.j1]
      simp (disch := omega) only [Option.bind_some, if_true, if_false, bne_self_eq_false, Bool.false_eq_true, c1, c1', c2, c3, c4, c4', c5, c6, c6', c7, c8, n0, n0', n1, n2]
      simp only [laws_FnExactMultiply.j2]
      simp (disch := omega) only [Option.bind_some, if_true, if_false, bne_self_eq_false, Bool.false_eq_true, c1, c1', c2, c3, c4, c4', c5, c6, c6', c7, c8, n0, n0', n1, n2]
    · refine ⟨0, ?_⟩
      unfold laws_FnExactMultiply.f
      have n0 : ¬ (1048576 - (a.length : Int) < 0) := by omega
      rw [szMatrix_tells p r c hm, if_pos hl]
      simp only [Option.bind_some, n0, if_false]
      rw [szMatrix_at p' r' c' hm' (by omega) (by omega), if_neg (by omega)]
      rfl
  · refine ⟨0, ?_⟩
    unfold laws_FnExactMultiply.f
    rw [szMatrix_tells p r c hm, if_neg hl]
    rfl
end Go.Proofs.Ytfpojfongjojcaa.F
namespace Go.Proofs.Ytfpojfongjojcaa.Pure
theorem FnExactMultiply : F.laws_FnExactMultiply.Pure := F.FnExactMultiply_pure
end Go.Proofs.Ytfpojfongjojcaa.Pure
end

section
namespace Go.Proofs.Ytfpojfongjojcaa.fnExactMultiply
open Go.ChangeShapes Go.WideShapes Go.ChangeAt Go.RowKit Go.Joins
open Go.ChangeMaps (open_string shut_string)
set_option linter.unusedVariables false
theorem own : ownKnob Try.prog.godebug = none := by kernel_rfl
theorem laidOut : laidOutB Try.prog = true := by kernel_rfl
/-- A slice's row of whole numbers in memory. -/
def IsRow (k : IntKind) (w : World) (a : Option Addr) (len cap : Nat) (zs : List Int) : Prop :=
  (a = none ∧ len = 0 ∧ cap = 0 ∧ zs = []) ∨
  ∃ x, a = some x ∧ len ≤ cap ∧ cap ≤ maxLen ∧ zs.length = cap ∧ (∀ i, i < zs.length → w.cell? (x.add i) = some (.int k (zs.getD i 0))) ∧ ∀ n ∈ zs, (Lit.int k n).wf = true
/-- A cell that reads as a slice of whole numbers holds one. -/
theorem row_of {H : Type} {enc : TypeId × Value → H} {P : Program} {W : World} {n : Nat} {t e : TypeId} {k : IntKind} {v : Value} {y : DataW H × List MemPlace} (hs : P.underlying t = some (.slice e)) (hi : P.underlying e = some (.int k)) (hc : P.cellsOf e = 1)
    (hf : DataW.trod enc P W 0 (fun _ => true) true n t [v] = some y) : ∃ a len cap zs, v = .slice a len cap ∧ IsRow k W a len cap zs := by
  rcases open_ints hs hi hc hf with ⟨hcs, _⟩ | ⟨x, l, c, zs, hcs, _, hl, hm, hz, _, hcell, hwz⟩
  · simp at hcs
    exact ⟨_, _, _, [], hcs, .inl ⟨rfl, rfl, rfl, rfl⟩⟩
  · simp at hcs
    exact ⟨_, _, _, zs, hcs, .inr ⟨_, rfl, hl, hm, by simpa using hz, hcell, hwz⟩⟩
set_option maxRecDepth 100000 in
theorem lifted (os : Os) (started : os.Started) (H : Type) (enc : TypeId × Value → H) :
    ReturnsInHanded {} Try.checked os 3 .any (Rows.fnExactMultiplySpec.pre6 enc Try.prog Try.f3 Rows.fnExactMultiplyRow.domain false) (Rows.fnExactMultiplySpec.post enc Try.prog Try.f3 false true false false) := by
  refine returnsInHanded_of_change_sized (C := Try.checked) own started (by kernel_rfl) Try.func3
    (ChangeSpec.witness6 (enc := enc) (C := Try.checked) false ⟨#[], #[.agg #[.int .i64 0, .int .i64 0, .int .i64 0, .slice none 0 0], .agg #[.int .i64 0, .int .i64 0, .int .i64 0, .slice none 0 0]], []⟩ 8 (by kernel_rfl) (by kernel_rfl) (by kernel_rfl) (by kernel_rfl)) ?_
  intro W base args ds gs before hval0 hW hcnd hsz0 _
  have hsz : (DataW.weightsEach Try.prog (Try.f3.params.toList ++ Rows.fnExactMultiplySpec.plain.varTypes Try.prog) (ds ++ gs)).all (· ≤ reachBytes) = true := hsz0
  have hval : ∀ (j : Nat) t v, Try.f3.params[j]? = some t → args[j]? = some v → Value.okWide Try.prog W .any base t v := hval0
  have hW' := hW
  obtain ⟨p, q, hA0, hV, rfl, hfz, hnd⟩ := hW
  have hA : DataW.TrodAll enc Try.prog W 0 (fun _ => true) true Try.f3.params.toList args.toList ds p := hA0
  rw [Try.params3] at hA hval hsz
  obtain ⟨v0, vs0, d0, ds0, p0, q0, hargs, rfl, rfl, h0, r0⟩ := trodAll_cons hA
  obtain ⟨v1, vs1, d1, ds1, p1, q1, rfl, rfl, rfl, h1, r1⟩ := trodAll_cons r0
  obtain ⟨rfl, rfl, rfl⟩ := trodAll_nil r1
  obtain rfl : args = #[v0, v1] := by cases args; simp_all
  obtain ⟨rfl, rfl⟩ := trodVars_none hV
  have k0 := h0
  have lt0 : ∀ x ∈ p0, x.block < W.heap.size := by obtain ⟨m, hm⟩ := k0; exact DataW.trod_lt m _ _ _ hm
  obtain ⟨c0_0, c0_1, c0_2, c0_3, y0_0, y0_1, y0_2, y0_3, m0, rfl, _, _, g0_0, g0_1, g0_2, g0_3⟩ := open_agg4 Try.underlying24 (by kernel_rfl) (show Try.prog.cellsOf 24 = 4 by kernel_rfl) (hval 0 24 v0 rfl rfl) h0
  obtain ⟨a0_0, e0_0, _, w0_0⟩ := DataW.trod_int Try.underlying2 g0_0
  simp at e0_0
  subst e0_0
  obtain ⟨a0_1, e0_1, _, w0_1⟩ := DataW.trod_int Try.underlying2 g0_1
  simp at e0_1
  subst e0_1
  obtain ⟨a0_2, e0_2, _, w0_2⟩ := DataW.trod_int Try.underlying2 g0_2
  simp at e0_2
  subst e0_2
  obtain ⟨a0_3, len0_3, cap0_3, z0_3, rfl, w0_3⟩ := row_of Try.underlying22 Try.underlying2 (by kernel_rfl) g0_3
  have k1 := h1
  have lt1 : ∀ x ∈ p1, x.block < W.heap.size := by obtain ⟨m, hm⟩ := k1; exact DataW.trod_lt m _ _ _ hm
  obtain ⟨c1_0, c1_1, c1_2, c1_3, y1_0, y1_1, y1_2, y1_3, m1, rfl, _, _, g1_0, g1_1, g1_2, g1_3⟩ := open_agg4 Try.underlying24 (by kernel_rfl) (show Try.prog.cellsOf 24 = 4 by kernel_rfl) (hval 1 24 v1 rfl rfl) h1
  obtain ⟨a1_0, e1_0, _, w1_0⟩ := DataW.trod_int Try.underlying2 g1_0
  simp at e1_0
  subst e1_0
  obtain ⟨a1_1, e1_1, _, w1_1⟩ := DataW.trod_int Try.underlying2 g1_1
  simp at e1_1
  subst e1_1
  obtain ⟨a1_2, e1_2, _, w1_2⟩ := DataW.trod_int Try.underlying2 g1_2
  simp at e1_2
  subst e1_2
  obtain ⟨a1_3, len1_3, cap1_3, z1_3, rfl, w1_3⟩ := row_of Try.underlying22 Try.underlying2 (by kernel_rfl) g1_3
  clear hA0 hval0 hsz0 hsz
  refine (F.laws_FnExactMultiply.walk Pure.FnExactMultiply a0_0 a0_1 a0_2 a0_3 len0_3 cap0_3 z0_3 a1_0 a1_1 a1_2 a1_3 len1_3 cap1_3 z1_3 W w0_0 w0_1 w0_2 w0_3 w1_0 w1_1 w1_2 w1_3).mono fun e W' ⟨he, bel⟩ => ?_
  subst he
  exact ⟨_, rfl, _, _, _, [], _, [], hW', trodAll_mk1 (shut_bool Try.underlying4 _), (trodAll_cons_mk (Below.trod laidOut (by kernel_rfl) (of_decide_eq_true (by kernel_rfl)) k0 bel lt0) (trodAll_cons_mk (Below.trod laidOut (by kernel_rfl) (of_decide_eq_true (by kernel_rfl)) k1 bel lt1) trodAll_mk0)), rfl, bel.frame _, fun h => by cases h⟩
theorem over : Rows.fnExactMultiplyRow.holds Try.pinned (OpenSpec.ofChange Rows.fnExactMultiplySpec) :=
  OpenClaim.holds_of_wide 3 Try.f3 rfl rfl rfl rfl rfl rfl rfl ⟨rfl, rfl, rfl, rfl, rfl⟩ rfl rfl rfl rfl rfl (by kernel_rfl) Try.func3 (by kernel_rfl)
    (of_decide_eq_true (by kernel_rfl)) (by unfold Func.isWrapper; first | (rw [if_pos (by decide +kernel)]; kernel_rfl) | (rw [if_neg (by decide +kernel)]; exact ⟨rfl, rfl⟩))
    (fun os started H enc _ => lifted os started H enc)
theorem proved : Rows.FnExactMultiplySaid := over
#print axioms proved
end Go.Proofs.Ytfpojfongjojcaa.fnExactMultiply
namespace Go.Proofs.Ytfpojfongjojcaa
/-- The row, under a short name, for the claim. -/
theorem fnExactMultiply_holds : Rows.FnExactMultiplySaid := fnExactMultiply.proved
end Go.Proofs.Ytfpojfongjojcaa
end
