-- Written by gprint.py, a program of this session's that drives the kit's print, for this claim. Not trusted: checked as any text.
import Derived.Test.YtnaheloeodmnpaaRows
import Derived.Test.YtnaheloeodmnpaaFx17
import Derived.Test.YtnaheloeodmnpaaPureFnExactSameSpace
import Derived.WalkKit
import Derived.ProofKit
import Derived.OpenShut
import Derived.ShutString
import Derived.ChangeOld
import Derived.Below
import Derived.SizedLaws
import Derived.Lib.SmallJoins
import Derived.Deep.Slices
import Derived.Test.YtnaheloeodmnpaaWSized
namespace Go.Proofs.Ytnaheloeodmnpaa.fnExactSameSpace
open Go.ChangeShapes Go.WideShapes Go.ChangeAt Go.RowKit Go.Joins
open Go.ChangeMaps (open_string shut_string)
set_option linter.unusedVariables false
theorem own : ownKnob Try.prog.godebug = none := by kernel_rfl
theorem laidOut : laidOutB Try.prog = true := by kernel_rfl
/-- A slice's row of whole numbers in memory. -/
def IsRow (k : IntKind) (w : World) (a : Option Addr) (len cap : Nat) (zs : List Int) : Prop :=
  (a = none ∧ len = 0 ∧ cap = 0 ∧ zs = []) ∨
  ∃ x, a = some x ∧ len ≤ cap ∧ cap ≤ maxLen ∧ zs.length = cap ∧ (∀ i, i < zs.length → w.cell? (x.add i) = some (.int k (zs.getD i 0))) ∧ ∀ n ∈ zs, (Lit.int k n).wf = true
/-- A cell that reads as a slice of whole numbers holds one. -/
theorem row_of {H : Type} {enc : TypeId × Value → H} {P : Program} {W : World} {n : Nat} {t e : TypeId} {k : IntKind} {v : Value} {y : DataW H × List MemPlace} (hs : P.underlying t = some (.slice e)) (hi : P.underlying e = some (.int k)) (hc : P.cellsOf e = 1)
    (hf : DataW.trod enc P W 0 (fun _ => true) true n t [v] = some y) : ∃ a len cap zs, v = .slice a len cap ∧ IsRow k W a len cap zs := by
  rcases open_ints hs hi hc hf with ⟨hcs, _⟩ | ⟨x, l, c, zs, hcs, _, hl, hm, hz, _, hcell, hwz⟩
  · simp at hcs
    exact ⟨_, _, _, [], hcs, .inl ⟨rfl, rfl, rfl, rfl⟩⟩
  · simp at hcs
    exact ⟨_, _, _, zs, hcs, .inr ⟨_, rfl, hl, hm, by simpa using hz, hcell, hwz⟩⟩
/-- A cell that reads as a slice of slices of whole numbers holds one. -/
theorem rows_of {H : Type} {enc : TypeId × Value → H} {P : Program} {W : World} {n : Nat} {t e e2 : TypeId} {k : IntKind} {v : Value} {y : DataW H × List MemPlace} (hs : P.underlying t = some (.slice e)) (hs2 : P.underlying e = some (.slice e2)) (hi : P.underlying e2 = some (.int k)) (hc : P.cellsOf e = 1) (hc2 : P.cellsOf e2 = 1)
    (hf : DataW.trod enc P W 0 (fun _ => true) true n t [v] = some y) : ∃ (a : Option Addr) (cap : Nat) (l : List (List Int)), v = .slice a l.length cap ∧ l.length ≤ cap ∧ l.length ≤ maxLen ∧ Go.Proofs.YtnaheloeodmnpaaW.PrintWords.Kd.C (Go.Proofs.YtnaheloeodmnpaaW.PrintWords.Kd.slice e2 (Go.Proofs.YtnaheloeodmnpaaW.PrintWords.Kd.int k)) W a l.length l ∧ ∀ r ∈ l, r.length ≤ maxLen ∧ ∀ x ∈ r, (Lit.int k x).wf = true := by
  rcases Go.Deep.open_slice1 hs hc hf with ⟨hcs, _⟩ | ⟨a, len, cap, m, n', V, D, Pl, hcs, _, hl, hm, hmm, _, hx⟩
  · simp at hcs
    exact ⟨none, 0, [], hcs, Nat.le_refl _, Nat.zero_le _, ⟨rfl, Nat.zero_le _, fun h => absurd h (Nat.lt_irrefl _)⟩, fun r hr => by cases hr⟩
  · simp at hcs
    have hle : len ≤ m := by rw [hmm]; split <;> omega
    obtain ⟨f, hf2⟩ := Go.Deep.choose_lt (α := List Int) (n := len) (p := fun i r => r.length ≤ maxLen ∧ (∀ x ∈ r, (Lit.int k x).wf = true) ∧ ∃ A c, V i = .slice A r.length c ∧ r.length ≤ c ∧ Go.Proofs.YtnaheloeodmnpaaW.PrintWords.ReadsInt W k A r.length r) (fun i hi' => by
      obtain ⟨a', len', cap', zs, e1, hz⟩ := row_of hs2 hi hc2 (hx i (Nat.lt_of_lt_of_le hi' hle)).2
      obtain ⟨r, rfl, h1, h2, h3, h4⟩ := Go.Proofs.YtnaheloeodmnpaaW.PrintWords.ReadsInt.ofRowC hz
      exact ⟨r, h2, h3, a', cap', e1, h4, h1⟩)
    refine ⟨some a, cap, (List.range len).map f, by simpa using hcs, by simpa using hl, by simp; omega, ⟨rfl, by simp; exact Nat.le_trans (Nat.le_trans hl hm) (by unfold maxLen; omega), fun _ => ⟨a, rfl, fun j p hj => ?_⟩⟩, fun r hr => ?_⟩
    · obtain ⟨hj', hp⟩ := List.getElem?_eq_some_iff.mp hj
      have hj2 : j < len := by simpa using hj'
      have hp' : f j = p := by simpa using hp
      subst hp'
      obtain ⟨_, _, A, c, hV, hlc, hR⟩ := hf2 j hj2
      refine ⟨[V j], rfl, ⟨A, c, by rw [hV], hlc, Go.Proofs.YtnaheloeodmnpaaW.PrintWords.Kd.C_of_reads (d := (0 : Int)) (h1 := fun _ => rfl) hR⟩, fun i u hu => ?_⟩
      cases i with
      | zero =>
        have : V j = u := by simpa using hu
        subst this
        have := (hx j (Nat.lt_of_lt_of_le hj2 hle)).1
        simpa [show (Go.Proofs.YtnaheloeodmnpaaW.PrintWords.Kd.slice e2 (Go.Proofs.YtnaheloeodmnpaaW.PrintWords.Kd.int k)).sz = 1 from rfl] using this
      | succ i => simp at hu
    · obtain ⟨j, hj, rfl⟩ := List.mem_map.mp hr
      have := hf2 j (List.mem_range.mp hj)
      exact ⟨this.1, this.2.1⟩
set_option maxRecDepth 100000 in
theorem lifted (os : Os) (started : os.Started) (H : Type) (enc : TypeId × Value → H) :
    ReturnsInHanded {} Try.checked os 3 .any (Rows.fnExactSameSpaceSpec.pre6 enc Try.prog Try.f3 Rows.fnExactSameSpaceRow.domain false) (Rows.fnExactSameSpaceSpec.post enc Try.prog Try.f3 false true false false) := by
  refine returnsInHanded_of_change_sized (C := Try.checked) own started (by kernel_rfl) Try.func3
    (ChangeSpec.witness6 (enc := enc) (C := Try.checked) false ⟨#[], #[.agg #[.int .i64 0, .int .i64 0, .slice none 0 0], .agg #[.int .i64 0, .int .i64 0, .slice none 0 0]], []⟩ 8 (by kernel_rfl) (by kernel_rfl) (by kernel_rfl) (by kernel_rfl)) ?_
  intro W base args ds gs before hval0 hW hcnd hsz0 _
  have hsz : (DataW.weightsEach Try.prog (Try.f3.params.toList ++ Rows.fnExactSameSpaceSpec.plain.varTypes Try.prog) (ds ++ gs)).all (· ≤ reachBytes) = true := hsz0
  have hval : ∀ (j : Nat) t v, Try.f3.params[j]? = some t → args[j]? = some v → Value.okWide Try.prog W .any base t v := hval0
  have hW' := hW
  obtain ⟨p, q, hA0, hV, rfl, hfz, hnd⟩ := hW
  have hA : DataW.TrodAll enc Try.prog W 0 (fun _ => true) true Try.f3.params.toList args.toList ds p := hA0
  rw [Try.params3] at hA hval hsz
  obtain ⟨v0, vs0, d0, ds0, p0, q0, hargs, rfl, rfl, h0, r0⟩ := trodAll_cons hA
  obtain ⟨v1, vs1, d1, ds1, p1, q1, rfl, rfl, rfl, h1, r1⟩ := trodAll_cons r0
  obtain ⟨rfl, rfl, rfl⟩ := trodAll_nil r1
  obtain rfl : args = #[v0, v1] := by cases args; simp_all
  obtain ⟨rfl, rfl⟩ := trodVars_none hV
  have k0 := h0
  have lt0 : ∀ x ∈ p0, x.block < W.heap.size := by obtain ⟨m, hm⟩ := k0; exact DataW.trod_lt m _ _ _ hm
  obtain ⟨c0_0, c0_1, c0_2, y0_0, y0_1, y0_2, m0, rfl, _, _, g0_0, g0_1, g0_2⟩ := open_agg3 Try.underlying24 (by kernel_rfl) (show Try.prog.cellsOf 24 = 3 by kernel_rfl) (hval 0 24 v0 rfl rfl) h0
  obtain ⟨a0_0, e0_0, _, w0_0⟩ := DataW.trod_int Try.underlying2 g0_0
  simp at e0_0
  subst e0_0
  obtain ⟨a0_1, e0_1, _, w0_1⟩ := DataW.trod_int Try.underlying2 g0_1
  simp at e0_1
  subst e0_1
  obtain ⟨a0_2, cap0_2, l0_2, rfl, hc0_2, hm0_2, hr0_2, hw0_2⟩ := rows_of Try.underlying22 Try.underlying34 Try.underlying2 (by kernel_rfl) (by kernel_rfl) g0_2
  have k1 := h1
  have lt1 : ∀ x ∈ p1, x.block < W.heap.size := by obtain ⟨m, hm⟩ := k1; exact DataW.trod_lt m _ _ _ hm
  obtain ⟨c1_0, c1_1, c1_2, y1_0, y1_1, y1_2, m1, rfl, _, _, g1_0, g1_1, g1_2⟩ := open_agg3 Try.underlying24 (by kernel_rfl) (show Try.prog.cellsOf 24 = 3 by kernel_rfl) (hval 1 24 v1 rfl rfl) h1
  obtain ⟨a1_0, e1_0, _, w1_0⟩ := DataW.trod_int Try.underlying2 g1_0
  simp at e1_0
  subst e1_0
  obtain ⟨a1_1, e1_1, _, w1_1⟩ := DataW.trod_int Try.underlying2 g1_1
  simp at e1_1
  subst e1_1
  obtain ⟨a1_2, cap1_2, l1_2, rfl, hc1_2, hm1_2, hr1_2, hw1_2⟩ := rows_of Try.underlying22 Try.underlying34 Try.underlying2 (by kernel_rfl) (by kernel_rfl) g1_2
  clear hA0 hval0 hsz0 hsz
  refine (F.laws_FnExactSameSpace.walk Pure.FnExactSameSpace a0_0 a0_1 a0_2 cap0_2 l0_2 a1_0 a1_1 a1_2 cap1_2 l1_2 W w0_0 w0_1 hr0_2 hc0_2 hm0_2 hw0_2 w1_0 w1_1 hr1_2 hc1_2 hm1_2 hw1_2).mono fun e W' ⟨he, bel⟩ => ?_
  subst he
  exact ⟨_, rfl, _, _, _, [], _, [], hW', trodAll_mk1 (shut_bool Try.underlying4 _), (trodAll_cons_mk (Below.trod laidOut (by kernel_rfl) (of_decide_eq_true (by kernel_rfl)) k0 bel lt0) (trodAll_cons_mk (Below.trod laidOut (by kernel_rfl) (of_decide_eq_true (by kernel_rfl)) k1 bel lt1) trodAll_mk0)), rfl, bel.frame _, fun h => by cases h⟩
theorem over : Rows.fnExactSameSpaceRow.holds Try.pinned (OpenSpec.ofChange Rows.fnExactSameSpaceSpec) :=
  OpenClaim.holds_of_wide 3 Try.f3 rfl rfl rfl rfl rfl rfl rfl ⟨rfl, rfl, rfl, rfl, rfl⟩ rfl rfl rfl rfl rfl (by kernel_rfl) Try.func3 (by kernel_rfl)
    (of_decide_eq_true (by kernel_rfl)) (by unfold Func.isWrapper; first | (rw [if_pos (by decide +kernel)]; kernel_rfl) | (rw [if_neg (by decide +kernel)]; exact ⟨rfl, rfl⟩))
    (fun os started H enc _ => lifted os started H enc)
theorem proved : Rows.FnExactSameSpaceSaid := over
#print axioms proved
end Go.Proofs.Ytnaheloeodmnpaa.fnExactSameSpace
namespace Go.Proofs.Ytnaheloeodmnpaa
/-- The row, under a short name, for the claim. -/
theorem fnExactSameSpace_holds : Rows.FnExactSameSpaceSaid := fnExactSameSpace.proved
end Go.Proofs.Ytnaheloeodmnpaa
