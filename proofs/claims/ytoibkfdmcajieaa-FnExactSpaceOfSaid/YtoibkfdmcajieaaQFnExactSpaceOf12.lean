-- Texts of this claim, merged by pack.py (a program of this session's).
import Derived.Test.YtoibkfdmcajieaaQFnExactSpaceOf11
import Derived.Test.YtoibkfdmcajieaaQFnExactSpaceOf9
import Derived.KernelRfl
import Derived.Test.YtoibkfdmcajieaaQFnExactSpaceOf1
import Derived.Test.YtoibkfdmcajieaaQFnExactSpaceOf4
import Derived.Test.YtoibkfdmcajieaaQFnExactSpaceOf7
import Derived.Test.YtoibkfdmcajieaaQFnExactSpaceOf8
import Derived.Test.YtoibkfdmcajieaaRows
import Derived.WalkKit
import Derived.ProofKit
import Derived.OpenShut
import Derived.ShutString
import Derived.ChangeOld
import Derived.Below
import Derived.SizedLaws
import Derived.Lib.SmallJoins
import Derived.Deep.Slices
import Derived.Test.YtoibkfdmcajieaaWSized

section
set_option linter.unusedVariables false
set_option linter.unusedSimpArgs false
set_option linter.unusedSectionVars false
namespace Go.Proofs.Ytoibkfdmcajieaa.F
open Go.RowKit Go.Proofs.YtoibkfdmcajieaaW.PrintWords Go.Proofs.YtoibkfdmcajieaaW.PrintLast Go.Proofs.Ytoibkfdmcajieaa.Lin

theorem slE_loop {a b : List Int} (ha : a.length ≤ 35184372088832) (hab : a.length = b.length) (d : Nat) : ∀ (k i : Nat), a.length - i = d → i ≤ a.length → d < k → (∀ j, j < i → a.getD j 0 = b.getD j 0) →
    slices_Equal_int64_int64.l0 k a b a.length i = some (decide (a = b)) := by
  induction d with
  | zero =>
    intro k i hd hi hk h
    obtain ⟨k, rfl⟩ : ∃ m, k = m + 1 := ⟨k - 1, by omega⟩
    simp only [slices_Equal_int64_int64.l0]
    rw [if_neg (by omega), decide_eq_true (ext_getD hab (fun j hj => h j (by omega)))]
  | succ d ih =>
    intro k i hd hi hk h
    obtain ⟨k, rfl⟩ : ∃ m, k = m + 1 := ⟨k - 1, by omega⟩
    simp only [slices_Equal_int64_int64.l0]
    rw [if_pos (by omega), if_pos (by omega), if_pos (by omega), if_pos (by omega), w64_succ (n := a.length) (by omega) ha, rd_nat, rd_nat]
    by_cases e : a.getD i 0 = b.getD i 0
    · rw [if_pos e]
      refine ih k (i + 1) (by omega) (by omega) (by omega) (fun j hj => ?_)
      by_cases e2 : j = i
      · rw [e2]; exact e
      · exact h j (by omega)
    · rw [if_neg e, decide_eq_false (fun h => e (by rw [h]))]
theorem slE_tells {a b : List Int} (ha : a.length ≤ 35184372088832) {k : Nat} (hk : a.length < k) : slices_Equal_int64_int64.f k a b = some (decide (a = b)) := by
  unfold slices_Equal_int64_int64.f
  by_cases h : a.length = b.length
  · rw [if_pos (by omega)]
    exact slE_loop ha h a.length k 0 (by omega) (by omega) hk (fun j hj => by omega)
  · rw [if_neg (by omega), decide_eq_false (fun e => h (by rw [e]))]
theorem saE_loop {a b : List Int} (ha : a.length ≤ 35184372088832) (hab : a.length = b.length) (d : Nat) : ∀ (k i : Nat), a.length - i = d → i ≤ a.length → d < k → (∀ j, j < i → a.getD j 0 = b.getD j 0) →
    spec_l00Same.l0 k a b i = some (decide (a = b)) := by
  induction d with
  | zero =>
    intro k i hd hi hk h
    obtain ⟨k, rfl⟩ : ∃ m, k = m + 1 := ⟨k - 1, by omega⟩
    simp only [spec_l00Same.l0]
    rw [if_neg (by omega), decide_eq_true (ext_getD hab (fun j hj => h j (by omega)))]
  | succ d ih =>
    intro k i hd hi hk h
    obtain ⟨k, rfl⟩ : ∃ m, k = m + 1 := ⟨k - 1, by omega⟩
    simp only [spec_l00Same.l0]
    rw [if_pos (by omega), if_pos (by omega), if_pos (by omega), w64_succ (n := a.length) (by omega) ha, rd_nat, rd_nat]
    by_cases e : a.getD i 0 = b.getD i 0
    · rw [if_pos e]
      refine ih k (i + 1) (by omega) (by omega) (by omega) (fun j hj => ?_)
      by_cases e2 : j = i
      · rw [e2]; exact e
      · exact h j (by omega)
    · rw [if_neg e, decide_eq_false (fun h => e (by rw [h]))]
theorem saE_tells {a b : List Int} (ha : a.length ≤ 35184372088832) {k : Nat} (hk : a.length < k) : spec_l00Same.f k a b = some (decide (a = b)) := by
  unfold spec_l00Same.f
  by_cases h : a.length = b.length
  · rw [if_pos (by omega)]
    exact saE_loop ha h a.length k 0 (by omega) (by omega) hk (fun j hj => by omega)
  · rw [if_neg (by omega), decide_eq_false (fun e => h (by rw [e]))]
theorem slR_loop {a b : List (List Int)} (hn : a.length ≤ 1048576) (hr : ∀ r ∈ a, r.length ≤ 1048576) (hab : a.length = b.length) (d : Nat) : ∀ (k i : Nat), a.length - i = d → i ≤ a.length → d + 1048577 < k → (∀ j, j < i → a.getD j [] = b.getD j []) →
    slices_EqualFunc_int64_int64_int64_int64.l0 k b a a.length i = some (decide (a = b)) := by
  induction d with
  | zero =>
    intro k i hd hi hk h
    obtain ⟨k, rfl⟩ : ∃ m, k = m + 1 := ⟨k - 1, by omega⟩
    simp only [slices_EqualFunc_int64_int64_int64_int64.l0]
    rw [if_neg (by omega), decide_eq_true (ext_rows hab (fun j hj => h j (by omega)))]
  | succ d ih =>
    intro k i hd hi hk h
    obtain ⟨k, rfl⟩ : ∃ m, k = m + 1 := ⟨k - 1, by omega⟩
    have hlt : i < a.length := by omega
    have hw := hr _ (row_mem hlt)
    simp only [slices_EqualFunc_int64_int64_int64_int64.l0]
    rw [if_pos (by omega), if_pos (by omega), if_pos (by omega), if_pos (by omega), rdS_nat, rdS_nat, slE_tells (a := a.getD i []) (by omega) (k := k) (by omega), Option.bind_some, w64_succ (n := a.length) hlt (by omega)]
    by_cases e : a.getD i [] = b.getD i []
    · rw [decide_eq_true e, if_pos rfl]
      refine ih k (i + 1) (by omega) (by omega) (by omega) (fun j hj => ?_)
      by_cases e2 : j = i
      · rw [e2]; exact e
      · exact h j (by omega)
    · rw [decide_eq_false e, if_neg (by simp), decide_eq_false (fun h => e (by rw [h]))]
/-- Rows are compared. -/
theorem slR_tells {a b : List (List Int)} (hn : a.length ≤ 1048576) (hr : ∀ r ∈ a, r.length ≤ 1048576) {k : Nat} (hk : 2097154 < k) : slices_EqualFunc_int64_int64_int64_int64.f k a b = some (decide (a = b)) := by
  unfold slices_EqualFunc_int64_int64_int64_int64.f
  by_cases h : a.length = b.length
  · rw [if_pos (by omega)]
    exact slR_loop hn hr h a.length k 0 (by omega) (by omega) (by omega) (fun j hj => by omega)
  · rw [if_neg (by omega), decide_eq_false (fun e => h (by rw [e]))]
theorem saR_loop {a b : List (List Int)} (hn : a.length ≤ 1048576) (hr : ∀ r ∈ a, r.length ≤ 1048576) (hab : a.length = b.length) (d : Nat) : ∀ (k i : Nat), a.length - i = d → i ≤ a.length → d + 1048577 < k → (∀ j, j < i → a.getD j [] = b.getD j []) →
    spec_l04SameRows.l0 k a b i = some (decide (a = b)) := by
  induction d with
  | zero =>
    intro k i hd hi hk h
    obtain ⟨k, rfl⟩ : ∃ m, k = m + 1 := ⟨k - 1, by omega⟩
    simp only [spec_l04SameRows.l0]
    rw [if_neg (by omega), decide_eq_true (ext_rows hab (fun j hj => h j (by omega)))]
  | succ d ih =>
    intro k i hd hi hk h
    obtain ⟨k, rfl⟩ : ∃ m, k = m + 1 := ⟨k - 1, by omega⟩
    have hlt : i < a.length := by omega
    have hw := hr _ (row_mem hlt)
    simp only [spec_l04SameRows.l0]
    rw [if_pos (by omega), if_pos (by omega), if_pos (by omega), rdS_nat, rdS_nat, saE_tells (a := a.getD i []) (by omega) (k := k) (by omega), Option.bind_some, w64_succ (n := a.length) hlt (by omega)]
    by_cases e : a.getD i [] = b.getD i []
    · rw [decide_eq_true e, if_pos rfl]
      refine ih k (i + 1) (by omega) (by omega) (by omega) (fun j hj => ?_)
      by_cases e2 : j = i
      · rw [e2]; exact e
      · exact h j (by omega)
    · rw [decide_eq_false e, if_neg (by simp), decide_eq_false (fun h => e (by rw [h]))]
/-- Rows are compared. -/
theorem saR_tells {a b : List (List Int)} (hn : a.length ≤ 1048576) (hr : ∀ r ∈ a, r.length ≤ 1048576) {k : Nat} (hk : 2097154 < k) : spec_l04SameRows.f k a b = some (decide (a = b)) := by
  unfold spec_l04SameRows.f
  by_cases h : a.length = b.length
  · rw [if_pos (by omega)]
    exact saR_loop hn hr h a.length k 0 (by omega) (by omega) (by omega) (fun j hj => by omega)
  · rw [if_neg (by omega), decide_eq_false (fun e => h (by rw [e]))]
end Go.Proofs.Ytoibkfdmcajieaa.F
end

section
/- Both functions return the same space of any vectors (its basis is their reduced form without rows of zeros), and it lies in memory of its own. -/
set_option linter.unusedVariables false
set_option linter.unusedSimpArgs false
set_option linter.unusedSectionVars false
namespace Go.Proofs.Ytoibkfdmcajieaa.F
open Go.RowKit Go.Proofs.YtoibkfdmcajieaaW.PrintWords Go.Proofs.YtoibkfdmcajieaaW.PrintLast Go.Proofs.Ytoibkfdmcajieaa.Lin

theorem basis_rows {p : Int} (hp : isP p = true) {n : Nat} (hn : n ≤ 70) {l : List (List Int)} (hok : RowsOk p n l) : (basisOf p n l).length ≤ 70 ∧ ∀ r ∈ basisOf p n l, r.length ≤ 1048576 := by
  obtain ⟨t1, t2, t3, t4, _, _⟩ := elimTo_small hp hok n (Nat.le_refl _)
  have e : (elim p n l).2.1.length ≤ n := t3
  refine ⟨by unfold basisOf; rw [List.length_take]; omega, fun r hr => rows_short (rs := (elim p n l).1) t1 hn r (List.mem_of_mem_take hr)⟩
/-- What both return. -/
def spaceRes (p n : Int) (l : List (List Int)) : Int × Int × List (List Int) × Int := if isP p = true then (if 0 ≤ n ∧ n ≤ 32 then (if l.all (rowVec n p) = true then (p, n, basisOf p n.toNat l, 0) else (0, 0, [], 1)) else (0, 0, [], 1)) else (0, 0, [], 1)
theorem implSpaceOf_tells (p n : Int) {l : List (List Int)} (hm : l.length ≤ 1048576) {k : Nat} (hk : 74000000 ≤ k) : impl_SpaceOf.f k p n l = some (spaceRes p n l) := by
  unfold impl_SpaceOf.f spaceRes
  rw [ask_prime, prime_tells p (by omega), Option.bind_some, side_tells, Option.bind_some, areV_tells, Option.bind_some]
  by_cases hp : isP p = true
  · rw [if_pos hp, if_pos hp]
    by_cases hn : 0 ≤ n ∧ n ≤ 32
    · obtain ⟨m, rfl⟩ := Int.eq_ofNat_of_zero_le hn.1
      rw [decide_eq_true hn, if_pos rfl, if_pos hn, Int.toNat_natCast]
      by_cases hv : l.all (rowVec m p) = true
      · rw [if_pos hv, if_pos hv, spaceI_tells hp (by omega) ((rowsOk_all hp).mp hv) hm hk, Option.bind_some]
      · rw [if_neg hv, if_neg hv]
    · rw [decide_eq_false hn, if_neg (by decide), if_neg hn]
  · rw [if_neg hp, if_neg hp]
theorem specSpaceOf_tells (p n : Int) {l : List (List Int)} (hm : l.length ≤ 1048576) (hr : ∀ r ∈ l, r.length ≤ 1048576) {k : Nat} (hk : 6000000000 ≤ k) : spec_SpaceOf.f k p n l = some (spaceRes p n l) := by
  unfold spec_SpaceOf.f spec_l04Space.f spaceRes
  rw [prime_tells p (by omega), Option.bind_some, in_tells, Option.bind_some]
  by_cases hp : isP p = true
  · rw [if_pos hp, if_pos hp]
    by_cases hn : 0 ≤ n ∧ n ≤ 32
    · obtain ⟨m, rfl⟩ := Int.eq_ofNat_of_zero_le hn.1
      rw [decide_eq_true hn, if_pos rfl, if_pos hn, Int.toNat_natCast, specVecs_tells hp (by omega) hm hr (by omega), Option.bind_some]
      by_cases hv : l.all (rowVec m p) = true
      · rw [if_pos hv, if_pos hv, basisS_tellsL hp (by omega) ((rowsOk_all hp).mp hv) hm hk, Option.bind_some, Option.bind_some]
      · rw [if_neg hv, if_neg hv]
    · rw [decide_eq_false hn, if_neg (by decide), if_neg hn]
  · rw [if_neg hp, if_neg hp]
theorem spaceRes_small (p n : Int) (l : List (List Int)) : (spaceRes p n l).2.2.1.length ≤ 1048576 ∧ ∀ r ∈ (spaceRes p n l).2.2.1, r.length ≤ 1048576 := by
  unfold spaceRes
  split
  · next hp =>
    split
    · next hn =>
      split
      · next hv =>
        obtain ⟨m, rfl⟩ := Int.eq_ofNat_of_zero_le hn.1
        obtain ⟨h1, h2⟩ := basis_rows hp (n := m) (by omega) ((rowsOk_all hp).mp hv)
        exact ⟨by simpa using by omega, by simpa using h2⟩
      · exact ⟨by simp, by simp⟩
    · exact ⟨by simp, by simp⟩
  · exact ⟨by simp, by simp⟩
theorem FnExactSpaceOf_pure : laws_FnExactSpaceOf.Pure := by
  intro p n l _ _ hl hr
  refine ⟨6000000000, ?_⟩
  unfold laws_FnExactSpaceOf.f
  obtain ⟨z, hz, hz1, hz2⟩ := szSS_tells hl (fun r h => (hr r h).1) (a := 1048576) (by omega) (by omega) (k := 6000000000) (by omega)
  rw [hz, Option.bind_some]
  by_cases e : z < 0
  · rw [if_pos e]
  rw [if_neg e]
  have b : l.length ≤ 1048576 ∧ ∀ r ∈ l, r.length ≤ 1048576 := (hz2.resolve_left e).imp (by omega) (fun h r hm => by have := h r hm; omega)
  rw [toSS_tells b.1 b.2 (by omega), Option.bind_some, specSpaceOf_tells p n b.1 b.2 (by omega), Option.bind_some, implSpaceOf_tells p n b.1 (by omega), Option.bind_some]
  obtain ⟨h1, h2⟩ := spaceRes_small p n l
  generalize spaceRes p n l = s at h1 h2 ⊢
  obtain ⟨s1, s2, s3, s4⟩ := s
  dsimp only at h1 h2 ⊢
  have q : laws_eqSpace.f 6000000000 s1 s2 s3 s1 s2 s3 = some true := by unfold laws_eqSpace.f; rw [if_pos rfl, if_pos rfl, eqSS_tells h1 h2 (by omega), Option.bind_some, decide_eq_true rfl, if_pos rfl]
  rw [q, Option.bind_some, if_pos rfl, if_pos rfl, eqSS_tells b.1 b.2 (by omega), Option.bind_some, decide_eq_true rfl, if_pos rfl, markR_tells b.1 b.2 (by omega), Option.bind_some]
  dsimp only
  rw [if_neg (by omega)]
  unfold laws_markSpace.f laws_heldSpace.f
  rw [markR_tells h1 h2 (by omega), Option.bind_some]
  dsimp only
  rw [heldR_tells h1 h2 (by omega), Option.bind_some, if_neg (by omega), Option.bind_some, if_neg (by omega), if_pos rfl]
end Go.Proofs.Ytoibkfdmcajieaa.F
namespace Go.Proofs.Ytoibkfdmcajieaa.Pure
theorem FnExactSpaceOf : F.laws_FnExactSpaceOf.Pure := F.FnExactSpaceOf_pure
end Go.Proofs.Ytoibkfdmcajieaa.Pure
end

section
namespace Go.Proofs.Ytoibkfdmcajieaa.fnExactSpaceOf
open Go.ChangeShapes Go.WideShapes Go.ChangeAt Go.RowKit Go.Joins
open Go.ChangeMaps (open_string shut_string)
set_option linter.unusedVariables false
theorem own : ownKnob Try.prog.godebug = none := by kernel_rfl
theorem laidOut : laidOutB Try.prog = true := by kernel_rfl
/-- A slice's row of whole numbers in memory. -/
def IsRow (k : IntKind) (w : World) (a : Option Addr) (len cap : Nat) (zs : List Int) : Prop :=
  (a = none ∧ len = 0 ∧ cap = 0 ∧ zs = []) ∨
  ∃ x, a = some x ∧ len ≤ cap ∧ cap ≤ maxLen ∧ zs.length = cap ∧ (∀ i, i < zs.length → w.cell? (x.add i) = some (.int k (zs.getD i 0))) ∧ ∀ n ∈ zs, (Lit.int k n).wf = true
/-- A cell that reads as a slice of whole numbers holds one. -/
theorem row_of {H : Type} {enc : TypeId × Value → H} {P : Program} {W : World} {n : Nat} {t e : TypeId} {k : IntKind} {v : Value} {y : DataW H × List MemPlace} (hs : P.underlying t = some (.slice e)) (hi : P.underlying e = some (.int k)) (hc : P.cellsOf e = 1)
    (hf : DataW.trod enc P W 0 (fun _ => true) true n t [v] = some y) : ∃ a len cap zs, v = .slice a len cap ∧ IsRow k W a len cap zs := by
  rcases open_ints hs hi hc hf with ⟨hcs, _⟩ | ⟨x, l, c, zs, hcs, _, hl, hm, hz, _, hcell, hwz⟩
  · simp at hcs
    exact ⟨_, _, _, [], hcs, .inl ⟨rfl, rfl, rfl, rfl⟩⟩
  · simp at hcs
    exact ⟨_, _, _, zs, hcs, .inr ⟨_, rfl, hl, hm, by simpa using hz, hcell, hwz⟩⟩
/-- A cell that reads as a slice of slices of whole numbers holds one. -/
theorem rows_of {H : Type} {enc : TypeId × Value → H} {P : Program} {W : World} {n : Nat} {t e e2 : TypeId} {k : IntKind} {v : Value} {y : DataW H × List MemPlace} (hs : P.underlying t = some (.slice e)) (hs2 : P.underlying e = some (.slice e2)) (hi : P.underlying e2 = some (.int k)) (hc : P.cellsOf e = 1) (hc2 : P.cellsOf e2 = 1)
    (hf : DataW.trod enc P W 0 (fun _ => true) true n t [v] = some y) : ∃ (a : Option Addr) (cap : Nat) (l : List (List Int)), v = .slice a l.length cap ∧ l.length ≤ cap ∧ l.length ≤ maxLen ∧ Go.Proofs.YtoibkfdmcajieaaW.PrintWords.Kd.C (Go.Proofs.YtoibkfdmcajieaaW.PrintWords.Kd.slice e2 (Go.Proofs.YtoibkfdmcajieaaW.PrintWords.Kd.int k)) W a l.length l ∧ ∀ r ∈ l, r.length ≤ maxLen ∧ ∀ x ∈ r, (Lit.int k x).wf = true := by
  rcases Go.Deep.open_slice1 hs hc hf with ⟨hcs, _⟩ | ⟨a, len, cap, m, n', V, D, Pl, hcs, _, hl, hm, hmm, _, hx⟩
  · simp at hcs
    exact ⟨none, 0, [], hcs, Nat.le_refl _, Nat.zero_le _, ⟨rfl, Nat.zero_le _, fun h => absurd h (Nat.lt_irrefl _)⟩, fun r hr => by cases hr⟩
  · simp at hcs
    have hle : len ≤ m := by rw [hmm]; split <;> omega
    obtain ⟨f, hf2⟩ := Go.Deep.choose_lt (α := List Int) (n := len) (p := fun i r => r.length ≤ maxLen ∧ (∀ x ∈ r, (Lit.int k x).wf = true) ∧ ∃ A c, V i = .slice A r.length c ∧ r.length ≤ c ∧ Go.Proofs.YtoibkfdmcajieaaW.PrintWords.ReadsInt W k A r.length r) (fun i hi' => by
      obtain ⟨a', len', cap', zs, e1, hz⟩ := row_of hs2 hi hc2 (hx i (Nat.lt_of_lt_of_le hi' hle)).2
      obtain ⟨r, rfl, h1, h2, h3, h4⟩ := Go.Proofs.YtoibkfdmcajieaaW.PrintWords.ReadsInt.ofRowC hz
      exact ⟨r, h2, h3, a', cap', e1, h4, h1⟩)
    refine ⟨some a, cap, (List.range len).map f, by simpa using hcs, by simpa using hl, by simp; omega, ⟨rfl, by simp; exact Nat.le_trans (Nat.le_trans hl hm) (by unfold maxLen; omega), fun _ => ⟨a, rfl, fun j p hj => ?_⟩⟩, fun r hr => ?_⟩
    · obtain ⟨hj', hp⟩ := List.getElem?_eq_some_iff.mp hj
      have hj2 : j < len := by simpa using hj'
      have hp' : f j = p := by simpa using hp
      subst hp'
      obtain ⟨_, _, A, c, hV, hlc, hR⟩ := hf2 j hj2
      refine ⟨[V j], rfl, ⟨A, c, by rw [hV], hlc, Go.Proofs.YtoibkfdmcajieaaW.PrintWords.Kd.C_of_reads (d := (0 : Int)) (h1 := fun _ => rfl) hR⟩, fun i u hu => ?_⟩
      cases i with
      | zero =>
        have : V j = u := by simpa using hu
        subst this
        have := (hx j (Nat.lt_of_lt_of_le hj2 hle)).1
        simpa [show (Go.Proofs.YtoibkfdmcajieaaW.PrintWords.Kd.slice e2 (Go.Proofs.YtoibkfdmcajieaaW.PrintWords.Kd.int k)).sz = 1 from rfl] using this
      | succ i => simp at hu
    · obtain ⟨j, hj, rfl⟩ := List.mem_map.mp hr
      have := hf2 j (List.mem_range.mp hj)
      exact ⟨this.1, this.2.1⟩
set_option maxRecDepth 100000 in
theorem lifted (os : Os) (started : os.Started) (H : Type) (enc : TypeId × Value → H) :
    ReturnsInHanded {} Try.checked os 4 .any (Rows.fnExactSpaceOfSpec.pre6 enc Try.prog Try.f4 Rows.fnExactSpaceOfRow.domain false) (Rows.fnExactSpaceOfSpec.post enc Try.prog Try.f4 false true false false) := by
  refine returnsInHanded_of_change_sized (C := Try.checked) own started (by kernel_rfl) Try.func4
    (ChangeSpec.witness6 (enc := enc) (C := Try.checked) false ⟨#[], #[.int .i64 0, .int .i64 0, .slice none 0 0], []⟩ 8 (by kernel_rfl) (by kernel_rfl) (by kernel_rfl) (by kernel_rfl)) ?_
  intro W base args ds gs before hval0 hW hcnd hsz0 _
  have hsz : (DataW.weightsEach Try.prog (Try.f4.params.toList ++ Rows.fnExactSpaceOfSpec.plain.varTypes Try.prog) (ds ++ gs)).all (· ≤ reachBytes) = true := hsz0
  have hval : ∀ (j : Nat) t v, Try.f4.params[j]? = some t → args[j]? = some v → Value.okWide Try.prog W .any base t v := hval0
  have hW' := hW
  obtain ⟨p, q, hA0, hV, rfl, hfz, hnd⟩ := hW
  have hA : DataW.TrodAll enc Try.prog W 0 (fun _ => true) true Try.f4.params.toList args.toList ds p := hA0
  rw [Try.params4] at hA hval hsz
  obtain ⟨v0, vs0, d0, ds0, p0, q0, hargs, rfl, rfl, h0, r0⟩ := trodAll_cons hA
  obtain ⟨v1, vs1, d1, ds1, p1, q1, rfl, rfl, rfl, h1, r1⟩ := trodAll_cons r0
  obtain ⟨v2, vs2, d2, ds2, p2, q2, rfl, rfl, rfl, h2, r2⟩ := trodAll_cons r1
  obtain ⟨rfl, rfl, rfl⟩ := trodAll_nil r2
  obtain rfl : args = #[v0, v1, v2] := by cases args; simp_all
  obtain ⟨rfl, rfl⟩ := trodVars_none hV
  obtain ⟨a0, rfl, rfl, rfl, w0⟩ := open_int Try.underlying2 (hval 0 2 v0 rfl rfl) h0
  obtain ⟨a1, rfl, rfl, rfl, w1⟩ := open_int Try.underlying2 (hval 1 2 v1 rfl rfl) h1
  have k2 := h2
  have lt2 : ∀ x ∈ p2, x.block < W.heap.size := by obtain ⟨m, hm⟩ := k2; exact DataW.trod_lt m _ _ _ hm
  obtain ⟨a2, len2, cap2, rfl⟩ := okWide_slice Try.underlying22 (hval 2 22 v2 rfl rfl)
  obtain ⟨cp2, l2, e2, hc2, hm2, hr2, hw2⟩ : ∃ (cp : Nat) (l : List (List Int)), Value.slice a2 len2 cap2 = .slice a2 l.length cp ∧ l.length ≤ cp ∧ l.length ≤ maxLen ∧ Go.Proofs.YtoibkfdmcajieaaW.PrintWords.Kd.C (Go.Proofs.YtoibkfdmcajieaaW.PrintWords.Kd.slice 2 (Go.Proofs.YtoibkfdmcajieaaW.PrintWords.Kd.int .i64)) W a2 l.length l ∧ ∀ r ∈ l, r.length ≤ maxLen ∧ ∀ x ∈ r, (Lit.int .i64 x).wf = true := by
    obtain ⟨fuel, hf⟩ := h2
    obtain ⟨a, cp, l, e, x1, x2, x3, x4⟩ := rows_of (v := .slice a2 len2 cap2) Try.underlying22 Try.underlying38 Try.underlying2 (by kernel_rfl) (by kernel_rfl) hf
    cases e
    exact ⟨_, l, rfl, x1, x2, x3, x4⟩
  cases e2
  clear hA0 hval0 hsz0 hsz
  refine (F.laws_FnExactSpaceOf.walk Pure.FnExactSpaceOf a0 a1 a2 _ l2 W w0 w1 hr2 hc2 hm2 hw2).mono fun e W' ⟨he, bel⟩ => ?_
  subst he
  exact ⟨_, rfl, _, _, _, [], _, [], hW', trodAll_mk1 (shut_bool Try.underlying4 _), (trodAll_cons_mk (shut_int Try.underlying2 w0) (trodAll_cons_mk (shut_int Try.underlying2 w1) (trodAll_cons_mk (Below.trod laidOut (by kernel_rfl) (of_decide_eq_true (by kernel_rfl)) k2 bel lt2) trodAll_mk0))), rfl, bel.frame _, fun h => by cases h⟩
theorem over : Rows.fnExactSpaceOfRow.holds Try.pinned (OpenSpec.ofChange Rows.fnExactSpaceOfSpec) :=
  OpenClaim.holds_of_wide 4 Try.f4 rfl rfl rfl rfl rfl rfl rfl ⟨rfl, rfl, rfl, rfl, rfl⟩ rfl rfl rfl rfl rfl (by kernel_rfl) Try.func4 (by kernel_rfl)
    (of_decide_eq_true (by kernel_rfl)) (by unfold Func.isWrapper; first | (rw [if_pos (by decide +kernel)]; kernel_rfl) | (rw [if_neg (by decide +kernel)]; exact ⟨rfl, rfl⟩))
    (fun os started H enc _ => lifted os started H enc)
theorem proved : Rows.FnExactSpaceOfSaid := over
#print axioms proved
end Go.Proofs.Ytoibkfdmcajieaa.fnExactSpaceOf
namespace Go.Proofs.Ytoibkfdmcajieaa
/-- The row, under a short name, for the claim. -/
theorem fnExactSpaceOf_holds : Rows.FnExactSpaceOfSaid := fnExactSpaceOf.proved
end Go.Proofs.Ytoibkfdmcajieaa
end
