-- Texts of this claim, merged by packw.py (a program of this session's).
import Derived.Test.YtbalikebmacldaaGreatDoorQFnMatrices11
import Derived.Test.YtbalikebmacldaaGreatDoorQFnMatrices14
import Derived.Test.YtbalikebmacldaaGreatDoorQFnMatrices15
import Derived.KernelRfl
import Derived.Test.YtbalikebmacldaaGreatDoorQFnMatrices12
import Derived.Test.YtbalikebmacldaaGreatDoorQFnMatrices13
import Derived.Test.YtbalikebmacldaaGreatDoorQFnMatrices10
import Derived.Test.YtbalikebmacldaaGreatDoorQFnMatrices3
import Derived.Test.YtbalikebmacldaaGreatDoorQFnMatrices4
import Derived.Test.YtbalikebmacldaaGreatDoorQFnMatrices6
import Derived.Test.YtbalikebmacldaaGreatDoorQFnMatrices7
import Derived.Test.YtbalikebmacldaaGreatDoorQFnMatrices8
import Derived.Test.YtbalikebmacldaaGreatDoorQFnMatrices9
import Derived.SizedLaws
import Derived.ChangeSlices
import Derived.Test.YtbalikebmacldaaGreatDoorRows
import Derived.WalkKit
import Derived.ProofKit
import Derived.OpenShut
import Derived.ShutString
import Derived.ChangeOld
import Derived.Below
import Derived.Test.YtbalikebmacldaaGreatDoorCards
import Derived.Test.YtbalikebmacldaaGreatDoorTie
import Derived.Deep.DeepHandedRow
import Derived.Deep.DeepWitnessRowRef
import Derived.Lib.LaidTab
import Derived.Stop.LaidErr
import Derived.LaidMore
import Derived.MakeChecks
import Derived.Shelf.Vars

section
set_option linter.unusedVariables false
set_option linter.unusedSimpArgs false
set_option linter.unusedSectionVars false
namespace Go.Proofs.YtbalikebmacldaaGreatDoor.F
open Go.RowKit Go.Proofs.YtbalikebmacldaaGreatDoorW.PrintWords Go.Proofs.YtbalikebmacldaaGreatDoorW.PrintLast Go.Proofs.YtbalikebmacldaaGreatDoor.Lin
theorem implElim_tells {p : Int} (hp : isP p = true) {R C : Nat} {l : List Int} (hR : R ≤ 64) (hC : C ≤ 70) (hl : l.length = R * C) (hv : ∀ j, 0 ≤ l.getD j 0 ∧ l.getD j 0 < p) {k : Nat} (hk : 6000 ≤ k) :
    impl_eliminate.f k p R C l C p = some ((elim p C (rowsM R C l)).2.1, (elim p C (rowsM R C l)).2.2, (elim p C (rowsM R C l)).1) := by
  unfold impl_eliminate.f
  rw [rowsOf_tells hR hC hl (by omega), Option.bind_some]
  exact elim_tells hp (by rw [rowsM_length]; exact hR) hC (rowsM_ok hv) hk
def detOut (p r c : Int) (l : List Int) : Int × Int := if matOk p r c l = true then (if r = c then ((elim p c.toNat (rowsM r.toNat c.toNat l)).2.2, 0) else (0, 6)) else (0, 1)
theorem impl_detM (p r c : Int) {l : List Int} {k : Nat} (hk : 17000 ≤ k) : impl_DeterminantOf.f k p r c l = some (detOut p r c l) := by
  unfold impl_DeterminantOf.f detOut
  rw [implOk_tells p r c (by omega)]
  cases h : matOk p r c l with
  | false => simp
  | true =>
    obtain ⟨R, C, rfl, rfl, h1, h2, h3, h4, h5⟩ := dimsM h
    have e := implElim_tells (matOk_iff.mp h).1 (show R ≤ 64 by omega) (show C ≤ 70 by omega) h3 h5 (k := k) (by omega)
    simp only [Option.bind_some, if_true, Int.toNat_natCast]
    by_cases hs : (R : Int) = (C : Int)
    · rw [if_pos hs, if_pos hs, e]; rfl
    · rw [if_neg hs, if_neg hs]
def scaleOut (p r c : Int) (l : List Int) (s : Int) : Int × Int × Int × List Int × Int := if matOk p r c l = true then if 0 ≤ s ∧ s ≤ p - 1 then (p, r, c, scaleR p l s, 0) else (0, 0, 0, [], 2) else (0, 0, 0, [], 1)
theorem impl_scaleM (p r c s : Int) {l : List Int} {k : Nat} (hk : 17000 ≤ k) : impl_ScaleMatrix.f k p r c l s = some (scaleOut p r c l s) := by
  unfold impl_ScaleMatrix.f scaleOut
  rw [implOk_tells p r c (by omega)]
  cases h : matOk p r c l with
  | false => simp
  | true =>
    obtain ⟨R, C, rfl, rfl, h1, h2, h3, hp, hx⟩ := dimsM h
    have hm := side_mul (show R ≤ 128 by omega) (show C ≤ 128 by omega)
    rw [isElement_tells hp.1 hp.2]
    by_cases q : 0 ≤ s ∧ s ≤ p - 1
    · rw [implZero_tells p (by omega) (by omega) hk]
      simp only [Option.bind_some, if_true, decide_true, q, and_self]
      rw [sumM_tells hp.1 hp.2 (by rw [tab_length, h3]) (by rw [tab_length]; omega) (fun j => by rw [zeros_getD]; omega) hx q.1 (by omega) (by rw [tab_length]; omega), addRow_zeroM (by rw [tab_length, h3]) (zeros_getD R C)]
      rfl
    · simp only [Option.bind_some, if_true, q, decide_false, if_false, Bool.false_eq_true]
end Go.Proofs.YtbalikebmacldaaGreatDoor.F
end

section
/- Products of drawn matrices fit together with vectors, transposing and determinants, twice is the sum with itself, and a matrix is read back out of its text. -/
set_option linter.unusedVariables false
set_option linter.unusedSimpArgs false
set_option linter.unusedSectionVars false
namespace Go.Proofs.YtbalikebmacldaaGreatDoor.F
open Go.RowKit Go.Proofs.YtbalikebmacldaaGreatDoorW.PrintWords Go.Proofs.YtbalikebmacldaaGreatDoorW.PrintLast Go.Proofs.YtbalikebmacldaaGreatDoor.Lin
theorem mat_chain {K : Nat} (hK : 2000000 ≤ K) {l m a b ab x u v col one two sum Q r : List Int} {p n mm v0 v1 D1 D2 D3 : Int} {t : ByteArray} (hp0 : p ≠ 0)
    (e0 : laws_r8Long.f l m = some false) (e1 : spec_R8Prime.f l = some p) (e2 : laws_r8At.f m 0 4 = some v0) (e3 : laws_r8At.f m 1 4 = some v1) (w1 : wrap64 (1 + v0) = n) (w2 : wrap64 (1 + v1) = mm)
    (e4 : ∀ k, 2000000 ≤ k → spec_R8Matrix.f k l p n mm = some (p, n, mm, a)) (e5 : ∀ k, 2000000 ≤ k → spec_R8Matrix.f k m p mm n = some (p, mm, n, b))
    (e6 : ∀ k, 2000000 ≤ k → impl_Multiply.f k p n mm a p mm n b = some (p, n, n, ab, 0)) (e7 : ∀ k, 2000000 ≤ k → impl_Transpose.f k p n n ab = some (p, n, n, x, 0)) (e8 : ∀ k, 2000000 ≤ k → impl_Transpose.f k p n mm a = some (p, mm, n, u, 0)) (e9 : ∀ k, 2000000 ≤ k → impl_Transpose.f k p mm n b = some (p, n, mm, v, 0))
    (e10 : ∀ k, 2000000 ≤ k → impl_Multiply.f k p n mm v p mm n u = some (p, n, n, x, 0)) (e11 : ∀ k, 2000000 ≤ k → impl_MatrixText.f k p n mm a = some t) (e12 : ∀ k, 2000000 ≤ k → impl_ReadMatrix.f k t = some (p, n, mm, a, true))
    (e13 : ∀ k, 2000000 ≤ k → spec_SameMatrix.f k p n n x p n n x = some true) (e14 : ∀ k, 2000000 ≤ k → spec_SameMatrix.f k p n mm a p n mm a = some true)
    (e15 : ∀ k, 2000000 ≤ k → spec_R8List.f k m n p = some col) (e16 : ∀ k, 2000000 ≤ k → impl_ApplyMatrix.f k p mm n b col = some (one, 0)) (e17 : ∀ k, 2000000 ≤ k → impl_ApplyMatrix.f k p n mm a one = some (two, 0)) (e18 : ∀ k, 2000000 ≤ k → impl_ApplyMatrix.f k p n n ab col = some (two, 0))
    (e19 : ∀ k, 2000000 ≤ k → impl_AddMatrices.f k p n n ab p n n ab = some (p, n, n, sum, 0)) (e20 : ∀ k, 2000000 ≤ k → impl_ScaleMatrix.f k p n n ab (2 % p) = some (p, n, n, sum, 0)) (e21 : ∀ k, 2000000 ≤ k → laws_r8Same.f k two two = some true) (e22 : ∀ k, 2000000 ≤ k → spec_SameMatrix.f k p n n sum p n n sum = some true)
    (e23 : ∀ k, 2000000 ≤ k → spec_R8Matrix.f k m p n n = some (p, n, n, Q)) (e24 : ∀ k, 2000000 ≤ k → impl_Multiply.f k p n n ab p n n Q = some (p, n, n, r, 0)) (e25 : ∀ k, 2000000 ≤ k → impl_DeterminantOf.f k p n n ab = some (D1, 0)) (e26 : ∀ k, 2000000 ≤ k → impl_DeterminantOf.f k p n n Q = some (D2, 0)) (e27 : ∀ k, 2000000 ≤ k → impl_DeterminantOf.f k p n n r = some (D3, 0))
    (d1 : 0 ≤ D1) (d2 : D1 < p) (d3 : 0 ≤ D2) (d4 : D2 < p) (d5 : D3 = Int.tmod (wrap64 (D1 * D2)) p) : laws_FnMatrices.f (K + 2) l m = some true := by
  have hK1 : 2000000 ≤ K + 1 := by omega
  have hK2 : 2000000 ≤ K + 2 := by omega
  have f1 : laws_FnMatrices.j1 (K + 1) m p n false p n n ab = some true := by
    simp only [laws_FnMatrices.j1]
    rw [if_neg (by simp), e23 K hK, Option.bind_some]
    dsimp only
    rw [e24 K hK, Option.bind_some]
    dsimp only
    rw [e25 K hK, Option.bind_some]
    dsimp only
    rw [e26 K hK, Option.bind_some]
    dsimp only
    rw [e27 K hK, Option.bind_some]
    dsimp only
    simp only [if_true]
    rw [if_pos d1, if_pos d2, if_pos d3, if_pos d4, if_neg hp0, d5]
    simp
  have f0 : laws_FnMatrices.j0 (K + 2) m p n false p n mm a p mm n b p n n ab = some true := by
    simp only [laws_FnMatrices.j0]
    rw [if_neg (by simp), e15 (K + 1) hK1, Option.bind_some, e16 (K + 1) hK1, Option.bind_some]
    dsimp only
    rw [e17 (K + 1) hK1, Option.bind_some]
    dsimp only
    rw [e18 (K + 1) hK1, Option.bind_some]
    dsimp only
    rw [e19 (K + 1) hK1, Option.bind_some]
    dsimp only
    rw [if_neg hp0, e20 (K + 1) hK1, Option.bind_some]
    dsimp only
    simp only [if_true]
    rw [e21 (K + 1) hK1, Option.bind_some, if_pos rfl, e22 (K + 1) hK1, Option.bind_some]
    exact f1
  unfold laws_FnMatrices.f
  rw [e0, Option.bind_some, if_neg (by simp), e1, Option.bind_some, e2, Option.bind_some, e3, Option.bind_some, w1, w2, e4 _ hK2, Option.bind_some]
  dsimp only
  rw [e5 _ hK2, Option.bind_some]
  dsimp only
  rw [e6 _ hK2, Option.bind_some]
  dsimp only
  rw [e7 _ hK2, Option.bind_some]
  dsimp only
  rw [e8 _ hK2, Option.bind_some]
  dsimp only
  rw [e9 _ hK2, Option.bind_some]
  dsimp only
  rw [e10 _ hK2, Option.bind_some]
  dsimp only
  rw [e11 _ hK2, Option.bind_some, e12 _ hK2, Option.bind_some]
  dsimp only
  simp only [if_true]
  rw [e13 _ hK2, Option.bind_some, if_pos rfl, e14 _ hK2, Option.bind_some]
  exact f0
theorem r8list_loop {l : List Int} (hl : Bytes l) {p : Int} (hp : 2 ≤ p) (hp' : p ≤ 251) {n : Nat} (hn : n ≤ 64) (d : Nat) : ∀ (k i : Nat) (o : List Int) (at_ seed : Int), n - i = d → i ≤ n → d < k → o.length = i → OkL p o → 0 ≤ at_ → at_ + 2 * (d : Int) ≤ 1000000 →
    ∃ o', spec_R8List.l0 k n p o i l at_ seed = some o' ∧ o'.length = n ∧ OkL p o' := by
  induction d with
  | zero =>
    intro k i o at_ seed hd hi hk ho hok h0 h1
    obtain ⟨k, rfl⟩ : ∃ m, k = m + 1 := ⟨k - 1, by omega⟩
    simp only [spec_R8List.l0]
    rw [if_neg (by omega)]
    exact ⟨o, rfl, by omega, hok⟩
  | succ d ih =>
    intro k i o at_ seed hd hi hk ho hok h0 h1
    obtain ⟨k, rfl⟩ : ∃ m, k = m + 1 := ⟨k - 1, by omega⟩
    obtain ⟨v, at1, s1, e1, v0, v1, g1, g2⟩ := pick_tells hl seed p h0 (by omega)
    have b1 : (i : Int) < (n : Int) := by omega
    have b2 : o.length < 17592186044416 := by omega
    have b3 : i < n := by omega
    have b4 : n ≤ 35184372088832 := by omega
    have hok2 : OkL p (o ++ [v]) := fun j => by
      by_cases hj : j < o.length
      · rw [List.getD_eq_getElem?_getD, List.getElem?_append_left hj, ← List.getD_eq_getElem?_getD]; exact hok j
      · rw [List.getD_eq_getElem?_getD, List.getElem?_append_right (by omega)]
        by_cases hj2 : j - o.length = 0
        · rw [hj2]; simp; omega
        · rw [List.getElem?_eq_none (by simp; omega)]; simp; omega
    obtain ⟨o', e, a1, a2⟩ := ih k (i + 1) (o ++ [v]) at1 s1 (by omega) (by omega) (by omega) (by simp [ho]) hok2 (by omega) (by omega)
    simp only [spec_R8List.l0]
    rw [if_pos b1, e1, Option.bind_some, if_pos b2, w64_succ b3 b4]
    exact ⟨o', e, a1, a2⟩
theorem mats_core {l m : List Int} (hl : Bytes l) (hm : Bytes m) (c1 : ¬ (l.length : Int) > 1048576) (c2 : ¬ (m.length : Int) > 1048576) : ∀ K, 2000000 ≤ K → laws_FnMatrices.f (K + 2) l m = some true := by
  obtain ⟨p, ep, hp⟩ := r8prime_tells hl
  obtain ⟨v0, en, hn⟩ := r8At_tells hm (j := 0) (by omega) (n := 4) (by omega)
  obtain ⟨v1, em, hm2⟩ := r8At_tells hm (j := 1) (by omega) (n := 4) (by omega)
  have hp2 := isP_ge hp
  obtain ⟨q, rfl⟩ := Int.eq_ofNat_of_zero_le (show 0 ≤ p by omega)
  haveI : NeZero q := ⟨by omega⟩
  obtain ⟨n, hn0⟩ : ∃ n : Nat, n = 1 + v0 := ⟨_, rfl⟩
  obtain ⟨s, hs0⟩ : ∃ s : Nat, s = 1 + v1 := ⟨_, rfl⟩
  have n4 : n ≤ 4 := by omega
  have s4 : s ≤ 4 := by omega
  have w1 : wrap64 (1 + (v0 : Int)) = (n : Int) := by rw [w64_id (by omega) (by omega)]; omega
  have w2 : wrap64 (1 + (v1 : Int)) = (s : Int) := by rw [w64_id (by omega) (by omega)]; omega
  have r0 : laws_r8Long.f l m = some false := by unfold laws_r8Long.f; rw [if_neg c1, decide_eq_false c2]
  have hns : n * s ≤ 4 * 4 := Nat.mul_le_mul n4 s4
  have hsn : s * n ≤ 4 * 4 := Nat.mul_le_mul s4 n4
  have hnn : n * n ≤ 4 * 4 := Nat.mul_le_mul n4 n4
  have draw : ∀ {z : List Int}, Bytes z → ∀ R C : Nat, R ≤ 4 → C ≤ 4 → R * C ≤ 16 → ∃ o, (∀ k, 2000000 ≤ k → spec_R8Matrix.f k z q R C = some ((q : Int), (R : Int), (C : Int), o)) ∧ o.length = R * C ∧ OkL q o := fun {z} hz R C hR hC hRC => by
    obtain ⟨o, e, a1, a2⟩ := r8matrix_tells hz hp2.1 hp2.2 (R := R) (C := C) (by omega) (by omega) (k := 2000000) (by omega)
    refine ⟨o, fun k hk => ?_, a1, a2⟩
    obtain ⟨o2, e2, _⟩ := r8matrix_tells hz hp2.1 hp2.2 (R := R) (C := C) (by omega) (by omega) (k := k) (by omega)
    obtain ⟨d, rfl⟩ := Nat.exists_eq_add_of_le hk
    clear hk e2
    induction d with
    | zero => exact e
    | succ d ih => exact spec_R8Matrix.mono _ _ _ _ _ _ ih
  obtain ⟨a, ea, la, ka⟩ := draw hl n s n4 s4 hns
  obtain ⟨b, eb, lb, kb⟩ := draw hm s n s4 n4 hsn
  obtain ⟨Q, eQ, lQ, kQ⟩ := draw hm n n n4 n4 hnn
  obtain ⟨col, ecol⟩ : ∃ col, (∀ k, 2000000 ≤ k → spec_R8List.f k m n q = some col) ∧ col.length = n ∧ OkL q col := by
    have h00 : OkL (q : Int) [] := fun j => by simp; omega
    obtain ⟨o, e, a1, a2⟩ := r8list_loop hm hp2.1 hp2.2 (n := n) (by omega) n 2000000 0 [] 0 0 (by omega) (by omega) (by omega) rfl h00 (by omega) (by omega)
    refine ⟨o, fun k hk => ?_, a1, a2⟩
    have e' : spec_R8List.f 2000000 m n q = some o := by
      unfold spec_R8List.f spec_l00From.f
      rw [Option.bind_some]
      exact e
    obtain ⟨d, rfl⟩ := Nat.exists_eq_add_of_le hk
    clear hk e
    induction d with
    | zero => exact e'
    | succ d ih => exact spec_R8List.mono _ _ _ _ _ ih
  obtain ⟨ecol, lcol, kcol⟩ := ecol
  have mA : matOk q n s a = true := matOk_of hp (by omega) (by omega) la ka
  have mB : matOk q s n b = true := matOk_of hp (by omega) (by omega) lb kb
  have mQ : matOk q n n Q = true := matOk_of hp (by omega) (by omega) lQ kQ
  have rAB : ∀ j, 0 ≤ (tab n n (prodAt q s n a b)).getD j 0 ∧ (tab n n (prodAt q s n a b)).getD j 0 < (q : Int) := tab_range (by omega) (prodAt_range hp a b)
  have lAB : (tab n n (prodAt q s n a b)).length = n * n := tab_length _ _ _
  have mAB : matOk q n n (tab n n (prodAt q s n a b)) = true := matOk_of hp (by omega) (by omega) lAB rAB
  have rU : ∀ j, 0 ≤ (turned n s a).getD j 0 ∧ (turned n s a).getD j 0 < (q : Int) := by unfold turned; exact okTab hp2.1 (fun i j _ _ => ka _)
  have rV : ∀ j, 0 ≤ (turned s n b).getD j 0 ∧ (turned s n b).getD j 0 < (q : Int) := by unfold turned; exact okTab hp2.1 (fun i j _ _ => kb _)
  have lU : (turned n s a).length = s * n := by unfold turned; rw [tab_length]
  have lV : (turned s n b).length = n * s := by unfold turned; rw [tab_length]
  have mU : matOk q s n (turned n s a) = true := matOk_of hp (by omega) (by omega) lU rU
  have mV : matOk q n s (turned s n b) = true := matOk_of hp (by omega) (by omega) lV rV
  have lX : (turned n n (tab n n (prodAt q s n a b))).length = n * n := by unfold turned; rw [tab_length]
  have mul : ∀ {R C D : Nat} {y z : List Int}, matOk q R C y = true → matOk q C D z = true → ∀ k, 2000000 ≤ k → impl_Multiply.f k q R C y q C D z = some ((q : Int), (R : Int), (D : Int), tab R D (prodAt q C D y z), 0) := fun {R C D y z} h1 h2 k hk => by
    rw [impl_mulM q R C q C D (by omega)]; unfold mulOut; rw [h1, h2, if_pos (show (true && true) = true from rfl), if_pos ⟨rfl, rfl⟩]; simp only [Int.toNat_natCast]
  have turn : ∀ {R C : Nat} {y : List Int}, matOk q R C y = true → ∀ k, 2000000 ≤ k → impl_Transpose.f k q R C y = some ((q : Int), (C : Int), (R : Int), turned R C y, 0) := fun {R C y} h1 k hk => by
    rw [impl_turnM q R C (by omega)]; unfold turnOut; rw [if_pos h1]; simp only [Int.toNat_natCast]
  have deter : ∀ {y : List Int}, matOk q n n y = true → ∀ k, 2000000 ≤ k → impl_DeterminantOf.f k q n n y = some ((elim q n (rowsM n n y)).2.2, 0) := fun {y} h1 k hk => by
    rw [impl_detM q n n (by omega)]; unfold detOut; rw [if_pos h1, if_pos rfl]; simp only [Int.toNat_natCast]
  have allM_ok : ∀ {y : List Int}, (∀ j, 0 ≤ y.getD j 0 ∧ y.getD j 0 < (q : Int)) → allM y q = true := fun {y} h => allM_iff.mpr (fun x hx => by
    obtain ⟨i, hi, rfl⟩ := List.mem_iff_getElem.mp hx
    have := h i
    rwa [getD_at hi] at this)
  have appl : ∀ {R C : Nat} {y z : List Int}, matOk q R C y = true → (∀ j, 0 ≤ z.getD j 0 ∧ z.getD j 0 < (q : Int)) → z.length = C → ∀ k, 2000000 ≤ k → impl_ApplyMatrix.f k q R C y z = some (applied q R C y z, 0) := fun {R C y z} h1 h2 h3 k hk => by
    rw [impl_applyM q R C (by omega)]; unfold applyOut; rw [h1, allM_ok h2, decide_eq_true (show ((z.length : Nat) : Int) = (C : Int) by omega), if_pos (show (true && (true && true)) = true from rfl)]; simp only [Int.toNat_natCast]
  have l1 : (applied q s n b col).length = s := applied_length _ _ _ _ _
  have two_range : 0 ≤ (2 : Int) % q ∧ (2 : Int) % q ≤ (q : Int) - 1 := by
    have a1 := Int.emod_nonneg (2 : Int) (show (q : Int) ≠ 0 by omega)
    have a2 := Int.emod_lt_of_pos (2 : Int) (show (0 : Int) < q by omega)
    omega
  obtain ⟨⟨b0, b1⟩, _⟩ := elim_ops hp (rowsM_ok (R := n) (C := n) rAB) (rowsM_length _ _ _)
  obtain ⟨⟨i0, i1⟩, _⟩ := elim_ops hp (rowsM_ok (R := n) (C := n) kQ) (rowsM_length _ _ _)
  have mR : matOk q n n (tab n n (prodAt q n n (tab n n (prodAt q s n a b)) Q)) = true := matOk_of hp (by omega) (by omega) (tab_length _ _ _) (tab_range (by omega) (prodAt_range hp _ _))
  have lS : (addRow q (tab n n (prodAt q s n a b)) (tab n n (prodAt q s n a b)) 1).length = n * n := by unfold addRow; rw [List.length_zipWith, lAB, Nat.min_self]
  have l2 : (applied q n s a (applied q s n b col)).length = n := applied_length _ _ _ _ _
  have hq0 : (q : Int) ≠ 0 := by omega
  refine fun K hK => mat_chain hK (t := textOut q n s a) (x := turned n n (tab n n (prodAt q s n a b))) (two := applied q n s a (applied q s n b col)) (sum := addRow q (tab n n (prodAt q s n a b)) (tab n n (prodAt q s n a b)) 1) hq0 r0 ep en em w1 w2 ea eb (mul mA mB) (turn mAB) (turn mA) (turn mB) ?_ ?_ ?_ ?_ ?_ ecol (appl mB kcol lcol) ?_ ?_ ?_ ?_ ?_ ?_ eQ (mul mAB mQ) (deter mAB) (deter mQ) (deter mR) b0 b1 i0 i1 ?_
  all_goals clear hK
  · intro k hk
    rw [mul mV mU k hk, turn_mul]
  · exact fun k hk => impl_textM q n s (by omega)
  · exact fun k hk => read_matrix mA hk
  · exact fun k hk => sameR_tells q n n (by omega) (by omega)
  · exact fun k hk => sameR_tells q n s (by omega) (by omega)
  · exact appl mA (applied_range hp s n b col) l1
  · intro k hk
    rw [appl mAB kcol lcol k hk, apply_mul hp]
  · intro k hk
    rw [impl_addM q n n q n n (by omega)]; unfold addOut; rw [mAB, if_pos (show (true && true) = true from rfl), if_pos ⟨rfl, rfl, rfl⟩]
  · intro k hk
    rw [impl_scaleM q n n (2 % q) (by omega)]; unfold scaleOut; rw [if_pos mAB, if_pos two_range, add_twice]
  · exact fun k hk => r8Same_tells (by omega) (by omega)
  · exact fun k hk => sameR_tells q n n (by omega) (by omega)
  · rw [det_mul_law hp rAB kQ]
    generalize (elim q n (rowsM n n (tab n n (prodAt q s n a b)))).2.2 = X at *
    generalize (elim q n (rowsM n n Q)).2.2 = Y at *
    have g1 := Int.mul_nonneg b0 i0
    have g2 : X * Y ≤ 251 * 251 := Int.mul_le_mul (by omega) (by omega) i0 (by omega)
    rw [w64_id (by omega) (by omega), Int.tmod_eq_emod_of_nonneg g1]
theorem FnMatrices_pure : laws_FnMatrices.Pure := by
  intro l m _ _ hl _ _ hm
  have hl := bytesR_of hl
  have hm := bytesR_of hm
  by_cases c1 : (l.length : Int) > 1048576
  · refine ⟨2, ?_⟩
    unfold laws_FnMatrices.f laws_r8Long.f
    rw [if_pos c1, Option.bind_some, if_pos rfl]
  · by_cases c2 : (m.length : Int) > 1048576
    · refine ⟨2, ?_⟩
      unfold laws_FnMatrices.f laws_r8Long.f
      rw [if_neg c1, decide_eq_true c2, Option.bind_some, if_pos rfl]
    · obtain ⟨K, hK⟩ : ∃ K : Nat, 2000000 ≤ K := ⟨2000000, Nat.le_refl _⟩
      exact ⟨K + 2, mats_core hl hm c1 c2 K hK⟩
end Go.Proofs.YtbalikebmacldaaGreatDoor.F
namespace Go.Proofs.YtbalikebmacldaaGreatDoor.Pure
theorem FnMatrices : F.laws_FnMatrices.Pure := F.FnMatrices_pure
end Go.Proofs.YtbalikebmacldaaGreatDoor.Pure
end

section
-- PRINTED BY print.sh 35421559b90ae4d0a3588c463048766b98c2df88dd9212a6774a882060cdf62d: not written by this session
-- PRINTED WORDS (module Derived/Print/Sized.lean): go-gate-2's, for the rows of laws over slices: an AI agent of Go's test side, Tue Nov 17 2026; no person has read it. Lean checks it.
namespace Go.Proofs.YtbalikebmacldaaGreatDoorW.PrintWords
open Go.ChangeShapes Go.WideShapes
theorem sized_ints {H : Type} {enc : TypeId × Value → H} {P : Program} {W : World} {base : Nat} {spare : Nat → Bool} {held : Bool} {t e : TypeId} {k : IntKind} {a : Option Addr} {len cap : Nat} {d : DataW H} {ps : List MemPlace} {ts : List TypeId} {ds : List (DataW H)} {j : Nat}
    (hsz : (DataW.weightsEach P ts ds).all (· ≤ reachBytes) = true) (ht : ts[j]? = some t) (hd : ds[j]? = some d) (hu : P.underlying t = some (.slice e)) (he : P.underlying e = some (.int k)) (hc : P.cellsOf e = 1) {B : Nat} (hB : P.bytesOf e = B)
    (h : DataW.Trod enc P W base spare held t (.slice a len cap) d ps) : len * B ≤ 140737488351232 := by
  obtain ⟨fuel, hf⟩ := h
  rcases open_ints hu he hc hf with ⟨hcs, _⟩ | ⟨x, l, c, zs, hcs, _, hl, _, hz, hx, _, _⟩
  · simp [Value.cells] at hcs
    obtain ⟨rfl, rfl, rfl⟩ := hcs
    simp
  · simp [Value.cells] at hcs
    obtain ⟨rfl, rfl, rfl⟩ := hcs
    obtain ⟨hx, _⟩ := Prod.mk.inj hx
    subst hx
    have z := sized_slice hsz ht hd hu
    rw [hB] at z
    have hl2 : len ≤ zs.length := by
      rw [hz]
      split
      · exact hl
      · exact Nat.le_refl _
    have h1 : (lits (H := H) k (zs.take len)).length + (lits (H := H) k (zs.drop len)).length = zs.length := by
      simp [lits]
      omega
    rw [h1] at z
    exact Nat.le_trans (Nat.mul_le_mul_right _ hl2) z
end Go.Proofs.YtbalikebmacldaaGreatDoorW.PrintWords
end

section
namespace Go.Proofs.YtbalikebmacldaaGreatDoor.fnMatrices
open Go.ChangeShapes Go.WideShapes Go.ChangeAt Go.RowKit
open Go.ChangeMaps (open_string shut_string)
set_option linter.unusedVariables false
theorem own : ownKnob Tryz.prog.godebug = none := by kernel_rfl
theorem laidOut : laidOutB Tryz.prog = true := by kernel_rfl
def IsRow (k : IntKind) (w : World) (a : Option Addr) (len cap : Nat) (zs : List Int) : Prop :=
  (a = none ∧ len = 0 ∧ cap = 0 ∧ zs = []) ∨
  ∃ x, a = some x ∧ len ≤ cap ∧ cap ≤ maxLen ∧ zs.length = cap ∧ (∀ i, i < zs.length → w.cell? (x.add i) = some (.int k (zs.getD i 0))) ∧ ∀ n ∈ zs, (Lit.int k n).wf = true
theorem gP : Tryz.prog.globalNamed "internal/strconv.uint64pow10" = some 3 := by kernel_rfl
theorem gPT : (Tryz.prog.globals[3]?).map (·.type) = some 145 := by kernel_rfl
theorem gPc : Tryz.prog.cellsOf 145 = 20 := by kernel_rfl
theorem gPe : Tryz.prog.cellsOf 72 = 1 := by kernel_rfl
theorem laidP {W : World} (h0 : laidMetH Tryz.prog Rows.fnMatricesRow.laid W) : F.LaidP W := by
  rw [MakeChecks.laidMetH_plain _ _ _ (by kernel_rfl)] at h0
  have h := h0
  exact Lib.tabIs_of_head gP gPT Tryz.underlying145 Tryz.underlying72 gPe gPc (laidMet.tail (laidMet.tail h))
theorem cE : Tryz.prog.cellsOf 151 = 1 := by kernel_rfl
theorem cS : Tryz.prog.cellsOf 9 = 1 := by kernel_rfl
theorem star : "*" ++ "errors.errorString" = "*errors.errorString" := by decide
theorem rowE (u : TypeId) (h : Tryz.prog.typeName? 3 u = some "*errors.errorString") : u = 149 :=
  typeName_ptr_named (nm := "errors.errorString") (by rw [star]; kernel_rfl) (by kernel_rfl) (by decide) u (by rw [star]; exact h)
theorem gES : Tryz.prog.globalNamed "strconv.ErrSyntax" = some 1 := by kernel_rfl
theorem gEST : (Tryz.prog.globals[1]?).map (·.type) = some 86 := by kernel_rfl
theorem gER : Tryz.prog.globalNamed "strconv.ErrRange" = some 2 := by kernel_rfl
theorem gERT : (Tryz.prog.globals[2]?).map (·.type) = some 86 := by kernel_rfl
theorem laidE {W : World} (h0 : laidMetH Tryz.prog Rows.fnMatricesRow.laid W) : F.LaidE W := by
  rw [MakeChecks.laidMetH_plain _ _ _ (by kernel_rfl)] at h0
  have h := h0
  obtain ⟨aS, sS, vS, -, -, -⟩ := laid_sentinel (laidMet.tail (laidMet.tail (laidMet.tail (laidMet.tail (laidMet.tail h))))) gES gEST Tryz.underlying86 rowE Tryz.underlying149 Tryz.underlying151 rfl rfl Tryz.underlying9 cE cS
  obtain ⟨aR, sR, vR, -, -, -⟩ := laid_sentinel (laidMet.tail (laidMet.tail (laidMet.tail (laidMet.tail h)))) gER gERT Tryz.underlying86 rowE Tryz.underlying149 Tryz.underlying151 rfl rfl Tryz.underlying9 cE cS
  exact ⟨⟨_, _, by have z := World.var?_cell gES vS 0; simpa using z⟩, _, _, by have z := World.var?_cell gER vR 0; simpa using z⟩
theorem laidM {W : World} (h : W.ShapedOpen Tryz.prog) : F.LaidM W :=
  cell_of_shapedOpen_int (g := 0) (t := 3) (zero := #[.int .i64 0]) h (of_decide_eq_true (by kernel_rfl)) (by kernel_rfl) rfl (by kernel_rfl) (by kernel_rfl) Tryz.underlying3
set_option maxRecDepth 100000 in
theorem contract (H : Type) (enc : TypeId × Value → H) (W : World) (base : Nat) (args : Array Value) (ds gs : List (DataW H)) (before : List MemPlace)
    (hval0 : ∀ (j : Nat) t v, Tryz.f3.params[j]? = some t → args[j]? = some v → Value.okWide Tryz.prog W .any base t v)
    (hW : DataW.Whole enc Tryz.prog Tryz.f3.params.toList Rows.fnMatricesSpec.vars false W args.toList ds gs before)
    (hsz0 : (DataW.weightsEach Tryz.prog (Tryz.f3.params.toList ++ Rows.fnMatricesSpec.plain.varTypes Tryz.prog) (ds ++ gs)).all (· ≤ reachBytes) = true)
    (hL : laidMetH Tryz.prog Rows.fnMatricesRow.laid W) (hsh : W.ShapedOpen Tryz.prog) :
    Calls Tryz.prog 3 args W fun e W' => ∃ v, e = .returned v ∧ Rows.fnMatricesSpec.post enc Tryz.prog Tryz.f3 false true false false W args v W' := by
  have hsz : (DataW.weightsEach Tryz.prog (Tryz.f3.params.toList ++ Rows.fnMatricesSpec.plain.varTypes Tryz.prog) (ds ++ gs)).all (· ≤ reachBytes) = true := hsz0
  have hval : ∀ (j : Nat) t v, Tryz.f3.params[j]? = some t → args[j]? = some v → Value.okWide Tryz.prog W .any base t v := hval0
  have hW' := hW
  obtain ⟨p, q, hA0, hV, rfl, hfz, hnd⟩ := hW
  have hA : DataW.TrodAll enc Tryz.prog W 0 (fun _ => true) true Tryz.f3.params.toList args.toList ds p := hA0
  rw [Tryz.params3] at hA hval hsz
  obtain ⟨v0, vs0, d0, ds0, p0, q0, hargs, rfl, rfl, h0, r0⟩ := trodAll_cons hA
  obtain ⟨v1, vs1, d1, ds1, p1, q1, rfl, rfl, rfl, h1, r1⟩ := trodAll_cons r0
  obtain ⟨rfl, rfl, rfl⟩ := trodAll_nil r1
  obtain rfl : args = #[v0, v1] := by cases args; simp_all
  obtain ⟨rfl, rfl⟩ := trodVars_none hV
  obtain ⟨a0, len0, cap0, rfl⟩ := okWide_slice Tryz.underlying22 (hval 0 22 v0 rfl rfl)
  have k0 := h0
  have lt0 : ∀ x ∈ p0, x.block < W.heap.size := by obtain ⟨m, hm⟩ := k0; exact DataW.trod_lt m _ _ _ hm
  obtain ⟨z0, w0⟩ : ∃ zs, IsRow .u8 W a0 len0 cap0 zs := by
    obtain ⟨fuel, hf⟩ := h0
    rcases open_ints Tryz.underlying22 Tryz.underlying5 (by kernel_rfl) hf with ⟨hcs, _⟩ | ⟨x, l, c, zs, hcs, _, hl, hm, hz, _, hcell, hwz⟩
    · simp [Value.cells] at hcs
      obtain ⟨rfl, rfl, rfl⟩ := hcs
      exact ⟨[], .inl ⟨rfl, rfl, rfl, rfl⟩⟩
    · simp [Value.cells] at hcs
      obtain ⟨rfl, rfl, rfl⟩ := hcs
      exact ⟨zs, .inr ⟨_, rfl, hl, hm, by simpa using hz, hcell, hwz⟩⟩
  have y0 : len0 * 1 ≤ 140737488351232 := Go.Proofs.YtbalikebmacldaaGreatDoorW.PrintWords.sized_ints hsz (j := 0) (t := 22) rfl rfl Tryz.underlying22 Tryz.underlying5 (by kernel_rfl) (by kernel_rfl) h0
  obtain ⟨a1, len1, cap1, rfl⟩ := okWide_slice Tryz.underlying22 (hval 1 22 v1 rfl rfl)
  have k1 := h1
  have lt1 : ∀ x ∈ p1, x.block < W.heap.size := by obtain ⟨m, hm⟩ := k1; exact DataW.trod_lt m _ _ _ hm
  obtain ⟨z1, w1⟩ : ∃ zs, IsRow .u8 W a1 len1 cap1 zs := by
    obtain ⟨fuel, hf⟩ := h1
    rcases open_ints Tryz.underlying22 Tryz.underlying5 (by kernel_rfl) hf with ⟨hcs, _⟩ | ⟨x, l, c, zs, hcs, _, hl, hm, hz, _, hcell, hwz⟩
    · simp [Value.cells] at hcs
      obtain ⟨rfl, rfl, rfl⟩ := hcs
      exact ⟨[], .inl ⟨rfl, rfl, rfl, rfl⟩⟩
    · simp [Value.cells] at hcs
      obtain ⟨rfl, rfl, rfl⟩ := hcs
      exact ⟨zs, .inr ⟨_, rfl, hl, hm, by simpa using hz, hcell, hwz⟩⟩
  have y1 : len1 * 1 ≤ 140737488351232 := Go.Proofs.YtbalikebmacldaaGreatDoorW.PrintWords.sized_ints hsz (j := 1) (t := 22) rfl rfl Tryz.underlying22 Tryz.underlying5 (by kernel_rfl) (by kernel_rfl) h1
  clear hA0 hval0 hsz0 hsz
  refine (F.laws_FnMatrices.walk Pure.FnMatrices a0 len0 cap0 z0 a1 len1 cap1 z1 W w0 y0 w1 y1 (laidP hL) (laidE hL) (laidM hsh)).mono fun e W' ⟨he, bel⟩ => ?_
  subst he
  exact ⟨_, rfl, _, _, _, [], _, [], hW', trodAll_mk1 (shut_bool Tryz.underlying4 _), (trodAll_cons_mk (Below.trod laidOut (by kernel_rfl) (of_decide_eq_true (by kernel_rfl)) k0 bel lt0) (trodAll_cons_mk (Below.trod laidOut (by kernel_rfl) (of_decide_eq_true (by kernel_rfl)) k1 bel lt1) trodAll_mk0)), rfl, bel.frame _, fun h => by cases h⟩
noncomputable def first8 : Array Value := match Pinned.utf8First with
  | .agg ds => (ds.map fun d => match d with | .lit (.int k z) => Value.int k z | _ => .nilIface).toArray
  | _ => #[]
noncomputable def laidWorld (os : Os) : World := { World.doorLaid Tryz.prog 72 os with heap := (World.doorLaid Tryz.prog 72 os).heap.modify 4 fun
      | .cells _ t frozen => .cells first8 t frozen
      | o => o }
theorem laid_met (os : Os) : laidMet Tryz.prog Rows.fnMatricesRow.laid ((laidWorld os).forCall (fun _ _ => 0) ⟨#[], #[.slice none 0 0, .slice none 0 0], []⟩).memory :=
  laidMet_of_run' 8 (by kernel_rfl) (by kernel_rfl)
theorem reads (os : Os) {H : Type} (enc : TypeId × Value → H) : ∃ places, DataW.whole enc Tryz.prog ((laidWorld os).forCall (fun _ _ => 0) ⟨#[], #[.slice none 0 0, .slice none 0 0], []⟩).memory Tryz.f3.params.toList Rows.fnMatricesSpec.vars false (#[.slice none 0 0, .slice none 0 0] : Array Value).toList 8 = some ([.nil, .nil], [], places) :=
  ⟨[], by kernel_rfl⟩
set_option maxRecDepth 100000 in
theorem lifted (os : Os) (started : os.Started) (H : Type) (enc : TypeId × Value → H) (F : Stop.Interp) :
    ReturnsInHanded {} Tryz.checked os 3 .any ((OpenSpec.ofChange Rows.fnMatricesSpec).preRow enc Tryz.prog Tryz.f3 Rows.fnMatricesRow.domain false Rows.fnMatricesRow.laid) (((OpenSpec.ofChange Rows.fnMatricesSpec).at F).post enc Tryz.prog Tryz.f3 false true false false) := by
  obtain ⟨places, hx⟩ := reads os enc
  refine returnsInHanded_of_row (C := Tryz.checked) (s := OpenSpec.ofChange Rows.fnMatricesSpec) own started (by kernel_rfl) Tryz.func3
    (witness_row_atRef (enc := enc) (C := Tryz.checked) false (laidWorld os) #[.slice none 0 0, .slice none 0 0] rfl (by kernel_rfl) (by kernel_rfl) (by kernel_rfl)
      (OpenSpec.preRow_of_cond 8 hx (by kernel_rfl) (fun k hk => by cases hk) (by kernel_rfl) (laid_met os))) ?_
  intro W base args ds gs before hval hW _ _ hsz hL hsh _
  exact contract H enc W base args ds gs before hval hW hsz hL hsh
theorem said : Rows.FnMatricesSaid :=
  OpenClaim.holds_of_cond 3 Tryz.f3 rfl rfl rfl rfl rfl rfl rfl ⟨rfl, rfl, rfl, rfl, rfl⟩ rfl rfl rfl rfl rfl (by kernel_rfl) Tryz.func3 (by kernel_rfl)
    (of_decide_eq_true (by kernel_rfl)) (by unfold Func.isWrapper; first | (rw [if_pos (by decide +kernel)]; kernel_rfl) | (rw [if_neg (by decide +kernel)]; exact ⟨rfl, rfl⟩))
    (fun os started H enc _ F => by rw [OpenClaim.pre_eq_preRow]; exact lifted os started H enc F)
theorem standIns : (Tryz.f3.params.toList.all fun t => !Tryz.prog.wantsStandIn t) = true := by kernel_rfl
theorem plain (f : FuncId) (fn : Func) (hf : Tryz.pinned.checked.prog.funcNamed "loop.example/g01005/laws.FnMatrices" = some f) (hfn : Tryz.pinned.checked.prog.funcs[f]? = some fn) :
    true = Tryz.pinned.checked.prog.looks [] ∧ ∀ (j : Nat) t, fn.params[j]? = some t → Tryz.pinned.checked.prog.wantsStandIn t = false := by
  obtain rfl : f = 3 := Option.some.inj ((show Tryz.prog.funcNamed "loop.example/g01005/laws.FnMatrices" = some 3 by kernel_rfl).symm.trans hf) |>.symm
  obtain rfl : fn = Tryz.f3 := (Option.some.inj (Tryz.func3.symm.trans hfn)).symm
  refine ⟨by kernel_rfl, fun j t ht => ?_⟩
  have h := List.all_eq_true.mp standIns t (Array.mem_toList_iff.mpr (Array.mem_of_getElem? ht))
  exact (show Tryz.prog.wantsStandIn t = false by simpa using h)
theorem card : Rows.FnMatricesCardSaid :=
  Claim7.holds_tied_plain_at .later [] _ _ _ _ said (fun _ h => by cases h) (by kernel_rfl) (fun _ h => by cases h) fnMatrices_row_tie rfl ⟨rfl, rfl⟩ (by kernel_rfl) rfl plain (by kernel_rfl)
#print axioms card
end Go.Proofs.YtbalikebmacldaaGreatDoor.fnMatrices
namespace Go.Proofs.YtbalikebmacldaaGreatDoor
theorem fnMatrices_holds : Rows.FnMatricesCardSaid := fnMatrices.card
end Go.Proofs.YtbalikebmacldaaGreatDoor
end
