-- Texts of this claim, merged by pack.py (a program of this session's).
import Derived.Test.YtioooobmfcmefaaQFnExactJoinColumns0
import Derived.Test.YtioooobmfcmefaaQFnExactJoinColumns1
import Derived.Test.YtioooobmfcmefaaQFnExactJoinColumns4
import Derived.KernelRfl
import Derived.Test.YtioooobmfcmefaaQFnExactJoinColumns2
import Derived.Test.YtioooobmfcmefaaQFnExactJoinColumns5
import Derived.Test.YtioooobmfcmefaaQFnExactJoinColumns3
import Derived.Test.YtioooobmfcmefaaQFnExactJoinColumns6
import Derived.Test.YtioooobmfcmefaaQFnExactJoinColumns8
import Derived.Test.YtioooobmfcmefaaQFnExactJoinColumns7

section
namespace Go.Proofs.Ytioooobmfcmefaa.F
open Go.RowKit Go.Proofs.YtioooobmfcmefaaW.PrintWords Go.Proofs.YtioooobmfcmefaaW.PrintLast Go.Proofs.YtioooobmfcmefaaW.PrintMore
attribute [local go_sem] max2_int min2_int max_two min_two max_three min_three max_four min_four   -- for this text's walks alone
set_option linter.unusedVariables false
set_option linter.unusedSimpArgs false

/-! ### spec_l03Zero: function 50 -/
def spec_l03Zero.f (a0 : Int) (a1 : Int) (a2 : Int) : Option (Int × Int × Int × List Int) := if 0 ≤ (wrap64 (a1 * a2)) then (if (wrap64 (a1 * a2) : Int).toNat ≤ 35184372088832 then (some (a0, a1, a2, (List.replicate (wrap64 (a1 * a2) : Int).toNat 0))) else (none)) else (none)
theorem Z50.bb {w0 w w1 : World} {g : Nat} {o : Obj} (_B : Aside0 (w0.heap[g]? = some o)) (h : w.heap[g]? = some o) (hb : Below w.heap.size w w1) : w1.heap[g]? = some o := blk_below h hb
theorem Z50.bl {w0 w : World} {g : Nat} {o : Obj} (_B : Aside0 (w0.heap[g]? = some o)) (h : w.heap[g]? = some o) : g < w.heap.size := blk_lt h
theorem Z50.z1 {P : Prop} (h : P := by repeat (first | (with_reducible first | exact HB.out | apply below_alloc | apply pw_below_drewN | apply below_drew1) | exact HB.out)) : P := h
theorem Z50.z0 {P : Prop} (h : P := by repeat (first | (with_reducible first | exact HB.out | apply below_alloc | apply pw_below_drewN | apply below_drew1 | refine below_set ?_ GE101.out) | exact HB.out)) : P := h
set_option maxHeartbeats 8000000 in
set_option maxRecDepth 100000 in
theorem spec_l03Zero.calls (a0 : Int) (a1 : Int) (a2 : Int) (r1 : Int) (r2 : Int) (r3 : Int) (r4 : List Int) (w : World) (h : spec_l03Zero.f a0 a1 a2 = some (r1, r2, r3, r4)) :
  Calls Try.prog 50 #[.int .i64 a0, .int .i64 a1, .int .i64 a2] w fun e w' => ∃ v3_ : Value, e = .returned (.agg #[.int .i64 r1, .int .i64 r2, .int .i64 r3, v3_]) ∧ Kd.R (Kd.int .i64) 2 w' w.heap.size (fun _ => True) v3_ r4 ∧ Below w.heap.size w w' := by
 have hu24 := Try.underlying24
 have HB := Aside0.mk (Below.refl w.heap.size w)
 have H : (if 0 ≤ (wrap64 (a1 * a2)) then (if (wrap64 (a1 * a2) : Int).toNat ≤ 35184372088832 then (some (a0, a1, a2, (List.replicate (wrap64 (a1 * a2) : Int).toNat 0))) else (none)) else (none)) = some (r1, r2, r3, r4) := h
 clear h
 obtain ⟨ji4, hji4⟩ : ∃ j_ : Int, (wrap64 (a1 * a2)) = j_ := ⟨_, rfl⟩
 replace H : (if 0 ≤ (ji4) then (if (ji4 : Int).toNat ≤ 35184372088832 then (some (a0, a1, a2, (List.replicate (ji4 : Int).toNat 0))) else (none)) else (none)) = some (r1, r2, r3, r4) := by first | (rw [hji4] at H; exact H) | (simp only [hji4] at H ⊢; exact H)
 have hji4w : (IntKind.i64.wrap (a1 * a2)) = ji4 := (i64_w _).trans hji4
 by_cases c5 : 0 ≤ (ji4)
 ·rw [if_pos c5] at H
  have c5b0 := eq_true c5
  have c5b1 : decide (0 ≤ (ji4)) = true := decide_eq_true c5
  clear c5
  by_cases c6 : (ji4 : Int).toNat ≤ 35184372088832
  ·rw [if_pos c6] at H
   have c6b0 := eq_true c6
   have c6b1 : decide ((ji4 : Int).toNat ≤ 35184372088832) = true := decide_eq_true c6
   clear c6
   obtain ⟨y102, hy102⟩ : ∃ y_ : List Int, y_ = (List.replicate (ji4 : Int).toNat 0) := ⟨_, rfl⟩
   replace H : (some (a0, a1, a2, y102)) = some (r1, r2, r3, r4) := by first | (rw [hy102]; with_reducible exact H) | (have H2_ := (Option.bind_some _ _).symm.trans H; rw [hy102]; with_reducible exact H2_) | (have H2_ := (Option.bind_some _ _).symm.trans H; with_reducible exact H2_) | with_reducible exact H | (rw [hy102]; exact H) | exact H
   have Ny102 := Aside0.mk hy102
   clear hy102
   simp only [Option.some.injEq, Prod.mk.injEq] at H
   obtain ⟨rfl, rfl, rfl, rfl⟩ := H
   go_enter Try.func50, Try.ntmps50
   go_wp2_with (first | ((with_reducible refine gate_dst (N := 6) rfl ?_); refine box_event ?hg (N := 6) ?hd (cs := #[.int .i64 0, .int .i64 0, .int .i64 0, .slice none 0 0]) (t := 24) ?hr ?_; (case hd => rfl); (case hg => rfl); (case hr => first | (go_simp; done) | (go_simp; rfl)); intro gb101 hg w7 hbox hb; have n0_ := Aside0.mk (below_step Z50.z1 hb); have n1_ := Aside0.mk (hbox); have n2_ := Aside0.mk (show w.heap.size ≤ gb101 from (by rw [hg]; exact (below_size Z50.z1))); have n3_ := Aside0.mk (show w.heap.size ≤ gb101 from (by rw [hg]; exact (below_size Z50.z1))); clear HB; have HB := n0_; have BK101 := n1_; have GW101 := n2_; have GE101 := n3_; clear n0_ n1_ n2_ n3_; clear hb hbox hg) | ((with_reducible refine gate_dst (N := 13) rfl ?_); refine Kd.R_make (Kd.int .i64) _ 2 rfl (N := 13) rfl 22 _ _ rfl ji4 rfl rfl Try.underlying22 (.int .i64 0) 8 info2 rfl (by decide) (by omega) 0 (ok := fun _ => True) (okp := fun _ => True) rfl (fun _ hk => hk) trivial (of_decide_eq_true (by first | (with_reducible assumption) | assumption)) (Nat.le_trans (Nat.mul_le_mul_right _ (of_decide_eq_true (by first | (with_reducible assumption) | assumption) : ji4.toNat ≤ 35184372088832)) (by omega)) (Below.refl _ _) (Nat.le_refl _) ?_; intro v103 w8 ho9 hb hg_ hnew_; clear hg_ hnew_; (first | rw [← Ny102.out] at ho9 | (simp only [Int.reduceToNat] at ho9; rw [← Ny102.out] at ho9)); have n0_ := Aside0.mk (Kd.R_lower ho9 (below_size Z50.z0)); have n1_ := Aside0.mk (Z50.bb BK101 (by (with_reducible repeat (first | refine blk_drewN ?_ _ | refine blk_drew ?_ | refine blk_alloc ?_ _)); exact BK101.out) hb); have n2_ := Aside0.mk (below_step Z50.z0 hb); clear BK101 HB; have HO104 := n0_; have BK101 := n1_; have HB := n2_; clear n0_ n1_ n2_; clear hb ho9; obtain ⟨Ao10, co10, eo10⟩ := Kd.R_slice HO104.out; subst eo10; have hcz11_0 : w8.cell? ⟨gb101, 0, none⟩ = some (.int .i64 0) := (blk_cell BK101.out 0).trans rfl; have hcz11_1 : w8.cell? ⟨gb101, 1, none⟩ = some (.int .i64 0) := (blk_cell BK101.out 1).trans rfl; have hcz11_2 : w8.cell? ⟨gb101, 2, none⟩ = some (.int .i64 0) := (blk_cell BK101.out 2).trans rfl; have hcz11_3 : w8.cell? ⟨gb101, 3, none⟩ = some (.slice none 0 0) := (blk_cell BK101.out 3).trans rfl; have hfz11_0 := blk_frozen BK101.out 0; have hfz11_1 := blk_frozen BK101.out 1; have hfz11_2 := blk_frozen BK101.out 2; have hfz11_3 := blk_frozen BK101.out 3))
   refine bodyPost_ret (results_cell_row rfl _ _ gb101 24 #[.int .i64 a0, .int .i64 a1, .int .i64 a2, .slice Ao10 y102.length co10] (0, 0) _ rfl (by (with_reducible repeat (first | refine blk_drewN ?_ _ | refine blk_drew ?_ | refine blk_alloc ?_ _)); refine blk_put (cs := #[.int .i64 a0, .int .i64 a1, .int .i64 a2, .slice none 0 0]) ?_ 3 _ rfl; (with_reducible repeat (first | refine blk_drewN ?_ _ | refine blk_drew ?_ | refine blk_alloc ?_ _)); refine blk_put (cs := #[.int .i64 a0, .int .i64 a1, .int .i64 0, .slice none 0 0]) ?_ 2 _ rfl; (with_reducible repeat (first | refine blk_drewN ?_ _ | refine blk_drew ?_ | refine blk_alloc ?_ _)); refine blk_put (cs := #[.int .i64 a0, .int .i64 0, .int .i64 0, .slice none 0 0]) ?_ 1 _ rfl; (with_reducible repeat (first | refine blk_drewN ?_ _ | refine blk_drew ?_ | refine blk_alloc ?_ _)); refine blk_put (cs := #[.int .i64 0, .int .i64 0, .int .i64 0, .slice none 0 0]) ?_ 0 _ rfl; (with_reducible repeat (first | refine blk_drewN ?_ _ | refine blk_drew ?_ | refine blk_alloc ?_ _)); exact BK101.out) Try.underlying24 rfl (by kernel_rfl)) rfl ?_
   exact ⟨_, (by first | rfl | (simp [errW_none, errW_some] <;> rfl) | (simp only [← hji4]; first | rfl | (simp [errW_none, errW_some] <;> rfl)) | (simp [*, errW_none, errW_some] <;> rfl)), (by (with_reducible repeat (first | apply Kd.R_alloc | apply Kd.R_drewN | apply Kd.R_drew)); exact Kd.R_mono (Kd.R_far (p := ⟨gb101, 3, none⟩) (Kd.R_far (p := ⟨gb101, 2, none⟩) (Kd.R_far (p := ⟨gb101, 1, none⟩) (Kd.R_far (p := ⟨gb101, 0, none⟩) (Kd.R_types HO104.out BK101.out (by decide)) (fun _ hk => hk.2) (.int .i64 a0)) (fun _ hk => hk.2) (.int .i64 a1)) (fun _ hk => hk.2) (.int .i64 a2)) (fun _ hk => hk.2) (.slice Ao10 y102.length co10)) (fun _ hk => trivial)), Z50.z0⟩
  rw [if_neg c6] at H
  exact absurd H (by simp)
 rw [if_neg c5] at H
 exact absurd H (by simp)

end Go.Proofs.Ytioooobmfcmefaa.F
end

section
set_option linter.unusedVariables false
set_option linter.unusedSimpArgs false
set_option linter.unusedSectionVars false
namespace Go.Proofs.Ytioooobmfcmefaa.Lin

def primes251 : List Nat := [2,3,5,7,11,13,17,19,23,29,31,37,41,43,47,53,59,61,67,71,73,79,83,89,97,101,103,107,109,113,127,131,137,139,149,151,157,163,167,173,179,181,191,193,197,199,211,223,227,229,233,239,241,251]
/-- A prime up to 251. -/
def isP (p : Int) : Bool := decide (2 ≤ p) && decide (p ≤ 251) && decide (p.toNat ∈ primes251)
theorem isP_ge {p : Int} (h : isP p = true) : 2 ≤ p ∧ p ≤ 251 := by unfold isP at h; simp at h; omega
/-- One row gets a multiple of another one. -/
def addRow (p : Int) (a b : List Int) (c : Int) : List Int := List.zipWith (fun x y => (x + c * y) % p) a b
theorem getD_set {α : Type} (l : List α) (k : Nat) (v d : α) (hk : k < l.length) (i : Nat) : (l.set k v).getD i d = if i = k then v else l.getD i d := by
  simp only [List.getD_eq_getElem?_getD, List.getElem?_set]
  by_cases h : k = i
  · subst h; simp [hk]
  · simp [h, Ne.symm h]
theorem addRow_getD {p : Int} {a b : List Int} {c : Int} {j : Nat} (ha : j < a.length) (hb : j < b.length) : (addRow p a b c).getD j 0 = (a.getD j 0 + c * b.getD j 0) % p := by
  unfold addRow
  simp [List.getD_eq_getElem?_getD, List.getElem?_zipWith, List.getElem?_eq_getElem ha, List.getElem?_eq_getElem hb]
end Go.Proofs.Ytioooobmfcmefaa.Lin
end

section
set_option linter.unusedVariables false
set_option linter.unusedSimpArgs false
set_option linter.unusedSectionVars false
namespace Go.Proofs.Ytioooobmfcmefaa.F
open Go.RowKit Go.Proofs.YtioooobmfcmefaaW.PrintWords Go.Proofs.YtioooobmfcmefaaW.PrintLast Go.Proofs.Ytioooobmfcmefaa.Lin

theorem w64_id {x : Int} (h0 : -9223372036854775808 ≤ x) (h1 : x ≤ 9223372036854775807) : wrap64 x = x := by unfold wrap64; omega
theorem same_in : impl_within.f = spec_l00In.f := rfl
theorem in_tells (n lo hi : Int) : spec_l00In.f n lo hi = some (decide (lo ≤ n ∧ n ≤ hi)) := by
  unfold spec_l00In.f
  by_cases h : n ≥ lo
  · have : lo ≤ n := h
    simp [this]
  · have : ¬ lo ≤ n := h
    simp [this]
theorem ask_prime : impl_ValidPrime.f = spec_l02Prime.f := by kernel_rfl
theorem prime_small : ∀ n, n < 252 → spec_l02Prime.f 20 (n : Nat) = some (isP n) := by decide +kernel
theorem prime_at (p : Int) : spec_l02Prime.f 20 p = some (isP p) := by
  by_cases h : 2 ≤ p ∧ p ≤ 251
  · obtain ⟨n, rfl⟩ := Int.eq_ofNat_of_zero_le (show 0 ≤ p by omega)
    exact prime_small n (by omega)
  · have : isP p = false := by unfold isP; simp; omega
    rw [this]
    unfold spec_l02Prime.f spec_l00In.f
    by_cases h1 : p ≥ 2
    · have : ¬ p ≤ 251 := by omega
      simp [h1, this]
    · simp [h1]
theorem prime_tells (p : Int) {k : Nat} (hk : 20 ≤ k) : spec_l02Prime.f k p = some (isP p) := at_rounds (spec_l02Prime.mono p) hk (prime_at p)
end Go.Proofs.Ytioooobmfcmefaa.F
end

section
set_option linter.unusedVariables false
set_option linter.unusedSimpArgs false
set_option linter.unusedSectionVars false
namespace Go.Proofs.Ytioooobmfcmefaa.F
open Go.RowKit Go.Proofs.YtioooobmfcmefaaW.PrintWords Go.Proofs.YtioooobmfcmefaaW.PrintLast Go.Proofs.Ytioooobmfcmefaa.Lin

theorem w64_succ {i n : Nat} (h : i < n) (hn : n ≤ 35184372088832) : wrap64 ((i : Int) + 1) = ((i + 1 : Nat) : Int) := by
  rw [w64_id (x := (i : Int) + 1) (by omega) (by omega)]; omega
theorem rd_nat (l : List Int) (i : Nat) : rd l (i : Int) = l.getD i 0 := by unfold rd; rw [Int.toNat_natCast]
theorem getD_at {α : Type} {l : List α} {i : Nat} {d : α} (h : i < l.length) : l.getD i d = l[i] := by simp [List.getD_eq_getElem?_getD, h]
theorem ext_getD {l m : List Int} (hl : l.length = m.length) (h : ∀ j, j < l.length → l.getD j 0 = m.getD j 0) : l = m := by
  refine List.ext_getElem hl (fun j h1 h2 => ?_)
  have := h j h1
  rwa [getD_at h1, getD_at h2] at this
theorem copy_loop {l : List Int} (hl : l.length ≤ 35184372088832) (d : Nat) : ∀ (k i : Nat) (acc : List Int), l.length - i = d → i ≤ l.length → d < k → acc.length = l.length → (∀ j, j < i → acc.getD j 0 = l.getD j 0) →
    laws_toInt64S.l0 k l acc i = some l := by
  induction d with
  | zero =>
    intro k i acc hd hi hk ha h
    obtain ⟨k, rfl⟩ : ∃ m, k = m + 1 := ⟨k - 1, by omega⟩
    simp only [laws_toInt64S.l0]
    rw [if_neg (by omega), ext_getD ha (fun j hj => h j (by omega))]
  | succ d ih =>
    intro k i acc hd hi hk ha h
    obtain ⟨k, rfl⟩ : ∃ m, k = m + 1 := ⟨k - 1, by omega⟩
    simp only [laws_toInt64S.l0]
    rw [if_pos (by omega), if_pos (by omega), if_pos (by omega), w64_succ (n := l.length) (by omega) hl, Int.toNat_natCast, rd_nat]
    refine ih k (i + 1) _ (by omega) (by omega) (by omega) (by simp [ha]) (fun j hj => ?_)
    rw [getD_set _ _ _ _ (by omega)]
    by_cases e : j = i
    · rw [if_pos e, e]
    · rw [if_neg e]; exact h j (by omega)
/-- A copy is what is copied. -/
theorem copy_tells {l : List Int} (hl : l.length ≤ 35184372088832) {k : Nat} (hk : l.length < k) : laws_toInt64S.f k l = some l := by
  unfold laws_toInt64S.f
  rw [if_pos (by omega), if_pos (by omega), Int.toNat_natCast]
  exact copy_loop hl l.length k 0 _ (by omega) (by omega) hk (by simp) (fun j hj => by omega)
theorem eq_loop {a b : List Int} (ha : a.length ≤ 35184372088832) (hab : a.length = b.length) (d : Nat) : ∀ (k i : Nat), a.length - i = d → i ≤ a.length → d < k → (∀ j, j < i → a.getD j 0 = b.getD j 0) →
    laws_eqInt64S.l0 k a b i = some (decide (a = b)) := by
  induction d with
  | zero =>
    intro k i hd hi hk h
    obtain ⟨k, rfl⟩ : ∃ m, k = m + 1 := ⟨k - 1, by omega⟩
    simp only [laws_eqInt64S.l0]
    rw [if_neg (by omega), decide_eq_true (ext_getD hab (fun j hj => h j (by omega)))]
  | succ d ih =>
    intro k i hd hi hk h
    obtain ⟨k, rfl⟩ : ∃ m, k = m + 1 := ⟨k - 1, by omega⟩
    simp only [laws_eqInt64S.l0]
    rw [if_pos (by omega), if_pos (by omega), if_pos (by omega), w64_succ (n := a.length) (by omega) ha, rd_nat, rd_nat]
    by_cases e : a.getD i 0 = b.getD i 0
    · rw [if_pos e]
      refine ih k (i + 1) (by omega) (by omega) (by omega) (fun j hj => ?_)
      by_cases e2 : j = i
      · rw [e2]; exact e
      · exact h j (by omega)
    · rw [if_neg e, decide_eq_false (fun h => e (by rw [h]))]
theorem eq_tells {a b : List Int} (ha : a.length ≤ 35184372088832) {k : Nat} (hk : a.length < k) : laws_eqInt64S.f k a b = some (decide (a = b)) := by
  unfold laws_eqInt64S.f
  by_cases h : a.length = b.length
  · rw [if_pos (by omega)]
    exact eq_loop ha h a.length k 0 (by omega) (by omega) hk (fun j hj => by omega)
  · rw [if_neg (by omega), decide_eq_false (fun e => h (by rw [e]))]
/-- The marks: m, m + 1, .. -/
def iota (m : Int) (n : Nat) : List Int := (List.range n).map (fun j : Nat => m + (j : Int))
theorem iota_length (m : Int) (n : Nat) : (iota m n).length = n := by unfold iota; simp
theorem iota_getD (m : Int) {n j : Nat} (h : j < n) : (iota m n).getD j 0 = m + j := by unfold iota; simp [List.getD_eq_getElem?_getD, h]
theorem mark_loop {m0 : Int} {n : Nat} (hm : 0 ≤ m0) (hm' : m0 + n ≤ 4611686018427387904) (hn : n ≤ 35184372088832) (d : Nat) : ∀ (k i : Nat) (acc : List Int) (m : Int), n - i = d → i ≤ n → d < k → acc.length = n → m = m0 + i → (∀ j, j < i → acc.getD j 0 = m0 + j) →
    laws_markInt64S.l0 k acc m i = some (m0 + n, iota m0 n) := by
  induction d with
  | zero =>
    intro k i acc m hd hi hk ha he h
    obtain ⟨k, rfl⟩ : ∃ m, k = m + 1 := ⟨k - 1, by omega⟩
    simp only [laws_markInt64S.l0]
    rw [if_neg (by omega)]
    have e1 : m = m0 + n := by omega
    have e2 : acc = iota m0 n := ext_getD (by rw [iota_length, ha]) (fun j hj => by rw [h j (by omega), iota_getD m0 (by omega)])
    rw [e1, e2]
  | succ d ih =>
    intro k i acc m hd hi hk ha he h
    obtain ⟨k, rfl⟩ : ∃ m, k = m + 1 := ⟨k - 1, by omega⟩
    simp only [laws_markInt64S.l0]
    rw [if_pos (by omega), if_pos (by omega), w64_succ (n := n) (by omega) hn, Int.toNat_natCast, w64_id (x := m + 1) (by omega) (by omega)]
    refine ih k (i + 1) _ (m + 1) (by omega) (by omega) (by omega) (by simp [ha]) (by omega) (fun j hj => ?_)
    rw [getD_set _ _ _ _ (by omega)]
    by_cases e : j = i
    · rw [if_pos e, e]; exact he
    · rw [if_neg e]; exact h j (by omega)
theorem mark_tells {l : List Int} {m : Int} (hm : 0 ≤ m) (hm' : m + l.length ≤ 4611686018427387904) (hl : l.length ≤ 35184372088832) {k : Nat} (hk : l.length < k) : laws_markInt64S.f k l m = some (m + l.length, iota m l.length) := by
  unfold laws_markInt64S.f
  exact mark_loop hm hm' hl l.length k 0 l m (by omega) (by omega) hk rfl (by omega) (fun j hj => by omega)
theorem held_loop {m0 : Int} {n : Nat} (hm : 0 ≤ m0) (hm' : m0 + n ≤ 4611686018427387904) (hn : n ≤ 35184372088832) (d : Nat) : ∀ (k i : Nat) (m : Int), n - i = d → i ≤ n → d < k → m = m0 + i →
    laws_heldInt64S.l0 k (iota m0 n) m i = some (m0 + n) := by
  induction d with
  | zero =>
    intro k i m hd hi hk he
    obtain ⟨k, rfl⟩ : ∃ m, k = m + 1 := ⟨k - 1, by omega⟩
    simp only [laws_heldInt64S.l0, iota_length]
    rw [if_neg (by omega)]
    have e1 : m = m0 + n := by omega
    rw [e1]
  | succ d ih =>
    intro k i m hd hi hk he
    obtain ⟨k, rfl⟩ : ∃ m, k = m + 1 := ⟨k - 1, by omega⟩
    simp only [laws_heldInt64S.l0, iota_length]
    rw [if_pos (by omega), if_pos (by omega), rd_nat, iota_getD m0 (by omega), if_pos he.symm, w64_succ (n := n) (by omega) hn, w64_id (x := m + 1) (by omega) (by omega)]
    exact ih k (i + 1) (m + 1) (by omega) (by omega) (by omega) (by omega)
theorem held_tells {m : Int} {n : Nat} (hm : 0 ≤ m) (hm' : m + n ≤ 4611686018427387904) (hn : n ≤ 35184372088832) {k : Nat} (hk : n < k) : laws_heldInt64S.f k (iota m n) m = some (m + n) := by
  unfold laws_heldInt64S.f
  exact held_loop hm hm' hn n k 0 m (by omega) (by omega) hk (by omega)
end Go.Proofs.Ytioooobmfcmefaa.F
end

section
set_option linter.unusedVariables false
set_option linter.unusedSimpArgs false
set_option linter.unusedSectionVars false
namespace Go.Proofs.Ytioooobmfcmefaa.F
open Go.RowKit Go.Proofs.YtioooobmfcmefaaW.PrintWords Go.Proofs.YtioooobmfcmefaaW.PrintLast Go.Proofs.Ytioooobmfcmefaa.Lin

/-- A matrix as the list of its numbers. -/
def tab (r c : Nat) (f : Nat → Nat → Int) : List Int := (List.range (r * c)).map fun x => f (x / c) (x % c)
theorem tab_length (r c : Nat) (f) : (tab r c f).length = r * c := by unfold tab; simp
theorem at_div {c i j : Nat} (h : j < c) : (i * c + j) / c = i ∧ (i * c + j) % c = j := by
  rw [Nat.mul_comm]
  exact ⟨by rw [Nat.mul_add_div (by omega), Nat.div_eq_of_lt h]; omega, by rw [Nat.mul_add_mod, Nat.mod_eq_of_lt h]⟩
theorem at_lt {r c i j : Nat} (hi : i < r) (hj : j < c) : i * c + j < r * c := by
  have : (i + 1) * c ≤ r * c := Nat.mul_le_mul_right _ hi
  rw [Nat.succ_mul] at this
  omega
theorem tab_getD {r c : Nat} (f) {x : Nat} (h : x < r * c) : (tab r c f).getD x 0 = f (x / c) (x % c) := by
  unfold tab; simp [List.getD_eq_getElem?_getD, h]
theorem tab_at {r c i j : Nat} (f) (hi : i < r) (hj : j < c) : (tab r c f).getD (i * c + j) 0 = f i j := by
  rw [tab_getD f (at_lt hi hj), (at_div hj).1, (at_div hj).2]
theorem split_at {r c x : Nat} (h : x < r * c) : x / c < r ∧ x % c < c ∧ x / c * c + x % c = x := by
  have hc : 0 < c := by rcases Nat.eq_zero_or_pos c with e | e; · subst e; simp at h
                        · exact e
  exact ⟨Nat.div_lt_of_lt_mul (by rw [Nat.mul_comm]; exact h), Nat.mod_lt _ hc, Nat.div_add_mod' x c⟩
theorem tab_ext {r c : Nat} {f} {l : List Int} (hl : l.length = r * c) (h : ∀ i j, i < r → j < c → l.getD (i * c + j) 0 = f i j) : l = tab r c f := by
  refine ext_getD (by rw [hl, tab_length]) (fun x hx => ?_)
  rw [hl] at hx
  obtain ⟨h1, h2, h3⟩ := split_at hx
  have := h _ _ h1 h2
  rw [h3] at this
  rw [this, tab_getD f hx]
theorem tab_congr {r c : Nat} {f g : Nat → Nat → Int} (h : ∀ i j, i < r → j < c → f i j = g i j) : tab r c f = tab r c g :=
  tab_ext (tab_length r c f) (fun i j hi hj => by rw [tab_at f hi hj, h i j hi hj])
theorem tab_self {r c : Nat} {l : List Int} (hl : l.length = r * c) : tab r c (fun i j => l.getD (i * c + j) 0) = l :=
  (tab_ext hl (fun _ _ _ _ => rfl)).symm
theorem side_mul {r c : Nat} (hr : r ≤ 128) (hc : c ≤ 128) : r * c ≤ 16384 := Nat.mul_le_mul hr hc
theorem w64_at {r c i j : Nat} (hr : r ≤ 128) (hc : c ≤ 128) (hi : i ≤ r) (hj : j ≤ c) : wrap64 (wrap64 ((i : Int) * (c : Int)) + (j : Int)) = ((i * c + j : Nat) : Int) := by
  have h := side_mul (Nat.le_trans hi hr) hc
  have e : (i : Int) * (c : Int) = ((i * c : Nat) : Int) := by push_cast; rfl
  rw [e, w64_id (x := ((i * c : Nat) : Int)) (by omega) (by omega), w64_id (x := ((i * c : Nat) : Int) + (j : Int)) (by omega) (by omega)]
  push_cast; rfl
theorem w64_mulN {r c : Nat} (hr : r ≤ 128) (hc : c ≤ 128) : wrap64 ((r : Int) * (c : Int)) = ((r * c : Nat) : Int) := by
  have h := side_mul hr hc
  have e : (r : Int) * (c : Int) = ((r * c : Nat) : Int) := by push_cast; rfl
  rw [e, w64_id (x := ((r * c : Nat) : Int)) (by omega) (by omega)]
/-- The spec's matrix of zeros. -/
theorem zero_tells {r c : Nat} (hr : r ≤ 128) (hc : c ≤ 128) (p : Int) : spec_l03Zero.f p r c = some (p, (r : Int), (c : Int), tab r c (fun _ _ => 0)) := by
  unfold spec_l03Zero.f
  have h := side_mul hr hc
  rw [w64_mulN hr hc, if_pos (by omega), if_pos (by omega), Int.toNat_natCast]
  congr 4
  refine tab_ext (by simp) (fun i j hi hj => ?_)
  simp [List.getD_eq_getElem?_getD, at_lt hi hj]
theorem side_tells (n : Int) : impl_isSide.f n = some (decide (0 ≤ n ∧ n ≤ 32)) := by
  unfold impl_isSide.f
  rw [same_in, in_tells]; rfl
theorem specPrime_tells (p : Int) {k : Nat} (hk : 20 ≤ k) : spec_ValidPrime.f k p = some (isP p) := by
  unfold spec_ValidPrime.f
  rw [prime_tells p hk]; rfl
/-- A matrix in memory: what is compared, marked and held. -/
theorem eqMatrix_tells {p r c : Int} {l : List Int} (hl : l.length ≤ 35184372088832) {k : Nat} (hk : l.length < k) : laws_eqMatrix.f k p r c l p r c l = some true := by
  unfold laws_eqMatrix.f
  rw [eq_tells hl hk]
  simp
theorem markMatrix_tells {p r c : Int} {l : List Int} (hl : l.length ≤ 35184372088832) {k : Nat} (hk : l.length < k) : laws_markMatrix.f k p r c l 1 = some (1 + (l.length : Int), iota 1 l.length) := by
  unfold laws_markMatrix.f
  rw [mark_tells (by omega) (by omega) hl hk]; rfl
theorem heldMatrix_tells {p r c : Int} {n : Nat} (hl : n ≤ 35184372088832) {k : Nat} (hk : n < k) : laws_heldMatrix.f k p r c (iota 1 n) 1 = some (1 + (n : Int)) := by
  unfold laws_heldMatrix.f
  rw [held_tells (by omega) (by omega) hl hk]
  simp only [Option.bind_some]
  rw [if_neg (by omega)]
end Go.Proofs.Ytioooobmfcmefaa.F
end

section
set_option linter.unusedVariables false
set_option linter.unusedSimpArgs false
set_option linter.unusedSectionVars false
namespace Go.Proofs.Ytioooobmfcmefaa.F
open Go.RowKit Go.Proofs.YtioooobmfcmefaaW.PrintWords Go.Proofs.YtioooobmfcmefaaW.PrintLast Go.Proofs.Ytioooobmfcmefaa.Lin

/-- All numbers of a list are numbers modulo p. -/
def allM (l : List Int) (p : Int) : Bool := l.all fun x => decide (0 ≤ x) && decide (x < p)
theorem allM_iff {l : List Int} {p : Int} : allM l p = true ↔ ∀ x, x ∈ l → 0 ≤ x ∧ x < p := by unfold allM; simp
theorem areM_tells {l : List Int} {p : Int} (hp : isP p = true) : impl_areElements.f l p = some (allM l p) := by
  have := isP_ge hp
  unfold impl_areElements.f allM
  rw [w64_id (x := p - 1) (by omega) (by omega)]
  congr 1
  induction l with
  | nil => rfl
  | cons x l ih =>
    simp only [List.any_cons, List.all_cons, Bool.not_or, Bool.not_not]
    rw [ih]
    congr 2
    rw [decide_eq_decide]; omega
theorem allM_drop {l : List Int} {p : Int} {i : Nat} (h : i < l.length) : allM (l.drop i) p = (decide (0 ≤ l.getD i 0 ∧ l.getD i 0 ≤ p - 1) && allM (l.drop (i + 1)) p) := by
  rw [List.drop_eq_getElem_cons h]
  unfold allM
  simp only [List.all_cons]
  congr 1
  rw [getD_at h, ← Bool.decide_and, decide_eq_decide]; omega
theorem getD_inM {l : List Int} {p : Int} (hp : 2 ≤ p) (h : ∀ x, x ∈ l → 0 ≤ x ∧ x < p) (j : Nat) : 0 ≤ l.getD j 0 ∧ l.getD j 0 < p := by
  by_cases hj : j < l.length
  · rw [getD_at hj]; exact h _ (List.getElem_mem hj)
  · rw [List.getD_eq_getElem?_getD, List.getElem?_eq_none (by omega)]; simp; omega
theorem column_loop {l : List Int} {n p : Int} (hp : 2 ≤ p) (hp' : p ≤ 251) (hl : l.length ≤ 35184372088832) (d : Nat) : ∀ (k i : Nat), l.length - i = d → i ≤ l.length → d < k →
    spec_l03Column.l0 k l n p i = some (allM (l.drop i) p && decide ((l.length : Int) = n)) := by
  induction d with
  | zero =>
    intro k i hd hi hk
    obtain ⟨k, rfl⟩ : ∃ m, k = m + 1 := ⟨k - 1, by omega⟩
    simp only [spec_l03Column.l0]
    rw [if_neg (by omega), show l.drop i = [] from List.drop_eq_nil_of_le (by omega)]
    simp only [allM, List.all_nil, Bool.true_and]
    congr 1
  | succ d ih =>
    intro k i hd hi hk
    obtain ⟨k, rfl⟩ : ∃ m, k = m + 1 := ⟨k - 1, by omega⟩
    simp only [spec_l03Column.l0]
    rw [if_pos (by omega), if_pos (by omega), rd_nat, w64_id (x := p - 1) (by omega) (by omega), in_tells, w64_succ (n := l.length) (by omega) hl, allM_drop (i := i) (by omega)]
    simp only [Option.bind_some]
    cases h : decide (0 ≤ l.getD i 0 ∧ l.getD i 0 ≤ p - 1) with
    | false => simp
    | true => rw [if_pos rfl, ih k (i + 1) (by omega) (by omega) (by omega)]; simp
theorem column_tells {l : List Int} {n p : Int} (hp : 2 ≤ p) (hp' : p ≤ 251) (hl : l.length ≤ 35184372088832) {k : Nat} (hk : l.length < k) : spec_l03Column.f k l n p = some (allM l p && decide ((l.length : Int) = n)) := by
  unfold spec_l03Column.f
  exact column_loop hp hp' hl l.length k 0 (by omega) (by omega) hk
/-- A matrix of numbers modulo a prime, its sides at most 32. -/
def matOk (p r c : Int) (l : List Int) : Bool := isP p && (decide (0 ≤ r ∧ r ≤ 32) && (decide (0 ≤ c ∧ c ≤ 32) && (decide ((l.length : Int) = r * c) && allM l p)))
theorem matOk_iff {p r c : Int} {l : List Int} : matOk p r c l = true ↔ isP p = true ∧ (0 ≤ r ∧ r ≤ 32) ∧ (0 ≤ c ∧ c ≤ 32) ∧ (l.length : Int) = r * c ∧ ∀ x, x ∈ l → 0 ≤ x ∧ x < p := by
  unfold matOk; simp only [Bool.and_eq_true, decide_eq_true_eq, allM_iff]
theorem side_mulI {r c : Int} (hr : 0 ≤ r ∧ r ≤ 32) (hc : 0 ≤ c ∧ c ≤ 32) : wrap64 (r * c) = r * c ∧ 0 ≤ r * c ∧ r * c ≤ 1024 := by
  have h1 := Int.mul_nonneg hr.1 hc.1
  have h2 : r * c ≤ 32 * 32 := Int.mul_le_mul hr.2 hc.2 hc.1 (by omega)
  exact ⟨w64_id (by omega) (by omega), h1, by omega⟩
theorem specOk_tells (p r c : Int) {l : List Int} (hl : l.length ≤ 35184372088832) {k : Nat} (hk : l.length + 20 < k) : spec_l03Ok.f k p r c l = some (matOk p r c l) := by
  unfold spec_l03Ok.f matOk
  rw [specPrime_tells p (by omega)]
  cases hp : isP p with
  | false => simp
  | true =>
    have hp2 := isP_ge hp
    rw [in_tells, in_tells]
    by_cases h1 : 0 ≤ r ∧ r ≤ 32
    · by_cases h2 : 0 ≤ c ∧ c ≤ 32
      · rw [(side_mulI h1 h2).1, column_tells hp2.1 hp2.2 hl (by omega)]
        simp only [h1, h2, and_self, decide_true, Option.bind_some, if_true, Bool.true_and]
        rw [Bool.and_comm]
      · simp only [h1, h2, and_self, decide_true, decide_false, Option.bind_some, if_true, Bool.true_and, Bool.false_and]; rfl
    · simp only [h1, decide_false, Option.bind_some, if_true, Bool.true_and, Bool.false_and]; rfl
theorem implOk_tells (p r c : Int) {l : List Int} {k : Nat} (hk : 20 ≤ k) : impl_ValidMatrix.f k p r c l = some (matOk p r c l) := by
  unfold impl_ValidMatrix.f matOk
  rw [ask_prime, prime_tells p hk]
  cases hp : isP p with
  | false => simp
  | true =>
    have hp2 := isP_ge hp
    rw [side_tells, side_tells, areM_tells hp]
    by_cases h1 : 0 ≤ r ∧ r ≤ 32
    · by_cases h2 : 0 ≤ c ∧ c ≤ 32
      · rw [(side_mulI h1 h2).1]
        unfold impl_size_int64.f
        simp only [h1, h2, and_self, decide_true, Option.bind_some, if_true, Bool.true_and]
        by_cases h3 : (l.length : Int) = r * c
        · simp [h3]
        · simp [h3]
      · simp only [h1, h2, and_self, decide_true, decide_false, Option.bind_some, if_true, Bool.true_and, Bool.false_and]; rfl
    · simp only [h1, decide_false, Option.bind_some, if_true, Bool.true_and, Bool.false_and]; rfl
theorem szMatrix_tells (p r c : Int) {l : List Int} (hl : l.length ≤ maxLen) : laws_szMatrix.f p r c l 1048576 = some (if l.length ≤ 1048576 then 1048576 - (l.length : Int) else -1) := by
  unfold laws_szMatrix.f laws_szInt64S.f
  have hl : l.length ≤ 9223372036854775807 := hl
  rw [w64_id (x := 1048576 - (l.length : Int)) (by omega) (by omega)]
  by_cases h : l.length ≤ 1048576
  · rw [if_neg (by omega), if_pos h]
    simp only [Option.bind_some]
    rw [if_neg (by omega)]
  · rw [if_pos (by omega), if_neg h]; rfl
theorem toMatrix_tells (p r c : Int) {l : List Int} (hl : l.length ≤ 35184372088832) {k : Nat} (hk : l.length < k) : laws_toMatrix.f k p r c l = some (p, r, c, l) := by
  unfold laws_toMatrix.f
  rw [copy_tells hl hk]; rfl
theorem mul_small {p x y : Int} (hp : 2 ≤ p) (hp' : p ≤ 251) (hx : 0 ≤ x) (hx' : x ≤ 251) (hy : 0 ≤ y) (hy' : y < p) : 0 ≤ x * y ∧ x * y ≤ 63001 := by
  have g1 := Int.mul_nonneg hx hy
  have g2 : x * y ≤ 251 * 251 := Int.mul_le_mul hx' (by omega) hy (by omega)
  omega
theorem dimsM {p r c : Int} {l : List Int} (h : matOk p r c l = true) : ∃ R C : Nat, r = R ∧ c = C ∧ R ≤ 32 ∧ C ≤ 32 ∧ l.length = R * C ∧ (2 ≤ p ∧ p ≤ 251) ∧ ∀ j, 0 ≤ l.getD j 0 ∧ l.getD j 0 < p := by
  obtain ⟨hp, hr, hc, hl, hx⟩ := matOk_iff.mp h
  obtain ⟨R, rfl⟩ := Int.eq_ofNat_of_zero_le hr.1
  obtain ⟨C, rfl⟩ := Int.eq_ofNat_of_zero_le hc.1
  exact ⟨R, C, rfl, rfl, by omega, by omega, by exact_mod_cast hl, isP_ge hp, fun j => getD_inM (isP_ge hp).1 hx j⟩
end Go.Proofs.Ytioooobmfcmefaa.F
end

section
set_option linter.unusedVariables false
set_option linter.unusedSimpArgs false
set_option linter.unusedSectionVars false
namespace Go.Proofs.Ytioooobmfcmefaa.F
open Go.RowKit Go.Proofs.YtioooobmfcmefaaW.PrintWords Go.Proofs.YtioooobmfcmefaaW.PrintLast Go.Proofs.Ytioooobmfcmefaa.Lin

theorem szMatrix_at (p r c : Int) {l : List Int} (hl : l.length ≤ maxLen) {left : Int} (h0 : 0 ≤ left) (h1 : left ≤ 1048576) : laws_szMatrix.f p r c l left = some (if (l.length : Int) ≤ left then left - (l.length : Int) else -1) := by
  unfold laws_szMatrix.f laws_szInt64S.f
  have hl : l.length ≤ 9223372036854775807 := hl
  rw [w64_id (x := left - (l.length : Int)) (by omega) (by omega)]
  by_cases h : (l.length : Int) ≤ left
  · rw [if_neg (by omega), if_pos h]
    simp only [Option.bind_some]
    rw [if_neg (by omega)]
  · rw [if_pos (by omega), if_neg h]; rfl
theorem markMatrix_at {p r c m : Int} {l : List Int} (hm : 0 ≤ m) (hm' : m ≤ 35184372088832) (hl : l.length ≤ 35184372088832) {k : Nat} (hk : l.length < k) : laws_markMatrix.f k p r c l m = some (m + (l.length : Int), iota m l.length) := by
  unfold laws_markMatrix.f
  rw [mark_tells hm (by omega) hl hk]; rfl
theorem both_tells (p r c : Int) {l : List Int} (p' r' c' : Int) {l' : List Int} (hl : l.length ≤ 35184372088832) (hl' : l'.length ≤ 35184372088832) {k : Nat} (hk : l.length + 20 < k) (hk' : l'.length + 20 < k) :
    spec_l03Both.f k p r c l p' r' c' l' = some (matOk p r c l && matOk p' r' c' l') := by
  unfold spec_l03Both.f
  rw [specOk_tells p r c hl hk, specOk_tells p' r' c' hl' hk']
  cases matOk p r c l <;> rfl
end Go.Proofs.Ytioooobmfcmefaa.F
end

section
set_option linter.unusedVariables false
set_option linter.unusedSimpArgs false
set_option linter.unusedSectionVars false
namespace Go.Proofs.Ytioooobmfcmefaa.F
open Go.RowKit Go.Proofs.YtioooobmfcmefaaW.PrintWords Go.Proofs.YtioooobmfcmefaaW.PrintLast Go.Proofs.Ytioooobmfcmefaa.Lin

theorem range_map_snoc (g : Nat → Int) (n : Nat) : (List.range n).map g ++ [g n] = (List.range (n + 1)).map g := by rw [List.range_succ]; simp
theorem filled_row {cf : Cell2} {f : Nat → Nat → Int} {r c : Nat} (hr : r ≤ 128) (hc : c ≤ 128) {i : Nat} (hi : i < r) (h : ∀ j, j < c → cf.f i j = some (f i j)) (p : Int) (d : Nat) : ∀ (k j : Nat), c - j = d → j ≤ c →
    impl_filled.l1 cf (k + d + 1) c i r i c j p r c ((List.range (i * c + j)).map fun x => f (x / c) (x % c)) =
    impl_filled.l0 cf k c r ((i + 1 : Nat) : Int) p r c ((List.range ((i + 1) * c)).map fun x => f (x / c) (x % c)) := by
  induction d with
  | zero =>
    intro k j hd hj
    obtain rfl : j = c := by omega
    rw [show k + 0 + 1 = k + 1 by omega]
    simp only [impl_filled.l1]
    rw [if_neg (by omega), w64_succ (n := r) hi (by omega), Nat.succ_mul]
  | succ d ih =>
    intro k j hd hj
    have hj' : j < c := by omega
    have hlt := at_lt hi hj'
    have hm := side_mul hr hc
    rw [show k + (d + 1) + 1 = (k + d + 1) + 1 by omega]
    simp only [impl_filled.l1]
    rw [if_pos (by omega), h j hj']
    simp only [Option.bind_some, List.length_map, List.length_range]
    rw [if_pos (by omega), w64_succ (n := c) hj' (by omega)]
    have e : f i j = (fun x => f (x / c) (x % c)) (i * c + j) := by simp only [(at_div hj').1, (at_div hj').2]
    rw [e, range_map_snoc]
    exact ih k (j + 1) (by omega) (by omega)
theorem filled_loop {cf : Cell2} {f : Nat → Nat → Int} {r c : Nat} (hr : r ≤ 128) (hc : c ≤ 128) (h : ∀ i j, i < r → j < c → cf.f i j = some (f i j)) (p : Int) (d : Nat) : ∀ (k i : Nat), r - i = d → i ≤ r → d * (c + 2) < k →
    impl_filled.l0 cf k c r i p r c ((List.range (i * c)).map fun x => f (x / c) (x % c)) = some (p, (r : Int), (c : Int), tab r c f) := by
  induction d with
  | zero =>
    intro k i hd hi hk
    obtain ⟨k, rfl⟩ : ∃ m, k = m + 1 := ⟨k - 1, by omega⟩
    obtain rfl : i = r := by omega
    simp only [impl_filled.l0]
    rw [if_neg (by omega)]
    rfl
  | succ d ih =>
    intro k i hd hi hk
    rw [Nat.succ_mul] at hk
    obtain ⟨k, rfl⟩ : ∃ m, k = m + c + 1 + 1 := ⟨k - c - 1 - 1, by omega⟩
    simp only [impl_filled.l0]
    rw [if_pos (by omega)]
    have := filled_row hr hc (show i < r by omega) (fun j hj => h i j (by omega) hj) p c k 0 (by omega) (by omega)
    rw [show i * c + 0 = i * c from rfl] at this
    rw [show (0 : Int) = ((0 : Nat) : Int) from rfl, this]
    exact ih k (i + 1) (by omega) (by omega) (by omega)
/-- 'filled' tells the matrix whose numbers its function tells. -/
theorem filled_tells {cf : Cell2} {f : Nat → Nat → Int} {r c : Nat} (hr : r ≤ 128) (hc : c ≤ 128) (h : ∀ i j, i < r → j < c → cf.f i j = some (f i j)) (p a3 : Int) {k : Nat} (hk : 17000 ≤ k) :
    impl_filled.f cf k p r c a3 = some (p, (r : Int), (c : Int), tab r c f) := by
  have h2 : r * (c + 2) ≤ 128 * 130 := Nat.mul_le_mul hr (by omega)
  have := filled_loop hr hc h p r k 0 (by omega) (by omega) (by omega)
  unfold impl_filled.f
  rw [show ([] : List Int) = (List.range (0 * c)).map fun x => f (x / c) (x % c) by simp]
  exact this
end Go.Proofs.Ytioooobmfcmefaa.F
end

section
set_option linter.unusedVariables false
set_option linter.unusedSimpArgs false
set_option linter.unusedSectionVars false
namespace Go.Proofs.Ytioooobmfcmefaa.F
open Go.RowKit Go.Proofs.YtioooobmfcmefaaW.PrintWords Go.Proofs.YtioooobmfcmefaaW.PrintLast Go.Proofs.Ytioooobmfcmefaa.Lin

/-- A number of a matrix by its row and column. -/
theorem at_tells {p r c : Int} {l : List Int} {R C : Nat} (hr : R ≤ 128) (hc : C ≤ 128) (ec : c = C) (hl : l.length = R * C) {i j : Nat} (hi : i < R) (hj : j < C) : impl_Matrix_at.f p r c l i j = some (l.getD (i * C + j) 0) := by
  subst ec
  have h := at_lt hi hj
  unfold impl_Matrix_at.f
  rw [w64_at (r := R) hr hc (by omega) (by omega), if_pos (by omega), if_pos (by omega), rd_nat]
end Go.Proofs.Ytioooobmfcmefaa.F
end

section
set_option linter.unusedVariables false
set_option linter.unusedSimpArgs false
set_option linter.unusedSectionVars false
namespace Go.Proofs.Ytioooobmfcmefaa.F
open Go.RowKit Go.Proofs.YtioooobmfcmefaaW.PrintWords Go.Proofs.YtioooobmfcmefaaW.PrintLast Go.Proofs.Ytioooobmfcmefaa.Lin

theorem slice_row {l : List Int} {r c i : Nat} (hl : l.length = r * c) (hi : i < r) : (l.take ((i + 1) * c)).drop (i * c) = (List.range c).map (fun j => l.getD (i * c + j) 0) := by
  have h1 : (i + 1) * c ≤ r * c := Nat.mul_le_mul_right _ hi
  have h2 := Nat.succ_mul i c
  have h4 : ((l.take ((i + 1) * c)).drop (i * c)).length = c := by
    rw [List.length_drop, List.length_take, Nat.min_eq_left (by rw [hl]; exact h1), h2, Nat.add_sub_cancel_left]
  refine List.ext_getElem (by rw [h4]; simp) (fun j hj hj' => ?_)
  have hj2 : j < c := by rw [h4] at hj; exact hj
  have h3 := at_lt hi hj2
  rw [List.getElem_drop, List.getElem_take, List.getElem_map, List.getElem_range, List.getD_eq_getElem?_getD, List.getElem?_eq_getElem (by omega)]
  rfl
end Go.Proofs.Ytioooobmfcmefaa.F
end

section
set_option linter.unusedVariables false
set_option linter.unusedSimpArgs false
set_option linter.unusedSectionVars false
namespace Go.Proofs.Ytioooobmfcmefaa.F
open Go.RowKit Go.Proofs.YtioooobmfcmefaaW.PrintWords Go.Proofs.YtioooobmfcmefaaW.PrintLast Go.Proofs.Ytioooobmfcmefaa.Lin

/-- The rows of a matrix and the rows of another, side by side. -/
def joined (r c c' : Nat) (l l' : List Int) : List Int := tab r (c + c') (fun i j => if j < c then l.getD (i * c + j) 0 else l'.getD (i * c' + (j - c)) 0)
theorem tab_succ (r c : Nat) (f : Nat → Nat → Int) : tab (r + 1) c f = tab r c f ++ (List.range c).map (f r) := by
  unfold tab
  rw [Nat.succ_mul, List.range_add, List.map_append]
  congr 1
  rw [List.map_map]
  refine List.map_congr_left (fun x hx => ?_)
  have hx : x < c := by simpa using hx
  simp only [Function.comp, (at_div (i := r) hx).1, (at_div (i := r) hx).2]
theorem range_two (c c' : Nat) (f g : Nat → Int) : (List.range c).map f ++ (List.range c').map g = (List.range (c + c')).map (fun j => if j < c then f j else g (j - c)) := by
  refine List.ext_getElem (by simp) (fun j hj hj' => ?_)
  have h : j < c + c' := by simpa using hj'
  rw [List.getElem_map, List.getElem_range]
  by_cases q : j < c
  · rw [List.getElem_append_left (by simpa using q), List.getElem_map, List.getElem_range, if_pos q]
  · rw [List.getElem_append_right (by simpa using q), List.getElem_map, List.getElem_range, if_neg q]
    simp
theorem join_loop {p p' r' : Int} {r c c' : Nat} (hr : r ≤ 64) (hc : c ≤ 64) (hc' : c' ≤ 64) {l l' : List Int} (hl : l.length = r * c) (hl' : l'.length = r * c') (q1 q2 q3 : Int) (d : Nat) : ∀ (k i : Nat), r - i = d → i ≤ r → d < k →
    spec_l03Join.l0 k i p r c l p' r' c' l' q1 q2 q3 (joined i c c' l l') = some (q1, q2, q3, joined r c c' l l') := by
  have h0 : 16384 + 64 < 17592186044416 := by omega
  have h00 : 16384 + 64 + 64 < 17592186044416 := by omega
  induction d with
  | zero =>
    intro k i hd hi hk
    obtain ⟨k, rfl⟩ : ∃ m, k = m + 1 := ⟨k - 1, by omega⟩
    obtain rfl : i = r := by omega
    simp only [spec_l03Join.l0]
    rw [if_neg (by omega)]
  | succ d ih =>
    intro k i hd hi hk
    obtain ⟨k, rfl⟩ : ∃ m, k = m + 1 := ⟨k - 1, by omega⟩
    have hi' : i < r := by omega
    have a1 : i ≤ 128 := by omega
    have a2 : i + 1 ≤ 128 := by omega
    have a3 : c ≤ 128 := by omega
    have a4 : c' ≤ 128 := by omega
    have a5 : c + c' ≤ 128 := by omega
    have a6 : r - (i + 1) = d := by omega
    have a7 : d < k := by omega
    have a8 : r ≤ 35184372088832 := by omega
    have e1 : wrap64 ((i : Int) + 1) = ((i + 1 : Nat) : Int) := w64_succ (n := r) hi' a8
    have m1 := w64_mulN a1 a3
    have m2 := w64_mulN a2 a3
    have m3 := w64_mulN a1 a4
    have m4 := w64_mulN a2 a4
    have g1 : (i + 1) * c ≤ r * c := Nat.mul_le_mul_right _ hi'
    have g2 : (i + 1) * c' ≤ r * c' := Nat.mul_le_mul_right _ hi'
    have g3 : (i + 1) * c = i * c + c := Nat.succ_mul i c
    have g4 : (i + 1) * c' = i * c' + c' := Nat.succ_mul i c'
    have g7 := side_mul a1 a5
    have s1 := slice_row hl hi'
    have s2 := slice_row hl' hi'
    have t1 : (joined i c c' l l').length = i * (c + c') := by unfold joined; rw [tab_length]
    have t2 : (joined i c c' l l' ++ (List.range c).map (fun j => l.getD (i * c + j) 0)).length = i * (c + c') + c := by rw [List.length_append, t1]; simp
    have n1 : (0 : Int) ≤ ((i * c : Nat) : Int) := Int.natCast_nonneg _
    have n2 : ((i * c : Nat) : Int) ≤ (((i + 1) * c : Nat) : Int) := Int.ofNat_le.mpr (by rw [g3]; exact Nat.le_add_right _ _)
    have n3 : (((i + 1) * c : Nat) : Int) ≤ (l.length : Int) := Int.ofNat_le.mpr (by rw [hl]; exact g1)
    have n4 : (0 : Int) ≤ ((i * c' : Nat) : Int) := Int.natCast_nonneg _
    have n5 : ((i * c' : Nat) : Int) ≤ (((i + 1) * c' : Nat) : Int) := Int.ofNat_le.mpr (by rw [g4]; exact Nat.le_add_right _ _)
    have n6 : (((i + 1) * c' : Nat) : Int) ≤ (l'.length : Int) := Int.ofNat_le.mpr (by rw [hl']; exact g2)
    have n0 : (i : Int) < (r : Int) := Int.ofNat_lt.mpr hi'
    have n7 : (joined i c c' l l').length + ((List.range c).map (fun j => l.getD (i * c + j) 0)).length < 17592186044416 := by
      rw [t1, List.length_map, List.length_range]
      exact Nat.lt_of_le_of_lt (Nat.add_le_add g7 hc) h0
    have n8 : (joined i c c' l l' ++ (List.range c).map (fun j => l.getD (i * c + j) 0)).length + ((List.range c').map (fun j => l'.getD (i * c' + j) 0)).length < 17592186044416 := by
      rw [t2, List.length_map, List.length_range]
      exact Nat.lt_of_le_of_lt (Nat.add_le_add (Nat.add_le_add g7 hc) hc') h00
    simp only [spec_l03Join.l0]
    simp only [e1, m1, m2, m3, m4, Int.toNat_natCast, s1, s2, n0, n1, n2, n3, n4, n5, n6, n7, if_true, Option.bind_some]
    rw [if_pos n8]
    have e : joined i c c' l l' ++ (List.range c).map (fun j => l.getD (i * c + j) 0) ++ (List.range c').map (fun j => l'.getD (i * c' + j) 0) = joined (i + 1) c c' l l' := by
      unfold joined
      rw [tab_succ, List.append_assoc, range_two]
    rw [e]
    exact ih k (i + 1) a6 hi' a7
theorem specJoin_tells {p p' r' : Int} {r c c' : Nat} (hr : r ≤ 64) (hc : c ≤ 64) (hc' : c' ≤ 64) {l l' : List Int} (hl : l.length = r * c) (hl' : l'.length = r * c') {k : Nat} (hk : r < k) :
    spec_l03Join.f k p r c l p' r' c' l' = some (p, (r : Int), ((c + c' : Nat) : Int), joined r c c' l l') := by
  unfold spec_l03Join.f
  have e : wrap64 ((c : Int) + (c' : Int)) = ((c + c' : Nat) : Int) := by rw [w64_id (by omega) (by omega)]; push_cast; rfl
  rw [e, show ([] : List Int) = joined 0 c c' l l' by unfold joined tab; simp]
  exact join_loop hr hc hc' hl hl' _ _ _ r k 0 (by omega) (by omega) hk
theorem implJoin_tells {p p' r' a3 : Int} {r c c' : Nat} (hr : r ≤ 64) (hc : c ≤ 64) (hc' : c' ≤ 64) {l l' : List Int} (hl : l.length = r * c) (hl' : l'.length = r * c') (hr' : r' = r) {k : Nat} (hk : 17000 ≤ k) :
    impl_filled.f (impl_JoinColumns_1.cell p r c l p' r' c' l') k p r ((c + c' : Nat) : Int) a3 = some (p, (r : Int), ((c + c' : Nat) : Int), joined r c c' l l') := by
  refine filled_tells (f := fun i j => if j < c then l.getD (i * c + j) 0 else l'.getD (i * c' + (j - c)) 0) (by omega) (by omega) (fun i j hi hj => ?_) p a3 hk
  show (if (j : Int) < (c : Int) then impl_Matrix_at.f p r c l i j else impl_Matrix_at.f p' r' c' l' i (wrap64 ((j : Int) - (c : Int)))) = _
  by_cases h : j < c
  · rw [if_pos (by omega), at_tells (R := r) (C := c) (by omega) (by omega) rfl hl hi h, if_pos h]
  · rw [if_neg (by omega), w64_id (by omega) (by omega), show (j : Int) - (c : Int) = ((j - c : Nat) : Int) by omega, at_tells (R := r) (C := c') (by omega) (by omega) rfl hl' hi (by omega), if_neg h]
def joinOut (p r c : Int) (a : List Int) (p' r' c' : Int) (b : List Int) : Int × Int × Int × List Int × Int := if (matOk p r c a && matOk p' r' c' b) = true then if p = p' ∧ r = r' then if c + c' ≤ 32 then (p, r, ((c.toNat + c'.toNat : Nat) : Int), joined r.toNat c.toNat c'.toNat a b, 0) else (0, 0, 0, [], 5) else (0, 0, 0, [], 6) else (0, 0, 0, [], 1)
theorem spec_joinM (p r c p' r' c' : Int) {a b : List Int} (hl : a.length ≤ 1048576) (hl' : b.length ≤ 1048576) {k : Nat} (hk : a.length + b.length + 17000 ≤ k) : spec_JoinColumns.f k p r c a p' r' c' b = some (joinOut p r c a p' r' c' b) := by
  unfold spec_JoinColumns.f joinOut
  obtain ⟨k, rfl⟩ : ∃ m, k = m + 1 := ⟨k - 1, by omega⟩
  rw [both_tells p r c p' r' c' (by omega) (by omega) (by omega) (by omega)]
  cases h : (matOk p r c a && matOk p' r' c' b) with
  | false => simp
  | true =>
    rw [Bool.and_eq_true] at h
    obtain ⟨R, C, rfl, rfl, h1, h2, h3, hp, hx⟩ := dimsM h.1
    obtain ⟨R', C', rfl, rfl, h1', h2', h3', hp', hx'⟩ := dimsM h.2
    simp only [Option.bind_some, if_true, spec_JoinColumns.j0]
    by_cases e1 : p = p'
    · subst e1
      by_cases e2 : (R : Int) = (R' : Int)
      · have : R = R' := by omega
        subst this
        have w : wrap64 ((C : Int) + (C' : Int)) = (C : Int) + (C' : Int) := w64_id (by omega) (by omega)
        by_cases e3 : (C : Int) + (C' : Int) ≤ 32
        · have g : ¬ (C : Int) + (C' : Int) > 32 := by omega
          have e := specJoin_tells (p := p) (p' := p) (r' := (R : Int)) (show R ≤ 64 by omega) (show C ≤ 64 by omega) (show C' ≤ 64 by omega) h3 h3' (k := k) (by omega)
          simp only [w, g, bne_self_eq_false, Bool.false_eq_true, if_false, if_true, and_self, e, e3, Option.bind_some, Int.toNat_natCast]
        · have g : (C : Int) + (C' : Int) > 32 := by omega
          simp only [w, g, bne_self_eq_false, Bool.false_eq_true, if_false, if_true, and_self, e3]
      · simp [e2]
    · simp [e1]
theorem impl_joinM (p r c p' r' c' : Int) {a b : List Int} {k : Nat} (hk : 18000 ≤ k) : impl_JoinColumns.f k p r c a p' r' c' b = some (joinOut p r c a p' r' c' b) := by
  unfold impl_JoinColumns.f joinOut
  obtain ⟨k, rfl⟩ : ∃ m, k = m + 1 + 1 := ⟨k - 2, by omega⟩
  rw [implOk_tells p r c (by omega), implOk_tells p' r' c' (by omega)]
  cases h : matOk p r c a with
  | false => simp [impl_JoinColumns.j0]
  | true =>
    cases h' : matOk p' r' c' b with
    | false => simp [impl_JoinColumns.j0]
    | true =>
      obtain ⟨R, C, rfl, rfl, h1, h2, h3, hp, hx⟩ := dimsM h
      obtain ⟨R', C', rfl, rfl, h1', h2', h3', hp', hx'⟩ := dimsM h'
      simp only [Option.bind_some, if_true, impl_JoinColumns.j0, Bool.not_true, Bool.false_eq_true, if_false, Bool.and_self]
      by_cases e1 : p = p'
      · subst e1
        by_cases e2 : (R : Int) = (R' : Int)
        · have : R = R' := by omega
          subst this
          have w : wrap64 ((C : Int) + (C' : Int)) = ((C + C' : Nat) : Int) := by rw [w64_id (by omega) (by omega)]; push_cast; rfl
          simp only [bne_self_eq_false, impl_JoinColumns.j1, Bool.false_eq_true, if_false, if_true, and_self, w, side_tells, Option.bind_some]
          by_cases e3 : (C : Int) + (C' : Int) ≤ 32
          · have g : 0 ≤ ((C + C' : Nat) : Int) ∧ ((C + C' : Nat) : Int) ≤ 32 := by omega
            have e := implJoin_tells (p := p) (p' := p) (r' := (R : Int)) (a3 := 0) (show R ≤ 64 by omega) (show C ≤ 64 by omega) (show C' ≤ 64 by omega) h3 h3' rfl (k := k) (by omega)
            simp only [g, and_self, decide_true, if_true, e, e3, Option.bind_some, Int.toNat_natCast]
          · have g : ¬ (0 ≤ ((C + C' : Nat) : Int) ∧ ((C + C' : Nat) : Int) ≤ 32) := by omega
            simp only [g, decide_false, Bool.false_eq_true, if_false, e3]
        · simp [e2, impl_JoinColumns.j1]
      · simp [e1, impl_JoinColumns.j1]
theorem joinOut_length (p r c p' r' c' : Int) (a b : List Int) : (joinOut p r c a p' r' c' b).2.2.2.1.length ≤ 16384 := by
  unfold joinOut
  split
  · rename_i h
    rw [Bool.and_eq_true] at h
    obtain ⟨R, C, rfl, rfl, h1, h2, h3, hp, hx⟩ := dimsM h.1
    obtain ⟨R', C', rfl, rfl, h1', h2', h3', hp', hx'⟩ := dimsM h.2
    split
    · split
      · simp only [joined, tab_length, Int.toNat_natCast]; exact side_mul (by omega) (by omega)
      · simp
    · simp
  · simp
end Go.Proofs.Ytioooobmfcmefaa.F
end

section
/- Both functions refuse the same pairs of matrices and return the same matrix of their rows side by side, in memory of its own; the matrices stay as they are. -/
set_option linter.unusedVariables false
set_option linter.unusedSimpArgs false
set_option linter.unusedSectionVars false
namespace Go.Proofs.Ytioooobmfcmefaa.F
open Go.RowKit Go.Proofs.YtioooobmfcmefaaW.PrintWords Go.Proofs.YtioooobmfcmefaaW.PrintLast Go.Proofs.Ytioooobmfcmefaa.Lin

theorem FnExactJoinColumns_pure : laws_FnExactJoinColumns.Pure := by
  intro p r c a p' r' c' b _ _ _ hm _ _ _ _ hm' _
  by_cases hl : a.length ≤ 1048576
  · by_cases hl' : b.length ≤ 1048576 - a.length
    · have ho := joinOut_length p r c p' r' c' a b
      obtain ⟨B, hB⟩ : ∃ B, B = a.length + b.length + 40000 := ⟨_, rfl⟩
      have c1 : ∀ k, B ≤ k → laws_toMatrix.f k p r c a = some (p, r, c, a) := fun k hk => toMatrix_tells p r c (by omega) (by omega)
      have c1' : ∀ k, B ≤ k → laws_toMatrix.f k p' r' c' b = some (p', r', c', b) := fun k hk => toMatrix_tells p' r' c' (by omega) (by omega)
      have c2 : ∀ k, B ≤ k → spec_JoinColumns.f k p r c a p' r' c' b = some (joinOut p r c a p' r' c' b) := fun k hk => spec_joinM p r c p' r' c' (by omega) (by omega) (by omega)
      have c3 : ∀ k, B ≤ k → impl_JoinColumns.f k p r c a p' r' c' b = some (joinOut p r c a p' r' c' b) := fun k hk => impl_joinM p r c p' r' c' (by omega)
      generalize joinOut p r c a p' r' c' b = o at *
      obtain ⟨o1, o2, o3, o, code⟩ := o
      dsimp only at ho
      have c4 : ∀ k, B ≤ k → laws_eqMatrix.f k p r c a p r c a = some true := fun k hk => eqMatrix_tells (by omega) (by omega)
      have c4' : ∀ k, B ≤ k → laws_eqMatrix.f k p' r' c' b p' r' c' b = some true := fun k hk => eqMatrix_tells (by omega) (by omega)
      have c5 : ∀ k, B ≤ k → laws_eqMatrix.f k o1 o2 o3 o o1 o2 o3 o = some true := fun k hk => eqMatrix_tells (by omega) (by omega)
      have c6 : ∀ k, B ≤ k → laws_markMatrix.f k p r c a 1 = some (1 + (a.length : Int), iota 1 a.length) := fun k hk => markMatrix_tells (by omega) (by omega)
      have c6' : ∀ k, B ≤ k → laws_markMatrix.f k p' r' c' b (1 + (a.length : Int)) = some (1 + (a.length : Int) + (b.length : Int), iota (1 + (a.length : Int)) b.length) := fun k hk => markMatrix_at (by omega) (by omega) (by omega) (by omega)
      have c7 : ∀ k, B ≤ k → laws_markMatrix.f k o1 o2 o3 o 1 = some (1 + (o.length : Int), iota 1 o.length) := fun k hk => markMatrix_tells (by omega) (by omega)
      have c8 : ∀ k, B ≤ k → laws_heldMatrix.f k o1 o2 o3 (iota 1 o.length) 1 = some (1 + (o.length : Int)) := fun k hk => heldMatrix_tells (by omega) (by omega)
      have n0 : ¬ (1048576 - (a.length : Int) < 0) := by omega
      have n0' : ¬ (1048576 - (a.length : Int) - (b.length : Int) < 0) := by omega
      have n1 : ¬ (1 + (a.length : Int) + (b.length : Int) < 0) := by omega
      have n2 : ¬ (1 + (o.length : Int) < 0) := by omega
      have z1 : laws_szMatrix.f p r c a 1048576 = some (1048576 - (a.length : Int)) := by rw [szMatrix_tells p r c hm, if_pos hl]
      have z2 : laws_szMatrix.f p' r' c' b (1048576 - (a.length : Int)) = some (1048576 - (a.length : Int) - (b.length : Int)) := by rw [szMatrix_at p' r' c' hm' (by omega) (by omega), if_pos (by omega)]
      refine ⟨B + 1 + 1 + 1, ?_⟩
      unfold laws_FnExactJoinColumns.f
      simp (disch := omega) only [z1, z2, Option.bind_some, if_true, if_false, bne_self_eq_false, Bool.false_eq_true, c1, c1', c2, c3, c4, c4', c5, c6, c6', c7, c8, n0, n0', n1, n2]
      simp only [laws_FnExactJoinColumns.j0]
      simp (disch := omega) only [Option.bind_some, if_true, if_false, bne_self_eq_false, Bool.false_eq_true, c1, c1', c2, c3, c4, c4', c5, c6, c6', c7, c8, n0, n0', n1, n2]
      simp only [laws_FnExactJoinColumns.j1]
      simp (disch := omega) only [Option.bind_some, if_true, if_false, bne_self_eq_false, Bool.false_eq_true, c1, c1', c2, c3, c4, c4', c5, c6, c6', c7, c8, n0, n0', n1, n2]
      simp only [laws_FnExactJoinColumns.j2]
      simp (disch := omega) only [Option.bind_some, if_true, if_false, bne_self_eq_false, Bool.false_eq_true, c1, c1', c2, c3, c4, c4', c5, c6, c6', c7, c8, n0, n0', n1, n2]
    · refine ⟨0, ?_⟩
      unfold laws_FnExactJoinColumns.f
      have n0 : ¬ (1048576 - (a.length : Int) < 0) := by omega
      rw [szMatrix_tells p r c hm, if_pos hl]
      simp only [Option.bind_some, n0, if_false]
      rw [szMatrix_at p' r' c' hm' (by omega) (by omega), if_neg (by omega)]
      rfl
  · refine ⟨0, ?_⟩
    unfold laws_FnExactJoinColumns.f
    rw [szMatrix_tells p r c hm, if_neg hl]
    rfl
end Go.Proofs.Ytioooobmfcmefaa.F
namespace Go.Proofs.Ytioooobmfcmefaa.Pure
theorem FnExactJoinColumns : F.laws_FnExactJoinColumns.Pure := F.FnExactJoinColumns_pure
end Go.Proofs.Ytioooobmfcmefaa.Pure
end
