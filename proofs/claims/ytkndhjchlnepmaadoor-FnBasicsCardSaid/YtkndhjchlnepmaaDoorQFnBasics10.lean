-- Texts of this claim, merged by pack.py (a program of this session's).
import Derived.Test.YtkndhjchlnepmaaDoorQFnBasics1
import Derived.Test.YtkndhjchlnepmaaDoorQFnBasics7
import Derived.Test.YtkndhjchlnepmaaDoorQFnBasics9
import Derived.KernelRfl
import Derived.Test.YtkndhjchlnepmaaDoorQFnBasics0
import Derived.Test.YtkndhjchlnepmaaDoorQFnBasics3
import Derived.Test.YtkndhjchlnepmaaDoorQFnBasics6
import Derived.Test.YtkndhjchlnepmaaDoorQFnBasics2
import Derived.Test.YtkndhjchlnepmaaDoorQFnBasics4
import Derived.Test.YtkndhjchlnepmaaDoorQFnBasics5
import Derived.Test.YtkndhjchlnepmaaDoorQFnBasics8

section
set_option linter.unusedVariables false
set_option linter.unusedSimpArgs false
set_option linter.unusedSectionVars false
namespace Go.Proofs.YtkndhjchlnepmaaDoor.F
open Go.RowKit Go.Proofs.YtkndhjchlnepmaaDoorW.PrintWords Go.Proofs.YtkndhjchlnepmaaDoorW.PrintLast Go.Proofs.YtkndhjchlnepmaaDoor.Lin

theorem u64_wrap (n : Int) : IntKind.u64.wrap n = n % 18446744073709551616 := by simp [IntKind.wrap, IntKind.bits, IntKind.signed]
theorem and255 {x : Int} (h0 : 0 ≤ x) (h1 : x < 18446744073709551616) : Go.bits .and .u64 x 255 = x % 256 :=
  bits_mask .u64 64 (by decide) (fun n h0 h1 => by rw [u64_wrap]; exact Int.emod_eq_of_lt h0 (by omega)) 8 (by decide) x h0 (by omega)
/-- Bytes. -/
def Bytes (l : List Int) : Prop := ∀ x, x ∈ l → 0 ≤ x ∧ x ≤ 255
theorem bytes_rd {l : List Int} (h : Bytes l) (i : Int) : 0 ≤ rd l i ∧ rd l i ≤ 255 := by
  unfold rd
  by_cases hj : i.toNat < l.length
  · rw [getD_at hj]; exact h _ (List.getElem_mem hj)
  · rw [List.getD_eq_getElem?_getD, List.getElem?_eq_none (by omega)]; simp
theorem next_tells {l : List Int} (hl : Bytes l) {at_ : Int} (seed : Int) (h0 : 0 ≤ at_) (h1 : at_ ≤ 4611686018427387904) : ∃ v s, spec_l00Src_next.f l at_ seed = some (v, at_ + 1, s) ∧ 0 ≤ v ∧ v ≤ 255 := by
  have e : wrap64 (at_ + 1) = at_ + 1 := w64_id (by omega) (by omega)
  have hr := bytes_rd hl at_
  have er : wrap64 (rd l at_) = rd l at_ := w64_id (by omega) (by omega)
  have key : ∀ y : Int, 0 ≤ wrap64 (Go.bits .and .u64 (IntKind.u64.wrap y / 1099511627776) 255) ∧ wrap64 (Go.bits .and .u64 (IntKind.u64.wrap y / 1099511627776) 255) ≤ 255 := fun y => by
    have hz : 0 ≤ IntKind.u64.wrap y / 1099511627776 ∧ IntKind.u64.wrap y / 1099511627776 < 18446744073709551616 := by rw [u64_wrap]; omega
    rw [and255 hz.1 hz.2, w64_id (x := IntKind.u64.wrap y / 1099511627776 % 256) (by omega) (by omega)]; omega
  unfold spec_l00Src_next.f
  rw [e, er]
  by_cases c1 : at_ < (l.length : Int)
  · rw [if_pos c1, if_pos h0]
    by_cases c2 : at_ + 1 ≤ (l.length : Int)
    · rw [if_pos c2]; exact ⟨_, _, rfl, hr.1, hr.2⟩
    · rw [if_neg c2]; exact ⟨_, _, rfl, key _⟩
  · rw [if_neg c1]
    by_cases c2 : at_ + 1 ≤ (l.length : Int)
    · rw [if_pos c2]; exact ⟨_, _, rfl, by omega, by omega⟩
    · rw [if_neg c2]; exact ⟨_, _, rfl, key _⟩
/-- A choice below n (0 where n is 1 or less); the place moves on by two at the most. -/
theorem pick_tells {l : List Int} (hl : Bytes l) {at_ : Int} (seed n : Int) (h0 : 0 ≤ at_) (h1 : at_ ≤ 4611686018427387000) : ∃ v at' s, spec_l00Src_pick.f l at_ seed n = some (v, at', s) ∧ 0 ≤ v ∧ (v < n ∨ v = 0) ∧ at_ ≤ at' ∧ at' ≤ at_ + 2 := by
  unfold spec_l00Src_pick.f
  by_cases c1 : n ≤ 1
  · rw [if_pos c1]; exact ⟨0, at_, seed, rfl, by omega, .inr rfl, by omega, by omega⟩
  · rw [if_neg c1]
    obtain ⟨v, s, e, v0, v1⟩ := next_tells hl seed h0 (by omega)
    rw [e]
    simp only [Option.bind_some]
    have hn : ¬ n = 0 := by omega
    by_cases c2 : n > 200
    · rw [if_pos c2]
      obtain ⟨u, s', e', u0, u1⟩ := next_tells hl s (show 0 ≤ at_ + 1 by omega) (by omega)
      rw [e']
      simp only [Option.bind_some]
      rw [if_neg hn, w64_id (x := v * 256) (by omega) (by omega), w64_id (x := v * 256 + u) (by omega) (by omega), Int.tmod_eq_emod_of_nonneg (by omega)]
      exact ⟨_, _, _, rfl, Int.emod_nonneg _ hn, .inl (Int.emod_lt_of_pos _ (by omega)), by omega, by omega⟩
    · rw [if_neg c2, if_neg hn, Int.tmod_eq_emod_of_nonneg v0]
      exact ⟨_, _, _, rfl, Int.emod_nonneg _ hn, .inl (Int.emod_lt_of_pos _ (by omega)), by omega, by omega⟩

/-- A matrix as the list of its numbers. -/
def tab (r c : Nat) (f : Nat → Nat → Int) : List Int := (List.range (r * c)).map fun x => f (x / c) (x % c)
theorem lt_nat {i n : Nat} (h : i < n) : (i : Int) < (n : Int) := Int.ofNat_lt.mpr h
theorem nlt_nat {i n : Nat} (h : n ≤ i) : ¬ (i : Int) < (n : Int) := by omega
theorem idx0 (n : Nat) : (0 : Int) ≤ ((n : Nat) : Int) := Int.natCast_nonneg n
theorem tab_length (r c : Nat) (f) : (tab r c f).length = r * c := by unfold tab; simp
theorem at_div {c i j : Nat} (h : j < c) : (i * c + j) / c = i ∧ (i * c + j) % c = j := by
  rw [Nat.mul_comm]
  exact ⟨by rw [Nat.mul_add_div (by omega), Nat.div_eq_of_lt h]; omega, by rw [Nat.mul_add_mod, Nat.mod_eq_of_lt h]⟩
theorem at_lt {r c i j : Nat} (hi : i < r) (hj : j < c) : i * c + j < r * c := by
  have : (i + 1) * c ≤ r * c := Nat.mul_le_mul_right _ hi
  rw [Nat.succ_mul] at this
  omega
theorem smallS {p x y : Int} (hp : 2 ≤ p) (hp' : p ≤ 251) (hx : 0 ≤ x) (hx' : x ≤ 251) (hy : 0 ≤ y) (hy' : y < p) : 0 ≤ x * y ∧ x * y ≤ 63001 := by
  have g1 := Int.mul_nonneg hx hy
  have g2 : x * y ≤ 251 * 251 := Int.mul_le_mul (by omega) (by omega) hy (by omega)
  omega
theorem idx1 {r c i j : Nat} (f : Nat → Nat → Int) (hi : i < r) (hj : j < c) : ((i * c + j : Nat) : Int) < ((tab r c f).length : Int) := by
  rw [tab_length]; exact Int.ofNat_lt.mpr (at_lt hi hj)
theorem tab_getD {r c : Nat} (f) {x : Nat} (h : x < r * c) : (tab r c f).getD x 0 = f (x / c) (x % c) := by
  unfold tab; simp [List.getD_eq_getElem?_getD, h]
theorem tab_at {r c i j : Nat} (f) (hi : i < r) (hj : j < c) : (tab r c f).getD (i * c + j) 0 = f i j := by
  rw [tab_getD f (at_lt hi hj), (at_div hj).1, (at_div hj).2]
theorem split_at {r c x : Nat} (h : x < r * c) : x / c < r ∧ x % c < c ∧ x / c * c + x % c = x := by
  have hc : 0 < c := by rcases Nat.eq_zero_or_pos c with e | e; · subst e; simp at h
                        · exact e
  exact ⟨Nat.div_lt_of_lt_mul (by rw [Nat.mul_comm]; exact h), Nat.mod_lt _ hc, Nat.div_add_mod' x c⟩
theorem tab_ext {r c : Nat} {f} {l : List Int} (hl : l.length = r * c) (h : ∀ i j, i < r → j < c → l.getD (i * c + j) 0 = f i j) : l = tab r c f := by
  refine ext_getD (by rw [hl, tab_length]) (fun x hx => ?_)
  rw [hl] at hx
  obtain ⟨h1, h2, h3⟩ := split_at hx
  have := h _ _ h1 h2
  rw [h3] at this
  rw [this, tab_getD f hx]
theorem tab_congr {r c : Nat} {f g : Nat → Nat → Int} (h : ∀ i j, i < r → j < c → f i j = g i j) : tab r c f = tab r c g :=
  tab_ext (tab_length r c f) (fun i j hi hj => by rw [tab_at f hi hj, h i j hi hj])
theorem tab_self {r c : Nat} {l : List Int} (hl : l.length = r * c) : tab r c (fun i j => l.getD (i * c + j) 0) = l :=
  (tab_ext hl (fun _ _ _ _ => rfl)).symm
theorem side_mul {r c : Nat} (hr : r ≤ 128) (hc : c ≤ 128) : r * c ≤ 16384 := Nat.mul_le_mul hr hc
theorem w64_at {r c i j : Nat} (hr : r ≤ 128) (hc : c ≤ 128) (hi : i ≤ r) (hj : j ≤ c) : wrap64 (wrap64 ((i : Int) * (c : Int)) + (j : Int)) = ((i * c + j : Nat) : Int) := by
  have h := side_mul (Nat.le_trans hi hr) hc
  have e : (i : Int) * (c : Int) = ((i * c : Nat) : Int) := by push_cast; rfl
  rw [e, w64_id (x := ((i * c : Nat) : Int)) (by omega) (by omega), w64_id (x := ((i * c : Nat) : Int) + (j : Int)) (by omega) (by omega)]
  push_cast; rfl
theorem w64_mulN {r c : Nat} (hr : r ≤ 128) (hc : c ≤ 128) : wrap64 ((r : Int) * (c : Int)) = ((r * c : Nat) : Int) := by
  have h := side_mul hr hc
  have e : (r : Int) * (c : Int) = ((r * c : Nat) : Int) := by push_cast; rfl
  rw [e, w64_id (x := ((r * c : Nat) : Int)) (by omega) (by omega)]
theorem tab_set {r c i j : Nat} (f : Nat → Nat → Int) (hi : i < r) (hj : j < c) (v : Int) : (tab r c f).set (i * c + j) v = tab r c (fun a b => if a = i ∧ b = j then v else f a b) := by
  refine tab_ext (by rw [List.length_set, tab_length]) (fun a b ha hb => ?_)
  rw [getD_set _ _ _ _ (by rw [tab_length]; exact at_lt hi hj)]
  by_cases e : a * c + b = i * c + j
  · have h1 := at_div (i := a) hb
    have h2 := at_div (i := i) hj
    rw [e] at h1
    rw [if_pos e, if_pos ⟨by rw [← h1.1, h2.1], by rw [← h1.2, h2.2]⟩]
  · rw [if_neg e, if_neg (fun h => e (by rw [h.1, h.2])), tab_at _ ha hb]

theorem bytesR_of {l : List Int} (h : ∀ x ∈ l, (Lit.int .u8 x).wf = true) : Bytes l := fun x hx => by
  have := h x hx
  simp [Lit.wf, IntKind.min, IntKind.max, IntKind.signed, IntKind.bits] at this
  omega
/-- All numbers of a list are below p. -/
def OkL (p : Int) (o : List Int) : Prop := ∀ j, 0 ≤ o.getD j 0 ∧ o.getD j 0 < p
theorem okL_set {p : Int} {o : List Int} (h : OkL p o) {i : Nat} {v : Int} (hi : i < o.length) (h0 : 0 ≤ v) (h1 : v < p) : OkL p (o.set i v) := fun j => by
  rw [getD_set o i v 0 hi]
  split
  · exact ⟨h0, h1⟩
  · exact h j
theorem okL_zeros {p : Int} (hp : 2 ≤ p) (n : Nat) : OkL p (List.replicate n 0) := fun j => by
  have e : (List.replicate n (0 : Int)).getD j 0 = 0 := by
    simp only [List.getD_eq_getElem?_getD, List.getElem?_replicate]
    split <;> rfl
  rw [e]; omega

theorem r8At_tells {l : List Int} (hl : Bytes l) {j : Int} (h0 : 0 ≤ j) {n : Int} (hn : 2 ≤ n) : ∃ v : Nat, laws_r8At.f l j n = some (v : Int) ∧ (v : Int) < n := by
  unfold laws_r8At.f
  rw [if_neg (by omega)]
  by_cases c : j ≥ (l.length : Int)
  · rw [if_pos c]; exact ⟨0, rfl, by omega⟩
  · have hr := bytes_rd hl j
    rw [if_neg c, if_pos h0, if_pos (by omega), if_neg (by omega), w64_id (by omega) (by omega), Int.tmod_eq_emod_of_nonneg hr.1]
    have a := Int.emod_nonneg (rd l j) (show n ≠ 0 by omega)
    have b := Int.emod_lt_of_pos (rd l j) (show 0 < n by omega)
    exact ⟨(rd l j % n).toNat, by rw [Int.toNat_of_nonneg a], by rw [Int.toNat_of_nonneg a]; exact b⟩
theorem r8Same_loop {a : List Int} (ha : a.length ≤ 35184372088832) (d : Nat) : ∀ (k i : Nat), a.length - i = d → i ≤ a.length → d < k → laws_r8Same.l0 k a a i = some true := by
  induction d with
  | zero =>
    intro k i hd hi hk
    obtain ⟨k, rfl⟩ : ∃ m, k = m + 1 := ⟨k - 1, by omega⟩
    simp only [laws_r8Same.l0]
    rw [if_neg (by omega)]
  | succ d ih =>
    intro k i hd hi hk
    obtain ⟨k, rfl⟩ : ∃ m, k = m + 1 := ⟨k - 1, by omega⟩
    simp only [laws_r8Same.l0]
    rw [if_pos (by omega), if_pos (by omega), if_pos (by omega), if_pos trivial, w64_succ (n := a.length) (by omega) ha]
    exact ih k (i + 1) (by omega) (by omega) (by omega)
theorem r8Same_tells {a : List Int} (ha : a.length ≤ 35184372088832) {k : Nat} (hk : a.length < k) : laws_r8Same.f k a a = some true := by
  unfold laws_r8Same.f
  rw [if_pos rfl]
  exact r8Same_loop ha a.length k 0 (by omega) (by omega) (by omega)
end Go.Proofs.YtkndhjchlnepmaaDoor.F
end

section
/- Roots are rounded down, quotients are nearest, a line stays between its ends, and a list and a number are read back out of their texts. -/
set_option linter.unusedVariables false
set_option linter.unusedSimpArgs false
set_option linter.unusedSectionVars false
namespace Go.Proofs.YtkndhjchlnepmaaDoor.F
open Go.RowKit Go.Proofs.YtkndhjchlnepmaaDoorW.PrintWords Go.Proofs.YtkndhjchlnepmaaDoorW.PrintLast Go.Proofs.YtkndhjchlnepmaaDoor.Lin

open Go.Lib
theorem r8numbers_tells {l : List Int} (hl : Bytes l) : ∃ a b, spec_R8Numbers.f l = some (a, b) ∧ -100000 ≤ a ∧ a ≤ 3600000000 ∧ 1 ≤ b ∧ b ≤ 5000 := by
  unfold spec_R8Numbers.f spec_l00From.f
  simp only [Option.bind_some]
  obtain ⟨u, at1, s1, e1, u0, u1, g1, g2⟩ := pick_tells hl 0 60000 (at_ := 0) (by omega) (by omega)
  rw [e1]
  simp only [Option.bind_some]
  obtain ⟨v, at2, s2, e2, v0, v1, g3, g4⟩ := pick_tells hl s1 60000 (show 0 ≤ at1 by omega) (by omega)
  rw [e2]
  simp only [Option.bind_some]
  obtain ⟨w, at3, s3, e3, w0, w1, g5, g6⟩ := pick_tells hl s2 5000 (show 0 ≤ at2 by omega) (by omega)
  rw [e3]
  simp only [Option.bind_some]
  have h0 := Int.mul_nonneg u0 v0
  have h1 : u * v ≤ 60000 * 60000 := Int.mul_le_mul (by omega) (by omega) v0 (by omega)
  refine ⟨_, _, rfl, ?_⟩
  rw [w64_id (x := u * v) (by omega) (by omega), w64_id (x := u * v - 100000) (by omega) (by omega), w64_id (x := 1 + w) (by omega) (by omega)]
  omega
theorem r8Wide_tells {l : List Int} (hl : Bytes l) {j : Int} (h0 : 0 ≤ j) (h1 : j ≤ 100) {n : Int} (hn : 1 ≤ n) : ∃ v, laws_r8Wide.f l j n = some v ∧ 0 ≤ v ∧ v < n := by
  obtain ⟨a, ea, ha⟩ := r8At_tells hl h0 (n := 256) (by omega)
  obtain ⟨b, eb, hb⟩ := r8At_tells hl (j := j + 1) (by omega) (n := 256) (by omega)
  have g1 : ¬ n = 0 := by omega
  have g2 : (0 : Int) ≤ 256 * (a : Int) + (b : Int) := by omega
  have m1 := Int.emod_nonneg (256 * (a : Int) + (b : Int)) g1
  have m2 := Int.emod_lt_of_pos (256 * (a : Int) + (b : Int)) (show 0 < n by omega)
  unfold laws_r8Wide.f
  rw [ea, Option.bind_some, w64_id (x := j + 1) (by omega) (by omega), eb, Option.bind_some, if_neg g1, w64_id (x := 256 * (a : Int)) (by omega) (by omega), w64_id (x := 256 * (a : Int) + (b : Int)) (by omega) (by omega), Int.tmod_eq_emod_of_nonneg g2]
  exact ⟨_, rfl, m1, m2⟩
theorem no_comma {v : Int} : (44 : UInt8) ∉ itoa v := fun h => by
  obtain ⟨h1, _⟩ := itoa_num (v := v) rfl
  unfold digitsOf at h1
  by_cases c : (itoa v).head? = some 45
  · rw [if_pos c] at h1
    cases hs : itoa v with
    | nil => rw [hs] at h; cases h
    | cons x r =>
      rw [hs] at h h1 c
      simp only [List.head?_cons, Option.some.injEq] at c
      subst c
      rcases List.mem_cons.mp h with h | h
      · exact absurd h (by decide)
      · have := List.all_eq_true.mp h1 44 (by simpa using h)
        exact absurd this (by decide)
  · rw [if_neg c] at h1
    have := List.all_eq_true.mp h1 44 h
    exact absurd this (by decide)
/-- A list is read back out of its text. -/
theorem read_back {l : List Int} (hf : fits l = true) (h0 : l ≠ []) : readL (listText l) = (l, true) := by
  obtain ⟨f1, f2⟩ := fits_at hf
  have hlen : ¬ l.length = 0 := fun h => h0 (List.length_eq_zero_iff.mp h)
  have hm : l.map itoa ≠ [] := fun h => h0 (List.map_eq_nil_iff.mp h)
  have hj : splitL 44 (join (l.map itoa) [44]) = l.map itoa := split_join hm (fun x hx => by
    obtain ⟨v, _, rfl⟩ := List.mem_map.mp hx
    exact no_comma)
  have hn : ∀ x, x ∈ l → numOf (itoa x) = (x, true) := fun x hx => by
    have := f2 x hx
    exact numOf_itoa (by omega) (by omega)
  unfold listText listTxt readL
  rw [if_pos hf, if_neg hlen]
  have hne : join (l.map itoa) [44] ≠ [45] := fun e => by
    rw [e] at hj
    have h45 : splitL 44 [45] = [[45]] := splitL_none (by decide)
    rw [h45] at hj
    cases hl : l with
    | nil => exact h0 hl
    | cons x r =>
      rw [hl] at hj
      have hx := hn x (by rw [hl]; exact List.mem_cons_self)
      have hj2 : [45] = itoa x ∧ r = [] := by simpa using hj
      have := hj2.1
      rw [← this] at hx
      have : numOf [45] = (0, false) := by decide
      rw [this] at hx
      exact absurd (congrArg Prod.snd hx) (by simp)
  rw [if_neg hne, hj]
  have hall : (l.map itoa).all partOk = true := List.all_eq_true.mpr (fun y hy => by
    obtain ⟨x, hx, rfl⟩ := List.mem_map.mp hy
    unfold partOk
    rw [hn x hx]
    have := f2 x hx
    simp [this])
  have hnum : numsOf (l.map itoa) = l := by
    unfold numsOf
    rw [List.map_map]
    exact (List.map_congr_left (fun x hx => by show (numOf (itoa x)).1 = x; rw [hn x hx])).trans (List.map_id' l)
  rw [if_pos ⟨by rw [List.length_map]; exact f1, hall⟩, hnum]
theorem basics_texts {K : Nat} (hK : 2000000 ≤ K) {a b x y z : Int} (ha : -1000000000000 ≤ a ∧ a ≤ 1000000000000) (hb : -1000000000000 ≤ b ∧ b ≤ 1000000000000) (hx : -1000000000000 ≤ x ∧ x ≤ 1000000000000) (hy : -1000000000000 ≤ y ∧ y ≤ 1000000000000) (hz : -1000000000000 ≤ z ∧ z ≤ 1000000000000) : laws_FnBasics.j2 (K + 1) a b x y z false = some true := by
  have hall : ∀ v ∈ [a, b, x, y, z], -1000000000000 ≤ v ∧ v ≤ 1000000000000 := fun v hv => by
    simp only [List.mem_cons, List.not_mem_nil, or_false] at hv
    rcases hv with h | h | h | h | h <;> subst h <;> assumption
  have hf : fits [a, b, x, y, z] = true := by
    unfold fits
    rw [Bool.and_eq_true]
    exact ⟨by simp, List.all_eq_true.mpr (fun v hv => decide_eq_true (hall v hv))⟩
  have e1 : impl_ListText.f K [a, b, x, y, z] = some (B (listText [a, b, x, y, z])) := implListText_tells _ (by simp) (fun v hv => by have := hall v hv; omega) (by omega)
  have hs : (B (listText [a, b, x, y, z])).size ≤ 1048576 := by
    rw [B_size]
    unfold listText listTxt
    rw [if_pos hf, if_neg (by simp)]
    have := join_short ([a, b, x, y, z].map itoa) 21 (fun t ht => by
      obtain ⟨v, hv, rfl⟩ := List.mem_map.mp ht
      have := hall v hv
      exact itoa_short (by omega) (by omega))
    simp only [List.length_map, List.length_cons, List.length_nil] at this
    omega
  have e2 : impl_ReadList.f K (B (listText [a, b, x, y, z])) = some ([a, b, x, y, z], true) := by
    rw [implRead_tells _ hs (by omega), B_list, read_back hf (by simp)]
  have e3 : impl_Decimal.f a = some (B (itoa a)) := decimal_tells (by omega) (by omega)
  have hsa : (B (itoa a)).size ≤ 281474976710656 := by
    rw [B_size]
    have := itoa_short (x := a) (by omega) (by omega)
    omega
  have e4 : impl_ReadDecimal.f (B (itoa a)) = some (a, true) := by
    rw [readDecimal_tells _ hsa, B_list, numOf_itoa (by omega) (by omega)]
  have e5 := r8Same_tells (a := [a, b, x, y, z]) (by simp) (k := K) (by simp; omega)
  simp only [laws_FnBasics.j2]
  rw [if_neg (by simp), Option.bind_some, e1, Option.bind_some, e2, Option.bind_some, e3, Option.bind_some, e4, Option.bind_some]
  dsimp only
  rw [if_pos rfl, e5, Option.bind_some, if_pos rfl, if_pos rfl]
  simp
theorem basics_lines {K : Nat} (hK : 2000000 ≤ K) {m : List Int} (hm : Bytes m) {a b : Int} (ha : -1000000000000 ≤ a ∧ a ≤ 1000000000000) (hb : -1000000000000 ≤ b ∧ b ≤ 1000000000000) : laws_FnBasics.j1 (K + 6 + 1) m a b false = some true := by
  obtain ⟨x, ex, x0, x1⟩ := r8Wide_tells hm (j := 0) (by omega) (by omega) (n := 1000) (by omega)
  obtain ⟨y, ey, y0, y1⟩ := r8Wide_tells hm (j := 2) (by omega) (by omega) (n := 5000) (by omega)
  obtain ⟨z, ez, z0, z1⟩ := r8Wide_tells hm (j := 4) (by omega) (by omega) (n := 5000) (by omega)
  have ry : inR (y - 2500) := by unfold inR; omega
  have rz : inR (z - 2500) := by unfold inR; omega
  have r0 : inR 0 := by unfold inR; omega
  have r1 : inR 1000 := by unfold inR; omega
  have b1 := implBlend_tells (x := x) r0 ry r1 rz K
  have b2 := implBlend_tells (x := 0) r0 ry r1 rz K
  have b3 := implBlend_tells (x := 1000) r0 ry r1 rz K
  rw [line_start] at b2
  rw [line_end] at b3
  obtain ⟨l0, l1⟩ := line_between (y := y - 2500) (z := z - 2500) (x := x) x0 (by omega)
  have fin := basics_texts (K := K + 5) (by omega) ha hb (x := x) (y := y - 2500) (z := z - 2500) (by omega) (by omega) (by omega)
  generalize line 0 (y - 2500) 1000 (z - 2500) x = t at *
  have g1 : ¬ t < mn (y - 2500) (z - 2500) := by unfold mn; split <;> omega
  have g2 : ¬ t > mx (y - 2500) (z - 2500) := by unfold mx; split <;> omega
  simp only [laws_FnBasics.j1]
  rw [if_neg (by simp), ex, Option.bind_some, ey, Option.bind_some, ez, Option.bind_some, w64_id (x := y - 2500) (by omega) (by omega), w64_id (x := z - 2500) (by omega) (by omega), b1, Option.bind_some, if_neg g1, if_neg g2, b2, Option.bind_some, if_pos rfl, b3, Option.bind_some, show ((z - 2500) != (z - 2500)) = false by simp]
  exact fin
theorem basics_quotients {K : Nat} (hK : 2000000 ≤ K) {m : List Int} (hm : Bytes m) {a b : Int} (ha : -100000 ≤ a ∧ a ≤ 3600000000) (hb : 1 ≤ b ∧ b ≤ 5000) : laws_FnBasics.j0 (K + 8) m a b false = some true := by
  have d1 := implDiv_tells (a := a) (b := b) (by omega) (by omega) (by omega)
  have d2 := implDiv_tells (a := -a) (b := b) (by omega) (by omega) (by omega)
  rw [near_neg (by omega)] at d2
  obtain ⟨n1, n2⟩ := near_mid (a := a) (b := b) (by omega)
  obtain ⟨s1, s2⟩ := near_small (a := a) (b := b) (by omega)
  have fin := basics_lines (K := K) hK hm (a := a) (b := b) (by omega) (by omega)
  generalize near a b = q at *
  have qb1 : -18000000010000 ≤ q * b ∧ q * b ≤ 18000000010000 := by omega
  have e1 : laws_r8Abs.f (a - q * b) = some (mx (a - q * b) (-(a - q * b))) := by
    unfold laws_r8Abs.f
    rw [w64_id (x := -(a - q * b)) (by omega) (by omega)]
  have g0 : -5000 ≤ a - q * b ∧ a - q * b ≤ 5000 := by omega
  generalize hd : a - q * b = d at *
  have g1 : mx d (-d) = d ∨ mx d (-d) = -d := by unfold mx; split <;> omega
  have g2 : ¬ 2 * mx d (-d) > b := by rcases g1 with h | h <;> rw [h] <;> omega
  have g3 : -5000 ≤ mx d (-d) ∧ mx d (-d) ≤ 5000 := by rcases g1 with h | h <;> rw [h] <;> omega
  simp only [laws_FnBasics.j0]
  rw [if_neg (by simp), d1, Option.bind_some, w64_id (x := q * b) (by omega) (by omega), hd, w64_id (x := d) (by omega) (by omega), e1, Option.bind_some, w64_id (x := 2 * mx d (-d)) (by omega) (by omega), if_neg g2, w64_id (x := -a) (by omega) (by omega), d2, Option.bind_some, w64_id (x := -q) (by omega) (by omega), show ((-q) != (-q)) = false by simp]
  exact fin
theorem FnBasics_pure : laws_FnBasics.Pure := by
  intro l m _ _ hl _ _ hm
  have hl := bytesR_of hl
  have hm := bytesR_of hm
  obtain ⟨K, hK⟩ : ∃ K : Nat, 2000000 ≤ K := ⟨2000000, Nat.le_refl _⟩
  refine ⟨K + 8, ?_⟩
  by_cases c1 : (l.length : Int) > 1048576
  · unfold laws_FnBasics.f laws_r8Long.f
    rw [if_pos c1, Option.bind_some, if_pos rfl]
  · by_cases c2 : (m.length : Int) > 1048576
    · unfold laws_FnBasics.f laws_r8Long.f
      rw [if_neg c1, decide_eq_true c2, Option.bind_some, if_pos rfl]
    · obtain ⟨a, b, en, a0, a1, b0, b1⟩ := r8numbers_tells hl
      obtain ⟨r, er, r1, r2⟩ := implRoot_tells a (by omega) (k := K + 8) (by omega)
      have fin := basics_quotients hK hm (a := a) (b := b) ⟨a0, a1⟩ ⟨b0, b1⟩
      have r0 : laws_r8Long.f l m = some false := by unfold laws_r8Long.f; rw [if_neg c1, decide_eq_false c2]
      unfold laws_FnBasics.f
      rw [r0, Option.bind_some, if_neg (by simp), en, Option.bind_some]
      dsimp only
      rw [er, Option.bind_some]
      by_cases h : a < 0
      · rw [if_pos h, r1 h, if_pos rfl, if_neg (by omega)]
        exact fin
      · obtain ⟨p0, p1, p2, p3⟩ := r2 (by omega)
        have p4 : (r + 1) * (r + 1) = r * r + 2 * r + 1 := by rw [Int.add_mul, Int.mul_add]; omega
        have p5 : 0 ≤ r * r := Int.mul_nonneg p0 p0
        have g1 : ¬ (r + 1) * (r + 1) ≤ a := by omega
        rw [if_neg h, if_pos (by omega), if_neg (by omega), if_neg (by omega), w64_id (x := r * r) (by omega) (by omega), if_neg (by omega), w64_id (x := r + 1) (by omega) (by omega), w64_id (x := (r + 1) * (r + 1)) (by omega) (by omega), decide_eq_false g1]
        exact fin
end Go.Proofs.YtkndhjchlnepmaaDoor.F
namespace Go.Proofs.YtkndhjchlnepmaaDoor.Pure
theorem FnBasics : F.laws_FnBasics.Pure := F.FnBasics_pure
end Go.Proofs.YtkndhjchlnepmaaDoor.Pure
end
