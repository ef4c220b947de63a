import Derived.Test.YtfiffkjfmpngfaaFx45
import Derived.Test.YtfiffkjfmpngfaaFx48
import Derived.Test.YtfiffkjfmpngfaaVcd
import Derived.KernelRfl
set_option linter.unusedVariables false
set_option linter.unusedSimpArgs false
set_option linter.unusedSectionVars false
namespace Go.Proofs.Ytfiffkjfmpngfaa.F
open Go.RowKit Go.Proofs.YtfiffkjfmpngfaaW.PrintWords Go.Proofs.YtfiffkjfmpngfaaW.PrintLast Go.Proofs.Ytfiffkjfmpngfaa.Lin

/-- The sum of the products at the same places. -/
def dotS (a b : List Int) : Int := (List.zipWith (fun x y => x * y) a b).sum
theorem sum_take_succ (l : List Int) {i : Nat} (h : i < l.length) : (l.take (i + 1)).sum = (l.take i).sum + l.getD i 0 := by
  rw [List.take_succ_eq_append_getElem h, List.sum_append, getD_at h]; simp
theorem zip_getD {a b : List Int} {f : Int → Int → Int} {i : Nat} (ha : i < a.length) (hb : i < b.length) : (List.zipWith f a b).getD i 0 = f (a.getD i 0) (b.getD i 0) := by
  simp [List.getD_eq_getElem?_getD, List.getElem?_zipWith, List.getElem?_eq_getElem ha, List.getElem?_eq_getElem hb]
theorem dot_loop {a b : List Int} {p : Int} (hp : 2 ≤ p) (hp' : p ≤ 251) (hl : a.length = b.length) (hn : a.length ≤ 35184372088832) (ha : ∀ j, 0 ≤ a.getD j 0 ∧ a.getD j 0 < p) (hb : ∀ j, 0 ≤ b.getD j 0 ∧ b.getD j 0 < p) (d : Nat) :
    ∀ (k i : Nat) (s : Int), a.length - i = d → i ≤ a.length → d < k → s = ((List.zipWith (fun x y => x * y) a b).take i).sum % p →
    spec_l02Dot.l0 k a b p s i = some (dotS a b % p) ∧ impl_dot.l0 k a b p s a.length i = some (dotS a b % p) := by
  have hz : (List.zipWith (fun x y => x * y) a b).length = a.length := by simp [hl]
  induction d with
  | zero =>
    intro k i s hd hi hk hs
    obtain ⟨k, rfl⟩ : ∃ m, k = m + 1 := ⟨k - 1, by omega⟩
    simp only [spec_l02Dot.l0, impl_dot.l0]
    have hf : ¬ (i : Int) < (a.length : Int) := by omega
    simp only [hf, if_false]
    rw [hs, List.take_of_length_le (by omega)]
    exact ⟨rfl, rfl⟩
  | succ d ih =>
    intro k i s hd hi hk hs
    obtain ⟨k, rfl⟩ : ∃ m, k = m + 1 := ⟨k - 1, by omega⟩
    simp only [spec_l02Dot.l0, impl_dot.l0]
    have h1 : (i : Int) < (a.length : Int) := by omega
    have h2 : (i : Int) < (b.length : Int) := by omega
    have h0 : (0 : Int) ≤ (i : Int) := by omega
    have hp0 : ¬ p = 0 := by omega
    have hs2 := emod_range' hp ((List.zipWith (fun x y => x * y) a b).take i).sum
    rw [← hs] at hs2
    have hm := small_mul' hp hp' (ha i).1 (ha i).2 (hb i).1 (hb i).2
    have e : Int.tmod (wrap64 (s + wrap64 (rd a i * rd b i))) p = ((List.zipWith (fun x y => x * y) a b).take (i + 1)).sum % p := by
      rw [rd_nat, rd_nat, w64_id (x := a.getD i 0 * b.getD i 0) (by omega) (by omega), w64_id (x := s + a.getD i 0 * b.getD i 0) (by omega) (by omega), Int.tmod_eq_emod_of_nonneg (by omega), sum_take_succ _ (by omega), zip_getD (by omega) (by omega), hs, Int.emod_add_emod]
    simp only [h0, h1, h2, hp0, if_true, if_false]
    rw [e, w64_succ (n := a.length) (by omega) hn]
    exact ih k (i + 1) _ (by omega) (by omega) (by omega) rfl
theorem dot_tells {a b : List Int} {p : Int} (hp : 2 ≤ p) (hp' : p ≤ 251) (hl : a.length = b.length) (hn : a.length ≤ 35184372088832) (ha : ∀ x, x ∈ a → 0 ≤ x ∧ x < p) (hb : ∀ x, x ∈ b → 0 ≤ x ∧ x < p) {k : Nat} (hk : a.length < k) :
    spec_l02Dot.f k a b p = some (dotS a b % p) ∧ impl_dot.f k a b p = some (dotS a b % p) := by
  unfold spec_l02Dot.f impl_dot.f
  exact dot_loop hp hp' hl hn (fun j => getD_in hp ha j) (fun j => getD_in hp hb j) a.length k 0 0 (by omega) (by omega) hk (by simp)
end Go.Proofs.Ytfiffkjfmpngfaa.F
