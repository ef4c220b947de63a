import Derived.Test.YtnafpdfdjbembaaFx1
import Derived.Test.YtnafpdfdjbembaaFx6
import Derived.Test.YtnafpdfdjbembaaGen
import Derived.KernelRfl
set_option linter.unusedVariables false
set_option linter.unusedSimpArgs false
set_option linter.unusedSectionVars false
namespace Go.Proofs.Ytnafpdfdjbembaa.F
open Go.RowKit Go.Proofs.YtnafpdfdjbembaaW.PrintWords Go.Proofs.YtnafpdfdjbembaaW.PrintLast Go.Proofs.Ytnafpdfdjbembaa.Lin

theorem fermat {p a : Int} (hp : isP p = true) (h0 : 0 < a) (h1 : a < p) : a ^ (p - 1).toNat % p = 1 := by
  have h := pinv_tells hp h0 h1
  have hp2 := isP_ge hp
  unfold pinv at h
  rw [Int.mul_emod, Int.emod_emod_of_dvd _ (Int.dvd_refl p), ← Int.mul_emod, Int.mul_comm, ← Int.pow_succ] at h
  rw [show (p - 1).toNat = (p - 2).toNat + 1 by omega]
  exact h
/-- n is the order of a. -/
structure IsOrder (a p : Int) (n : Nat) : Prop where
  pos : 1 ≤ n
  le : n ≤ (p - 1).toNat
  one : a ^ n % p = 1
  least : ∀ m : Nat, 1 ≤ m → m < n → a ^ m % p ≠ 1
theorem order_loop {a p : Int} (hp : isP p = true) (h0 : 0 < a) (h1 : a < p) (d : Nat) : ∀ (k n : Nat), (p - 1).toNat - n = d → 1 ≤ n → n ≤ (p - 1).toNat → d < k → (∀ m : Nat, 1 ≤ m → m < n → a ^ m % p ≠ 1) →
    ∃ r : Nat, impl_orderOf.l0 k a p n (a ^ n % p) = some (r : Int) ∧ IsOrder a p r := by
  have hp2 := isP_ge hp
  induction d with
  | zero =>
    intro k n hd hn hn2 hk hb
    obtain ⟨k, rfl⟩ : ∃ m, k = m + 1 := ⟨k - 1, by omega⟩
    have e : n = (p - 1).toNat := by omega
    have hf : a ^ n % p = 1 := by rw [e]; exact fermat hp h0 h1
    exact ⟨n, by simp only [impl_orderOf.l0]; rw [if_pos hf], hn, hn2, hf, hb⟩
  | succ d ih =>
    intro k n hd hn hn2 hk hb
    obtain ⟨k, rfl⟩ : ∃ m, k = m + 1 := ⟨k - 1, by omega⟩
    simp only [impl_orderOf.l0]
    by_cases hc : a ^ n % p = 1
    · exact ⟨n, by rw [if_pos hc], hn, hn2, hc, hb⟩
    · obtain ⟨m1, m2⟩ := emod_range hp2.1 (a ^ n)
      have e1 : Int.tmod (wrap64 (a ^ n % p * a)) p = a ^ (n + 1) % p := by
        rw [tmod_small hp2.1 hp2.2 m1 m2 (by omega) h1, Int.mul_emod, Int.emod_emod_of_dvd _ (Int.dvd_refl p), ← Int.mul_emod, ← Int.pow_succ]
      have e2 : wrap64 ((n : Int) + 1) = ((n + 1 : Nat) : Int) := by rw [w64_id (x := (n : Int) + 1) (by omega) (by omega)]; omega
      have hp0 : ¬ p = 0 := by clear e1 hc; omega
      rw [if_neg hc, if_neg hp0, e1, e2]
      clear e1 e2 m1 m2
      exact ih k (n + 1) (by omega) (by omega) (by omega) (by omega) (fun m g1 g2 => by
        by_cases em : m = n
        · subst em; exact hc
        · exact hb m g1 (by omega))
theorem order_tells {a p : Int} (hp : isP p = true) (h0 : 0 < a) (h1 : a < p) {k : Nat} (hk : 252 ≤ k) : ∃ r : Nat, impl_orderOf.f k a p = some (r : Int) ∧ IsOrder a p r := by
  have hp2 := isP_ge hp
  have := order_loop hp h0 h1 ((p - 1).toNat - 1) k 1 (by omega) (by omega) (by omega) (by omega) (fun m g1 g2 => by omega)
  rw [Int.pow_succ, Int.pow_zero, Int.one_mul, Int.emod_eq_of_lt (by omega) h1] at this
  exact this
theorem same_order : spec_l02Order.f = impl_orderOf.f := by kernel_rfl
end Go.Proofs.Ytnafpdfdjbembaa.F
