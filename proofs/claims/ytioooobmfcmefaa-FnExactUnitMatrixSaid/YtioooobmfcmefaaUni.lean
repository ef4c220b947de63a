import Derived.Test.YtioooobmfcmefaaFx89
import Derived.Test.YtioooobmfcmefaaFx92
import Derived.Test.YtioooobmfcmefaaMat
import Derived.KernelRfl
set_option linter.unusedVariables false
set_option linter.unusedSimpArgs false
set_option linter.unusedSectionVars false
namespace Go.Proofs.Ytioooobmfcmefaa.F
open Go.RowKit Go.Proofs.YtioooobmfcmefaaW.PrintWords Go.Proofs.YtioooobmfcmefaaW.PrintLast Go.Proofs.Ytioooobmfcmefaa.Lin

def unitAt (i j : Nat) : Int := if i = j then 1 else 0
theorem unit_loop {n : Nat} (hn : n ≤ 64) (p : Int) (d : Nat) : ∀ (k i : Nat) (l : List Int), n - i = d → i ≤ n → d < k → l.length = n * n → (∀ a b, a < n → b < n → l.getD (a * n + b) 0 = if a < i then unitAt a b else 0) →
    spec_l03Unit.l0 k n i p n n l = some (p, (n : Int), (n : Int), tab n n unitAt) := by
  induction d with
  | zero =>
    intro k i l hd hi hk hl h
    obtain ⟨k, rfl⟩ : ∃ m, k = m + 1 := ⟨k - 1, by omega⟩
    simp only [spec_l03Unit.l0]
    rw [if_neg (by omega)]
    congr 4
    exact tab_ext hl (fun a b ha hb => by rw [h a b ha hb, if_pos (by omega)])
  | succ d ih =>
    intro k i l hd hi hk hl h
    obtain ⟨k, rfl⟩ : ∃ m, k = m + 1 := ⟨k - 1, by omega⟩
    have hi' : i < n := by omega
    have hlt := at_lt hi' hi'
    simp only [spec_l03Unit.l0]
    rw [if_pos (by omega), w64_at (r := n) (by omega) (by omega) hi hi, if_pos (by omega), if_pos (by rw [hl]; omega), w64_succ (n := n) hi' (by omega), Int.toNat_natCast]
    refine ih k (i + 1) _ (by omega) (by omega) (by omega) (by simp [hl]) (fun a b ha hb => ?_)
    rw [getD_set _ _ _ _ (by rw [hl]; exact hlt), h a b ha hb]
    by_cases e : a * n + b = i * n + i
    · have e1 : a = i := by have := (at_div (i := a) hb).1; rw [e, (at_div hi').1] at this; exact this.symm
      have e2 : b = i := by have := (at_div (i := a) hb).2; rw [e, (at_div hi').2] at this; exact this.symm
      subst e1; subst e2
      simp [unitAt]
    · rw [if_neg e]
      by_cases ha1 : a < i
      · rw [if_pos ha1, if_pos (by omega)]
      · rw [if_neg ha1]
        by_cases ha2 : a < i + 1
        · rw [if_pos ha2]
          have : a = i := by omega
          subst this
          unfold unitAt
          rw [if_neg (fun eb => e (by rw [← eb]))]
        · rw [if_neg ha2]
theorem specUnit_tells {n : Nat} (hn : n ≤ 64) (p : Int) {k : Nat} (hk : 65 ≤ k) : spec_l03Unit.f k p n = some (p, (n : Int), (n : Int), tab n n unitAt) := by
  unfold spec_l03Unit.f
  rw [zero_tells (by omega) (by omega)]
  simp only [Option.bind_some]
  exact unit_loop hn p n k 0 _ (by omega) (by omega) (by omega) (tab_length _ _ _) (fun a b ha hb => by rw [tab_at _ ha hb, if_neg (by omega)])
theorem implUnit_tells {n : Nat} (hn : n ≤ 64) (p : Int) {k : Nat} (hk : 17000 ≤ k) : impl_unit.f k p n = some (p, (n : Int), (n : Int), tab n n unitAt) := by
  unfold impl_unit.f
  rw [filled_tells (f := unitAt) (by omega) (by omega) (fun i j _ _ => by
    unfold impl_unit_1.cell unitAt
    by_cases e : i = j
    · simp [e]
    · show (if (i : Int) = j then some 1 else some 0) = _
      rw [if_neg e, if_neg (by omega)]) p 0 hk]
  rfl
end Go.Proofs.Ytioooobmfcmefaa.F
