/- Both functions say whether two spaces have the same prime, length and basis; the spaces stay as they are. -/
import Derived.Test.YtnaheloeodmnpaaFx3
import Derived.Test.YtnaheloeodmnpaaFx6
import Derived.Test.YtnaheloeodmnpaaFx9
import Derived.Test.YtnaheloeodmnpaaFx12
import Derived.Test.YtnaheloeodmnpaaFx13
import Derived.Test.YtnaheloeodmnpaaFx16
import Derived.Test.YtnaheloeodmnpaaFx17
import Derived.Test.YtnaheloeodmnpaaSpcE
import Derived.KernelRfl
set_option linter.unusedVariables false
set_option linter.unusedSimpArgs false
set_option linter.unusedSectionVars false
namespace Go.Proofs.Ytnaheloeodmnpaa.F
open Go.RowKit Go.Proofs.YtnaheloeodmnpaaW.PrintWords Go.Proofs.YtnaheloeodmnpaaW.PrintLast Go.Proofs.Ytnaheloeodmnpaa.Lin

theorem szSpace_tells (p n : Int) {l : List (List Int)} (hl : l.length ≤ maxLen) (hr : ∀ r ∈ l, r.length ≤ maxLen) {a : Int} (h0 : 0 ≤ a) (h1 : a ≤ 1048576) {k : Nat} (hk : 1048577 ≤ k) :
    ∃ z, laws_szSpace.f k p n l a = some z ∧ z ≤ a ∧ (z < 0 ∨ ((l.length : Int) ≤ a ∧ ∀ r ∈ l, (r.length : Int) ≤ a)) := by
  obtain ⟨z, hz, hz1, hz2⟩ := szSS_tells hl hr h0 h1 hk
  unfold laws_szSpace.f
  rw [hz, Option.bind_some]
  by_cases e : z < 0
  · rw [if_pos e]; exact ⟨-1, rfl, by omega, .inl (by omega)⟩
  · rw [if_neg e]; exact ⟨z, rfl, hz1, hz2⟩
theorem FnExactSameSpace_pure : laws_FnExactSameSpace.Pure := by
  intro p n l p' n' l' _ _ hl hr _ _ hl' hr'
  refine ⟨2097160, ?_⟩
  unfold laws_FnExactSameSpace.f
  obtain ⟨z, hz, hz1, hz2⟩ := szSpace_tells p n hl (fun r h => (hr r h).1) (a := 1048576) (by omega) (by omega) (k := 2097160) (by omega)
  rw [hz, Option.bind_some]
  by_cases e : z < 0
  · rw [if_pos e]
  rw [if_neg e]
  obtain ⟨y, hy, hy1, hy2⟩ := szSpace_tells p' n' hl' (fun r h => (hr' r h).1) (a := z) (by omega) (by omega) (k := 2097160) (by omega)
  rw [hy, Option.bind_some]
  by_cases e' : y < 0
  · rw [if_pos e']
  rw [if_neg e']
  have b : l.length ≤ 1048576 ∧ ∀ r ∈ l, r.length ≤ 1048576 := (hz2.resolve_left e).imp (by omega) (fun h r hm => by have := h r hm; omega)
  have b' : l'.length ≤ 1048576 ∧ ∀ r ∈ l', r.length ≤ 1048576 := (hy2.resolve_left e').imp (by omega) (fun h r hm => by have := h r hm; omega)
  have t : ∀ p n : Int, laws_toSpace.f 2097160 p n l = some (p, n, l) := fun p n => by unfold laws_toSpace.f; rw [toSS_tells b.1 b.2 (by omega), Option.bind_some]
  have t' : ∀ p n : Int, laws_toSpace.f 2097160 p n l' = some (p, n, l') := fun p n => by unfold laws_toSpace.f; rw [toSS_tells b'.1 b'.2 (by omega), Option.bind_some]
  have q : ∀ p n : Int, laws_eqSpace.f 2097160 p n l p n l = some true := fun p n => by unfold laws_eqSpace.f; rw [if_pos rfl, if_pos rfl, eqSS_tells b.1 b.2 (by omega), Option.bind_some, decide_eq_true rfl, if_pos rfl]
  have q' : ∀ p n : Int, laws_eqSpace.f 2097160 p n l' p n l' = some true := fun p n => by unfold laws_eqSpace.f; rw [if_pos rfl, if_pos rfl, eqSS_tells b'.1 b'.2 (by omega), Option.bind_some, decide_eq_true rfl, if_pos rfl]
  have s : impl_SameSpace.f 2097160 p n l p' n' l' = spec_SameSpace.f 2097160 p n l p' n' l' := by
    unfold impl_SameSpace.f spec_SameSpace.f impl_areSame.f
    rw [slR_tells b.1 b.2 (by omega), saR_tells b.1 b.2 (by omega)]; rfl
  obtain ⟨v, hv⟩ : ∃ v, spec_SameSpace.f 2097160 p n l p' n' l' = some v := by
    unfold spec_SameSpace.f
    rw [saR_tells b.1 b.2 (by omega), Option.bind_some]
    split
    · split
      · exact ⟨_, rfl⟩
      · exact ⟨_, rfl⟩
    · exact ⟨_, rfl⟩
  rw [t, Option.bind_some, t', Option.bind_some]
  dsimp only
  rw [hv, Option.bind_some, Option.bind_some, Option.bind_some, s, hv, Option.bind_some, if_neg (by simp), Option.bind_some]
  dsimp only
  rw [q, Option.bind_some, if_pos rfl, Option.bind_some]
  dsimp only
  rw [q', Option.bind_some, if_pos rfl]
end Go.Proofs.Ytnaheloeodmnpaa.F
namespace Go.Proofs.Ytnaheloeodmnpaa.Pure
theorem FnExactSameSpace : F.laws_FnExactSameSpace.Pure := F.FnExactSameSpace_pure
end Go.Proofs.Ytnaheloeodmnpaa.Pure
