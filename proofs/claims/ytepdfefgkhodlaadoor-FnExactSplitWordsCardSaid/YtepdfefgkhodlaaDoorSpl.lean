import Derived.Lib.Split
import Derived.Lib.IndexBytes
import Derived.Lib.Join
import Derived.WideShapes
set_option linter.unusedVariables false
set_option linter.unusedSimpArgs false
set_option linter.unusedSectionVars false
namespace Go.Proofs.YtepdfefgkhodlaaDoor.Lin

open Go.Lib
/-- The parts of a text between single bytes. -/
def splitL (c : UInt8) : List UInt8 → List (List UInt8)
  | [] => [[]]
  | b :: r => if b = c then [] :: splitL c r else match splitL c r with
    | [] => [[b]]
    | x :: xs => (b :: x) :: xs
theorem splitL_ne (c : UInt8) (l : List UInt8) : splitL c l ≠ [] := by
  cases l with
  | nil => simp [splitL]
  | cons b r =>
    unfold splitL
    split
    · simp
    · split <;> simp
theorem splitL_none {c : UInt8} : ∀ {l : List UInt8}, c ∉ l → splitL c l = [l]
  | [], _ => rfl
  | b :: r, h => by
    unfold splitL
    rw [if_neg (fun e => h (by rw [e]; exact List.mem_cons_self)), splitL_none (fun hr => h (List.mem_cons_of_mem _ hr))]
theorem splitL_cut {c : UInt8} : ∀ {a : List UInt8} (b : List UInt8), c ∉ a → splitL c (a ++ c :: b) = a :: splitL c b
  | [], b, _ => by
    show splitL c (c :: b) = _
    unfold splitL
    rw [if_pos rfl]
    cases b <;> rfl
  | x :: a, b, h => by
    show splitL c (x :: (a ++ c :: b)) = _
    rw [splitL, if_neg (fun e => h (by rw [e]; exact List.mem_cons_self)), splitL_cut b (fun hr => h (List.mem_cons_of_mem _ hr))]
theorem splitL_free (c : UInt8) : ∀ (l : List UInt8), ∀ x ∈ splitL c l, c ∉ x
  | [], x, hx => by simp [splitL] at hx; subst hx; simp
  | b :: r, x, hx => by
    unfold splitL at hx
    split at hx
    · rcases List.mem_cons.mp hx with rfl | hx
      · simp
      · exact splitL_free c r x hx
    · rename_i hb
      have ih := splitL_free c r
      cases hq : splitL c r with
      | nil => exact absurd hq (splitL_ne c r)
      | cons y ys =>
        rw [hq] at hx ih
        rcases List.mem_cons.mp hx with rfl | hx
        · intro hc
          rcases List.mem_cons.mp hc with e | hc
          · exact hb e.symm
          · exact ih y List.mem_cons_self hc
        · exact ih x (List.mem_cons_of_mem _ hx)
theorem byte_miss {c : UInt8} : ∀ {l : List UInt8}, indexByte l c = -1 → c ∉ l
  | [], _ => by simp
  | b :: r, h => by
    unfold indexByte at h
    split at h
    · cases h
    · rename_i hb
      split at h
      · rename_i hr
        intro hc
        rcases List.mem_cons.mp hc with e | hc
        · exact hb (by rw [e]; exact beq_self_eq_true b)
        · exact byte_miss (beq_iff_eq.mp hr) hc
      · have := indexByte_ge r c
        omega
theorem byte_hit {c : UInt8} : ∀ {l : List UInt8} {i : Nat}, indexByte l c = i → ∃ a b, l = a ++ c :: b ∧ a.length = i ∧ c ∉ a
  | [], i, h => by unfold indexByte at h; omega
  | x :: r, i, h => by
    unfold indexByte at h
    split at h
    · rename_i hb
      have e : x = c := beq_iff_eq.mp hb
      subst e
      exact ⟨[], r, rfl, by simp; omega, by simp⟩
    · rename_i hb
      split at h
      · omega
      · have hge := indexByte_ge r c
        rename_i hr
        have hne : indexByte r c ≠ -1 := fun e => hr (by rw [e]; rfl)
        obtain ⟨j, hj⟩ := Int.eq_ofNat_of_zero_le (show 0 ≤ indexByte r c by omega)
        obtain ⟨a, b, e, hl, hc⟩ := byte_hit hj
        refine ⟨x :: a, b, by rw [e]; rfl, by simp; omega, fun hx => ?_⟩
        rcases List.mem_cons.mp hx with e2 | hx
        · exact hb (by rw [e2]; exact beq_self_eq_true x)
        · exact hc hx
theorem splitK_eq (c : UInt8) : ∀ (n : Nat) (l : List UInt8), l.length = n → splitK [c] 0 (count l [c]) l = splitL c l := by
  intro n
  induction n using Nat.strongRecOn with
  | _ n ih =>
    intro l hl
    have ho := index_one l c
    by_cases hm : indexByte l c = -1
    · rw [hm] at ho
      rw [count_miss ho, splitL_none (byte_miss hm)]
      rfl
    · have hge := indexByte_ge l c
      obtain ⟨i, hi⟩ := Int.eq_ofNat_of_zero_le (show 0 ≤ indexByte l c by omega)
      obtain ⟨a, b, e, hla, hca⟩ := byte_hit hi
      rw [hi] at ho
      have hcnt := count_hit (s := l) (sub := [c]) (i := i) (by simp) ho
      have hdrop : l.drop (i + 1) = b := by rw [e, ← hla, show a ++ c :: b = (a ++ [c]) ++ b by simp, show a.length + 1 = (a ++ [c]).length by simp, List.drop_left]
      have htake : l.take i = a := by rw [e, ← hla, List.take_left]
      have hcnt2 : count l [c] = count b [c] + 1 := by rw [hcnt, show ([c] : List UInt8).length = 1 from rfl, hdrop]; omega
      rw [hcnt2]
      unfold splitK
      rw [if_neg (by rw [ho]; simp), ho, Int.toNat_natCast, Nat.add_zero, htake, show ([c] : List UInt8).length = 1 from rfl, hdrop, ih b.length (by rw [← hl, e]; simp; omega) b rfl, e, splitL_cut b hca]
theorem join_snoc {xs : List (List UInt8)} (h : xs ≠ []) (y sep : List UInt8) : join (xs ++ [y]) sep = join xs sep ++ sep ++ y := by
  cases xs with
  | nil => exact absurd rfl h
  | cons x r =>
    rw [List.cons_append, join_cons, join_cons]
    unfold joinTail
    simp [List.append_assoc]
theorem join_cons2 (x y : List UInt8) (r : List (List UInt8)) (sep : List UInt8) : join (x :: y :: r) sep = x ++ sep ++ join (y :: r) sep := by
  rw [join_cons, join_cons]
  unfold joinTail
  simp [List.append_assoc]
/-- What has been joined is parted again. -/
theorem split_join {c : UInt8} : ∀ {xs : List (List UInt8)}, xs ≠ [] → (∀ x ∈ xs, c ∉ x) → splitL c (join xs [c]) = xs
  | [], h, _ => absurd rfl h
  | [x], _, hf => by rw [join_one]; exact splitL_none (hf x (by simp))
  | x :: y :: r, _, hf => by
    rw [join_cons2, show x ++ [c] ++ join (y :: r) [c] = x ++ c :: join (y :: r) [c] by simp, splitL_cut _ (hf x (by simp)), split_join (by simp) (fun z hz => hf z (List.mem_cons_of_mem _ hz))]
/-- The parts, joined. -/
theorem join_split (c : UInt8) : ∀ (l : List UInt8), join (splitL c l) [c] = l
  | [] => rfl
  | b :: r => by
    have ih := join_split c r
    unfold splitL
    cases hq : splitL c r with
    | nil => exact absurd hq (splitL_ne c r)
    | cons x xs =>
      rw [hq] at ih
      by_cases hb : b = c
      · rw [if_pos hb, join_cons2, ih, hb]; simp
      · rw [if_neg hb]
        show join ((b :: x) :: xs) [c] = b :: r
        rw [join_cons] at ih ⊢
        rw [← ih]; rfl
theorem splitL_length (c : UInt8) : ∀ (l : List UInt8), (splitL c l).length ≤ l.length + 1
  | [] => by simp [splitL]
  | b :: r => by
    have ih := splitL_length c r
    unfold splitL
    split
    · simp; omega
    · cases hq : splitL c r with
      | nil => simp
      | cons x xs => rw [hq] at ih; simp at ih ⊢; omega
theorem splitL_short (c : UInt8) : ∀ (l : List UInt8), ∀ x ∈ splitL c l, x.length ≤ l.length
  | [], x, hx => by simp [splitL] at hx; subst hx; simp
  | b :: r, x, hx => by
    have ih := splitL_short c r
    unfold splitL at hx
    split at hx
    · rcases List.mem_cons.mp hx with rfl | hx
      · simp
      · have := ih x hx; simp; omega
    · cases hq : splitL c r with
      | nil => exact absurd hq (splitL_ne c r)
      | cons y ys =>
        rw [hq] at hx ih
        rcases List.mem_cons.mp hx with rfl | hx
        · have := ih y List.mem_cons_self; simp; omega
        · have := ih x (List.mem_cons_of_mem _ hx); simp; omega
/-- A text of bytes. -/
def B (l : List UInt8) : ByteArray := ⟨l.toArray⟩
theorem B_list (l : List UInt8) : (B l).data.toList = l := rfl
theorem B_of (s : ByteArray) : B s.data.toList = s := Go.WideShapes.bytes_inj rfl
theorem B_size (l : List UInt8) : (B l).size = l.length := rfl
theorem B_append (x y : List UInt8) : B x ++ B y = B (x ++ y) := Go.WideShapes.bytes_inj (by simp [B])
theorem B_toList (l : List UInt8) : (B l).toList = l := Go.Lib.toList_data (B l)
theorem size_len (s : ByteArray) : s.size = s.data.toList.length := Array.length_toList.symm
theorem splitB_eq (c : UInt8) (s : ByteArray) : splitB ⟨#[c]⟩ 0 (countB s ⟨#[c]⟩) s = (splitL c s.data.toList).map B := by
  have h := splitB_data (⟨#[c]⟩ : ByteArray) 0 (countB s ⟨#[c]⟩) s
  have e : (⟨#[c]⟩ : ByteArray).data.toList = [c] := rfl
  rw [e] at h
  have h2 : splitK [c] 0 (countB s ⟨#[c]⟩) s.data.toList = splitL c s.data.toList := splitK_eq c _ _ rfl
  rw [h2] at h
  rw [← h, List.map_map]
  conv => lhs; rw [← List.map_id (splitB _ _ _ _)]
  exact List.map_congr_left (fun x _ => (B_of x).symm)
end Go.Proofs.YtepdfefgkhodlaaDoor.Lin
