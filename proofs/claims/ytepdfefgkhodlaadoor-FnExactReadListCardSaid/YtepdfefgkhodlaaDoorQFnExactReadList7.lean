-- Texts of this claim, merged by pack.py (a program of this session's).
import Derived.Lib.Split
import Derived.Lib.IndexBytes
import Derived.Lib.Join
import Derived.WideShapes
import Derived.Lib.ItoaNum
import Derived.Lib.ParseIntB
import Derived.Lib.Strings

section
set_option linter.unusedVariables false
set_option linter.unusedSimpArgs false
set_option linter.unusedSectionVars false
namespace Go.Proofs.YtepdfefgkhodlaaDoor.Lin

open Go.Lib
/-- The parts of a text between single bytes. -/
def splitL (c : UInt8) : List UInt8 → List (List UInt8)
  | [] => [[]]
  | b :: r => if b = c then [] :: splitL c r else match splitL c r with
    | [] => [[b]]
    | x :: xs => (b :: x) :: xs
theorem splitL_ne (c : UInt8) (l : List UInt8) : splitL c l ≠ [] := by
  cases l with
  | nil => simp [splitL]
  | cons b r =>
    unfold splitL
    split
    · simp
    · split <;> simp
theorem splitL_none {c : UInt8} : ∀ {l : List UInt8}, c ∉ l → splitL c l = [l]
  | [], _ => rfl
  | b :: r, h => by
    unfold splitL
    rw [if_neg (fun e => h (by rw [e]; exact List.mem_cons_self)), splitL_none (fun hr => h (List.mem_cons_of_mem _ hr))]
theorem splitL_cut {c : UInt8} : ∀ {a : List UInt8} (b : List UInt8), c ∉ a → splitL c (a ++ c :: b) = a :: splitL c b
  | [], b, _ => by
    show splitL c (c :: b) = _
    unfold splitL
    rw [if_pos rfl]
    cases b <;> rfl
  | x :: a, b, h => by
    show splitL c (x :: (a ++ c :: b)) = _
    rw [splitL, if_neg (fun e => h (by rw [e]; exact List.mem_cons_self)), splitL_cut b (fun hr => h (List.mem_cons_of_mem _ hr))]
theorem splitL_free (c : UInt8) : ∀ (l : List UInt8), ∀ x ∈ splitL c l, c ∉ x
  | [], x, hx => by simp [splitL] at hx; subst hx; simp
  | b :: r, x, hx => by
    unfold splitL at hx
    split at hx
    · rcases List.mem_cons.mp hx with rfl | hx
      · simp
      · exact splitL_free c r x hx
    · rename_i hb
      have ih := splitL_free c r
      cases hq : splitL c r with
      | nil => exact absurd hq (splitL_ne c r)
      | cons y ys =>
        rw [hq] at hx ih
        rcases List.mem_cons.mp hx with rfl | hx
        · intro hc
          rcases List.mem_cons.mp hc with e | hc
          · exact hb e.symm
          · exact ih y List.mem_cons_self hc
        · exact ih x (List.mem_cons_of_mem _ hx)
theorem byte_miss {c : UInt8} : ∀ {l : List UInt8}, indexByte l c = -1 → c ∉ l
  | [], _ => by simp
  | b :: r, h => by
    unfold indexByte at h
    split at h
    · cases h
    · rename_i hb
      split at h
      · rename_i hr
        intro hc
        rcases List.mem_cons.mp hc with e | hc
        · exact hb (by rw [e]; exact beq_self_eq_true b)
        · exact byte_miss (beq_iff_eq.mp hr) hc
      · have := indexByte_ge r c
        omega
theorem byte_hit {c : UInt8} : ∀ {l : List UInt8} {i : Nat}, indexByte l c = i → ∃ a b, l = a ++ c :: b ∧ a.length = i ∧ c ∉ a
  | [], i, h => by unfold indexByte at h; omega
  | x :: r, i, h => by
    unfold indexByte at h
    split at h
    · rename_i hb
      have e : x = c := beq_iff_eq.mp hb
      subst e
      exact ⟨[], r, rfl, by simp; omega, by simp⟩
    · rename_i hb
      split at h
      · omega
      · have hge := indexByte_ge r c
        rename_i hr
        have hne : indexByte r c ≠ -1 := fun e => hr (by rw [e]; rfl)
        obtain ⟨j, hj⟩ := Int.eq_ofNat_of_zero_le (show 0 ≤ indexByte r c by omega)
        obtain ⟨a, b, e, hl, hc⟩ := byte_hit hj
        refine ⟨x :: a, b, by rw [e]; rfl, by simp; omega, fun hx => ?_⟩
        rcases List.mem_cons.mp hx with e2 | hx
        · exact hb (by rw [e2]; exact beq_self_eq_true x)
        · exact hc hx
theorem splitK_eq (c : UInt8) : ∀ (n : Nat) (l : List UInt8), l.length = n → splitK [c] 0 (count l [c]) l = splitL c l := by
  intro n
  induction n using Nat.strongRecOn with
  | _ n ih =>
    intro l hl
    have ho := index_one l c
    by_cases hm : indexByte l c = -1
    · rw [hm] at ho
      rw [count_miss ho, splitL_none (byte_miss hm)]
      rfl
    · have hge := indexByte_ge l c
      obtain ⟨i, hi⟩ := Int.eq_ofNat_of_zero_le (show 0 ≤ indexByte l c by omega)
      obtain ⟨a, b, e, hla, hca⟩ := byte_hit hi
      rw [hi] at ho
      have hcnt := count_hit (s := l) (sub := [c]) (i := i) (by simp) ho
      have hdrop : l.drop (i + 1) = b := by rw [e, ← hla, show a ++ c :: b = (a ++ [c]) ++ b by simp, show a.length + 1 = (a ++ [c]).length by simp, List.drop_left]
      have htake : l.take i = a := by rw [e, ← hla, List.take_left]
      have hcnt2 : count l [c] = count b [c] + 1 := by rw [hcnt, show ([c] : List UInt8).length = 1 from rfl, hdrop]; omega
      rw [hcnt2]
      unfold splitK
      rw [if_neg (by rw [ho]; simp), ho, Int.toNat_natCast, Nat.add_zero, htake, show ([c] : List UInt8).length = 1 from rfl, hdrop, ih b.length (by rw [← hl, e]; simp; omega) b rfl, e, splitL_cut b hca]
theorem join_snoc {xs : List (List UInt8)} (h : xs ≠ []) (y sep : List UInt8) : join (xs ++ [y]) sep = join xs sep ++ sep ++ y := by
  cases xs with
  | nil => exact absurd rfl h
  | cons x r =>
    rw [List.cons_append, join_cons, join_cons]
    unfold joinTail
    simp [List.append_assoc]
theorem join_cons2 (x y : List UInt8) (r : List (List UInt8)) (sep : List UInt8) : join (x :: y :: r) sep = x ++ sep ++ join (y :: r) sep := by
  rw [join_cons, join_cons]
  unfold joinTail
  simp [List.append_assoc]
/-- What has been joined is parted again. -/
theorem split_join {c : UInt8} : ∀ {xs : List (List UInt8)}, xs ≠ [] → (∀ x ∈ xs, c ∉ x) → splitL c (join xs [c]) = xs
  | [], h, _ => absurd rfl h
  | [x], _, hf => by rw [join_one]; exact splitL_none (hf x (by simp))
  | x :: y :: r, _, hf => by
    rw [join_cons2, show x ++ [c] ++ join (y :: r) [c] = x ++ c :: join (y :: r) [c] by simp, splitL_cut _ (hf x (by simp)), split_join (by simp) (fun z hz => hf z (List.mem_cons_of_mem _ hz))]
/-- The parts, joined. -/
theorem join_split (c : UInt8) : ∀ (l : List UInt8), join (splitL c l) [c] = l
  | [] => rfl
  | b :: r => by
    have ih := join_split c r
    unfold splitL
    cases hq : splitL c r with
    | nil => exact absurd hq (splitL_ne c r)
    | cons x xs =>
      rw [hq] at ih
      by_cases hb : b = c
      · rw [if_pos hb, join_cons2, ih, hb]; simp
      · rw [if_neg hb]
        show join ((b :: x) :: xs) [c] = b :: r
        rw [join_cons] at ih ⊢
        rw [← ih]; rfl
theorem splitL_length (c : UInt8) : ∀ (l : List UInt8), (splitL c l).length ≤ l.length + 1
  | [] => by simp [splitL]
  | b :: r => by
    have ih := splitL_length c r
    unfold splitL
    split
    · simp; omega
    · cases hq : splitL c r with
      | nil => simp
      | cons x xs => rw [hq] at ih; simp at ih ⊢; omega
theorem splitL_short (c : UInt8) : ∀ (l : List UInt8), ∀ x ∈ splitL c l, x.length ≤ l.length
  | [], x, hx => by simp [splitL] at hx; subst hx; simp
  | b :: r, x, hx => by
    have ih := splitL_short c r
    unfold splitL at hx
    split at hx
    · rcases List.mem_cons.mp hx with rfl | hx
      · simp
      · have := ih x hx; simp; omega
    · cases hq : splitL c r with
      | nil => exact absurd hq (splitL_ne c r)
      | cons y ys =>
        rw [hq] at hx ih
        rcases List.mem_cons.mp hx with rfl | hx
        · have := ih y List.mem_cons_self; simp; omega
        · have := ih x (List.mem_cons_of_mem _ hx); simp; omega
/-- A text of bytes. -/
def B (l : List UInt8) : ByteArray := ⟨l.toArray⟩
theorem B_list (l : List UInt8) : (B l).data.toList = l := rfl
theorem B_of (s : ByteArray) : B s.data.toList = s := Go.WideShapes.bytes_inj rfl
theorem B_size (l : List UInt8) : (B l).size = l.length := rfl
theorem B_append (x y : List UInt8) : B x ++ B y = B (x ++ y) := Go.WideShapes.bytes_inj (by simp [B])
theorem B_toList (l : List UInt8) : (B l).toList = l := Go.Lib.toList_data (B l)
theorem size_len (s : ByteArray) : s.size = s.data.toList.length := Array.length_toList.symm
theorem splitB_eq (c : UInt8) (s : ByteArray) : splitB ⟨#[c]⟩ 0 (countB s ⟨#[c]⟩) s = (splitL c s.data.toList).map B := by
  have h := splitB_data (⟨#[c]⟩ : ByteArray) 0 (countB s ⟨#[c]⟩) s
  have e : (⟨#[c]⟩ : ByteArray).data.toList = [c] := rfl
  rw [e] at h
  have h2 : splitK [c] 0 (countB s ⟨#[c]⟩) s.data.toList = splitL c s.data.toList := splitK_eq c _ _ rfl
  rw [h2] at h
  rw [← h, List.map_map]
  conv => lhs; rw [← List.map_id (splitB _ _ _ _)]
  exact List.map_congr_left (fun x _ => (B_of x).symm)

open Go.Lib
/-! ### Decimal numerals -/
def isDig (b : UInt8) : Bool := decide (48 ≤ b.toNat) && decide (b.toNat ≤ 57)
theorem isDig_iff {b : UInt8} : isDig b = true ↔ 48 ≤ b.toNat ∧ b.toNat ≤ 57 := by unfold isDig; simp
/-- What digits spell, behind acc. -/
def decVal (acc : Nat) : List UInt8 → Nat
  | [] => acc
  | c :: r => decVal (acc * 10 + (c.toNat - 48)) r
theorem decVal_snoc (acc : Nat) (l : List UInt8) (c : UInt8) : decVal acc (l ++ [c]) = decVal acc l * 10 + (c.toNat - 48) := by
  induction l generalizing acc with
  | nil => rfl
  | cons x l ih => exact ih _
theorem decVal_ge (acc : Nat) (l : List UInt8) : acc ≤ decVal acc l := by
  induction l generalizing acc with
  | nil => exact Nat.le_refl _
  | cons x l ih => exact Nat.le_trans (by omega) (ih _)
theorem decVal_lt (acc : Nat) (l : List UInt8) (h : l.all isDig = true) : decVal acc l < (acc + 1) * 10 ^ l.length := by
  induction l generalizing acc with
  | nil => rw [List.length_nil, Nat.pow_zero, Nat.mul_one]; exact Nat.lt_succ_self acc
  | cons x l ih =>
    rw [List.all_cons, Bool.and_eq_true] at h
    have hd := isDig_iff.mp h.1
    have h1 := ih (acc * 10 + (x.toNat - 48)) h.2
    show decVal (acc * 10 + (x.toNat - 48)) l < _
    refine Nat.lt_of_lt_of_le h1 ?_
    rw [List.length_cons, Nat.pow_succ, Nat.mul_comm (10 ^ l.length) 10, ← Nat.mul_assoc]
    exact Nat.mul_le_mul_right _ (by omega)
theorem ofNat_dig {d : Nat} (h : d < 10) : (UInt8.ofNat (48 + d)).toNat = 48 + d := by
  rw [UInt8.toNat_ofNat_of_lt']
  show 48 + d < 256
  omega
theorem dig_ofNat {b : UInt8} (h : isDig b = true) : UInt8.ofNat (48 + (b.toNat - 48)) = b := by
  have := isDig_iff.mp h
  apply UInt8.toNat_inj.mp
  rw [ofNat_dig (by omega)]; omega
/-- A numeral: digits, no 0 ahead of others. -/
def Canon (l : List UInt8) : Prop := l ≠ [] ∧ l.all isDig = true ∧ (l.length = 1 ∨ l.head? ≠ some 48)
theorem canon_dec (u : Nat) : Canon (decDigits u) ∧ decVal 0 (decDigits u) = u ∧ (1 ≤ u → (decDigits u).head? ≠ some 48) := by
  induction u using Nat.strongRecOn with
  | _ u ih =>
    rw [decDigits]
    by_cases h : u < 10
    · rw [dif_pos h]
      have e := ofNat_dig h
      refine ⟨⟨by simp, by simp [isDig, e]; omega, .inl rfl⟩, ?_, fun h1 hh => ?_⟩
      · show 0 * 10 + ((UInt8.ofNat (48 + u)).toNat - 48) = u
        rw [e]; omega
      · have h2 : UInt8.ofNat (48 + u) = 48 := by simpa using hh
        have h3 := congrArg UInt8.toNat h2
        rw [e] at h3
        have : (48 : UInt8).toNat = 48 := rfl
        omega
    · rw [dif_neg h]
      obtain ⟨⟨c1, c2, c3⟩, v, hd⟩ := ih (u / 10) (by omega)
      have e := ofNat_dig (d := u % 10) (by omega)
      have hne : (decDigits (u / 10) ++ [UInt8.ofNat (48 + u % 10)]).head? = (decDigits (u / 10)).head? := by
        cases hq : decDigits (u / 10) with
        | nil => exact absurd hq c1
        | cons x r => rfl
      refine ⟨⟨by simp, ?_, .inr (by rw [hne]; exact hd (by omega))⟩, ?_, fun _ => by rw [hne]; exact hd (by omega)⟩
      · rw [List.all_append, c2]
        simp [isDig, e]; omega
      · rw [decVal_snoc, v, e]; omega
theorem dec_canon (n : Nat) : ∀ l : List UInt8, l.length = n → Canon l → decDigits (decVal 0 l) = l := by
  induction n with
  | zero => exact fun l hl hc => absurd (List.eq_nil_of_length_eq_zero hl) hc.1
  | succ n ih =>
    intro l hl ⟨h1, h2, h3⟩
    obtain ⟨r, c, rfl⟩ : ∃ r c, l = r ++ [c] := ⟨l.dropLast, l.getLast h1, (List.dropLast_concat_getLast h1).symm⟩
    rw [List.all_append, Bool.and_eq_true] at h2
    have hc : isDig c = true := by simpa using h2.2
    have hcd := isDig_iff.mp hc
    rw [decVal_snoc]
    cases r with
    | nil =>
      show decDigits (0 * 10 + (c.toNat - 48)) = [c]
      rw [decDigits, dif_pos (by omega), Nat.zero_mul, Nat.zero_add, dig_ofNat hc]
    | cons x r =>
      have hx : isDig x = true := by
        have := h2.1
        rw [List.all_cons, Bool.and_eq_true] at this
        exact this.1
      have hxd := isDig_iff.mp hx
      have hx48 : x ≠ 48 := by
        rcases h3 with h3 | h3
        · simp at h3
        · intro e; exact h3 (by rw [e]; rfl)
      have hx1 : x.toNat ≠ 48 := fun e => hx48 (UInt8.toNat_inj.mp (by rw [e]; rfl))
      have hge : 1 ≤ decVal 0 (x :: r) := by
        have := decVal_ge (0 * 10 + (x.toNat - 48)) r
        show 1 ≤ decVal (0 * 10 + (x.toNat - 48)) r
        omega
      have hrec := ih (x :: r) (by simp at hl; simp; omega) ⟨by simp, h2.1, .inr (by simp; exact hx48)⟩
      generalize decVal 0 (x :: r) = v at hge hrec
      rw [decDigits, dif_neg (by omega), show (v * 10 + (c.toNat - 48)) / 10 = v by omega, show (v * 10 + (c.toNat - 48)) % 10 = c.toNat - 48 by omega, dig_ofNat hc, hrec]
/-- Digits that spell little are parsed. -/
theorem parse_digits (M : Nat) (hM : 1000000000000000000 ≤ M) (l : List UInt8) (acc : Nat) (h : l.all isDig = true) (hv : decVal acc l < 1000000000000000000) : parseUintM M acc l = .ok (decVal acc l) := by
  induction l generalizing acc with
  | nil => rfl
  | cons c r ih =>
    rw [List.all_cons, Bool.and_eq_true] at h
    have hd := isDig_iff.mp h.1
    have h1 : decVal acc (c :: r) = decVal (acc * 10 + (c.toNat - 48)) r := rfl
    have h2 := decVal_ge (acc * 10 + (c.toNat - 48)) r
    rw [h1] at hv ⊢
    unfold parseUintM
    rw [if_pos hd, if_neg (by omega), if_neg (by omega)]
    exact ih _ h.2 hv
/-- What the sign leaves. -/
def digitsOf (s : List UInt8) : List UInt8 := if s.head? = some 45 then s.drop 1 else s
/-- The number with a decimal text of at most 18 digits. -/
def numOf (s : List UInt8) : Int × Bool :=
  if (digitsOf s).length = 0 ∨ 18 < (digitsOf s).length ∨ ((digitsOf s).head? = some 48 ∧ 1 < s.length) ∨ (digitsOf s).all isDig = false then (0, false)
  else (if s.head? = some 45 then -((decVal 0 (digitsOf s) : Nat) : Int) else (decVal 0 (digitsOf s) : Nat), true)
theorem trim_digits (s : List UInt8) : trimPrefix s [45] = digitsOf s := by
  unfold trimPrefix digitsOf hasPrefix
  cases s with
  | nil => rfl
  | cons c r =>
    by_cases h : c = 45
    · subst h; simp
    · have : ¬ ((45 : UInt8) == c) = true := fun e => h (by simpa using (beq_iff_eq.mp e).symm)
      simp [h, Ne.symm h]
/-- As the library's words tell it. -/
def readOf (s : List UInt8) : Int × Bool :=
  if (trimPrefix s [45]).length < 1 ∨ 18 < (trimPrefix s [45]).length then (0, false) else
  match parseIntB 64 s with
  | .ok v => if itoa v = s then (v, true) else (0, false)
  | _ => (0, false)
theorem itoa_num {s : List UInt8} {v : Int} (h : itoa v = s) : (digitsOf s).all isDig = true ∧ ¬ ((digitsOf s).head? = some 48 ∧ 1 < s.length) := by
  unfold itoa at h
  by_cases hv : v < 0
  · rw [if_pos hv] at h
    subst h
    have e : digitsOf (45 :: decDigits v.natAbs) = decDigits v.natAbs := by unfold digitsOf; simp
    obtain ⟨⟨_, c2, _⟩, _, hd⟩ := canon_dec v.natAbs
    rw [e]
    exact ⟨c2, fun hh => hd (by omega) hh.1⟩
  · rw [if_neg hv] at h
    subst h
    obtain ⟨⟨c1, c2, c3⟩, _, hd⟩ := canon_dec v.toNat
    have e : digitsOf (decDigits v.toNat) = decDigits v.toNat := by
      unfold digitsOf
      rw [if_neg]
      intro hh
      cases hq : decDigits v.toNat with
      | nil => exact c1 hq
      | cons x r =>
        rw [hq] at hh c2
        have : x = 45 := by simpa using hh
        subst this
        simp [isDig] at c2
    rw [e]
    exact ⟨c2, fun hh => by
      rcases c3 with c3 | c3
      · omega
      · exact c3 hh.1⟩
theorem pow18 : (10 : Nat) ^ 18 = 1000000000000000000 := by decide
theorem val18 {l : List UInt8} (h : l.all isDig = true) (hl : l.length ≤ 18) : decVal 0 l < 1000000000000000000 := by
  have h1 := decVal_lt 0 l h
  have h2 : (10 : Nat) ^ l.length ≤ 10 ^ 18 := Nat.pow_le_pow_right (by decide) hl
  rw [pow18] at h2
  omega
theorem readOf_eq (s : List UInt8) : readOf s = numOf s := by
  unfold readOf numOf
  rw [trim_digits]
  by_cases h0 : (digitsOf s).length < 1 ∨ 18 < (digitsOf s).length
  · rw [if_pos h0, if_pos (by omega)]
  · rw [if_neg h0]
    have hl1 : 1 ≤ (digitsOf s).length := by omega
    have hl2 : (digitsOf s).length ≤ 18 := by omega
    by_cases hg : (digitsOf s).all isDig = true ∧ ¬ ((digitsOf s).head? = some 48 ∧ 1 < s.length)
    · rw [if_neg (by rintro (h | h | h | h); · omega
                     · omega
                     · exact hg.2 h
                     · rw [hg.1] at h; cases h)]
      have hv := val18 hg.1 hl2
      cases hs : s with
      | nil => rw [hs] at hl1; simp [digitsOf] at hl1
      | cons c r =>
        by_cases h45 : c = 45
        · subst h45
          have e : digitsOf (45 :: r) = r := by unfold digitsOf; simp
          rw [hs, e] at hg hv hl1 hl2
          have hr : r ≠ [] := by intro e2; rw [e2] at hl1; simp at hl1
          have hp : parseUintB 64 r = .ok (decVal 0 r) := by
            unfold parseUintB
            rw [if_neg hr]
            exact parse_digits _ (by decide) r 0 hg.1 hv
          have h48 : r.head? ≠ some 48 := fun hh => hg.2 ⟨hh, by simp; omega⟩
          have hcan : decDigits (decVal 0 r) = r := dec_canon _ r rfl ⟨hr, hg.1, .inr h48⟩
          have hpos : 1 ≤ decVal 0 r := by
            cases hq : r with
            | nil => exact absurd hq hr
            | cons x q =>
              rw [hq] at h48 hg
              have h5 : isDig x = true := by
                have := hg.1
                rw [List.all_cons, Bool.and_eq_true] at this
                exact this.1
              have h6 := isDig_iff.mp h5
              have h7 : x.toNat ≠ 48 := fun e => h48 (by rw [show x = 48 from UInt8.toNat_inj.mp (by rw [e]; rfl)]; rfl)
              have := decVal_ge (0 * 10 + (x.toNat - 48)) q
              show 1 ≤ decVal (0 * 10 + (x.toNat - 48)) q
              omega
          have hP : parseIntB 64 (45 :: r) = .ok (-(decVal 0 r : Int)) := by
            unfold parseIntB
            have e45 : (45 : UInt8).toNat = 45 := rfl
            simp only [e45]
            rw [if_pos (by decide), hp]
            simp only
            have e63 : (2 : Nat) ^ (64 - 1) = 9223372036854775808 := by decide
            rw [e63, if_neg (by simp), if_neg (by omega), if_pos trivial]
          rw [hP, e]
          simp only [List.head?_cons, if_true]
          rw [if_pos]
          unfold itoa
          rw [if_pos (by omega), show (-(decVal 0 r : Int)).natAbs = decVal 0 r by omega, hcan]
        · have e : digitsOf (c :: r) = c :: r := by unfold digitsOf; simp [h45]
          rw [hs, e] at hg hv hl1 hl2
          have hcd : isDig c = true := by
            have := hg.1
            rw [List.all_cons, Bool.and_eq_true] at this
            exact this.1
          have h6 := isDig_iff.mp hcd
          have hp : parseUintB 64 (c :: r) = .ok (decVal 0 (c :: r)) := by
            unfold parseUintB
            rw [if_neg (by simp)]
            exact parse_digits _ (by decide) _ 0 hg.1 hv
          have hcan : decDigits (decVal 0 (c :: r)) = c :: r := dec_canon _ _ rfl ⟨by simp, hg.1, by
            by_cases h1 : (c :: r).length = 1
            · exact .inl h1
            · exact .inr (fun hh => hg.2 ⟨hh, by have : (c :: r).length = r.length + 1 := rfl; omega⟩)⟩
          have hP : parseIntB 64 (c :: r) = .ok (decVal 0 (c :: r) : Int) := by
            unfold parseIntB
            simp only
            have e63 : (2 : Nat) ^ (64 - 1) = 9223372036854775808 := by decide
            have n43 : ¬ (c.toNat = 43 ∨ c.toNat = 45) := by omega
            have n45 : ¬ c.toNat = 45 := by omega
            rw [if_neg n43, hp]
            simp only [e63]
            rw [if_neg (by omega), if_neg (by omega), if_neg n45]
          rw [hP, e]
          have hne : ¬ (c :: r).head? = some 45 := by simp [h45]
          simp only [if_neg hne]
          rw [if_pos]
          unfold itoa
          rw [if_neg (by omega), Int.toNat_natCast, hcan]
    · have hr : (match parseIntB 64 s with | .ok v => if itoa v = s then (v, true) else ((0 : Int), false) | _ => (0, false)) = (0, false) := by
        split
        · split
          · rename_i hh
            exact absurd (itoa_num hh) hg
          · rfl
        · rfl
      rw [hr, if_pos]
      by_cases h1 : (digitsOf s).all isDig = true
      · exact .inr (.inr (.inl (Classical.byContradiction fun h2 => hg ⟨h1, h2⟩)))
      · exact .inr (.inr (.inr (Bool.eq_false_iff.mpr h1)))
/-- What is read is what would be written. -/
theorem numOf_true {s : List UInt8} {v : Int} (h : numOf s = (v, true)) : itoa v = s ∧ -1000000000000000000 < v ∧ v < 1000000000000000000 := by
  have hr := readOf_eq s
  rw [h] at hr
  refine ⟨?_, ?_⟩
  · unfold readOf at hr
    split at hr
    · cases hr
    · split at hr
      · split at hr
        · rename_i hh
          cases hr; exact hh
        · cases hr
      · cases hr
  · unfold numOf at h
    split at h
    · cases h
    · rename_i hc
      have h1 : (digitsOf s).all isDig = true := by
        cases hq : (digitsOf s).all isDig with
        | true => rfl
        | false => exact absurd (.inr (.inr (.inr hq))) hc
      have h2 := val18 h1 (by omega)
      have h3 := (Prod.mk.inj h).1
      split at h3 <;> omega
theorem numOf_false {s : List UInt8} {v : Int} (h : numOf s = (v, false)) : v = 0 := by
  unfold numOf at h
  split at h
  · exact (Prod.mk.inj h).1.symm
  · cases (Prod.mk.inj h).2
/-- What is written is read. -/
theorem numOf_itoa {v : Int} (h0 : -1000000000000000000 < v) (h1 : v < 1000000000000000000) : numOf (itoa v) = (v, true) := by
  have hd := itoa_num (v := v) rfl
  have nd : ∀ k u, u < 10 ^ (k + 1) → (decDigits u).length ≤ k + 1 := fun k => by
    induction k with
    | zero => intro u hu; rw [decDigits, dif_pos (by simpa using hu)]; simp
    | succ k ih =>
      intro u hu
      rw [decDigits]
      split
      · simp
      · rw [List.length_append]
        have := ih (u / 10) (by rw [Nat.pow_succ] at hu; omega)
        simp; omega
  unfold numOf
  by_cases hv : v < 0
  · have e : itoa v = 45 :: decDigits v.natAbs := by unfold itoa; rw [if_pos hv]
    have e2 : digitsOf (45 :: decDigits v.natAbs) = decDigits v.natAbs := by unfold digitsOf; simp
    rw [e] at hd ⊢
    obtain ⟨⟨c1, c2, c3⟩, cv, _⟩ := canon_dec v.natAbs
    rw [e2] at hd ⊢
    have hl := nd 17 v.natAbs (by rw [pow18]; omega)
    have hl1 : (decDigits v.natAbs).length ≠ 0 := fun h => c1 (List.eq_nil_of_length_eq_zero h)
    rw [if_neg (by rintro (h | h | h | h); · exact hl1 h
                   · omega
                   · exact hd.2 h
                   · rw [c2] at h; cases h)]
    simp only [List.head?_cons, if_true, cv]
    rw [show -((v.natAbs : Nat) : Int) = v by omega]
  · have e : itoa v = decDigits v.toNat := by unfold itoa; rw [if_neg hv]
    rw [e] at hd ⊢
    obtain ⟨⟨c1, c2, c3⟩, cv, _⟩ := canon_dec v.toNat
    have hne : ¬ (decDigits v.toNat).head? = some 45 := by
      intro hh
      cases hq : decDigits v.toNat with
      | nil => exact c1 hq
      | cons x r =>
        rw [hq] at hh c2
        have : x = 45 := by simpa using hh
        subst this
        simp [isDig] at c2
    have e2 : digitsOf (decDigits v.toNat) = decDigits v.toNat := by unfold digitsOf; rw [if_neg hne]
    rw [e2] at hd ⊢
    have hl := nd 17 v.toNat (by rw [pow18]; omega)
    have hl1 : (decDigits v.toNat).length ≠ 0 := fun h => c1 (List.eq_nil_of_length_eq_zero h)
    rw [if_neg (by rintro (h | h | h | h); · exact hl1 h
                   · omega
                   · exact hd.2 h
                   · rw [c2] at h; cases h), if_neg hne, cv]
    rw [show ((v.toNat : Nat) : Int) = v by omega]
end Go.Proofs.YtepdfefgkhodlaaDoor.Lin
end
