-- Texts of this claim, merged by packw.py (a program of this session's).
import Derived.Test.YtbalikebmacldaaGreatDoorQFnMatrices8
import Derived.Test.YtbalikebmacldaaGreatDoorQFnMatrices14
import Derived.KernelRfl
import Derived.Test.YtbalikebmacldaaGreatDoorQFnMatrices5
import Derived.Test.YtbalikebmacldaaGreatDoorQFnMatrices7
import Derived.Test.YtbalikebmacldaaGreatDoorQFnMatrices3
import Derived.Test.YtbalikebmacldaaGreatDoorQFnMatrices13
import Derived.Test.YtbalikebmacldaaGreatDoorQFnMatrices6
import Derived.Test.YtbalikebmacldaaGreatDoorQFnMatrices9
import Derived.Test.YtbalikebmacldaaGreatDoorQFnMatrices10
import Derived.Test.YtbalikebmacldaaGreatDoorQFnMatrices11

section
set_option linter.unusedVariables false
set_option linter.unusedSimpArgs false
set_option linter.unusedSectionVars false
namespace Go.Proofs.YtbalikebmacldaaGreatDoor.F
open Go.RowKit Go.Proofs.YtbalikebmacldaaGreatDoorW.PrintWords Go.Proofs.YtbalikebmacldaaGreatDoorW.PrintLast Go.Proofs.YtbalikebmacldaaGreatDoor.Lin
theorem concat_size {rs : List (List Int)} (hr : rs.length ≤ 100) (hl : rs.flatten.length ≤ 100000) (d : Nat) : ∀ k i, rs.length - i = d → i ≤ rs.length → d < k →
    ∃ k', k = k' + d + 1 ∧ slices_Concat_int64_int64.l0 k rs ((rs.take i).flatten.length : Int) rs rs.length i = slices_Concat_int64_int64.l1 k' [] rs rs.length 0 := by
  have hle : ∀ i, (rs.take i).flatten.length ≤ rs.flatten.length := fun i => by
    have : rs.flatten = (rs.take i).flatten ++ (rs.drop i).flatten := by rw [← List.flatten_append, List.take_append_drop]
    rw [this, List.length_append]; omega
  induction d with
  | zero =>
    intro k i hd hi hk
    obtain ⟨k, rfl⟩ : ∃ m, k = m + 1 := ⟨k - 1, by omega⟩
    refine ⟨k, by omega, ?_⟩
    have h1 := hle i
    simp only [slices_Concat_int64_int64.l0]
    rw [if_neg (nlt_nat (by omega))]
    have g : slices_Grow_int64_int64.f [] ((rs.take i).flatten.length : Int) = some [] := by
      unfold slices_Grow_int64_int64.f
      rw [if_pos (show ([] : List Int).length = 0 from rfl), if_pos (by omega), if_pos (by omega)]
    rw [g, Option.bind_some]
  | succ d ih =>
    intro k i hd hi hk
    obtain ⟨k, rfl⟩ : ∃ m, k = m + 1 := ⟨k - 1, by omega⟩
    obtain ⟨k', e1, e2⟩ := ih k (i + 1) (by omega) (by omega) (by omega)
    refine ⟨k', by omega, ?_⟩
    have hiR : i < rs.length := by omega
    have h1 := hle (i + 1)
    rw [← e2, take_flatten_succ rs hiR, List.length_append]
    rw [take_flatten_succ rs hiR, List.length_append] at h1
    have e3 : ((rs.take i).flatten.length : Int) + ((rs.getD i []).length : Int) = (((rs.take i).flatten.length + (rs.getD i []).length : Nat) : Int) := by omega
    simp only [slices_Concat_int64_int64.l0]
    rw [if_pos (lt_nat hiR), if_pos (idx0 _), if_pos (lt_nat hiR), rdL_nat, e3, w64_idV (x := (((rs.take i).flatten.length + (rs.getD i []).length : Nat) : Int)) (by omega) (by omega), if_neg (by omega), w64_succ (n := 100) (by omega) (by omega)]
theorem concat_rows {rs : List (List Int)} (hr : rs.length ≤ 100) (hl : rs.flatten.length ≤ 100000) (d : Nat) : ∀ k i, rs.length - i = d → i ≤ rs.length → d < k →
    slices_Concat_int64_int64.l1 k (rs.take i).flatten rs rs.length i = some rs.flatten := by
  have hle : ∀ i, (rs.take i).flatten.length ≤ rs.flatten.length := fun i => by
    have : rs.flatten = (rs.take i).flatten ++ (rs.drop i).flatten := by rw [← List.flatten_append, List.take_append_drop]
    rw [this, List.length_append]; omega
  induction d with
  | zero =>
    intro k i hd hi hk
    obtain ⟨k, rfl⟩ : ∃ m, k = m + 1 := ⟨k - 1, by omega⟩
    simp only [slices_Concat_int64_int64.l1]
    rw [if_neg (nlt_nat (by omega)), List.take_of_length_le (by omega)]
  | succ d ih =>
    intro k i hd hi hk
    obtain ⟨k, rfl⟩ : ∃ m, k = m + 1 := ⟨k - 1, by omega⟩
    have hiR : i < rs.length := by omega
    have h1 := hle (i + 1)
    have e2 := ih k (i + 1) (by omega) (by omega) (by omega)
    rw [take_flatten_succ rs hiR] at h1 e2
    rw [List.length_append] at h1
    simp only [slices_Concat_int64_int64.l1]
    rw [if_pos (lt_nat hiR), if_pos (idx0 _), if_pos (lt_nat hiR), rdL_nat, if_pos (by omega), w64_succ (n := 100) (by omega) (by omega)]
    exact e2
theorem concat_tells {rs : List (List Int)} (hr : rs.length ≤ 100) (hl : rs.flatten.length ≤ 100000) {k : Nat} (hk : 300 ≤ k) : slices_Concat_int64_int64.f k rs = some rs.flatten := by
  unfold slices_Concat_int64_int64.f
  obtain ⟨k', e1, e2⟩ := concat_size hr hl rs.length k 0 (by omega) (by omega) (by omega)
  refine e2.trans ?_
  exact concat_rows hr hl rs.length k' 0 (by omega) (by omega) (by omega)
end Go.Proofs.YtbalikebmacldaaGreatDoor.F
end

section
set_option linter.unusedVariables false
set_option linter.unusedSimpArgs false
set_option linter.unusedSectionVars false
namespace Go.Proofs.YtbalikebmacldaaGreatDoor.F
open Go.RowKit Go.Proofs.YtbalikebmacldaaGreatDoorW.PrintWords Go.Proofs.YtbalikebmacldaaGreatDoorW.PrintLast Go.Proofs.YtbalikebmacldaaGreatDoor.Lin
open Go.Lib
theorem byte_at {c : UInt8} : ∀ {a : List UInt8} (b : List UInt8), c ∉ a → indexByte (a ++ c :: b) c = (a.length : Int)
  | [], b, _ => by rw [List.nil_append]; unfold indexByte; simp
  | x :: r, b, h => by
    have hx : ¬ (x == c) = true := fun e => h (by rw [beq_iff_eq.mp e]; exact List.mem_cons_self)
    have ih := byte_at (a := r) b (fun hr => h (List.mem_cons_of_mem _ hr))
    rw [List.cons_append]
    unfold indexByte
    rw [if_neg hx, ih, if_neg (by first | (simp; done) | (simp; omega)), List.length_cons]
    push_cast
    first | done | rfl
theorem cut_at {c : UInt8} {a b : List UInt8} (h : c ∉ a) : cut (a ++ c :: b) [c] = (a, b, true) := by
  have e : index (a ++ c :: b) [c] = (a.length : Int) := (index_one _ c).trans (byte_at b h)
  unfold cut
  rw [e, if_pos (by omega), Int.toNat_natCast, List.take_left, show a.length + [c].length = (a ++ [c]).length by simp, show a ++ c :: b = (a ++ [c]) ++ b by simp, List.drop_left]
theorem no_byte {v : Int} {c : UInt8} (h1 : c ≠ 45) (h2 : isDig c = false) : c ∉ itoa v := fun h => by
  obtain ⟨h3, _⟩ := itoa_num (v := v) rfl
  unfold digitsOf at h3
  by_cases q : (itoa v).head? = some 45
  · rw [if_pos q] at h3
    cases hs : itoa v with
    | nil => rw [hs] at h; cases h
    | cons x r =>
      rw [hs] at h h3 q
      simp only [List.head?_cons, Option.some.injEq] at q
      subst q
      rcases List.mem_cons.mp h with h | h
      · exact h1 h
      · have := List.all_eq_true.mp h3 c (by simpa using h)
        exact absurd (h2.symm.trans this) (by decide)
  · rw [if_neg q] at h3
    have := List.all_eq_true.mp h3 c h
    exact absurd (h2.symm.trans this) (by decide)
theorem mem_join {x : UInt8} {sep : List UInt8} : ∀ {xs : List (List UInt8)}, x ∈ join xs sep → x ∈ sep ∨ ∃ y, y ∈ xs ∧ x ∈ y
  | [], h => by rw [join_nil] at h; cases h
  | [y], h => by rw [join_one] at h; exact .inr ⟨y, List.mem_cons_self, h⟩
  | y :: z :: r, h => by
    rw [join_cons2] at h
    rcases List.mem_append.mp h with h | h
    · rcases List.mem_append.mp h with h | h
      · exact .inr ⟨y, List.mem_cons_self, h⟩
      · exact .inl h
    · rcases mem_join h with h | ⟨w, hw, hx⟩
      · exact .inl h
      · exact .inr ⟨w, List.mem_cons_of_mem _ hw, hx⟩
theorem no_slash (l : List Int) : (47 : UInt8) ∉ listTxt l := fun h => by
  unfold listTxt at h
  by_cases h0 : l.length = 0
  · rw [if_pos h0] at h; exact absurd h (by decide)
  · rw [if_neg h0] at h
    rcases mem_join h with h | ⟨y, hy, hx⟩
    · exact absurd h (by decide)
    · obtain ⟨v, _, rfl⟩ := List.mem_map.mp hy
      exact no_byte (by decide) (by decide) hx
theorem no_slash_head (p r c : Int) : (47 : UInt8) ∉ headTxt p r c := fun h => by
  unfold headTxt at h
  simp only [List.mem_append] at h
  rcases h with (((h | h) | h) | h) | h
  · exact no_byte (by decide) (by decide) h
  · exact absurd h (by decide)
  · exact no_byte (by decide) (by decide) h
  · exact absurd h (by decide)
  · exact no_byte (by decide) (by decide) h
theorem join_slash : ∀ (xs : List (List UInt8)) (h : List UInt8), join (h :: xs) [47] = h ++ (xs.map (fun x => 47 :: x)).flatten
  | [], h => by rw [join_one]; simp
  | y :: r, h => by rw [join_cons2, join_slash r y]; simp
theorem rowsTxt_join (h : List UInt8) (rs : List (List Int)) : h ++ rowsTxt rs = join (h :: rs.map listTxt) [47] := by
  rw [join_slash, List.map_map]; rfl
theorem split_mtx (p r c : Int) (rs : List (List Int)) : splitL 47 (headTxt p r c ++ rowsTxt rs) = headTxt p r c :: rs.map listTxt := by
  rw [rowsTxt_join]
  refine split_join (by simp) (fun x hx => ?_)
  rcases List.mem_cons.mp hx with e | hx
  · rw [e]; exact no_slash_head p r c
  · obtain ⟨l, _, rfl⟩ := List.mem_map.mp hx
    exact no_slash l
theorem read_row {r : List Int} (h : fits r = true) : readL (listTxt r) = (r, true) := by
  by_cases h0 : r = []
  · subst h0
    unfold listTxt readL
    simp
  · have := read_back h h0
    rw [row_text h] at this
    exact this
theorem slash_loop (H : List ByteArray) (h0 : 0 < H.length) {rs : List (List Int)} (hl : rs.length ≤ 64) (hf : ∀ r ∈ rs, fits r = true) {K0 : Nat} (hK : 1048700 ≤ K0) (d : Nat) : ∀ (k i : Nat), rs.length - i = d → i ≤ rs.length → d + K0 ≤ k →
    impl_readSlashed.l0 k H (rs.take i) ((rs.map listTxt).map B) rs.length i = some (H.getD 0 ByteArray.empty, rs) := by
  induction d with
  | zero =>
    intro k i hd hi hk
    obtain ⟨k, rfl⟩ : ∃ m, k = m + 1 := ⟨k - 1, by omega⟩
    simp only [impl_readSlashed.l0]
    rw [if_neg (by omega), if_pos (by omega), List.take_of_length_le (by omega)]
    rfl
  | succ d ih =>
    intro k i hd hi hk
    obtain ⟨k, rfl⟩ : ∃ m, k = m + 1 := ⟨k - 1, by omega⟩
    have hlt : i < rs.length := by omega
    have g1 : (i : Int) < (rs.length : Int) := by omega
    have g2 : (0 : Int) ≤ (i : Int) := by omega
    have g4 : rs.length ≤ 35184372088832 := by omega
    have b1 : rs.length - (i + 1) = d := by omega
    have b2 : i + 1 ≤ rs.length := by omega
    have b3 : d + K0 ≤ k := by omega
    have b4 : 1048700 ≤ k := Nat.le_trans hK (Nat.le_trans (Nat.le_add_left K0 d) b3)
    have g5 : (rs.take i).length < 5864062014805 := by rw [List.length_take]; omega
    have hr := hf _ (List.getElem_mem hlt)
    have hs := listTxt_short hr
    have hm : i < (rs.map listTxt).length := by rw [List.length_map]; exact hlt
    have g3 : (i : Int) < (((rs.map listTxt).map B).length : Int) := by rw [List.length_map, List.length_map]; exact g1
    have e1 : impl_ReadList.f k (B (listTxt rs[i])) = some (rs[i], true) := by
      rw [implRead_tells _ (by rw [B_size]; exact Nat.le_trans hs (by decide)) b4, B_list, read_row hr]
    have e2 := ih k (i + 1) b1 b2 b3
    rw [List.take_add_one, List.getElem?_eq_getElem hlt] at e2
    simp only [impl_readSlashed.l0]
    rw [if_pos g1, if_pos g2, if_pos g3, rdOf_natR, getBR hm, List.getElem_map, e1, Option.bind_some, if_pos g5, w64_succ hlt g4]
    exact e2
theorem readSlashed_tells (p r c : Int) {rs : List (List Int)} (hl : rs.length ≤ 64) (hf : ∀ r ∈ rs, fits r = true) (hs : (headTxt p r c ++ rowsTxt rs).length ≤ 1048576) {k : Nat} (hk : 2000000 ≤ k) : impl_readSlashed.f k (B (headTxt p r c ++ rowsTxt rs)) = some (B (headTxt p r c), rs) := by
  have e := split_tells (B (headTxt p r c ++ rowsTxt rs)) (by rw [B_size]; exact hs) 47
  rw [B_list, split_mtx] at e
  have hlen : ((headTxt p r c :: rs.map listTxt).map B).length = rs.length + 1 := by simp
  have g1 : (1 : Int) ≤ (((headTxt p r c :: rs.map listTxt).map B).length : Int) := by rw [hlen]; omega
  have e2 := slash_loop ((headTxt p r c :: rs.map listTxt).map B) (by rw [hlen]; omega) hl hf (K0 := 1048700) (Nat.le_refl _) rs.length k 0 (by omega) (by omega) (by omega)
  have hd : (((headTxt p r c :: rs.map listTxt).map B).drop 1) = (rs.map listTxt).map B := rfl
  have hl2 : ((((rs.map listTxt).map B).length : Nat) : Int) = (rs.length : Int) := by rw [List.length_map, List.length_map]
  unfold impl_readSlashed.f
  rw [e, Option.bind_some, if_pos g1, Option.bind_some, hd, hl2]
  exact e2
theorem cut_tells (s : List UInt8) (c : UInt8) {a b : List UInt8} (hs : s.length ≤ 1048576) (h : s = a ++ c :: b) (hc : c ∉ a) : strings_Cut.f (B s) ⟨#[c]⟩ = some (B a, B b, true) := by
  unfold strings_Cut.f
  rw [if_pos (by rw [B_size]; omega), B_list]
  have e : cut s (⟨#[c]⟩ : ByteArray).data.toList = (a, b, true) := by rw [h]; exact cut_at hc
  rw [e]
  rfl
theorem read_matrix {p : Int} {R C : Nat} {l : List Int} (h : matOk p R C l = true) {k : Nat} (hk : 2000000 ≤ k) : impl_ReadMatrix.f k (textOut p R C l) = some (p, (R : Int), (C : Int), l, true) := by
  obtain ⟨R', C', hR', hC', h1, h2, h3, h4, h5⟩ := dimsM h
  have eR : R = R' := by omega
  have eC : C = C' := by omega
  subst eR; subst eC
  have hrows := rowsM_ok (R := R) (C := C) h5
  have hfr := fits_row h4 (R := R) (C := C) (by omega) h5
  have ls := rowsTxt_short hfr
  rw [rowsM_length] at ls
  have ls2 : R * 1409 ≤ 32 * 1409 := Nat.mul_le_mul h1 (Nat.le_refl _)
  have lh := head_length p R C (by omega) (by omega) (by omega)
  have hs : (headTxt p R C ++ rowsTxt (rowsM R C l)).length ≤ 1048576 := by rw [List.length_append]; omega
  have s1 := itoa_short (x := p) (by omega) (by omega)
  have s2 := itoa_short (x := (R : Int)) (by omega) (by omega)
  have s3 := itoa_short (x := (C : Int)) (by omega) (by omega)
  have e0 : textOut p R C l = B (headTxt p R C ++ rowsTxt (rowsM R C l)) := by unfold textOut; rw [if_pos h]; rfl
  have e1 := readSlashed_tells p R C (rs := rowsM R C l) (by rw [rowsM_length]; omega) hfr hs hk
  have e2 := cut_tells (headTxt p R C) 32 (a := itoa p) (b := itoa (R : Int) ++ 120 :: itoa (C : Int)) (by omega) (by unfold headTxt; simp) (no_byte (by decide) (by decide))
  have e3 := cut_tells (itoa (R : Int) ++ 120 :: itoa (C : Int)) 120 (a := itoa (R : Int)) (b := itoa (C : Int)) (by rw [List.length_append, List.length_cons]; omega) rfl (no_byte (by decide) (by decide))
  have d1 : impl_ReadDecimal.f (B (itoa p)) = some (p, true) := by rw [readDecimal_tells _ (by rw [B_size]; omega), B_list, numOf_itoa (by omega) (by omega)]
  have d2 : impl_ReadDecimal.f (B (itoa (R : Int))) = some ((R : Int), true) := by rw [readDecimal_tells _ (by rw [B_size]; omega), B_list, numOf_itoa (by omega) (by omega)]
  have d3 : impl_ReadDecimal.f (B (itoa (C : Int))) = some ((C : Int), true) := by rw [readDecimal_tells _ (by rw [B_size]; omega), B_list, numOf_itoa (by omega) (by omega)]
  have hfl : (rowsM R C l).flatten = l := by
    have := flatten_rows hrows
    rw [rowsM_length, rowsM_tab h3] at this
    exact this
  have hll : l.length ≤ 1024 := by rw [h3]; exact Nat.mul_le_mul h1 h2
  have e4 := concat_tells (rs := rowsM R C l) (by rw [rowsM_length]; omega) (by rw [hfl]; omega) (k := k) (by omega)
  rw [hfl] at e4
  have e5 : impl_ValidMatrix.f k p R C l = some true := by rw [implOk_tells p R C (by omega), h]
  have e6 := impl_textM p R C (l := l) (k := k) (by omega)
  unfold impl_ReadMatrix.f
  rw [e0, e1, Option.bind_some]
  dsimp only
  rw [e2, Option.bind_some]
  dsimp only
  rw [e3, Option.bind_some]
  dsimp only
  rw [d1, Option.bind_some, d2, Option.bind_some, d3, Option.bind_some]
  dsimp only
  rw [e4, Option.bind_some, e5, Option.bind_some, if_pos rfl, e6, Option.bind_some, e0, if_pos rfl]
end Go.Proofs.YtbalikebmacldaaGreatDoor.F
end

section
set_option linter.unusedVariables false
set_option linter.unusedSimpArgs false
set_option linter.unusedSectionVars false
namespace Go.Proofs.YtbalikebmacldaaGreatDoor.F
open Go.RowKit Go.Proofs.YtbalikebmacldaaGreatDoorW.PrintWords Go.Proofs.YtbalikebmacldaaGreatDoorW.PrintLast Go.Proofs.YtbalikebmacldaaGreatDoor.Lin
def rowS (c : Nat) (v l : List Int) (i n : Nat) : Int := ((List.range n).map (fun j => l.getD (i * c + j) 0 * v.getD j 0)).sum
theorem rowS_succ (c : Nat) (v l : List Int) (i n : Nat) : rowS c v l i (n + 1) = rowS c v l i n + l.getD (i * c + n) 0 * v.getD n 0 := by
  unfold rowS
  rw [List.range_succ, List.map_append, List.sum_append]
  simp
theorem dotI_loop {a b : List Int} {p : Int} (hp : 2 ≤ p) (hp' : p ≤ 251) (hl : a.length = b.length) (hn : a.length ≤ 35184372088832) (ha : ∀ j, 0 ≤ a.getD j 0 ∧ a.getD j 0 < p) (hb : ∀ j, 0 ≤ b.getD j 0 ∧ b.getD j 0 < p) (d : Nat) :
    ∀ (k i : Nat) (s : Int), a.length - i = d → i ≤ a.length → d < k → s = rowS 0 b a 0 i % p → impl_dot.l0 k a b p s a.length i = some (rowS 0 b a 0 a.length % p) := by
  induction d with
  | zero =>
    intro k i s hd hi hk hs
    obtain ⟨k, rfl⟩ : ∃ m, k = m + 1 := ⟨k - 1, by omega⟩
    obtain rfl : i = a.length := by omega
    simp only [impl_dot.l0]
    rw [if_neg (by omega), hs]
  | succ d ih =>
    intro k i s hd hi hk hs
    obtain ⟨k, rfl⟩ : ∃ m, k = m + 1 := ⟨k - 1, by omega⟩
    simp only [impl_dot.l0]
    have h1 : (i : Int) < (a.length : Int) := by omega
    have h2 : (i : Int) < (b.length : Int) := by omega
    have h0 : (0 : Int) ≤ (i : Int) := by omega
    have hp0 : ¬ p = 0 := by omega
    have hs2 : 0 ≤ s ∧ s < p := by rw [hs]; exact ⟨Int.emod_nonneg _ (by omega), Int.emod_lt_of_pos _ (by omega)⟩
    have hm := mul_small hp hp' (ha i).1 (by have := (ha i).2; omega) (hb i).1 (hb i).2
    have e : Int.tmod (wrap64 (s + wrap64 (rd a i * rd b i))) p = rowS 0 b a 0 (i + 1) % p := by
      rw [rd_nat, rd_nat, w64_id (x := a.getD i 0 * b.getD i 0) (by omega) (by omega), w64_id (x := s + a.getD i 0 * b.getD i 0) (by omega) (by omega), Int.tmod_eq_emod_of_nonneg (by omega), rowS_succ, hs, Int.emod_add_emod]
      congr 3
      rw [show 0 * 0 + i = i by omega]
    simp only [h0, h1, h2, hp0, if_true, if_false]
    rw [e, w64_succ (n := a.length) (by omega) hn]
    exact ih k (i + 1) _ (by omega) (by omega) (by omega) rfl
theorem dotI_tells {a b : List Int} {p : Int} (hp : 2 ≤ p) (hp' : p ≤ 251) (hl : a.length = b.length) (hn : a.length ≤ 35184372088832) (ha : ∀ j, 0 ≤ a.getD j 0 ∧ a.getD j 0 < p) (hb : ∀ j, 0 ≤ b.getD j 0 ∧ b.getD j 0 < p) {k : Nat} (hk : a.length < k) :
    impl_dot.f k a b p = some (rowS 0 b a 0 a.length % p) := by
  unfold impl_dot.f
  exact dotI_loop hp hp' hl hn ha hb a.length k 0 0 (by omega) (by omega) hk (by unfold rowS; simp)
theorem mapD {n j : Nat} (f : Nat → Int) (h : j < n) : ((List.range n).map f).getD j 0 = f j := by simp [List.getD_eq_getElem?_getD, h]
theorem mapD_in {p : Int} (hp : 2 ≤ p) {n : Nat} {f : Nat → Int} (h : ∀ j, 0 ≤ f j ∧ f j < p) (j : Nat) : 0 ≤ ((List.range n).map f).getD j 0 ∧ ((List.range n).map f).getD j 0 < p := by
  by_cases hj : j < n
  · rw [mapD f hj]; exact h j
  · rw [List.getD_eq_getElem?_getD, List.getElem?_eq_none (by simp; omega)]; simp; omega
theorem rowS_congr {c i : Nat} {v l a : List Int} (n : Nat) (h : ∀ j, j < n → a.getD j 0 = l.getD (i * c + j) 0) : rowS 0 v a 0 n = rowS c v l i n := by
  induction n with
  | zero => rfl
  | succ n ih => rw [rowS_succ, rowS_succ, ih (fun j hj => h j (by omega)), show 0 * 0 + n = n by omega, h n (by omega)]
theorem row_tells {p r : Int} {R c : Nat} {l v : List Int} (hp : 2 ≤ p) (hp' : p ≤ 251) (hR : R ≤ 64) (hc : c ≤ 64) (hlen : l.length = R * c) (hl : ∀ j, 0 ≤ l.getD j 0 ∧ l.getD j 0 < p) (hv : ∀ j, 0 ≤ v.getD j 0 ∧ v.getD j 0 < p) (hvl : v.length = c) {i : Nat} (hi : i < R) {k : Nat} (hk : 64 < k) :
    impl_Matrix_row.f k p r c l i v p = some (rowS c v l i c % p) := by
  have a1 : i ≤ 128 := by omega
  have a2 : i + 1 ≤ 128 := by omega
  have a3 : c ≤ 128 := by omega
  have a8 : R ≤ 35184372088832 := by omega
  have a9 : c < k := by omega
  have a10 : c ≤ 35184372088832 := by omega
  have g1 : (i + 1) * c ≤ R * c := Nat.mul_le_mul_right _ hi
  have g3 : (i + 1) * c = i * c + c := Nat.succ_mul i c
  have n1 : (0 : Int) ≤ ((i * c : Nat) : Int) := Int.natCast_nonneg _
  have n2 : ((i * c : Nat) : Int) ≤ (((i + 1) * c : Nat) : Int) := Int.ofNat_le.mpr (by rw [g3]; exact Nat.le_add_right _ _)
  have n3 : (((i + 1) * c : Nat) : Int) ≤ (l.length : Int) := Int.ofNat_le.mpr (by rw [hlen]; exact g1)
  have e1 : wrap64 ((i : Int) + 1) = ((i + 1 : Nat) : Int) := w64_succ (n := R) hi a8
  have m1 := w64_mulN a1 a3
  have m2 := w64_mulN a2 a3
  unfold impl_Matrix_row.f
  rw [e1, m1, m2, if_pos n1, if_pos n2, if_pos n3, Int.toNat_natCast, Int.toNat_natCast, slice_row hlen hi]
  have hz : ((List.range c).map (fun j => l.getD (i * c + j) 0)).length = c := by simp
  have := dotI_tells (a := (List.range c).map (fun j => l.getD (i * c + j) 0)) hp hp' (by rw [hz, hvl]) (by rw [hz]; exact a10) (mapD_in hp (fun j => hl _)) hv (k := k) (by rw [hz]; exact a9)
  rw [this, hz, rowS_congr c (fun j hj => mapD (fun j => l.getD (i * c + j) 0) hj)]
theorem range_map_snoc (g : Nat → Int) (n : Nat) : (List.range n).map g ++ [g n] = (List.range (n + 1)).map g := by rw [List.range_succ]; simp
theorem filled_row {cf : Cell2} {f : Nat → Nat → Int} {r c : Nat} (hr : r ≤ 128) (hc : c ≤ 128) {i : Nat} (hi : i < r) (h : ∀ j, j < c → cf.f i j = some (f i j)) (p : Int) (d : Nat) : ∀ (k j : Nat), c - j = d → j ≤ c →
    impl_filled.l1 cf (k + d + 1) c i r i c j p r c ((List.range (i * c + j)).map fun x => f (x / c) (x % c)) =
    impl_filled.l0 cf k c r ((i + 1 : Nat) : Int) p r c ((List.range ((i + 1) * c)).map fun x => f (x / c) (x % c)) := by
  induction d with
  | zero =>
    intro k j hd hj
    obtain rfl : j = c := by omega
    rw [show k + 0 + 1 = k + 1 by omega]
    simp only [impl_filled.l1]
    rw [if_neg (by omega), w64_succ (n := r) hi (by omega), Nat.succ_mul]
  | succ d ih =>
    intro k j hd hj
    have hj' : j < c := by omega
    have hlt := at_lt hi hj'
    have hm := side_mul hr hc
    rw [show k + (d + 1) + 1 = (k + d + 1) + 1 by omega]
    simp only [impl_filled.l1]
    rw [if_pos (by omega), h j hj']
    simp only [Option.bind_some, List.length_map, List.length_range]
    rw [if_pos (by omega), w64_succ (n := c) hj' (by omega)]
    have e : f i j = (fun x => f (x / c) (x % c)) (i * c + j) := by simp only [(at_div hj').1, (at_div hj').2]
    rw [e, range_map_snoc]
    exact ih k (j + 1) (by omega) (by omega)
theorem filled_loop {cf : Cell2} {f : Nat → Nat → Int} {r c : Nat} (hr : r ≤ 128) (hc : c ≤ 128) (h : ∀ i j, i < r → j < c → cf.f i j = some (f i j)) (p : Int) (d : Nat) : ∀ (k i : Nat), r - i = d → i ≤ r → d * (c + 2) < k →
    impl_filled.l0 cf k c r i p r c ((List.range (i * c)).map fun x => f (x / c) (x % c)) = some (p, (r : Int), (c : Int), tab r c f) := by
  induction d with
  | zero =>
    intro k i hd hi hk
    obtain ⟨k, rfl⟩ : ∃ m, k = m + 1 := ⟨k - 1, by omega⟩
    obtain rfl : i = r := by omega
    simp only [impl_filled.l0]
    rw [if_neg (by omega)]
    rfl
  | succ d ih =>
    intro k i hd hi hk
    rw [Nat.succ_mul] at hk
    obtain ⟨k, rfl⟩ : ∃ m, k = m + c + 1 + 1 := ⟨k - c - 1 - 1, by omega⟩
    simp only [impl_filled.l0]
    rw [if_pos (by omega)]
    have := filled_row hr hc (show i < r by omega) (fun j hj => h i j (by omega) hj) p c k 0 (by omega) (by omega)
    rw [show i * c + 0 = i * c from rfl] at this
    rw [show (0 : Int) = ((0 : Nat) : Int) from rfl, this]
    exact ih k (i + 1) (by omega) (by omega) (by omega)
theorem filled_tells {cf : Cell2} {f : Nat → Nat → Int} {r c : Nat} (hr : r ≤ 128) (hc : c ≤ 128) (h : ∀ i j, i < r → j < c → cf.f i j = some (f i j)) (p a3 : Int) {k : Nat} (hk : 17000 ≤ k) :
    impl_filled.f cf k p r c a3 = some (p, (r : Int), (c : Int), tab r c f) := by
  have h2 : r * (c + 2) ≤ 128 * 130 := Nat.mul_le_mul hr (by omega)
  have := filled_loop hr hc h p r k 0 (by omega) (by omega) (by omega)
  unfold impl_filled.f
  rw [show ([] : List Int) = (List.range (0 * c)).map fun x => f (x / c) (x % c) by simp]
  exact this
theorem at_tells {p r c : Int} {l : List Int} {R C : Nat} (hr : R ≤ 128) (hc : C ≤ 128) (ec : c = C) (hl : l.length = R * C) {i j : Nat} (hi : i < R) (hj : j < C) : impl_Matrix_at.f p r c l i j = some (l.getD (i * C + j) 0) := by
  subst ec
  have h := at_lt hi hj
  unfold impl_Matrix_at.f
  rw [w64_at (r := R) hr hc (by omega) (by omega), if_pos (by omega), if_pos (by omega), rd_nat]
def turned (r c : Nat) (l : List Int) : List Int := tab c r (fun i j => l.getD (j * c + i) 0)
theorem implTransposed_tells (p : Int) {r c : Nat} (hr : r ≤ 128) (hc : c ≤ 128) {l : List Int} (hl : l.length = r * c) {k : Nat} (hk : 17000 ≤ k) : impl_transpose.f k p r c l = some (p, (c : Int), (r : Int), turned r c l) := by
  unfold impl_transpose.f
  rw [filled_tells (f := fun i j => l.getD (j * c + i) 0) hc hr (fun i j hi hj => at_tells (p := p) (r := (r : Int)) (R := r) hr hc rfl hl hj hi) p 0 hk]
  rfl
def colM (R C : Nat) (b : List Int) (j : Nat) : List Int := (List.range R).map (fun t => b.getD (t * C + j) 0)
theorem colM_length (R C : Nat) (b : List Int) (j : Nat) : (colM R C b j).length = R := by unfold colM; simp
def prodAt (p : Int) (C C' : Nat) (a b : List Int) (i j : Nat) : Int := rowS C (colM C C' b j) a i C % p
theorem turned_rows {R C : Nat} (b : List Int) {j : Nat} (hj : j < C) : (rowsM C R (turned R C b)).getD j [] = colM R C b j := by
  unfold rowsM colM
  rw [List.getD_eq_getElem?_getD, List.getElem?_map]
  simp only [List.getElem?_range hj, Option.map_some, Option.getD_some]
  refine List.map_congr_left (fun t ht => ?_)
  have := List.mem_range.mp ht
  unfold turned
  rw [tab_at _ hj this]
theorem columns_tells (p : Int) {R C : Nat} (hR : R ≤ 64) (hC : C ≤ 64) {b : List Int} (hl : b.length = R * C) {k : Nat} (hk : 17000 ≤ k) : impl_columnsOf.f k p R C b = some (rowsM C R (turned R C b)) := by
  unfold impl_columnsOf.f
  rw [implTransposed_tells p (by omega) (by omega) hl hk, Option.bind_some]
  dsimp only
  rw [rowsOf_tells (by omega) (by omega) (by unfold turned; rw [tab_length]) (by omega), Option.bind_some]
theorem implProduct_tells {p p' : Int} (hp : 2 ≤ p) (hp' : p ≤ 251) {R C C' : Nat} (hR : R ≤ 64) (hC : C ≤ 64) (hC' : C' ≤ 64) {a b : List Int} (ha : a.length = R * C) (hb : b.length = C * C') (va : ∀ j, 0 ≤ a.getD j 0 ∧ a.getD j 0 < p) (vb : ∀ j, 0 ≤ b.getD j 0 ∧ b.getD j 0 < p) {k : Nat} (hk : 17000 ≤ k) :
    impl_product.f k p R C a p' C C' b = some (p, (R : Int), (C' : Int), tab R C' (prodAt p C C' a b)) := by
  unfold impl_product.f
  rw [columns_tells p' hC hC' hb hk, Option.bind_some]
  rw [filled_tells (f := prodAt p C C' a b) (by omega) (by omega) (fun i j hi hj => by
    show (if 0 ≤ (j : Int) then (if (j : Int) < ((rowsM C' C (turned C C' b)).length : Int) then impl_Matrix_row.f 100 p R C a i (rd_L2 (rowsM C' C (turned C C' b)) j) p else none) else none) = _
    rw [if_pos (by omega), if_pos (by rw [rowsM_length]; omega), rdL_nat, turned_rows b hj]
    exact row_tells hp hp' hR hC ha va (fun t => by
      unfold colM
      by_cases ht : t < C
      · rw [mapD _ ht]; exact vb _
      · rw [List.getD_eq_getElem?_getD, List.getElem?_eq_none (by simp; omega)]; simp; omega) (colM_length _ _ _ _) hi (by omega)) p 0 hk]
  rfl
section
variable {p p' q1 : Int} {R C C' : Nat} {a b : List Int}
end
def mulOut (p r c : Int) (a : List Int) (p' r' c' : Int) (b : List Int) : Int × Int × Int × List Int × Int := if (matOk p r c a && matOk p' r' c' b) = true then if p = p' ∧ c = r' then (p, r, c', tab r.toNat c'.toNat (prodAt p c.toNat c'.toNat a b), 0) else (0, 0, 0, [], 6) else (0, 0, 0, [], 1)
theorem impl_mulM (p r c p' r' c' : Int) {a b : List Int} {k : Nat} (hk : 18000 ≤ k) : impl_Multiply.f k p r c a p' r' c' b = some (mulOut p r c a p' r' c' b) := by
  unfold impl_Multiply.f mulOut
  obtain ⟨k, rfl⟩ : ∃ m, k = m + 1 := ⟨k - 1, by omega⟩
  rw [implOk_tells p r c (by omega), implOk_tells p' r' c' (by omega)]
  cases h : matOk p r c a with
  | false => simp [impl_Multiply.j0]
  | true =>
    cases h' : matOk p' r' c' b with
    | false => simp [impl_Multiply.j0]
    | true =>
      obtain ⟨R, C, rfl, rfl, h1, h2, h3, hp, hx⟩ := dimsM h
      obtain ⟨R', C', rfl, rfl, h1', h2', h3', hp', hx'⟩ := dimsM h'
      simp only [Option.bind_some, if_true, impl_Multiply.j0, Bool.not_true, Bool.false_eq_true, if_false, Bool.and_self]
      by_cases e1 : p = p'
      · subst e1
        by_cases e2 : (C : Int) = (R' : Int)
        · have : C = R' := by omega
          subst this
          rw [if_pos rfl, if_pos rfl, if_pos ⟨rfl, rfl⟩, implProduct_tells hp.1 hp.2 (by omega) (by omega) (by omega) h3 h3' hx hx' (by omega), Option.bind_some]
          rfl
        · simp [e2]
      · simp [e1]
end Go.Proofs.YtbalikebmacldaaGreatDoor.F
end

section
set_option linter.unusedVariables false
set_option linter.unusedSimpArgs false
set_option linter.unusedSectionVars false
namespace Go.Proofs.YtbalikebmacldaaGreatDoor.Lin
theorem isP_nat {p : Nat} (hp : isP (p : Int) = true) : 2 ≤ p ∧ p ≤ 251 := by have := isP_ge hp; omega
section
variable {p : Nat} [NeZero p] {n : Nat} {rows : List (List Int)}
end
end Go.Proofs.YtbalikebmacldaaGreatDoor.Lin
end

section
set_option linter.unusedVariables false
set_option linter.unusedSimpArgs false
set_option linter.unusedSectionVars false
namespace Go.Proofs.YtbalikebmacldaaGreatDoor.F
open Go.RowKit Go.Proofs.YtbalikebmacldaaGreatDoorW.PrintWords Go.Proofs.YtbalikebmacldaaGreatDoorW.PrintLast Go.Proofs.YtbalikebmacldaaGreatDoor.Lin
section
variable {q : Nat} [NeZero q] {R C : Nat} {l : List Int}
end
end Go.Proofs.YtbalikebmacldaaGreatDoor.F
end

section
set_option linter.unusedVariables false
set_option linter.unusedSimpArgs false
set_option linter.unusedSectionVars false
namespace Go.Proofs.YtbalikebmacldaaGreatDoor.Lin
section
variable {p : Nat} [NeZero p] {n : Nat} {rows : List (List Int)}
theorem elim_ops (hp : isP p = true) (hok : RowsOk p n rows) (hl : rows.length = n) : (0 ≤ (elim p n rows).2.2 ∧ (elim p n rows).2.2 < p) ∧ phi p (elim p n rows).2.2 = det n (fm p rows) ∧ ((elim p n rows).2.1.length = n ∨ (elim p n rows).2.2 = 0) ∧ ∀ N, det n (mulM n (fm p rows) N) = det n (fm p rows) * det n N := by
  obtain ⟨r, P, h1, h2, h3, h4, h5, h6, h7, h8, h9⟩ := elimTo_tells hp hok n (Nat.le_refl _)
  obtain ⟨e, he, hd⟩ := h9 hl
  have hR := h4.rref
  rw [hl] at hR
  have hdet := he.det
  refine ⟨h6, ?_, ?_, ?_⟩
  · rcases hR.unit_or_zero with ⟨hr, hI⟩ | ⟨hr, k, hk, hz⟩
    · rw [hdet, det_congr hI, det_id]
      exact (hd hr).trans (by grind)
    · rw [hdet, det_zero_row hk _ hz]
      show phi p (elimTo p rows n).2.2 = _
      rw [h8 hr, phi_zero]; grind
  · rcases Nat.lt_or_ge r n with h | h
    · exact .inr (h8 h)
    · refine .inl ?_
      show (elimTo p rows n).2.1.length = n
      rw [h3, pivList_length]; omega
  · intro N
    refine det_mul_of he ?_ N
    rcases hR.unit_or_zero with ⟨_, hI⟩ | ⟨_, hz⟩
    · exact .inl hI
    · exact .inr hz
end
end Go.Proofs.YtbalikebmacldaaGreatDoor.Lin
end

section
set_option linter.unusedVariables false
set_option linter.unusedSimpArgs false
set_option linter.unusedSectionVars false
namespace Go.Proofs.YtbalikebmacldaaGreatDoor.F
open Go.RowKit Go.Proofs.YtbalikebmacldaaGreatDoorW.PrintWords Go.Proofs.YtbalikebmacldaaGreatDoorW.PrintLast Go.Proofs.YtbalikebmacldaaGreatDoor.Lin
section
variable {p : Nat} [NeZero p]
theorem phi_sum (f : Nat → Int) : ∀ n, phi p ((List.range n).map f).sum = sm n (fun j => phi p (f j))
  | 0 => by simp [sm, phi_zero]
  | n + 1 => by
    rw [List.range_succ, List.map_append, List.sum_append]
    simp only [List.map_cons, List.map_nil, List.sum_cons, List.sum_nil, Int.add_zero]
    rw [phi_add, phi_sum f n]; rfl
theorem phi_prodAt {R C C' : Nat} (a b : List Int) {i j : Nat} : phi p (prodAt p C C' a b i j) = sm C (fun t => phi p (a.getD (i * C + t) 0) * phi p (b.getD (t * C' + j) 0)) := by
  unfold prodAt rowS
  rw [phi_emod, phi_sum]
  refine sm_congr (fun t ht => ?_)
  rw [phi_mul]
  congr 2
  unfold colM
  simp [List.getD_eq_getElem?_getD, ht]
theorem prodAt_range (hp : isP (p : Int) = true) {C C' : Nat} (a b : List Int) (i j : Nat) : 0 ≤ prodAt p C C' a b i j ∧ prodAt p C C' a b i j < p := by
  have := isP_nat hp
  unfold prodAt
  exact ⟨Int.emod_nonneg _ (by omega), Int.emod_lt_of_pos _ (by omega)⟩
theorem tab_range {r c : Nat} {f : Nat → Nat → Int} (h0 : 0 < p) (h : ∀ i j, 0 ≤ f i j ∧ f i j < p) (j : Nat) : 0 ≤ (tab r c f).getD j 0 ∧ (tab r c f).getD j 0 < p := by
  by_cases hj : j < (tab r c f).length
  · rw [tab_length] at hj; rw [tab_getD _ hj]; exact h _ _
  · rw [List.getD_eq_getElem?_getD, List.getElem?_eq_none (by omega)]; simp; omega
theorem det_mul_law (hp : isP (p : Int) = true) {n : Nat} {a b : List Int} (ha : ∀ j, 0 ≤ a.getD j 0 ∧ a.getD j 0 < (p : Int)) (hb : ∀ j, 0 ≤ b.getD j 0 ∧ b.getD j 0 < (p : Int)) :
    (elim p n (rowsM n n (tab n n (prodAt p n n a b)))).2.2 = (elim p n (rowsM n n a)).2.2 * (elim p n (rowsM n n b)).2.2 % p := by
  have hpn := isP_nat hp
  obtain ⟨a1, a2, _, a4⟩ := elim_ops hp (rowsM_ok (R := n) (C := n) ha) (rowsM_length n n a)
  obtain ⟨b1, b2, _, _⟩ := elim_ops hp (rowsM_ok (R := n) (C := n) hb) (rowsM_length n n b)
  obtain ⟨c1, c2, _, _⟩ := elim_ops hp (rowsM_ok (R := n) (C := n) (tab_range (p := p) (r := n) (c := n) (f := prodAt p n n a b) (by omega) (prodAt_range hp a b))) (rowsM_length n n _)
  have e := a4 (fm p (rowsM n n b))
  rw [det_congr (M := mulM n (fm p (rowsM n n a)) (fm p (rowsM n n b))) (N := fm p (rowsM n n (tab n n (prodAt p n n a b)))) (fun i j hi hj => ?_), ← c2, ← a2, ← b2, ← phi_mul] at e
  · have e2 := phi_eq.mp e
    rw [Int.emod_eq_of_lt c1.1 c1.2] at e2
    exact e2
  · show sm n (fun k => fm p (rowsM n n a) i k * fm p (rowsM n n b) k j) = phi p (cell (rowsM n n (tab n n (prodAt p n n a b))) i j)
    rw [rowsM_cell _ hi hj, tab_at _ hi hj, phi_prodAt (R := n)]
    refine sm_congr (fun t ht => ?_)
    unfold fm
    rw [rowsM_cell _ hi ht, rowsM_cell _ ht hj]
end
def applied (p : Int) (r c : Nat) (l v : List Int) : List Int := (List.range r).map (fun i => rowS c v l i c % p)
theorem applied_snoc (p : Int) (r c : Nat) (l v : List Int) : applied p r c l v ++ [rowS c v l r c % p] = applied p (r + 1) c l v := by
  unfold applied; rw [List.range_succ]; simp
theorem applied_length (p : Int) (r c : Nat) (l v : List Int) : (applied p r c l v).length = r := by unfold applied; simp
theorem implApply_loop {p : Int} {R c : Nat} {l v : List Int} (hp : 2 ≤ p) (hp' : p ≤ 251) (hR : R ≤ 64) (hc : c ≤ 64) (hlen : l.length = R * c) (hl : ∀ j, 0 ≤ l.getD j 0 ∧ l.getD j 0 < p) (hv : ∀ j, 0 ≤ v.getD j 0 ∧ v.getD j 0 < p) (hvl : v.length = c) (d : Nat) :
    ∀ (k i : Nat), R - i = d → i ≤ R → d + 66 < k → impl_apply.l0 k v (applied p i c l v) R i p R c l = some (applied p R c l v) := by
  induction d with
  | zero =>
    intro k i hd hi hk
    obtain ⟨k, rfl⟩ : ∃ m, k = m + 1 := ⟨k - 1, by omega⟩
    obtain rfl : i = R := by omega
    simp only [impl_apply.l0]
    rw [if_neg (by omega)]
  | succ d ih =>
    intro k i hd hi hk
    obtain ⟨k, rfl⟩ : ∃ m, k = m + 1 := ⟨k - 1, by omega⟩
    simp only [impl_apply.l0]
    have e := row_tells (r := (R : Int)) hp hp' hR hc hlen hl hv hvl (show i < R by omega) (k := k) (by omega)
    rw [if_pos (by omega), e]
    simp only [Option.bind_some]
    rw [if_pos (by rw [applied_length]; omega), applied_snoc, w64_succ (n := R) (by omega) (by omega)]
    exact ih k (i + 1) (by omega) (by omega) (by omega)
theorem implApply_tells {p : Int} {R c : Nat} {l v : List Int} (hp : 2 ≤ p) (hp' : p ≤ 251) (hR : R ≤ 64) (hc : c ≤ 64) (hlen : l.length = R * c) (hl : ∀ j, 0 ≤ l.getD j 0 ∧ l.getD j 0 < p) (hv : ∀ j, 0 ≤ v.getD j 0 ∧ v.getD j 0 < p) (hvl : v.length = c) {k : Nat} (hk : 200 ≤ k) :
    impl_apply.f k p R c l v = some (applied p R c l v) := by
  unfold impl_apply.f
  exact implApply_loop hp hp' hR hc hlen hl hv hvl R k 0 (by omega) (by omega) (by omega)
def applyOut (p r c : Int) (l v : List Int) : List Int × Int := if (matOk p r c l && (allM v p && decide ((v.length : Int) = c))) = true then (applied p r.toNat c.toNat l v, 0) else ([], 1)
theorem impl_applyM (p r c : Int) {l v : List Int} {k : Nat} (hk : 17000 ≤ k) : impl_ApplyMatrix.f k p r c l v = some (applyOut p r c l v) := by
  unfold impl_ApplyMatrix.f applyOut
  rw [implOk_tells p r c (by omega)]
  cases h : matOk p r c l with
  | false => simp
  | true =>
    obtain ⟨hP, _⟩ := matOk_iff.mp h
    obtain ⟨R, C, rfl, rfl, h1, h2, h3, hp, hx⟩ := dimsM h
    rw [areM_tells hP]
    unfold impl_size_int64.f
    simp only [Option.bind_some, if_true, Bool.true_and]
    by_cases hC : (v.length : Int) = (C : Int)
    · cases h' : allM v p with
      | false => simp [hC]
      | true =>
        have e := implApply_tells hp.1 hp.2 (show R ≤ 64 by omega) (show C ≤ 64 by omega) h3 hx (fun j => getD_inM hp.1 (allM_iff.mp h') j) (show v.length = C by omega) (k := k) (by omega)
        simp only [hC, if_true, e, decide_true, Bool.and_self, Option.bind_some, Int.toNat_natCast]
    · simp [hC]
section
variable {p : Nat} [NeZero p]
theorem sum_congr {n : Nat} {f g : Nat → Int} (h : ∀ t, t < n → f t = g t) : ((List.range n).map f).sum = ((List.range n).map g).sum := by
  rw [List.map_congr_left (fun t ht => h t (List.mem_range.mp ht))]
theorem turn_mul (q : Int) {n m : Nat} (a b : List Int) : turned n n (tab n n (prodAt q m n a b)) = tab n n (prodAt q m n (turned m n b) (turned n m a)) := by
  unfold turned
  refine tab_congr (fun i j hi hj => ?_)
  rw [tab_at _ hj hi]
  unfold prodAt rowS
  congr 1
  refine sum_congr (fun t ht => ?_)
  rw [tab_at _ hi ht]
  unfold colM
  rw [mapD _ ht, mapD _ ht, tab_at _ ht hj, Int.mul_comm]
theorem applied_range (hp : isP (p : Int) = true) (r c : Nat) (l v : List Int) (j : Nat) : 0 ≤ (applied p r c l v).getD j 0 ∧ (applied p r c l v).getD j 0 < p := by
  have := isP_nat hp
  unfold applied
  exact mapD_in (by omega) (fun j => ⟨Int.emod_nonneg _ (by omega), Int.emod_lt_of_pos _ (by omega)⟩) j
theorem phi_applied {r c : Nat} (l v : List Int) {i : Nat} (hi : i < r) : phi p ((applied p r c l v).getD i 0) = sm c (fun t => phi p (l.getD (i * c + t) 0) * phi p (v.getD t 0)) := by
  unfold applied
  rw [mapD _ hi, phi_emod]
  unfold rowS
  rw [phi_sum]
  exact sm_congr (fun t _ => phi_mul _ _)
theorem apply_mul (hp : isP (p : Int) = true) {n m : Nat} (a b v : List Int) : applied p n m a (applied p m n b v) = applied p n n (tab n n (prodAt p m n a b)) v := by
  refine ext_getD (by rw [applied_length, applied_length]) (fun i hi => ?_)
  rw [applied_length] at hi
  have h1 := applied_range hp n m a (applied p m n b v) i
  have h2 := applied_range hp n n (tab n n (prodAt p m n a b)) v i
  refine phi_inj h1.1 h1.2 h2.1 h2.2 ?_
  rw [phi_applied _ _ hi, phi_applied _ _ hi]
  rw [sm_congr (g := fun t => sm n (fun s => phi p (a.getD (i * m + t) 0) * (phi p (b.getD (t * n + s) 0) * phi p (v.getD s 0)))) (fun t ht => by rw [phi_applied _ _ ht, sm_mul]), sm_comm]
  refine sm_congr (fun s hs => ?_)
  rw [tab_at _ hi hs, phi_prodAt (R := n), ← sm_mul_r]
  exact sm_congr (fun t _ => by grind)
end
theorem take_snocM {l : List Int} {i : Nat} (h : i < l.length) : l.take i ++ [l.getD i 0] = l.take (i + 1) := by
  rw [List.take_succ_eq_append_getElem h, getD_at h]
theorem addT_loop {a b : List Int} {c p : Int} (hp : 2 ≤ p) (hp' : p ≤ 251) (hl : a.length = b.length) (hn : a.length ≤ 17592186044416) (ha : ∀ j, 0 ≤ a.getD j 0 ∧ a.getD j 0 < p) (hb : ∀ j, 0 ≤ b.getD j 0 ∧ b.getD j 0 < p) (hc : 0 ≤ c) (hc' : c ≤ 251) (d : Nat) :
    ∀ (k i : Nat), a.length - i = d → i ≤ a.length → d < k → impl_addTimes.l0 k a b c p ((addRow p a b c).take i) a.length i = some (addRow p a b c) := by
  have hz : (addRow p a b c).length = a.length := by unfold addRow; simp [hl]
  induction d with
  | zero =>
    intro k i hd hi hk
    obtain ⟨k, rfl⟩ : ∃ m, k = m + 1 := ⟨k - 1, by omega⟩
    simp only [impl_addTimes.l0]
    have hf : ¬ (i : Int) < (a.length : Int) := by omega
    simp only [hf, if_false]
    rw [List.take_of_length_le (by omega)]
  | succ d ih =>
    intro k i hd hi hk
    obtain ⟨k, rfl⟩ : ∃ m, k = m + 1 := ⟨k - 1, by omega⟩
    simp only [impl_addTimes.l0]
    have h1 : (i : Int) < (a.length : Int) := by omega
    have h2 : (i : Int) < (b.length : Int) := by omega
    have h0 : (0 : Int) ≤ (i : Int) := by omega
    have hp0 : ¬ p = 0 := by omega
    have hlt : ((addRow p a b c).take i).length < 17592186044416 := by rw [List.length_take]; omega
    have hm := mul_small hp hp' hc hc' (hb i).1 (hb i).2
    have e : Int.tmod (wrap64 (rd a i + wrap64 (c * rd b i))) p = (addRow p a b c).getD i 0 := by
      have := ha i
      rw [rd_nat, rd_nat, w64_id (x := c * b.getD i 0) (by omega) (by omega), w64_id (x := a.getD i 0 + c * b.getD i 0) (by omega) (by omega), Int.tmod_eq_emod_of_nonneg (by omega), addRow_getD (by omega) (by omega)]
    simp only [h0, h1, h2, hp0, if_true, if_false, hlt]
    rw [e, w64_succ (n := a.length) (by omega) (by omega), take_snocM (by omega)]
    exact ih k (i + 1) (by omega) (by omega) (by omega)
theorem addT_tells {a b : List Int} {c p : Int} (hp : 2 ≤ p) (hp' : p ≤ 251) (hl : a.length = b.length) (hn : a.length ≤ 17592186044416) (ha : ∀ j, 0 ≤ a.getD j 0 ∧ a.getD j 0 < p) (hb : ∀ j, 0 ≤ b.getD j 0 ∧ b.getD j 0 < p) (hc : 0 ≤ c) (hc' : c ≤ 251) {k : Nat} (hk : a.length < k) :
    impl_addTimes.f k a b c p = some (addRow p a b c) := by
  unfold impl_addTimes.f
  exact addT_loop hp hp' hl hn ha hb hc hc' a.length k 0 (by omega) (by omega) hk
theorem sumM_tells {p r c p' r' c' s : Int} {a b : List Int} (hp : 2 ≤ p) (hp' : p ≤ 251) (hl : a.length = b.length) (hn : a.length ≤ 17592186044416) (ha : ∀ j, 0 ≤ a.getD j 0 ∧ a.getD j 0 < p) (hb : ∀ j, 0 ≤ b.getD j 0 ∧ b.getD j 0 < p) (hc : 0 ≤ s) (hc' : s ≤ 251) {k : Nat} (hk : a.length < k) :
    impl_sum.f k p r c a p' r' c' b s = some (p, r, c, addRow p a b s) := by
  unfold impl_sum.f
  rw [addT_tells hp hp' hl hn ha hb hc hc' hk]; rfl
def addOut (p r c : Int) (a : List Int) (p' r' c' : Int) (b : List Int) : Int × Int × Int × List Int × Int := if (matOk p r c a && matOk p' r' c' b) = true then if p = p' ∧ r = r' ∧ c = c' then (p, r, c, addRow p a b 1, 0) else (0, 0, 0, [], 6) else (0, 0, 0, [], 1)
theorem impl_addM (p r c p' r' c' : Int) {a b : List Int} {k : Nat} (hk : 17000 ≤ k) : impl_AddMatrices.f k p r c a p' r' c' b = some (addOut p r c a p' r' c' b) := by
  unfold impl_AddMatrices.f addOut
  obtain ⟨k, rfl⟩ : ∃ m, k = m + 1 := ⟨k - 1, by omega⟩
  rw [implOk_tells p r c (by omega), implOk_tells p' r' c' (by omega)]
  cases h : matOk p r c a with
  | false => simp [impl_AddMatrices.j0]
  | true =>
    cases h' : matOk p' r' c' b with
    | false => simp [impl_AddMatrices.j0]
    | true =>
      obtain ⟨R, C, rfl, rfl, h1, h2, h3, hp, hx⟩ := dimsM h
      obtain ⟨R', C', rfl, rfl, h1', h2', h3', hp', hx'⟩ := dimsM h'
      simp only [Option.bind_some, if_true, impl_AddMatrices.j0, Bool.not_true, Bool.false_eq_true, if_false, Bool.and_self, impl_sameShape.f]
      by_cases e1 : p = p'
      · subst e1
        by_cases e2 : (R : Int) = (R' : Int)
        · have : R = R' := by omega
          subst this
          by_cases e3 : (C : Int) = (C' : Int)
          · have : C = C' := by omega
            subst this
            have hm := side_mul (show R ≤ 128 by omega) (show C ≤ 128 by omega)
            have e := sumM_tells (p := p) (r := (R : Int)) (c := (C : Int)) (p' := p) (r' := (R : Int)) (c' := (C : Int)) (s := 1) hp.1 hp.2 (show a.length = b.length by omega) (by omega) hx hx' (by omega) (by omega) (k := k) (by omega)
            simp only [if_true, and_self, e, Option.bind_some, beq_self_eq_true]
          · simp [e3]
        · simp [e2]
      · simp [e1]
def scaleR (p : Int) (l : List Int) (c : Int) : List Int := l.map (fun x => c * x % p)
theorem scaleR_getD {p : Int} {l : List Int} {c : Int} {i : Nat} (h : i < l.length) : (scaleR p l c).getD i 0 = c * l.getD i 0 % p := by
  unfold scaleR; simp [List.getD_eq_getElem?_getD, h]
theorem addRow_zeroM {p s : Int} {z l : List Int} (hz : z.length = l.length) (h : ∀ j, z.getD j 0 = 0) : addRow p z l s = scaleR p l s := by
  refine ext_getD (by unfold addRow scaleR; simp [hz]) (fun j hj => ?_)
  have hj : j < l.length := by unfold addRow at hj; simp at hj; omega
  rw [addRow_getD (by omega) hj, scaleR_getD hj, h, Int.zero_add]
theorem zeros_getD (r c : Nat) (j : Nat) : (tab r c (fun _ _ => 0)).getD j 0 = 0 := by
  by_cases h : j < r * c
  · rw [tab_getD _ h]
  · rw [List.getD_eq_getElem?_getD, List.getElem?_eq_none (by rw [tab_length]; omega)]; rfl
theorem implZero_tells (p : Int) {r c : Nat} (hr : r ≤ 128) (hc : c ≤ 128) {k : Nat} (hk : 17000 ≤ k) : impl_zero.f k p r c = some (p, (r : Int), (c : Int), tab r c (fun _ _ => 0)) := by
  unfold impl_zero.f
  rw [filled_tells (f := fun _ _ => 0) hr hc (fun i j _ _ => rfl) p 0 hk]; rfl
theorem isElement_tells {p : Int} (hp : 2 ≤ p) (hp' : p ≤ 251) (s : Int) : impl_isElement.f s p = some (decide (0 ≤ s ∧ s ≤ p - 1)) := by
  unfold impl_isElement.f
  rw [same_in, w64_id (x := p - 1) (by omega) (by omega), in_tells]; rfl
theorem add_twice (q : Int) (l : List Int) : addRow q l l 1 = scaleR q l (2 % q) := by
  unfold addRow scaleR
  refine List.ext_getElem (by simp) (fun i h1 h2 => ?_)
  simp only [List.getElem_map, List.getElem_zipWith]
  have e : ∀ x : Int, 2 % q * x % q = 2 * x % q := fun x => by rw [Int.mul_emod, Int.emod_emod_of_dvd _ (Int.dvd_refl _), ← Int.mul_emod]
  rw [e]
  congr 1
  omega
def turnOut (p r c : Int) (l : List Int) : Int × Int × Int × List Int × Int := if matOk p r c l = true then (p, c, r, turned r.toNat c.toNat l, 0) else (0, 0, 0, [], 1)
theorem dims {p r c : Int} {l : List Int} (h : matOk p r c l = true) : ∃ R C : Nat, r = R ∧ c = C ∧ R ≤ 32 ∧ C ≤ 32 ∧ l.length = R * C := by
  obtain ⟨_, hr, hc, hl, _⟩ := matOk_iff.mp h
  obtain ⟨R, rfl⟩ := Int.eq_ofNat_of_zero_le hr.1
  obtain ⟨C, rfl⟩ := Int.eq_ofNat_of_zero_le hc.1
  exact ⟨R, C, rfl, rfl, by omega, by omega, by exact_mod_cast hl⟩
theorem impl_turnM (p r c : Int) {l : List Int} {k : Nat} (hk : 17000 ≤ k) : impl_Transpose.f k p r c l = some (turnOut p r c l) := by
  unfold impl_Transpose.f turnOut
  rw [implOk_tells p r c (by omega)]
  cases h : matOk p r c l with
  | false => simp
  | true =>
    obtain ⟨R, C, rfl, rfl, h1, h2, h3⟩ := dims h
    have e := implTransposed_tells p (show R ≤ 128 by omega) (show C ≤ 128 by omega) h3 hk
    simp only [Option.bind_some, if_true, e, Int.toNat_natCast]
section
variable {p : Int} {R C : Nat} {piv ml : List Int} {det mp m2 op o1 o2 : Int}
def sw (f : Nat → Nat → Int) (x y a b : Nat) : Int := if a = x then f y b else if a = y then f x b else f a b
def cleared (p : Int) (f : Nat → Nat → Int) (row c a b : Nat) : Int := if f a c = 0 then f a b else (f a b - f a c * f row b) % p
def pivoted (p : Int) (f : Nat → Nat → Int) (row c : Nat) : Nat → Nat → Int :=
  fun a b => if a ≠ row then cleared p (fun a b => if a = row then f a b * pinv p (f row c) % p else f a b) row c a b else (if a = row then f a b * pinv p (f row c) % p else f a b)
end
theorem pow_emod (a : Int) (n : Nat) (p : Int) : (a % p) ^ n % p = a ^ n % p := by
  induction n with
  | zero => rw [Int.pow_zero, Int.pow_zero]
  | succ n ih => rw [Int.pow_succ, Int.pow_succ, Int.mul_emod, ih, Int.emod_emod_of_dvd a (Int.dvd_refl p), ← Int.mul_emod]
theorem small_mul {p x y : Int} (hp : 2 ≤ p) (hp' : p ≤ 251) (hx : 0 ≤ x) (hx' : x < p) (hy : 0 ≤ y) (hy' : y < p) : 0 ≤ x * y ∧ x * y ≤ 63001 := by
  have h1 := Int.mul_nonneg hx hy
  have h2 : x * y ≤ 251 * 251 := Int.mul_le_mul (by omega) (by omega) hy (by omega)
  omega
theorem tmod_small {p x y : Int} (hp : 2 ≤ p) (hp' : p ≤ 251) (hx : 0 ≤ x) (hx' : x < p) (hy : 0 ≤ y) (hy' : y < p) : Int.tmod (wrap64 (x * y)) p = x * y % p := by
  have h := small_mul hp hp' hx hx' hy hy'
  rw [w64_id (x := x * y) (by omega) (by omega), Int.tmod_eq_emod_of_nonneg h.1]
theorem half_wrap {n : Nat} (h : n ≤ 9223372036854775807) : Int.tmod (n : Int) 2 = ((n % 2 : Nat) : Int) ∧ wrap64 (Int.tdiv (n : Int) 2) = ((n / 2 : Nat) : Int) := by
  rw [Int.tmod_eq_emod_of_nonneg (Int.natCast_nonneg n), Int.tdiv_eq_ediv_of_nonneg (Int.natCast_nonneg n)]
  refine ⟨by omega, ?_⟩
  rw [w64_id (x := (n : Int) / 2) (by omega) (by omega)]; omega
theorem emod_range {p : Int} (hp : 2 ≤ p) (x : Int) : 0 ≤ x % p ∧ x % p < p := ⟨Int.emod_nonneg _ (by omega), Int.emod_lt_of_pos _ (by omega)⟩
theorem pow_loop {p : Int} (hp : 2 ≤ p) (hp' : p ≤ 251) (j : Nat) : ∀ (k : Nat) (x acc : Int) (n : Nat), j < k → n < 2 ^ j → n ≤ 9223372036854775807 → 0 ≤ x → x < p → 0 ≤ acc → acc < p →
    impl_powerOf.l0 k x n p acc = some (acc * x ^ n % p) := by
  induction j with
  | zero =>
    intro k x acc n hk hn _ _ _ h0 h1
    obtain ⟨k, rfl⟩ : ∃ m, k = m + 1 := ⟨k - 1, by omega⟩
    obtain rfl : n = 0 := by simpa using hn
    simp only [impl_powerOf.l0]
    rw [if_neg (by simp)]
    rw [Int.pow_zero, Int.mul_one, Int.emod_eq_of_lt h0 h1]
  | succ j ih =>
    intro k x acc n hk hn hn2 hx hx' h0 h1
    obtain ⟨k, rfl⟩ : ∃ m, k = m + 1 := ⟨k - 1, by omega⟩
    simp only [impl_powerOf.l0]
    by_cases hz : n = 0
    · subst hz
      rw [if_neg (by simp), Int.pow_zero, Int.mul_one, Int.emod_eq_of_lt h0 h1]
    · have hh : n / 2 < 2 ^ j := Nat.div_lt_of_lt_mul (by rw [Nat.pow_succ, Nat.mul_comm] at hn; exact hn)
      clear hn
      have e0 : (n : Int) > 0 := by omega
      obtain ⟨e1, e2⟩ := half_wrap hn2
      have e3 := tmod_small hp hp' hx hx' hx hx'
      have e4 := tmod_small hp hp' h0 h1 hx hx'
      have ep : ¬ p = 0 := by omega
      simp only [e0, if_true, e1, e2, e3, e4, ep, if_false]
      obtain ⟨m1, m2⟩ := emod_range hp (x * x)
      obtain ⟨m3, m4⟩ := emod_range hp (acc * x)
      have hn3 : n / 2 ≤ 9223372036854775807 := Nat.le_trans (Nat.div_le_self _ _) hn2
      have hk' : j < k := by omega
      have key : (x * x % p) ^ (n / 2) % p = x ^ (2 * (n / 2)) % p := by
        rw [pow_emod, Int.pow_mul, Int.pow_succ, Int.pow_succ, Int.pow_zero, Int.one_mul]
      by_cases ho : n % 2 = 1
      · rw [if_pos (by rw [ho]; rfl), ih k (x * x % p) (acc * x % p) (n / 2) hk' hh hn3 m1 m2 m3 m4]
        congr 1
        rw [Int.mul_emod, key, Int.emod_emod_of_dvd _ (Int.dvd_refl p), ← Int.mul_emod, Int.mul_assoc]
        congr 2
        rw [Int.mul_comm, ← Int.pow_succ]
        congr 1; omega
      · rw [if_neg (fun e => ho (by have := Int.ofNat_inj.mp e; exact this)), ih k (x * x % p) acc (n / 2) hk' hh hn3 m1 m2 h0 h1]
        congr 1
        rw [Int.mul_emod, key, ← Int.mul_emod]
        congr 3; omega
theorem pow_tells {p a : Int} {n : Nat} (hp : 2 ≤ p) (hp' : p ≤ 251) (h0 : 0 ≤ a) (h1 : a < p) (hn : n ≤ 9223372036854775807) {k : Nat} (hk : 64 ≤ k) : impl_powerOf.f k a n p = some (a ^ n % p) := by
  unfold impl_powerOf.f
  rw [pow_loop hp hp' 63 k a 1 n (by omega) (by omega) hn h0 h1 (by omega) (by omega), Int.one_mul]
theorem inverse_tells {p a : Int} (hp : isP p = true) (h0 : 0 ≤ a) (h1 : a < p) {k : Nat} (hk : 64 ≤ k) : impl_inverseOf.f k a p = some (pinv p a) := by
  have h := isP_ge hp
  unfold impl_inverseOf.f
  rw [w64_id (x := p - 2) (by omega) (by omega), show p - 2 = (((p - 2).toNat : Nat) : Int) by omega, pow_tells h.1 h.2 h0 h1 (by omega) hk]
  rfl
theorem mul_smallV {p x y : Int} (hp : 2 ≤ p) (hp' : p ≤ 251) (hx : 0 ≤ x) (hx' : x ≤ 251) (hy : 0 ≤ y) (hy' : y < p) : 0 ≤ x * y ∧ x * y ≤ 63001 := by
  have g1 := Int.mul_nonneg hx hy
  have g2 : x * y ≤ 251 * 251 := Int.mul_le_mul hx' (by omega) hy (by omega)
  omega
theorem take_snocV {l : List Int} {i : Nat} (h : i < l.length) : l.take i ++ [l.getD i 0] = l.take (i + 1) := by
  rw [List.take_succ_eq_append_getElem h, getD_at h]
theorem addV_loop {a b : List Int} {c p : Int} (hp : 2 ≤ p) (hp' : p ≤ 251) (hl : a.length = b.length) (hn : a.length ≤ 17592186044416) (ha : ∀ j, 0 ≤ a.getD j 0 ∧ a.getD j 0 < p) (hb : ∀ j, 0 ≤ b.getD j 0 ∧ b.getD j 0 < p) (hc : 0 ≤ c) (hc' : c ≤ 251) (d : Nat) :
    ∀ (k i : Nat), a.length - i = d → i ≤ a.length → d < k → impl_addTimes.l0 k a b c p ((addRow p a b c).take i) a.length i = some (addRow p a b c) := by
  have hz : (addRow p a b c).length = a.length := by unfold addRow; simp [hl]
  induction d with
  | zero =>
    intro k i hd hi hk
    obtain ⟨k, rfl⟩ : ∃ m, k = m + 1 := ⟨k - 1, by omega⟩
    simp only [impl_addTimes.l0]
    have hf : ¬ (i : Int) < (a.length : Int) := by omega
    simp only [hf, if_false]
    rw [List.take_of_length_le (by omega)]
  | succ d ih =>
    intro k i hd hi hk
    obtain ⟨k, rfl⟩ : ∃ m, k = m + 1 := ⟨k - 1, by omega⟩
    simp only [impl_addTimes.l0]
    have h1 : (i : Int) < (a.length : Int) := by omega
    have h2 : (i : Int) < (b.length : Int) := by omega
    have h0 : (0 : Int) ≤ (i : Int) := by omega
    have hp0 : ¬ p = 0 := by omega
    have hlt : ((addRow p a b c).take i).length < 17592186044416 := by rw [List.length_take]; omega
    have hm := mul_smallV hp hp' hc hc' (hb i).1 (hb i).2
    have e : Int.tmod (wrap64 (rd a i + wrap64 (c * rd b i))) p = (addRow p a b c).getD i 0 := by
      have := ha i
      rw [rd_nat, rd_nat, w64_idV (x := c * b.getD i 0) (by omega) (by omega), w64_idV (x := a.getD i 0 + c * b.getD i 0) (by omega) (by omega), Int.tmod_eq_emod_of_nonneg (by omega), addRow_getD (by omega) (by omega)]
    simp only [h0, h1, h2, hp0, if_true, if_false, hlt]
    rw [e, w64_succ (n := a.length) (by omega) (by omega), take_snocV (by omega)]
    exact ih k (i + 1) (by omega) (by omega) (by omega)
theorem addV_tells {a b : List Int} {c p : Int} (hp : 2 ≤ p) (hp' : p ≤ 251) (hl : a.length = b.length) (hn : a.length ≤ 17592186044416) (ha : ∀ j, 0 ≤ a.getD j 0 ∧ a.getD j 0 < p) (hb : ∀ j, 0 ≤ b.getD j 0 ∧ b.getD j 0 < p) (hc : 0 ≤ c) (hc' : c ≤ 251) {k : Nat} (hk : a.length < k) :
    impl_addTimes.f k a b c p = some (addRow p a b c) := by
  unfold impl_addTimes.f
  exact addV_loop hp hp' hl hn ha hb hc hc' a.length k 0 (by omega) (by omega) hk
def firstRow (rs : List (List Int)) (t c : Int) : Option Int :=
  if 0 ≤ t then (if t ≤ (rs.length : Int) then (if 0 ≤ c then (if ((rs.drop t.toNat).all fun l => decide (c < (l.length : Int))) = true then some (idxOf (cellAt c) (rs.drop t.toNat)) else none) else none) else none) else none
theorem cellAt_nat (c : Nat) : cellAt (c : Int) = fun r => decide (r.getD c 0 ≠ 0) := by
  funext r; unfold cellAt; rw [rd_nat]
theorem firstRow_tells {n : Nat} {rs : List (List Int)} (h : ∀ r, r ∈ rs → r.length = n) {t c : Nat} (ht : t ≤ rs.length) (hc : c < n) :
    firstRow rs t c = some (match findPivot rs t c with | some k => (k : Int) | none => -1) := by
  unfold firstRow
  rw [if_pos (by omega), if_pos (by omega), if_pos (by omega), if_pos, Int.toNat_natCast]
  · unfold idxOf findPivot; rw [cellAt_nat]; rfl
  · rw [Int.toNat_natCast]
    exact List.all_eq_true.mpr (fun r hr => decide_eq_true (by rw [h r (List.mem_of_mem_drop hr)]; omega))
def clr (p : Int) (c top : Nat) (q : List Int) (i : Nat) (R : List (List Int)) : List (List Int) := R.mapIdx (fun j r => if j < i ∧ j ≠ top then clearRow p c q r else r)
theorem clr_length (p : Int) (c top : Nat) (q : List Int) (i : Nat) (R : List (List Int)) : (clr p c top q i R).length = R.length := by unfold clr; simp
theorem clr_zero (p : Int) (c top : Nat) (q : List Int) (R : List (List Int)) : clr p c top q 0 R = R := by
  apply List.ext_getElem? ; intro j
  unfold clr
  rw [List.getElem?_mapIdx]
  cases R[j]? <;> simp
theorem clr_all (p : Int) (c top : Nat) (q : List Int) (R : List (List Int)) : clr p c top q R.length R = clearAll p c top q R := by
  apply List.ext_getElem? ; intro j
  unfold clr clearAll
  rw [List.getElem?_mapIdx, List.getElem?_mapIdx]
  by_cases hj : j < R.length
  · by_cases e : j = top
    · simp [e]
    · simp [e, hj]
  · rw [List.getElem?_eq_none (by omega)]; rfl
theorem clr_get (p : Int) (c top : Nat) (q : List Int) (i : Nat) (R : List (List Int)) {j : Nat} (hj : j < R.length) :
    (clr p c top q i R).getD j [] = if j < i ∧ j ≠ top then clearRow p c q (R.getD j []) else R.getD j [] := by
  unfold clr
  rw [List.getD_eq_getElem?_getD, List.getElem?_mapIdx, List.getD_eq_getElem?_getD, List.getElem?_eq_getElem hj]
  rfl
theorem clr_step (p : Int) (c top : Nat) (q : List Int) (i : Nat) (R : List (List Int)) (hi : i < R.length) :
    clr p c top q (i + 1) R = if i = top then clr p c top q i R else (clr p c top q i R).set i (clearRow p c q (R.getD i [])) := by
  by_cases e : i = top
  · rw [if_pos e]
    apply List.ext_getElem? ; intro j
    unfold clr
    rw [List.getElem?_mapIdx, List.getElem?_mapIdx]
    by_cases e2 : j = top
    · simp [e2]
    · have : (j < i + 1) = (j < i) := by apply propext; omega
      simp [e2, this]
  · rw [if_neg e]
    apply List.ext_getElem? ; intro j
    rw [List.getElem?_set]
    unfold clr
    rw [List.getElem?_mapIdx, List.getElem?_mapIdx]
    by_cases e2 : i = j
    · subst e2
      rw [if_pos rfl, if_pos (by rw [List.length_mapIdx]; exact hi), List.getElem?_eq_getElem hi, List.getD_eq_getElem?_getD, List.getElem?_eq_getElem hi]
      simp [e]
    · have : (j < i + 1) = (j < i) := by apply propext; omega
      rw [if_neg e2]
      simp only [this]
theorem range_of {p : Int} {r : List Int} {n : Nat} (hp : 2 ≤ p) (h : RowOk p n r) (j : Nat) : 0 ≤ r.getD j 0 ∧ r.getD j 0 < p := by
  by_cases hj : j < r.length
  · rw [List.getD_eq_getElem?_getD, List.getElem?_eq_getElem hj]; exact h.2 _ (List.getElem_mem hj)
  · rw [List.getD_eq_getElem?_getD, List.getElem?_eq_none (by omega)]; simp; omega
theorem rowOk_at {p : Int} {R : List (List Int)} {n i : Nat} (h : RowsOk p n R) (hi : i < R.length) : RowOk p n (R.getD i []) := h _ (getD_mem hi)
theorem elim_inner {p : Int} (hp : isP p = true) {n : Nat} {R : List (List Int)} (hok : RowsOk p n R) {top c : Nat} (ht : top < R.length) (hc : c < n) (hm : R.length ≤ 1048576) (hn : n ≤ 70) (piv : List Int) (hpv : piv.length ≤ 100) (det : Int) (d : Nat) :
    ∀ k i, R.length - i = d → i ≤ R.length → d + 100 < k → ∃ k', k = k' + d + 1 ∧
      impl_eliminate.l1 k n p piv det top n c R.length i (clr p c top (R.getD top []) i R) c = impl_eliminate.l0 k' n p (piv ++ [(c : Int)]) det n ((c + 1 : Nat) : Int) (clearAll p c top (R.getD top []) R) := by
  have h2 := isP_ge hp
  induction d with
  | zero =>
    intro k i hd hi hk
    obtain ⟨k, rfl⟩ : ∃ m, k = m + 1 := ⟨k - 1, by omega⟩
    obtain rfl : i = R.length := by omega
    refine ⟨k, by omega, ?_⟩
    simp only [impl_eliminate.l1]
    rw [if_neg (by omega), if_pos (by omega), clr_all, w64_succ (n := 70) (by omega) (by omega)]
  | succ d ih =>
    intro k i hd hi hk
    obtain ⟨k, rfl⟩ : ∃ m, k = m + 1 := ⟨k - 1, by omega⟩
    obtain ⟨k', e', ih⟩ := ih k (i + 1) (by omega) (by omega) (by omega)
    refine ⟨k', by omega, ?_⟩
    have hiR : i < R.length := by omega
    rw [← ih]
    have hs := clr_step p c top (R.getD top []) i R hiR
    have gi : (clr p c top (R.getD top []) i R).getD i [] = R.getD i [] := by rw [clr_get _ _ _ _ _ _ hiR, if_neg (by omega)]
    have gt : (clr p c top (R.getD top []) i R).getD top [] = R.getD top [] := by rw [clr_get _ _ _ _ _ _ ht, if_neg (by omega)]
    have okI := rowOk_at hok hiR
    have okT := rowOk_at hok ht
    have hl := clr_length p c top (R.getD top []) i R
    generalize clr p c top (R.getD top []) i R = C at hs gi gt hl ⊢
    simp only [impl_eliminate.l1]
    rw [if_pos (by omega), if_pos (by omega), if_pos (by omega), w64_succ (n := 1048576) (i := i) (by omega) (by omega)]
    by_cases e : i = top
    · rw [if_pos (by omega), hs, if_pos e]
    · rw [if_neg (by omega), if_pos (by omega), rdL_nat, gi, if_pos (by rw [okI.1]; omega), rd_nat]
      by_cases ez : (R.getD i []).getD c 0 = 0
      · rw [if_pos ez, hs, if_neg e]
        have : C.set i (clearRow p c (R.getD top []) (R.getD i [])) = C := by
          unfold clearRow
          rw [if_pos ez]
          apply List.ext_getElem? ; intro j
          rw [List.getElem?_set]
          by_cases ej : i = j
          · subst ej
            rw [if_pos rfl, if_pos (by omega), ← gi, List.getD_eq_getElem?_getD, List.getElem?_eq_getElem (show i < C.length by omega)]; rfl
          · rw [if_neg ej]
        rw [this]
      · have rI := range_of h2.1 okI
        have rT := range_of h2.1 okT
        have rc := rI c
        rw [if_neg ez, if_pos (by omega), if_pos (by omega), rdL_nat, gt, w64_idV (x := p - (R.getD i []).getD c 0) (by omega) (by omega),
          addV_tells h2.1 h2.2 (by rw [okI.1, okT.1]) (by rw [okI.1]; omega) rI rT (by omega) (by omega) (by rw [okI.1]; omega), Option.bind_some, Int.toNat_natCast, hs, if_neg e]
        unfold clearRow
        rw [if_neg ez]
theorem reduce_small {p x : Int} (hp : 2 ≤ p) (hp' : p ≤ 251) (hx : -1000000 ≤ x) (hx' : x ≤ 1000000) : impl_reduce.f x p = some (x % p) := by
  unfold impl_reduce.f
  rw [if_neg (by omega)]
  have h1 : -p < Int.tmod x p := Int.lt_tmod_of_pos _ (by omega)
  have h2 : Int.tmod x p < p := Int.tmod_lt_of_pos _ (by omega)
  rw [w64_idV (x := Int.tmod x p + p) (by omega) (by omega), Int.tmod_eq_emod_of_nonneg (by omega), Int.add_emod_right]
  congr 1
  have h := Int.mul_tdiv_add_tmod x p
  have : x = Int.tmod x p + p * (Int.tdiv x p) := by omega
  conv => rhs; rw [this]
  rw [Int.add_mul_emod_self_left]
theorem addRow_zeros {p : Int} (n : Nat) (r : List Int) (hr : r.length = n) (c : Int) : addRow p (List.replicate n 0) r c = r.map (fun x => c * x % p) := by
  refine ext_getD (by unfold addRow; simp [hr]) (fun j hj => ?_)
  have hj' : j < n := by unfold addRow at hj; simp [hr] at hj; omega
  rw [addRow_getD (by simp; omega) (by omega)]
  have e0 : (List.replicate n (0 : Int)).getD j 0 = 0 := by simp [List.getD_eq_getElem?_getD, List.getElem?_replicate, hj']
  rw [e0, Int.zero_add]
  simp [List.getD_eq_getElem?_getD, List.getElem?_map, List.getElem?_eq_getElem (show j < r.length by omega)]
theorem elim_j1 {p : Int} (hp : isP p = true) {n : Nat} {R : List (List Int)} (hok : RowsOk p n R) {top c : Nat} (ht : top < R.length) (hc : c < n) (hm : R.length ≤ 1048576) (hn : n ≤ 70) (piv : List Int) (hpv : piv.length ≤ 100) {det : Int} (hd : 0 ≤ det) (hd' : det < p) {k : Nat} (hk : R.length + 200 < k) :
    ∃ k', k = k' + R.length + 2 ∧ impl_eliminate.j1 k n p piv det top n c R c =
      impl_eliminate.l0 k' n p (piv ++ [(c : Int)]) (det * cell R top c % p) n ((c + 1 : Nat) : Int) (clearAll p c top ((R.getD top []).map (fun x => pinv p (cell R top c) * x % p)) (R.set top ((R.getD top []).map (fun x => pinv p (cell R top c) * x % p)))) := by
  have h2 := isP_ge hp
  have okT := rowOk_at hok ht
  have rT := range_of h2.1 okT
  have rc := rT c
  obtain ⟨k, rfl⟩ : ∃ m, k = m + 1 := ⟨k - 1, by omega⟩
  have hcell : cell R top c = (R.getD top []).getD c 0 := rfl
  have hq : RowOk p n ((R.getD top []).map (fun x => pinv p (cell R top c) * x % p)) := scale_ok _ (by omega) okT.1
  have hokS := RowsOk.set hok hq top
  obtain ⟨k', e', hin⟩ := elim_inner hp hokS (top := top) (c := c) (by simp; omega) hc (by simp; omega) hn piv hpv (det * cell R top c % p) (R.set top ((R.getD top []).map (fun x => pinv p (cell R top c) * x % p))).length k 0 (by omega) (by omega) (by simp; omega)
  rw [clr_zero, getD_set _ _ _ _ ht, if_pos rfl] at hin
  simp only [List.length_set] at e' hin
  refine ⟨k', by omega, ?_⟩
  rw [← hin]
  have hpi := pinv_range (p := p) (a := cell R top c) hp
  simp only [impl_eliminate.j1]
  rw [if_pos (by omega), if_pos (by omega), if_pos (by omega), rdL_nat, if_pos (by rw [okT.1]; omega), if_neg (by omega), if_pos (by omega), if_pos (by rw [Int.toNat_natCast]; omega), rd_nat,
    inverse_tells hp rc.1 rc.2 (by omega), Option.bind_some, Int.toNat_natCast]
  rw [addV_tells h2.1 h2.2 (by rw [okT.1]; simp) (by simp; omega) (fun j => by
      have : (List.replicate n (0 : Int)).getD j 0 = 0 := by
        rw [List.getD_eq_getElem?_getD, List.getElem?_replicate]; split <;> rfl
      rw [this]; omega) rT (by rw [← hcell]; omega) (by rw [← hcell]; omega) (by simp; omega), Option.bind_some, addRow_zeros n _ okT.1, Int.toNat_natCast]
  have hsm := mul_smallV h2.1 h2.2 hd (by omega) rc.1 rc.2
  rw [w64_idV (x := det * (R.getD top []).getD c 0) (by omega) (by omega), Int.tmod_eq_emod_of_nonneg hsm.1, ← hcell]
  rfl
theorem elim_loop {p : Int} (hp : isP p = true) {n : Nat} {rs : List (List Int)} (hm : rs.length ≤ 1048576) (hn : n ≤ 70) (hok : RowsOk p n rs) (d : Nat) :
    ∀ k c, n - c = d → c ≤ n → d * (rs.length + 4) + 300 < k →
      impl_eliminate.l0 k n p (elimTo p rs c).2.1 (elimTo p rs c).2.2 n c (elimTo p rs c).1 = some ((elim p n rs).2.1, (elim p n rs).2.2, (elim p n rs).1) := by
  have h2 := isP_ge hp
  induction d with
  | zero =>
    intro k c hd hc hk
    obtain ⟨k, rfl⟩ : ∃ m, k = m + 1 := ⟨k - 1, by omega⟩
    obtain rfl : c = n := by omega
    simp only [impl_eliminate.l0]
    rw [if_neg (by omega)]
    rfl
  | succ d ih =>
    intro k c hd hc hk
    obtain ⟨k, rfl⟩ : ∃ m, k = m + 1 := ⟨k - 1, by omega⟩
    have hcn : c < n := by omega
    have hmul : (d + 1) * (rs.length + 4) = d * (rs.length + 4) + (rs.length + 4) := by rw [Nat.add_mul, Nat.one_mul]
    have ih2 : ∀ k', d * (rs.length + 4) + 300 < k' → impl_eliminate.l0 k' n p (elimTo p rs (c + 1)).2.1 (elimTo p rs (c + 1)).2.2 n ((c + 1 : Nat) : Int) (elimTo p rs (c + 1)).1 = _ := fun k' hk' => ih k' (c + 1) (by omega) (by omega) hk'
    obtain ⟨t1, t2, t7, hle, t6, t8⟩ := elimTo_small hp hok c hc
    rw [elimTo_succ] at ih2
    generalize elimTo p rs c = s at *
    obtain ⟨R, piv, det⟩ := s
    dsimp only at *
    have hf := firstRow_tells (fun x hx => (t1 x hx).1) (t := piv.length) (c := c) (rs := R) (by omega) hcn
    simp only [impl_eliminate.l0]
    rw [if_pos (by omega)]
    show Option.bind (firstRow R (piv.length : Int) (c : Int)) _ = _
    rw [hf, Option.bind_some]
    cases hp1 : findPivot R piv.length c with
    | none =>
      rw [elimStep_none hp1] at ih2
      dsimp only at ih2 ⊢
      rw [if_pos (by omega), w64_succ (n := 70) (by omega) (by omega)]
      exact ih2 k (by omega)
    | some q =>
      obtain ⟨b1, b2⟩ := findPivot_some hp1
      have hst : elimStep p (R, piv, det) c = (clearAll p c piv.length (((if q = 0 then R else swapRows R piv.length (piv.length + q)).getD piv.length []).map (fun x => pinv p (cell (if q = 0 then R else swapRows R piv.length (piv.length + q)) piv.length c) * x % p)) ((if q = 0 then R else swapRows R piv.length (piv.length + q)).set piv.length (((if q = 0 then R else swapRows R piv.length (piv.length + q)).getD piv.length []).map (fun x => pinv p (cell (if q = 0 then R else swapRows R piv.length (piv.length + q)) piv.length c) * x % p))), piv ++ [(c : Int)], (if q = 0 then det else -det % p) * cell (if q = 0 then R else swapRows R piv.length (piv.length + q)) piv.length c % p) := by
        unfold elimStep; simp only [hp1]
      rw [hst] at ih2
      clear hst
      dsimp only at ih2 ⊢
      rw [if_neg (by omega)]
      by_cases e : q = 0
      · subst e
        simp only [if_true] at ih2
        rw [if_neg (show ¬ (((0 : Nat) : Int) > 0) by decide)]
        obtain ⟨k', ek, hj⟩ := elim_j1 hp t1 (top := piv.length) (c := c) (by omega) hcn (by omega) hn piv (by omega) t6.1 t6.2 (k := k) (by omega)
        rw [hj]
        exact ih2 k' (by omega)
      · simp only [if_neg e] at ih2
        have z1 : ((q : Nat) : Int) > 0 := by omega
        have z2 : (0 : Int) ≤ ((piv.length + q : Nat) : Int) := by omega
        have z3 : ((piv.length + q : Nat) : Int) < (R.length : Int) := by omega
        have z4 : (0 : Int) ≤ (piv.length : Int) := by omega
        have z5 : (piv.length : Int) < (R.length : Int) := by omega
        have z6 : -9223372036854775808 ≤ (piv.length : Int) + (q : Int) := by omega
        have z7 : (piv.length : Int) + (q : Int) ≤ 9223372036854775807 := by omega
        have z8 : (piv.length : Int) + (q : Int) = ((piv.length + q : Nat) : Int) := by omega
        have z9 : -9223372036854775808 ≤ -det := by omega
        have z10 : -det ≤ 9223372036854775807 := by omega
        have z11 : impl_reduce.f (-det) p = some (-det % p) := reduce_small h2.1 h2.2 (by omega) (by omega)
        rw [if_pos z1, w64_idV z6 z7, z8, if_pos z2, if_pos z3, if_pos z4, if_pos z5, w64_idV z9 z10, z11, Option.bind_some, rdL_nat, rdL_nat, Int.toNat_natCast, Int.toNat_natCast]
        have hsw : (R.set piv.length (R.getD (piv.length + q) [])).set (piv.length + q) (R.getD piv.length []) = swapRows R piv.length (piv.length + q) := rfl
        rw [hsw]
        have hl := swapRows_length R piv.length (piv.length + q)
        have hokW := RowsOk.swap t1 (a := piv.length) (b := piv.length + q) (by omega) b1
        obtain ⟨k', ek, hj⟩ := elim_j1 hp hokW (top := piv.length) (c := c) (by omega) hcn (by omega) hn piv (by omega) (det := -det % p) (Int.emod_nonneg _ (by omega)) (Int.emod_lt_of_pos _ (by omega)) (k := k) (by omega)
        rw [hj]
        exact ih2 k' (by omega)
theorem elim_tells {p : Int} (hp : isP p = true) {n : Nat} {rs : List (List Int)} (hm : rs.length ≤ 64) (hn : n ≤ 70) (hok : RowsOk p n rs) {k : Nat} (hk : 6000 ≤ k) :
    impl_eliminate.l0 k n p [] 1 n 0 rs = some ((elim p n rs).2.1, (elim p n rs).2.2, (elim p n rs).1) := by
  have h : n * (rs.length + 4) ≤ 70 * 68 := Nat.mul_le_mul hn (by omega)
  exact elim_loop hp (by omega) hn hok n k 0 (by omega) (by omega) (by omega)
end Go.Proofs.YtbalikebmacldaaGreatDoor.F
end
