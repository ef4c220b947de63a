-- Texts of this claim, merged by packw.py (a program of this session's).
import Derived.Test.YtmbbjmkcbpefhaaQFnExactCertificate1
import Derived.Test.YtmbbjmkcbpefhaaQFnExactCertificate2
import Derived.Test.YtmbbjmkcbpefhaaQFnExactCertificate8

section
namespace Go.Proofs.Ytmbbjmkcbpefhaa.F
open Go.RowKit Go.Proofs.YtmbbjmkcbpefhaaW.PrintWords Go.Proofs.YtmbbjmkcbpefhaaW.PrintLast Go.Proofs.YtmbbjmkcbpefhaaW.PrintMore
attribute [local go_sem] max2_int min2_int max_two min_two max_three min_three max_four min_four   -- for this text's walks alone
set_option linter.unusedVariables false
set_option linter.unusedSimpArgs false
/-! ### impl_solve: function 36: ours -/
def impl_solve.ap : Nat → List Int → List (List Int) → Int → Int → Option ((List (List Int)))
  | 0, _, _, _, _ => none
  | k + 1, x1, x6, x16, x17 => if x17 < x16 then (if 0 ≤ x17 then (if x17 < (x6.length : Int) then (if x17 < (x1.length : Int) then (if (rd_L1 x6 x17).length < 17592186044416 then (impl_solve.ap k x1 (x6.set (x17 : Int).toNat ((rd_L1 x6 x17) ++ [rd x1 x17])) x16 (wrap64 (x17 + 1))) else (none)) else (none)) else (none)) else (none)) else (some x6)
theorem impl_solve.ap.mono_l : ∀ k, (∀ y0 y1 y2 y3, LeO (impl_solve.ap k y0 y1 y2 y3) (impl_solve.ap (k + 1) y0 y1 y2 y3))
  | 0 => fun _ _ _ _ r h => by simp [impl_solve.ap] at h
  | k + 1 => by
    have ih0 := impl_solve.ap.mono_l k
    · intro y0 y1 y2 y3
      unfold impl_solve.ap
      repeat' first
      | (with_reducible exact ih0 _ _ _ _)
      | (with_reducible exact impl_rowsOf.mono _ _ _ _ _)
      | (with_reducible exact LeO.refl _)
      | (with_reducible exact LeO.none _)
      | (with_reducible refine LeO.ite ?_ ?_)
      | (with_reducible refine LeO.bind ?_ (fun _ => ?_))
      | exact ih0 _ _ _ _
      | exact impl_rowsOf.mono _ _ _ _ _
      | exact LeO.none _
      | refine LeO.ite ?_ ?_
      | refine LeO.bind ?_ (fun _ => ?_)
def impl_solve.elimB (k : Nat) (m0 m1 m2 : Int) (m3 : List Int) (b : List Int) (c p : Int) : Option (List Int × Int × List (List Int)) := (impl_rowsOf.f k m0 m1 m2 m3).bind fun t => (impl_solve.ap k b t (t.length : Int) 0).bind fun t => impl_eliminate.l0 k c p ([] : List Int) 1 c 0 t
theorem impl_solve.elimB.mono : ∀ a0 a1 a2 a3 a4 a5 a6 k, LeO (impl_solve.elimB k a0 a1 a2 a3 a4 a5 a6) (impl_solve.elimB (k + 1) a0 a1 a2 a3 a4 a5 a6) := by
  intro a0 a1 a2 a3 a4 a5 a6 k
  have ih := impl_eliminate.mono_l k
  have ia := impl_solve.ap.mono_l k
  unfold impl_solve.elimB
  refine LeO.bind (impl_rowsOf.mono _ _ _ _ _) (fun _ => LeO.bind (ia _ _ _ _) (fun _ => ?_))
  first | exact ih.1 _ _ _ _ _ _ _ | exact ih _ _ _ _ _ _ _
def impl_solve.l0 : Nat → List (List Int) → List Int → List Int → Int → Int → Int → Int → Int → List Int → Option (List Int × Bool)
  | 0, _, _, _, _, _, _, _, _, _ => none
  | k + 1, x6, x10, x47, x48, x49, x102000, x102001, x102002, x102003 => if x49 < x48 then (if 0 ≤ x49 then (if x49 < (x47.length : Int) then (if (rd x47 x49) = x102002 then (some (([] : List Int), false)) else (if x49 < (x6.length : Int) then (if 0 ≤ x102002 then (if x102002 < ((rd_L1 x6 x49).length : Int) then (if 0 ≤ (rd x47 x49) then (if (rd x47 x49) < (x10.length : Int) then (impl_solve.l0 k x6 (x10.set ((rd x47 x49) : Int).toNat (rd (rd_L1 x6 x49) x102002)) x47 x48 (wrap64 (x49 + 1)) x102000 x102001 x102002 x102003) else (none)) else (none)) else (none)) else (none)) else (none))) else (none)) else (none)) else (some (x10, true))
def impl_solve.f (k : Nat) (a0_0 : Int) (a0_1 : Int) (a0_2 : Int) (l0_3 : List Int) (l1 : List Int) : Option (List Int × Bool) := (impl_solve.elimB k a0_0 a0_1 a0_2 l0_3 l1 (wrap64 (a0_2 + 1)) a0_0).bind fun bt102 => (if 0 ≤ a0_2 then (if (a0_2 : Int).toNat ≤ 35184372088832 then (impl_solve.l0 k bt102.2.2 (List.replicate (a0_2 : Int).toNat 0) bt102.1 (bt102.1.length : Int) 0 a0_0 a0_1 a0_2 l0_3) else (none)) else (none))
def impl_solve.T14 : Bool × List (List Nat × List Nat) := (true, [([], []), ([], []), ([], []), ([], []), ([2, 3], [2, 3]), ([4], [4]), ([], []), ([6], [6]), ([5, 7], [5, 7]), ([8], [8]), ([0, 1, 0, 1, 2, 3, 4, 5, 6, 7, 8, 9], [0, 1]), ([10, 9, 0, 1, 2, 3, 4, 5, 6, 7, 8, 9], [9, 10])])
def impl_solve.B14 : List Nat := [0, 0, 0, 0, 12, 28, 0, 64, 252, 508, 1023, 2047]
theorem impl_solve.tab14 : rtab .any (opsOf Try.f36 14) = impl_solve.T14 := by kernel_rfl
theorem impl_solve.bits14 : waitsOk impl_solve.T14.2 impl_solve.B14 = true := by kernel_rfl
def Z36.b (n x : Nat) : Array Bool := ((List.range n).map (fun i => x.testBit i)).toArray
theorem Z36.pP {P : Program} {ops : Array Oper} {Q : Exit → Act → World → Prop} {md : Region.Mode} {S : World → Prop} {ds : List Nat} (i N : Nat) {oi : Oper} {v : Value} {fuel : Nat} {l : Array Bool} {a : Act} {w : World} (l' : Array Bool) (hc : anyB md ops l l' i = true) {a' : Act} (h : wpAnyLast P md ops Q S ds fuel l' a' w) (hi : ops[i]? = some oi := by rfl) (hN : oi.dst = some N := by rfl) (hQ : ∀ c a w, Q (.panic c) (a.put oi.dst v) w → Q (.panic c) a w := by exact fun _ _ _ h => h) (hy : Yields P ops oi v a := by exact Or.inl ⟨(by rfl), by intro w'; go_simp; with_reducible rfl⟩) (ha : a.put (some N) v = a' := by simp only [Act.put, List.setIfInBounds_toArray, List.set_cons_zero, List.set_cons_succ, i64_w, i32_w]; rfl) : wpAnyLast P md ops Q S ds (fuel + 1) l a w := pure_ l' hi hN hc hQ hy ha h
theorem Z36.pT6 {P : Program} {ops : Array Oper} {Q : Exit → Act → World → Prop} {md : Region.Mode} {S : World → Prop} {ds : List Nat} (i N : Nat) {oi : Oper} {v : Value} {fuel : Nat} {l : Array Bool} {a : Act} {w : World} (l' : Array Bool) (hc : takeB md ops ds l l' i = true) (hS : S w) {a' : Act} (h : wpAnyLast P md ops Q S ds fuel l' a' w) (hi : ops[i]? = some oi := by rfl) (hN : oi.dst = some N := by rfl) (hQ : ∀ c a w, Q (.panic c) (a.put oi.dst v) w → Q (.panic c) a w := by exact fun _ _ _ h => h) (hy : YieldsIf P ops S oi v a := by exact Or.inl ⟨(by rfl), by rintro w' ⟨s0, s1, s2, s3, s4, s5⟩; go_simp; with_reducible rfl⟩) (ha : a.put (some N) v = a' := by simp only [Act.put, List.setIfInBounds_toArray, List.set_cons_zero, List.set_cons_succ, i64_w, i32_w]; rfl) : wpAnyLast P md ops Q S ds (fuel + 1) l a w := take_ l' hi hN hc hQ hy hS ha h
theorem Z36.bb {w0 w w1 : World} {g : Nat} {o : Obj} (_B : Aside0 (w0.heap[g]? = some o)) (h : w.heap[g]? = some o) (hb : Below w.heap.size w w1) : w1.heap[g]? = some o := blk_below h hb
theorem Z36.bl {w0 w : World} {g : Nat} {o : Obj} (_B : Aside0 (w0.heap[g]? = some o)) (h : w.heap[g]? = some o) : g < w.heap.size := blk_lt h
theorem Z36.k {p : Prop} (h : p) : Aside0 p := ⟨h⟩
def impl_solve.T5 : Bool × List (List Nat × List Nat) := (true, [([], []), ([], []), ([], []), ([], []), ([2, 3], [2, 3]), ([4], [4]), ([], []), ([], []), ([6, 7], [6, 7]), ([8], [8]), ([9], [9]), ([5, 10], [5, 10]), ([0, 1, 0, 1, 2, 3, 4, 5, 6, 7, 8, 9, 10, 11], [0, 1]), ([12, 11, 11, 0, 1, 2, 3, 4, 5, 6, 7, 8, 9, 10, 11], [11, 12])])
def impl_solve.B5 : List Nat := [0, 0, 0, 0, 12, 28, 0, 0, 192, 448, 960, 2044, 4095, 8191]
theorem impl_solve.tab5 : rtab .any (opsOf Try.f36 5) = impl_solve.T5 := by kernel_rfl
theorem impl_solve.bits5 : waitsOk impl_solve.T5.2 impl_solve.B5 = true := by kernel_rfl
theorem Z36.y5 {P : Prop} (h : P := by (with_reducible repeat (first | refine blk_drewN ?_ _ | refine blk_drew ?_ | refine blk_alloc ?_ _)); exact BK101.out) : P := h
theorem Z36.y4 {P : Prop} (h : P := by first | (rw [add_block]; exact (fun e_ => ((HLq105_0.out.1 _ e_.symm).2) rfl)) | (show some (Addr.add _ _).block ≠ _; rw [add_block]; exact (fun e_ => ((HLq105_0.out.1 _ e_.symm).2) rfl)) | exact (fun e_ => ((HLq105_0.out.1 _ e_.symm).2) rfl)) : P := h
theorem Z36.y3 {P : Prop} (h : P := by repeat (first | (with_reducible first | exact HB.out | apply below_alloc | apply pw_below_drewN | apply below_drew1) | exact HB.out)) : P := h
theorem Z36.y2 {P : Prop} (h : P := by first | (with_reducible assumption) | assumption) : P := h
theorem Z36.y1 {P : Prop} (h : P := by repeat (first | (with_reducible first | exact HB.out | apply below_alloc | apply pw_below_drewN | apply below_drew1 | refine below_set ?_ GE101.out) | exact HB.out)) : P := h
theorem Z36.y0 {P : Prop} (h : P := by simp only [Act.put, List.setIfInBounds_toArray, List.set_cons_zero, List.set_cons_succ, i64_w, i32_w]; rfl) : P := h
theorem Z36.z4 {P : Prop} (h : P := by repeat (first | (with_reducible first | exact HB.out | apply below_alloc | apply pw_below_drewN | apply below_drew1) | exact HB.out)) : P := h
theorem Z36.z3 {P : Prop} (h : P := by (with_reducible repeat (first | refine blk_drewN ?_ _ | refine blk_drew ?_ | refine blk_alloc ?_ _)); exact BK101.out) : P := h
theorem Z36.z2 {P : Prop} (h : P := by first | (with_reducible assumption) | assumption) : P := h
theorem Z36.z1 {P : Prop} (h : P := by simp only [Act.put, List.setIfInBounds_toArray, List.set_cons_zero, List.set_cons_succ, i64_w, i32_w]; rfl) : P := h
theorem Z36.z0 {P : Prop} (h : P := by repeat (first | (with_reducible first | exact HB.out | apply below_alloc | apply pw_below_drewN | apply below_drew1 | refine below_set ?_ GE101.out) | exact HB.out)) : P := h
set_option maxHeartbeats 8000000 in
set_option maxRecDepth 100000 in
theorem impl_solve.calls (k : Nat) (a0_0 : Int) (a0_1 : Int) (a0_2 : Int) (A0_3 : Option Addr) (c0_3 : Nat) (l0_3 : List Int) (A1 : Option Addr) (c1 : Nat) (l1 : List Int) (r1 : List Int) (r2 : Bool) (w : World) (hr0_3 : Kd.C (Kd.int .i64) w A0_3 l0_3.length l0_3) (hc0_3 : l0_3.length ≤ c0_3) (hr1 : Kd.C (Kd.int .i64) w A1 l1.length l1) (hc1 : l1.length ≤ c1) (h : impl_solve.f k a0_0 a0_1 a0_2 l0_3 l1 = some (r1, r2)) :
  Calls Try.prog 36 #[.agg #[.int .i64 a0_0, .int .i64 a0_1, .int .i64 a0_2, .slice A0_3 l0_3.length c0_3], .slice A1 l1.length c1] w fun e w' => ∃ v0_ : Value, e = .returned (.tuple #[v0_, .bool r2]) ∧ Kd.R (Kd.int .i64) 2 w' w.heap.size (fun _ => True) v0_ r1 ∧ Below w.heap.size w w' := by
 have hu28 := Try.underlying28
 have HR0_3 := Z36.k hr0_3
 have HC0_3 := Z36.k hc0_3
 clear hr0_3 hc0_3
 have HR1 := Z36.k hr1
 have HC1 := Z36.k hc1
 clear hr1 hc1
 have HB := Z36.k (Below.refl w.heap.size w)
 have H : ((impl_solve.elimB k a0_0 a0_1 a0_2 l0_3 l1 (wrap64 (a0_2 + 1)) a0_0).bind fun bt102 => (if 0 ≤ a0_2 then (if (a0_2 : Int).toNat ≤ 35184372088832 then (impl_solve.l0 k bt102.2.2 (List.replicate (a0_2 : Int).toNat 0) bt102.1 (bt102.1.length : Int) 0 a0_0 a0_1 a0_2 l0_3) else (none)) else (none))) = some (r1, r2) := h
 clear h
 replace H := Option.bind_eq_some_iff.mp H
 obtain ⟨⟨t102, t105, t106⟩, A30, H⟩ := H
 replace H : (if 0 ≤ a0_2 then (if (a0_2 : Int).toNat ≤ 35184372088832 then (impl_solve.l0 k t106 (List.replicate (a0_2 : Int).toNat 0) t102 (t102.length : Int) 0 a0_0 a0_1 a0_2 l0_3) else (none)) else (none)) = some (r1, r2) := H
 have A3 := Z36.k A30
 clear A30
 by_cases c4 : 0 ≤ a0_2
 ·rw [if_pos c4] at H
  have c4b0 := eq_true c4
  have c4b1 : decide (0 ≤ a0_2) = true := decide_eq_true c4
  clear c4
  by_cases c5 : (a0_2 : Int).toNat ≤ 35184372088832
  ·rw [if_pos c5] at H
   have c5b0 := eq_true c5
   have c5b1 : decide ((a0_2 : Int).toNat ≤ 35184372088832) = true := decide_eq_true c5
   clear c5
   obtain ⟨y109, hy109⟩ : ∃ y_ : List Int, y_ = (List.replicate (a0_2 : Int).toNat 0) := ⟨_, rfl⟩
   replace H : (impl_solve.l0 k t106 y109 t102 (t102.length : Int) 0 a0_0 a0_1 a0_2 l0_3) = some (r1, r2) := by first | (rw [hy109]; with_reducible exact H) | (have H2_ := (Option.bind_some _ _).symm.trans H; rw [hy109]; with_reducible exact H2_) | (have H2_ := (Option.bind_some _ _).symm.trans H; with_reducible exact H2_) | with_reducible exact H | (rw [hy109]; exact H) | exact H
   have Ny109 := Z36.k hy109
   clear hy109
   have H' := Z36.k H
   clear H
   have HL2 := H'
   (try clear H')
   obtain ⟨tqR, AqR, AqE⟩ := Option.bind_eq_some_iff.mp (show (impl_rowsOf.f k a0_0 a0_1 a0_2 l0_3).bind (fun t => (impl_solve.ap k l1 t (t.length : Int) 0).bind fun t => impl_eliminate.l0 k (wrap64 (a0_2 + 1)) a0_0 ([] : List Int) 1 (wrap64 (a0_2 + 1)) 0 t) = _ from A3.out)
   obtain ⟨tqS, AqS, AqE⟩ := Option.bind_eq_some_iff.mp AqE
   replace AqR := Z36.k AqR
   replace AqS := Z36.k AqS
   replace AqE := Z36.k AqE
   clear A3
   go_enter Try.func36, Try.ntmps36
   go_wp2_with (first | ((with_reducible refine gate_dst (N := 2) rfl ?_); refine box_event ?hg (N := 2) ?hd (cs := #[.int .i64 a0_0, .int .i64 a0_1, .int .i64 a0_2, .slice A0_3 l0_3.length c0_3]) (t := 28) ?hr ?_; (case hd => rfl); (case hg => rfl); (case hr => first | (go_simp; done) | (go_simp; rfl)); intro gb101 hg wq4 hbox hb; have BK101 := Z36.k (hbox); have GW101 := Z36.k (show w.heap.size ≤ gb101 from (by rw [hg]; exact (below_size Z36.y3))); have GE101 := Z36.k (show w.heap.size ≤ gb101 from (by rw [hg]; exact (below_size Z36.y3))); replace HB := Z36.k (below_step Z36.y3 hb); clear hb hbox hg; have HB0 := HB; have BK4 := BK101; clear HB; replace HR0_3 := Z36.k (Kd.C_below HR0_3.out HB0.out); replace HR1 := Z36.k (Kd.C_below HR1.out HB0.out); have HB := Z36.k (Below.refl wq4.heap.size wq4); obtain ⟨hczq5_0, hczq5_1, hczq5_2, hczq5_3, hfzq5_0, hfzq5_1, hfzq5_2, hfzq5_3⟩ := cells4 BK101.out) | ((with_reducible refine gate_callee (f := 59) rfl ?_); refine goesL_ (some 14) rfl rfl Try.func59 (by kernel_rfl) rfl #[.agg #[.int .i64 a0_0, .int .i64 a0_1, .int .i64 a0_2, .slice A0_3 l0_3.length c0_3]] rfl (by (try simp only [List.map_toArray, List.map_cons, List.map_nil]); first | done | rfl | (simp only [List.length_drop, List.length_take]; rfl)) ?_; (with_reducible refine (impl_rowsOf.calls k a0_0 a0_1 a0_2 _ _ l0_3 tqR _ ?side1 ?side2 AqR.out).mono ?_); (case side1 => exact (by repeat (first | exact (Kd.C_below HR0_3.out HB.out) | (with_reducible refine Kd.C_alloc ?_ _) | (with_reducible refine Kd.C_drewN ?_ _) | (with_reducible refine Kd.C_drew ?_)))); (case side2 => exact HC0_3.out); rintro e wq6 ⟨vq103, rfl, ho0, hb⟩; refine ⟨_, rfl, ?_⟩; have HOq104 := Z36.k (Kd.S_lower ho0 (below_size Z36.y1)); replace BK101 := Z36.k (Z36.bb BK101 Z36.y5 hb); replace HB := Z36.k (below_step Z36.y1 hb); (try clear hb); (try clear hb2); (try clear hk); (try clear hi); (try clear ho0); obtain ⟨Aoq7, coq7, eoq7⟩ := Kd.S_slice HOq104.out; subst eoq7))
   go_loopg [17] k (fun kq vq17 w' => ∃ (xq6_1 : List (List Int)) (xq17_1 : Int), vq17 = .int .i64 xq17_1 ∧ Aside0 (impl_solve.ap kq l1 xq6_1 (tqR.length : Int) xq17_1 = some tqS) ∧ Aside0 (kq ≤ k) ∧ Aside0 (Kd.S (Kd.slice 2 (Kd.int .i64)) 22 w' wq4.heap.size (fun _ => True) (.slice Aoq7 tqR.length coq7) xq6_1) ∧ Aside0 (w'.heap[gb101]? = some (.cells #[.int .i64 a0_0, .int .i64 a0_1, .int .i64 a0_2, (.slice A0_3 l0_3.length c0_3)] 28 (0, 0))) ∧ Aside0 (Below wq4.heap.size wq4 w'))
   case atStart => exact ⟨(tqR), (0), (by first | rfl | (simp; done) | (simp [*]; done)), AqS, ⟨Nat.le_refl _⟩, ⟨(by (with_reducible repeat (first | apply Kd.S_alloc | apply Kd.S_drewN | apply Kd.S_drew)); exact HOq104.out)⟩, ⟨Z36.y5⟩, ⟨Z36.y1⟩⟩
   case round =>
    (try clear H')
    try clear c1
    try clear pq2
    try clear cq3
    try clear cq5
    try clear hczq5_0
    try clear hczq5_1
    try clear hczq5_2
    try clear hczq5_3
    try clear hfzq5_0
    try clear hfzq5_1
    try clear hfzq5_2
    try clear hfzq5_3
    obtain ⟨xq6_1, xq17_1, rfl, HA, HKq1, HO_q6, BK101, HB⟩ := hrel
    have hlq6_1 := (Kd.S_reads' HO_q6.out).1
    rw [hlq6_1] at HO_q6
    (try simp only [hlq6_1])
    (try simp only [hlq6_1] at BK101)
    cases gk with
    | zero => exact absurd HA.out (by simp [impl_solve.ap])
    | succ k1 =>
     have H := HA.out
     clear HA
     simp only [impl_solve.ap] at H
     by_cases cq8 : xq17_1 < (tqR.length : Int)
     ·rw [if_pos cq8] at H
      have cq8b0 : decide (xq17_1 < (tqR.length : Int)) = true := decide_eq_true cq8; clear cq8
      by_cases cq9 : 0 ≤ xq17_1
      ·rw [if_pos cq9] at H
       have cq9b0 : decide (0 ≤ xq17_1) = true := decide_eq_true cq9; clear cq9
       by_cases cq10 : xq17_1 < (xq6_1.length : Int)
       ·rw [if_pos cq10] at H
        have cq10b0 : decide (xq17_1 < (xq6_1.length : Int)) = true := decide_eq_true cq10; clear cq10
        by_cases cq11 : xq17_1 < (l1.length : Int)
        ·rw [if_pos cq11] at H
         have cq11b0 : decide (xq17_1 < (l1.length : Int)) = true := decide_eq_true cq11; clear cq11
         by_cases cq12 : (rd_L1 xq6_1 xq17_1).length < 17592186044416
         ·rw [if_pos cq12] at H
          have LMcq12 := Z36.k cq12; clear cq12; obtain ⟨yq107, hyq107⟩ : ∃ y_ : List Int, y_ = ((rd_L1 xq6_1 xq17_1) ++ [rd l1 xq17_1]) := ⟨_, rfl⟩; replace H : (impl_solve.ap k1 l1 (xq6_1.set (xq17_1 : Int).toNat yq107) (tqR.length : Int) (wrap64 (xq17_1 + 1))) = some tqS := by first | (rw [hyq107]; with_reducible exact H) | (have H2_ := (Option.bind_some _ _).symm.trans H; rw [hyq107]; with_reducible exact H2_) | (have H2_ := (Option.bind_some _ _).symm.trans H; with_reducible exact H2_) | with_reducible exact H | (rw [hyq107]; exact H) | exact H
          have Nyq107 := Z36.k hyq107; clear hyq107; obtain ⟨yq110, hyq110⟩ : ∃ y_ : List (List Int), y_ = (xq6_1.set (xq17_1 : Int).toNat yq107) := ⟨_, rfl⟩; replace H : (impl_solve.ap k1 l1 yq110 (tqR.length : Int) (wrap64 (xq17_1 + 1))) = some tqS := by first | (rw [hyq110]; with_reducible exact H) | (have H2_ := (Option.bind_some _ _).symm.trans H; rw [hyq110]; with_reducible exact H2_) | (have H2_ := (Option.bind_some _ _).symm.trans H; with_reducible exact H2_) | with_reducible exact H | (rw [hyq110]; exact H) | exact H
          have Nyq110 := Z36.k hyq110; clear hyq110; have H' := Z36.k H; clear H
          try go_wp2
          replace HO_q6 := Z36.k (Kd.S_drew HO_q6.out); replace BK101 := Z36.k (blk_drew BK101.out); replace HB := Z36.k (below_drew1 HB.out); have pq105 : 0 ≤ (xq17_1 : Int) := of_decide_eq_true Z36.y2; have qq105 : xq17_1 < (xq6_1.length : Int) := of_decide_eq_true Z36.y2; obtain ⟨adq105, Aq105_0, cq105_0, eq105, hxq105_0, hlq105_0, hiq105_0⟩ := at_L1 (Kd.S_reads' HO_q6.out).2.2 xq17_1 pq105 qq105; cases eq105; obtain ⟨ceq105, hceq105, hMeq105, hccq105⟩ := Kd.S_get HO_q6.out [] xq17_1 pq105 (by first | exact qq105 | exact of_decide_eq_true Z36.y2 | (have e_ := (Kd.S_reads' HO_q6.out).1; omega)); obtain ⟨veq105_0, rfl, geq105_0⟩ := hMeq105; have hvq105_0 := hccq105 0 _ rfl; rw [Nat.add_zero, show ((Kd.slice 2 (Kd.int .i64))).sz = 1 from rfl, Nat.mul_one] at hvq105_0; replace hvq105_0 := Option.some.inj (hvq105_0.symm.trans hxq105_0); rw [hvq105_0] at geq105_0; have HLq105_0 := Z36.k (show Kd.R (Kd.int .i64) 2 _ _ _ _ (rd_L1 xq6_1 xq17_1) from geq105_0); clear hvq105_0 geq105_0; have HXq105_0 := Z36.k hxq105_0; clear hccq105 hceq105; have HRq105_0 := Z36.k hiq105_0; have HCq105_0 := Z36.k hlq105_0; clear hiq105_0 hlq105_0; replace pq105 := eq_true pq105; replace qq105 := eq_true qq105; have pq106 : 0 ≤ (xq17_1 : Int) := of_decide_eq_true Z36.y2; have qq106 : xq17_1 < (l1.length : Int) := of_decide_eq_true Z36.y2; obtain ⟨adq106, eq106, hxq106_0⟩ := Kd.at_int HR1.out xq17_1 pq106 qq106; have hwq106_0 := hxq106_0; cases eq106; replace hxq106_0 := (HB.out.cell (World.block_lt_of_cell? wq4 _ hxq106_0)).trans hxq106_0; replace pq106 := eq_true pq106; replace qq106 := eq_true qq106; obtain ⟨goq15, coq15, eoq15, gbq15, glq15, clq15, HGq15⟩ := Kd.S_form HO_q6.out (by have h_ : (xq17_1 : Int) < ((xq6_1.length : Int) : Int) := of_decide_eq_true Z36.y2; have h2_ : 0 ≤ (xq17_1 : Int) := (of_decide_eq_true Z36.y2); omega)
          (first | cases eoq15 | (injection eoq15 with ea_ en_ ec_; (first | subst ea_ | (injection ea_ with ea_; subst ea_)); subst ec_; clear en_))
          have GBq15 := Z36.k gbq15; have GGq15 := Z36.k HGq15; clear gbq15 glq15 HGq15
          (first | simp only [add_plain] at hxq105_0 | skip)
          obtain ⟨okiq15, ceq15, hclq15, hMq15, hccq15, _, _, hHq15⟩ := Kd.S_elem HO_q6.out [] (xq17_1 : Int) (of_decide_eq_true Z36.y2) (by have h_ : (xq17_1 : Int) < ((xq6_1.length : Int) : Int) := of_decide_eq_true Z36.y2; first | exact h_ | (have e_ := (Kd.S_reads' HO_q6.out).1; omega) | simpa using h_); obtain ⟨veq15_0, rfl, geq15_0⟩ := hMq15; have hvq15 := hccq15 0 _ rfl; have hXq15 := HXq105_0.out
          (try simp only [add_plain] at hXq15)
          (try simp only [Nat.add_zero] at hvq15)
          (try rw [show ((Kd.slice 2 (Kd.int .i64))).sz = 1 from rfl, Nat.mul_one] at hvq15)
          replace hvq15 := Option.some.inj (hvq15.symm.trans hXq15); subst hvq15; clear hXq15 hccq15 hclq15; have UUq15 := Z36.k (show Kd.R (Kd.int .i64) 2 _ wq4.heap.size okiq15 (.slice Aq105_0 (rd_L1 xq6_1 xq17_1).length cq105_0) (rd_L1 xq6_1 xq17_1) from geq15_0); have HHq15 := Z36.k hHq15; have HNq15 := Z36.k (Kd.S_reads' HO_q6.out).1; clear hHq15 geq15_0; refine start_ (n := 14) (S := fun w' => w'.cell? ⟨goq15, (xq17_1).toNat, none⟩ = some (.slice Aq105_0 (rd_L1 xq6_1 xq17_1).length cq105_0) ∧ w'.cell? (adq106.add (xq17_1).toNat) = some (.int .i64 (rd l1 xq17_1))) (ds := [13]) #[false, false, false, false, false, false, false, false, false, false, false, false, false, false] (by kernel_rfl) rfl rfl ⟨hxq105_0, ((HB.out.cell (World.block_lt_of_cell? wq4 _ hwq106_0)).trans hwq106_0)⟩ (fun hHeld => ?_); refine with_tabW impl_solve.tab5 impl_solve.bits5 (fun HT_ HW_ => ?_); generalize wr.drew = wq14 at HO_q6 BK101 HB GGq15 HHq15 HLq105_0 HRq105_0 HXq105_0 UUq15 hxq105_0 hxq106_0 hHeld ⊢
          refine pure_ (i := 0) (N := some 20) (v := ?_) (a' := ?_) (Z36.b 14 1) rfl rfl (any_of HT_.out (by kernel_rfl)) (fun _ _ _ h => h) (Or.inl ⟨(by rfl), ?_⟩) ?_ ?_
          rotate_left
          ·intro w'
           go_simp
           with_reducible rfl
          rotate_left
          ·exact Z36.y0
          refine pure_ (i := 1) (N := some 21) (v := ?_) (a' := ?_) (Z36.b 14 3) rfl rfl (any_of HT_.out (by kernel_rfl)) (fun _ _ _ h => h) (Or.inl ⟨(by rfl), ?_⟩) ?_ ?_
          rotate_left
          ·intro w'
           go_simp
           with_reducible rfl
          rotate_left
          ·exact Z36.y0
          refine pure_ (i := 2) (N := some 22) (v := ?_) (a' := ?_) (Z36.b 14 7) rfl rfl (any_of HT_.out (by kernel_rfl)) (fun _ _ _ h => h) (Or.inl ⟨(by rfl), ?_⟩) ?_ ?_
          rotate_left
          ·intro w'
           go_simp
           with_reducible rfl
          rotate_left
          ·exact Z36.y0
          refine pure_ (i := 3) (N := some 23) (v := ?_) (a' := ?_) (Z36.b 14 15) rfl rfl (any_of HT_.out (by kernel_rfl)) (fun _ _ _ h => h) (Or.inl ⟨(by rfl), ?_⟩) ?_ ?_
          rotate_left
          ·intro w'
           go_simp
           with_reducible rfl
          rotate_left
          ·exact Z36.y0
          refine pure_ (i := 4) (N := some 24) (v := ?_) (a' := ?_) (Z36.b 14 31) rfl rfl (any_of HT_.out (by kernel_rfl)) (fun _ _ _ h => h) (Or.inl ⟨(by rfl), ?_⟩) ?_ ?_
          rotate_left
          ·intro w'
           go_simp
           with_reducible rfl
          rotate_left
          ·exact Z36.y0
          refine pure_ (i := 6) (N := some 26) (v := ?_) (a' := ?_) (Z36.b 14 95) rfl rfl (any_of HT_.out (by kernel_rfl)) (fun _ _ _ h => h) (Or.inl ⟨(by rfl), ?_⟩) ?_ ?_
          rotate_left
          ·intro w'
           go_simp
           with_reducible rfl
          rotate_left
          ·exact Z36.y0
          refine pure_ (i := 7) (N := some 27) (v := ?_) (a' := ?_) (Z36.b 14 223) rfl rfl (any_of HT_.out (by kernel_rfl)) (fun _ _ _ h => h) (Or.inl ⟨(by rfl), ?_⟩) ?_ ?_
          rotate_left
          ·intro w'
           go_simp
           with_reducible rfl
          rotate_left
          ·exact Z36.y0
          refine pure_ (i := 8) (N := some 28) (v := ?_) (a' := ?_) (Z36.b 14 479) rfl rfl (any_of HT_.out (by kernel_rfl)) (fun _ _ _ h => h) (Or.inl ⟨(by rfl), ?_⟩) ?_ ?_
          rotate_left
          ·intro w'
           go_simp
           with_reducible rfl
          rotate_left
          ·exact Z36.y0
          refine take_ (i := 5) (N := some 25) (v := ?_) (a' := ?_) (Z36.b 14 511) rfl rfl (take_ofW HT_.out HW_.out (by kernel_rfl)) (fun _ _ _ h => h) (Or.inl ⟨(by rfl), ?_⟩) hHeld ?_ ?_
          rotate_left
          ·rintro w' ⟨s0, s1⟩
           go_simp
           with_reducible rfl
          rotate_left
          ·exact Z36.y0
          refine take_ (i := 9) (N := some 29) (v := ?_) (a' := ?_) (Z36.b 14 1023) rfl rfl (take_ofW HT_.out HW_.out (by kernel_rfl)) (fun _ _ _ h => h) (Or.inl ⟨(by rfl), ?_⟩) hHeld ?_ ?_
          rotate_left
          ·rintro w' ⟨s0, s1⟩
           go_simp
           with_reducible rfl
          rotate_left
          ·exact Z36.y0
          refine one_ (i := 10) (N := some 30) (Z36.b 14 2047) rfl rfl (one_of HT_.out (by kernel_rfl)) (by decide) (fun K hK => ?_); refine value_ (w1 := ?_) (v := ?_) (by rfl) rfl ?_ ?_
          rotate_left 2
          ·go_simp
           constructor
           ·rfl
           rfl
          refine hK.out _ _ ⟨(World.cell?_alloc_lt _ _ _ (World.block_lt_of_cell? _ _ (hHeld.1))).trans (hHeld.1), (World.cell?_alloc_lt _ _ _ (World.block_lt_of_cell? _ _ (((HB.out.cell (World.block_lt_of_cell? wq4 _ hwq106_0)).trans hwq106_0)))).trans (((HB.out.cell (World.block_lt_of_cell? wq4 _ hwq106_0)).trans hwq106_0))⟩ (fun hHeld => ?_); clear hK K; refine norm_ (a' := ?_) ?_ ?_
          rotate_left
          ·show Act.put _ (some 30) _ = _
           simp only [Act.put, List.setIfInBounds_toArray, List.set_cons_zero, List.set_cons_succ, i64_w, i32_w]
           rfl
          refine one_ (i := 11) (N := some 31) (Z36.b 14 4095) rfl rfl (one_of HT_.out (by kernel_rfl)) (by decide) (fun K hK => ?_); refine Kd.R_append_step (Kd.int .i64) (w0 := wq4) wq4.heap.size (by rfl) (.tmp 25) (.tmp 30) 22 2 (.int .i64 0) 8 rfl Try.underlying22 info2 rfl (by decide) (by omega) (.slice Aq105_0 (rd_L1 xq6_1 xq17_1).length cq105_0) (rd_L1 xq6_1 xq17_1) (rd l1 xq17_1) [.int .i64 (rd l1 xq17_1)] (fun k_ => okiq15 k_ ∨ ((fun _ => True)) k_ ∧ wq14.heap.size ≤ k_) (fun _ => False) rfl rfl ?aP (fun _ hk => hk.elim) ?aF ?aO ?aB ?aS ?aL ?_
          (case aP => exact rfl)
          (case aB => exact Z36.y1)
          (case aF => exact (fun k_ hk => .inr ⟨trivial, hk⟩))
          (case aO => exact (by (with_reducible repeat (first | apply Kd.R_alloc | apply Kd.R_drewN | apply Kd.R_drew)); exact Kd.R_mono UUq15.out (fun _ hk => .inl hk)))
          (case aS => exact (below_size Z36.y1))
          (case aL => have := LMcq12.out; omega)
          intro vq108 wq16 ho hb hg hat
          (first | have HSq0_ := cell_grown hg (hHeld.1) Z36.y4 | have HSq0_ := cell_grown hg (cell_unalloc (hHeld.1) (by first | (rw [add_block]; exact Kd.S_lt HO_q6.out _ rfl) | (show (Addr.add _ _).block < _; rw [add_block]; exact Kd.S_lt HO_q6.out _ rfl) | exact Kd.S_lt HO_q6.out _ rfl)) Z36.y4)
          rw [← Nyq107.out] at ho; have n0_ := Z36.k (blk_grown (g := gb101) (o := .cells #[.int .i64 a0_0, .int .i64 a0_1, .int .i64 a0_2, .slice A0_3 l0_3.length c0_3] 28 (0, 0)) Z36.y5 hg (Kd.R_ne HLq105_0.out BK101.out (by decide))); have n1_ := Z36.k (hb); have n2_ := Z36.k (Kd.H_grown (Kd.H_widen (by repeat (first | exact HHq15.out | refine Kd.H_alloc ?_ _ | refine Kd.H_drewN ?_ _ | refine Kd.H_drew ?_))) hg (fun k_ e_ => .inl (UUq15.out.1 k_ e_))); have n3_ := Z36.k (ho); clear BK101 HB HHq15 HO_q6 UUq15 HLq105_0; have BK101 := n0_; have HB := n1_; have HHq15 := n2_; have HOq109 := n3_; clear n0_ n1_ n2_ n3_ ho hb hg hat; have pq13 : 0 ≤ (xq17_1 : Int) := of_decide_eq_true Z36.y2; have qq13 : (xq17_1 : Int) < ((xq6_1.length : Int) : Int) := of_decide_eq_true Z36.y2; replace pq13 := eq_true pq13; replace qq13 := eq_true qq13; obtain ⟨Aoq19, coq19, eoq19⟩ := Kd.R_slice HOq109.out
          (first | subst eoq19 | (injection eoq19 with f1_ f2_ f3_; have f4_ := f1_.symm; have f5_ := f3_.symm; clear f1_ f2_ f3_; subst f4_; subst f5_))
          obtain ⟨_, _, hrawq17, _, _, hccq17, _⟩ := Kd.H_raw HHq15.out (of_decide_eq_true Z36.y2) (by have h_ : (xq17_1 : Int) < ((xq6_1.length : Int) : Int) := of_decide_eq_true Z36.y2; first | exact h_ | (have e_ := (HNq15.out); omega) | simpa using h_); obtain ⟨_, hfrq17⟩ := Kd.H_at HHq15.out (of_decide_eq_true Z36.y2) (by have h_ : (xq17_1 : Int) < ((xq6_1.length : Int) : Int) := of_decide_eq_true Z36.y2; first | exact h_ | (have e_ := (HNq15.out); omega) | simpa using h_); have hxq17_0 := hccq17 0 _ rfl; have hfq17_0 := hfrq17 0
          (try simp only [Nat.add_zero] at hxq17_0 hfq17_0)
          (try rw [show ((Kd.slice 2 (Kd.int .i64))).sz = 1 from rfl, Nat.mul_one] at hxq17_0)
          (try rw [show ((Kd.slice 2 (Kd.int .i64))).sz = 1 from rfl, Nat.mul_one] at hfq17_0)
          have HPq17 := Kd.S_seg0 HHq15.out (of_decide_eq_true Z36.y2) (by have h_ : (xq17_1 : Int) < ((xq6_1.length : Int) : Int) := of_decide_eq_true Z36.y2; first | exact h_ | (have e_ := (HNq15.out); omega) | simpa using h_) (seg := [.slice Aoq19 yq107.length coq19]) (j := 0) (show 1 ≤ 1 from by decide) (x' := yq107) (Kd.M_row HOq109.out) (fun _ hk => hk)
          (try simp only [show ((Kd.slice 2 (Kd.int .i64))).sz = 1 from rfl, Nat.mul_one, Nat.add_zero] at HPq17)
          clear hccq17 hfrq17; have HNBq101_go15 := Z36.k (show gb101 ≠ goq15 from by have h_ := Kd.R_ne hrawq17 BK101.out (by decide); intro e_; exact h_ (by rw [e_]; rfl)); have HSq17 := HPq17.1; rw [← Nyq110.out] at HSq17; have HQq17 := Z36.k HSq17; obtain ⟨_, hggq17⟩ := Kd.R_typed hrawq17 goq15 rfl; have GGq17_ := Z36.k hggq17; clear HPq17 HSq17 hggq17; refine hK.out _ _ ⟨HSq0_, ((HB.out.cell (World.block_lt_of_cell? wq4 _ hwq106_0)).trans hwq106_0)⟩ (fun hHeld => ?_); clear hK K; refine norm_ (a' := ?_) ?_ ?_
          rotate_left
          ·show Act.put _ (some 31) _ = _
           simp only [Act.put, List.setIfInBounds_toArray, List.set_cons_zero, List.set_cons_succ, i64_w, i32_w]
           rfl
          refine pure_ (i := 12) (N := some 32) (v := ?_) (a' := ?_) (Z36.b 14 8191) rfl rfl (any_of HT_.out (by kernel_rfl)) (fun _ _ _ h => h) (Or.inl ⟨(by rfl), ?_⟩) ?_ ?_
          rotate_left
          ·intro w'
           go_simp
           with_reducible rfl
          rotate_left
          ·exact Z36.y0
          refine last_ (i := 13) (N := none) (Z36.b 14 16383) rfl rfl (one_of HT_.out (by kernel_rfl)) (by decide) (fun K hK => ?_); refine skip_ (w1 := ?_) (by rfl) rfl ?_ ?_
          rotate_left
          ·go_simp
           rfl
          refine hK.out _ _ ?_; clear hK K; refine done_ (done_of HT_.out (by kernel_rfl)) ?_
          try go_wp2
          (try simp only [← hlq6_1])
          go_roundg k1
          case measure => have := HKq1.out; omega
          case rel => exact ⟨(yq110), (wrap64 (xq17_1 + 1)), (by first | rfl | (simp; done) | (simp [*]; done)), H', ⟨(by have := HKq1.out; omega)⟩, ⟨(by (try simp only [hlq6_1]); (with_reducible repeat (first | apply Kd.S_alloc | apply Kd.S_drewN | apply Kd.S_drew)); exact HQq17.out)⟩, ⟨(by (try simp only [hlq6_1]); (with_reducible repeat (first | refine blk_drewN ?_ _ | refine blk_drew ?_ | refine blk_alloc ?_ _)); refine blk_far ?_ HNBq101_go15.out _; (with_reducible repeat (first | refine blk_drewN ?_ _ | refine blk_drew ?_ | refine blk_alloc ?_ _)); exact BK101.out)⟩, ⟨(by repeat (first | (with_reducible first | exact HB.out | apply below_alloc | apply pw_below_drewN | apply below_drew1 | refine below_set ?_ GBq15.out | refine below_set ?_ GE101.out) | exact HB.out))⟩⟩
         rw [if_neg cq12] at H; exact absurd H (by simp)
        rw [if_neg cq11] at H; exact absurd H (by simp)
       rw [if_neg cq10] at H; exact absurd H (by simp)
      rw [if_neg cq9] at H; exact absurd H (by simp)
     rw [if_neg cq8] at H
     have cq8b0 : decide (xq17_1 < (tqR.length : Int)) = false := decide_eq_false cq8
     clear cq8
     obtain rfl := Option.some.inj H
     have cx_ := cq8b0
     rw [hlq6_1] at cx_
     have HM_ := HB
     have HN_ := Z36.k (Kd.N_mono (ok' := fun k_ => wq4.heap.size ≤ k_) (Kd.S_N (Kd.S_bound HO_q6.out)) (fun k_ hk_ => hk_.2.1))
     obtain ⟨hczR_0, hczR_1, hczR_2, hczR_3, hfzR_0, hfzR_1, hfzR_2, hfzR_3⟩ := cells4 BK101.out
     clear HB BK101 HO_q6
     have HB := HB0
     have BK101 := BK4
     generalize (Value.slice Aoq7 (xq6_1).length coq7) = vR_ at HN_ ⊢
     go_wp2_with (first | ((with_reducible refine gate_callee (f := 60) rfl ?_); refine goesL_ (some 41) rfl rfl Try.func60 (by kernel_rfl) rfl #[vR_, .int .i64 (wrap64 (a0_2 + 1)), .int .i64 a0_0] rfl (by (try simp only [List.map_toArray, List.map_cons, List.map_nil]); first | done | rfl | (simp only [List.length_drop, List.length_take]; rfl)) ?_; (with_reducible refine (impl_eliminate.calls k vR_ _ (wrap64 (a0_2 + 1)) a0_0 t102 t105 t106 _ _ HM_.out HN_.out AqE.out).mono ?_); rintro e w8 ⟨v103, rfl, ho0, ho1, hb⟩; refine ⟨_, rfl, ?_⟩; have HO104 := Z36.k (Kd.R_lower (Kd.R_mono (ok' := fun k_ => True) ho0 (fun _ hk_ => trivial)) (below_size Z36.z0)); have HO108 := Z36.k (Kd.N_lower (Kd.N_mono (ok' := fun k_ => some k_ ≠ (v103 : Value).ownBlock ∧ k_ ≠ gb101) ho1 (fun k_ hk_ => ⟨hk_.2, (Kd.freshB (g := gb101) (o := .cells #[.int .i64 a0_0, .int .i64 a0_1, .int .i64 a0_2, .slice A0_3 l0_3.length c0_3] 28 (0, 0)) Z36.z3 k_ hk_.1)⟩)) (below_size Z36.z0)); replace BK101 := Z36.k (Z36.bb BK101 Z36.z3 hb); replace HB := Z36.k (below_step Z36.z0 hb); (try clear hb); (try clear hb2); (try clear hk); (try clear hi); (try clear ho0); (try clear ho1); obtain ⟨hcz9_0, hcz9_1, hcz9_2, hcz9_3, hfz9_0, hfz9_1, hfz9_2, hfz9_3⟩ := cells4 BK101.out) | ((with_reducible refine gate_dst (N := 46) rfl ?_); refine Kd.R_make (Kd.int .i64) _ 2 rfl (N := 46) rfl 22 _ _ rfl a0_2 rfl rfl Try.underlying22 (.int .i64 0) 8 info2 rfl (by decide) (by omega) 0 (ok := fun _ => True) (okp := fun _ => True) rfl (fun _ hk => hk) trivial (of_decide_eq_true Z36.z2) (Nat.le_trans (Nat.mul_le_mul_right _ (of_decide_eq_true Z36.z2 : a0_2.toNat ≤ 35184372088832)) (by omega)) (Below.refl _ _) (Nat.le_refl _) ?_; intro v110 w10 ho11 hb hg_ hnew_; clear hg_ hnew_; (first | rw [← Ny109.out] at ho11 | (simp only [Int.reduceToNat] at ho11; rw [← Ny109.out] at ho11)); have HO111 := Z36.k (Kd.R_lower (Kd.R_new' ho11 (Kd.R_lt (by (with_reducible repeat (first | apply Kd.R_alloc | apply Kd.R_drewN | apply Kd.R_drew)); exact HO104.out))) (below_size Z36.z0)); replace HO104 := Z36.k (Kd.R_elder' (by (with_reducible repeat (first | apply Kd.R_alloc | apply Kd.R_drewN | apply Kd.R_drew)); exact HO104.out) (Kd.R_base ho11) hb); replace HO108 := Z36.k (Kd.N_elder' (by (with_reducible repeat (first | apply Kd.N_alloc | apply Kd.N_drewN | apply Kd.N_drew)); exact HO108.out) (Kd.R_base ho11) hb); replace BK101 := Z36.k (Z36.bb BK101 Z36.z3 hb); replace HB := Z36.k (below_step Z36.z0 hb); clear hb ho11; obtain ⟨Ao12, co12, eo12⟩ := Kd.R_slice HO104.out; subst eo12))
     go_loopg [49] k (fun kq v49 w' => ∃ (x10_1 : List Int) (x49_1 : Int), v49 = .int .i64 x49_1 ∧ Aside0 (impl_solve.l0 kq t106 x10_1 t102 (t102.length : Int) x49_1 a0_0 a0_1 a0_2 l0_3 = some (r1, r2)) ∧ Aside0 (kq ≤ k) ∧ Aside0 (Kd.N (Kd.slice 2 (Kd.int .i64)) 22 w' w.heap.size (fun k_ => some k_ ≠ (v110 : Value).ownBlock ∧ some k_ ≠ ((.slice Ao12 t102.length co12) : Value).ownBlock ∧ k_ ≠ gb101) vR_ t106) ∧ Aside0 (Kd.R (Kd.int .i64) 2 w' w.heap.size (fun k_ => some k_ ≠ ((.slice Ao12 t102.length co12) : Value).ownBlock) v110 x10_1) ∧ Aside0 (Kd.R (Kd.int .i64) 2 w' w.heap.size (fun k_ => some k_ ≠ (v110 : Value).ownBlock) (.slice Ao12 t102.length co12) t102) ∧ Aside0 (w'.heap[gb101]? = some (.cells #[.int .i64 a0_0, .int .i64 a0_1, .int .i64 a0_2, (.slice A0_3 l0_3.length c0_3)] 28 (0, 0))) ∧ Aside0 (Below w.heap.size w w'))
     case atStart => exact ⟨(y109), (0), (by first | rfl | (simp; done) | (simp [*]; done)), HL2, ⟨Nat.le_refl _⟩, ⟨(by (with_reducible repeat (first | apply Kd.N_alloc | apply Kd.N_drewN | apply Kd.N_drew)); exact Kd.N_mono HO108.out (fun _ hk => ⟨hk.2, ⟨hk.1.1, hk.1.2⟩⟩))⟩, ⟨(by (with_reducible repeat (first | apply Kd.R_alloc | apply Kd.R_drewN | apply Kd.R_drew)); exact Kd.R_mono HO111.out (fun _ hk => hk.2))⟩, ⟨(by (with_reducible repeat (first | apply Kd.R_alloc | apply Kd.R_drewN | apply Kd.R_drew)); exact Kd.R_mono HO104.out (fun _ hk => hk.2))⟩, ⟨Z36.z3⟩, ⟨Z36.z0⟩⟩
     case round =>
      (try clear H')
      (try clear c1); (try clear p2); (try clear c3); (try clear c4); (try clear c4b0); (try clear c4b1); (try clear c5); (try clear c5b0); (try clear c5b1); (try clear p6); (try clear c9); (try clear hcz7_0); (try clear hcz7_1); (try clear hcz7_2); (try clear hcz7_3); (try clear hcz9_0); (try clear hcz9_1); (try clear hcz9_2); (try clear hcz9_3); (try clear hfz7_0); (try clear hfz7_1); (try clear hfz7_2); (try clear hfz7_3); (try clear hfz9_0); (try clear hfz9_1); (try clear hfz9_2); (try clear hfz9_3); obtain ⟨x10_1, x49_1, rfl, HA, HK1, HO_6, HO_10, HO_47, BK101, HB⟩ := hrel; cases gk with
      | zero => exact absurd HA.out (by simp [impl_solve.l0])
      | succ k1 =>
       have H := HA.out
       clear HA; simp only [impl_solve.l0] at H
       by_cases c13 : x49_1 < (t102.length : Int)
       ·rw [if_pos c13] at H
        have c13b0 : decide (x49_1 < (t102.length : Int)) = true := decide_eq_true c13; clear c13
        by_cases c14 : 0 ≤ x49_1
        ·rw [if_pos c14] at H
         have c14b0 : decide (0 ≤ x49_1) = true := decide_eq_true c14; clear c14
         by_cases c15 : x49_1 < (t102.length : Int)
         ·rw [if_pos c15] at H
          have c15b0 : decide (x49_1 < (t102.length : Int)) = true := decide_eq_true c15; clear c15
          by_cases c16 : (rd t102 x49_1) = a0_2
          ·rw [if_pos c16] at H
           have c16b0 : ((rd t102 x49_1) == a0_2) = true := beq_iff_eq.mpr c16; have c16b1 : ((rd t102 x49_1) != a0_2) = false := bne_eq_false_iff_eq.mpr c16; clear c16; simp only [Option.some.injEq, Prod.mk.injEq] at H
           obtain ⟨rfl, rfl⟩ := H; have p112 : 0 ≤ (x49_1 : Int) := of_decide_eq_true Z36.z2; have q112 : x49_1 < (t102.length : Int) := of_decide_eq_true Z36.z2; obtain ⟨ad112, e112, hx112_0⟩ := Kd.at_int (Kd.R_reads' HO_47.out).2.2 x49_1 p112 q112; cases e112; replace p112 := eq_true p112; replace q112 := eq_true q112; obtain ⟨hcz17_0, hcz17_1, hcz17_2, hcz17_3, hfz17_0, hfz17_1, hfz17_2, hfz17_3⟩ := cells4 BK101.out
           go_wp2
           go_ret2
           exact ⟨_, (by first | rfl | (simp [errW_none, errW_some] <;> rfl) | (simp [*, errW_none, errW_some] <;> rfl)), (by first | exact Kd.R_nil _ _ _ _ _ | exact Kd.N_nil _ _ _ _ _ | exact Kd.V_nil _ _ _ _ _ | exact Kd.Q_nil _ _ _ _ _ | exact Kd.S_nil _ _ _ _ _), Z36.z0⟩
          rw [if_neg c16] at H; have c16b0 : ((rd t102 x49_1) == a0_2) = false := beq_eq_false_iff_ne.mpr c16; have c16b1 : ((rd t102 x49_1) != a0_2) = true := bne_iff_ne.mpr c16
          by_cases c18 : x49_1 < (t106.length : Int)
          ·rw [if_pos c18] at H
           have c18b0 : decide (x49_1 < (t106.length : Int)) = true := decide_eq_true c18; clear c18
           by_cases c19 : 0 ≤ a0_2
           ·rw [if_pos c19] at H
            have c19b0 : decide (0 ≤ a0_2) = true := decide_eq_true c19; clear c19
            by_cases c20 : a0_2 < ((rd_L1 t106 x49_1).length : Int)
            ·rw [if_pos c20] at H
             have c20b0 : decide (a0_2 < ((rd_L1 t106 x49_1).length : Int)) = true := decide_eq_true c20; clear c20
             by_cases c21 : 0 ≤ (rd t102 x49_1)
             ·rw [if_pos c21] at H
              have c21b0 : decide (0 ≤ (rd t102 x49_1)) = true := decide_eq_true c21; clear c21
              by_cases c22 : (rd t102 x49_1) < (x10_1.length : Int)
              ·rw [if_pos c22] at H
               have c22b0 : decide ((rd t102 x49_1) < (x10_1.length : Int)) = true := decide_eq_true c22; clear c22; obtain ⟨y115, hy115⟩ : ∃ y_ : List Int, y_ = (x10_1.set ((rd t102 x49_1) : Int).toNat (rd (rd_L1 t106 x49_1) a0_2)) := ⟨_, rfl⟩; replace H : (impl_solve.l0 k1 t106 y115 t102 (t102.length : Int) (wrap64 (x49_1 + 1)) a0_0 a0_1 a0_2 l0_3) = some (r1, r2) := by first | (rw [hy115]; with_reducible exact H) | (have H2_ := (Option.bind_some _ _).symm.trans H; rw [hy115]; with_reducible exact H2_) | (have H2_ := (Option.bind_some _ _).symm.trans H; with_reducible exact H2_) | with_reducible exact H | (rw [hy115]; exact H) | exact H
               have Ny115 := Z36.k hy115; clear hy115; have H' := Z36.k H; clear H; have p112 : 0 ≤ (x49_1 : Int) := of_decide_eq_true Z36.z2; have q112 : x49_1 < (t102.length : Int) := of_decide_eq_true Z36.z2; obtain ⟨ad112, e112, hx112_0⟩ := Kd.at_int (Kd.R_reads' HO_47.out).2.2 x49_1 p112 q112; cases e112; replace p112 := eq_true p112; replace q112 := eq_true q112; obtain ⟨hcz24_0, hcz24_1, hcz24_2, hcz24_3, hfz24_0, hfz24_1, hfz24_2, hfz24_3⟩ := cells4 BK101.out
               try go_wp2
               replace HO_6 := Z36.k (Kd.N_drew HO_6.out); replace HO_10 := Z36.k (Kd.R_drew HO_10.out); replace HO_47 := Z36.k (Kd.R_drew HO_47.out); replace BK101 := Z36.k (blk_drew BK101.out); replace HB := Z36.k (below_drew1 HB.out); obtain ⟨Ao26, co26, eo26⟩ := Kd.N_slice HO_6.out
               (first | subst eo26 | (injection eo26 with f1_ f2_ f3_; have f4_ := f1_.symm; have f5_ := f3_.symm; clear f1_ f2_ f3_; subst f4_; subst f5_))
               have p113 : 0 ≤ (x49_1 : Int) := of_decide_eq_true Z36.z2; have q113 : x49_1 < (t106.length : Int) := of_decide_eq_true Z36.z2; obtain ⟨ad113, A113_0, c113_0, e113, hx113_0, hl113_0, hi113_0⟩ := at_L1 (Kd.N_reads' HO_6.out).2.2 x49_1 p113 q113; cases e113; obtain ⟨ce113, hce113, hMe113, hcc113⟩ := Kd.N_get HO_6.out [] x49_1 p113 (by first | exact q113 | exact of_decide_eq_true Z36.z2 | (have e_ := (Kd.N_reads' HO_6.out).1; omega)); obtain ⟨ua113_0, uc113_0, rfl, ul113_0, ge113_0⟩ := Kd.FK_slice_open hMe113; have hv113_0 := hcc113 0 _ rfl; rw [Nat.add_zero, show ((Kd.slice 2 (Kd.int .i64))).sz = 1 from rfl, Nat.mul_one] at hv113_0; replace hv113_0 := Option.some.inj (hv113_0.symm.trans hx113_0); injection hv113_0 with hva_ hvn_ hvc_; rw [hva_] at ge113_0; rw [hvc_] at ul113_0; have HL113_0 := Z36.k (show Kd.V (Kd.int .i64) 2 _ w.heap.size _ _ (rd_L1 t106 x49_1) from Kd.V_mk ul113_0 ge113_0); clear hva_ hvn_ hvc_ ge113_0 ul113_0 hcc113 hce113; have HR113_0 := Z36.k hi113_0; have HC113_0 := Z36.k hl113_0; clear hi113_0 hl113_0; replace p113 := eq_true p113; replace q113 := eq_true q113; have p114 : 0 ≤ (a0_2 : Int) := of_decide_eq_true Z36.z2; have q114 : a0_2 < ((rd_L1 t106 x49_1).length : Int) := of_decide_eq_true Z36.z2; obtain ⟨ad114, e114, hx114_0⟩ := Kd.at_int (by repeat (first | (with_reducible exact HR113_0.out) | (with_reducible refine Kd.C_alloc ?_ _) | (with_reducible refine Kd.C_drewN ?_ _) | (with_reducible refine Kd.C_drew ?_) | exact HR113_0.out)) a0_2 p114 q114; cases e114; replace p114 := eq_true p114; replace q114 := eq_true q114; have p23 : 0 ≤ ((rd t102 x49_1) : Int) := of_decide_eq_true Z36.z2; have q23 : ((rd t102 x49_1) : Int) < ((x10_1.length : Int) : Int) := of_decide_eq_true Z36.z2; obtain ⟨go23, co23, eo23, gb23, gl23, cl23, HG23⟩ := Kd.R_form HO_10.out (by omega)
               (first | cases eo23 | (injection eo23 with ea_ en_ ec_; (first | subst ea_ | (injection ea_ with ea_; subst ea_)); subst ec_; clear en_))
               have GB23 := Z36.k gb23; have GG23 := Z36.k HG23; clear gb23 gl23 HG23; obtain ⟨hx23_0, hf23_0⟩ := Kd.R_celln 0 HO_10.out ((rd t102 x49_1) : Int) p23 q23; replace p23 := eq_true p23; replace q23 := eq_true q23; have HP27 := Kd.R_putn HO_10.out ((rd t102 x49_1) : Int) (rd (rd_L1 t106 x49_1) a0_2); rw [← Ny115.out] at HP27; have HQ27 := Z36.k HP27; clear HP27; refine start_ (n := 12) (S := fun w' => w'.cell? ⟨gb101, 0, none⟩ = some (.int .i64 a0_0) ∧ w'.cell? ⟨gb101, 1, none⟩ = some (.int .i64 a0_1) ∧ w'.cell? ⟨gb101, 2, none⟩ = some (.int .i64 a0_2) ∧ w'.cell? ⟨gb101, 3, none⟩ = some (.slice A0_3 l0_3.length c0_3) ∧ w'.cell? (ad113.add (x49_1).toNat) = some (.slice (some ad114) (rd_L1 t106 x49_1).length c113_0) ∧ w'.cell? (ad114.add (a0_2).toNat) = some (.int .i64 (rd (rd_L1 t106 x49_1) a0_2))) (ds := [11]) #[false, false, false, false, false, false, false, false, false, false, false, false] (by kernel_rfl) rfl rfl ⟨(blk_cell BK101.out 0).trans rfl, (blk_cell BK101.out 1).trans rfl, (blk_cell BK101.out 2).trans rfl, (blk_cell BK101.out 3).trans rfl, hx113_0, hx114_0⟩ (fun hHeld => ?_); refine with_tabW impl_solve.tab14 impl_solve.bits14 (fun HT_ HW_ => ?_); generalize wr.drew = w25 at HO_6 HO_10 HO_47 BK101 HB GG23 HL113_0 HQ27 HR113_0 hf23_0 hx113_0 hx114_0 hx23_0 hHeld ⊢
               refine Z36.pP 0 58 (Z36.b 12 1) (any_of HT_.out (by kernel_rfl)) ?_; refine Z36.pP 1 59 (Z36.b 12 3) (any_of HT_.out (by kernel_rfl)) ?_; refine Z36.pP 2 60 (Z36.b 12 7) (any_of HT_.out (by kernel_rfl)) ?_; refine Z36.pP 3 61 (Z36.b 12 15) (any_of HT_.out (by kernel_rfl)) ?_; refine Z36.pP 4 62 (Z36.b 12 31) (any_of HT_.out (by kernel_rfl)) ?_; refine Z36.pP 6 64 (Z36.b 12 95) (any_of HT_.out (by kernel_rfl)) ?_; refine Z36.pT6 5 63 (Z36.b 12 127) (take_ofW HT_.out HW_.out (by kernel_rfl)) hHeld ?_; refine Z36.pT6 7 65 (Z36.b 12 255) (take_ofW HT_.out HW_.out (by kernel_rfl)) hHeld ?_; refine Z36.pP 8 66 (Z36.b 12 511) (any_of HT_.out (by kernel_rfl)) ?_; refine Z36.pT6 9 67 (Z36.b 12 1023) (take_ofW HT_.out HW_.out (by kernel_rfl)) hHeld ?_; refine Z36.pP 10 68 (Z36.b 12 2047) (any_of HT_.out (by kernel_rfl)) ?_; refine last_ (i := 11) (N := none) (Z36.b 12 4095) rfl rfl (one_of HT_.out (by kernel_rfl)) (by decide) (fun K hK => ?_); refine skip_ (w1 := ?_) (by rfl) rfl ?_ ?_
               rotate_left
               ·go_simp
                rfl
               refine hK.out _ _ ?_; clear hK K; refine done_ (done_of HT_.out (by kernel_rfl)) ?_
               try go_wp2
               go_roundg k1
               case measure => have := HK1.out; omega
               case rel => exact ⟨(y115), (wrap64 (x49_1 + 1)), (by first | rfl | (simp; done) | (simp [*]; done)), H', ⟨(by have := HK1.out; omega)⟩, ⟨(by (with_reducible repeat (first | apply Kd.N_alloc | apply Kd.N_drewN | apply Kd.N_drew)); exact Kd.N_mono (Kd.N_far (p := ⟨go23, ((rd t102 x49_1) : Int).toNat, none⟩) (Kd.N_mono HO_6.out (fun k_ hk => (⟨hk, fun e_ => hk.1 (by rw [e_]; rfl)⟩ : _ ∧ k_ ≠ go23))) (fun _ hk => hk.2) (.int .i64 (rd (rd_L1 t106 x49_1) a0_2))) (fun _ hk => ⟨hk.1.1, ⟨hk.1.2.1, hk.1.2.2⟩⟩))⟩, ⟨(by (with_reducible repeat (first | apply Kd.R_alloc | apply Kd.R_drewN | apply Kd.R_drew)); exact HQ27.out)⟩, ⟨(by (with_reducible repeat (first | apply Kd.R_alloc | apply Kd.R_drewN | apply Kd.R_drew)); exact Kd.R_mono (Kd.R_far (p := ⟨go23, ((rd t102 x49_1) : Int).toNat, none⟩) (Kd.R_mono HO_47.out (fun k_ hk => (⟨hk, fun e_ => hk (by rw [e_]; rfl)⟩ : _ ∧ k_ ≠ go23))) (fun _ hk => hk.2) (.int .i64 (rd (rd_L1 t106 x49_1) a0_2))) (fun _ hk => hk.1))⟩, ⟨(by (with_reducible repeat (first | refine blk_drewN ?_ _ | refine blk_drew ?_ | refine blk_alloc ?_ _)); refine blk_far ?_ (by have h_ := Kd.R_ne HO_10.out BK101.out (by decide); intro e_; exact h_ (by rw [e_]; rfl)) _; (with_reducible repeat (first | refine blk_drewN ?_ _ | refine blk_drew ?_ | refine blk_alloc ?_ _)); exact BK101.out)⟩, ⟨(by repeat (first | (with_reducible first | exact HB.out | apply below_alloc | apply pw_below_drewN | apply below_drew1 | refine below_set ?_ GB23.out | refine below_set ?_ GE101.out) | exact HB.out))⟩⟩
              rw [if_neg c22] at H; exact absurd H (by simp)
             rw [if_neg c21] at H; exact absurd H (by simp)
            rw [if_neg c20] at H; exact absurd H (by simp)
           rw [if_neg c19] at H; exact absurd H (by simp)
          rw [if_neg c18] at H; exact absurd H (by simp)
         rw [if_neg c15] at H; exact absurd H (by simp)
        rw [if_neg c14] at H; exact absurd H (by simp)
       rw [if_neg c13] at H; have c13b0 : decide (x49_1 < (t102.length : Int)) = false := decide_eq_false c13; clear c13; simp only [Option.some.injEq, Prod.mk.injEq] at H
       obtain ⟨rfl, rfl⟩ := H
       go_wp2
       go_ret2
       exact ⟨_, (by first | rfl | (simp [errW_none, errW_some] <;> rfl) | (simp [*, errW_none, errW_some] <;> rfl)), (by (with_reducible repeat (first | apply Kd.R_alloc | apply Kd.R_drewN | apply Kd.R_drew)); exact Kd.R_mono HO_10.out (fun _ hk => trivial)), Z36.z0⟩
  rw [if_neg c5] at H
  exact absurd H (by simp)
 rw [if_neg c4] at H
 exact absurd H (by simp)
/-! ### impl_filled: function 118 -/
structure Cell2 where
  f : Int → Int → Option Int
section
variable {P : Program} {ops : Array Oper} {Q : Exit → Act → World → Prop}
theorem goesV_ {oi : Oper} {N : Option Tmp} {a : Act} {w : World} {K : Act → World → Prop} {o : Operand} {xs_ : Array Operand} {ts : Array TypeId} (g : Nat) (lb : Array Value) (eg : ∀ args w, (callFunc g args).run P w = .ok (.enter g args) w) (args : Array Value)
    (hw : Region.wanted oi (yielded ops a.tmps) = true) (hN : oi.dst = N) (hop : oi.op = .call { callee := .value o, args := xs_, argTypes := ts }) (hv : a.eval o = .func (.func g) #[] lb) (hargs : xs_.map a.eval = args)
    (h : Calls P g (args ++ lb) w fun e w' => ∃ v, e = .returned v ∧ K (a.put N v) w') : if Region.wanted oi (yielded ops a.tmps) = true then Oper.wp P oi a w K Q else K (a.put N undef) w := by
  refine call_ g (args ++ lb) hw hN ?_ h
  unfold execOp
  simp [hop, resolve, Deferred.ofValue, invoke, hv, hargs, eg]
end
mutual
def impl_filled.l0 (cf_ : Cell2) : Nat → Int → Int → Int → Int → Int → Int → List Int → Option (Int × Int × Int × List Int)
  | 0, _, _, _, _, _, _, _ => none
  | k + 1, x2, x16, x17, x103000, x103001, x103002, x103003 => if x17 < x16 then (impl_filled.l1 cf_ k x2 x17 x16 x17 x2 0 x103000 x103001 x103002 x103003) else (some (x103000, x103001, x103002, x103003))
def impl_filled.l1 (cf_ : Cell2) : Nat → Int → Int → Int → Int → Int → Int → Int → Int → Int → List Int → Option (Int × Int × Int × List Int)
  | 0, _, _, _, _, _, _, _, _, _, _ => none
  | k + 1, x2, x10, x16, x17, x20, x21, x103000, x103001, x103002, x103003 => if x21 < x20 then ((cf_.f x10 x21).bind fun t103 => (if x103003.length < 17592186044416 then (impl_filled.l1 cf_ k x2 x10 x16 x17 x20 (wrap64 (x21 + 1)) x103000 x103001 x103002 (x103003 ++ [t103])) else (none))) else (impl_filled.l0 cf_ k x2 x16 (wrap64 (x17 + 1)) x103000 x103001 x103002 x103003)
end
def impl_filled.f (cf_ : Cell2) (k : Nat) (a0 : Int) (a1 : Int) (a2 : Int) (a3 : Int) : Option (Int × Int × Int × List Int) := impl_filled.l0 cf_ k a2 a1 0 a0 a1 a2 ([] : List Int)
def impl_filled.T8 : Bool × List (List Nat × List Nat) := (true, [([], []), ([0], [0]), ([], []), ([], []), ([], []), ([2, 3, 4], [2, 3, 4]), ([5], [5]), ([1, 6, 5], [1, 6]), ([0, 1, 2, 3, 4, 5, 6, 7], []), ([8, 7, 7, 0, 1, 2, 3, 4, 5, 6, 7], [7, 8])])
def impl_filled.B8 : List Nat := [0, 1, 0, 0, 0, 28, 60, 127, 255, 511]
theorem impl_filled.tab8 : rtab .any (opsOf Try.f118 8) = impl_filled.T8 := by kernel_rfl
theorem impl_filled.bits8 : waitsOk impl_filled.T8.2 impl_filled.B8 = true := by kernel_rfl
def Z118.b (n x : Nat) : Array Bool := ((List.range n).map (fun i => x.testBit i)).toArray
theorem Z118.pP {P : Program} {ops : Array Oper} {Q : Exit → Act → World → Prop} {md : Region.Mode} {S : World → Prop} {ds : List Nat} (i N : Nat) {oi : Oper} {v : Value} {fuel : Nat} {l : Array Bool} {a : Act} {w : World} (l' : Array Bool) (hc : anyB md ops l l' i = true) {a' : Act} (h : wpAnyLast P md ops Q S ds fuel l' a' w) (hi : ops[i]? = some oi := by rfl) (hN : oi.dst = some N := by rfl) (hQ : ∀ c a w, Q (.panic c) (a.put oi.dst v) w → Q (.panic c) a w := by exact fun _ _ _ h => h) (hy : Yields P ops oi v a := by exact Or.inl ⟨(by rfl), by intro w'; go_simp; with_reducible rfl⟩) (ha : a.put (some N) v = a' := by simp only [Act.put, List.setIfInBounds_toArray, List.set_cons_zero, List.set_cons_succ, i64_w, i32_w]; rfl) : wpAnyLast P md ops Q S ds (fuel + 1) l a w := pure_ l' hi hN hc hQ hy ha h
theorem Z118.pT4 {P : Program} {ops : Array Oper} {Q : Exit → Act → World → Prop} {md : Region.Mode} {S : World → Prop} {ds : List Nat} (i N : Nat) {oi : Oper} {v : Value} {fuel : Nat} {l : Array Bool} {a : Act} {w : World} (l' : Array Bool) (hc : takeB md ops ds l l' i = true) (hS : S w) {a' : Act} (h : wpAnyLast P md ops Q S ds fuel l' a' w) (hi : ops[i]? = some oi := by rfl) (hN : oi.dst = some N := by rfl) (hQ : ∀ c a w, Q (.panic c) (a.put oi.dst v) w → Q (.panic c) a w := by exact fun _ _ _ h => h) (hy : YieldsIf P ops S oi v a := by exact Or.inl ⟨(by rfl), by rintro w' ⟨s0, s1, s2, s3⟩; go_simp; with_reducible rfl⟩) (ha : a.put (some N) v = a' := by simp only [Act.put, List.setIfInBounds_toArray, List.set_cons_zero, List.set_cons_succ, i64_w, i32_w]; rfl) : wpAnyLast P md ops Q S ds (fuel + 1) l a w := take_ l' hi hN hc hQ hy hS ha h
theorem Z118.bb {w0 w w1 : World} {g : Nat} {o : Obj} (_B : Aside0 (w0.heap[g]? = some o)) (h : w.heap[g]? = some o) (hb : Below w.heap.size w w1) : w1.heap[g]? = some o := blk_below h hb
theorem Z118.bl {w0 w : World} {g : Nat} {o : Obj} (_B : Aside0 (w0.heap[g]? = some o)) (h : w.heap[g]? = some o) : g < w.heap.size := blk_lt h
theorem Z118.k {p : Prop} (h : p) : Aside0 p := ⟨h⟩
theorem Z118.z8 {P : Prop} (h : P := by (repeat (first | (with_reducible first | refine blk_drewN ?_ _ | refine blk_drew ?_ | refine blk_alloc ?_ _) | refine blk_far ?_ NB101_102.out _)); exact BK101.out) : P := h
theorem Z118.z7 {P : Prop} (h : P := by repeat (first | (with_reducible first | exact HB.out | apply below_alloc | apply pw_below_drewN | apply below_drew1) | exact HB.out)) : P := h
theorem Z118.z6 {P : Prop} (h : P := by exact ⟨(blk_cell BK102.out 0).trans rfl, (blk_cell BK102.out 1).trans rfl, (blk_cell BK102.out 2).trans rfl, (blk_cell BK102.out 3).trans rfl⟩) : P := h
theorem Z118.z5 {P : Prop} (h : P := by (with_reducible repeat (first | apply Kd.R_alloc | apply Kd.R_drewN | apply Kd.R_drew)); exact HO_103003.out) : P := h
theorem Z118.z4 {P : Prop} (h : P := by repeat (first | (with_reducible first | exact HB.out | apply below_alloc | apply pw_below_drewN | apply below_drew1 | refine below_set ?_ GE101.out) | exact HB.out)) : P := h
theorem Z118.z3 {P : Prop} (h : P := by (with_reducible repeat (first | refine blk_drewN ?_ _ | refine blk_drew ?_ | refine blk_alloc ?_ _)); exact BK102.out) : P := h
theorem Z118.z2 {P : Prop} (h : P := by simp only [Act.put, List.setIfInBounds_toArray, List.set_cons_zero, List.set_cons_succ, i64_w, i32_w]; rfl) : P := h
theorem Z118.z1 {P : Prop} (h : P := by (with_reducible repeat (first | refine blk_drewN ?_ _ | refine blk_drew ?_ | refine blk_alloc ?_ _)); exact BK101.out) : P := h
theorem Z118.z0 {P : Prop} (h : P := by repeat (first | (with_reducible first | exact HB.out | apply below_alloc | apply pw_below_drewN | apply below_drew1 | refine below_set ?_ GE101.out | refine below_set ?_ GE102.out) | exact HB.out)) : P := h
set_option maxHeartbeats 8000000 in
set_option maxRecDepth 100000 in
theorem impl_filled.calls (cf_ : Cell2) (g_ : Nat) (lb_ : Array Value) (eg_ : ∀ args w, (callFunc g_ args).run Try.prog w = .ok (.enter g_ args) w) (k : Nat) (a0 : Int) (a1 : Int) (a2 : Int) (a3 : Int) (r1 : Int) (r2 : Int) (r3 : Int) (r4 : List Int) (w : World) (hp_ : ∀ (W : World) (i j r : Int), Below w.heap.size w W → cf_.f i j = some r → Calls Try.prog g_ (#[.int .i64 i, .int .i64 j] ++ lb_) W fun e w' => e = .returned (.int .i64 r) ∧ Below W.heap.size W w') (h : impl_filled.f cf_ k a0 a1 a2 a3 = some (r1, r2, r3, r4)) :
  Calls Try.prog 118 #[.int .i64 a0, .int .i64 a1, .int .i64 a2, .func (.func g_) #[] lb_] w fun e w' => ∃ v3_ : Value, e = .returned (.agg #[.int .i64 r1, .int .i64 r2, .int .i64 r3, v3_]) ∧ Kd.R (Kd.int .i64) 2 w' w.heap.size (fun _ => True) v3_ r4 ∧ Below w.heap.size w w' := by
 have hu28 := Try.underlying28
 have HB := Z118.k (Below.refl w.heap.size w)
 have HP_ := Z118.k hp_
 clear hp_
 have H : (impl_filled.l0 cf_ k a2 a1 0 a0 a1 a2 ([] : List Int)) = some (r1, r2, r3, r4) := h
 clear h
 have H' := Z118.k H
 clear H
 go_enter Try.func118, Try.ntmps118
 go_wp2_with (first | ((with_reducible refine gate_dst (N := 8) rfl ?_); refine box_event ?hg (N := 8) ?hd (cs := #[.int .i64 0, .int .i64 0, .int .i64 0, .slice none 0 0]) (t := 28) ?hr ?_; (case hd => rfl); (case hg => rfl); (case hr => first | (go_simp; done) | (go_simp; rfl)); intro gb101 hg w5 hbox hb; have BK101 := Z118.k (hbox); have GW101 := Z118.k (show w.heap.size ≤ gb101 from (by rw [hg]; exact (below_size Z118.z7))); have GE101 := Z118.k (show w.heap.size ≤ gb101 from (by rw [hg]; exact (below_size Z118.z7))); replace HB := Z118.k (below_step Z118.z7 hb); clear hb hbox hg) | ((with_reducible refine gate_dst (N := 9) rfl ?_); refine box_event ?hg (N := 9) ?hd (cs := #[.int .i64 0, .int .i64 0, .int .i64 0, .slice none 0 0]) (t := 28) ?hr ?_; (case hd => rfl); (case hg => rfl); (case hr => first | (go_simp; done) | (go_simp; rfl)); intro gb102 hg w6 hbox hb; have BK102 := Z118.k (hbox); have GW102 := Z118.k (show w.heap.size ≤ gb102 from (by rw [hg]; exact (below_size Z118.z4))); have GE102 := Z118.k (show w.heap.size ≤ gb102 from (by rw [hg]; exact (below_size Z118.z4))); have NB101_102 := Z118.k (show gb101 ≠ gb102 from (by rw [hg]; exact Nat.ne_of_lt (Z118.bl BK101 Z118.z1))); have NB102_101 := Z118.k (show gb102 ≠ gb101 from (by rw [hg]; exact Nat.ne_of_gt (Z118.bl BK101 Z118.z1))); replace BK101 := Z118.k (Z118.bb BK101 Z118.z1 hb); replace HB := Z118.k (below_step Z118.z4 hb); clear hb hbox hg; have hnb7 := NB102_101.out; have hnc7 := NB101_102.out; obtain ⟨hcz8_0, hcz8_1, hcz8_2, hcz8_3, hfz8_0, hfz8_1, hfz8_2, hfz8_3⟩ := cells4 BK102.out))
 go_loopg [17] k (fun kq v17 w' => ∃ (x17_1 : Int) (x103003_1 : List Int) (u103003 : Value), v17 = .int .i64 x17_1 ∧ Aside0 (impl_filled.l0 cf_ kq a2 a1 x17_1 a0 a1 a2 x103003_1 = some (r1, r2, r3, r4)) ∧ Aside0 (kq ≤ k) ∧ Aside0 (Kd.R (Kd.int .i64) 2 w' w.heap.size (fun _ => True) u103003 x103003_1) ∧ Aside0 (w'.heap[gb101]? = some (.cells #[.int .i64 0, .int .i64 0, .int .i64 0, (.slice none 0 0)] 28 (0, 0))) ∧ Aside0 (w'.heap[gb102]? = some (.cells #[.int .i64 a0, .int .i64 a1, .int .i64 a2, u103003] 28 (0, 0))) ∧ Aside0 (Below w.heap.size w w'))
 case atStart => exact ⟨(0), (([] : List Int)), (.slice none 0 0), (by first | rfl | (simp; done) | (simp [*]; done)), H', ⟨Nat.le_refl _⟩, ⟨(by first | exact Kd.R_nil _ _ _ _ _ | exact Kd.N_nil _ _ _ _ _ | exact Kd.V_nil _ _ _ _ _ | exact Kd.Q_nil _ _ _ _ _ | exact Kd.S_nil _ _ _ _ _)⟩, ⟨Z118.z8⟩, ⟨(by (with_reducible repeat (first | refine blk_drewN ?_ _ | refine blk_drew ?_ | refine blk_alloc ?_ _)); refine blk_put (cs := #[.int .i64 a0, .int .i64 a1, .int .i64 a2, .slice none 0 0]) ?_ 3 _ rfl; (with_reducible repeat (first | refine blk_drewN ?_ _ | refine blk_drew ?_ | refine blk_alloc ?_ _)); refine blk_put (cs := #[.int .i64 a0, .int .i64 a1, .int .i64 0, .slice none 0 0]) ?_ 2 _ rfl; (with_reducible repeat (first | refine blk_drewN ?_ _ | refine blk_drew ?_ | refine blk_alloc ?_ _)); refine blk_put (cs := #[.int .i64 a0, .int .i64 0, .int .i64 0, .slice none 0 0]) ?_ 1 _ rfl; (with_reducible repeat (first | refine blk_drewN ?_ _ | refine blk_drew ?_ | refine blk_alloc ?_ _)); refine blk_put (cs := #[.int .i64 0, .int .i64 0, .int .i64 0, .slice none 0 0]) ?_ 0 _ rfl; (with_reducible repeat (first | refine blk_drewN ?_ _ | refine blk_drew ?_ | refine blk_alloc ?_ _)); exact BK102.out)⟩, ⟨Z118.z0⟩⟩
 case round =>
  clear H'
  try clear c1
  try clear p2
  try clear c7
  try clear hcz8_0
  try clear hcz8_1
  try clear hcz8_2
  try clear hcz8_3
  try clear hfz8_0
  try clear hfz8_1
  try clear hfz8_2
  try clear hfz8_3
  obtain ⟨x17_1, x103003_1, u103003, rfl, HA, HK1, HO_103003, BK101, BK102, HB⟩ := hrel
  cases gk with
  | zero => exact absurd HA.out (by simp [impl_filled.l0])
  | succ k1 =>
   have H := HA.out
   clear HA
   simp only [impl_filled.l0] at H
   by_cases c9 : x17_1 < a1
   ·rw [if_pos c9] at H
    have c9b0 : decide (x17_1 < a1) = true := decide_eq_true c9
    clear c9
    have H' := Z118.k H
    clear H
    go_wp2
    go_loopg [21] k1 (fun kq v21 w' => ∃ (x21_2 : Int) (x103003_2 : List Int) (u103003 : Value), v21 = .int .i64 x21_2 ∧ Aside0 (impl_filled.l1 cf_ kq a2 x17_1 a1 x17_1 a2 x21_2 a0 a1 a2 x103003_2 = some (r1, r2, r3, r4)) ∧ Aside0 (kq ≤ k1) ∧ Aside0 (Kd.R (Kd.int .i64) 2 w' w.heap.size (fun _ => True) u103003 x103003_2) ∧ Aside0 (w'.heap[gb101]? = some (.cells #[.int .i64 0, .int .i64 0, .int .i64 0, (.slice none 0 0)] 28 (0, 0))) ∧ Aside0 (w'.heap[gb102]? = some (.cells #[.int .i64 a0, .int .i64 a1, .int .i64 a2, u103003] 28 (0, 0))) ∧ Aside0 (Below w.heap.size w w'))
    case atStart => exact ⟨(0), (x103003_1), (u103003), (by first | rfl | (simp; done) | (simp [*]; done)), H', ⟨Nat.le_refl _⟩, ⟨Z118.z5⟩, ⟨Z118.z1⟩, ⟨Z118.z3⟩, ⟨Z118.z0⟩⟩
    case round =>
     clear H'
     try clear c1
     try clear p2
     try clear c7
     try clear c9
     try clear c9b0
     try clear hcz8_0
     try clear hcz8_1
     try clear hcz8_2
     try clear hcz8_3
     try clear hfz8_0
     try clear hfz8_1
     try clear hfz8_2
     try clear hfz8_3
     try clear p2
     obtain ⟨x21_2, x103003_2, u103003, rfl, HA, HK2, HO_103003, BK101, BK102, HB⟩ := hrel
     cases gk with
     | zero => exact absurd HA.out (by simp [impl_filled.l1])
     | succ k2 =>
      have H := HA.out
      clear HA; simp only [impl_filled.l1] at H
      by_cases c10 : x21_2 < a2
      ·rw [if_pos c10] at H
       have c10b0 : decide (x21_2 < a2) = true := decide_eq_true c10; clear c10; replace H := Option.bind_eq_some_iff.mp H; obtain ⟨t103, A110, H⟩ := H; replace H : (if x103003_2.length < 17592186044416 then (impl_filled.l1 cf_ k2 a2 x17_1 a1 x17_1 a2 (wrap64 (x21_2 + 1)) a0 a1 a2 (x103003_2 ++ [t103])) else (none)) = some (r1, r2, r3, r4) := H; have A11 := Z118.k A110; clear A110
       by_cases c12 : x103003_2.length < 17592186044416
       ·rw [if_pos c12] at H
        have LMc12 := Z118.k c12; clear c12; obtain ⟨y104, hy104⟩ : ∃ y_ : List Int, y_ = (x103003_2 ++ [t103]) := ⟨_, rfl⟩; replace H : (impl_filled.l1 cf_ k2 a2 x17_1 a1 x17_1 a2 (wrap64 (x21_2 + 1)) a0 a1 a2 y104) = some (r1, r2, r3, r4) := by first | (rw [hy104]; with_reducible exact H) | (have H2_ := (Option.bind_some _ _).symm.trans H; rw [hy104]; with_reducible exact H2_) | (have H2_ := (Option.bind_some _ _).symm.trans H; with_reducible exact H2_) | with_reducible exact H | (rw [hy104]; exact H) | exact H
        have Ny104 := Z118.k hy104; clear hy104; have H' := Z118.k H; clear H
        try go_wp2
        replace HO_103003 := Z118.k (Kd.R_drew HO_103003.out); replace BK101 := Z118.k (blk_drew BK101.out); replace BK102 := Z118.k (blk_drew BK102.out); replace HB := Z118.k (below_drew1 HB.out); refine start_ (n := 10) (S := fun w' => w'.cell? ⟨gb102, 0, none⟩ = some (.int .i64 a0) ∧ w'.cell? ⟨gb102, 1, none⟩ = some (.int .i64 a1) ∧ w'.cell? ⟨gb102, 2, none⟩ = some (.int .i64 a2) ∧ w'.cell? ⟨gb102, 3, none⟩ = some (u103003)) (ds := [9]) #[false, false, false, false, false, false, false, false, false, false] (by kernel_rfl) rfl rfl Z118.z6 (fun hHeld => ?_); refine with_tabW impl_filled.tab8 impl_filled.bits8 (fun HT_ HW_ => ?_); generalize wr.drew = w13 at HO_103003 BK101 BK102 HB hHeld ⊢
        refine Z118.pP 0 24 (Z118.b 10 1) (any_of HT_.out (by kernel_rfl)) ?_; refine Z118.pP 2 26 (Z118.b 10 5) (any_of HT_.out (by kernel_rfl)) ?_; refine Z118.pP 3 27 (Z118.b 10 13) (any_of HT_.out (by kernel_rfl)) ?_; refine Z118.pP 4 28 (Z118.b 10 29) (any_of HT_.out (by kernel_rfl)) ?_; refine Z118.pT4 1 25 (Z118.b 10 31) (take_ofW HT_.out HW_.out (by kernel_rfl)) hHeld ?_; refine one_ (i := 5) (N := some 29) (Z118.b 10 63) rfl rfl (one_of HT_.out (by kernel_rfl)) (by decide) (fun K hK => ?_); refine goesV_ g_ lb_ eg_ #[.int .i64 x17_1, .int .i64 x21_2] (by rfl) rfl rfl rfl (by (try simp only [List.map_toArray, List.map_cons, List.map_nil]); first | done | rfl | (simp only [List.length_drop, List.length_take]; rfl)) ?_
        with_reducible refine (HP_.out _ x17_1 x21_2 t103 Z118.z0 A11.out).mono ?_
        rintro e w14 ⟨rfl, hb⟩
        refine ⟨_, rfl, ?_⟩; replace HO_103003 := Z118.k (Kd.R_below Z118.z5 hb); replace BK101 := Z118.k (Z118.bb BK101 Z118.z1 hb); replace BK102 := Z118.k (Z118.bb BK102 Z118.z3 hb); replace HB := Z118.k (below_step Z118.z0 hb); (try clear hb); (try clear hb2); (try clear hk); (try clear hi); refine hK.out _ _ Z118.z6 (fun hHeld => ?_); clear hK K; refine norm_ (a' := ?_) ?_ ?_
        rotate_left
        ·show Act.put _ (some 29) _ = _
         simp only [Act.put, List.setIfInBounds_toArray, List.set_cons_zero, List.set_cons_succ, i64_w, i32_w]
         rfl
        refine one_ (i := 6) (N := some 30) (Z118.b 10 127) rfl rfl (one_of HT_.out (by kernel_rfl)) (by decide) (fun K hK => ?_); refine value_ (w1 := ?_) (v := ?_) (by rfl) rfl ?_ ?_
        rotate_left 2
        ·go_simp
         constructor
         ·rfl
         rfl
        refine hK.out _ _ ⟨(blk_cell (blk_alloc BK102.out _) 0).trans rfl, (blk_cell (blk_alloc BK102.out _) 1).trans rfl, (blk_cell (blk_alloc BK102.out _) 2).trans rfl, (blk_cell (blk_alloc BK102.out _) 3).trans rfl⟩ (fun hHeld => ?_); clear hK K; refine norm_ (a' := ?_) ?_ ?_
        rotate_left
        ·show Act.put _ (some 30) _ = _
         simp only [Act.put, List.setIfInBounds_toArray, List.set_cons_zero, List.set_cons_succ, i64_w, i32_w]
         rfl
        refine one_ (i := 7) (N := some 31) (Z118.b 10 255) rfl rfl (one_of HT_.out (by kernel_rfl)) (by decide) (fun K hK => ?_); refine Kd.R_append_step (Kd.int .i64) (w0 := w) w.heap.size (by rfl) (.tmp 25) (.tmp 30) 22 2 (.int .i64 0) 8 rfl Try.underlying22 info2 rfl (by decide) (by omega) u103003 x103003_2 t103 [.int .i64 t103] (fun _ => True) (fun _ => False) rfl rfl ?aP (fun _ hk => hk.elim) ?aF ?aO ?aB ?aS ?aL ?_
        (case aP => exact rfl)
        (case aB => exact Z118.z0)
        (case aF => exact (fun _ _ => trivial))
        (case aO => exact Z118.z5)
        (case aS => exact (below_size Z118.z0))
        (case aL => have := LMc12.out; omega)
        intro v105 w15 ho hb hg hat
        rw [← Ny104.out] at ho; have n0_ := Z118.k (blk_grown (g := gb101) (o := .cells #[.int .i64 0, .int .i64 0, .int .i64 0, .slice none 0 0] 28 (0, 0)) Z118.z1 hg (Kd.R_ne HO_103003.out BK101.out (by decide))); have n1_ := Z118.k (blk_grown (g := gb102) (o := .cells #[.int .i64 a0, .int .i64 a1, .int .i64 a2, u103003] 28 (0, 0)) Z118.z3 hg (Kd.R_ne HO_103003.out BK102.out (by decide))); have n2_ := Z118.k (hb); have n3_ := Z118.k (ho); clear BK101 BK102 HB HO_103003; have BK101 := n0_; have BK102 := n1_; have HB := n2_; have HO106 := n3_; clear n0_ n1_ n2_ n3_ ho hb hg hat; obtain ⟨Ao16, co16, eo16⟩ := Kd.R_slice HO106.out
        (first | subst eo16 | (injection eo16 with f1_ f2_ f3_; have f4_ := f1_.symm; have f5_ := f3_.symm; clear f1_ f2_ f3_; subst f4_; subst f5_))
        refine hK.out _ _ Z118.z6 (fun hHeld => ?_); clear hK K; refine norm_ (a' := ?_) ?_ ?_
        rotate_left
        ·show Act.put _ (some 31) _ = _
         simp only [Act.put, List.setIfInBounds_toArray, List.set_cons_zero, List.set_cons_succ, i64_w, i32_w]
         rfl
        refine Z118.pP 8 32 (Z118.b 10 511) (any_of HT_.out (by kernel_rfl)) ?_; refine last_ (i := 9) (N := none) (Z118.b 10 1023) rfl rfl (one_of HT_.out (by kernel_rfl)) (by decide) (fun K hK => ?_); have hs17 : w15.cell? ⟨gb102, 3, none⟩ = some (u103003) := (blk_cell BK102.out 3).trans rfl; have hfs17 := blk_frozen BK102.out 3; have hns17_0 := NB101_102.out; have hms17_0 := NB102_101.out; refine skip_ (w1 := ?_) (by rfl) rfl ?_ ?_
        rotate_left
        ·go_simp
         rfl
        refine hK.out _ _ ?_; clear hK K; refine done_ (done_of HT_.out (by kernel_rfl)) ?_
        try go_wp2
        go_roundg k2
        case measure => have := HK1.out; have := HK2.out; omega
        case rel => exact ⟨(wrap64 (x21_2 + 1)), (y104), (.slice Ao16 y104.length co16), (by first | rfl | (simp; done) | (simp [*]; done)), H', ⟨(by have := HK1.out; have := HK2.out; omega)⟩, ⟨(by (with_reducible repeat (first | apply Kd.R_alloc | apply Kd.R_drewN | apply Kd.R_drew)); exact Kd.R_mono (Kd.R_far (p := ⟨gb102, 3, none⟩) (Kd.R_types HO106.out BK102.out (by decide)) (fun _ hk => hk.2) (.slice Ao16 y104.length co16)) (fun _ hk => trivial))⟩, ⟨Z118.z8⟩, ⟨(by (with_reducible repeat (first | refine blk_drewN ?_ _ | refine blk_drew ?_ | refine blk_alloc ?_ _)); refine blk_put (cs := #[.int .i64 a0, .int .i64 a1, .int .i64 a2, u103003]) ?_ 3 _ rfl; (with_reducible repeat (first | refine blk_drewN ?_ _ | refine blk_drew ?_ | refine blk_alloc ?_ _)); exact BK102.out)⟩, ⟨Z118.z0⟩⟩
       rw [if_neg c12] at H; exact absurd H (by simp)
      rw [if_neg c10] at H; have c10b0 : decide (x21_2 < a2) = false := decide_eq_false c10; clear c10; have H' := Z118.k H; clear H
      go_wp2
      go_roundg k2
      case measure => have := HK1.out; have := HK2.out; omega
      case rel => exact ⟨(wrap64 (x17_1 + 1)), (x103003_2), (u103003), (by first | rfl | (simp; done) | (simp [*]; done)), H', ⟨(by have := HK1.out; have := HK2.out; omega)⟩, ⟨Z118.z5⟩, ⟨Z118.z1⟩, ⟨Z118.z3⟩, ⟨Z118.z0⟩⟩
   rw [if_neg c9] at H
   have c9b0 : decide (x17_1 < a1) = false := decide_eq_false c9
   clear c9
   simp only [Option.some.injEq, Prod.mk.injEq] at H
   obtain ⟨rfl, rfl, rfl, rfl⟩ := H
   have hnb18 := NB102_101.out
   have hnc18 := NB101_102.out
   obtain ⟨hcz19_0, hcz19_1, hcz19_2, hcz19_3, hfz19_0, hfz19_1, hfz19_2, hfz19_3⟩ := cells4 BK102.out
   obtain ⟨hcz20_0, hcz20_1, hcz20_2, hcz20_3, hfz20_0, hfz20_1, hfz20_2, hfz20_3⟩ := cells4 BK101.out
   obtain ⟨Ao21, co21, eo21⟩ := Kd.R_slice HO_103003.out
   subst eo21
   go_wp2
   refine bodyPost_ret (results_cell_row rfl _ _ gb101 28 #[.int .i64 a0, .int .i64 a1, .int .i64 a2, .slice Ao21 x103003_1.length co21] (0, 0) _ rfl (by (with_reducible repeat (first | refine blk_drewN ?_ _ | refine blk_drew ?_ | refine blk_alloc ?_ _)); refine blk_put (cs := #[.int .i64 a0, .int .i64 a1, .int .i64 a2, .slice none 0 0]) ?_ 3 _ rfl; (with_reducible repeat (first | refine blk_drewN ?_ _ | refine blk_drew ?_ | refine blk_alloc ?_ _)); refine blk_put (cs := #[.int .i64 a0, .int .i64 a1, .int .i64 0, .slice none 0 0]) ?_ 2 _ rfl; (with_reducible repeat (first | refine blk_drewN ?_ _ | refine blk_drew ?_ | refine blk_alloc ?_ _)); refine blk_put (cs := #[.int .i64 a0, .int .i64 0, .int .i64 0, .slice none 0 0]) ?_ 1 _ rfl; (with_reducible repeat (first | refine blk_drewN ?_ _ | refine blk_drew ?_ | refine blk_alloc ?_ _)); refine blk_put (cs := #[.int .i64 0, .int .i64 0, .int .i64 0, .slice none 0 0]) ?_ 0 _ rfl; (with_reducible repeat (first | refine blk_drewN ?_ _ | refine blk_drew ?_ | refine blk_alloc ?_ _)); exact BK101.out) Try.underlying28 rfl (by kernel_rfl)) rfl ?_
   exact ⟨_, (by first | rfl | (simp [errW_none, errW_some] <;> rfl) | (simp [*, errW_none, errW_some] <;> rfl)), (by (with_reducible repeat (first | apply Kd.R_alloc | apply Kd.R_drewN | apply Kd.R_drew)); exact Kd.R_mono (Kd.R_far (p := ⟨gb101, 3, none⟩) (Kd.R_far (p := ⟨gb101, 2, none⟩) (Kd.R_far (p := ⟨gb101, 1, none⟩) (Kd.R_far (p := ⟨gb101, 0, none⟩) (Kd.R_types HO_103003.out BK101.out (by decide)) (fun _ hk => hk.2) (.int .i64 a0)) (fun _ hk => hk.2) (.int .i64 a1)) (fun _ hk => hk.2) (.int .i64 a2)) (fun _ hk => hk.2) (.slice Ao21 x103003_1.length co21)) (fun _ hk => trivial)), Z118.z0⟩
/-! ### impl_Matrix_at: function 120 -/
def impl_Matrix_at.f (a0_0 : Int) (a0_1 : Int) (a0_2 : Int) (l0_3 : List Int) (a1 : Int) (a2 : Int) : Option (Int) := if 0 ≤ (wrap64 ((wrap64 (a1 * a0_2)) + a2)) then (if (wrap64 ((wrap64 (a1 * a0_2)) + a2)) < (l0_3.length : Int) then (some (rd l0_3 (wrap64 ((wrap64 (a1 * a0_2)) + a2)))) else (none)) else (none)
theorem Z120.z0 {P : Prop} (h : P := by repeat (first | (with_reducible first | exact HB.out | apply below_alloc | apply pw_below_drewN | apply below_drew1) | exact HB.out)) : P := h
set_option maxHeartbeats 8000000 in
set_option maxRecDepth 100000 in
theorem impl_Matrix_at.calls (a0_0 : Int) (a0_1 : Int) (a0_2 : Int) (A0_3 : Option Addr) (c0_3 : Nat) (l0_3 : List Int) (a1 : Int) (a2 : Int) (r : Int) (w : World) (hr0_3 : Kd.C (Kd.int .i64) w A0_3 l0_3.length l0_3) (hc0_3 : l0_3.length ≤ c0_3) (h : impl_Matrix_at.f a0_0 a0_1 a0_2 l0_3 a1 a2 = some r) :
  Calls Try.prog 120 #[.agg #[.int .i64 a0_0, .int .i64 a0_1, .int .i64 a0_2, .slice A0_3 l0_3.length c0_3], .int .i64 a1, .int .i64 a2] w fun e w' => e = .returned (.int .i64 r) ∧ Below w.heap.size w w' := by
 have hu28 := Try.underlying28
 have HR0_3 := Aside0.mk hr0_3
 have HC0_3 := Aside0.mk hc0_3
 clear hr0_3 hc0_3
 have HB := Aside0.mk (Below.refl w.heap.size w)
 have H : (if 0 ≤ (wrap64 ((wrap64 (a1 * a0_2)) + a2)) then (if (wrap64 ((wrap64 (a1 * a0_2)) + a2)) < (l0_3.length : Int) then (some (rd l0_3 (wrap64 ((wrap64 (a1 * a0_2)) + a2)))) else (none)) else (none)) = some r := h
 clear h
 obtain ⟨ji4, hji4⟩ : ∃ j_ : Int, (wrap64 ((wrap64 (a1 * a0_2)) + a2)) = j_ := ⟨_, rfl⟩
 replace H : (if 0 ≤ (ji4) then (if (ji4) < (l0_3.length : Int) then (some (rd l0_3 (ji4))) else (none)) else (none)) = some r := by first | (rw [hji4] at H; exact H) | (simp only [hji4] at H ⊢; exact H)
 have hji4w : (IntKind.i64.wrap ((wrap64 (a1 * a0_2)) + a2)) = ji4 := (i64_w _).trans hji4
 by_cases c5 : 0 ≤ (ji4)
 ·rw [if_pos c5] at H
  have c5b0 : decide (0 ≤ (ji4)) = true := decide_eq_true c5
  clear c5
  by_cases c6 : (ji4) < (l0_3.length : Int)
  ·rw [if_pos c6] at H
   have c6b0 : decide ((ji4) < (l0_3.length : Int)) = true := decide_eq_true c6
   clear c6
   obtain rfl := Option.some.inj H
   go_enter Try.func120, Try.ntmps120
   go_wp2_with (first | ((with_reducible refine gate_dst (N := 3) rfl ?_); refine box_event ?hg (N := 3) ?hd (cs := #[.int .i64 a0_0, .int .i64 a0_1, .int .i64 a0_2, .slice A0_3 l0_3.length c0_3]) (t := 28) ?hr ?_; (case hd => rfl); (case hg => rfl); (case hr => first | (go_simp; done) | (go_simp; rfl)); intro gb101 hg w7 hbox hb; have BK101 := Aside0.mk (hbox); have GW101 := Aside0.mk (show w.heap.size ≤ gb101 from (by rw [hg]; exact (below_size Z120.z0))); have GE101 := Aside0.mk (show w.heap.size ≤ gb101 from (by rw [hg]; exact (below_size Z120.z0))); replace HB := Aside0.mk (below_step Z120.z0 hb); clear hb hbox hg; obtain ⟨hcz8_0, hcz8_1, hcz8_2, hcz8_3, hfz8_0, hfz8_1, hfz8_2, hfz8_3⟩ := cells4 BK101.out; have p102 : 0 ≤ ((ji4) : Int) := of_decide_eq_true (by first | (with_reducible assumption) | assumption); have q102 : (ji4) < (l0_3.length : Int) := of_decide_eq_true (by first | (with_reducible assumption) | assumption); obtain ⟨ad102, e102, hx102_0⟩ := Kd.at_int HR0_3.out (ji4) p102 q102; cases e102; replace hx102_0 := (HB.out.cell (World.block_lt_of_cell? w _ hx102_0)).trans hx102_0; replace p102 := eq_true p102; replace q102 := eq_true q102))
   go_ret
   exact ⟨(by first | rfl | (simp [errW_none, errW_some] <;> rfl) | (simp only [← hji4]; first | rfl | (simp [errW_none, errW_some] <;> rfl)) | (simp [*, errW_none, errW_some] <;> rfl)), (by repeat (first | (with_reducible first | exact HB.out | apply below_alloc | apply pw_below_drewN | apply below_drew1 | refine below_set ?_ GE101.out) | exact HB.out))⟩
  rw [if_neg c6] at H
  exact absurd H (by simp)
 rw [if_neg c5] at H
 exact absurd H (by simp)
/-! ### impl_transpose_1: function 119: ours -/
def impl_transpose_1.cell (p r c : Int) (l : List Int) : Cell2 := ⟨fun i j => impl_Matrix_at.f p r c l j i⟩
set_option maxHeartbeats 4000000 in
set_option maxRecDepth 100000 in
theorem impl_transpose_1.cells (gb : Nat) (p r c : Int) (A : Option Addr) (cap : Nat) (l : List Int) (w : World) (hb : w.heap[gb]? = some (.cells #[.int .i64 p, .int .i64 r, .int .i64 c, .slice A l.length cap] 28 (0, 0))) (hr : Kd.C (Kd.int .i64) w A l.length l) (hc : l.length ≤ cap) :
    ∀ (W : World) (i j v : Int), Below w.heap.size w W → (impl_transpose_1.cell p r c l).f i j = some v → Calls Try.prog 119 (#[.int .i64 i, .int .i64 j] ++ #[.pointer (some ⟨gb, 0, none⟩)]) W fun e w' => e = .returned (.int .i64 v) ∧ Below W.heap.size W w' := by
  intro W i j v hB h
  have BK := Aside0.mk (blk_below hb hB)
  have HC := Aside0.mk (Kd.C_below hr hB)
  have H : impl_Matrix_at.f p r c l j i = some v := h
  have HH := Aside0.mk H
  have HL := Aside0.mk hc
  clear h H hb hr hB hc
  have hcz_0 : W.cell? ⟨gb, 0, none⟩ = some (.int .i64 p) := (blk_cell BK.out 0).trans rfl
  have hcz_1 : W.cell? ⟨gb, 1, none⟩ = some (.int .i64 r) := (blk_cell BK.out 1).trans rfl
  have hcz_2 : W.cell? ⟨gb, 2, none⟩ = some (.int .i64 c) := (blk_cell BK.out 2).trans rfl
  have hcz_3 : W.cell? ⟨gb, 3, none⟩ = some (.slice A l.length cap) := (blk_cell BK.out 3).trans rfl
  go_enter Try.func119, Try.ntmps119
  go_wp2_with (go_at_call 120; refine (impl_Matrix_at.calls p r c A cap l j i v _ HC.out HL.out HH.out).mono ?_; rintro e w' ⟨rfl, hb⟩)
  go_ret
  exact ⟨rfl, hb⟩
/-! ### impl_transpose: function 107 -/
def impl_transpose.f (k : Nat) (a0_0 : Int) (a0_1 : Int) (a0_2 : Int) (l0_3 : List Int) : Option (Int × Int × Int × List Int) := (impl_filled.f (impl_transpose_1.cell a0_0 a0_1 a0_2 l0_3) k a0_0 a0_2 a0_1 0).bind fun bt103 => (some (bt103.1, bt103.2.1, bt103.2.2.1, bt103.2.2.2))
theorem Z107.bb {w0 w w1 : World} {g : Nat} {o : Obj} (_B : Aside0 (w0.heap[g]? = some o)) (h : w.heap[g]? = some o) (hb : Below w.heap.size w w1) : w1.heap[g]? = some o := blk_below h hb
theorem Z107.bl {w0 w : World} {g : Nat} {o : Obj} (_B : Aside0 (w0.heap[g]? = some o)) (h : w.heap[g]? = some o) : g < w.heap.size := blk_lt h
theorem Z107.z3 {P : Prop} (h : P := by repeat (first | (with_reducible first | exact HB.out | apply below_alloc | apply pw_below_drewN | apply below_drew1) | exact HB.out)) : P := h
theorem Z107.z2 {P : Prop} (h : P := by repeat (first | (with_reducible first | exact HB.out | apply below_alloc | apply pw_below_drewN | apply below_drew1 | refine below_set ?_ GE101.out) | exact HB.out)) : P := h
theorem Z107.z1 {P : Prop} (h : P := by (with_reducible repeat (first | refine blk_drewN ?_ _ | refine blk_drew ?_ | refine blk_alloc ?_ _)); exact BK101.out) : P := h
theorem Z107.z0 {P : Prop} (h : P := by repeat (first | (with_reducible first | exact HB.out | apply below_alloc | apply pw_below_drewN | apply below_drew1 | refine below_set ?_ GE101.out | refine below_set ?_ GE102.out) | exact HB.out)) : P := h
set_option maxHeartbeats 8000000 in
set_option maxRecDepth 100000 in
theorem impl_transpose.calls (k : Nat) (a0_0 : Int) (a0_1 : Int) (a0_2 : Int) (A0_3 : Option Addr) (c0_3 : Nat) (l0_3 : List Int) (r1 : Int) (r2 : Int) (r3 : Int) (r4 : List Int) (w : World) (hr0_3 : Kd.C (Kd.int .i64) w A0_3 l0_3.length l0_3) (hc0_3 : l0_3.length ≤ c0_3) (h : impl_transpose.f k a0_0 a0_1 a0_2 l0_3 = some (r1, r2, r3, r4)) :
  Calls Try.prog 107 #[.agg #[.int .i64 a0_0, .int .i64 a0_1, .int .i64 a0_2, .slice A0_3 l0_3.length c0_3]] w fun e w' => ∃ v3_ : Value, e = .returned (.agg #[.int .i64 r1, .int .i64 r2, .int .i64 r3, v3_]) ∧ Kd.R (Kd.int .i64) 2 w' w.heap.size (fun _ => True) v3_ r4 ∧ Below w.heap.size w w' := by
 have hu28 := Try.underlying28
 have HR0_3 := Aside0.mk hr0_3
 have HC0_3 := Aside0.mk hc0_3
 clear hr0_3 hc0_3
 have HB := Aside0.mk (Below.refl w.heap.size w)
 have H : ((impl_filled.f (impl_transpose_1.cell a0_0 a0_1 a0_2 l0_3) k a0_0 a0_2 a0_1 0).bind fun bt103 => (some (bt103.1, bt103.2.1, bt103.2.2.1, bt103.2.2.2))) = some (r1, r2, r3, r4) := h
 clear h
 replace H := Option.bind_eq_some_iff.mp H
 obtain ⟨⟨t103, t104, t105, t106⟩, A20, H⟩ := H
 replace H : (some (t103, t104, t105, t106)) = some (r1, r2, r3, r4) := H
 have A2 := Aside0.mk A20
 clear A20
 simp only [Option.some.injEq, Prod.mk.injEq] at H
 obtain ⟨rfl, rfl, rfl, rfl⟩ := H
 go_enter Try.func107, Try.ntmps107
 go_wp2_with (first | ((with_reducible refine gate_dst (N := 1) rfl ?_); refine box_event ?hg (N := 1) ?hd (cs := #[.int .i64 a0_0, .int .i64 a0_1, .int .i64 a0_2, .slice A0_3 l0_3.length c0_3]) (t := 28) ?hr ?_; (case hd => rfl); (case hg => rfl); (case hr => first | (go_simp; done) | (go_simp; rfl)); intro gb101 hg w3 hbox hb; have BK101 := Aside0.mk (hbox); have GW101 := Aside0.mk (show w.heap.size ≤ gb101 from (by rw [hg]; exact (below_size Z107.z3))); have GE101 := Aside0.mk (show w.heap.size ≤ gb101 from (by rw [hg]; exact (below_size Z107.z3))); replace HB := Aside0.mk (below_step Z107.z3 hb); clear hb hbox hg) | ((with_reducible refine gate_dst (N := 2) rfl ?_); refine box_event ?hg (N := 2) ?hd (cs := #[.int .i64 0, .int .i64 0, .int .i64 0, .slice none 0 0]) (t := 28) ?hr ?_; (case hd => rfl); (case hg => rfl); (case hr => first | (go_simp; done) | (go_simp; rfl)); intro gb102 hg w4 hbox hb; have BK102 := Aside0.mk (hbox); have GW102 := Aside0.mk (show w.heap.size ≤ gb102 from (by rw [hg]; exact (below_size Z107.z2))); have GE102 := Aside0.mk (show w.heap.size ≤ gb102 from (by rw [hg]; exact (below_size Z107.z2))); have NB101_102 := Aside0.mk (show gb101 ≠ gb102 from (by rw [hg]; exact Nat.ne_of_lt (Z107.bl BK101 Z107.z1))); have NB102_101 := Aside0.mk (show gb102 ≠ gb101 from (by rw [hg]; exact Nat.ne_of_gt (Z107.bl BK101 Z107.z1))); replace BK101 := Aside0.mk (Z107.bb BK101 Z107.z1 hb); replace HB := Aside0.mk (below_step Z107.z2 hb); clear hb hbox hg; have hnb5 := NB101_102.out; have hnc5 := NB102_101.out; obtain ⟨hcz6_0, hcz6_1, hcz6_2, hcz6_3, hfz6_0, hfz6_1, hfz6_2, hfz6_3⟩ := cells4 BK101.out) | ((with_reducible refine gate_callee (f := 118) rfl ?_); refine goesL_ (some 10) rfl rfl Try.func118 (by kernel_rfl) rfl #[.int .i64 a0_0, .int .i64 a0_2, .int .i64 a0_1, .func (.func 119) #[] #[.pointer (some ⟨gb101, 0, none⟩)]] rfl (by (try simp only [List.map_toArray, List.map_cons, List.map_nil]); first | done | rfl | (simp only [List.length_drop, List.length_take]; rfl)) ?_; (refine (impl_filled.calls (impl_transpose_1.cell a0_0 a0_1 a0_2 l0_3) 119 #[.pointer (some ⟨gb101, 0, none⟩)] (enters_of Try.func119 (by kernel_rfl) rfl) k a0_0 a0_2 a0_1 0 t103 t104 t105 t106 _ (impl_transpose_1.cells gb101 a0_0 a0_1 a0_2 A0_3 c0_3 l0_3 _ BK101.out (Kd.C_below HR0_3.out HB.out) HC0_3.out) A2.out).mono ?_); rintro e w7 ⟨v107, rfl, ho0, hb⟩; refine ⟨_, rfl, ?_⟩; have HO108 := Aside0.mk (Kd.R_lower ho0 (below_size Z107.z0)); replace BK101 := Aside0.mk (Z107.bb BK101 Z107.z1 hb); replace BK102 := Aside0.mk (Z107.bb BK102 (by (with_reducible repeat (first | refine blk_drewN ?_ _ | refine blk_drew ?_ | refine blk_alloc ?_ _)); exact BK102.out) hb); replace HB := Aside0.mk (below_step Z107.z0 hb); (try clear hb); (try clear hb2); (try clear hk); (try clear hi); (try clear ho0); obtain ⟨hcz8_0, hcz8_1, hcz8_2, hcz8_3, hfz8_0, hfz8_1, hfz8_2, hfz8_3⟩ := cells4 BK102.out; obtain ⟨Ao9, co9, eo9⟩ := Kd.R_slice HO108.out; subst eo9))
 refine bodyPost_ret (results_cell_row rfl _ _ gb102 28 #[.int .i64 t103, .int .i64 t104, .int .i64 t105, .slice Ao9 t106.length co9] (0, 0) _ rfl (by (with_reducible repeat (first | refine blk_drewN ?_ _ | refine blk_drew ?_ | refine blk_alloc ?_ _)); refine blk_put (cs := #[.int .i64 t103, .int .i64 t104, .int .i64 t105, .slice none 0 0]) ?_ 3 _ rfl; (with_reducible repeat (first | refine blk_drewN ?_ _ | refine blk_drew ?_ | refine blk_alloc ?_ _)); refine blk_put (cs := #[.int .i64 t103, .int .i64 t104, .int .i64 0, .slice none 0 0]) ?_ 2 _ rfl; (with_reducible repeat (first | refine blk_drewN ?_ _ | refine blk_drew ?_ | refine blk_alloc ?_ _)); refine blk_put (cs := #[.int .i64 t103, .int .i64 0, .int .i64 0, .slice none 0 0]) ?_ 1 _ rfl; (with_reducible repeat (first | refine blk_drewN ?_ _ | refine blk_drew ?_ | refine blk_alloc ?_ _)); refine blk_put (cs := #[.int .i64 0, .int .i64 0, .int .i64 0, .slice none 0 0]) ?_ 0 _ rfl; (with_reducible repeat (first | refine blk_drewN ?_ _ | refine blk_drew ?_ | refine blk_alloc ?_ _)); exact BK102.out) Try.underlying28 rfl (by kernel_rfl)) rfl ?_
 exact ⟨_, (by first | rfl | (simp [errW_none, errW_some] <;> rfl) | (simp [*, errW_none, errW_some] <;> rfl)), (by (with_reducible repeat (first | apply Kd.R_alloc | apply Kd.R_drewN | apply Kd.R_drew)); exact Kd.R_mono (Kd.R_far (p := ⟨gb102, 3, none⟩) (Kd.R_far (p := ⟨gb102, 2, none⟩) (Kd.R_far (p := ⟨gb102, 1, none⟩) (Kd.R_far (p := ⟨gb102, 0, none⟩) (Kd.R_types HO108.out BK102.out (by decide)) (fun _ hk => hk.2) (.int .i64 t103)) (fun _ hk => hk.2) (.int .i64 t104)) (fun _ hk => hk.2) (.int .i64 t105)) (fun _ hk => hk.2) (.slice Ao9 t106.length co9)) (fun _ hk => trivial)), Z107.z0⟩
end Go.Proofs.Ytmbbjmkcbpefhaa.F
end
