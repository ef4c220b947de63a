-- Texts of this claim, merged by packw.py (a program of this session's).
import Derived.Test.YtoekjicknclooaaQFnExactInverseMatrix2
import Derived.Test.YtoekjicknclooaaQFnExactInverseMatrix5
import Derived.Test.YtoekjicknclooaaQFnExactInverseMatrix6
import Derived.Test.YtoekjicknclooaaQFnExactInverseMatrix8

section
namespace Go.Proofs.Ytoekjicknclooaa.F
open Go.RowKit Go.Proofs.YtoekjicknclooaaW.PrintWords Go.Proofs.YtoekjicknclooaaW.PrintLast Go.Proofs.YtoekjicknclooaaW.PrintMore
attribute [local go_sem] max2_int min2_int max_two min_two max_three min_three max_four min_four   -- for this text's walks alone
set_option linter.unusedVariables false
set_option linter.unusedSimpArgs false
/-! ### laws_heldInt64S: function 34 -/
def laws_heldInt64S.l0 : Nat → List Int → Int → Int → Option (Int)
  | 0, _, _, _ => none
  | k + 1, x0, x1, x5 => if x5 < (x0.length : Int) then (if 0 ≤ x5 then (if (rd x0 x5) = x1 then (laws_heldInt64S.l0 k x0 (wrap64 (x1 + 1)) (wrap64 (x5 + 1))) else (some (-1))) else (none)) else (some x1)
def laws_heldInt64S.f (k : Nat) (l0 : List Int) (a1 : Int) : Option (Int) := laws_heldInt64S.l0 k l0 a1 0
theorem Z34.z1 {P : Prop} (h : P := by repeat (first | exact Drawn0.refl _ | apply Drawn0.step)) : P := h
theorem Z34.z0 {P : Prop} (h : P := by first | rfl | (simp; done) | (simp [*]; done)) : P := h
set_option maxHeartbeats 8000000 in
set_option maxRecDepth 100000 in
theorem laws_heldInt64S.calls (k : Nat) (A0 : Option Addr) (c0 : Nat) (l0 : List Int) (a1 : Int) (r : Int) (w : World) (hr0 : Kd.C (Kd.int .i64) w A0 l0.length l0) (hc0 : l0.length ≤ c0) (h : laws_heldInt64S.f k l0 a1 = some r) :
  Calls Try.prog 34 #[.slice A0 l0.length c0, .int .i64 a1] w fun e w' => e = .returned (.int .i64 r) ∧ Drawn0 w w' := by
 have HR0 := Aside0.mk hr0
 have HC0 := Aside0.mk hc0
 clear hr0 hc0
 have H : (laws_heldInt64S.l0 k l0 a1 0) = some r := h
 clear h
 have H' := Aside0.mk H
 clear H
 go_enter Try.func34, Try.ntmps34
 go_wp2
 go_loopg [1, 5] k (fun kq v1 v5 w' => ∃ (x1_1 : Int) (x5_1 : Int), v1 = .int .i64 x1_1 ∧ v5 = .int .i64 x5_1 ∧ Aside0 (laws_heldInt64S.l0 kq l0 x1_1 x5_1 = some r) ∧ Aside0 (kq ≤ k) ∧ Drawn0 w w')
 case atStart => exact ⟨(a1), (0), Z34.z0, Z34.z0, H', ⟨Nat.le_refl _⟩, Z34.z1⟩
 case round =>
  clear H'
  try clear p2
  obtain ⟨x1_1, x5_1, rfl, rfl, HA, HK1, ⟨m1, rfl⟩⟩ := hrel
  cases gk with
  | zero => exact absurd HA.out (by simp [laws_heldInt64S.l0])
  | succ k1 =>
   have H := HA.out
   clear HA
   simp only [laws_heldInt64S.l0] at H
   by_cases c3 : x5_1 < (l0.length : Int)
   ·rw [if_pos c3] at H
    have c3b0 : decide (x5_1 < (l0.length : Int)) = true := decide_eq_true c3
    clear c3
    by_cases c4 : 0 ≤ x5_1
    ·rw [if_pos c4] at H
     have c4b0 : decide (0 ≤ x5_1) = true := decide_eq_true c4
     clear c4
     by_cases c5 : (rd l0 x5_1) = x1_1
     ·rw [if_pos c5] at H
      have c5b0 : ((rd l0 x5_1) == x1_1) = true := beq_iff_eq.mpr c5; have c5b1 : ((rd l0 x5_1) != x1_1) = false := bne_eq_false_iff_eq.mpr c5; clear c5; have H' := Aside0.mk H; clear H; have p101 : 0 ≤ (x5_1 : Int) := of_decide_eq_true (by first | (with_reducible assumption) | assumption); have q101 : x5_1 < (l0.length : Int) := of_decide_eq_true (by first | (with_reducible assumption) | assumption); obtain ⟨ad101, e101, hx101_0⟩ := Kd.at_int HR0.out x5_1 p101 q101; cases e101; replace p101 := eq_true p101; replace q101 := eq_true q101
      go_wp2
      go_roundg k1
      case measure => have := HK1.out; omega
      case rel => exact ⟨(wrap64 (x1_1 + 1)), (wrap64 (x5_1 + 1)), Z34.z0, Z34.z0, H', ⟨(by have := HK1.out; omega)⟩, Z34.z1⟩
     rw [if_neg c5] at H
     have c5b0 : ((rd l0 x5_1) == x1_1) = false := beq_eq_false_iff_ne.mpr c5
     have c5b1 : ((rd l0 x5_1) != x1_1) = true := bne_iff_ne.mpr c5
     obtain rfl := Option.some.inj H
     have p101 : 0 ≤ (x5_1 : Int) := of_decide_eq_true (by first | (with_reducible assumption) | assumption)
     have q101 : x5_1 < (l0.length : Int) := of_decide_eq_true (by first | (with_reducible assumption) | assumption)
     obtain ⟨ad101, e101, hx101_0⟩ := Kd.at_int HR0.out x5_1 p101 q101
     cases e101
     replace p101 := eq_true p101
     replace q101 := eq_true q101
     go_wp2
     go_ret
     exact ⟨Z34.z0, Z34.z1⟩
    rw [if_neg c4] at H
    exact absurd H (by simp)
   rw [if_neg c3] at H
   have c3b0 : decide (x5_1 < (l0.length : Int)) = false := decide_eq_false c3
   clear c3
   obtain rfl := Option.some.inj H
   go_wp2
   go_ret
   exact ⟨Z34.z0, Z34.z1⟩
/-! ### laws_heldMatrix: function 41 -/
def laws_heldMatrix.f (k : Nat) (a0_0 : Int) (a0_1 : Int) (a0_2 : Int) (l0_3 : List Int) (a1 : Int) : Option (Int) := (laws_heldInt64S.f k l0_3 a1).bind fun t102 => (if t102 < 0 then (some (-1)) else (some t102))
theorem Z41.z3 {P : Prop} (h : P := by (try simp only [List.map_toArray, List.map_cons, List.map_nil]); first | done | rfl | (simp only [List.length_drop, List.length_take]; rfl)) : P := h
theorem Z41.z2 {P : Prop} (h : P := by repeat (first | (with_reducible first | exact HB.out | apply below_alloc | apply pw_below_drewN | apply below_drew1 | refine below_set ?_ GE101.out) | exact HB.out)) : P := h
theorem Z41.z1 {P : Prop} (h : P := by repeat (first | exact (Kd.C_below HR0_3.out HB.out) | (with_reducible refine Kd.C_alloc ?_ _) | (with_reducible refine Kd.C_drewN ?_ _) | (with_reducible refine Kd.C_drew ?_))) : P := h
theorem Z41.z0 {P : Prop} (h : P := by repeat (first | (with_reducible first | exact HB.out | apply below_alloc | apply pw_below_drewN | apply below_drew1) | exact HB.out)) : P := h
set_option maxHeartbeats 8000000 in
set_option maxRecDepth 100000 in
theorem laws_heldMatrix.calls (k : Nat) (a0_0 : Int) (a0_1 : Int) (a0_2 : Int) (A0_3 : Option Addr) (c0_3 : Nat) (l0_3 : List Int) (a1 : Int) (r : Int) (w : World) (hr0_3 : Kd.C (Kd.int .i64) w A0_3 l0_3.length l0_3) (hc0_3 : l0_3.length ≤ c0_3) (h : laws_heldMatrix.f k a0_0 a0_1 a0_2 l0_3 a1 = some r) :
  Calls Try.prog 41 #[.agg #[.int .i64 a0_0, .int .i64 a0_1, .int .i64 a0_2, .slice A0_3 l0_3.length c0_3], .int .i64 a1] w fun e w' => e = .returned (.int .i64 r) ∧ Below w.heap.size w w' := by
 have hu27 := Try.underlying27
 have HR0_3 := Aside0.mk hr0_3
 have HC0_3 := Aside0.mk hc0_3
 clear hr0_3 hc0_3
 have HB := Aside0.mk (Below.refl w.heap.size w)
 have H : ((laws_heldInt64S.f k l0_3 a1).bind fun t102 => (if t102 < 0 then (some (-1)) else (some t102))) = some r := h
 clear h
 replace H := Option.bind_eq_some_iff.mp H
 obtain ⟨t102, A30, H⟩ := H
 replace H : (if t102 < 0 then (some (-1)) else (some t102)) = some r := H
 have A3 := Aside0.mk A30
 clear A30
 by_cases c4 : t102 < 0
 ·rw [if_pos c4] at H
  have c4b0 : decide (t102 < 0) = true := decide_eq_true c4
  clear c4
  obtain rfl := Option.some.inj H
  go_enter Try.func41, Try.ntmps41
  go_wp2_with (first | ((with_reducible refine gate_dst (N := 2) rfl ?_); refine box_event ?hg (N := 2) ?hd (cs := #[.int .i64 a0_0, .int .i64 a0_1, .int .i64 a0_2, .slice A0_3 l0_3.length c0_3]) (t := 27) ?hr ?_; (case hd => rfl); (case hg => rfl); (case hr => first | (go_simp; done) | (go_simp; rfl)); intro gb101 hg w5 hbox hb; have n0_ := Aside0.mk (below_step Z41.z0 hb); have n1_ := Aside0.mk (hbox); have n2_ := Aside0.mk (show w.heap.size ≤ gb101 from (by rw [hg]; exact (below_size Z41.z0))); have n3_ := Aside0.mk (show w.heap.size ≤ gb101 from (by rw [hg]; exact (below_size Z41.z0))); clear HB; have HB := n0_; have BK101 := n1_; have GW101 := n2_; have GE101 := n3_; clear n0_ n1_ n2_ n3_; clear hb hbox hg; have hcz6_0 : w5.cell? ⟨gb101, 0, none⟩ = some (.int .i64 a0_0) := (blk_cell BK101.out 0).trans rfl; have hcz6_1 : w5.cell? ⟨gb101, 1, none⟩ = some (.int .i64 a0_1) := (blk_cell BK101.out 1).trans rfl; have hcz6_2 : w5.cell? ⟨gb101, 2, none⟩ = some (.int .i64 a0_2) := (blk_cell BK101.out 2).trans rfl; have hcz6_3 : w5.cell? ⟨gb101, 3, none⟩ = some (.slice A0_3 l0_3.length c0_3) := (blk_cell BK101.out 3).trans rfl; have hfz6_0 := blk_frozen BK101.out 0; have hfz6_1 := blk_frozen BK101.out 1; have hfz6_2 := blk_frozen BK101.out 2; have hfz6_3 := blk_frozen BK101.out 3) | ((with_reducible refine gate_callee (f := 34) rfl ?_); refine goesL_ (some 8) rfl rfl Try.func34 (by kernel_rfl) rfl #[.slice A0_3 l0_3.length c0_3, .int .i64 a1] rfl Z41.z3 ?_; (with_reducible refine (laws_heldInt64S.calls k _ _ l0_3 a1 t102 _ ?side1 ?side2 A3.out).mono ?_); (case side1 => exact Z41.z1); (case side2 => exact HC0_3.out); rintro e w' ⟨rfl, ⟨nd, rfl⟩⟩; refine ⟨_, rfl, ?_⟩))
  go_ret
  exact ⟨(by first | rfl | (simp [errW_none, errW_some] <;> rfl) | (simp [*, errW_none, errW_some] <;> rfl)), Z41.z2⟩
 rw [if_neg c4] at H
 have c4b0 : decide (t102 < 0) = false := decide_eq_false c4
 clear c4
 obtain rfl := Option.some.inj H
 go_enter Try.func41, Try.ntmps41
 go_wp2_with (first | ((with_reducible refine gate_dst (N := 2) rfl ?_); refine box_event ?hg (N := 2) ?hd (cs := #[.int .i64 a0_0, .int .i64 a0_1, .int .i64 a0_2, .slice A0_3 l0_3.length c0_3]) (t := 27) ?hr ?_; (case hd => rfl); (case hg => rfl); (case hr => first | (go_simp; done) | (go_simp; rfl)); intro gb101 hg w7 hbox hb; have n0_ := Aside0.mk (below_step Z41.z0 hb); have n1_ := Aside0.mk (hbox); have n2_ := Aside0.mk (show w.heap.size ≤ gb101 from (by rw [hg]; exact (below_size Z41.z0))); have n3_ := Aside0.mk (show w.heap.size ≤ gb101 from (by rw [hg]; exact (below_size Z41.z0))); clear HB; have HB := n0_; have BK101 := n1_; have GW101 := n2_; have GE101 := n3_; clear n0_ n1_ n2_ n3_; clear hb hbox hg; have hcz8_0 : w7.cell? ⟨gb101, 0, none⟩ = some (.int .i64 a0_0) := (blk_cell BK101.out 0).trans rfl; have hcz8_1 : w7.cell? ⟨gb101, 1, none⟩ = some (.int .i64 a0_1) := (blk_cell BK101.out 1).trans rfl; have hcz8_2 : w7.cell? ⟨gb101, 2, none⟩ = some (.int .i64 a0_2) := (blk_cell BK101.out 2).trans rfl; have hcz8_3 : w7.cell? ⟨gb101, 3, none⟩ = some (.slice A0_3 l0_3.length c0_3) := (blk_cell BK101.out 3).trans rfl; have hfz8_0 := blk_frozen BK101.out 0; have hfz8_1 := blk_frozen BK101.out 1; have hfz8_2 := blk_frozen BK101.out 2; have hfz8_3 := blk_frozen BK101.out 3) | ((with_reducible refine gate_callee (f := 34) rfl ?_); refine goesL_ (some 8) rfl rfl Try.func34 (by kernel_rfl) rfl #[.slice A0_3 l0_3.length c0_3, .int .i64 a1] rfl Z41.z3 ?_; (with_reducible refine (laws_heldInt64S.calls k _ _ l0_3 a1 t102 _ ?side1 ?side2 A3.out).mono ?_); (case side1 => exact Z41.z1); (case side2 => exact HC0_3.out); rintro e w' ⟨rfl, ⟨nd, rfl⟩⟩; refine ⟨_, rfl, ?_⟩))
 go_ret
 exact ⟨(by first | rfl | (simp [errW_none, errW_some] <;> rfl) | (simp [*, errW_none, errW_some] <;> rfl)), Z41.z2⟩
/-! ### laws_FnExactInverseMatrix: function 7 -/
mutual
def laws_FnExactInverseMatrix.j0 : Nat → Int → Int → Bool → Int → Int → Int → List Int → Int → Int → Int → List Int → Int → Int → Int → List Int → Int → Int → Int → List Int → Option (Bool)
  | 0, _, _, _, _, _, _, _, _, _, _, _, _, _, _, _, _, _, _, _ => none
  | k + 1, x5, x8, x40, x102000, x102001, x102002, x102003, x117000, x117001, x117002, x117003, x124000, x124001, x124002, x124003, x132000, x132001, x132002, x132003 => if x40 = true then (some false) else ((laws_toMatrix.f k x102000 x102001 x102002 x102003).bind fun bt133 => ((laws_eqMatrix.f k x124000 x124001 x124002 x124003 bt133.1 bt133.2.1 bt133.2.2.1 bt133.2.2.2).bind fun t139 => (if t139 = true then ((laws_markMatrix.f k x124000 x124001 x124002 x124003 1).bind fun bt140 => (if bt140.1 < 0 then (laws_FnExactInverseMatrix.j1 k x5 true x102000 x102001 x102002 x102003 x117000 x117001 x117002 x117003 x132000 x132001 x132002 x132003) else ((laws_eqMatrix.f k x132000 x132001 x132002 x132003 x117000 x117001 x117002 x117003).bind fun t142 => (if t142 = true then (laws_FnExactInverseMatrix.j1 k x5 (x8 != x5) x102000 x102001 x102002 x102003 x117000 x117001 x117002 x117003 x132000 x132001 x132002 x132003) else (laws_FnExactInverseMatrix.j1 k x5 true x102000 x102001 x102002 x102003 x117000 x117001 x117002 x117003 x132000 x132001 x132002 x132003))))) else (some false))))
def laws_FnExactInverseMatrix.j1 : Nat → Int → Bool → Int → Int → Int → List Int → Int → Int → Int → List Int → Int → Int → Int → List Int → Option (Bool)
  | 0, _, _, _, _, _, _, _, _, _, _, _, _, _, _ => none
  | k + 1, x5, x61, x102000, x102001, x102002, x102003, x117000, x117001, x117002, x117003, x132000, x132001, x132002, x132003 => if x61 = true then (some false) else ((laws_markMatrix.f k x132000 x132001 x132002 x132003 1).bind fun bt143 => ((laws_heldMatrix.f k x132000 x132001 x132002 bt143.2 1).bind fun t145 => (if t145 < 0 then (some false) else (if t145 = bt143.1 then ((laws_toMatrix.f k x102000 x102001 x102002 x102003).bind fun bt146 => ((impl_InverseMatrix.f k bt146.1 bt146.2.1 bt146.2.2.1 bt146.2.2.2).bind fun bt152 => ((laws_eqMatrix.f k bt152.1 bt152.2.1 bt152.2.2.1 bt152.2.2.2.1 x117000 x117001 x117002 x117003).bind fun t160 => (if t160 = true then (laws_FnExactInverseMatrix.j2 k bt143.1 (bt152.2.2.2.2 != x5) x132000 x132001 x132002 bt143.2) else (laws_FnExactInverseMatrix.j2 k bt143.1 true x132000 x132001 x132002 bt143.2))))) else (some false)))))
def laws_FnExactInverseMatrix.j2 : Nat → Int → Bool → Int → Int → Int → List Int → Option (Bool)
  | 0, _, _, _, _, _, _ => none
  | k + 1, x10, x87, x132000, x132001, x132002, x132003 => if x87 = true then (some false) else ((laws_heldMatrix.f k x132000 x132001 x132002 x132003 1).bind fun t161 => (if t161 < 0 then (some false) else (if t161 = x10 then (some true) else (some false))))
end
def laws_FnExactInverseMatrix.f (k : Nat) (a0_0 : Int) (a0_1 : Int) (a0_2 : Int) (l0_3 : List Int) : Option (Bool) := (laws_szMatrix.f a0_0 a0_1 a0_2 l0_3 1048576).bind fun t102 => (if t102 < 0 then (some true) else ((laws_toMatrix.f k a0_0 a0_1 a0_2 l0_3).bind fun bt103 => ((spec_InverseMatrix.f k bt103.1 bt103.2.1 bt103.2.2.1 bt103.2.2.2).bind fun bt109 => ((laws_toMatrix.f k a0_0 a0_1 a0_2 l0_3).bind fun bt117 => ((impl_InverseMatrix.f k bt117.1 bt117.2.1 bt117.2.2.1 bt117.2.2.2).bind fun bt124 => ((laws_eqMatrix.f k bt124.1 bt124.2.1 bt124.2.2.1 bt124.2.2.2.1 bt109.1 bt109.2.1 bt109.2.2.1 bt109.2.2.2.1).bind fun t132 => (if t132 = true then (laws_FnExactInverseMatrix.j0 k bt109.2.2.2.2 bt124.2.2.2.2 (bt124.2.2.2.2 != bt109.2.2.2.2) a0_0 a0_1 a0_2 l0_3 bt109.1 bt109.2.1 bt109.2.2.1 bt109.2.2.2.1 bt117.1 bt117.2.1 bt117.2.2.1 bt117.2.2.2 bt124.1 bt124.2.1 bt124.2.2.1 bt124.2.2.2.1) else (laws_FnExactInverseMatrix.j0 k bt109.2.2.2.2 bt124.2.2.2.2 true a0_0 a0_1 a0_2 l0_3 bt109.1 bt109.2.1 bt109.2.2.1 bt109.2.2.2.1 bt117.1 bt117.2.1 bt117.2.2.1 bt117.2.2.2 bt124.1 bt124.2.1 bt124.2.2.1 bt124.2.2.2.1))))))))
def Z7.b (n x : Nat) : Array Bool := ((List.range n).map (fun i => x.testBit i)).toArray
theorem Z7.pP {P : Program} {ops : Array Oper} {Q : Exit → Act → World → Prop} {md : Region.Mode} {S : World → Prop} {ds : List Nat} (i N : Nat) {oi : Oper} {v : Value} {fuel : Nat} {l : Array Bool} {a : Act} {w : World} (l' : Array Bool) (hc : anyB md ops l l' i = true) {a' : Act} (h : wpAnyLast P md ops Q S ds fuel l' a' w) (hi : ops[i]? = some oi := by rfl) (hN : oi.dst = some N := by rfl) (hQ : ∀ c a w, Q (.panic c) (a.put oi.dst v) w → Q (.panic c) a w := by exact fun _ _ _ h => h) (hy : Yields P ops oi v a := by exact Or.inl ⟨(by rfl), by intro w'; go_simp; with_reducible rfl⟩) (ha : a.put (some N) v = a' := by simp only [Act.put, List.setIfInBounds_toArray, List.set_cons_zero, List.set_cons_succ, i64_w, i32_w]; rfl) : wpAnyLast P md ops Q S ds (fuel + 1) l a w := pure_ l' hi hN hc hQ hy ha h
theorem Z7.pT8 {P : Program} {ops : Array Oper} {Q : Exit → Act → World → Prop} {md : Region.Mode} {S : World → Prop} {ds : List Nat} (i N : Nat) {oi : Oper} {v : Value} {fuel : Nat} {l : Array Bool} {a : Act} {w : World} (l' : Array Bool) (hc : takeB md ops ds l l' i = true) (hS : S w) {a' : Act} (h : wpAnyLast P md ops Q S ds fuel l' a' w) (hi : ops[i]? = some oi := by rfl) (hN : oi.dst = some N := by rfl) (hQ : ∀ c a w, Q (.panic c) (a.put oi.dst v) w → Q (.panic c) a w := by exact fun _ _ _ h => h) (hy : YieldsIf P ops S oi v a := by exact Or.inl ⟨(by rfl), by rintro w' ⟨s0, s1, s2, s3, s4, s5, s6, s7⟩; go_simp; with_reducible rfl⟩) (ha : a.put (some N) v = a' := by simp only [Act.put, List.setIfInBounds_toArray, List.set_cons_zero, List.set_cons_succ, i64_w, i32_w]; rfl) : wpAnyLast P md ops Q S ds (fuel + 1) l a w := take_ l' hi hN hc hQ hy hS ha h
theorem Z7.bb {w0 w w1 : World} {g : Nat} {o : Obj} (_B : Aside0 (w0.heap[g]? = some o)) (h : w.heap[g]? = some o) (hb : Below w.heap.size w w1) : w1.heap[g]? = some o := blk_below h hb
theorem Z7.bl {w0 w : World} {g : Nat} {o : Obj} (_B : Aside0 (w0.heap[g]? = some o)) (h : w.heap[g]? = some o) : g < w.heap.size := blk_lt h
theorem Z7.k {p : Prop} (h : p) : Aside0 p := ⟨h⟩
theorem Z7.z72 {P : Prop} (h : P := by first | rfl | (simp; done) | (simp [*]; done)) : P := h
theorem Z7.z71 {P : Prop} (h : P := by (with_reducible repeat (first | apply Kd.R_alloc | apply Kd.R_drewN | apply Kd.R_drew)); exact Kd.R_mono HO114.out (fun _ hk => ⟨hk.1.2, hk.2⟩)) : P := h
theorem Z7.z70 {P : Prop} (h : P := by (with_reducible repeat (first | apply Kd.R_alloc | apply Kd.R_drewN | apply Kd.R_drew)); exact Kd.R_mono HO122.out (fun _ hk => ⟨hk.1.2, hk.2⟩)) : P := h
theorem Z7.z69 {P : Prop} (h : P := by (with_reducible repeat (first | apply Kd.R_alloc | apply Kd.R_drewN | apply Kd.R_drew)); exact Kd.R_mono HO129.out (fun _ hk => ⟨hk.1.2, hk.2⟩)) : P := h
theorem Z7.z68 {P : Prop} (h : P := by (try simp only [hl124003_59]); (with_reducible repeat (first | refine blk_drewN ?_ _ | refine blk_drew ?_ | refine blk_alloc ?_ _)); exact BK101.out) : P := h
theorem Z7.z67 {P : Prop} (h : P := by (try simp only [hl124003_59]); (with_reducible repeat (first | refine blk_drewN ?_ _ | refine blk_drew ?_ | refine blk_alloc ?_ _)); exact BK116.out) : P := h
theorem Z7.z66 {P : Prop} (h : P := by (try simp only [hl124003_59]); (with_reducible repeat (first | refine blk_drewN ?_ _ | refine blk_drew ?_ | refine blk_alloc ?_ _)); exact BK123.out) : P := h
theorem Z7.z65 {P : Prop} (h : P := by (try simp only [hl124003_59]); (with_reducible repeat (first | refine blk_drewN ?_ _ | refine blk_drew ?_ | refine blk_alloc ?_ _)); exact BK131.out) : P := h
theorem Z7.z64 {P : Prop} (h : P := by (try simp only [hl124003_59]); (with_reducible repeat (first | refine blk_drewN ?_ _ | refine blk_drew ?_ | refine blk_alloc ?_ _)); exact BK159.out) : P := h
theorem Z7.z63 {P : Prop} (h : P := by (repeat (first | (with_reducible first | refine blk_drewN ?_ _ | refine blk_drew ?_ | refine blk_alloc ?_ _) | refine blk_far ?_ NB101_131.out _)); exact BK101.out) : P := h
theorem Z7.z62 {P : Prop} (h : P := by (repeat (first | (with_reducible first | refine blk_drewN ?_ _ | refine blk_drew ?_ | refine blk_alloc ?_ _) | refine blk_far ?_ NB101_159.out _)); exact BK101.out) : P := h
theorem Z7.z61 {P : Prop} (h : P := by (repeat (first | (with_reducible first | refine blk_drewN ?_ _ | refine blk_drew ?_ | refine blk_alloc ?_ _) | refine blk_far ?_ NB116_131.out _)); exact BK116.out) : P := h
theorem Z7.z60 {P : Prop} (h : P := by (repeat (first | (with_reducible first | refine blk_drewN ?_ _ | refine blk_drew ?_ | refine blk_alloc ?_ _) | refine blk_far ?_ NB116_159.out _)); exact BK116.out) : P := h
theorem Z7.z59 {P : Prop} (h : P := by (repeat (first | (with_reducible first | refine blk_drewN ?_ _ | refine blk_drew ?_ | refine blk_alloc ?_ _) | refine blk_far ?_ NB123_131.out _)); exact BK123.out) : P := h
theorem Z7.z58 {P : Prop} (h : P := by (repeat (first | (with_reducible first | refine blk_drewN ?_ _ | refine blk_drew ?_ | refine blk_alloc ?_ _) | refine blk_far ?_ NB123_159.out _)); exact BK123.out) : P := h
theorem Z7.z57 {P : Prop} (h : P := by (repeat (first | (with_reducible first | refine blk_drewN ?_ _ | refine blk_drew ?_ | refine blk_alloc ?_ _) | refine blk_far ?_ NB131_159.out _)); exact BK131.out) : P := h
theorem Z7.z56 {P : Prop} (h : P := by repeat (first | exact (Kd.R_reads' HO138.out).2.2 | (with_reducible refine Kd.C_alloc ?_ _) | (with_reducible refine Kd.C_drewN ?_ _) | (with_reducible refine Kd.C_drew ?_))) : P := h
theorem Z7.z55 {P : Prop} (h : P := by repeat (first | exact (Kd.R_reads' HO_117003.out).2.2 | (with_reducible refine Kd.C_alloc ?_ _) | (with_reducible refine Kd.C_drewN ?_ _) | (with_reducible refine Kd.C_drew ?_))) : P := h
theorem Z7.z54 {P : Prop} (h : P := by repeat (first | exact (Kd.R_reads' HO_124003.out).2.2 | (with_reducible refine Kd.C_alloc ?_ _) | (with_reducible refine Kd.C_drewN ?_ _) | (with_reducible refine Kd.C_drew ?_))) : P := h
theorem Z7.z53 {P : Prop} (h : P := by (with_reducible repeat (first | apply Kd.R_alloc | apply Kd.R_drewN | apply Kd.R_drew)); exact HO114.out) : P := h
theorem Z7.z52 {P : Prop} (h : P := by (with_reducible repeat (first | apply Kd.R_alloc | apply Kd.R_drewN | apply Kd.R_drew)); exact HO151.out) : P := h
theorem Z7.z51 {P : Prop} (h : P := by (with_reducible repeat (first | apply Kd.R_alloc | apply Kd.R_drewN | apply Kd.R_drew)); exact HO_160003.out) : P := h
theorem Z7.z50 {P : Prop} (h : P := by (try simp only [hl124003_59]); (with_reducible repeat (first | apply Kd.R_alloc | apply Kd.R_drewN | apply Kd.R_drew)); exact Kd.R_mono HO157.out (fun _ hk => ⟨hk.1.1.1.2, ⟨hk.1.1.2, hk.1.2⟩⟩)) : P := h
theorem Z7.z49 {P : Prop} (h : P := by (try simp only [hl124003_59]); (with_reducible repeat (first | apply Kd.R_alloc | apply Kd.R_drewN | apply Kd.R_drew)); exact Kd.R_mono HO_117003.out (fun _ hk => ⟨hk.1.1.1, ⟨hk.1.1.2, hk.2⟩⟩)) : P := h
theorem Z7.z48 {P : Prop} (h : P := by (try simp only [hl124003_59]); (with_reducible repeat (first | apply Kd.R_alloc | apply Kd.R_drewN | apply Kd.R_drew)); exact Kd.R_mono HO_124003.out (fun _ hk => ⟨hk.1.1.1, ⟨hk.1.1.2, hk.2⟩⟩)) : P := h
theorem Z7.z47 {P : Prop} (h : P := by (try simp only [hl124003_59]); (with_reducible repeat (first | apply Kd.R_alloc | apply Kd.R_drewN | apply Kd.R_drew)); exact Kd.R_mono HO_132003.out (fun _ hk => ⟨hk.1.1.1, ⟨hk.1.1.2, hk.2⟩⟩)) : P := h
theorem Z7.z46 {P : Prop} (h : P := by rw [show t144.length = t127.length from (Kd.R_reads' HO_132003.out).1.symm]; exact (Kd.R_reads' HO_132003.out).2.1) : P := h
theorem Z7.z45 {P : Prop} (h : P := by (with_reducible repeat (first | refine blk_drewN ?_ _ | refine blk_drew ?_ | refine blk_alloc ?_ _)); exact BK159.out) : P := h
theorem Z7.z44 {P : Prop} (h : P := by (with_reducible repeat (first | apply Kd.R_alloc | apply Kd.R_drewN | apply Kd.R_drew)); exact HO138.out) : P := h
theorem Z7.z43 {P : Prop} (h : P := by (with_reducible repeat (first | apply Kd.R_alloc | apply Kd.R_drewN | apply Kd.R_drew)); exact Kd.R_mono HO_117003.out (fun _ hk => ⟨hk.1, hk.2.1⟩)) : P := h
theorem Z7.z42 {P : Prop} (h : P := by (with_reducible repeat (first | apply Kd.R_alloc | apply Kd.R_drewN | apply Kd.R_drew)); exact Kd.R_mono HO_132003.out (fun _ hk => ⟨hk.1, hk.2.1⟩)) : P := h
theorem Z7.z41 {P : Prop} (h : P := by (with_reducible repeat (first | apply Kd.R_alloc | apply Kd.R_drewN | apply Kd.R_drew)); exact Kd.R_mono HO_124003.out (fun _ hk => ⟨hk.1.1, hk.1.2⟩)) : P := h
theorem Z7.z40 {P : Prop} (h : P := by refine (Kd.R_reads' (e := 2) (base := w.heap.size) (ok := fun k_ => (((True ∧ some k_ ≠ (.slice Ao17 t106.length co17 : Value).ownBlock) ∧ some k_ ≠ (.slice Ao22 t112.length co22 : Value).ownBlock) ∧ some k_ ≠ (.slice Ao29 t120.length co29 : Value).ownBlock)) (n := t127.length) (c := co36) ?_).2.2; exact Z7.z12) : P := h
theorem Z7.z39 {P : Prop} (h : P := by refine (Kd.R_reads' (e := 2) (base := w.heap.size) (ok := fun k_ => (((True ∧ some k_ ≠ (.slice Ao17 t106.length co17 : Value).ownBlock) ∧ some k_ ≠ (.slice Ao29 t120.length co29 : Value).ownBlock) ∧ some k_ ≠ (.slice Ao36 t127.length co36 : Value).ownBlock)) (n := t112.length) (c := co22) ?_).2.2; exact Z7.z13) : P := h
theorem Z7.z38 {P : Prop} (h : P := by (with_reducible repeat (first | apply Kd.R_alloc | apply Kd.R_drewN | apply Kd.R_drew)); exact HO108.out) : P := h
theorem Z7.z37 {P : Prop} (h : P := by refine (Kd.R_reads' (e := 2) (base := w.heap.size) (ok := fun k_ => (((some k_ ≠ (.slice Ao29 t141.length co29 : Value).ownBlock ∧ some k_ ≠ (.slice Ao36 t127.length co36 : Value).ownBlock) ∧ some k_ ≠ (.slice Ao115 t149.length co115 : Value).ownBlock) ∧ some k_ ≠ (.slice Ao123 t155.length co123 : Value).ownBlock)) (n := t112.length) (c := co22) ?_).2.2; exact Z7.z10) : P := h
theorem Z7.z36 {P : Prop} (h : P := by refine (Kd.R_reads' (e := 2) (base := w.heap.size) (ok := fun k_ => ((((True ∧ some k_ ≠ (.slice Ao22 t112.length co22 : Value).ownBlock) ∧ some k_ ≠ (.slice Ao29 t141.length co29 : Value).ownBlock) ∧ some k_ ≠ (.slice Ao36 t127.length co36 : Value).ownBlock) ∧ some k_ ≠ (.slice Ao115 t149.length co115 : Value).ownBlock)) (n := t155.length) (c := co123) ?_).2.2; exact Z7.z11) : P := h
theorem Z7.z35 {P : Prop} (h : P := by simp only [Act.put, List.setIfInBounds_toArray, List.set_cons_zero, List.set_cons_succ, i64_w, i32_w]; rfl) : P := h
theorem Z7.z34 {P : Prop} (h : P := by (try simp only [List.map_toArray, List.map_cons, List.map_nil]); first | done | (rw [show t144.length = t127.length from (Kd.R_reads' HO_132003.out).1.symm] <;> rfl) | rfl | (simp only [List.length_drop, List.length_take]; rfl)) : P := h
theorem Z7.z33 {P : Prop} (h : P := by (with_reducible repeat (first | apply Kd.R_alloc | apply Kd.R_drewN | apply Kd.R_drew)); exact (Kd.R_mono (Kd.R_far (p := ⟨gb116, 3, none⟩) (Kd.R_far (p := ⟨gb116, 2, none⟩) (Kd.R_far (p := ⟨gb116, 1, none⟩) (Kd.R_far (p := ⟨gb116, 0, none⟩) (Kd.R_types HO108.out BK116.out (by decide)) (fun _ hk => hk.2) (.int .i64 t109)) (fun _ hk => hk.2) (.int .i64 t110)) (fun _ hk => hk.2) (.int .i64 t111)) (fun _ hk => hk.2) (.slice Ao22 t112.length co22)) (fun _ h_ => h_.1))) : P := h
theorem Z7.z32 {P : Prop} (h : P := by (with_reducible repeat (first | apply Kd.R_alloc | apply Kd.R_drewN | apply Kd.R_drew)); exact (Kd.R_mono (Kd.R_far (p := ⟨gb116, 3, none⟩) (Kd.R_far (p := ⟨gb116, 2, none⟩) (Kd.R_far (p := ⟨gb116, 1, none⟩) (Kd.R_far (p := ⟨gb116, 0, none⟩) (Kd.R_types HO114.out BK116.out (by decide)) (fun _ hk => hk.2) (.int .i64 t109)) (fun _ hk => hk.2) (.int .i64 t110)) (fun _ hk => hk.2) (.int .i64 t111)) (fun _ hk => hk.2) (.slice Ao22 t112.length co22)) (fun _ h_ => h_.1))) : P := h
theorem Z7.z31 {P : Prop} (h : P := by (with_reducible repeat (first | apply Kd.R_alloc | apply Kd.R_drewN | apply Kd.R_drew)); exact (Kd.R_mono (Kd.R_far (p := ⟨gb123, 3, none⟩) (Kd.R_far (p := ⟨gb123, 2, none⟩) (Kd.R_far (p := ⟨gb123, 1, none⟩) (Kd.R_far (p := ⟨gb123, 0, none⟩) (Kd.R_types HO108.out BK123.out (by decide)) (fun _ hk => hk.2) (.int .i64 t117)) (fun _ hk => hk.2) (.int .i64 t118)) (fun _ hk => hk.2) (.int .i64 t119)) (fun _ hk => hk.2) (.slice Ao29 t120.length co29)) (fun _ h_ => h_.1))) : P := h
theorem Z7.z30 {P : Prop} (h : P := by (with_reducible repeat (first | apply Kd.R_alloc | apply Kd.R_drewN | apply Kd.R_drew)); exact (Kd.R_mono (Kd.R_far (p := ⟨gb123, 3, none⟩) (Kd.R_far (p := ⟨gb123, 2, none⟩) (Kd.R_far (p := ⟨gb123, 1, none⟩) (Kd.R_far (p := ⟨gb123, 0, none⟩) (Kd.R_types HO114.out BK123.out (by decide)) (fun _ hk => hk.2) (.int .i64 t117)) (fun _ hk => hk.2) (.int .i64 t118)) (fun _ hk => hk.2) (.int .i64 t119)) (fun _ hk => hk.2) (.slice Ao29 t120.length co29)) (fun _ h_ => h_.1))) : P := h
theorem Z7.z29 {P : Prop} (h : P := by (with_reducible repeat (first | apply Kd.R_alloc | apply Kd.R_drewN | apply Kd.R_drew)); exact (Kd.R_mono (Kd.R_far (p := ⟨gb131, 3, none⟩) (Kd.R_far (p := ⟨gb131, 2, none⟩) (Kd.R_far (p := ⟨gb131, 1, none⟩) (Kd.R_far (p := ⟨gb131, 0, none⟩) (Kd.R_types HO108.out BK131.out (by decide)) (fun _ hk => hk.2) (.int .i64 t124)) (fun _ hk => hk.2) (.int .i64 t125)) (fun _ hk => hk.2) (.int .i64 t126)) (fun _ hk => hk.2) (.slice Ao36 t127.length co36)) (fun _ h_ => h_.1))) : P := h
theorem Z7.z28 {P : Prop} (h : P := by (with_reducible repeat (first | apply Kd.R_alloc | apply Kd.R_drewN | apply Kd.R_drew)); exact (Kd.R_mono (Kd.R_far (p := ⟨gb131, 3, none⟩) (Kd.R_far (p := ⟨gb131, 2, none⟩) (Kd.R_far (p := ⟨gb131, 1, none⟩) (Kd.R_far (p := ⟨gb131, 0, none⟩) (Kd.R_types HO122.out BK131.out (by decide)) (fun _ hk => hk.2) (.int .i64 t124)) (fun _ hk => hk.2) (.int .i64 t125)) (fun _ hk => hk.2) (.int .i64 t126)) (fun _ hk => hk.2) (.slice Ao36 t127.length co36)) (fun _ h_ => h_.1))) : P := h
theorem Z7.z27 {P : Prop} (h : P := by (with_reducible repeat (first | apply Kd.R_alloc | apply Kd.R_drewN | apply Kd.R_drew)); exact (Kd.R_mono (Kd.R_far (p := ⟨gb159, 3, none⟩) (Kd.R_far (p := ⟨gb159, 2, none⟩) (Kd.R_far (p := ⟨gb159, 1, none⟩) (Kd.R_far (p := ⟨gb159, 0, none⟩) (Kd.R_types HO151.out BK159.out (by decide)) (fun _ hk => hk.2) (.int .i64 t152)) (fun _ hk => hk.2) (.int .i64 t153)) (fun _ hk => hk.2) (.int .i64 t154)) (fun _ hk => hk.2) (.slice Ao123 t155.length co123)) (fun _ h_ => h_.1))) : P := h
theorem Z7.z26 {P : Prop} (h : P := by (with_reducible repeat (first | apply Kd.R_alloc | apply Kd.R_drewN | apply Kd.R_drew)); exact (Kd.R_mono (Kd.R_far (p := ⟨gb159, 3, none⟩) (Kd.R_far (p := ⟨gb159, 2, none⟩) (Kd.R_far (p := ⟨gb159, 1, none⟩) (Kd.R_far (p := ⟨gb159, 0, none⟩) (Kd.R_types HO_124003.out BK159.out (by decide)) (fun _ hk => hk.2) (.int .i64 t152)) (fun _ hk => hk.2) (.int .i64 t153)) (fun _ hk => hk.2) (.int .i64 t154)) (fun _ hk => hk.2) (.slice Ao123 t155.length co123)) (fun _ h_ => h_.1))) : P := h
theorem Z7.z25 {P : Prop} (h : P := by (with_reducible repeat (first | apply Kd.R_alloc | apply Kd.R_drewN | apply Kd.R_drew)); exact (Kd.R_mono (Kd.R_far (p := ⟨gb159, 3, none⟩) (Kd.R_far (p := ⟨gb159, 2, none⟩) (Kd.R_far (p := ⟨gb159, 1, none⟩) (Kd.R_far (p := ⟨gb159, 0, none⟩) (Kd.R_types HO_132003.out BK159.out (by decide)) (fun _ hk => hk.2) (.int .i64 t152)) (fun _ hk => hk.2) (.int .i64 t153)) (fun _ hk => hk.2) (.int .i64 t154)) (fun _ hk => hk.2) (.slice Ao123 t155.length co123)) (fun _ h_ => h_.1))) : P := h
theorem Z7.z24 {P : Prop} (h : P := by repeat (first | (with_reducible first | exact HB.out | apply below_alloc | apply pw_below_drewN | apply below_drew1) | exact HB.out)) : P := h
theorem Z7.z23 {P : Prop} (h : P := by first | rfl | (simp [errW_none, errW_some] <;> rfl) | (simp [*, errW_none, errW_some] <;> rfl)) : P := h
theorem Z7.z22 {P : Prop} (h : P := by repeat (first | exact (Kd.C_below HR0_3.out HB.out) | (with_reducible refine Kd.C_alloc ?_ _) | (with_reducible refine Kd.C_drewN ?_ _) | (with_reducible refine Kd.C_drew ?_))) : P := h
theorem Z7.z21 {P : Prop} (h : P := by repeat (first | (with_reducible first | exact HB.out | apply below_alloc | apply pw_below_drewN | apply below_drew1 | refine below_set ?_ GE101.out | refine below_set ?_ GE116.out | refine below_set ?_ GE123.out) | exact HB.out)) : P := h
theorem Z7.z20 {P : Prop} (h : P := by repeat (first | (with_reducible first | exact HB.out | apply below_alloc | apply pw_below_drewN | apply below_drew1 | refine below_set ?_ GE101.out | refine below_set ?_ GE116.out) | exact HB.out)) : P := h
theorem Z7.z19 {P : Prop} (h : P := by (with_reducible repeat (first | apply Kd.R_alloc | apply Kd.R_drewN | apply Kd.R_drew)); exact (Kd.R_mono (Kd.R_far (p := ⟨gb123, 3, none⟩) (Kd.R_far (p := ⟨gb123, 2, none⟩) (Kd.R_far (p := ⟨gb123, 1, none⟩) (Kd.R_far (p := ⟨gb123, 0, none⟩) (Kd.R_types HO122.out BK123.out (by decide)) (fun _ hk => hk.2) (.int .i64 t117)) (fun _ hk => hk.2) (.int .i64 t118)) (fun _ hk => hk.2) (.int .i64 t119)) (fun _ hk => hk.2) (.slice Ao29 t120.length co29)) (fun _ h_ => h_.1))) : P := h
theorem Z7.z18 {P : Prop} (h : P := by (with_reducible repeat (first | refine blk_drewN ?_ _ | refine blk_drew ?_ | refine blk_alloc ?_ _)); refine blk_put (cs := #[.int .i64 t124, .int .i64 t125, .int .i64 t126, .slice none 0 0]) ?_ 3 _ rfl; (with_reducible repeat (first | refine blk_drewN ?_ _ | refine blk_drew ?_ | refine blk_alloc ?_ _)); refine blk_put (cs := #[.int .i64 t124, .int .i64 t125, .int .i64 0, .slice none 0 0]) ?_ 2 _ rfl; (with_reducible repeat (first | refine blk_drewN ?_ _ | refine blk_drew ?_ | refine blk_alloc ?_ _)); refine blk_put (cs := #[.int .i64 t124, .int .i64 0, .int .i64 0, .slice none 0 0]) ?_ 1 _ rfl; (with_reducible repeat (first | refine blk_drewN ?_ _ | refine blk_drew ?_ | refine blk_alloc ?_ _)); refine blk_put (cs := #[.int .i64 0, .int .i64 0, .int .i64 0, .slice none 0 0]) ?_ 0 _ rfl; (with_reducible repeat (first | refine blk_drewN ?_ _ | refine blk_drew ?_ | refine blk_alloc ?_ _)); exact BK131.out) : P := h
theorem Z7.z17 {P : Prop} (h : P := by (with_reducible repeat (first | refine blk_drewN ?_ _ | refine blk_drew ?_ | refine blk_alloc ?_ _)); refine blk_put (cs := #[.int .i64 t152, .int .i64 t153, .int .i64 t154, .slice none 0 0]) ?_ 3 _ rfl; (with_reducible repeat (first | refine blk_drewN ?_ _ | refine blk_drew ?_ | refine blk_alloc ?_ _)); refine blk_put (cs := #[.int .i64 t152, .int .i64 t153, .int .i64 0, .slice none 0 0]) ?_ 2 _ rfl; (with_reducible repeat (first | refine blk_drewN ?_ _ | refine blk_drew ?_ | refine blk_alloc ?_ _)); refine blk_put (cs := #[.int .i64 t152, .int .i64 0, .int .i64 0, .slice none 0 0]) ?_ 1 _ rfl; (with_reducible repeat (first | refine blk_drewN ?_ _ | refine blk_drew ?_ | refine blk_alloc ?_ _)); refine blk_put (cs := #[.int .i64 0, .int .i64 0, .int .i64 0, .slice none 0 0]) ?_ 0 _ rfl; (with_reducible repeat (first | refine blk_drewN ?_ _ | refine blk_drew ?_ | refine blk_alloc ?_ _)); exact BK159.out) : P := h
theorem Z7.z16 {P : Prop} (h : P := by repeat (first | exact (Kd.R_reads' HO_132003.out).2.2 | (with_reducible refine Kd.C_alloc ?_ _) | (with_reducible refine Kd.C_drewN ?_ _) | (with_reducible refine Kd.C_drew ?_))) : P := h
theorem Z7.z15 {P : Prop} (h : P := by repeat (first | (with_reducible first | exact HB.out | apply below_alloc | apply pw_below_drewN | apply below_drew1 | refine below_set ?_ GE101.out) | exact HB.out)) : P := h
theorem Z7.z14 {P : Prop} (h : P := by exact ⟨(blk_cell BK123.out 0).trans rfl, (blk_cell BK123.out 1).trans rfl, (blk_cell BK123.out 2).trans rfl, (blk_cell BK123.out 3).trans rfl, (blk_cell BK101.out 0).trans rfl, (blk_cell BK101.out 1).trans rfl, (blk_cell BK101.out 2).trans rfl, (blk_cell BK101.out 3).trans rfl⟩) : P := h
theorem Z7.z13 {P : Prop} (h : P := by (with_reducible repeat (first | apply Kd.R_alloc | apply Kd.R_drewN | apply Kd.R_drew)); exact (Kd.R_mono (Kd.R_far (p := ⟨gb131, 3, none⟩) (Kd.R_far (p := ⟨gb131, 2, none⟩) (Kd.R_far (p := ⟨gb131, 1, none⟩) (Kd.R_far (p := ⟨gb131, 0, none⟩) (Kd.R_types HO114.out BK131.out (by decide)) (fun _ hk => hk.2) (.int .i64 t124)) (fun _ hk => hk.2) (.int .i64 t125)) (fun _ hk => hk.2) (.int .i64 t126)) (fun _ hk => hk.2) (.slice Ao36 t127.length co36)) (fun _ h_ => h_.1))) : P := h
theorem Z7.z12 {P : Prop} (h : P := by (with_reducible repeat (first | apply Kd.R_alloc | apply Kd.R_drewN | apply Kd.R_drew)); exact (Kd.R_mono (Kd.R_far (p := ⟨gb131, 3, none⟩) (Kd.R_far (p := ⟨gb131, 2, none⟩) (Kd.R_far (p := ⟨gb131, 1, none⟩) (Kd.R_far (p := ⟨gb131, 0, none⟩) (Kd.R_types HO129.out BK131.out (by decide)) (fun _ hk => hk.2) (.int .i64 t124)) (fun _ hk => hk.2) (.int .i64 t125)) (fun _ hk => hk.2) (.int .i64 t126)) (fun _ hk => hk.2) (.slice Ao36 t127.length co36)) (fun _ h_ => h_.1))) : P := h
theorem Z7.z11 {P : Prop} (h : P := by (with_reducible repeat (first | apply Kd.R_alloc | apply Kd.R_drewN | apply Kd.R_drew)); exact (Kd.R_mono (Kd.R_far (p := ⟨gb159, 3, none⟩) (Kd.R_far (p := ⟨gb159, 2, none⟩) (Kd.R_far (p := ⟨gb159, 1, none⟩) (Kd.R_far (p := ⟨gb159, 0, none⟩) (Kd.R_types HO157.out BK159.out (by decide)) (fun _ hk => hk.2) (.int .i64 t152)) (fun _ hk => hk.2) (.int .i64 t153)) (fun _ hk => hk.2) (.int .i64 t154)) (fun _ hk => hk.2) (.slice Ao123 t155.length co123)) (fun _ h_ => h_.1))) : P := h
theorem Z7.z10 {P : Prop} (h : P := by (with_reducible repeat (first | apply Kd.R_alloc | apply Kd.R_drewN | apply Kd.R_drew)); exact (Kd.R_mono (Kd.R_far (p := ⟨gb159, 3, none⟩) (Kd.R_far (p := ⟨gb159, 2, none⟩) (Kd.R_far (p := ⟨gb159, 1, none⟩) (Kd.R_far (p := ⟨gb159, 0, none⟩) (Kd.R_types HO_117003.out BK159.out (by decide)) (fun _ hk => hk.2) (.int .i64 t152)) (fun _ hk => hk.2) (.int .i64 t153)) (fun _ hk => hk.2) (.int .i64 t154)) (fun _ hk => hk.2) (.slice Ao123 t155.length co123)) (fun _ h_ => h_.1))) : P := h
theorem Z7.z9 {P : Prop} (h : P := by (with_reducible repeat (first | apply Kd.R_alloc | apply Kd.R_drewN | apply Kd.R_drew)); exact HO_117003.out) : P := h
theorem Z7.z8 {P : Prop} (h : P := by (with_reducible repeat (first | apply Kd.R_alloc | apply Kd.R_drewN | apply Kd.R_drew)); exact HO_124003.out) : P := h
theorem Z7.z7 {P : Prop} (h : P := by (with_reducible repeat (first | apply Kd.R_alloc | apply Kd.R_drewN | apply Kd.R_drew)); exact HO_132003.out) : P := h
theorem Z7.z6 {P : Prop} (h : P := by (with_reducible repeat (first | refine blk_drewN ?_ _ | refine blk_drew ?_ | refine blk_alloc ?_ _)); exact BK131.out) : P := h
theorem Z7.z5 {P : Prop} (h : P := by (try simp only [List.map_toArray, List.map_cons, List.map_nil]); first | done | rfl | (simp only [List.length_drop, List.length_take]; rfl)) : P := h
theorem Z7.z4 {P : Prop} (h : P := by (with_reducible repeat (first | refine blk_drewN ?_ _ | refine blk_drew ?_ | refine blk_alloc ?_ _)); exact BK123.out) : P := h
theorem Z7.z3 {P : Prop} (h : P := by repeat (first | (with_reducible first | exact HB.out | apply below_alloc | apply pw_below_drewN | apply below_drew1 | refine below_set ?_ GE101.out | refine below_set ?_ GE116.out | refine below_set ?_ GE123.out | refine below_set ?_ GE131.out | refine below_set ?_ GE159.out) | exact HB.out)) : P := h
theorem Z7.z2 {P : Prop} (h : P := by (with_reducible repeat (first | refine blk_drewN ?_ _ | refine blk_drew ?_ | refine blk_alloc ?_ _)); exact BK116.out) : P := h
theorem Z7.z1 {P : Prop} (h : P := by (with_reducible repeat (first | refine blk_drewN ?_ _ | refine blk_drew ?_ | refine blk_alloc ?_ _)); exact BK101.out) : P := h
theorem Z7.z0 {P : Prop} (h : P := by repeat (first | (with_reducible first | exact HB.out | apply below_alloc | apply pw_below_drewN | apply below_drew1 | refine below_set ?_ GE101.out | refine below_set ?_ GE116.out | refine below_set ?_ GE123.out | refine below_set ?_ GE131.out) | exact HB.out)) : P := h
set_option maxHeartbeats 8000000 in
set_option maxRecDepth 100000 in
theorem laws_FnExactInverseMatrix.calls (k : Nat) (a0_0 : Int) (a0_1 : Int) (a0_2 : Int) (A0_3 : Option Addr) (c0_3 : Nat) (l0_3 : List Int) (r : Bool) (w : World) (hr0_3 : Kd.C (Kd.int .i64) w A0_3 l0_3.length l0_3) (hc0_3 : l0_3.length ≤ c0_3) (h : laws_FnExactInverseMatrix.f k a0_0 a0_1 a0_2 l0_3 = some r) :
  Calls Try.prog 7 #[.agg #[.int .i64 a0_0, .int .i64 a0_1, .int .i64 a0_2, .slice A0_3 l0_3.length c0_3]] w fun e w' => e = .returned (.bool r) ∧ Below w.heap.size w w' := by
 have hu40 := Try.underlying40
 have hu27 := Try.underlying27
 have HR0_3 := Z7.k hr0_3
 have HC0_3 := Z7.k hc0_3
 clear hr0_3 hc0_3
 have HB := Z7.k (Below.refl w.heap.size w)
 have H : ((laws_szMatrix.f a0_0 a0_1 a0_2 l0_3 1048576).bind fun t102 => (if t102 < 0 then (some true) else ((laws_toMatrix.f k a0_0 a0_1 a0_2 l0_3).bind fun bt103 => ((spec_InverseMatrix.f k bt103.1 bt103.2.1 bt103.2.2.1 bt103.2.2.2).bind fun bt109 => ((laws_toMatrix.f k a0_0 a0_1 a0_2 l0_3).bind fun bt117 => ((impl_InverseMatrix.f k bt117.1 bt117.2.1 bt117.2.2.1 bt117.2.2.2).bind fun bt124 => ((laws_eqMatrix.f k bt124.1 bt124.2.1 bt124.2.2.1 bt124.2.2.2.1 bt109.1 bt109.2.1 bt109.2.2.1 bt109.2.2.2.1).bind fun t132 => (if t132 = true then (laws_FnExactInverseMatrix.j0 k bt109.2.2.2.2 bt124.2.2.2.2 (bt124.2.2.2.2 != bt109.2.2.2.2) a0_0 a0_1 a0_2 l0_3 bt109.1 bt109.2.1 bt109.2.2.1 bt109.2.2.2.1 bt117.1 bt117.2.1 bt117.2.2.1 bt117.2.2.2 bt124.1 bt124.2.1 bt124.2.2.1 bt124.2.2.2.1) else (laws_FnExactInverseMatrix.j0 k bt109.2.2.2.2 bt124.2.2.2.2 true a0_0 a0_1 a0_2 l0_3 bt109.1 bt109.2.1 bt109.2.2.1 bt109.2.2.2.1 bt117.1 bt117.2.1 bt117.2.2.1 bt117.2.2.2 bt124.1 bt124.2.1 bt124.2.2.1 bt124.2.2.2.1))))))))) = some r := h
 clear h
 replace H := Option.bind_eq_some_iff.mp H
 obtain ⟨t102, A20, H⟩ := H
 replace H : (if t102 < 0 then (some true) else ((laws_toMatrix.f k a0_0 a0_1 a0_2 l0_3).bind fun bt103 => ((spec_InverseMatrix.f k bt103.1 bt103.2.1 bt103.2.2.1 bt103.2.2.2).bind fun bt109 => ((laws_toMatrix.f k a0_0 a0_1 a0_2 l0_3).bind fun bt117 => ((impl_InverseMatrix.f k bt117.1 bt117.2.1 bt117.2.2.1 bt117.2.2.2).bind fun bt124 => ((laws_eqMatrix.f k bt124.1 bt124.2.1 bt124.2.2.1 bt124.2.2.2.1 bt109.1 bt109.2.1 bt109.2.2.1 bt109.2.2.2.1).bind fun t132 => (if t132 = true then (laws_FnExactInverseMatrix.j0 k bt109.2.2.2.2 bt124.2.2.2.2 (bt124.2.2.2.2 != bt109.2.2.2.2) a0_0 a0_1 a0_2 l0_3 bt109.1 bt109.2.1 bt109.2.2.1 bt109.2.2.2.1 bt117.1 bt117.2.1 bt117.2.2.1 bt117.2.2.2 bt124.1 bt124.2.1 bt124.2.2.1 bt124.2.2.2.1) else (laws_FnExactInverseMatrix.j0 k bt109.2.2.2.2 bt124.2.2.2.2 true a0_0 a0_1 a0_2 l0_3 bt109.1 bt109.2.1 bt109.2.2.1 bt109.2.2.2.1 bt117.1 bt117.2.1 bt117.2.2.1 bt117.2.2.2 bt124.1 bt124.2.1 bt124.2.2.1 bt124.2.2.2.1)))))))) = some r := H
 have A2 := Z7.k A20
 clear A20
 by_cases c3 : t102 < 0
 ·rw [if_pos c3] at H
  have c3b0 : decide (t102 < 0) = true := decide_eq_true c3
  clear c3
  obtain rfl := Option.some.inj H
  go_enter Try.func7, Try.ntmps7
  go_wp2_with (first | ((with_reducible refine gate_dst (N := 1) rfl ?_); refine box_event ?hg (N := 1) ?hd (cs := #[.int .i64 a0_0, .int .i64 a0_1, .int .i64 a0_2, .slice A0_3 l0_3.length c0_3]) (t := 40) ?hr ?_; (case hd => rfl); (case hg => rfl); (case hr => first | (go_simp; done) | (go_simp; rfl)); intro gb101 hg w4 hbox hb; have n0_ := Z7.k (below_step Z7.z24 hb); have n1_ := Z7.k (hbox); have n2_ := Z7.k (show w.heap.size ≤ gb101 from (by rw [hg]; exact (below_size Z7.z24))); have n3_ := Z7.k (show w.heap.size ≤ gb101 from (by rw [hg]; exact (below_size Z7.z24))); clear HB; have HB := n0_; have BK101 := n1_; have GW101 := n2_; have GE101 := n3_; clear n0_ n1_ n2_ n3_; clear hb hbox hg; have hcz5_0 : w4.cell? ⟨gb101, 0, none⟩ = some (.int .i64 a0_0) := (blk_cell BK101.out 0).trans rfl; have hcz5_1 : w4.cell? ⟨gb101, 1, none⟩ = some (.int .i64 a0_1) := (blk_cell BK101.out 1).trans rfl; have hcz5_2 : w4.cell? ⟨gb101, 2, none⟩ = some (.int .i64 a0_2) := (blk_cell BK101.out 2).trans rfl; have hcz5_3 : w4.cell? ⟨gb101, 3, none⟩ = some (.slice A0_3 l0_3.length c0_3) := (blk_cell BK101.out 3).trans rfl; have hfz5_0 := blk_frozen BK101.out 0; have hfz5_1 := blk_frozen BK101.out 1; have hfz5_2 := blk_frozen BK101.out 2; have hfz5_3 := blk_frozen BK101.out 3) | ((with_reducible refine gate_callee (f := 25) rfl ?_); refine goesL_ (some 16) rfl rfl Try.func25 (by kernel_rfl) rfl #[.agg #[.int .i64 a0_0, .int .i64 a0_1, .int .i64 a0_2, .slice A0_3 l0_3.length c0_3], .int .i64 1048576] rfl Z7.z5 ?_; (with_reducible refine (laws_szMatrix.calls a0_0 a0_1 a0_2 _ _ l0_3 1048576 t102 _ ?side1 ?side2 A2.out).mono ?_); (case side1 => exact Z7.z22); (case side2 => exact HC0_3.out); rintro e w6 ⟨rfl, hb⟩; refine ⟨_, rfl, ?_⟩; have n0_ := Z7.k (Z7.bb BK101 Z7.z1 hb); have n1_ := Z7.k (below_step Z7.z15 hb); clear BK101 HB; have BK101 := n0_; have HB := n1_; clear n0_ n1_; (try clear hb); (try clear hb2); (try clear hk); (try clear hi)))
  go_ret
  exact ⟨Z7.z23, Z7.z15⟩
 rw [if_neg c3] at H
 have c3b0 : decide (t102 < 0) = false := decide_eq_false c3
 clear c3
 replace H := Option.bind_eq_some_iff.mp H
 obtain ⟨⟨t103, t104, t105, t106⟩, A70, H⟩ := H
 replace H : ((spec_InverseMatrix.f k t103 t104 t105 t106).bind fun bt109 => ((laws_toMatrix.f k a0_0 a0_1 a0_2 l0_3).bind fun bt117 => ((impl_InverseMatrix.f k bt117.1 bt117.2.1 bt117.2.2.1 bt117.2.2.2).bind fun bt124 => ((laws_eqMatrix.f k bt124.1 bt124.2.1 bt124.2.2.1 bt124.2.2.2.1 bt109.1 bt109.2.1 bt109.2.2.1 bt109.2.2.2.1).bind fun t132 => (if t132 = true then (laws_FnExactInverseMatrix.j0 k bt109.2.2.2.2 bt124.2.2.2.2 (bt124.2.2.2.2 != bt109.2.2.2.2) a0_0 a0_1 a0_2 l0_3 bt109.1 bt109.2.1 bt109.2.2.1 bt109.2.2.2.1 bt117.1 bt117.2.1 bt117.2.2.1 bt117.2.2.2 bt124.1 bt124.2.1 bt124.2.2.1 bt124.2.2.2.1) else (laws_FnExactInverseMatrix.j0 k bt109.2.2.2.2 bt124.2.2.2.2 true a0_0 a0_1 a0_2 l0_3 bt109.1 bt109.2.1 bt109.2.2.1 bt109.2.2.2.1 bt117.1 bt117.2.1 bt117.2.2.1 bt117.2.2.2 bt124.1 bt124.2.1 bt124.2.2.1 bt124.2.2.2.1)))))) = some r := H
 have A7 := Z7.k A70
 clear A70
 replace H := Option.bind_eq_some_iff.mp H
 obtain ⟨⟨t109, t110, t111, t112, t115⟩, A80, H⟩ := H
 replace H : ((laws_toMatrix.f k a0_0 a0_1 a0_2 l0_3).bind fun bt117 => ((impl_InverseMatrix.f k bt117.1 bt117.2.1 bt117.2.2.1 bt117.2.2.2).bind fun bt124 => ((laws_eqMatrix.f k bt124.1 bt124.2.1 bt124.2.2.1 bt124.2.2.2.1 t109 t110 t111 t112).bind fun t132 => (if t132 = true then (laws_FnExactInverseMatrix.j0 k t115 bt124.2.2.2.2 (bt124.2.2.2.2 != t115) a0_0 a0_1 a0_2 l0_3 t109 t110 t111 t112 bt117.1 bt117.2.1 bt117.2.2.1 bt117.2.2.2 bt124.1 bt124.2.1 bt124.2.2.1 bt124.2.2.2.1) else (laws_FnExactInverseMatrix.j0 k t115 bt124.2.2.2.2 true a0_0 a0_1 a0_2 l0_3 t109 t110 t111 t112 bt117.1 bt117.2.1 bt117.2.2.1 bt117.2.2.2 bt124.1 bt124.2.1 bt124.2.2.1 bt124.2.2.2.1))))) = some r := H
 have A8 := Z7.k A80
 clear A80
 replace H := Option.bind_eq_some_iff.mp H
 obtain ⟨⟨t117, t118, t119, t120⟩, A90, H⟩ := H
 replace H : ((impl_InverseMatrix.f k t117 t118 t119 t120).bind fun bt124 => ((laws_eqMatrix.f k bt124.1 bt124.2.1 bt124.2.2.1 bt124.2.2.2.1 t109 t110 t111 t112).bind fun t132 => (if t132 = true then (laws_FnExactInverseMatrix.j0 k t115 bt124.2.2.2.2 (bt124.2.2.2.2 != t115) a0_0 a0_1 a0_2 l0_3 t109 t110 t111 t112 t117 t118 t119 t120 bt124.1 bt124.2.1 bt124.2.2.1 bt124.2.2.2.1) else (laws_FnExactInverseMatrix.j0 k t115 bt124.2.2.2.2 true a0_0 a0_1 a0_2 l0_3 t109 t110 t111 t112 t117 t118 t119 t120 bt124.1 bt124.2.1 bt124.2.2.1 bt124.2.2.2.1)))) = some r := H
 have A9 := Z7.k A90
 clear A90
 replace H := Option.bind_eq_some_iff.mp H
 obtain ⟨⟨t124, t125, t126, t127, t130⟩, A100, H⟩ := H
 replace H : ((laws_eqMatrix.f k t124 t125 t126 t127 t109 t110 t111 t112).bind fun t132 => (if t132 = true then (laws_FnExactInverseMatrix.j0 k t115 t130 (t130 != t115) a0_0 a0_1 a0_2 l0_3 t109 t110 t111 t112 t117 t118 t119 t120 t124 t125 t126 t127) else (laws_FnExactInverseMatrix.j0 k t115 t130 true a0_0 a0_1 a0_2 l0_3 t109 t110 t111 t112 t117 t118 t119 t120 t124 t125 t126 t127))) = some r := H
 have A10 := Z7.k A100
 clear A100
 have HC11 := Z7.k H
 clear H
 go_enter Try.func7, Try.ntmps7
 go_upto_region 8 with (first | ((with_reducible refine gate_dst (N := 1) rfl ?_); refine box_event ?hg (N := 1) ?hd (cs := #[.int .i64 a0_0, .int .i64 a0_1, .int .i64 a0_2, .slice A0_3 l0_3.length c0_3]) (t := 40) ?hr ?_; (case hd => rfl); (case hg => rfl); (case hr => first | (go_simp; done) | (go_simp; rfl)); intro gb101 hg w12 hbox hb; have n0_ := Z7.k (below_step Z7.z24 hb); have n1_ := Z7.k (hbox); have n2_ := Z7.k (show w.heap.size ≤ gb101 from (by rw [hg]; exact (below_size Z7.z24))); have n3_ := Z7.k (show w.heap.size ≤ gb101 from (by rw [hg]; exact (below_size Z7.z24))); clear HB; have HB := n0_; have BK101 := n1_; have GW101 := n2_; have GE101 := n3_; clear n0_ n1_ n2_ n3_; clear hb hbox hg; have hcz13_0 : w12.cell? ⟨gb101, 0, none⟩ = some (.int .i64 a0_0) := (blk_cell BK101.out 0).trans rfl; have hcz13_1 : w12.cell? ⟨gb101, 1, none⟩ = some (.int .i64 a0_1) := (blk_cell BK101.out 1).trans rfl; have hcz13_2 : w12.cell? ⟨gb101, 2, none⟩ = some (.int .i64 a0_2) := (blk_cell BK101.out 2).trans rfl; have hcz13_3 : w12.cell? ⟨gb101, 3, none⟩ = some (.slice A0_3 l0_3.length c0_3) := (blk_cell BK101.out 3).trans rfl; have hfz13_0 := blk_frozen BK101.out 0; have hfz13_1 := blk_frozen BK101.out 1; have hfz13_2 := blk_frozen BK101.out 2; have hfz13_3 := blk_frozen BK101.out 3) | ((with_reducible refine gate_callee (f := 25) rfl ?_); refine goesL_ (some 16) rfl rfl Try.func25 (by kernel_rfl) rfl #[.agg #[.int .i64 a0_0, .int .i64 a0_1, .int .i64 a0_2, .slice A0_3 l0_3.length c0_3], .int .i64 1048576] rfl Z7.z5 ?_; (with_reducible refine (laws_szMatrix.calls a0_0 a0_1 a0_2 _ _ l0_3 1048576 t102 _ ?side1 ?side2 A2.out).mono ?_); (case side1 => exact Z7.z22); (case side2 => exact HC0_3.out); rintro e w14 ⟨rfl, hb⟩; refine ⟨_, rfl, ?_⟩; have n0_ := Z7.k (Z7.bb BK101 Z7.z1 hb); have n1_ := Z7.k (below_step Z7.z15 hb); clear BK101 HB; have BK101 := n0_; have HB := n1_; clear n0_ n1_; (try clear hb); (try clear hb2); (try clear hk); (try clear hi); have hcz15_0 : w14.cell? ⟨gb101, 0, none⟩ = some (.int .i64 a0_0) := (blk_cell BK101.out 0).trans rfl; have hcz15_1 : w14.cell? ⟨gb101, 1, none⟩ = some (.int .i64 a0_1) := (blk_cell BK101.out 1).trans rfl; have hcz15_2 : w14.cell? ⟨gb101, 2, none⟩ = some (.int .i64 a0_2) := (blk_cell BK101.out 2).trans rfl; have hcz15_3 : w14.cell? ⟨gb101, 3, none⟩ = some (.slice A0_3 l0_3.length c0_3) := (blk_cell BK101.out 3).trans rfl; have hfz15_0 := blk_frozen BK101.out 0; have hfz15_1 := blk_frozen BK101.out 1; have hfz15_2 := blk_frozen BK101.out 2; have hfz15_3 := blk_frozen BK101.out 3) | ((with_reducible refine gate_callee (f := 27) rfl ?_); refine goesL_ (some 21) rfl rfl Try.func27 (by kernel_rfl) rfl #[.agg #[.int .i64 a0_0, .int .i64 a0_1, .int .i64 a0_2, .slice A0_3 l0_3.length c0_3]] rfl Z7.z5 ?_; (with_reducible refine (laws_toMatrix.calls k a0_0 a0_1 a0_2 _ _ l0_3 t103 t104 t105 t106 _ ?side1 ?side2 A7.out).mono ?_); (case side1 => exact Z7.z22); (case side2 => exact HC0_3.out); rintro e w16 ⟨v107, rfl, ho0, hb⟩; refine ⟨_, rfl, ?_⟩; have n0_ := Z7.k (Kd.R_lower ho0 (below_size Z7.z15)); have n1_ := Z7.k (Z7.bb BK101 Z7.z1 hb); have n2_ := Z7.k (below_step Z7.z15 hb); clear BK101 HB; have HO108 := n0_; have BK101 := n1_; have HB := n2_; clear n0_ n1_ n2_; (try clear hb); (try clear hb2); (try clear hk); (try clear hi); (try clear ho0); obtain ⟨Ao17, co17, eo17⟩ := Kd.R_slice HO108.out; subst eo17) | ((with_reducible refine gate_callee (f := 40) rfl ?_); refine goesL_ (some 22) rfl rfl Try.func40 (by kernel_rfl) rfl #[.agg #[.int .i64 t103, .int .i64 t104, .int .i64 t105, .slice Ao17 t106.length co17]] rfl Z7.z5 ?_; (with_reducible refine (spec_InverseMatrix.calls k t103 t104 t105 _ _ t106 t109 t110 t111 t112 t115 _ ?side1 ?side2 A8.out).mono ?_); (case side1 => exact (by repeat (first | exact (Kd.R_reads' HO108.out).2.2 | (with_reducible refine Kd.C_alloc ?_ _) | (with_reducible refine Kd.C_drewN ?_ _) | (with_reducible refine Kd.C_drew ?_)))); (case side2 => exact (Kd.R_reads' HO108.out).2.1); rintro e w18 ⟨v113, rfl, ho0, hb⟩; refine ⟨_, rfl, ?_⟩; have n0_ := Z7.k (Kd.R_elder' Z7.z38 (Kd.R_base ho0) hb); have n1_ := Z7.k (Kd.R_lower (Kd.R_new' ho0 (Kd.R_lt Z7.z38)) (below_size Z7.z15)); have n2_ := Z7.k (Z7.bb BK101 Z7.z1 hb); have n3_ := Z7.k (below_step Z7.z15 hb); clear HO108 BK101 HB; have HO108 := n0_; have HO114 := n1_; have BK101 := n2_; have HB := n3_; clear n0_ n1_ n2_ n3_; (try clear hb); (try clear hb2); (try clear hk); (try clear hi); (try clear ho0)) | ((with_reducible refine gate_dst (N := 4) rfl ?_); refine box_event ?hg (N := 4) ?hd (cs := #[.int .i64 0, .int .i64 0, .int .i64 0, .slice none 0 0]) (t := 27) ?hr ?_; (case hd => rfl); (case hg => rfl); (case hr => first | (go_simp; done) | (go_simp; rfl)); intro gb116 hg w19 hbox hb; have n0_ := Z7.k (Kd.R_below Z7.z38 hb); have n1_ := Z7.k (Kd.R_below Z7.z53 hb); have n2_ := Z7.k (Z7.bb BK101 Z7.z1 hb); have n3_ := Z7.k (below_step Z7.z15 hb); have n4_ := Z7.k (hbox); have n5_ := Z7.k (show w.heap.size ≤ gb116 from (by rw [hg]; exact (below_size Z7.z15))); have n6_ := Z7.k (show w.heap.size ≤ gb116 from (by rw [hg]; exact (below_size Z7.z15))); have n7_ := Z7.k (show gb101 ≠ gb116 from (by rw [hg]; exact Nat.ne_of_lt (Z7.bl BK101 Z7.z1))); have n8_ := Z7.k (show gb116 ≠ gb101 from (by rw [hg]; exact Nat.ne_of_gt (Z7.bl BK101 Z7.z1))); clear HO108 HO114 BK101 HB; have HO108 := n0_; have HO114 := n1_; have BK101 := n2_; have HB := n3_; have BK116 := n4_; have GW116 := n5_; have GE116 := n6_; have NB101_116 := n7_; have NB116_101 := n8_; clear n0_ n1_ n2_ n3_ n4_ n5_ n6_ n7_ n8_; clear hb hbox hg; have hnb20 := NB116_101.out; have hnc20 := NB101_116.out; have hcz21_0 : w19.cell? ⟨gb116, 0, none⟩ = some (.int .i64 0) := (blk_cell BK116.out 0).trans rfl; have hcz21_1 : w19.cell? ⟨gb116, 1, none⟩ = some (.int .i64 0) := (blk_cell BK116.out 1).trans rfl; have hcz21_2 : w19.cell? ⟨gb116, 2, none⟩ = some (.int .i64 0) := (blk_cell BK116.out 2).trans rfl; have hcz21_3 : w19.cell? ⟨gb116, 3, none⟩ = some (.slice none 0 0) := (blk_cell BK116.out 3).trans rfl; have hfz21_0 := blk_frozen BK116.out 0; have hfz21_1 := blk_frozen BK116.out 1; have hfz21_2 := blk_frozen BK116.out 2; have hfz21_3 := blk_frozen BK116.out 3; obtain ⟨Ao22, co22, eo22⟩ := Kd.R_slice HO114.out; subst eo22; have hcz23_0 : w19.cell? ⟨gb101, 0, none⟩ = some (.int .i64 a0_0) := (blk_cell BK101.out 0).trans rfl; have hcz23_1 : w19.cell? ⟨gb101, 1, none⟩ = some (.int .i64 a0_1) := (blk_cell BK101.out 1).trans rfl; have hcz23_2 : w19.cell? ⟨gb101, 2, none⟩ = some (.int .i64 a0_2) := (blk_cell BK101.out 2).trans rfl; have hcz23_3 : w19.cell? ⟨gb101, 3, none⟩ = some (.slice A0_3 l0_3.length c0_3) := (blk_cell BK101.out 3).trans rfl; have hfz23_0 := blk_frozen BK101.out 0; have hfz23_1 := blk_frozen BK101.out 1; have hfz23_2 := blk_frozen BK101.out 2; have hfz23_3 := blk_frozen BK101.out 3) | ((with_reducible refine gate_callee (f := 27) rfl ?_); refine goesL_ (some 26) rfl rfl Try.func27 (by kernel_rfl) rfl #[.agg #[.int .i64 a0_0, .int .i64 a0_1, .int .i64 a0_2, .slice A0_3 l0_3.length c0_3]] rfl Z7.z5 ?_; (with_reducible refine (laws_toMatrix.calls k a0_0 a0_1 a0_2 _ _ l0_3 t117 t118 t119 t120 _ ?side1 ?side2 A9.out).mono ?_); (case side1 => exact (by exact Kd.C_below HR0_3.out Z7.z20)); (case side2 => exact HC0_3.out); rintro e w24 ⟨v121, rfl, ho0, hb⟩; refine ⟨_, rfl, ?_⟩; have n0_ := Z7.k (Kd.R_elder' Z7.z33 (Kd.R_base ho0) hb); have n1_ := Z7.k (Kd.R_elder' Z7.z32 (Kd.R_base ho0) hb); have n2_ := Z7.k (Kd.R_lower (Kd.R_new' (Kd.R_new' ho0 (Kd.R_lt Z7.z33)) (Kd.R_lt Z7.z32)) (below_size Z7.z20)); have n3_ := Z7.k (Z7.bb BK101 (by (repeat (first | (with_reducible first | refine blk_drewN ?_ _ | refine blk_drew ?_ | refine blk_alloc ?_ _) | refine blk_far ?_ NB101_116.out _)); exact BK101.out) hb); have n4_ := Z7.k (blk_below (g := gb116) (o := .cells #[.int .i64 t109, .int .i64 t110, .int .i64 t111, .slice Ao22 t112.length co22] 27 (0, 0)) (by (with_reducible repeat (first | refine blk_drewN ?_ _ | refine blk_drew ?_ | refine blk_alloc ?_ _)); refine blk_put (cs := #[.int .i64 t109, .int .i64 t110, .int .i64 t111, .slice none 0 0]) ?_ 3 _ rfl; (with_reducible repeat (first | refine blk_drewN ?_ _ | refine blk_drew ?_ | refine blk_alloc ?_ _)); refine blk_put (cs := #[.int .i64 t109, .int .i64 t110, .int .i64 0, .slice none 0 0]) ?_ 2 _ rfl; (with_reducible repeat (first | refine blk_drewN ?_ _ | refine blk_drew ?_ | refine blk_alloc ?_ _)); refine blk_put (cs := #[.int .i64 t109, .int .i64 0, .int .i64 0, .slice none 0 0]) ?_ 1 _ rfl; (with_reducible repeat (first | refine blk_drewN ?_ _ | refine blk_drew ?_ | refine blk_alloc ?_ _)); refine blk_put (cs := #[.int .i64 0, .int .i64 0, .int .i64 0, .slice none 0 0]) ?_ 0 _ rfl; (with_reducible repeat (first | refine blk_drewN ?_ _ | refine blk_drew ?_ | refine blk_alloc ?_ _)); exact BK116.out) hb); have n5_ := Z7.k (below_step Z7.z20 hb); clear HO108 HO114 BK101 BK116 HB; have HO108 := n0_; have HO114 := n1_; have HO122 := n2_; have BK101 := n3_; have BK116 := n4_; have HB := n5_; clear n0_ n1_ n2_ n3_ n4_ n5_; (try clear hb); (try clear hb2); (try clear hk); (try clear hi); (try clear ho0)) | ((with_reducible refine gate_dst (N := 6) rfl ?_); refine box_event ?hg (N := 6) ?hd (cs := #[.int .i64 0, .int .i64 0, .int .i64 0, .slice none 0 0]) (t := 27) ?hr ?_; (case hd => rfl); (case hg => rfl); (case hr => first | (go_simp; done) | (go_simp; rfl)); intro gb123 hg w25 hbox hb; have n0_ := Z7.k (Kd.R_below Z7.z38 hb); have n1_ := Z7.k (Kd.R_below Z7.z53 hb); have n2_ := Z7.k (Kd.R_below (by (with_reducible repeat (first | apply Kd.R_alloc | apply Kd.R_drewN | apply Kd.R_drew)); exact HO122.out) hb); have n3_ := Z7.k (Z7.bb BK101 Z7.z1 hb); have n4_ := Z7.k (Z7.bb BK116 Z7.z2 hb); have n5_ := Z7.k (below_step Z7.z20 hb); have n6_ := Z7.k (hbox); have n7_ := Z7.k (show w.heap.size ≤ gb123 from (by rw [hg]; exact (below_size Z7.z20))); have n8_ := Z7.k (show w.heap.size ≤ gb123 from (by rw [hg]; exact (below_size Z7.z20))); have n9_ := Z7.k (show gb101 ≠ gb123 from (by rw [hg]; exact Nat.ne_of_lt (Z7.bl BK101 Z7.z1))); have n10_ := Z7.k (show gb123 ≠ gb101 from (by rw [hg]; exact Nat.ne_of_gt (Z7.bl BK101 Z7.z1))); have n11_ := Z7.k (show gb116 ≠ gb123 from (by rw [hg]; exact Nat.ne_of_lt (Z7.bl BK116 Z7.z2))); have n12_ := Z7.k (show gb123 ≠ gb116 from (by rw [hg]; exact Nat.ne_of_gt (Z7.bl BK116 Z7.z2))); clear HO108 HO114 HO122 BK101 BK116 HB; have HO108 := n0_; have HO114 := n1_; have HO122 := n2_; have BK101 := n3_; have BK116 := n4_; have HB := n5_; have BK123 := n6_; have GW123 := n7_; have GE123 := n8_; have NB101_123 := n9_; have NB123_101 := n10_; have NB116_123 := n11_; have NB123_116 := n12_; clear n0_ n1_ n2_ n3_ n4_ n5_ n6_ n7_ n8_ n9_ n10_ n11_ n12_; clear hb hbox hg; have hnb26 := NB123_101.out; have hnc26 := NB101_123.out; have hnb27 := NB123_116.out; have hnc27 := NB116_123.out; have hcz28_0 : w25.cell? ⟨gb123, 0, none⟩ = some (.int .i64 0) := (blk_cell BK123.out 0).trans rfl; have hcz28_1 : w25.cell? ⟨gb123, 1, none⟩ = some (.int .i64 0) := (blk_cell BK123.out 1).trans rfl; have hcz28_2 : w25.cell? ⟨gb123, 2, none⟩ = some (.int .i64 0) := (blk_cell BK123.out 2).trans rfl; have hcz28_3 : w25.cell? ⟨gb123, 3, none⟩ = some (.slice none 0 0) := (blk_cell BK123.out 3).trans rfl; have hfz28_0 := blk_frozen BK123.out 0; have hfz28_1 := blk_frozen BK123.out 1; have hfz28_2 := blk_frozen BK123.out 2; have hfz28_3 := blk_frozen BK123.out 3; obtain ⟨Ao29, co29, eo29⟩ := Kd.R_slice HO122.out; subst eo29) | ((with_reducible refine gate_callee (f := 22) rfl ?_); refine goesL_ (some 29) rfl rfl Try.func22 (by kernel_rfl) rfl #[.agg #[.int .i64 t117, .int .i64 t118, .int .i64 t119, .slice Ao29 t120.length co29]] rfl Z7.z5 ?_; (with_reducible refine (impl_InverseMatrix.calls k t117 t118 t119 _ _ t120 t124 t125 t126 t127 t130 _ ?side1 ?side2 A10.out).mono ?_); (case side1 => exact (by refine (Kd.R_reads' (e := 2) (base := w.heap.size) (ok := fun k_ => ((True ∧ some k_ ≠ (.slice Ao17 t106.length co17 : Value).ownBlock) ∧ some k_ ≠ (.slice Ao22 t112.length co22 : Value).ownBlock)) (n := t120.length) (c := co29) ?_).2.2; exact Z7.z19)); (case side2 => exact (Kd.R_reads' HO122.out).2.1); rintro e w30 ⟨v128, rfl, ho0, hb⟩; refine ⟨_, rfl, ?_⟩; have n0_ := Z7.k (Kd.R_elder' Z7.z31 (Kd.R_base ho0) hb); have n1_ := Z7.k (Kd.R_elder' Z7.z30 (Kd.R_base ho0) hb); have n2_ := Z7.k (Kd.R_elder' Z7.z19 (Kd.R_base ho0) hb); have n3_ := Z7.k (Kd.R_lower (Kd.R_new' (Kd.R_new' (Kd.R_new' ho0 (Kd.R_lt Z7.z31)) (Kd.R_lt Z7.z30)) (Kd.R_lt Z7.z19)) (below_size Z7.z21)); have n4_ := Z7.k (Z7.bb BK101 (by (repeat (first | (with_reducible first | refine blk_drewN ?_ _ | refine blk_drew ?_ | refine blk_alloc ?_ _) | refine blk_far ?_ NB101_123.out _)); exact BK101.out) hb); have n5_ := Z7.k (Z7.bb BK116 (by (repeat (first | (with_reducible first | refine blk_drewN ?_ _ | refine blk_drew ?_ | refine blk_alloc ?_ _) | refine blk_far ?_ NB116_123.out _)); exact BK116.out) hb); have n6_ := Z7.k (blk_below (g := gb123) (o := .cells #[.int .i64 t117, .int .i64 t118, .int .i64 t119, .slice Ao29 t120.length co29] 27 (0, 0)) (by (with_reducible repeat (first | refine blk_drewN ?_ _ | refine blk_drew ?_ | refine blk_alloc ?_ _)); refine blk_put (cs := #[.int .i64 t117, .int .i64 t118, .int .i64 t119, .slice none 0 0]) ?_ 3 _ rfl; (with_reducible repeat (first | refine blk_drewN ?_ _ | refine blk_drew ?_ | refine blk_alloc ?_ _)); refine blk_put (cs := #[.int .i64 t117, .int .i64 t118, .int .i64 0, .slice none 0 0]) ?_ 2 _ rfl; (with_reducible repeat (first | refine blk_drewN ?_ _ | refine blk_drew ?_ | refine blk_alloc ?_ _)); refine blk_put (cs := #[.int .i64 t117, .int .i64 0, .int .i64 0, .slice none 0 0]) ?_ 1 _ rfl; (with_reducible repeat (first | refine blk_drewN ?_ _ | refine blk_drew ?_ | refine blk_alloc ?_ _)); refine blk_put (cs := #[.int .i64 0, .int .i64 0, .int .i64 0, .slice none 0 0]) ?_ 0 _ rfl; (with_reducible repeat (first | refine blk_drewN ?_ _ | refine blk_drew ?_ | refine blk_alloc ?_ _)); exact BK123.out) hb); have n7_ := Z7.k (below_step Z7.z21 hb); clear HO108 HO114 HO122 BK101 BK116 BK123 HB; have HO108 := n0_; have HO114 := n1_; have HO122 := n2_; have HO129 := n3_; have BK101 := n4_; have BK116 := n5_; have BK123 := n6_; have HB := n7_; clear n0_ n1_ n2_ n3_ n4_ n5_ n6_ n7_; (try clear hb); (try clear hb2); (try clear hk); (try clear hi); (try clear ho0)) | ((with_reducible refine gate_dst (N := 7) rfl ?_); refine box_event ?hg (N := 7) ?hd (cs := #[.int .i64 0, .int .i64 0, .int .i64 0, .slice none 0 0]) (t := 27) ?hr ?_; (case hd => rfl); (case hg => rfl); (case hr => first | (go_simp; done) | (go_simp; rfl)); intro gb131 hg w31 hbox hb; have n0_ := Z7.k (Kd.R_below Z7.z38 hb); have n1_ := Z7.k (Kd.R_below Z7.z53 hb); have n2_ := Z7.k (Kd.R_below (by (with_reducible repeat (first | apply Kd.R_alloc | apply Kd.R_drewN | apply Kd.R_drew)); exact HO122.out) hb); have n3_ := Z7.k (Kd.R_below (by (with_reducible repeat (first | apply Kd.R_alloc | apply Kd.R_drewN | apply Kd.R_drew)); exact HO129.out) hb); have n4_ := Z7.k (Z7.bb BK101 Z7.z1 hb); have n5_ := Z7.k (Z7.bb BK116 Z7.z2 hb); have n6_ := Z7.k (Z7.bb BK123 Z7.z4 hb); have n7_ := Z7.k (below_step Z7.z21 hb); have n8_ := Z7.k (hbox); have n9_ := Z7.k (show w.heap.size ≤ gb131 from (by rw [hg]; exact (below_size Z7.z21))); have n10_ := Z7.k (show w.heap.size ≤ gb131 from (by rw [hg]; exact (below_size Z7.z21))); have n11_ := Z7.k (show gb101 ≠ gb131 from (by rw [hg]; exact Nat.ne_of_lt (Z7.bl BK101 Z7.z1))); have n12_ := Z7.k (show gb131 ≠ gb101 from (by rw [hg]; exact Nat.ne_of_gt (Z7.bl BK101 Z7.z1))); have n13_ := Z7.k (show gb116 ≠ gb131 from (by rw [hg]; exact Nat.ne_of_lt (Z7.bl BK116 Z7.z2))); have n14_ := Z7.k (show gb131 ≠ gb116 from (by rw [hg]; exact Nat.ne_of_gt (Z7.bl BK116 Z7.z2))); have n15_ := Z7.k (show gb123 ≠ gb131 from (by rw [hg]; exact Nat.ne_of_lt (Z7.bl BK123 Z7.z4))); have n16_ := Z7.k (show gb131 ≠ gb123 from (by rw [hg]; exact Nat.ne_of_gt (Z7.bl BK123 Z7.z4))); clear HO108 HO114 HO122 HO129 BK101 BK116 BK123 HB; have HO108 := n0_; have HO114 := n1_; have HO122 := n2_; have HO129 := n3_; have BK101 := n4_; have BK116 := n5_; have BK123 := n6_; have HB := n7_; have BK131 := n8_; have GW131 := n9_; have GE131 := n10_; have NB101_131 := n11_; have NB131_101 := n12_; have NB116_131 := n13_; have NB131_116 := n14_; have NB123_131 := n15_; have NB131_123 := n16_; clear n0_ n1_ n2_ n3_ n4_ n5_ n6_ n7_ n8_ n9_ n10_ n11_ n12_ n13_ n14_ n15_ n16_; clear hb hbox hg; have hnb32 := NB131_101.out; have hnc32 := NB101_131.out; have hnb33 := NB131_116.out; have hnc33 := NB116_131.out; have hnb34 := NB131_123.out; have hnc34 := NB123_131.out; have hcz35_0 : w31.cell? ⟨gb131, 0, none⟩ = some (.int .i64 0) := (blk_cell BK131.out 0).trans rfl; have hcz35_1 : w31.cell? ⟨gb131, 1, none⟩ = some (.int .i64 0) := (blk_cell BK131.out 1).trans rfl; have hcz35_2 : w31.cell? ⟨gb131, 2, none⟩ = some (.int .i64 0) := (blk_cell BK131.out 2).trans rfl; have hcz35_3 : w31.cell? ⟨gb131, 3, none⟩ = some (.slice none 0 0) := (blk_cell BK131.out 3).trans rfl; have hfz35_0 := blk_frozen BK131.out 0; have hfz35_1 := blk_frozen BK131.out 1; have hfz35_2 := blk_frozen BK131.out 2; have hfz35_3 := blk_frozen BK131.out 3; obtain ⟨Ao36, co36, eo36⟩ := Kd.R_slice HO129.out; subst eo36))
 (try simp only [Act.put, List.setIfInBounds_toArray, List.set_cons_zero, List.set_cons_succ])
 go_cut [40] (fun v40 wc => ∃ (kq : Nat) (x40_10 : Bool), v40 = .bool x40_10 ∧ Aside0 (laws_FnExactInverseMatrix.j0 kq t115 t130 x40_10 a0_0 a0_1 a0_2 l0_3 t109 t110 t111 t112 t117 t118 t119 t120 t124 t125 t126 t127 = some r) ∧ Aside0 (kq ≤ k) ∧ Aside0 (Kd.R (Kd.int .i64) 2 wc w.heap.size (fun k_ => some k_ ≠ ((.slice Ao29 t120.length co29) : Value).ownBlock ∧ some k_ ≠ ((.slice Ao36 t127.length co36) : Value).ownBlock) (.slice Ao22 t112.length co22) t112) ∧ Aside0 (Kd.R (Kd.int .i64) 2 wc w.heap.size (fun k_ => some k_ ≠ ((.slice Ao22 t112.length co22) : Value).ownBlock ∧ some k_ ≠ ((.slice Ao36 t127.length co36) : Value).ownBlock) (.slice Ao29 t120.length co29) t120) ∧ Aside0 (Kd.R (Kd.int .i64) 2 wc w.heap.size (fun k_ => some k_ ≠ ((.slice Ao22 t112.length co22) : Value).ownBlock ∧ some k_ ≠ ((.slice Ao29 t120.length co29) : Value).ownBlock) (.slice Ao36 t127.length co36) t127) ∧ Aside0 (wc.heap[gb101]? = some (.cells #[.int .i64 a0_0, .int .i64 a0_1, .int .i64 a0_2, (.slice A0_3 l0_3.length c0_3)] 40 (0, 0))) ∧ Aside0 (wc.heap[gb116]? = some (.cells #[.int .i64 t109, .int .i64 t110, .int .i64 t111, (.slice Ao22 t112.length co22)] 27 (0, 0))) ∧ Aside0 (wc.heap[gb123]? = some (.cells #[.int .i64 t117, .int .i64 t118, .int .i64 t119, (.slice Ao29 t120.length co29)] 27 (0, 0))) ∧ Aside0 (wc.heap[gb131]? = some (.cells #[.int .i64 t124, .int .i64 t125, .int .i64 t126, (.slice Ao36 t127.length co36)] 27 (0, 0))) ∧ Aside0 (Below w.heap.size w wc))
 case first =>
  have H := HC11.out
  clear HC11
  replace H := Option.bind_eq_some_iff.mp H
  obtain ⟨t132, A370, H⟩ := H
  replace H : (if t132 = true then (laws_FnExactInverseMatrix.j0 k t115 t130 (t130 != t115) a0_0 a0_1 a0_2 l0_3 t109 t110 t111 t112 t117 t118 t119 t120 t124 t125 t126 t127) else (laws_FnExactInverseMatrix.j0 k t115 t130 true a0_0 a0_1 a0_2 l0_3 t109 t110 t111 t112 t117 t118 t119 t120 t124 t125 t126 t127)) = some r := H
  have A37 := Z7.k A370
  clear A370
  by_cases c38 : t132 = true
  ·subst c38
   have H1 : (laws_FnExactInverseMatrix.j0 k t115 t130 (t130 != t115) a0_0 a0_1 a0_2 l0_3 t109 t110 t111 t112 t117 t118 t119 t120 t124 t125 t126 t127) = some r := by rw [if_pos rfl] at H; exact H
   clear H
   have H := H1
   clear H1
   have H' := Z7.k H
   clear H
   have hnb39 := NB131_101.out
   have hnc39 := NB101_131.out
   have hnb40 := NB131_116.out
   have hnc40 := NB116_131.out
   have hnb41 := NB131_123.out
   have hnc41 := NB123_131.out
   have hcz42_0 : w31.cell? ⟨gb131, 0, none⟩ = some (.int .i64 0) := (blk_cell BK131.out 0).trans rfl
   have hcz42_1 : w31.cell? ⟨gb131, 1, none⟩ = some (.int .i64 0) := (blk_cell BK131.out 1).trans rfl
   have hcz42_2 : w31.cell? ⟨gb131, 2, none⟩ = some (.int .i64 0) := (blk_cell BK131.out 2).trans rfl
   have hcz42_3 : w31.cell? ⟨gb131, 3, none⟩ = some (.slice none 0 0) := (blk_cell BK131.out 3).trans rfl
   have hfz42_0 := blk_frozen BK131.out 0
   have hfz42_1 := blk_frozen BK131.out 1
   have hfz42_2 := blk_frozen BK131.out 2
   have hfz42_3 := blk_frozen BK131.out 3
   have hnb43 := NB116_101.out
   have hnc43 := NB101_116.out
   have hnb44 := NB116_123.out
   have hnc44 := NB123_116.out
   have hcz45_0 : w31.cell? ⟨gb116, 0, none⟩ = some (.int .i64 t109) := (blk_cell BK116.out 0).trans rfl
   have hcz45_1 : w31.cell? ⟨gb116, 1, none⟩ = some (.int .i64 t110) := (blk_cell BK116.out 1).trans rfl
   have hcz45_2 : w31.cell? ⟨gb116, 2, none⟩ = some (.int .i64 t111) := (blk_cell BK116.out 2).trans rfl
   have hcz45_3 : w31.cell? ⟨gb116, 3, none⟩ = some (.slice Ao22 t112.length co22) := (blk_cell BK116.out 3).trans rfl
   have hfz45_0 := blk_frozen BK116.out 0
   have hfz45_1 := blk_frozen BK116.out 1
   have hfz45_2 := blk_frozen BK116.out 2
   have hfz45_3 := blk_frozen BK116.out 3
   go_wp2_with (first | ((with_reducible refine gate_callee (f := 31) rfl ?_); refine goesL_ (some 34) rfl rfl Try.func31 (by kernel_rfl) rfl #[.agg #[.int .i64 t124, .int .i64 t125, .int .i64 t126, .slice Ao36 t127.length co36], .agg #[.int .i64 t109, .int .i64 t110, .int .i64 t111, .slice Ao22 t112.length co22]] rfl Z7.z5 ?_; (with_reducible refine (laws_eqMatrix.calls k t124 t125 t126 _ _ t127 t109 t110 t111 _ _ t112 true _ ?side1 ?side2 ?side3 ?side4 A37.out).mono ?_); (case side1 => exact Z7.z40); (case side2 => exact (Kd.R_reads' HO129.out).2.1); (case side3 => exact Z7.z39); (case side4 => exact (Kd.R_reads' HO114.out).2.1); rintro e w46 ⟨rfl, hb⟩; refine ⟨_, rfl, ?_⟩; have n0_ := Z7.k (Kd.R_below Z7.z29 hb); have n1_ := Z7.k (Kd.R_below Z7.z13 hb); have n2_ := Z7.k (Kd.R_below Z7.z28 hb); have n3_ := Z7.k (Kd.R_below Z7.z12 hb); have n4_ := Z7.k (Z7.bb BK101 Z7.z63 hb); have n5_ := Z7.k (Z7.bb BK116 Z7.z61 hb); have n6_ := Z7.k (Z7.bb BK123 Z7.z59 hb); have n7_ := Z7.k (blk_below (g := gb131) (o := .cells #[.int .i64 t124, .int .i64 t125, .int .i64 t126, .slice Ao36 t127.length co36] 27 (0, 0)) Z7.z18 hb); have n8_ := Z7.k (below_step Z7.z0 hb); clear HO108 HO114 HO122 HO129 BK101 BK116 BK123 BK131 HB; have HO108 := n0_; have HO114 := n1_; have HO122 := n2_; have HO129 := n3_; have BK101 := n4_; have BK116 := n5_; have BK123 := n6_; have BK131 := n7_; have HB := n8_; clear n0_ n1_ n2_ n3_ n4_ n5_ n6_ n7_ n8_; (try clear hb); (try clear hb2); (try clear hk); (try clear hi)))
   go_meet
   case rel => exact ⟨_, ((t130 != t115)), Z7.z72, H', ⟨(by first | omega | exact Nat.le_refl _)⟩, ⟨Z7.z71⟩, ⟨Z7.z70⟩, ⟨Z7.z69⟩, ⟨Z7.z1⟩, ⟨Z7.z2⟩, ⟨Z7.z4⟩, ⟨Z7.z6⟩, ⟨Z7.z0⟩⟩
  replace c38 := Bool.eq_false_iff.mpr c38
  subst c38
  have H1 : (laws_FnExactInverseMatrix.j0 k t115 t130 true a0_0 a0_1 a0_2 l0_3 t109 t110 t111 t112 t117 t118 t119 t120 t124 t125 t126 t127) = some r := by rw [if_neg (show ¬ (false = true) by decide)] at H; exact H
  clear H
  have H := H1
  clear H1
  have H' := Z7.k H
  clear H
  have hnb47 := NB131_101.out
  have hnc47 := NB101_131.out
  have hnb48 := NB131_116.out
  have hnc48 := NB116_131.out
  have hnb49 := NB131_123.out
  have hnc49 := NB123_131.out
  have hcz50_0 : w31.cell? ⟨gb131, 0, none⟩ = some (.int .i64 0) := (blk_cell BK131.out 0).trans rfl
  have hcz50_1 : w31.cell? ⟨gb131, 1, none⟩ = some (.int .i64 0) := (blk_cell BK131.out 1).trans rfl
  have hcz50_2 : w31.cell? ⟨gb131, 2, none⟩ = some (.int .i64 0) := (blk_cell BK131.out 2).trans rfl
  have hcz50_3 : w31.cell? ⟨gb131, 3, none⟩ = some (.slice none 0 0) := (blk_cell BK131.out 3).trans rfl
  have hfz50_0 := blk_frozen BK131.out 0
  have hfz50_1 := blk_frozen BK131.out 1
  have hfz50_2 := blk_frozen BK131.out 2
  have hfz50_3 := blk_frozen BK131.out 3
  have hnb51 := NB116_101.out
  have hnc51 := NB101_116.out
  have hnb52 := NB116_123.out
  have hnc52 := NB123_116.out
  have hcz53_0 : w31.cell? ⟨gb116, 0, none⟩ = some (.int .i64 t109) := (blk_cell BK116.out 0).trans rfl
  have hcz53_1 : w31.cell? ⟨gb116, 1, none⟩ = some (.int .i64 t110) := (blk_cell BK116.out 1).trans rfl
  have hcz53_2 : w31.cell? ⟨gb116, 2, none⟩ = some (.int .i64 t111) := (blk_cell BK116.out 2).trans rfl
  have hcz53_3 : w31.cell? ⟨gb116, 3, none⟩ = some (.slice Ao22 t112.length co22) := (blk_cell BK116.out 3).trans rfl
  have hfz53_0 := blk_frozen BK116.out 0
  have hfz53_1 := blk_frozen BK116.out 1
  have hfz53_2 := blk_frozen BK116.out 2
  have hfz53_3 := blk_frozen BK116.out 3
  go_wp2_with (first | ((with_reducible refine gate_callee (f := 31) rfl ?_); refine goesL_ (some 34) rfl rfl Try.func31 (by kernel_rfl) rfl #[.agg #[.int .i64 t124, .int .i64 t125, .int .i64 t126, .slice Ao36 t127.length co36], .agg #[.int .i64 t109, .int .i64 t110, .int .i64 t111, .slice Ao22 t112.length co22]] rfl Z7.z5 ?_; (with_reducible refine (laws_eqMatrix.calls k t124 t125 t126 _ _ t127 t109 t110 t111 _ _ t112 false _ ?side1 ?side2 ?side3 ?side4 A37.out).mono ?_); (case side1 => exact Z7.z40); (case side2 => exact (Kd.R_reads' HO129.out).2.1); (case side3 => exact Z7.z39); (case side4 => exact (Kd.R_reads' HO114.out).2.1); rintro e w54 ⟨rfl, hb⟩; refine ⟨_, rfl, ?_⟩; have n0_ := Z7.k (Kd.R_below Z7.z29 hb); have n1_ := Z7.k (Kd.R_below Z7.z13 hb); have n2_ := Z7.k (Kd.R_below Z7.z28 hb); have n3_ := Z7.k (Kd.R_below Z7.z12 hb); have n4_ := Z7.k (Z7.bb BK101 Z7.z63 hb); have n5_ := Z7.k (Z7.bb BK116 Z7.z61 hb); have n6_ := Z7.k (Z7.bb BK123 Z7.z59 hb); have n7_ := Z7.k (blk_below (g := gb131) (o := .cells #[.int .i64 t124, .int .i64 t125, .int .i64 t126, .slice Ao36 t127.length co36] 27 (0, 0)) Z7.z18 hb); have n8_ := Z7.k (below_step Z7.z0 hb); clear HO108 HO114 HO122 HO129 BK101 BK116 BK123 BK131 HB; have HO108 := n0_; have HO114 := n1_; have HO122 := n2_; have HO129 := n3_; have BK101 := n4_; have BK116 := n5_; have BK123 := n6_; have BK131 := n7_; have HB := n8_; clear n0_ n1_ n2_ n3_ n4_ n5_ n6_ n7_ n8_; (try clear hb); (try clear hb2); (try clear hk); (try clear hi)))
  go_meet
  case rel => exact ⟨_, (true), Z7.z72, H', ⟨(by first | omega | exact Nat.le_refl _)⟩, ⟨Z7.z71⟩, ⟨Z7.z70⟩, ⟨Z7.z69⟩, ⟨Z7.z1⟩, ⟨Z7.z2⟩, ⟨Z7.z4⟩, ⟨Z7.z6⟩, ⟨Z7.z0⟩⟩
 case rest =>
  clear HC11
  try clear c2
  try clear p2
  try clear c3
  try clear c3b0
  try clear c4
  try clear c5
  try clear c7
  try clear c20
  try clear c22
  try clear c25
  try clear c26
  try clear c27
  try clear c31
  try clear c32
  try clear c33
  try clear c34
  try clear c38
  try clear c39
  try clear c40
  try clear c41
  try clear c43
  try clear c44
  try clear c47
  try clear c48
  try clear c49
  try clear c51
  try clear c52
  try clear hcz13_0
  try clear hcz13_1
  try clear hcz13_2
  try clear hcz13_3
  try clear hcz15_0
  try clear hcz15_1
  try clear hcz15_2
  try clear hcz15_3
  try clear hcz21_0
  try clear hcz21_1
  try clear hcz21_2
  try clear hcz21_3
  try clear hcz23_0
  try clear hcz23_1
  try clear hcz23_2
  try clear hcz23_3
  try clear hcz28_0
  try clear hcz28_1
  try clear hcz28_2
  try clear hcz28_3
  try clear hcz35_0
  try clear hcz35_1
  try clear hcz35_2
  try clear hcz35_3
  try clear hcz42_0
  try clear hcz42_1
  try clear hcz42_2
  try clear hcz42_3
  try clear hcz45_0
  try clear hcz45_1
  try clear hcz45_2
  try clear hcz45_3
  try clear hcz50_0
  try clear hcz50_1
  try clear hcz50_2
  try clear hcz50_3
  try clear hcz53_0
  try clear hcz53_1
  try clear hcz53_2
  try clear hcz53_3
  try clear hcz5_0
  try clear hcz5_1
  try clear hcz5_2
  try clear hcz5_3
  try clear hfz13_0
  try clear hfz13_1
  try clear hfz13_2
  try clear hfz13_3
  try clear hfz15_0
  try clear hfz15_1
  try clear hfz15_2
  try clear hfz15_3
  try clear hfz21_0
  try clear hfz21_1
  try clear hfz21_2
  try clear hfz21_3
  try clear hfz23_0
  try clear hfz23_1
  try clear hfz23_2
  try clear hfz23_3
  try clear hfz28_0
  try clear hfz28_1
  try clear hfz28_2
  try clear hfz28_3
  try clear hfz35_0
  try clear hfz35_1
  try clear hfz35_2
  try clear hfz35_3
  try clear hfz42_0
  try clear hfz42_1
  try clear hfz42_2
  try clear hfz42_3
  try clear hfz45_0
  try clear hfz45_1
  try clear hfz45_2
  try clear hfz45_3
  try clear hfz50_0
  try clear hfz50_1
  try clear hfz50_2
  try clear hfz50_3
  try clear hfz53_0
  try clear hfz53_1
  try clear hfz53_2
  try clear hfz53_3
  try clear hfz5_0
  try clear hfz5_1
  try clear hfz5_2
  try clear hfz5_3
  obtain ⟨kq, x40_10, rfl, HA, HJ10, HO_117003, HO_124003, HO_132003, BK101, BK116, BK123, BK131, HB⟩ := hcut
  cases kq with
  | zero => exact absurd HA.out (by simp [laws_FnExactInverseMatrix.j0])
  | succ kj10 =>
   have H := HA.out
   clear HA
   simp only [laws_FnExactInverseMatrix.j0] at H
   by_cases c55 : x40_10 = true
   ·subst c55
    have H1 : (some false) = some r := by rw [if_pos rfl] at H; exact H
    clear H
    have H := H1
    clear H1
    obtain rfl := Option.some.inj H
    go_wp2
    go_ret
    exact ⟨Z7.z23, Z7.z0⟩
   replace c55 := Bool.eq_false_iff.mpr c55
   subst c55
   have H1 : ((laws_toMatrix.f kj10 a0_0 a0_1 a0_2 l0_3).bind fun bt133 => ((laws_eqMatrix.f kj10 t117 t118 t119 t120 bt133.1 bt133.2.1 bt133.2.2.1 bt133.2.2.2).bind fun t139 => (if t139 = true then ((laws_markMatrix.f kj10 t117 t118 t119 t120 1).bind fun bt140 => (if bt140.1 < 0 then (laws_FnExactInverseMatrix.j1 kj10 t115 true a0_0 a0_1 a0_2 l0_3 t109 t110 t111 t112 t124 t125 t126 t127) else ((laws_eqMatrix.f kj10 t124 t125 t126 t127 t109 t110 t111 t112).bind fun t142 => (if t142 = true then (laws_FnExactInverseMatrix.j1 kj10 t115 (t130 != t115) a0_0 a0_1 a0_2 l0_3 t109 t110 t111 t112 t124 t125 t126 t127) else (laws_FnExactInverseMatrix.j1 kj10 t115 true a0_0 a0_1 a0_2 l0_3 t109 t110 t111 t112 t124 t125 t126 t127))))) else (some false)))) = some r := by rw [if_neg (show ¬ (false = true) by decide)] at H; exact H
   clear H
   have H := H1
   clear H1
   replace H := Option.bind_eq_some_iff.mp H
   obtain ⟨⟨t133, t134, t135, t136⟩, A560, H⟩ := H
   replace H : ((laws_eqMatrix.f kj10 t117 t118 t119 t120 t133 t134 t135 t136).bind fun t139 => (if t139 = true then ((laws_markMatrix.f kj10 t117 t118 t119 t120 1).bind fun bt140 => (if bt140.1 < 0 then (laws_FnExactInverseMatrix.j1 kj10 t115 true a0_0 a0_1 a0_2 l0_3 t109 t110 t111 t112 t124 t125 t126 t127) else ((laws_eqMatrix.f kj10 t124 t125 t126 t127 t109 t110 t111 t112).bind fun t142 => (if t142 = true then (laws_FnExactInverseMatrix.j1 kj10 t115 (t130 != t115) a0_0 a0_1 a0_2 l0_3 t109 t110 t111 t112 t124 t125 t126 t127) else (laws_FnExactInverseMatrix.j1 kj10 t115 true a0_0 a0_1 a0_2 l0_3 t109 t110 t111 t112 t124 t125 t126 t127))))) else (some false))) = some r := H
   have A56 := Z7.k A560
   clear A560
   replace H := Option.bind_eq_some_iff.mp H
   obtain ⟨t139, A570, H⟩ := H
   replace H : (if t139 = true then ((laws_markMatrix.f kj10 t117 t118 t119 t120 1).bind fun bt140 => (if bt140.1 < 0 then (laws_FnExactInverseMatrix.j1 kj10 t115 true a0_0 a0_1 a0_2 l0_3 t109 t110 t111 t112 t124 t125 t126 t127) else ((laws_eqMatrix.f kj10 t124 t125 t126 t127 t109 t110 t111 t112).bind fun t142 => (if t142 = true then (laws_FnExactInverseMatrix.j1 kj10 t115 (t130 != t115) a0_0 a0_1 a0_2 l0_3 t109 t110 t111 t112 t124 t125 t126 t127) else (laws_FnExactInverseMatrix.j1 kj10 t115 true a0_0 a0_1 a0_2 l0_3 t109 t110 t111 t112 t124 t125 t126 t127))))) else (some false)) = some r := H
   have A57 := Z7.k A570
   clear A570
   by_cases c58 : t139 = true
   ·subst c58
    have H1 : ((laws_markMatrix.f kj10 t117 t118 t119 t120 1).bind fun bt140 => (if bt140.1 < 0 then (laws_FnExactInverseMatrix.j1 kj10 t115 true a0_0 a0_1 a0_2 l0_3 t109 t110 t111 t112 t124 t125 t126 t127) else ((laws_eqMatrix.f kj10 t124 t125 t126 t127 t109 t110 t111 t112).bind fun t142 => (if t142 = true then (laws_FnExactInverseMatrix.j1 kj10 t115 (t130 != t115) a0_0 a0_1 a0_2 l0_3 t109 t110 t111 t112 t124 t125 t126 t127) else (laws_FnExactInverseMatrix.j1 kj10 t115 true a0_0 a0_1 a0_2 l0_3 t109 t110 t111 t112 t124 t125 t126 t127))))) = some r := by rw [if_pos rfl] at H; exact H
    clear H
    have H := H1
    clear H1
    replace H := Option.bind_eq_some_iff.mp H
    obtain ⟨⟨t140, t141⟩, A590, H⟩ := H
    replace H : (if t140 < 0 then (laws_FnExactInverseMatrix.j1 kj10 t115 true a0_0 a0_1 a0_2 l0_3 t109 t110 t111 t112 t124 t125 t126 t127) else ((laws_eqMatrix.f kj10 t124 t125 t126 t127 t109 t110 t111 t112).bind fun t142 => (if t142 = true then (laws_FnExactInverseMatrix.j1 kj10 t115 (t130 != t115) a0_0 a0_1 a0_2 l0_3 t109 t110 t111 t112 t124 t125 t126 t127) else (laws_FnExactInverseMatrix.j1 kj10 t115 true a0_0 a0_1 a0_2 l0_3 t109 t110 t111 t112 t124 t125 t126 t127)))) = some r := H
    have A59 := Z7.k A590
    clear A590
    have HC60 := Z7.k H
    clear H
    try go_wp2
    have n0_ := Z7.k (Kd.R_drew HO_117003.out)
    have n1_ := Z7.k (Kd.R_drew HO_124003.out)
    have n2_ := Z7.k (Kd.R_drew HO_132003.out)
    have n3_ := Z7.k (blk_drew BK101.out)
    have n4_ := Z7.k (blk_drew BK116.out)
    have n5_ := Z7.k (blk_drew BK123.out)
    have n6_ := Z7.k (blk_drew BK131.out)
    have n7_ := Z7.k (below_drew1 HB.out)
    clear HO_117003 HO_124003 HO_132003 BK101 BK116 BK123 BK131 HB
    have HO_117003 := n0_
    have HO_124003 := n1_
    have HO_132003 := n2_
    have BK101 := n3_
    have BK116 := n4_
    have BK123 := n5_
    have BK131 := n6_
    have HB := n7_
    clear n0_ n1_ n2_ n3_ n4_ n5_ n6_ n7_
    refine start_ (n := 5) (S := fun w' => w'.cell? ⟨gb123, 0, none⟩ = some (.int .i64 t117) ∧ w'.cell? ⟨gb123, 1, none⟩ = some (.int .i64 t118) ∧ w'.cell? ⟨gb123, 2, none⟩ = some (.int .i64 t119) ∧ w'.cell? ⟨gb123, 3, none⟩ = some (.slice Ao29 t120.length co29) ∧ w'.cell? ⟨gb101, 0, none⟩ = some (.int .i64 a0_0) ∧ w'.cell? ⟨gb101, 1, none⟩ = some (.int .i64 a0_1) ∧ w'.cell? ⟨gb101, 2, none⟩ = some (.int .i64 a0_2) ∧ w'.cell? ⟨gb101, 3, none⟩ = some (.slice A0_3 l0_3.length c0_3)) (ds := []) #[false, false, false, false, false] (by kernel_rfl) rfl rfl Z7.z14 (fun hHeld => ?_)
    generalize wc.drew = w61 at HO_117003 HO_124003 HO_132003 BK101 BK116 BK123 BK131 HB hHeld ⊢
    refine Z7.pT8 0 41 (Z7.b 5 1) (by kernel_rfl) hHeld ?_
    refine Z7.pT8 1 42 (Z7.b 5 3) (by kernel_rfl) hHeld ?_
    refine one_ (i := 2) (N := some 43) (Z7.b 5 7) rfl rfl (by kernel_rfl) (by decide) (fun K hK => ?_)
    refine goes_ Try.func27 (by kernel_rfl) rfl #[.agg #[.int .i64 a0_0, .int .i64 a0_1, .int .i64 a0_2, .slice A0_3 l0_3.length c0_3]] (by rfl) rfl rfl Z7.z5 ?_
    with_reducible refine (laws_toMatrix.calls kj10 a0_0 a0_1 a0_2 _ _ l0_3 t133 t134 t135 t136 _ ?side1 ?side2 A56.out).mono ?_
    (case side1 => exact Z7.z22)
    (case side2 => exact HC0_3.out)
    rintro e w62 ⟨v137, rfl, ho0, hb⟩
    refine ⟨_, rfl, ?_⟩
    have n0_ := Z7.k (Kd.R_elder' Z7.z9 (Kd.R_base ho0) hb)
    have n1_ := Z7.k (Kd.R_elder' Z7.z8 (Kd.R_base ho0) hb)
    have n2_ := Z7.k (Kd.R_elder' Z7.z7 (Kd.R_base ho0) hb)
    have n3_ := Z7.k (Kd.R_lower (Kd.R_new' (Kd.R_new' (Kd.R_new' ho0 (Kd.R_lt Z7.z9)) (Kd.R_lt Z7.z8)) (Kd.R_lt Z7.z7)) (below_size Z7.z0))
    have n4_ := Z7.k (Z7.bb BK101 Z7.z1 hb)
    have n5_ := Z7.k (Z7.bb BK116 Z7.z2 hb)
    have n6_ := Z7.k (Z7.bb BK123 Z7.z4 hb)
    have n7_ := Z7.k (Z7.bb BK131 Z7.z6 hb)
    have n8_ := Z7.k (below_step Z7.z0 hb)
    clear HO_117003 HO_124003 HO_132003 BK101 BK116 BK123 BK131 HB
    have HO_117003 := n0_
    have HO_124003 := n1_
    have HO_132003 := n2_
    have HO138 := n3_
    have BK101 := n4_
    have BK116 := n5_
    have BK123 := n6_
    have BK131 := n7_
    have HB := n8_
    clear n0_ n1_ n2_ n3_ n4_ n5_ n6_ n7_ n8_
    (try clear hb)
    (try clear hb2)
    (try clear hk)
    (try clear hi)
    (try clear ho0)
    obtain ⟨Ao63, co63, eo63⟩ := Kd.R_slice HO138.out
    (first | subst eo63 | (injection eo63 with f1_ f2_ f3_; have f4_ := f1_.symm; have f5_ := f3_.symm; clear f1_ f2_ f3_; subst f4_; subst f5_))
    refine hK.out _ _ Z7.z14 (fun hHeld => ?_)
    clear hK K
    refine norm_ (a' := ?_) ?_ ?_
    rotate_left
    ·show Act.put _ (some 43) _ = _
     simp only [Act.put, List.setIfInBounds_toArray, List.set_cons_zero, List.set_cons_succ, i64_w, i32_w]
     rfl
    refine one_ (i := 3) (N := some 44) (Z7.b 5 15) rfl rfl (by kernel_rfl) (by decide) (fun K hK => ?_)
    refine goes_ Try.func31 (by kernel_rfl) rfl #[.agg #[.int .i64 t117, .int .i64 t118, .int .i64 t119, .slice Ao29 t120.length co29], .agg #[.int .i64 t133, .int .i64 t134, .int .i64 t135, .slice Ao63 t136.length co63]] (by rfl) rfl rfl Z7.z5 ?_
    with_reducible refine (laws_eqMatrix.calls kj10 t117 t118 t119 _ _ t120 t133 t134 t135 _ _ t136 true _ ?side1 ?side2 ?side3 ?side4 A57.out).mono ?_
    (case side1 => exact Z7.z54)
    (case side2 => exact (Kd.R_reads' HO_124003.out).2.1)
    (case side3 => exact Z7.z56)
    (case side4 => exact (Kd.R_reads' HO138.out).2.1)
    rintro e w64 ⟨rfl, hb⟩
    refine ⟨_, rfl, ?_⟩
    have n0_ := Z7.k (Kd.R_below Z7.z9 hb)
    have n1_ := Z7.k (Kd.R_below Z7.z8 hb)
    have n2_ := Z7.k (Kd.R_below Z7.z7 hb)
    have n3_ := Z7.k (Kd.R_below Z7.z44 hb)
    have n4_ := Z7.k (Z7.bb BK101 Z7.z1 hb)
    have n5_ := Z7.k (Z7.bb BK116 Z7.z2 hb)
    have n6_ := Z7.k (Z7.bb BK123 Z7.z4 hb)
    have n7_ := Z7.k (Z7.bb BK131 Z7.z6 hb)
    have n8_ := Z7.k (below_step Z7.z0 hb)
    clear HO_117003 HO_124003 HO_132003 HO138 BK101 BK116 BK123 BK131 HB
    have HO_117003 := n0_
    have HO_124003 := n1_
    have HO_132003 := n2_
    have HO138 := n3_
    have BK101 := n4_
    have BK116 := n5_
    have BK123 := n6_
    have BK131 := n7_
    have HB := n8_
    clear n0_ n1_ n2_ n3_ n4_ n5_ n6_ n7_ n8_
    (try clear hb)
    (try clear hb2)
    (try clear hk)
    (try clear hi)
    refine hK.out _ _ Z7.z14 (fun hHeld => ?_)
    clear hK K
    refine norm_ (a' := ?_) ?_ ?_
    rotate_left
    ·show Act.put _ (some 44) _ = _
     simp only [Act.put, List.setIfInBounds_toArray, List.set_cons_zero, List.set_cons_succ, i64_w, i32_w]
     rfl
    refine Z7.pP 4 45 (Z7.b 5 31) (by kernel_rfl) ?_
    refine done_ (by kernel_rfl) ?_
    have hnb65 := NB123_101.out
    have hnc65 := NB101_123.out
    have hnb66 := NB123_116.out
    have hnc66 := NB116_123.out
    have hnb67 := NB123_131.out
    have hnc67 := NB131_123.out
    have hcz68_0 : w64.cell? ⟨gb123, 0, none⟩ = some (.int .i64 t117) := (blk_cell BK123.out 0).trans rfl
    have hcz68_1 : w64.cell? ⟨gb123, 1, none⟩ = some (.int .i64 t118) := (blk_cell BK123.out 1).trans rfl
    have hcz68_2 : w64.cell? ⟨gb123, 2, none⟩ = some (.int .i64 t119) := (blk_cell BK123.out 2).trans rfl
    have hcz68_3 : w64.cell? ⟨gb123, 3, none⟩ = some (.slice Ao29 t120.length co29) := (blk_cell BK123.out 3).trans rfl
    have hfz68_0 := blk_frozen BK123.out 0
    have hfz68_1 := blk_frozen BK123.out 1
    have hfz68_2 := blk_frozen BK123.out 2
    have hfz68_3 := blk_frozen BK123.out 3
    go_upto_region 14 with (first | ((with_reducible refine gate_callee (f := 32) rfl ?_); refine goesL_ (some 48) rfl rfl Try.func32 (by kernel_rfl) rfl #[.agg #[.int .i64 t117, .int .i64 t118, .int .i64 t119, .slice Ao29 t120.length co29], .int .i64 1] rfl Z7.z5 ?_; (with_reducible refine (laws_markMatrix.calls kj10 t117 t118 t119 (fun k_ => some k_ = (.slice Ao29 t120.length co29 : Value).ownBlock) (.slice Ao29 t120.length co29) t120 1 t140 t141 w _ ?side1 ?side2 A59.out).mono ?_); (case side1 => exact Z7.z0); (case side2 => exact Kd.R_tight rfl HO_124003.out); rintro e w69 ⟨rfl, hy0, hb, hkp⟩; refine ⟨_, rfl, ?_⟩; have n0_ := Z7.k (Kd.R_mono (ok' := fun k_ => some k_ ≠ (.slice Ao29 t120.length co29 : Value).ownBlock ∧ some k_ ≠ (.slice Ao36 t127.length co36 : Value).ownBlock ∧ some k_ ≠ (.slice Ao63 t136.length co63 : Value).ownBlock) (Kd.R_keptB (HO_117003.out) hkp (fun k_ hk_ hs_ => (hk_.1.1) hs_)) (fun k_ hk_ => ⟨hk_.1.1.1, hk_.1.1.2, hk_.1.2⟩)); have n1_ := Z7.k (Kd.R_reok rfl hy0 (fun k_ e_ => HO_124003.out.1 k_ e_)); have n2_ := Z7.k (Kd.R_mono (ok' := fun k_ => some k_ ≠ (.slice Ao22 t112.length co22 : Value).ownBlock ∧ some k_ ≠ (.slice Ao29 t120.length co29 : Value).ownBlock ∧ some k_ ≠ (.slice Ao63 t136.length co63 : Value).ownBlock) (Kd.R_keptB (HO_132003.out) hkp (fun k_ hk_ hs_ => (hk_.1.2) hs_)) (fun k_ hk_ => ⟨hk_.1.1.1, hk_.1.1.2, hk_.1.2⟩)); have n3_ := Z7.k (blk_kept Z7.z1 hkp (fun hs_ => (fun e_ => (Kd.R_ne HO_124003.out BK101.out (by decide)) e_) hs_)); have n4_ := Z7.k (blk_kept Z7.z2 hkp (fun hs_ => (fun e_ => (Kd.R_ne HO_124003.out BK116.out (by decide)) e_) hs_)); have n5_ := Z7.k (blk_kept Z7.z4 hkp (fun hs_ => (fun e_ => (Kd.R_ne HO_124003.out BK123.out (by decide)) e_) hs_)); have n6_ := Z7.k (blk_kept Z7.z6 hkp (fun hs_ => (fun e_ => (Kd.R_ne HO_124003.out BK131.out (by decide)) e_) hs_)); have n7_ := Z7.k (Kd.R_mono (ok' := fun k_ => some k_ ≠ (.slice Ao22 t112.length co22 : Value).ownBlock ∧ some k_ ≠ (.slice Ao29 t120.length co29 : Value).ownBlock ∧ some k_ ≠ (.slice Ao36 t127.length co36 : Value).ownBlock) (Kd.R_keptB (HO138.out) hkp (fun k_ hk_ hs_ => (hk_.1.2) hs_)) (fun k_ hk_ => ⟨hk_.1.1.1.2, hk_.1.1.2, hk_.1.2⟩)); have n8_ := Z7.k (hb); clear HO_117003 HO_124003 HO_132003 BK101 BK116 BK123 BK131 HO138 HB; have HO_117003 := n0_; have HO_124003 := n1_; have HO_132003 := n2_; have BK101 := n3_; have BK116 := n4_; have BK123 := n5_; have BK131 := n6_; have HO138 := n7_; have HB := n8_; clear n0_ n1_ n2_ n3_ n4_ n5_ n6_ n7_ n8_; (try clear hb); (try clear hkp); (try clear hy0)))
    (try simp only [Act.put, List.setIfInBounds_toArray, List.set_cons_zero, List.set_cons_succ])
    go_cut [61] (fun v61 wc => ∃ (kq : Nat) (x61_59 : Bool), v61 = .bool x61_59 ∧ Aside0 (laws_FnExactInverseMatrix.j1 kq t115 x61_59 a0_0 a0_1 a0_2 l0_3 t109 t110 t111 t112 t124 t125 t126 t127 = some r) ∧ Aside0 (kq ≤ kj10) ∧ Aside0 (Kd.R (Kd.int .i64) 2 wc w.heap.size (fun k_ => some k_ ≠ ((.slice Ao29 t120.length co29) : Value).ownBlock ∧ some k_ ≠ ((.slice Ao36 t127.length co36) : Value).ownBlock) (.slice Ao22 t112.length co22) t112) ∧ Aside0 (Kd.R (Kd.int .i64) 2 wc w.heap.size (fun k_ => some k_ ≠ ((.slice Ao22 t112.length co22) : Value).ownBlock ∧ some k_ ≠ ((.slice Ao36 t127.length co36) : Value).ownBlock) (.slice Ao29 t120.length co29) t141) ∧ Aside0 (Kd.R (Kd.int .i64) 2 wc w.heap.size (fun k_ => some k_ ≠ ((.slice Ao22 t112.length co22) : Value).ownBlock ∧ some k_ ≠ ((.slice Ao29 t120.length co29) : Value).ownBlock) (.slice Ao36 t127.length co36) t127) ∧ Aside0 (wc.heap[gb101]? = some (.cells #[.int .i64 a0_0, .int .i64 a0_1, .int .i64 a0_2, (.slice A0_3 l0_3.length c0_3)] 40 (0, 0))) ∧ Aside0 (wc.heap[gb116]? = some (.cells #[.int .i64 t109, .int .i64 t110, .int .i64 t111, (.slice Ao22 t112.length co22)] 27 (0, 0))) ∧ Aside0 (wc.heap[gb123]? = some (.cells #[.int .i64 t117, .int .i64 t118, .int .i64 t119, (.slice Ao29 t120.length co29)] 27 (0, 0))) ∧ Aside0 (wc.heap[gb131]? = some (.cells #[.int .i64 t124, .int .i64 t125, .int .i64 t126, (.slice Ao36 t127.length co36)] 27 (0, 0))) ∧ Aside0 (Below w.heap.size w wc))
    case first =>
     have H := HC60.out
     clear HC60
     by_cases c70 : t140 < 0
     ·rw [if_pos c70] at H
      have c70b0 : decide (t140 < 0) = true := decide_eq_true c70; clear c70
      (first | rw [c70b0] | (simp only [i64_w, i32_w]; rw [c70b0]) | skip)
      have H' := Z7.k H; clear H
      go_wp2
      go_meet
      case rel => exact ⟨_, (true), Z7.z72, H', ⟨(by have := HJ10.out; first | omega | exact Nat.le_refl _)⟩, ⟨Z7.z43⟩, ⟨Z7.z41⟩, ⟨Z7.z42⟩, ⟨Z7.z1⟩, ⟨Z7.z2⟩, ⟨Z7.z4⟩, ⟨Z7.z6⟩, ⟨Z7.z0⟩⟩
     rw [if_neg c70] at H
     have c70b0 : decide (t140 < 0) = false := decide_eq_false c70
     clear c70
     (first | rw [c70b0] | (simp only [i64_w, i32_w]; rw [c70b0]) | skip)
     replace H := Option.bind_eq_some_iff.mp H
     obtain ⟨t142, A710, H⟩ := H
     replace H : (if t142 = true then (laws_FnExactInverseMatrix.j1 kj10 t115 (t130 != t115) a0_0 a0_1 a0_2 l0_3 t109 t110 t111 t112 t124 t125 t126 t127) else (laws_FnExactInverseMatrix.j1 kj10 t115 true a0_0 a0_1 a0_2 l0_3 t109 t110 t111 t112 t124 t125 t126 t127)) = some r := H
     have A71 := Z7.k A710
     clear A710
     by_cases c72 : t142 = true
     ·subst c72
      have H1 : (laws_FnExactInverseMatrix.j1 kj10 t115 (t130 != t115) a0_0 a0_1 a0_2 l0_3 t109 t110 t111 t112 t124 t125 t126 t127) = some r := by rw [if_pos rfl] at H; exact H
      clear H; have H := H1
      clear H1; have H' := Z7.k H; clear H; have hnb73 := NB131_101.out; have hnc73 := NB101_131.out; have hnb74 := NB131_116.out; have hnc74 := NB116_131.out; have hnb75 := NB131_123.out; have hnc75 := NB123_131.out; have hcz76_0 : w69.cell? ⟨gb131, 0, none⟩ = some (.int .i64 t124) := (blk_cell BK131.out 0).trans rfl; have hcz76_1 : w69.cell? ⟨gb131, 1, none⟩ = some (.int .i64 t125) := (blk_cell BK131.out 1).trans rfl; have hcz76_2 : w69.cell? ⟨gb131, 2, none⟩ = some (.int .i64 t126) := (blk_cell BK131.out 2).trans rfl; have hcz76_3 : w69.cell? ⟨gb131, 3, none⟩ = some (.slice Ao36 t127.length co36) := (blk_cell BK131.out 3).trans rfl; have hfz76_0 := blk_frozen BK131.out 0; have hfz76_1 := blk_frozen BK131.out 1; have hfz76_2 := blk_frozen BK131.out 2; have hfz76_3 := blk_frozen BK131.out 3; have hnb77 := NB116_101.out; have hnc77 := NB101_116.out; have hnb78 := NB116_123.out; have hnc78 := NB123_116.out; have hcz79_0 : w69.cell? ⟨gb116, 0, none⟩ = some (.int .i64 t109) := (blk_cell BK116.out 0).trans rfl; have hcz79_1 : w69.cell? ⟨gb116, 1, none⟩ = some (.int .i64 t110) := (blk_cell BK116.out 1).trans rfl; have hcz79_2 : w69.cell? ⟨gb116, 2, none⟩ = some (.int .i64 t111) := (blk_cell BK116.out 2).trans rfl; have hcz79_3 : w69.cell? ⟨gb116, 3, none⟩ = some (.slice Ao22 t112.length co22) := (blk_cell BK116.out 3).trans rfl; have hfz79_0 := blk_frozen BK116.out 0; have hfz79_1 := blk_frozen BK116.out 1; have hfz79_2 := blk_frozen BK116.out 2; have hfz79_3 := blk_frozen BK116.out 3
      go_wp2_with (first | (go_at_call 31; (with_reducible refine (laws_eqMatrix.calls kj10 t124 t125 t126 _ _ t127 t109 t110 t111 _ _ t112 true _ ?side1 ?side2 ?side3 ?side4 A71.out).mono ?_); (case side1 => exact Z7.z16); (case side2 => exact (Kd.R_reads' HO_132003.out).2.1); (case side3 => exact Z7.z55); (case side4 => exact (Kd.R_reads' HO_117003.out).2.1); rintro e w80 ⟨rfl, hb⟩; have n0_ := Z7.k (Kd.R_below Z7.z9 hb); have n1_ := Z7.k (Kd.R_below Z7.z8 hb); have n2_ := Z7.k (Kd.R_below Z7.z7 hb); have n3_ := Z7.k (Kd.R_below Z7.z44 hb); have n4_ := Z7.k (Z7.bb BK101 Z7.z1 hb); have n5_ := Z7.k (Z7.bb BK116 Z7.z2 hb); have n6_ := Z7.k (Z7.bb BK123 Z7.z4 hb); have n7_ := Z7.k (Z7.bb BK131 Z7.z6 hb); have n8_ := Z7.k (below_step Z7.z0 hb); clear HO_117003 HO_124003 HO_132003 HO138 BK101 BK116 BK123 BK131 HB; have HO_117003 := n0_; have HO_124003 := n1_; have HO_132003 := n2_; have HO138 := n3_; have BK101 := n4_; have BK116 := n5_; have BK123 := n6_; have BK131 := n7_; have HB := n8_; clear n0_ n1_ n2_ n3_ n4_ n5_ n6_ n7_ n8_; (try clear hb); (try clear hb2); (try clear hk); (try clear hi)))
      go_meet
      case rel => exact ⟨_, ((t130 != t115)), Z7.z72, H', ⟨(by have := HJ10.out; first | omega | exact Nat.le_refl _)⟩, ⟨Z7.z43⟩, ⟨Z7.z41⟩, ⟨Z7.z42⟩, ⟨Z7.z1⟩, ⟨Z7.z2⟩, ⟨Z7.z4⟩, ⟨Z7.z6⟩, ⟨Z7.z0⟩⟩
     replace c72 := Bool.eq_false_iff.mpr c72
     subst c72
     have H1 : (laws_FnExactInverseMatrix.j1 kj10 t115 true a0_0 a0_1 a0_2 l0_3 t109 t110 t111 t112 t124 t125 t126 t127) = some r := by rw [if_neg (show ¬ (false = true) by decide)] at H; exact H
     clear H
     have H := H1
     clear H1
     have H' := Z7.k H
     clear H
     have hnb81 := NB131_101.out
     have hnc81 := NB101_131.out
     have hnb82 := NB131_116.out
     have hnc82 := NB116_131.out
     have hnb83 := NB131_123.out
     have hnc83 := NB123_131.out
     have hcz84_0 : w69.cell? ⟨gb131, 0, none⟩ = some (.int .i64 t124) := (blk_cell BK131.out 0).trans rfl
     have hcz84_1 : w69.cell? ⟨gb131, 1, none⟩ = some (.int .i64 t125) := (blk_cell BK131.out 1).trans rfl
     have hcz84_2 : w69.cell? ⟨gb131, 2, none⟩ = some (.int .i64 t126) := (blk_cell BK131.out 2).trans rfl
     have hcz84_3 : w69.cell? ⟨gb131, 3, none⟩ = some (.slice Ao36 t127.length co36) := (blk_cell BK131.out 3).trans rfl
     have hfz84_0 := blk_frozen BK131.out 0
     have hfz84_1 := blk_frozen BK131.out 1
     have hfz84_2 := blk_frozen BK131.out 2
     have hfz84_3 := blk_frozen BK131.out 3
     have hnb85 := NB116_101.out
     have hnc85 := NB101_116.out
     have hnb86 := NB116_123.out
     have hnc86 := NB123_116.out
     have hcz87_0 : w69.cell? ⟨gb116, 0, none⟩ = some (.int .i64 t109) := (blk_cell BK116.out 0).trans rfl
     have hcz87_1 : w69.cell? ⟨gb116, 1, none⟩ = some (.int .i64 t110) := (blk_cell BK116.out 1).trans rfl
     have hcz87_2 : w69.cell? ⟨gb116, 2, none⟩ = some (.int .i64 t111) := (blk_cell BK116.out 2).trans rfl
     have hcz87_3 : w69.cell? ⟨gb116, 3, none⟩ = some (.slice Ao22 t112.length co22) := (blk_cell BK116.out 3).trans rfl
     have hfz87_0 := blk_frozen BK116.out 0
     have hfz87_1 := blk_frozen BK116.out 1
     have hfz87_2 := blk_frozen BK116.out 2
     have hfz87_3 := blk_frozen BK116.out 3
     go_wp2_with (first | (go_at_call 31; (with_reducible refine (laws_eqMatrix.calls kj10 t124 t125 t126 _ _ t127 t109 t110 t111 _ _ t112 false _ ?side1 ?side2 ?side3 ?side4 A71.out).mono ?_); (case side1 => exact Z7.z16); (case side2 => exact (Kd.R_reads' HO_132003.out).2.1); (case side3 => exact Z7.z55); (case side4 => exact (Kd.R_reads' HO_117003.out).2.1); rintro e w88 ⟨rfl, hb⟩; have n0_ := Z7.k (Kd.R_below Z7.z9 hb); have n1_ := Z7.k (Kd.R_below Z7.z8 hb); have n2_ := Z7.k (Kd.R_below Z7.z7 hb); have n3_ := Z7.k (Kd.R_below Z7.z44 hb); have n4_ := Z7.k (Z7.bb BK101 Z7.z1 hb); have n5_ := Z7.k (Z7.bb BK116 Z7.z2 hb); have n6_ := Z7.k (Z7.bb BK123 Z7.z4 hb); have n7_ := Z7.k (Z7.bb BK131 Z7.z6 hb); have n8_ := Z7.k (below_step Z7.z0 hb); clear HO_117003 HO_124003 HO_132003 HO138 BK101 BK116 BK123 BK131 HB; have HO_117003 := n0_; have HO_124003 := n1_; have HO_132003 := n2_; have HO138 := n3_; have BK101 := n4_; have BK116 := n5_; have BK123 := n6_; have BK131 := n7_; have HB := n8_; clear n0_ n1_ n2_ n3_ n4_ n5_ n6_ n7_ n8_; (try clear hb); (try clear hb2); (try clear hk); (try clear hi)))
     go_meet
     case rel => exact ⟨_, (true), Z7.z72, H', ⟨(by have := HJ10.out; first | omega | exact Nat.le_refl _)⟩, ⟨Z7.z43⟩, ⟨Z7.z41⟩, ⟨Z7.z42⟩, ⟨Z7.z1⟩, ⟨Z7.z2⟩, ⟨Z7.z4⟩, ⟨Z7.z6⟩, ⟨Z7.z0⟩⟩
    case rest =>
     clear HC60
     try clear c2
     try clear p2
     try clear c3
     try clear c3b0
     try clear c4
     try clear c5
     try clear c6
     try clear c7
     try clear c8
     try clear c20
     try clear c22
     try clear c25
     try clear c26
     try clear c27
     try clear c31
     try clear c32
     try clear c33
     try clear c34
     try clear c38
     try clear c39
     try clear c40
     try clear c41
     try clear c43
     try clear c44
     try clear c47
     try clear c48
     try clear c49
     try clear c51
     try clear c52
     try clear c55
     try clear c58
     try clear c65
     try clear c66
     try clear c67
     try clear c70
     try clear c70b0
     try clear c72
     try clear c73
     try clear c74
     try clear c75
     try clear c77
     try clear c78
     try clear c81
     try clear c82
     try clear c83
     try clear c85
     try clear c86
     try clear hcz13_0
     try clear hcz13_1
     try clear hcz13_2
     try clear hcz13_3
     try clear hcz15_0
     try clear hcz15_1
     try clear hcz15_2
     try clear hcz15_3
     try clear hcz21_0
     try clear hcz21_1
     try clear hcz21_2
     try clear hcz21_3
     try clear hcz23_0
     try clear hcz23_1
     try clear hcz23_2
     try clear hcz23_3
     try clear hcz28_0
     try clear hcz28_1
     try clear hcz28_2
     try clear hcz28_3
     try clear hcz35_0
     try clear hcz35_1
     try clear hcz35_2
     try clear hcz35_3
     try clear hcz42_0
     try clear hcz42_1
     try clear hcz42_2
     try clear hcz42_3
     try clear hcz45_0
     try clear hcz45_1
     try clear hcz45_2
     try clear hcz45_3
     try clear hcz50_0
     try clear hcz50_1
     try clear hcz50_2
     try clear hcz50_3
     try clear hcz53_0
     try clear hcz53_1
     try clear hcz53_2
     try clear hcz53_3
     try clear hcz5_0
     try clear hcz5_1
     try clear hcz5_2
     try clear hcz5_3
     try clear hcz68_0
     try clear hcz68_1
     try clear hcz68_2
     try clear hcz68_3
     try clear hcz76_0
     try clear hcz76_1
     try clear hcz76_2
     try clear hcz76_3
     try clear hcz79_0
     try clear hcz79_1
     try clear hcz79_2
     try clear hcz79_3
     try clear hcz84_0
     try clear hcz84_1
     try clear hcz84_2
     try clear hcz84_3
     try clear hcz87_0
     try clear hcz87_1
     try clear hcz87_2
     try clear hcz87_3
     try clear hfz13_0
     try clear hfz13_1
     try clear hfz13_2
     try clear hfz13_3
     try clear hfz15_0
     try clear hfz15_1
     try clear hfz15_2
     try clear hfz15_3
     try clear hfz21_0
     try clear hfz21_1
     try clear hfz21_2
     try clear hfz21_3
     try clear hfz23_0
     try clear hfz23_1
     try clear hfz23_2
     try clear hfz23_3
     try clear hfz28_0
     try clear hfz28_1
     try clear hfz28_2
     try clear hfz28_3
     try clear hfz35_0
     try clear hfz35_1
     try clear hfz35_2
     try clear hfz35_3
     try clear hfz42_0
     try clear hfz42_1
     try clear hfz42_2
     try clear hfz42_3
     try clear hfz45_0
     try clear hfz45_1
     try clear hfz45_2
     try clear hfz45_3
     try clear hfz50_0
     try clear hfz50_1
     try clear hfz50_2
     try clear hfz50_3
     try clear hfz53_0
     try clear hfz53_1
     try clear hfz53_2
     try clear hfz53_3
     try clear hfz5_0
     try clear hfz5_1
     try clear hfz5_2
     try clear hfz5_3
     try clear hfz68_0
     try clear hfz68_1
     try clear hfz68_2
     try clear hfz68_3
     try clear hfz76_0
     try clear hfz76_1
     try clear hfz76_2
     try clear hfz76_3
     try clear hfz79_0
     try clear hfz79_1
     try clear hfz79_2
     try clear hfz79_3
     try clear hfz84_0
     try clear hfz84_1
     try clear hfz84_2
     try clear hfz84_3
     try clear hfz87_0
     try clear hfz87_1
     try clear hfz87_2
     try clear hfz87_3
     try clear p2
     obtain ⟨kq, x61_59, rfl, HA, HJ59, HO_117003, HO_124003, HO_132003, BK101, BK116, BK123, BK131, HB⟩ := hcut
     have hl124003_59 := (Kd.R_reads' HO_124003.out).1
     rw [hl124003_59] at HO_124003
     (try simp only [hl124003_59])
     (try simp only [hl124003_59] at BK101)
     (try simp only [hl124003_59] at BK116)
     (try simp only [hl124003_59] at BK123)
     (try simp only [hl124003_59] at BK131)
     (try simp only [hl124003_59] at HO_117003)
     (try simp only [hl124003_59] at HO_132003)
     cases kq with
     | zero => exact absurd HA.out (by simp [laws_FnExactInverseMatrix.j1])
     | succ kj59 =>
      have H := HA.out
      clear HA; simp only [laws_FnExactInverseMatrix.j1] at H
      by_cases c89 : x61_59 = true
      ·subst c89
       have H1 : (some false) = some r := by rw [if_pos rfl] at H; exact H
       clear H; have H := H1
       clear H1; obtain rfl := Option.some.inj H
       go_wp2
       go_ret
       exact ⟨Z7.z23, Z7.z0⟩
      replace c89 := Bool.eq_false_iff.mpr c89; subst c89; have H1 : ((laws_markMatrix.f kj59 t124 t125 t126 t127 1).bind fun bt143 => ((laws_heldMatrix.f kj59 t124 t125 t126 bt143.2 1).bind fun t145 => (if t145 < 0 then (some false) else (if t145 = bt143.1 then ((laws_toMatrix.f kj59 a0_0 a0_1 a0_2 l0_3).bind fun bt146 => ((impl_InverseMatrix.f kj59 bt146.1 bt146.2.1 bt146.2.2.1 bt146.2.2.2).bind fun bt152 => ((laws_eqMatrix.f kj59 bt152.1 bt152.2.1 bt152.2.2.1 bt152.2.2.2.1 t109 t110 t111 t112).bind fun t160 => (if t160 = true then (laws_FnExactInverseMatrix.j2 kj59 bt143.1 (bt152.2.2.2.2 != t115) t124 t125 t126 bt143.2) else (laws_FnExactInverseMatrix.j2 kj59 bt143.1 true t124 t125 t126 bt143.2))))) else (some false))))) = some r := by rw [if_neg (show ¬ (false = true) by decide)] at H; exact H
      clear H; have H := H1
      clear H1; replace H := Option.bind_eq_some_iff.mp H; obtain ⟨⟨t143, t144⟩, A900, H⟩ := H; replace H : ((laws_heldMatrix.f kj59 t124 t125 t126 t144 1).bind fun t145 => (if t145 < 0 then (some false) else (if t145 = t143 then ((laws_toMatrix.f kj59 a0_0 a0_1 a0_2 l0_3).bind fun bt146 => ((impl_InverseMatrix.f kj59 bt146.1 bt146.2.1 bt146.2.2.1 bt146.2.2.2).bind fun bt152 => ((laws_eqMatrix.f kj59 bt152.1 bt152.2.1 bt152.2.2.1 bt152.2.2.2.1 t109 t110 t111 t112).bind fun t160 => (if t160 = true then (laws_FnExactInverseMatrix.j2 kj59 t143 (bt152.2.2.2.2 != t115) t124 t125 t126 t144) else (laws_FnExactInverseMatrix.j2 kj59 t143 true t124 t125 t126 t144))))) else (some false)))) = some r := H; have A90 := Z7.k A900; clear A900; replace H := Option.bind_eq_some_iff.mp H; obtain ⟨t145, A910, H⟩ := H; replace H : (if t145 < 0 then (some false) else (if t145 = t143 then ((laws_toMatrix.f kj59 a0_0 a0_1 a0_2 l0_3).bind fun bt146 => ((impl_InverseMatrix.f kj59 bt146.1 bt146.2.1 bt146.2.2.1 bt146.2.2.2).bind fun bt152 => ((laws_eqMatrix.f kj59 bt152.1 bt152.2.1 bt152.2.2.1 bt152.2.2.2.1 t109 t110 t111 t112).bind fun t160 => (if t160 = true then (laws_FnExactInverseMatrix.j2 kj59 t143 (bt152.2.2.2.2 != t115) t124 t125 t126 t144) else (laws_FnExactInverseMatrix.j2 kj59 t143 true t124 t125 t126 t144))))) else (some false))) = some r := H; have A91 := Z7.k A910; clear A910
      by_cases c92 : t145 < 0
      ·rw [if_pos c92] at H
       have c92b0 : decide (t145 < 0) = true := decide_eq_true c92; clear c92; obtain rfl := Option.some.inj H; have hnb93 := NB131_101.out; have hnc93 := NB101_131.out; have hnb94 := NB131_116.out; have hnc94 := NB116_131.out; have hnb95 := NB131_123.out; have hnc95 := NB123_131.out; have hcz96_0 : wc.cell? ⟨gb131, 0, none⟩ = some (.int .i64 t124) := (blk_cell BK131.out 0).trans rfl; have hcz96_1 : wc.cell? ⟨gb131, 1, none⟩ = some (.int .i64 t125) := (blk_cell BK131.out 1).trans rfl; have hcz96_2 : wc.cell? ⟨gb131, 2, none⟩ = some (.int .i64 t126) := (blk_cell BK131.out 2).trans rfl; have hcz96_3 : wc.cell? ⟨gb131, 3, none⟩ = some (.slice Ao36 t127.length co36) := (blk_cell BK131.out 3).trans rfl; have hfz96_0 := blk_frozen BK131.out 0; have hfz96_1 := blk_frozen BK131.out 1; have hfz96_2 := blk_frozen BK131.out 2; have hfz96_3 := blk_frozen BK131.out 3
       go_wp2_with (first | ((with_reducible refine gate_callee (f := 32) rfl ?_); refine goesL_ (some 64) rfl rfl Try.func32 (by kernel_rfl) rfl #[.agg #[.int .i64 t124, .int .i64 t125, .int .i64 t126, .slice Ao36 t127.length co36], .int .i64 1] rfl Z7.z5 ?_; (with_reducible refine (laws_markMatrix.calls kj59 t124 t125 t126 (fun k_ => some k_ = (.slice Ao36 t127.length co36 : Value).ownBlock) (.slice Ao36 t127.length co36) t127 1 t143 t144 w _ ?side1 ?side2 A90.out).mono ?_); (case side1 => exact Z7.z0); (case side2 => exact Kd.R_tight rfl HO_132003.out); rintro e w97 ⟨rfl, hy0, hb, hkp⟩; refine ⟨_, rfl, ?_⟩; have n0_ := Z7.k (Kd.R_mono (ok' := fun k_ => some k_ ≠ (.slice Ao29 t141.length co29 : Value).ownBlock ∧ some k_ ≠ (.slice Ao36 t127.length co36 : Value).ownBlock) (Kd.R_keptB (HO_117003.out) hkp (fun k_ hk_ hs_ => (hk_.2) hs_)) (fun k_ hk_ => ⟨hk_.1.1, hk_.1.2⟩)); have n1_ := Z7.k (Kd.R_mono (ok' := fun k_ => some k_ ≠ (.slice Ao22 t112.length co22 : Value).ownBlock ∧ some k_ ≠ (.slice Ao36 t127.length co36 : Value).ownBlock) (Kd.R_keptB (HO_124003.out) hkp (fun k_ hk_ hs_ => (hk_.2) hs_)) (fun k_ hk_ => ⟨hk_.1.1, hk_.1.2⟩)); have n2_ := Z7.k (Kd.R_reok rfl hy0 (fun k_ e_ => HO_132003.out.1 k_ e_)); have n3_ := Z7.k (blk_kept Z7.z1 hkp (fun hs_ => (fun e_ => (Kd.R_ne HO_132003.out BK101.out (by decide)) e_) hs_)); have n4_ := Z7.k (blk_kept Z7.z2 hkp (fun hs_ => (fun e_ => (Kd.R_ne HO_132003.out BK116.out (by decide)) e_) hs_)); have n5_ := Z7.k (blk_kept Z7.z4 hkp (fun hs_ => (fun e_ => (Kd.R_ne HO_132003.out BK123.out (by decide)) e_) hs_)); have n6_ := Z7.k (blk_kept Z7.z6 hkp (fun hs_ => (fun e_ => (Kd.R_ne HO_132003.out BK131.out (by decide)) e_) hs_)); have n7_ := Z7.k (hb); clear HO_117003 HO_124003 HO_132003 BK101 BK116 BK123 BK131 HB; have HO_117003 := n0_; have HO_124003 := n1_; have HO_132003 := n2_; have BK101 := n3_; have BK116 := n4_; have BK123 := n5_; have BK131 := n6_; have HB := n7_; clear n0_ n1_ n2_ n3_ n4_ n5_ n6_ n7_; (try clear hb); (try clear hkp); (try clear hy0); have hcz98_0 : w97.cell? ⟨gb131, 0, none⟩ = some (.int .i64 t124) := (blk_cell BK131.out 0).trans rfl; have hcz98_1 : w97.cell? ⟨gb131, 1, none⟩ = some (.int .i64 t125) := (blk_cell BK131.out 1).trans rfl; have hcz98_2 : w97.cell? ⟨gb131, 2, none⟩ = some (.int .i64 t126) := (blk_cell BK131.out 2).trans rfl; have hcz98_3 : w97.cell? ⟨gb131, 3, none⟩ = some (.slice Ao36 t127.length co36) := (blk_cell BK131.out 3).trans rfl; have hfz98_0 := blk_frozen BK131.out 0; have hfz98_1 := blk_frozen BK131.out 1; have hfz98_2 := blk_frozen BK131.out 2; have hfz98_3 := blk_frozen BK131.out 3) | ((with_reducible refine gate_callee (f := 41) rfl ?_); refine goesL_ (some 67) rfl rfl Try.func41 (by kernel_rfl) rfl #[.agg #[.int .i64 t124, .int .i64 t125, .int .i64 t126, .slice Ao36 t144.length co36], .int .i64 1] rfl Z7.z34 ?_; (with_reducible refine (laws_heldMatrix.calls kj59 t124 t125 t126 _ _ t144 1 t145 _ ?side1 ?side2 A91.out).mono ?_); (case side1 => exact Z7.z16); (case side2 => exact Z7.z46); rintro e w99 ⟨rfl, hb⟩; refine ⟨_, rfl, ?_⟩; have n0_ := Z7.k (Kd.R_below Z7.z9 hb); have n1_ := Z7.k (Kd.R_below Z7.z8 hb); have n2_ := Z7.k (Kd.R_below Z7.z7 hb); have n3_ := Z7.k (Z7.bb BK101 Z7.z1 hb); have n4_ := Z7.k (Z7.bb BK116 Z7.z2 hb); have n5_ := Z7.k (Z7.bb BK123 Z7.z4 hb); have n6_ := Z7.k (Z7.bb BK131 Z7.z6 hb); have n7_ := Z7.k (below_step Z7.z0 hb); clear HO_117003 HO_124003 HO_132003 BK101 BK116 BK123 BK131 HB; have HO_117003 := n0_; have HO_124003 := n1_; have HO_132003 := n2_; have BK101 := n3_; have BK116 := n4_; have BK123 := n5_; have BK131 := n6_; have HB := n7_; clear n0_ n1_ n2_ n3_ n4_ n5_ n6_ n7_; (try clear hb); (try clear hb2); (try clear hk); (try clear hi)))
       go_ret
       exact ⟨Z7.z23, Z7.z0⟩
      rw [if_neg c92] at H; have c92b0 : decide (t145 < 0) = false := decide_eq_false c92; clear c92
      by_cases c100 : t145 = t143
      ·rw [if_pos c100] at H
       have c100b0 : (t145 == t143) = true := beq_iff_eq.mpr c100; have c100b1 : (t145 != t143) = false := bne_eq_false_iff_eq.mpr c100; clear c100; replace H := Option.bind_eq_some_iff.mp H; obtain ⟨⟨t146, t147, t148, t149⟩, A1010, H⟩ := H; replace H : ((impl_InverseMatrix.f kj59 t146 t147 t148 t149).bind fun bt152 => ((laws_eqMatrix.f kj59 bt152.1 bt152.2.1 bt152.2.2.1 bt152.2.2.2.1 t109 t110 t111 t112).bind fun t160 => (if t160 = true then (laws_FnExactInverseMatrix.j2 kj59 t143 (bt152.2.2.2.2 != t115) t124 t125 t126 t144) else (laws_FnExactInverseMatrix.j2 kj59 t143 true t124 t125 t126 t144)))) = some r := H; have A101 := Z7.k A1010; clear A1010; replace H := Option.bind_eq_some_iff.mp H; obtain ⟨⟨t152, t153, t154, t155, t158⟩, A1020, H⟩ := H; replace H : ((laws_eqMatrix.f kj59 t152 t153 t154 t155 t109 t110 t111 t112).bind fun t160 => (if t160 = true then (laws_FnExactInverseMatrix.j2 kj59 t143 (t158 != t115) t124 t125 t126 t144) else (laws_FnExactInverseMatrix.j2 kj59 t143 true t124 t125 t126 t144))) = some r := H; have A102 := Z7.k A1020; clear A1020; have HC103 := Z7.k H; clear H; have hnb104 := NB131_101.out; have hnc104 := NB101_131.out; have hnb105 := NB131_116.out; have hnc105 := NB116_131.out; have hnb106 := NB131_123.out; have hnc106 := NB123_131.out; have hcz107_0 : wc.cell? ⟨gb131, 0, none⟩ = some (.int .i64 t124) := (blk_cell BK131.out 0).trans rfl; have hcz107_1 : wc.cell? ⟨gb131, 1, none⟩ = some (.int .i64 t125) := (blk_cell BK131.out 1).trans rfl; have hcz107_2 : wc.cell? ⟨gb131, 2, none⟩ = some (.int .i64 t126) := (blk_cell BK131.out 2).trans rfl; have hcz107_3 : wc.cell? ⟨gb131, 3, none⟩ = some (.slice Ao36 t127.length co36) := (blk_cell BK131.out 3).trans rfl; have hfz107_0 := blk_frozen BK131.out 0; have hfz107_1 := blk_frozen BK131.out 1; have hfz107_2 := blk_frozen BK131.out 2; have hfz107_3 := blk_frozen BK131.out 3
       go_upto_region 25 with (first | ((with_reducible refine gate_callee (f := 32) rfl ?_); refine goesL_ (some 64) rfl rfl Try.func32 (by kernel_rfl) rfl #[.agg #[.int .i64 t124, .int .i64 t125, .int .i64 t126, .slice Ao36 t127.length co36], .int .i64 1] rfl Z7.z5 ?_; (with_reducible refine (laws_markMatrix.calls kj59 t124 t125 t126 (fun k_ => some k_ = (.slice Ao36 t127.length co36 : Value).ownBlock) (.slice Ao36 t127.length co36) t127 1 t143 t144 w _ ?side1 ?side2 A90.out).mono ?_); (case side1 => exact Z7.z0); (case side2 => exact Kd.R_tight rfl HO_132003.out); rintro e w108 ⟨rfl, hy0, hb, hkp⟩; refine ⟨_, rfl, ?_⟩; have n0_ := Z7.k (Kd.R_mono (ok' := fun k_ => some k_ ≠ (.slice Ao29 t141.length co29 : Value).ownBlock ∧ some k_ ≠ (.slice Ao36 t127.length co36 : Value).ownBlock) (Kd.R_keptB (HO_117003.out) hkp (fun k_ hk_ hs_ => (hk_.2) hs_)) (fun k_ hk_ => ⟨hk_.1.1, hk_.1.2⟩)); have n1_ := Z7.k (Kd.R_mono (ok' := fun k_ => some k_ ≠ (.slice Ao22 t112.length co22 : Value).ownBlock ∧ some k_ ≠ (.slice Ao36 t127.length co36 : Value).ownBlock) (Kd.R_keptB (HO_124003.out) hkp (fun k_ hk_ hs_ => (hk_.2) hs_)) (fun k_ hk_ => ⟨hk_.1.1, hk_.1.2⟩)); have n2_ := Z7.k (Kd.R_reok rfl hy0 (fun k_ e_ => HO_132003.out.1 k_ e_)); have n3_ := Z7.k (blk_kept Z7.z1 hkp (fun hs_ => (fun e_ => (Kd.R_ne HO_132003.out BK101.out (by decide)) e_) hs_)); have n4_ := Z7.k (blk_kept Z7.z2 hkp (fun hs_ => (fun e_ => (Kd.R_ne HO_132003.out BK116.out (by decide)) e_) hs_)); have n5_ := Z7.k (blk_kept Z7.z4 hkp (fun hs_ => (fun e_ => (Kd.R_ne HO_132003.out BK123.out (by decide)) e_) hs_)); have n6_ := Z7.k (blk_kept Z7.z6 hkp (fun hs_ => (fun e_ => (Kd.R_ne HO_132003.out BK131.out (by decide)) e_) hs_)); have n7_ := Z7.k (hb); clear HO_117003 HO_124003 HO_132003 BK101 BK116 BK123 BK131 HB; have HO_117003 := n0_; have HO_124003 := n1_; have HO_132003 := n2_; have BK101 := n3_; have BK116 := n4_; have BK123 := n5_; have BK131 := n6_; have HB := n7_; clear n0_ n1_ n2_ n3_ n4_ n5_ n6_ n7_; (try clear hb); (try clear hkp); (try clear hy0); have hcz109_0 : w108.cell? ⟨gb131, 0, none⟩ = some (.int .i64 t124) := (blk_cell BK131.out 0).trans rfl; have hcz109_1 : w108.cell? ⟨gb131, 1, none⟩ = some (.int .i64 t125) := (blk_cell BK131.out 1).trans rfl; have hcz109_2 : w108.cell? ⟨gb131, 2, none⟩ = some (.int .i64 t126) := (blk_cell BK131.out 2).trans rfl; have hcz109_3 : w108.cell? ⟨gb131, 3, none⟩ = some (.slice Ao36 t127.length co36) := (blk_cell BK131.out 3).trans rfl; have hfz109_0 := blk_frozen BK131.out 0; have hfz109_1 := blk_frozen BK131.out 1; have hfz109_2 := blk_frozen BK131.out 2; have hfz109_3 := blk_frozen BK131.out 3) | ((with_reducible refine gate_callee (f := 41) rfl ?_); refine goesL_ (some 67) rfl rfl Try.func41 (by kernel_rfl) rfl #[.agg #[.int .i64 t124, .int .i64 t125, .int .i64 t126, .slice Ao36 t144.length co36], .int .i64 1] rfl Z7.z34 ?_; (with_reducible refine (laws_heldMatrix.calls kj59 t124 t125 t126 _ _ t144 1 t145 _ ?side1 ?side2 A91.out).mono ?_); (case side1 => exact Z7.z16); (case side2 => exact Z7.z46); rintro e w110 ⟨rfl, hb⟩; refine ⟨_, rfl, ?_⟩; have n0_ := Z7.k (Kd.R_below Z7.z9 hb); have n1_ := Z7.k (Kd.R_below Z7.z8 hb); have n2_ := Z7.k (Kd.R_below Z7.z7 hb); have n3_ := Z7.k (Z7.bb BK101 Z7.z1 hb); have n4_ := Z7.k (Z7.bb BK116 Z7.z2 hb); have n5_ := Z7.k (Z7.bb BK123 Z7.z4 hb); have n6_ := Z7.k (Z7.bb BK131 Z7.z6 hb); have n7_ := Z7.k (below_step Z7.z0 hb); clear HO_117003 HO_124003 HO_132003 BK101 BK116 BK123 BK131 HB; have HO_117003 := n0_; have HO_124003 := n1_; have HO_132003 := n2_; have BK101 := n3_; have BK116 := n4_; have BK123 := n5_; have BK131 := n6_; have HB := n7_; clear n0_ n1_ n2_ n3_ n4_ n5_ n6_ n7_; (try clear hb); (try clear hb2); (try clear hk); (try clear hi); have hnb111 := NB101_116.out; have hnc111 := NB116_101.out; have hnb112 := NB101_123.out; have hnc112 := NB123_101.out; have hcz113_0 : w110.cell? ⟨gb101, 0, none⟩ = some (.int .i64 a0_0) := (blk_cell BK101.out 0).trans rfl; have hcz113_1 : w110.cell? ⟨gb101, 1, none⟩ = some (.int .i64 a0_1) := (blk_cell BK101.out 1).trans rfl; have hcz113_2 : w110.cell? ⟨gb101, 2, none⟩ = some (.int .i64 a0_2) := (blk_cell BK101.out 2).trans rfl; have hcz113_3 : w110.cell? ⟨gb101, 3, none⟩ = some (.slice A0_3 l0_3.length c0_3) := (blk_cell BK101.out 3).trans rfl; have hfz113_0 := blk_frozen BK101.out 0; have hfz113_1 := blk_frozen BK101.out 1; have hfz113_2 := blk_frozen BK101.out 2; have hfz113_3 := blk_frozen BK101.out 3) | ((with_reducible refine gate_callee (f := 27) rfl ?_); refine goesL_ (some 75) rfl rfl Try.func27 (by kernel_rfl) rfl #[.agg #[.int .i64 a0_0, .int .i64 a0_1, .int .i64 a0_2, .slice A0_3 l0_3.length c0_3]] rfl Z7.z5 ?_; (with_reducible refine (laws_toMatrix.calls kj59 a0_0 a0_1 a0_2 _ _ l0_3 t146 t147 t148 t149 _ ?side1 ?side2 A101.out).mono ?_); (case side1 => exact Z7.z22); (case side2 => exact HC0_3.out); rintro e w114 ⟨v150, rfl, ho0, hb⟩; refine ⟨_, rfl, ?_⟩; have n0_ := Z7.k (Kd.R_elder' Z7.z9 (Kd.R_base ho0) hb); have n1_ := Z7.k (Kd.R_elder' Z7.z8 (Kd.R_base ho0) hb); have n2_ := Z7.k (Kd.R_elder' Z7.z7 (Kd.R_base ho0) hb); have n3_ := Z7.k (Kd.R_lower (Kd.R_new' (Kd.R_new' (Kd.R_new' ho0 (Kd.R_lt Z7.z9)) (Kd.R_lt Z7.z8)) (Kd.R_lt Z7.z7)) (below_size Z7.z0)); have n4_ := Z7.k (Z7.bb BK101 Z7.z1 hb); have n5_ := Z7.k (Z7.bb BK116 Z7.z2 hb); have n6_ := Z7.k (Z7.bb BK123 Z7.z4 hb); have n7_ := Z7.k (Z7.bb BK131 Z7.z6 hb); have n8_ := Z7.k (below_step Z7.z0 hb); clear HO_117003 HO_124003 HO_132003 BK101 BK116 BK123 BK131 HB; have HO_117003 := n0_; have HO_124003 := n1_; have HO_132003 := n2_; have HO151 := n3_; have BK101 := n4_; have BK116 := n5_; have BK123 := n6_; have BK131 := n7_; have HB := n8_; clear n0_ n1_ n2_ n3_ n4_ n5_ n6_ n7_ n8_; (try clear hb); (try clear hb2); (try clear hk); (try clear hi); (try clear ho0); obtain ⟨Ao115, co115, eo115⟩ := Kd.R_slice HO151.out; subst eo115) | ((with_reducible refine gate_callee (f := 22) rfl ?_); refine goesL_ (some 76) rfl rfl Try.func22 (by kernel_rfl) rfl #[.agg #[.int .i64 t146, .int .i64 t147, .int .i64 t148, .slice Ao115 t149.length co115]] rfl Z7.z5 ?_; (with_reducible refine (impl_InverseMatrix.calls kj59 t146 t147 t148 _ _ t149 t152 t153 t154 t155 t158 _ ?side1 ?side2 A102.out).mono ?_); (case side1 => exact (by repeat (first | exact (Kd.R_reads' HO151.out).2.2 | (with_reducible refine Kd.C_alloc ?_ _) | (with_reducible refine Kd.C_drewN ?_ _) | (with_reducible refine Kd.C_drew ?_)))); (case side2 => exact (Kd.R_reads' HO151.out).2.1); rintro e w116 ⟨v156, rfl, ho0, hb⟩; refine ⟨_, rfl, ?_⟩; have n0_ := Z7.k (Kd.R_elder' Z7.z9 (Kd.R_base ho0) hb); have n1_ := Z7.k (Kd.R_elder' Z7.z8 (Kd.R_base ho0) hb); have n2_ := Z7.k (Kd.R_elder' Z7.z7 (Kd.R_base ho0) hb); have n3_ := Z7.k (Kd.R_elder' Z7.z52 (Kd.R_base ho0) hb); have n4_ := Z7.k (Kd.R_lower (Kd.R_new' (Kd.R_new' (Kd.R_new' (Kd.R_new' ho0 (Kd.R_lt Z7.z9)) (Kd.R_lt Z7.z8)) (Kd.R_lt Z7.z7)) (Kd.R_lt Z7.z52)) (below_size Z7.z0)); have n5_ := Z7.k (Z7.bb BK101 Z7.z1 hb); have n6_ := Z7.k (Z7.bb BK116 Z7.z2 hb); have n7_ := Z7.k (Z7.bb BK123 Z7.z4 hb); have n8_ := Z7.k (Z7.bb BK131 Z7.z6 hb); have n9_ := Z7.k (below_step Z7.z0 hb); clear HO_117003 HO_124003 HO_132003 HO151 BK101 BK116 BK123 BK131 HB; have HO_117003 := n0_; have HO_124003 := n1_; have HO_132003 := n2_; have HO151 := n3_; have HO157 := n4_; have BK101 := n5_; have BK116 := n6_; have BK123 := n7_; have BK131 := n8_; have HB := n9_; clear n0_ n1_ n2_ n3_ n4_ n5_ n6_ n7_ n8_ n9_; (try clear hb); (try clear hb2); (try clear hk); (try clear hi); (try clear ho0)) | ((with_reducible refine gate_dst (N := 12) rfl ?_); refine box_event ?hg (N := 12) ?hd (cs := #[.int .i64 0, .int .i64 0, .int .i64 0, .slice none 0 0]) (t := 27) ?hr ?_; (case hd => rfl); (case hg => rfl); (case hr => first | (go_simp; done) | (go_simp; rfl)); intro gb159 hg w117 hbox hb; have n0_ := Z7.k (Kd.R_below Z7.z9 hb); have n1_ := Z7.k (Kd.R_below Z7.z8 hb); have n2_ := Z7.k (Kd.R_below Z7.z7 hb); have n3_ := Z7.k (Kd.R_below Z7.z52 hb); have n4_ := Z7.k (Kd.R_below (by (with_reducible repeat (first | apply Kd.R_alloc | apply Kd.R_drewN | apply Kd.R_drew)); exact HO157.out) hb); have n5_ := Z7.k (Z7.bb BK101 Z7.z1 hb); have n6_ := Z7.k (Z7.bb BK116 Z7.z2 hb); have n7_ := Z7.k (Z7.bb BK123 Z7.z4 hb); have n8_ := Z7.k (Z7.bb BK131 Z7.z6 hb); have n9_ := Z7.k (below_step Z7.z0 hb); have n10_ := Z7.k (hbox); have n11_ := Z7.k (show w.heap.size ≤ gb159 from (by rw [hg]; exact (below_size Z7.z0))); have n12_ := Z7.k (show w.heap.size ≤ gb159 from (by rw [hg]; exact (below_size Z7.z0))); have n13_ := Z7.k (show gb101 ≠ gb159 from (by rw [hg]; exact Nat.ne_of_lt (Z7.bl BK101 Z7.z1))); have n14_ := Z7.k (show gb159 ≠ gb101 from (by rw [hg]; exact Nat.ne_of_gt (Z7.bl BK101 Z7.z1))); have n15_ := Z7.k (show gb116 ≠ gb159 from (by rw [hg]; exact Nat.ne_of_lt (Z7.bl BK116 Z7.z2))); have n16_ := Z7.k (show gb159 ≠ gb116 from (by rw [hg]; exact Nat.ne_of_gt (Z7.bl BK116 Z7.z2))); have n17_ := Z7.k (show gb123 ≠ gb159 from (by rw [hg]; exact Nat.ne_of_lt (Z7.bl BK123 Z7.z4))); have n18_ := Z7.k (show gb159 ≠ gb123 from (by rw [hg]; exact Nat.ne_of_gt (Z7.bl BK123 Z7.z4))); have n19_ := Z7.k (show gb131 ≠ gb159 from (by rw [hg]; exact Nat.ne_of_lt (Z7.bl BK131 Z7.z6))); have n20_ := Z7.k (show gb159 ≠ gb131 from (by rw [hg]; exact Nat.ne_of_gt (Z7.bl BK131 Z7.z6))); clear HO_117003 HO_124003 HO_132003 HO151 HO157 BK101 BK116 BK123 BK131 HB; have HO_117003 := n0_; have HO_124003 := n1_; have HO_132003 := n2_; have HO151 := n3_; have HO157 := n4_; have BK101 := n5_; have BK116 := n6_; have BK123 := n7_; have BK131 := n8_; have HB := n9_; have BK159 := n10_; have GW159 := n11_; have GE159 := n12_; have NB101_159 := n13_; have NB159_101 := n14_; have NB116_159 := n15_; have NB159_116 := n16_; have NB123_159 := n17_; have NB159_123 := n18_; have NB131_159 := n19_; have NB159_131 := n20_; clear n0_ n1_ n2_ n3_ n4_ n5_ n6_ n7_ n8_ n9_ n10_ n11_ n12_ n13_ n14_ n15_ n16_ n17_ n18_ n19_ n20_; clear hb hbox hg; have hnb118 := NB159_101.out; have hnc118 := NB101_159.out; have hnb119 := NB159_116.out; have hnc119 := NB116_159.out; have hnb120 := NB159_123.out; have hnc120 := NB123_159.out; have hnb121 := NB159_131.out; have hnc121 := NB131_159.out; have hcz122_0 : w117.cell? ⟨gb159, 0, none⟩ = some (.int .i64 0) := (blk_cell BK159.out 0).trans rfl; have hcz122_1 : w117.cell? ⟨gb159, 1, none⟩ = some (.int .i64 0) := (blk_cell BK159.out 1).trans rfl; have hcz122_2 : w117.cell? ⟨gb159, 2, none⟩ = some (.int .i64 0) := (blk_cell BK159.out 2).trans rfl; have hcz122_3 : w117.cell? ⟨gb159, 3, none⟩ = some (.slice none 0 0) := (blk_cell BK159.out 3).trans rfl; have hfz122_0 := blk_frozen BK159.out 0; have hfz122_1 := blk_frozen BK159.out 1; have hfz122_2 := blk_frozen BK159.out 2; have hfz122_3 := blk_frozen BK159.out 3; obtain ⟨Ao123, co123, eo123⟩ := Kd.R_slice HO157.out; subst eo123))
       (try simp only [Act.put, List.setIfInBounds_toArray, List.set_cons_zero, List.set_cons_succ])
       go_cut [87] (fun v87 wc => ∃ (kq : Nat) (x87_102 : Bool), v87 = .bool x87_102 ∧ Aside0 (laws_FnExactInverseMatrix.j2 kq t143 x87_102 t124 t125 t126 t144 = some r) ∧ Aside0 (kq ≤ kj59) ∧ Aside0 (Kd.R (Kd.int .i64) 2 wc w.heap.size (fun k_ => some k_ ≠ ((.slice Ao29 t141.length co29) : Value).ownBlock ∧ some k_ ≠ ((.slice Ao36 t127.length co36) : Value).ownBlock ∧ some k_ ≠ ((.slice Ao123 t155.length co123) : Value).ownBlock) (.slice Ao22 t112.length co22) t112) ∧ Aside0 (Kd.R (Kd.int .i64) 2 wc w.heap.size (fun k_ => some k_ ≠ ((.slice Ao22 t112.length co22) : Value).ownBlock ∧ some k_ ≠ ((.slice Ao36 t127.length co36) : Value).ownBlock ∧ some k_ ≠ ((.slice Ao123 t155.length co123) : Value).ownBlock) (.slice Ao29 t141.length co29) t141) ∧ Aside0 (Kd.R (Kd.int .i64) 2 wc w.heap.size (fun k_ => some k_ ≠ ((.slice Ao22 t112.length co22) : Value).ownBlock ∧ some k_ ≠ ((.slice Ao29 t141.length co29) : Value).ownBlock ∧ some k_ ≠ ((.slice Ao123 t155.length co123) : Value).ownBlock) (.slice Ao36 t127.length co36) t144) ∧ Aside0 (Kd.R (Kd.int .i64) 2 wc w.heap.size (fun k_ => some k_ ≠ ((.slice Ao22 t112.length co22) : Value).ownBlock ∧ some k_ ≠ ((.slice Ao29 t141.length co29) : Value).ownBlock ∧ some k_ ≠ ((.slice Ao36 t127.length co36) : Value).ownBlock) (.slice Ao123 t155.length co123) t155) ∧ Aside0 (wc.heap[gb101]? = some (.cells #[.int .i64 a0_0, .int .i64 a0_1, .int .i64 a0_2, (.slice A0_3 l0_3.length c0_3)] 40 (0, 0))) ∧ Aside0 (wc.heap[gb116]? = some (.cells #[.int .i64 t109, .int .i64 t110, .int .i64 t111, (.slice Ao22 t112.length co22)] 27 (0, 0))) ∧ Aside0 (wc.heap[gb123]? = some (.cells #[.int .i64 t117, .int .i64 t118, .int .i64 t119, (.slice Ao29 t141.length co29)] 27 (0, 0))) ∧ Aside0 (wc.heap[gb131]? = some (.cells #[.int .i64 t124, .int .i64 t125, .int .i64 t126, (.slice Ao36 t127.length co36)] 27 (0, 0))) ∧ Aside0 (wc.heap[gb159]? = some (.cells #[.int .i64 t152, .int .i64 t153, .int .i64 t154, (.slice Ao123 t155.length co123)] 27 (0, 0))) ∧ Aside0 (Below w.heap.size w wc))
       case first =>
        have H := HC103.out
        clear HC103; replace H := Option.bind_eq_some_iff.mp H; obtain ⟨t160, A1240, H⟩ := H; replace H : (if t160 = true then (laws_FnExactInverseMatrix.j2 kj59 t143 (t158 != t115) t124 t125 t126 t144) else (laws_FnExactInverseMatrix.j2 kj59 t143 true t124 t125 t126 t144)) = some r := H; have A124 := Z7.k A1240; clear A1240
        by_cases c125 : t160 = true
        ·subst c125
         have H1 : (laws_FnExactInverseMatrix.j2 kj59 t143 (t158 != t115) t124 t125 t126 t144) = some r := by rw [if_pos rfl] at H; exact H
         clear H; have H := H1
         clear H1; have H' := Z7.k H; clear H; have hnb126 := NB159_101.out; have hnc126 := NB101_159.out; have hnb127 := NB159_116.out; have hnc127 := NB116_159.out; have hnb128 := NB159_123.out; have hnc128 := NB123_159.out; have hnb129 := NB159_131.out; have hnc129 := NB131_159.out; have hcz130_0 : w117.cell? ⟨gb159, 0, none⟩ = some (.int .i64 0) := (blk_cell BK159.out 0).trans rfl; have hcz130_1 : w117.cell? ⟨gb159, 1, none⟩ = some (.int .i64 0) := (blk_cell BK159.out 1).trans rfl; have hcz130_2 : w117.cell? ⟨gb159, 2, none⟩ = some (.int .i64 0) := (blk_cell BK159.out 2).trans rfl; have hcz130_3 : w117.cell? ⟨gb159, 3, none⟩ = some (.slice none 0 0) := (blk_cell BK159.out 3).trans rfl; have hfz130_0 := blk_frozen BK159.out 0; have hfz130_1 := blk_frozen BK159.out 1; have hfz130_2 := blk_frozen BK159.out 2; have hfz130_3 := blk_frozen BK159.out 3; have hnb131 := NB116_101.out; have hnc131 := NB101_116.out; have hnb132 := NB116_123.out; have hnc132 := NB123_116.out; have hnb133 := NB116_131.out; have hnc133 := NB131_116.out; have hcz134_0 : w117.cell? ⟨gb116, 0, none⟩ = some (.int .i64 t109) := (blk_cell BK116.out 0).trans rfl; have hcz134_1 : w117.cell? ⟨gb116, 1, none⟩ = some (.int .i64 t110) := (blk_cell BK116.out 1).trans rfl; have hcz134_2 : w117.cell? ⟨gb116, 2, none⟩ = some (.int .i64 t111) := (blk_cell BK116.out 2).trans rfl; have hcz134_3 : w117.cell? ⟨gb116, 3, none⟩ = some (.slice Ao22 t112.length co22) := (blk_cell BK116.out 3).trans rfl; have hfz134_0 := blk_frozen BK116.out 0; have hfz134_1 := blk_frozen BK116.out 1; have hfz134_2 := blk_frozen BK116.out 2; have hfz134_3 := blk_frozen BK116.out 3
         go_wp2_with (first | ((with_reducible refine gate_callee (f := 31) rfl ?_); refine goesL_ (some 81) rfl rfl Try.func31 (by kernel_rfl) rfl #[.agg #[.int .i64 t152, .int .i64 t153, .int .i64 t154, .slice Ao123 t155.length co123], .agg #[.int .i64 t109, .int .i64 t110, .int .i64 t111, .slice Ao22 t112.length co22]] rfl Z7.z5 ?_; (with_reducible refine (laws_eqMatrix.calls kj59 t152 t153 t154 _ _ t155 t109 t110 t111 _ _ t112 true _ ?side1 ?side2 ?side3 ?side4 A124.out).mono ?_); (case side1 => exact Z7.z36); (case side2 => exact (Kd.R_reads' HO157.out).2.1); (case side3 => exact Z7.z37); (case side4 => exact (Kd.R_reads' HO_117003.out).2.1); rintro e w135 ⟨rfl, hb⟩; refine ⟨_, rfl, ?_⟩; have n0_ := Z7.k (Kd.R_below Z7.z10 hb); have n1_ := Z7.k (Kd.R_below Z7.z26 hb); have n2_ := Z7.k (Kd.R_below Z7.z25 hb); have n3_ := Z7.k (Kd.R_below Z7.z27 hb); have n4_ := Z7.k (Kd.R_below Z7.z11 hb); have n5_ := Z7.k (Z7.bb BK101 Z7.z62 hb); have n6_ := Z7.k (Z7.bb BK116 Z7.z60 hb); have n7_ := Z7.k (Z7.bb BK123 Z7.z58 hb); have n8_ := Z7.k (Z7.bb BK131 Z7.z57 hb); have n9_ := Z7.k (blk_below (g := gb159) (o := .cells #[.int .i64 t152, .int .i64 t153, .int .i64 t154, .slice Ao123 t155.length co123] 27 (0, 0)) Z7.z17 hb); have n10_ := Z7.k (below_step Z7.z3 hb); clear HO_117003 HO_124003 HO_132003 HO151 HO157 BK101 BK116 BK123 BK131 BK159 HB; have HO_117003 := n0_; have HO_124003 := n1_; have HO_132003 := n2_; have HO151 := n3_; have HO157 := n4_; have BK101 := n5_; have BK116 := n6_; have BK123 := n7_; have BK131 := n8_; have BK159 := n9_; have HB := n10_; clear n0_ n1_ n2_ n3_ n4_ n5_ n6_ n7_ n8_ n9_ n10_; (try clear hb); (try clear hb2); (try clear hk); (try clear hi)))
         go_meet
         case rel => exact ⟨_, ((t158 != t115)), Z7.z72, H', ⟨(by have := HJ10.out; have := HJ59.out; first | omega | exact Nat.le_refl _)⟩, ⟨Z7.z49⟩, ⟨Z7.z48⟩, ⟨Z7.z47⟩, ⟨Z7.z50⟩, ⟨Z7.z68⟩, ⟨Z7.z67⟩, ⟨Z7.z66⟩, ⟨Z7.z65⟩, ⟨Z7.z64⟩, ⟨Z7.z3⟩⟩
        replace c125 := Bool.eq_false_iff.mpr c125; subst c125; have H1 : (laws_FnExactInverseMatrix.j2 kj59 t143 true t124 t125 t126 t144) = some r := by rw [if_neg (show ¬ (false = true) by decide)] at H; exact H
        clear H; have H := H1
        clear H1; have H' := Z7.k H; clear H; have hnb136 := NB159_101.out; have hnc136 := NB101_159.out; have hnb137 := NB159_116.out; have hnc137 := NB116_159.out; have hnb138 := NB159_123.out; have hnc138 := NB123_159.out; have hnb139 := NB159_131.out; have hnc139 := NB131_159.out; have hcz140_0 : w117.cell? ⟨gb159, 0, none⟩ = some (.int .i64 0) := (blk_cell BK159.out 0).trans rfl; have hcz140_1 : w117.cell? ⟨gb159, 1, none⟩ = some (.int .i64 0) := (blk_cell BK159.out 1).trans rfl; have hcz140_2 : w117.cell? ⟨gb159, 2, none⟩ = some (.int .i64 0) := (blk_cell BK159.out 2).trans rfl; have hcz140_3 : w117.cell? ⟨gb159, 3, none⟩ = some (.slice none 0 0) := (blk_cell BK159.out 3).trans rfl; have hfz140_0 := blk_frozen BK159.out 0; have hfz140_1 := blk_frozen BK159.out 1; have hfz140_2 := blk_frozen BK159.out 2; have hfz140_3 := blk_frozen BK159.out 3; have hnb141 := NB116_101.out; have hnc141 := NB101_116.out; have hnb142 := NB116_123.out; have hnc142 := NB123_116.out; have hnb143 := NB116_131.out; have hnc143 := NB131_116.out; have hcz144_0 : w117.cell? ⟨gb116, 0, none⟩ = some (.int .i64 t109) := (blk_cell BK116.out 0).trans rfl; have hcz144_1 : w117.cell? ⟨gb116, 1, none⟩ = some (.int .i64 t110) := (blk_cell BK116.out 1).trans rfl; have hcz144_2 : w117.cell? ⟨gb116, 2, none⟩ = some (.int .i64 t111) := (blk_cell BK116.out 2).trans rfl; have hcz144_3 : w117.cell? ⟨gb116, 3, none⟩ = some (.slice Ao22 t112.length co22) := (blk_cell BK116.out 3).trans rfl; have hfz144_0 := blk_frozen BK116.out 0; have hfz144_1 := blk_frozen BK116.out 1; have hfz144_2 := blk_frozen BK116.out 2; have hfz144_3 := blk_frozen BK116.out 3
        go_wp2_with (first | ((with_reducible refine gate_callee (f := 31) rfl ?_); refine goesL_ (some 81) rfl rfl Try.func31 (by kernel_rfl) rfl #[.agg #[.int .i64 t152, .int .i64 t153, .int .i64 t154, .slice Ao123 t155.length co123], .agg #[.int .i64 t109, .int .i64 t110, .int .i64 t111, .slice Ao22 t112.length co22]] rfl Z7.z5 ?_; (with_reducible refine (laws_eqMatrix.calls kj59 t152 t153 t154 _ _ t155 t109 t110 t111 _ _ t112 false _ ?side1 ?side2 ?side3 ?side4 A124.out).mono ?_); (case side1 => exact Z7.z36); (case side2 => exact (Kd.R_reads' HO157.out).2.1); (case side3 => exact Z7.z37); (case side4 => exact (Kd.R_reads' HO_117003.out).2.1); rintro e w145 ⟨rfl, hb⟩; refine ⟨_, rfl, ?_⟩; have n0_ := Z7.k (Kd.R_below Z7.z10 hb); have n1_ := Z7.k (Kd.R_below Z7.z26 hb); have n2_ := Z7.k (Kd.R_below Z7.z25 hb); have n3_ := Z7.k (Kd.R_below Z7.z27 hb); have n4_ := Z7.k (Kd.R_below Z7.z11 hb); have n5_ := Z7.k (Z7.bb BK101 Z7.z62 hb); have n6_ := Z7.k (Z7.bb BK116 Z7.z60 hb); have n7_ := Z7.k (Z7.bb BK123 Z7.z58 hb); have n8_ := Z7.k (Z7.bb BK131 Z7.z57 hb); have n9_ := Z7.k (blk_below (g := gb159) (o := .cells #[.int .i64 t152, .int .i64 t153, .int .i64 t154, .slice Ao123 t155.length co123] 27 (0, 0)) Z7.z17 hb); have n10_ := Z7.k (below_step Z7.z3 hb); clear HO_117003 HO_124003 HO_132003 HO151 HO157 BK101 BK116 BK123 BK131 BK159 HB; have HO_117003 := n0_; have HO_124003 := n1_; have HO_132003 := n2_; have HO151 := n3_; have HO157 := n4_; have BK101 := n5_; have BK116 := n6_; have BK123 := n7_; have BK131 := n8_; have BK159 := n9_; have HB := n10_; clear n0_ n1_ n2_ n3_ n4_ n5_ n6_ n7_ n8_ n9_ n10_; (try clear hb); (try clear hb2); (try clear hk); (try clear hi)))
        go_meet
        case rel => exact ⟨_, (true), Z7.z72, H', ⟨(by have := HJ10.out; have := HJ59.out; first | omega | exact Nat.le_refl _)⟩, ⟨Z7.z49⟩, ⟨Z7.z48⟩, ⟨Z7.z47⟩, ⟨Z7.z50⟩, ⟨Z7.z68⟩, ⟨Z7.z67⟩, ⟨Z7.z66⟩, ⟨Z7.z65⟩, ⟨Z7.z64⟩, ⟨Z7.z3⟩⟩
       case rest =>
        clear HC103; (try clear c1); (try clear c2); (try clear p2); (try clear c3); (try clear c3b0); (try clear c4); (try clear c5); (try clear c6); (try clear c7); (try clear c8); (try clear c9); (try clear c10); (try clear c11); (try clear c12); (try clear c13); (try clear c14); (try clear c20); (try clear c22); (try clear c25); (try clear c26); (try clear c27); (try clear c31); (try clear c32); (try clear c33); (try clear c34); (try clear c38); (try clear c39); (try clear c40); (try clear c41); (try clear c43); (try clear c44); (try clear c47); (try clear c48); (try clear c49); (try clear c51); (try clear c52); (try clear c55); (try clear c58); (try clear c65); (try clear c66); (try clear c67); (try clear c70); (try clear c70b0); (try clear c72); (try clear c73); (try clear c74); (try clear c75); (try clear c77); (try clear c78); (try clear c81); (try clear c82); (try clear c83); (try clear c85); (try clear c86); (try clear c89); (try clear c92); (try clear c92b0); (try clear c93); (try clear c94); (try clear c95); (try clear c100); (try clear c100b0); (try clear c100b1); (try clear c104); (try clear c105); (try clear c106); (try clear c111); (try clear c112); (try clear c118); (try clear c119); (try clear c120); (try clear c121); (try clear c125); (try clear c126); (try clear c127); (try clear c128); (try clear c129); (try clear c131); (try clear c132); (try clear c133); (try clear c136); (try clear c137); (try clear c138); (try clear c139); (try clear c141); (try clear c142); (try clear c143); (try clear hcz107_0); (try clear hcz107_1); (try clear hcz107_2); (try clear hcz107_3); (try clear hcz109_0); (try clear hcz109_1); (try clear hcz109_2); (try clear hcz109_3); (try clear hcz113_0); (try clear hcz113_1); (try clear hcz113_2); (try clear hcz113_3); (try clear hcz122_0); (try clear hcz122_1); (try clear hcz122_2); (try clear hcz122_3); (try clear hcz130_0); (try clear hcz130_1); (try clear hcz130_2); (try clear hcz130_3); (try clear hcz134_0); (try clear hcz134_1); (try clear hcz134_2); (try clear hcz134_3); (try clear hcz13_0); (try clear hcz13_1); (try clear hcz13_2); (try clear hcz13_3); (try clear hcz140_0); (try clear hcz140_1); (try clear hcz140_2); (try clear hcz140_3); (try clear hcz144_0); (try clear hcz144_1); (try clear hcz144_2); (try clear hcz144_3); (try clear hcz15_0); (try clear hcz15_1); (try clear hcz15_2); (try clear hcz15_3); (try clear hcz21_0); (try clear hcz21_1); (try clear hcz21_2); (try clear hcz21_3); (try clear hcz23_0); (try clear hcz23_1); (try clear hcz23_2); (try clear hcz23_3); (try clear hcz28_0); (try clear hcz28_1); (try clear hcz28_2); (try clear hcz28_3); (try clear hcz35_0); (try clear hcz35_1); (try clear hcz35_2); (try clear hcz35_3); (try clear hcz42_0); (try clear hcz42_1); (try clear hcz42_2); (try clear hcz42_3); (try clear hcz45_0); (try clear hcz45_1); (try clear hcz45_2); (try clear hcz45_3); (try clear hcz50_0); (try clear hcz50_1); (try clear hcz50_2); (try clear hcz50_3); (try clear hcz53_0); (try clear hcz53_1); (try clear hcz53_2); (try clear hcz53_3); (try clear hcz5_0); (try clear hcz5_1); (try clear hcz5_2); (try clear hcz5_3); (try clear hcz68_0); (try clear hcz68_1); (try clear hcz68_2); (try clear hcz68_3); (try clear hcz76_0); (try clear hcz76_1); (try clear hcz76_2); (try clear hcz76_3); (try clear hcz79_0); (try clear hcz79_1); (try clear hcz79_2); (try clear hcz79_3); (try clear hcz84_0); (try clear hcz84_1); (try clear hcz84_2); (try clear hcz84_3); (try clear hcz87_0); (try clear hcz87_1); (try clear hcz87_2); (try clear hcz87_3); (try clear hcz96_0); (try clear hcz96_1); (try clear hcz96_2); (try clear hcz96_3); (try clear hcz98_0); (try clear hcz98_1); (try clear hcz98_2); (try clear hcz98_3); (try clear hfz107_0); (try clear hfz107_1); (try clear hfz107_2); (try clear hfz107_3); (try clear hfz109_0); (try clear hfz109_1); (try clear hfz109_2); (try clear hfz109_3); (try clear hfz113_0); (try clear hfz113_1); (try clear hfz113_2); (try clear hfz113_3); (try clear hfz122_0); (try clear hfz122_1); (try clear hfz122_2); (try clear hfz122_3); (try clear hfz130_0); (try clear hfz130_1); (try clear hfz130_2); (try clear hfz130_3); (try clear hfz134_0); (try clear hfz134_1); (try clear hfz134_2); (try clear hfz134_3); (try clear hfz13_0); (try clear hfz13_1); (try clear hfz13_2); (try clear hfz13_3); (try clear hfz140_0); (try clear hfz140_1); (try clear hfz140_2); (try clear hfz140_3); (try clear hfz144_0); (try clear hfz144_1); (try clear hfz144_2); (try clear hfz144_3); (try clear hfz15_0); (try clear hfz15_1); (try clear hfz15_2); (try clear hfz15_3); (try clear hfz21_0); (try clear hfz21_1); (try clear hfz21_2); (try clear hfz21_3); (try clear hfz23_0); (try clear hfz23_1); (try clear hfz23_2); (try clear hfz23_3); (try clear hfz28_0); (try clear hfz28_1); (try clear hfz28_2); (try clear hfz28_3); (try clear hfz35_0); (try clear hfz35_1); (try clear hfz35_2); (try clear hfz35_3); (try clear hfz42_0); (try clear hfz42_1); (try clear hfz42_2); (try clear hfz42_3); (try clear hfz45_0); (try clear hfz45_1); (try clear hfz45_2); (try clear hfz45_3); (try clear hfz50_0); (try clear hfz50_1); (try clear hfz50_2); (try clear hfz50_3); (try clear hfz53_0); (try clear hfz53_1); (try clear hfz53_2); (try clear hfz53_3); (try clear hfz5_0); (try clear hfz5_1); (try clear hfz5_2); (try clear hfz5_3); (try clear hfz68_0); (try clear hfz68_1); (try clear hfz68_2); (try clear hfz68_3); (try clear hfz76_0); (try clear hfz76_1); (try clear hfz76_2); (try clear hfz76_3); (try clear hfz79_0); (try clear hfz79_1); (try clear hfz79_2); (try clear hfz79_3); (try clear hfz84_0); (try clear hfz84_1); (try clear hfz84_2); (try clear hfz84_3); (try clear hfz87_0); (try clear hfz87_1); (try clear hfz87_2); (try clear hfz87_3); (try clear hfz96_0); (try clear hfz96_1); (try clear hfz96_2); (try clear hfz96_3); (try clear hfz98_0); (try clear hfz98_1); (try clear hfz98_2); (try clear hfz98_3); (try clear p2); obtain ⟨kq, x87_102, rfl, HA, HJ102, HO_117003, HO_124003, HO_132003, HO_160003, BK101, BK116, BK123, BK131, BK159, HB⟩ := hcut; have hl132003_102 := (Kd.R_reads' HO_132003.out).1; rw [hl132003_102] at HO_132003
        (try simp only [hl132003_102])
        (try simp only [hl132003_102] at BK101)
        (try simp only [hl132003_102] at BK116)
        (try simp only [hl132003_102] at BK123)
        (try simp only [hl132003_102] at BK131)
        (try simp only [hl132003_102] at BK159)
        (try simp only [hl132003_102] at HO_117003)
        (try simp only [hl132003_102] at HO_124003)
        (try simp only [hl132003_102] at HO_160003)
        cases kq with
        | zero => exact absurd HA.out (by simp [laws_FnExactInverseMatrix.j2])
        | succ kj102 =>
         have H := HA.out
         clear HA; simp only [laws_FnExactInverseMatrix.j2] at H
         by_cases c146 : x87_102 = true
         ·subst c146
          have H1 : (some false) = some r := by rw [if_pos rfl] at H; exact H
          clear H; have H := H1
          clear H1; obtain rfl := Option.some.inj H
          go_wp2
          go_ret
          exact ⟨Z7.z23, Z7.z3⟩
         replace c146 := Bool.eq_false_iff.mpr c146; subst c146; have H1 : ((laws_heldMatrix.f kj102 t124 t125 t126 t144 1).bind fun t161 => (if t161 < 0 then (some false) else (if t161 = t143 then (some true) else (some false)))) = some r := by rw [if_neg (show ¬ (false = true) by decide)] at H; exact H
         clear H; have H := H1
         clear H1; replace H := Option.bind_eq_some_iff.mp H; obtain ⟨t161, A1470, H⟩ := H; replace H : (if t161 < 0 then (some false) else (if t161 = t143 then (some true) else (some false))) = some r := H; have A147 := Z7.k A1470; clear A1470
         by_cases c148 : t161 < 0
         ·rw [if_pos c148] at H
          have c148b0 : decide (t161 < 0) = true := decide_eq_true c148; clear c148; obtain rfl := Option.some.inj H; have hnb149 := NB131_101.out; have hnc149 := NB101_131.out; have hnb150 := NB131_116.out; have hnc150 := NB116_131.out; have hnb151 := NB131_123.out; have hnc151 := NB123_131.out; have hnb152 := NB131_159.out; have hnc152 := NB159_131.out; have hcz153_0 : wc.cell? ⟨gb131, 0, none⟩ = some (.int .i64 t124) := (blk_cell BK131.out 0).trans rfl; have hcz153_1 : wc.cell? ⟨gb131, 1, none⟩ = some (.int .i64 t125) := (blk_cell BK131.out 1).trans rfl; have hcz153_2 : wc.cell? ⟨gb131, 2, none⟩ = some (.int .i64 t126) := (blk_cell BK131.out 2).trans rfl; have hcz153_3 : wc.cell? ⟨gb131, 3, none⟩ = some (.slice Ao36 t144.length co36) := (blk_cell BK131.out 3).trans rfl; have hfz153_0 := blk_frozen BK131.out 0; have hfz153_1 := blk_frozen BK131.out 1; have hfz153_2 := blk_frozen BK131.out 2; have hfz153_3 := blk_frozen BK131.out 3
          go_wp2_with (first | ((with_reducible refine gate_callee (f := 41) rfl ?_); refine goesL_ (some 90) rfl rfl Try.func41 (by kernel_rfl) rfl #[.agg #[.int .i64 t124, .int .i64 t125, .int .i64 t126, .slice Ao36 t144.length co36], .int .i64 1] rfl Z7.z5 ?_; (with_reducible refine (laws_heldMatrix.calls kj102 t124 t125 t126 _ _ t144 1 t161 _ ?side1 ?side2 A147.out).mono ?_); (case side1 => exact Z7.z16); (case side2 => exact (Kd.R_reads' HO_132003.out).2.1); rintro e w154 ⟨rfl, hb⟩; refine ⟨_, rfl, ?_⟩; have n0_ := Z7.k (Kd.R_below Z7.z9 hb); have n1_ := Z7.k (Kd.R_below Z7.z8 hb); have n2_ := Z7.k (Kd.R_below Z7.z7 hb); have n3_ := Z7.k (Kd.R_below Z7.z51 hb); have n4_ := Z7.k (Z7.bb BK101 Z7.z1 hb); have n5_ := Z7.k (Z7.bb BK116 Z7.z2 hb); have n6_ := Z7.k (Z7.bb BK123 Z7.z4 hb); have n7_ := Z7.k (Z7.bb BK131 Z7.z6 hb); have n8_ := Z7.k (Z7.bb BK159 Z7.z45 hb); have n9_ := Z7.k (below_step Z7.z3 hb); clear HO_117003 HO_124003 HO_132003 HO_160003 BK101 BK116 BK123 BK131 BK159 HB; have HO_117003 := n0_; have HO_124003 := n1_; have HO_132003 := n2_; have HO_160003 := n3_; have BK101 := n4_; have BK116 := n5_; have BK123 := n6_; have BK131 := n7_; have BK159 := n8_; have HB := n9_; clear n0_ n1_ n2_ n3_ n4_ n5_ n6_ n7_ n8_ n9_; (try clear hb); (try clear hb2); (try clear hk); (try clear hi)))
          go_ret
          exact ⟨Z7.z23, Z7.z3⟩
         rw [if_neg c148] at H; have c148b0 : decide (t161 < 0) = false := decide_eq_false c148; clear c148
         by_cases c155 : t161 = t143
         ·rw [if_pos c155] at H
          have c155b0 : (t161 == t143) = true := beq_iff_eq.mpr c155; have c155b1 : (t161 != t143) = false := bne_eq_false_iff_eq.mpr c155; clear c155; obtain rfl := Option.some.inj H; have hnb156 := NB131_101.out; have hnc156 := NB101_131.out; have hnb157 := NB131_116.out; have hnc157 := NB116_131.out; have hnb158 := NB131_123.out; have hnc158 := NB123_131.out; have hnb159 := NB131_159.out; have hnc159 := NB159_131.out; have hcz160_0 : wc.cell? ⟨gb131, 0, none⟩ = some (.int .i64 t124) := (blk_cell BK131.out 0).trans rfl; have hcz160_1 : wc.cell? ⟨gb131, 1, none⟩ = some (.int .i64 t125) := (blk_cell BK131.out 1).trans rfl; have hcz160_2 : wc.cell? ⟨gb131, 2, none⟩ = some (.int .i64 t126) := (blk_cell BK131.out 2).trans rfl; have hcz160_3 : wc.cell? ⟨gb131, 3, none⟩ = some (.slice Ao36 t144.length co36) := (blk_cell BK131.out 3).trans rfl; have hfz160_0 := blk_frozen BK131.out 0; have hfz160_1 := blk_frozen BK131.out 1; have hfz160_2 := blk_frozen BK131.out 2; have hfz160_3 := blk_frozen BK131.out 3
          go_wp2_with (first | ((with_reducible refine gate_callee (f := 41) rfl ?_); refine goesL_ (some 90) rfl rfl Try.func41 (by kernel_rfl) rfl #[.agg #[.int .i64 t124, .int .i64 t125, .int .i64 t126, .slice Ao36 t144.length co36], .int .i64 1] rfl Z7.z5 ?_; (with_reducible refine (laws_heldMatrix.calls kj102 t124 t125 t126 _ _ t144 1 t161 _ ?side1 ?side2 A147.out).mono ?_); (case side1 => exact Z7.z16); (case side2 => exact (Kd.R_reads' HO_132003.out).2.1); rintro e w161 ⟨rfl, hb⟩; refine ⟨_, rfl, ?_⟩; have n0_ := Z7.k (Kd.R_below Z7.z9 hb); have n1_ := Z7.k (Kd.R_below Z7.z8 hb); have n2_ := Z7.k (Kd.R_below Z7.z7 hb); have n3_ := Z7.k (Kd.R_below Z7.z51 hb); have n4_ := Z7.k (Z7.bb BK101 Z7.z1 hb); have n5_ := Z7.k (Z7.bb BK116 Z7.z2 hb); have n6_ := Z7.k (Z7.bb BK123 Z7.z4 hb); have n7_ := Z7.k (Z7.bb BK131 Z7.z6 hb); have n8_ := Z7.k (Z7.bb BK159 Z7.z45 hb); have n9_ := Z7.k (below_step Z7.z3 hb); clear HO_117003 HO_124003 HO_132003 HO_160003 BK101 BK116 BK123 BK131 BK159 HB; have HO_117003 := n0_; have HO_124003 := n1_; have HO_132003 := n2_; have HO_160003 := n3_; have BK101 := n4_; have BK116 := n5_; have BK123 := n6_; have BK131 := n7_; have BK159 := n8_; have HB := n9_; clear n0_ n1_ n2_ n3_ n4_ n5_ n6_ n7_ n8_ n9_; (try clear hb); (try clear hb2); (try clear hk); (try clear hi)))
          go_ret
          exact ⟨Z7.z23, Z7.z3⟩
         rw [if_neg c155] at H; have c155b0 : (t161 == t143) = false := beq_eq_false_iff_ne.mpr c155; have c155b1 : (t161 != t143) = true := bne_iff_ne.mpr c155; obtain rfl := Option.some.inj H; have hnb162 := NB131_101.out; have hnc162 := NB101_131.out; have hnb163 := NB131_116.out; have hnc163 := NB116_131.out; have hnb164 := NB131_123.out; have hnc164 := NB123_131.out; have hnb165 := NB131_159.out; have hnc165 := NB159_131.out; have hcz166_0 : wc.cell? ⟨gb131, 0, none⟩ = some (.int .i64 t124) := (blk_cell BK131.out 0).trans rfl; have hcz166_1 : wc.cell? ⟨gb131, 1, none⟩ = some (.int .i64 t125) := (blk_cell BK131.out 1).trans rfl; have hcz166_2 : wc.cell? ⟨gb131, 2, none⟩ = some (.int .i64 t126) := (blk_cell BK131.out 2).trans rfl; have hcz166_3 : wc.cell? ⟨gb131, 3, none⟩ = some (.slice Ao36 t144.length co36) := (blk_cell BK131.out 3).trans rfl; have hfz166_0 := blk_frozen BK131.out 0; have hfz166_1 := blk_frozen BK131.out 1; have hfz166_2 := blk_frozen BK131.out 2; have hfz166_3 := blk_frozen BK131.out 3
         go_wp2_with (first | ((with_reducible refine gate_callee (f := 41) rfl ?_); refine goesL_ (some 90) rfl rfl Try.func41 (by kernel_rfl) rfl #[.agg #[.int .i64 t124, .int .i64 t125, .int .i64 t126, .slice Ao36 t144.length co36], .int .i64 1] rfl Z7.z5 ?_; (with_reducible refine (laws_heldMatrix.calls kj102 t124 t125 t126 _ _ t144 1 t161 _ ?side1 ?side2 A147.out).mono ?_); (case side1 => exact Z7.z16); (case side2 => exact (Kd.R_reads' HO_132003.out).2.1); rintro e w167 ⟨rfl, hb⟩; refine ⟨_, rfl, ?_⟩; have n0_ := Z7.k (Kd.R_below Z7.z9 hb); have n1_ := Z7.k (Kd.R_below Z7.z8 hb); have n2_ := Z7.k (Kd.R_below Z7.z7 hb); have n3_ := Z7.k (Kd.R_below Z7.z51 hb); have n4_ := Z7.k (Z7.bb BK101 Z7.z1 hb); have n5_ := Z7.k (Z7.bb BK116 Z7.z2 hb); have n6_ := Z7.k (Z7.bb BK123 Z7.z4 hb); have n7_ := Z7.k (Z7.bb BK131 Z7.z6 hb); have n8_ := Z7.k (Z7.bb BK159 Z7.z45 hb); have n9_ := Z7.k (below_step Z7.z3 hb); clear HO_117003 HO_124003 HO_132003 HO_160003 BK101 BK116 BK123 BK131 BK159 HB; have HO_117003 := n0_; have HO_124003 := n1_; have HO_132003 := n2_; have HO_160003 := n3_; have BK101 := n4_; have BK116 := n5_; have BK123 := n6_; have BK131 := n7_; have BK159 := n8_; have HB := n9_; clear n0_ n1_ n2_ n3_ n4_ n5_ n6_ n7_ n8_ n9_; (try clear hb); (try clear hb2); (try clear hk); (try clear hi)))
         go_ret
         exact ⟨Z7.z23, Z7.z3⟩
      rw [if_neg c100] at H; have c100b0 : (t145 == t143) = false := beq_eq_false_iff_ne.mpr c100; have c100b1 : (t145 != t143) = true := bne_iff_ne.mpr c100; obtain rfl := Option.some.inj H; have hnb168 := NB131_101.out; have hnc168 := NB101_131.out; have hnb169 := NB131_116.out; have hnc169 := NB116_131.out; have hnb170 := NB131_123.out; have hnc170 := NB123_131.out; have hcz171_0 : wc.cell? ⟨gb131, 0, none⟩ = some (.int .i64 t124) := (blk_cell BK131.out 0).trans rfl; have hcz171_1 : wc.cell? ⟨gb131, 1, none⟩ = some (.int .i64 t125) := (blk_cell BK131.out 1).trans rfl; have hcz171_2 : wc.cell? ⟨gb131, 2, none⟩ = some (.int .i64 t126) := (blk_cell BK131.out 2).trans rfl; have hcz171_3 : wc.cell? ⟨gb131, 3, none⟩ = some (.slice Ao36 t127.length co36) := (blk_cell BK131.out 3).trans rfl; have hfz171_0 := blk_frozen BK131.out 0; have hfz171_1 := blk_frozen BK131.out 1; have hfz171_2 := blk_frozen BK131.out 2; have hfz171_3 := blk_frozen BK131.out 3
      go_wp2_with (first | ((with_reducible refine gate_callee (f := 32) rfl ?_); refine goesL_ (some 64) rfl rfl Try.func32 (by kernel_rfl) rfl #[.agg #[.int .i64 t124, .int .i64 t125, .int .i64 t126, .slice Ao36 t127.length co36], .int .i64 1] rfl Z7.z5 ?_; (with_reducible refine (laws_markMatrix.calls kj59 t124 t125 t126 (fun k_ => some k_ = (.slice Ao36 t127.length co36 : Value).ownBlock) (.slice Ao36 t127.length co36) t127 1 t143 t144 w _ ?side1 ?side2 A90.out).mono ?_); (case side1 => exact Z7.z0); (case side2 => exact Kd.R_tight rfl HO_132003.out); rintro e w172 ⟨rfl, hy0, hb, hkp⟩; refine ⟨_, rfl, ?_⟩; have n0_ := Z7.k (Kd.R_mono (ok' := fun k_ => some k_ ≠ (.slice Ao29 t141.length co29 : Value).ownBlock ∧ some k_ ≠ (.slice Ao36 t127.length co36 : Value).ownBlock) (Kd.R_keptB (HO_117003.out) hkp (fun k_ hk_ hs_ => (hk_.2) hs_)) (fun k_ hk_ => ⟨hk_.1.1, hk_.1.2⟩)); have n1_ := Z7.k (Kd.R_mono (ok' := fun k_ => some k_ ≠ (.slice Ao22 t112.length co22 : Value).ownBlock ∧ some k_ ≠ (.slice Ao36 t127.length co36 : Value).ownBlock) (Kd.R_keptB (HO_124003.out) hkp (fun k_ hk_ hs_ => (hk_.2) hs_)) (fun k_ hk_ => ⟨hk_.1.1, hk_.1.2⟩)); have n2_ := Z7.k (Kd.R_reok rfl hy0 (fun k_ e_ => HO_132003.out.1 k_ e_)); have n3_ := Z7.k (blk_kept Z7.z1 hkp (fun hs_ => (fun e_ => (Kd.R_ne HO_132003.out BK101.out (by decide)) e_) hs_)); have n4_ := Z7.k (blk_kept Z7.z2 hkp (fun hs_ => (fun e_ => (Kd.R_ne HO_132003.out BK116.out (by decide)) e_) hs_)); have n5_ := Z7.k (blk_kept Z7.z4 hkp (fun hs_ => (fun e_ => (Kd.R_ne HO_132003.out BK123.out (by decide)) e_) hs_)); have n6_ := Z7.k (blk_kept Z7.z6 hkp (fun hs_ => (fun e_ => (Kd.R_ne HO_132003.out BK131.out (by decide)) e_) hs_)); have n7_ := Z7.k (hb); clear HO_117003 HO_124003 HO_132003 BK101 BK116 BK123 BK131 HB; have HO_117003 := n0_; have HO_124003 := n1_; have HO_132003 := n2_; have BK101 := n3_; have BK116 := n4_; have BK123 := n5_; have BK131 := n6_; have HB := n7_; clear n0_ n1_ n2_ n3_ n4_ n5_ n6_ n7_; (try clear hb); (try clear hkp); (try clear hy0); have hcz173_0 : w172.cell? ⟨gb131, 0, none⟩ = some (.int .i64 t124) := (blk_cell BK131.out 0).trans rfl; have hcz173_1 : w172.cell? ⟨gb131, 1, none⟩ = some (.int .i64 t125) := (blk_cell BK131.out 1).trans rfl; have hcz173_2 : w172.cell? ⟨gb131, 2, none⟩ = some (.int .i64 t126) := (blk_cell BK131.out 2).trans rfl; have hcz173_3 : w172.cell? ⟨gb131, 3, none⟩ = some (.slice Ao36 t127.length co36) := (blk_cell BK131.out 3).trans rfl; have hfz173_0 := blk_frozen BK131.out 0; have hfz173_1 := blk_frozen BK131.out 1; have hfz173_2 := blk_frozen BK131.out 2; have hfz173_3 := blk_frozen BK131.out 3) | ((with_reducible refine gate_callee (f := 41) rfl ?_); refine goesL_ (some 67) rfl rfl Try.func41 (by kernel_rfl) rfl #[.agg #[.int .i64 t124, .int .i64 t125, .int .i64 t126, .slice Ao36 t144.length co36], .int .i64 1] rfl Z7.z34 ?_; (with_reducible refine (laws_heldMatrix.calls kj59 t124 t125 t126 _ _ t144 1 t145 _ ?side1 ?side2 A91.out).mono ?_); (case side1 => exact Z7.z16); (case side2 => exact Z7.z46); rintro e w174 ⟨rfl, hb⟩; refine ⟨_, rfl, ?_⟩; have n0_ := Z7.k (Kd.R_below Z7.z9 hb); have n1_ := Z7.k (Kd.R_below Z7.z8 hb); have n2_ := Z7.k (Kd.R_below Z7.z7 hb); have n3_ := Z7.k (Z7.bb BK101 Z7.z1 hb); have n4_ := Z7.k (Z7.bb BK116 Z7.z2 hb); have n5_ := Z7.k (Z7.bb BK123 Z7.z4 hb); have n6_ := Z7.k (Z7.bb BK131 Z7.z6 hb); have n7_ := Z7.k (below_step Z7.z0 hb); clear HO_117003 HO_124003 HO_132003 BK101 BK116 BK123 BK131 HB; have HO_117003 := n0_; have HO_124003 := n1_; have HO_132003 := n2_; have BK101 := n3_; have BK116 := n4_; have BK123 := n5_; have BK131 := n6_; have HB := n7_; clear n0_ n1_ n2_ n3_ n4_ n5_ n6_ n7_; (try clear hb); (try clear hb2); (try clear hk); (try clear hi)))
      go_ret
      exact ⟨Z7.z23, Z7.z0⟩
   replace c58 := Bool.eq_false_iff.mpr c58
   subst c58
   have H1 : (some false) = some r := by rw [if_neg (show ¬ (false = true) by decide)] at H; exact H
   clear H
   have H := H1
   clear H1
   obtain rfl := Option.some.inj H
   try go_wp2
   have n0_ := Z7.k (Kd.R_drew HO_117003.out)
   have n1_ := Z7.k (Kd.R_drew HO_124003.out)
   have n2_ := Z7.k (Kd.R_drew HO_132003.out)
   have n3_ := Z7.k (blk_drew BK101.out)
   have n4_ := Z7.k (blk_drew BK116.out)
   have n5_ := Z7.k (blk_drew BK123.out)
   have n6_ := Z7.k (blk_drew BK131.out)
   have n7_ := Z7.k (below_drew1 HB.out)
   clear HO_117003 HO_124003 HO_132003 BK101 BK116 BK123 BK131 HB
   have HO_117003 := n0_
   have HO_124003 := n1_
   have HO_132003 := n2_
   have BK101 := n3_
   have BK116 := n4_
   have BK123 := n5_
   have BK131 := n6_
   have HB := n7_
   clear n0_ n1_ n2_ n3_ n4_ n5_ n6_ n7_
   refine start_ (n := 5) (S := fun w' => w'.cell? ⟨gb123, 0, none⟩ = some (.int .i64 t117) ∧ w'.cell? ⟨gb123, 1, none⟩ = some (.int .i64 t118) ∧ w'.cell? ⟨gb123, 2, none⟩ = some (.int .i64 t119) ∧ w'.cell? ⟨gb123, 3, none⟩ = some (.slice Ao29 t120.length co29) ∧ w'.cell? ⟨gb101, 0, none⟩ = some (.int .i64 a0_0) ∧ w'.cell? ⟨gb101, 1, none⟩ = some (.int .i64 a0_1) ∧ w'.cell? ⟨gb101, 2, none⟩ = some (.int .i64 a0_2) ∧ w'.cell? ⟨gb101, 3, none⟩ = some (.slice A0_3 l0_3.length c0_3)) (ds := []) #[false, false, false, false, false] (by kernel_rfl) rfl rfl Z7.z14 (fun hHeld => ?_)
   generalize wc.drew = w175 at HO_117003 HO_124003 HO_132003 BK101 BK116 BK123 BK131 HB hHeld ⊢
   refine Z7.pT8 0 41 (Z7.b 5 1) (by kernel_rfl) hHeld ?_
   refine Z7.pT8 1 42 (Z7.b 5 3) (by kernel_rfl) hHeld ?_
   refine one_ (i := 2) (N := some 43) (Z7.b 5 7) rfl rfl (by kernel_rfl) (by decide) (fun K hK => ?_)
   refine goes_ Try.func27 (by kernel_rfl) rfl #[.agg #[.int .i64 a0_0, .int .i64 a0_1, .int .i64 a0_2, .slice A0_3 l0_3.length c0_3]] (by rfl) rfl rfl Z7.z5 ?_
   with_reducible refine (laws_toMatrix.calls kj10 a0_0 a0_1 a0_2 _ _ l0_3 t133 t134 t135 t136 _ ?side1 ?side2 A56.out).mono ?_
   (case side1 => exact Z7.z22)
   (case side2 => exact HC0_3.out)
   rintro e w176 ⟨v137, rfl, ho0, hb⟩
   refine ⟨_, rfl, ?_⟩
   have n0_ := Z7.k (Kd.R_elder' Z7.z9 (Kd.R_base ho0) hb)
   have n1_ := Z7.k (Kd.R_elder' Z7.z8 (Kd.R_base ho0) hb)
   have n2_ := Z7.k (Kd.R_elder' Z7.z7 (Kd.R_base ho0) hb)
   have n3_ := Z7.k (Kd.R_lower (Kd.R_new' (Kd.R_new' (Kd.R_new' ho0 (Kd.R_lt Z7.z9)) (Kd.R_lt Z7.z8)) (Kd.R_lt Z7.z7)) (below_size Z7.z0))
   have n4_ := Z7.k (Z7.bb BK101 Z7.z1 hb)
   have n5_ := Z7.k (Z7.bb BK116 Z7.z2 hb)
   have n6_ := Z7.k (Z7.bb BK123 Z7.z4 hb)
   have n7_ := Z7.k (Z7.bb BK131 Z7.z6 hb)
   have n8_ := Z7.k (below_step Z7.z0 hb)
   clear HO_117003 HO_124003 HO_132003 BK101 BK116 BK123 BK131 HB
   have HO_117003 := n0_
   have HO_124003 := n1_
   have HO_132003 := n2_
   have HO138 := n3_
   have BK101 := n4_
   have BK116 := n5_
   have BK123 := n6_
   have BK131 := n7_
   have HB := n8_
   clear n0_ n1_ n2_ n3_ n4_ n5_ n6_ n7_ n8_
   (try clear hb)
   (try clear hb2)
   (try clear hk)
   (try clear hi)
   (try clear ho0)
   obtain ⟨Ao177, co177, eo177⟩ := Kd.R_slice HO138.out
   (first | subst eo177 | (injection eo177 with f1_ f2_ f3_; have f4_ := f1_.symm; have f5_ := f3_.symm; clear f1_ f2_ f3_; subst f4_; subst f5_))
   refine hK.out _ _ Z7.z14 (fun hHeld => ?_)
   clear hK K
   refine norm_ (a' := ?_) ?_ ?_
   rotate_left
   ·show Act.put _ (some 43) _ = _
    simp only [Act.put, List.setIfInBounds_toArray, List.set_cons_zero, List.set_cons_succ, i64_w, i32_w]
    rfl
   refine one_ (i := 3) (N := some 44) (Z7.b 5 15) rfl rfl (by kernel_rfl) (by decide) (fun K hK => ?_)
   refine goes_ Try.func31 (by kernel_rfl) rfl #[.agg #[.int .i64 t117, .int .i64 t118, .int .i64 t119, .slice Ao29 t120.length co29], .agg #[.int .i64 t133, .int .i64 t134, .int .i64 t135, .slice Ao177 t136.length co177]] (by rfl) rfl rfl Z7.z5 ?_
   with_reducible refine (laws_eqMatrix.calls kj10 t117 t118 t119 _ _ t120 t133 t134 t135 _ _ t136 false _ ?side1 ?side2 ?side3 ?side4 A57.out).mono ?_
   (case side1 => exact Z7.z54)
   (case side2 => exact (Kd.R_reads' HO_124003.out).2.1)
   (case side3 => exact Z7.z56)
   (case side4 => exact (Kd.R_reads' HO138.out).2.1)
   rintro e w178 ⟨rfl, hb⟩
   refine ⟨_, rfl, ?_⟩
   have n0_ := Z7.k (Kd.R_below Z7.z9 hb)
   have n1_ := Z7.k (Kd.R_below Z7.z8 hb)
   have n2_ := Z7.k (Kd.R_below Z7.z7 hb)
   have n3_ := Z7.k (Kd.R_below Z7.z44 hb)
   have n4_ := Z7.k (Z7.bb BK101 Z7.z1 hb)
   have n5_ := Z7.k (Z7.bb BK116 Z7.z2 hb)
   have n6_ := Z7.k (Z7.bb BK123 Z7.z4 hb)
   have n7_ := Z7.k (Z7.bb BK131 Z7.z6 hb)
   have n8_ := Z7.k (below_step Z7.z0 hb)
   clear HO_117003 HO_124003 HO_132003 HO138 BK101 BK116 BK123 BK131 HB
   have HO_117003 := n0_
   have HO_124003 := n1_
   have HO_132003 := n2_
   have HO138 := n3_
   have BK101 := n4_
   have BK116 := n5_
   have BK123 := n6_
   have BK131 := n7_
   have HB := n8_
   clear n0_ n1_ n2_ n3_ n4_ n5_ n6_ n7_ n8_
   (try clear hb)
   (try clear hb2)
   (try clear hk)
   (try clear hi)
   refine hK.out _ _ Z7.z14 (fun hHeld => ?_)
   clear hK K
   refine norm_ (a' := ?_) ?_ ?_
   rotate_left
   ·show Act.put _ (some 44) _ = _
    simp only [Act.put, List.setIfInBounds_toArray, List.set_cons_zero, List.set_cons_succ, i64_w, i32_w]
    rfl
   refine Z7.pP 4 45 (Z7.b 5 31) (by kernel_rfl) ?_
   refine done_ (by kernel_rfl) ?_
   try go_wp2
   go_ret
   exact ⟨Z7.z23, Z7.z0⟩
def laws_FnExactInverseMatrix.Pure : Prop := ∀ (a0_0 : Int) (a0_1 : Int) (a0_2 : Int) (l0_3 : List Int), (Lit.int .i64 a0_0).wf = true → (Lit.int .i64 a0_1).wf = true → (Lit.int .i64 a0_2).wf = true → l0_3.length ≤ maxLen → (∀ x ∈ l0_3, (Lit.int .i64 x).wf = true) → ∃ k, laws_FnExactInverseMatrix.f k a0_0 a0_1 a0_2 l0_3 = some true
theorem laws_FnExactInverseMatrix.walk (P : laws_FnExactInverseMatrix.Pure) (a0_0 : Int) (a0_1 : Int) (a0_2 : Int) (a0_3 : Option Addr) (len0_3 cap0_3 : Nat) (z0_3 : List Int) (w : World) (w0_0 : (Lit.int .i64 a0_0).wf = true) (w0_1 : (Lit.int .i64 a0_1).wf = true) (w0_2 : (Lit.int .i64 a0_2).wf = true) (w0_3 : (a0_3 = none ∧ len0_3 = 0 ∧ cap0_3 = 0 ∧ z0_3 = []) ∨ ∃ x, a0_3 = some x ∧ len0_3 ≤ cap0_3 ∧ cap0_3 ≤ maxLen ∧ z0_3.length = cap0_3 ∧ (∀ i, i < z0_3.length → w.cell? (x.add i) = some (.int .i64 (z0_3.getD i 0))) ∧ ∀ n ∈ z0_3, (Lit.int .i64 n).wf = true) :
    Calls Try.prog 7 #[.agg #[.int .i64 a0_0, .int .i64 a0_1, .int .i64 a0_2, .slice a0_3 len0_3 cap0_3]] w fun e w' => e = .returned (.bool true) ∧ Below w.heap.size w w' := by
  obtain ⟨l0_3, rfl, hr0_3, hm0_3, hw0_3, hc0_3⟩ := ReadsInt.ofRowC w0_3
  obtain ⟨k, h⟩ := P a0_0 a0_1 a0_2 l0_3 w0_0 w0_1 w0_2 hm0_3 hw0_3
  refine (laws_FnExactInverseMatrix.calls k a0_0 a0_1 a0_2 _ _ l0_3 true w (Kd.C_of_reads (d := (0 : Int)) (h1 := fun _ => rfl) hr0_3) hc0_3 h).mono ?_
  rintro e w' ⟨rfl, hd⟩
  exact ⟨rfl, hd⟩
end Go.Proofs.Ytoekjicknclooaa.F
end
