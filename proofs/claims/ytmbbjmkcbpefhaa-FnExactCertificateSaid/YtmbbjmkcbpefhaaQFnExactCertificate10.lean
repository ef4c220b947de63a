-- Texts of this claim, merged by packw.py (a program of this session's).
import Derived.Test.YtmbbjmkcbpefhaaQFnExactCertificate1
import Derived.Test.YtmbbjmkcbpefhaaQFnExactCertificate2
import Derived.Test.YtmbbjmkcbpefhaaQFnExactCertificate8
import Derived.Test.YtmbbjmkcbpefhaaQFnExactCertificate9
import Derived.Test.YtmbbjmkcbpefhaaQFnExactCertificate3
import Derived.Test.YtmbbjmkcbpefhaaQFnExactCertificate7

section
namespace Go.Proofs.Ytmbbjmkcbpefhaa.F
open Go.RowKit Go.Proofs.YtmbbjmkcbpefhaaW.PrintWords Go.Proofs.YtmbbjmkcbpefhaaW.PrintLast Go.Proofs.YtmbbjmkcbpefhaaW.PrintMore
attribute [local go_sem] max2_int min2_int max_two min_two max_three min_three max_four min_four   -- for this text's walks alone
set_option linter.unusedVariables false
set_option linter.unusedSimpArgs false
/-! ### impl_columnsOf: function 77 -/
def impl_columnsOf.f (k : Nat) (a0_0 : Int) (a0_1 : Int) (a0_2 : Int) (l0_3 : List Int) : Option ((List (List Int))) := (impl_transpose.f k a0_0 a0_1 a0_2 l0_3).bind fun bt102 => ((impl_rowsOf.f k bt102.1 bt102.2.1 bt102.2.2.1 bt102.2.2.2).bind fun t108 => (some t108))
theorem Z77.bb {w0 w w1 : World} {g : Nat} {o : Obj} (_B : Aside0 (w0.heap[g]? = some o)) (h : w.heap[g]? = some o) (hb : Below w.heap.size w w1) : w1.heap[g]? = some o := blk_below h hb
theorem Z77.bl {w0 w : World} {g : Nat} {o : Obj} (_B : Aside0 (w0.heap[g]? = some o)) (h : w.heap[g]? = some o) : g < w.heap.size := blk_lt h
theorem Z77.z2 {P : Prop} (h : P := by (try simp only [List.map_toArray, List.map_cons, List.map_nil]); first | done | rfl | (simp only [List.length_drop, List.length_take]; rfl)) : P := h
theorem Z77.z1 {P : Prop} (h : P := by repeat (first | (with_reducible first | exact HB.out | apply below_alloc | apply pw_below_drewN | apply below_drew1) | exact HB.out)) : P := h
theorem Z77.z0 {P : Prop} (h : P := by repeat (first | (with_reducible first | exact HB.out | apply below_alloc | apply pw_below_drewN | apply below_drew1 | refine below_set ?_ GE101.out) | exact HB.out)) : P := h
set_option maxHeartbeats 8000000 in
set_option maxRecDepth 100000 in
theorem impl_columnsOf.calls (k : Nat) (a0_0 : Int) (a0_1 : Int) (a0_2 : Int) (A0_3 : Option Addr) (c0_3 : Nat) (l0_3 : List Int) (r : List (List Int)) (w : World) (hr0_3 : Kd.C (Kd.int .i64) w A0_3 l0_3.length l0_3) (hc0_3 : l0_3.length ≤ c0_3) (h : impl_columnsOf.f k a0_0 a0_1 a0_2 l0_3 = some r) :
  Calls Try.prog 77 #[.agg #[.int .i64 a0_0, .int .i64 a0_1, .int .i64 a0_2, .slice A0_3 l0_3.length c0_3]] w fun e w' => ∃ v0_ : Value, e = .returned (v0_) ∧ Kd.S (Kd.slice 2 (Kd.int .i64)) 22 w' w.heap.size (fun _ => True) v0_ r ∧ Below w.heap.size w w' := by
 have hu28 := Try.underlying28
 have HR0_3 := Aside0.mk hr0_3
 have HC0_3 := Aside0.mk hc0_3
 clear hr0_3 hc0_3
 have HB := Aside0.mk (Below.refl w.heap.size w)
 have H : ((impl_transpose.f k a0_0 a0_1 a0_2 l0_3).bind fun bt102 => ((impl_rowsOf.f k bt102.1 bt102.2.1 bt102.2.2.1 bt102.2.2.2).bind fun t108 => (some t108))) = some r := h
 clear h
 replace H := Option.bind_eq_some_iff.mp H
 obtain ⟨⟨t102, t103, t104, t105⟩, A20, H⟩ := H
 replace H : ((impl_rowsOf.f k t102 t103 t104 t105).bind fun t108 => (some t108)) = some r := H
 have A2 := Aside0.mk A20
 clear A20
 replace H := Option.bind_eq_some_iff.mp H
 obtain ⟨t108, A30, H⟩ := H
 (try dsimp only at H)
 have A3 := Aside0.mk A30
 clear A30
 obtain rfl := Option.some.inj H
 go_enter Try.func77, Try.ntmps77
 go_wp2_with (first | ((with_reducible refine gate_dst (N := 1) rfl ?_); refine box_event ?hg (N := 1) ?hd (cs := #[.int .i64 a0_0, .int .i64 a0_1, .int .i64 a0_2, .slice A0_3 l0_3.length c0_3]) (t := 28) ?hr ?_; (case hd => rfl); (case hg => rfl); (case hr => first | (go_simp; done) | (go_simp; rfl)); intro gb101 hg w4 hbox hb; have BK101 := Aside0.mk (hbox); have GW101 := Aside0.mk (show w.heap.size ≤ gb101 from (by rw [hg]; exact (below_size Z77.z1))); have GE101 := Aside0.mk (show w.heap.size ≤ gb101 from (by rw [hg]; exact (below_size Z77.z1))); replace HB := Aside0.mk (below_step Z77.z1 hb); clear hb hbox hg; obtain ⟨hcz5_0, hcz5_1, hcz5_2, hcz5_3, hfz5_0, hfz5_1, hfz5_2, hfz5_3⟩ := cells4 BK101.out) | ((with_reducible refine gate_callee (f := 107) rfl ?_); refine goesL_ (some 4) rfl rfl Try.func107 (by kernel_rfl) rfl #[.agg #[.int .i64 a0_0, .int .i64 a0_1, .int .i64 a0_2, .slice A0_3 l0_3.length c0_3]] rfl Z77.z2 ?_; (with_reducible refine (impl_transpose.calls k a0_0 a0_1 a0_2 _ _ l0_3 t102 t103 t104 t105 _ ?side1 ?side2 A2.out).mono ?_); (case side1 => exact (by repeat (first | exact (Kd.C_below HR0_3.out HB.out) | (with_reducible refine Kd.C_alloc ?_ _) | (with_reducible refine Kd.C_drewN ?_ _) | (with_reducible refine Kd.C_drew ?_)))); (case side2 => exact HC0_3.out); rintro e w6 ⟨v106, rfl, ho0, hb⟩; refine ⟨_, rfl, ?_⟩; have HO107 := Aside0.mk (Kd.R_lower ho0 (below_size Z77.z0)); replace BK101 := Aside0.mk (Z77.bb BK101 (by (with_reducible repeat (first | refine blk_drewN ?_ _ | refine blk_drew ?_ | refine blk_alloc ?_ _)); exact BK101.out) hb); replace HB := Aside0.mk (below_step Z77.z0 hb); (try clear hb); (try clear hb2); (try clear hk); (try clear hi); (try clear ho0); obtain ⟨Ao7, co7, eo7⟩ := Kd.R_slice HO107.out; subst eo7) | ((with_reducible refine gate_callee (f := 59) rfl ?_); refine goesL_ (some 5) rfl rfl Try.func59 (by kernel_rfl) rfl #[.agg #[.int .i64 t102, .int .i64 t103, .int .i64 t104, .slice Ao7 t105.length co7]] rfl Z77.z2 ?_; (with_reducible refine (impl_rowsOf.calls k t102 t103 t104 _ _ t105 t108 _ ?side1 ?side2 A3.out).mono ?_); (case side1 => exact (by repeat (first | exact (Kd.R_reads' HO107.out).2.2 | (with_reducible refine Kd.C_alloc ?_ _) | (with_reducible refine Kd.C_drewN ?_ _) | (with_reducible refine Kd.C_drew ?_)))); (case side2 => exact (Kd.R_reads' HO107.out).2.1); rintro e w8 ⟨v109, rfl, ho0, hb⟩; refine ⟨_, rfl, ?_⟩; have HO110 := Aside0.mk (Kd.S_lower (Kd.S_new' ho0 (Kd.R_lt (by (with_reducible repeat (first | apply Kd.R_alloc | apply Kd.R_drewN | apply Kd.R_drew)); exact HO107.out))) (below_size Z77.z0)); replace HO107 := Aside0.mk (Kd.R_below (by (with_reducible repeat (first | apply Kd.R_alloc | apply Kd.R_drewN | apply Kd.R_drew)); exact HO107.out) hb); replace BK101 := Aside0.mk (Z77.bb BK101 (by (with_reducible repeat (first | refine blk_drewN ?_ _ | refine blk_drew ?_ | refine blk_alloc ?_ _)); exact BK101.out) hb); replace HB := Aside0.mk (below_step Z77.z0 hb); (try clear hb); (try clear hb2); (try clear hk); (try clear hi); (try clear ho0)))
 go_ret
 exact ⟨_, (by first | rfl | (simp [errW_none, errW_some] <;> rfl) | (simp [*, errW_none, errW_some] <;> rfl)), (by (with_reducible repeat (first | apply Kd.S_alloc | apply Kd.S_drewN | apply Kd.S_drew)); exact Kd.S_mono HO110.out (fun _ hk => trivial)), Z77.z0⟩
/-! ### impl_size_int64_108: function 108 -/
def impl_size_int64_108.f (l0 : List (List Int)) : Option (Int) := some (l0.length : Int)
set_option maxHeartbeats 8000000 in
set_option maxRecDepth 100000 in
theorem impl_size_int64_108.calls (A0 : Option Addr) (c0 : Nat) (l0 : List (List Int)) (r : Int) (w : World) (hr0 : Kd.C (Kd.slice 2 (Kd.int .i64)) w A0 l0.length l0) (hc0 : l0.length ≤ c0) (h : impl_size_int64_108.f l0 = some r) :
  Calls Try.prog 108 #[.slice A0 l0.length c0] w fun e w' => e = .returned (.int .i64 r) ∧ Drawn0 w w' := by
 have HR0 := Aside0.mk hr0
 have HC0 := Aside0.mk hc0
 clear hr0 hc0
 have H : (some (l0.length : Int)) = some r := h
 clear h
 obtain rfl := Option.some.inj H
 go_enter Try.func108, Try.ntmps108
 go_wp2
 go_ret
 exact ⟨(by first | rfl | (simp; done) | (simp [*]; done)), (by repeat (first | exact Drawn0.refl _ | apply Drawn0.step))⟩
/-! ### slices_Grow_int64_int64: function 121: ours -/
def slices_Grow_int64_int64.f (l : List Int) (n : Int) : Option (List Int) := if l.length = 0 then (if 0 ≤ n then (if n < 17592186044416 then some [] else none) else none) else none
theorem slices_Grow_int64_int64.parts {n : Int} {r : List Int} (h : slices_Grow_int64_int64.f [] n = some r) : 0 ≤ n ∧ n < 17592186044416 ∧ r = [] := by
  unfold slices_Grow_int64_int64.f at h
  rw [if_pos (show ([] : List Int).length = 0 from rfl)] at h
  by_cases h0 : 0 ≤ n
  · rw [if_pos h0] at h
    by_cases h1 : n < 17592186044416
    · rw [if_pos h1] at h
      exact ⟨h0, h1, (Option.some.inj h).symm⟩
    · rw [if_neg h1] at h; cases h
  · rw [if_neg h0] at h; cases h
set_option maxHeartbeats 4000000 in
set_option maxRecDepth 100000 in
theorem slices_Grow_int64_int64.calls (n : Int) (r : List Int) (w : World) (h : slices_Grow_int64_int64.f [] n = some r) :
  Calls Try.prog 121 #[.slice none 0 0, .int .i64 n] w fun e w' => ∃ v0_ : Value, e = .returned v0_ ∧ Kd.R (Kd.int .i64) 2 w' w.heap.size (fun _ => True) v0_ r ∧ Below w.heap.size w w' := by
 obtain ⟨h0, h1, rfl⟩ := slices_Grow_int64_int64.parts h
 clear h
 by_cases hz : n = 0
 ·subst hz
  clear h0 h1
  go_enter Try.func121, Try.ntmps121
  go_wp2
  go_ret
  exact ⟨_, rfl, Kd.R_nil _ _ _ _ _, (by repeat (first | exact Below.refl _ _ | apply below_drew1 | apply pw_below_drewN))⟩
 have b0 : decide (n < 0) = false := decide_eq_false (by omega)
 have b1 : decide (0 < n) = true := decide_eq_true (by omega)
 have w1 : IntKind.i64.wrap n = n := by rw [i64_w]; unfold wrap64; omega
 have H0 := Aside0.mk h0
 have H1 := Aside0.mk h1
 clear h0 h1 hz
 have hcut : ∀ (c : Nat) (a : Addr) (W : World), (Instr.slice 22 (.slice (some a) n.toNat c) none (some (.int .i64 0)) none).run Try.prog W = .ok (.slice (some a) 0 c) W := fun c a W => by
  obtain ⟨i033, hi033, _, hsz33, _⟩ := info_parts info2
  have hel : Try.prog.elem 22 = 2 := by simp [Program.elem, Try.underlying22]
  have hu : Try.prog.underlying 22 = some (.slice (Try.prog.elem 22)) := by rw [hel]; exact Try.underlying22
  have ha : a.add 0 = a := by simp [Addr.add]
  rw [run_slice_h W 22 (some a) n.toNat c hu .i64 0 (Int.le_refl _) (by omega), hel]
  simp [sizeOf, typeInfo, hi033, hsz33, sliced, Result.andThen, ha]
 go_enter Try.func121, Try.ntmps121
 go_wp2_with (first | ((with_reducible refine gate_builtin (b := .append) (xs := #[.tmp 20, .tmp 21]) rfl ?_); at_builtin; refine Kd.R_append_zeros (Kd.int .i64) (w0 := w) w.heap.size rfl (.tmp 20) (.tmp 21) 22 3 2 (.int .i64 0) 8 rfl Try.underlying22 Try.underlying3 info2 rfl (by decide) (by omega) (.slice none 0 0) ([] : List Int) 0 n (fun _ => True) rfl rfl rfl (fun _ _ => trivial) (Kd.R_nil _ _ _ _ _) H0.out (Below.refl _ _) (Nat.le_refl _) (by have := H1.out; have := H0.out; simp only [List.length_nil]; omega) ?_; intro v1 w2 ho hb hg hat; rw [List.nil_append] at ho; obtain ⟨g1, c1, e1, _, _, _⟩ := Kd.R_form ho (by rw [List.length_replicate]; have := of_decide_eq_true b1; omega); subst e1; rw [List.length_replicate] at ho ⊢; have ho' := Kd.R_take ho (m := 0) (Nat.zero_le _); rw [List.take_zero] at ho'; have HO := Aside0.mk ho'; have HB := Aside0.mk hb; clear ho ho' hb hg hat))
 go_ret
 exact ⟨_, rfl, HO.out, HB.out⟩
/-! ### slices_Concat_int64_int64: function 109 -/
mutual
def slices_Concat_int64_int64.l0 : Nat → List (List Int) → Int → List (List Int) → Int → Int → Option (List Int)
  | 0, _, _, _, _, _ => none
  | k + 1, x0, x3, x9, x10, x11 => if x11 < x10 then (if 0 ≤ x11 then (if x11 < (x9.length : Int) then (if (wrap64 (x3 + ((rd_L1 x9 x11).length : Int))) < 0 then (if 0 = 0 then (none) else (slices_Concat_int64_int64.l0 k x0 (wrap64 (x3 + ((rd_L1 x9 x11).length : Int))) x9 x10 (wrap64 (x11 + 1)))) else (slices_Concat_int64_int64.l0 k x0 (wrap64 (x3 + ((rd_L1 x9 x11).length : Int))) x9 x10 (wrap64 (x11 + 1)))) else (none)) else (none)) else ((slices_Grow_int64_int64.f ([] : List Int) x3).bind fun t102 => (slices_Concat_int64_int64.l1 k t102 x0 (x0.length : Int) 0))
def slices_Concat_int64_int64.l1 : Nat → List Int → List (List Int) → Int → Int → Option (List Int)
  | 0, _, _, _, _ => none
  | k + 1, x6, x25, x26, x27 => if x27 < x26 then (if 0 ≤ x27 then (if x27 < (x25.length : Int) then (if x6.length + (rd_L1 x25 x27).length < 17592186044416 then (slices_Concat_int64_int64.l1 k (x6 ++ (rd_L1 x25 x27)) x25 x26 (wrap64 (x27 + 1))) else (none)) else (none)) else (none)) else (some x6)
end
def slices_Concat_int64_int64.f (k : Nat) (l0 : List (List Int)) : Option (List Int) := slices_Concat_int64_int64.l0 k l0 0 l0 (l0.length : Int) 0
theorem Z109.z0 {P : Prop} (h : P := by repeat (first | (with_reducible first | exact HB.out | apply below_alloc | apply pw_below_drewN | apply below_drew1) | exact HB.out)) : P := h
set_option maxHeartbeats 8000000 in
set_option maxRecDepth 100000 in
theorem slices_Concat_int64_int64.calls (k : Nat) (A0 : Option Addr) (c0 : Nat) (l0 : List (List Int)) (r : List Int) (w : World) (hr0 : Kd.C (Kd.slice 2 (Kd.int .i64)) w A0 l0.length l0) (hc0 : l0.length ≤ c0) (h : slices_Concat_int64_int64.f k l0 = some r) :
  Calls Try.prog 109 #[.slice A0 l0.length c0] w fun e w' => ∃ v0_ : Value, e = .returned (v0_) ∧ Kd.R (Kd.int .i64) 2 w' w.heap.size (fun _ => True) v0_ r ∧ Below w.heap.size w w' := by
 have HR0 := Aside0.mk hr0
 have HC0 := Aside0.mk hc0
 clear hr0 hc0
 have HB := Aside0.mk (Below.refl w.heap.size w)
 have H : (slices_Concat_int64_int64.l0 k l0 0 l0 (l0.length : Int) 0) = some r := h
 clear h
 have H' := Aside0.mk H
 clear H
 go_enter Try.func109, Try.ntmps109
 go_wp2
 go_loopg [3, 11] k (fun kq v3 v11 w' => ∃ (x3_1 : Int) (x11_1 : Int), v3 = .int .i64 x3_1 ∧ v11 = .int .i64 x11_1 ∧ Aside0 (slices_Concat_int64_int64.l0 kq l0 x3_1 l0 (l0.length : Int) x11_1 = some r) ∧ Aside0 (kq ≤ k) ∧ Aside0 (Below w.heap.size w w'))
 case atStart => exact ⟨(0), (0), (by first | rfl | (simp; done) | (simp [*]; done)), (by first | rfl | (simp; done) | (simp [*]; done)), H', ⟨Nat.le_refl _⟩, ⟨Z109.z0⟩⟩
 case round =>
  clear H'
  try clear c1
  obtain ⟨x3_1, x11_1, rfl, rfl, HA, HK1, HB⟩ := hrel
  cases gk with
  | zero => exact absurd HA.out (by simp [slices_Concat_int64_int64.l0])
  | succ k1 =>
   have H := HA.out
   clear HA
   simp only [slices_Concat_int64_int64.l0] at H
   by_cases c2 : x11_1 < (l0.length : Int)
   ·rw [if_pos c2] at H
    have c2b0 : decide (x11_1 < (l0.length : Int)) = true := decide_eq_true c2
    clear c2
    by_cases c3 : 0 ≤ x11_1
    ·rw [if_pos c3] at H
     have c3b0 : decide (0 ≤ x11_1) = true := decide_eq_true c3
     clear c3
     by_cases c4 : x11_1 < (l0.length : Int)
     ·rw [if_pos c4] at H
      have c4b0 : decide (x11_1 < (l0.length : Int)) = true := decide_eq_true c4; clear c4
      by_cases c5 : (wrap64 (x3_1 + ((rd_L1 l0 x11_1).length : Int))) < 0
      ·rw [if_pos c5] at H
       have c5b0 : decide ((wrap64 (x3_1 + ((rd_L1 l0 x11_1).length : Int))) < 0) = true := decide_eq_true c5; clear c5; exact absurd H (by simp)
      rw [if_neg c5] at H; have c5b0 : decide ((wrap64 (x3_1 + ((rd_L1 l0 x11_1).length : Int))) < 0) = false := decide_eq_false c5; clear c5; have H' := Aside0.mk H; clear H; have p101 : 0 ≤ (x11_1 : Int) := of_decide_eq_true (by first | (with_reducible assumption) | assumption); have q101 : x11_1 < (l0.length : Int) := of_decide_eq_true (by first | (with_reducible assumption) | assumption); obtain ⟨ad101, A101_0, c101_0, e101, hx101_0, hl101_0, hi101_0⟩ := at_L1 HR0.out x11_1 p101 q101; cases e101; replace hx101_0 := (HB.out.cell (World.block_lt_of_cell? w _ hx101_0)).trans hx101_0; have HR101_0 := Aside0.mk hi101_0; have HC101_0 := Aside0.mk hl101_0; clear hi101_0 hl101_0; replace p101 := eq_true p101; replace q101 := eq_true q101
      go_wp2
      go_roundg k1
      case measure => have := HK1.out; omega
      case rel => exact ⟨(wrap64 (x3_1 + ((rd_L1 l0 x11_1).length : Int))), (wrap64 (x11_1 + 1)), (by first | rfl | (simp; done) | (simp [*]; done)), (by first | rfl | (simp; done) | (simp [*]; done)), H', ⟨(by have := HK1.out; omega)⟩, ⟨Z109.z0⟩⟩
     rw [if_neg c4] at H
     exact absurd H (by simp)
    rw [if_neg c3] at H
    exact absurd H (by simp)
   rw [if_neg c2] at H
   have c2b0 : decide (x11_1 < (l0.length : Int)) = false := decide_eq_false c2
   clear c2
   replace H := Option.bind_eq_some_iff.mp H
   obtain ⟨t102, A70, H⟩ := H
   replace H : (slices_Concat_int64_int64.l1 k1 t102 l0 (l0.length : Int) 0) = some r := H
   have A7 := Aside0.mk A70
   clear A70
   have H' := Aside0.mk H
   clear H
   go_wp2_with (first | ((with_reducible refine gate_callee (f := 121) rfl ?_); refine goesL_ (some 24) rfl rfl Try.func121 (by kernel_rfl) rfl #[.slice none 0 0, .int .i64 x3_1] rfl (by (try simp only [List.map_toArray, List.map_cons, List.map_nil]); first | done | rfl | (simp only [List.length_drop, List.length_take]; rfl)) ?_; (refine (slices_Grow_int64_int64.calls x3_1 t102 _ A7.out).mono ?_); rintro e w8 ⟨v103, rfl, ho0, hb⟩; refine ⟨_, rfl, ?_⟩; have HO104 := Aside0.mk (Kd.R_lower ho0 (below_size Z109.z0)); replace HB := Aside0.mk (below_step Z109.z0 hb); (try clear hb); (try clear hb2); (try clear hk); (try clear hi); (try clear ho0)))
   go_loopg [6, 27] k1 (fun kq v6 v27 w' => ∃ (x6_2 : List Int) (x27_2 : Int), v27 = .int .i64 x27_2 ∧ Aside0 (slices_Concat_int64_int64.l1 kq x6_2 l0 (l0.length : Int) x27_2 = some r) ∧ Aside0 (kq ≤ k1) ∧ Aside0 (Kd.R (Kd.int .i64) 2 w' w.heap.size (fun _ => True) v6 x6_2) ∧ Aside0 (Below w.heap.size w w'))
   case atStart => exact ⟨(t102), (0), (by first | rfl | (simp; done) | (simp [*]; done)), H', ⟨Nat.le_refl _⟩, ⟨(by (with_reducible repeat (first | apply Kd.R_alloc | apply Kd.R_drewN | apply Kd.R_drew)); exact HO104.out)⟩, ⟨Z109.z0⟩⟩
   case round =>
    clear H'
    try clear c1
    try clear p1
    try clear q1
    try clear hx1
    try clear c2
    try clear c2b0
    try clear p2
    try clear c3
    try clear c3b0
    try clear c4
    try clear c4b0
    try clear c5
    try clear c5b0
    try clear c6
    try clear c6b0
    try clear c6b1
    try clear p6
    try clear hx101_0
    try clear p101
    try clear q101
    obtain ⟨x6_2, x27_2, rfl, HA, HK2, HO_6, HB⟩ := hrel
    cases gk with
    | zero => exact absurd HA.out (by simp [slices_Concat_int64_int64.l1])
    | succ k2 =>
     have H := HA.out
     clear HA
     simp only [slices_Concat_int64_int64.l1] at H
     by_cases c9 : x27_2 < (l0.length : Int)
     ·rw [if_pos c9] at H
      have c9b0 : decide (x27_2 < (l0.length : Int)) = true := decide_eq_true c9; clear c9
      by_cases c10 : 0 ≤ x27_2
      ·rw [if_pos c10] at H
       have c10b0 : decide (0 ≤ x27_2) = true := decide_eq_true c10; clear c10
       by_cases c11 : x27_2 < (l0.length : Int)
       ·rw [if_pos c11] at H
        have c11b0 : decide (x27_2 < (l0.length : Int)) = true := decide_eq_true c11; clear c11
        by_cases c12 : x6_2.length + (rd_L1 l0 x27_2).length < 17592186044416
        ·rw [if_pos c12] at H
         have LMc12 := Aside0.mk c12; clear c12; obtain ⟨y106, hy106⟩ : ∃ y_ : List Int, y_ = (x6_2 ++ (rd_L1 l0 x27_2)) := ⟨_, rfl⟩; replace H : (slices_Concat_int64_int64.l1 k2 y106 l0 (l0.length : Int) (wrap64 (x27_2 + 1))) = some r := by first | (rw [hy106]; with_reducible exact H) | (have H2_ := (Option.bind_some _ _).symm.trans H; rw [hy106]; with_reducible exact H2_) | (have H2_ := (Option.bind_some _ _).symm.trans H; with_reducible exact H2_) | with_reducible exact H | (rw [hy106]; exact H) | exact H
         have Ny106 := Aside0.mk hy106; clear hy106; have H' := Aside0.mk H; clear H; have p105 : 0 ≤ (x27_2 : Int) := of_decide_eq_true (by first | (with_reducible assumption) | assumption); have q105 : x27_2 < (l0.length : Int) := of_decide_eq_true (by first | (with_reducible assumption) | assumption); obtain ⟨ad105, A105_0, c105_0, e105, hx105_0, hl105_0, hi105_0⟩ := at_L1 HR0.out x27_2 p105 q105; cases e105; replace hx105_0 := (HB.out.cell (World.block_lt_of_cell? w _ hx105_0)).trans hx105_0; have HR105_0 := Aside0.mk hi105_0; have HC105_0 := Aside0.mk hl105_0; clear hi105_0 hl105_0; replace p105 := eq_true p105; replace q105 := eq_true q105
         go_wp2_with (first | ((with_reducible refine gate_builtin (b := .append) (xs := #[.tmp 31, .tmp 32]) rfl ?_); at_builtin; refine Kd.R_append_rows (Kd.int .i64) (w0 := w) w.heap.size rfl (.tmp 31) (.tmp 32) 22 2 (.int .i64 0) 8 rfl Try.underlying22 info2 rfl (by decide) (by omega) u6 x6_2 (rd_L1 l0 x27_2) _ _ _ (fun _ => True) (fun _ => False) rfl rfl ?aO ?aR (fun _ _ h => h) (fun _ h => h.elim) ?aF ?aB ?aS ?aL ?_; (case aR => repeat (first | exact (Kd.C_below HR105_0.out HB.out) | (with_reducible refine Kd.C_alloc ?_ _) | (with_reducible refine Kd.C_drewN ?_ _) | (with_reducible refine Kd.C_drew ?_))); (case aB => exact Z109.z0); (case aF => exact (fun _ _ => trivial)); (case aO => exact (by (with_reducible repeat (first | apply Kd.R_alloc | apply Kd.R_drewN | apply Kd.R_drew)); exact HO_6.out)); (case aS => exact (below_size Z109.z0)); (case aL => have := LMc12.out; omega); intro v107 w13 ho hb hg hat; rw [← Ny106.out] at ho; have HO108 := Aside0.mk (ho); replace HB := Aside0.mk (hb); clear HO_6; clear ho hb hg hat))
         go_roundg k2
         case measure => have := HK1.out; have := HK2.out; omega
         case rel => exact ⟨(y106), (wrap64 (x27_2 + 1)), (by first | rfl | (simp; done) | (simp [*]; done)), H', ⟨(by have := HK1.out; have := HK2.out; omega)⟩, ⟨(by (with_reducible repeat (first | apply Kd.R_alloc | apply Kd.R_drewN | apply Kd.R_drew)); exact HO108.out)⟩, ⟨Z109.z0⟩⟩
        rw [if_neg c12] at H; exact absurd H (by simp)
       rw [if_neg c11] at H; exact absurd H (by simp)
      rw [if_neg c10] at H; exact absurd H (by simp)
     rw [if_neg c9] at H
     have c9b0 : decide (x27_2 < (l0.length : Int)) = false := decide_eq_false c9
     clear c9
     obtain rfl := Option.some.inj H
     go_wp2
     go_ret
     exact ⟨_, (by first | rfl | (simp [errW_none, errW_some] <;> rfl) | (simp [*, errW_none, errW_some] <;> rfl)), (by (with_reducible repeat (first | apply Kd.R_alloc | apply Kd.R_drewN | apply Kd.R_drew)); exact HO_6.out), Z109.z0⟩
/-! ### impl_matrixOf: function 78 -/
def impl_matrixOf.f (k : Nat) (a0 : Int) (a1 : Int) (l2 : List (List Int)) : Option (Int × Int × Int × List Int) := (impl_size_int64_108.f l2).bind fun t102 => ((slices_Concat_int64_int64.f k l2).bind fun t103 => (some (a0, t102, a1, t103)))
theorem Z78.bb {w0 w w1 : World} {g : Nat} {o : Obj} (_B : Aside0 (w0.heap[g]? = some o)) (h : w.heap[g]? = some o) (hb : Below w.heap.size w w1) : w1.heap[g]? = some o := blk_below h hb
theorem Z78.bl {w0 w : World} {g : Nat} {o : Obj} (_B : Aside0 (w0.heap[g]? = some o)) (h : w.heap[g]? = some o) : g < w.heap.size := blk_lt h
theorem Z78.z3 {P : Prop} (h : P := by (try simp only [List.map_toArray, List.map_cons, List.map_nil]); first | done | rfl | (simp only [List.length_drop, List.length_take]; rfl)) : P := h
theorem Z78.z2 {P : Prop} (h : P := by repeat (first | exact (Kd.C_below HR2.out HB.out) | (with_reducible refine Kd.C_alloc ?_ _) | (with_reducible refine Kd.C_drewN ?_ _) | (with_reducible refine Kd.C_drew ?_))) : P := h
theorem Z78.z1 {P : Prop} (h : P := by repeat (first | (with_reducible first | exact HB.out | apply below_alloc | apply pw_below_drewN | apply below_drew1) | exact HB.out)) : P := h
theorem Z78.z0 {P : Prop} (h : P := by repeat (first | (with_reducible first | exact HB.out | apply below_alloc | apply pw_below_drewN | apply below_drew1 | refine below_set ?_ GE101.out) | exact HB.out)) : P := h
set_option maxHeartbeats 8000000 in
set_option maxRecDepth 100000 in
theorem impl_matrixOf.calls (k : Nat) (a0 : Int) (a1 : Int) (A2 : Option Addr) (c2 : Nat) (l2 : List (List Int)) (r1 : Int) (r2 : Int) (r3 : Int) (r4 : List Int) (w : World) (hr2 : Kd.C (Kd.slice 2 (Kd.int .i64)) w A2 l2.length l2) (hc2 : l2.length ≤ c2) (h : impl_matrixOf.f k a0 a1 l2 = some (r1, r2, r3, r4)) :
  Calls Try.prog 78 #[.int .i64 a0, .int .i64 a1, .slice A2 l2.length c2] w fun e w' => ∃ v3_ : Value, e = .returned (.agg #[.int .i64 r1, .int .i64 r2, .int .i64 r3, v3_]) ∧ Kd.R (Kd.int .i64) 2 w' w.heap.size (fun _ => True) v3_ r4 ∧ Below w.heap.size w w' := by
 have hu28 := Try.underlying28
 have HR2 := Aside0.mk hr2
 have HC2 := Aside0.mk hc2
 clear hr2 hc2
 have HB := Aside0.mk (Below.refl w.heap.size w)
 have H : ((impl_size_int64_108.f l2).bind fun t102 => ((slices_Concat_int64_int64.f k l2).bind fun t103 => (some (a0, t102, a1, t103)))) = some (r1, r2, r3, r4) := h
 clear h
 replace H := Option.bind_eq_some_iff.mp H
 obtain ⟨t102, A40, H⟩ := H
 replace H : ((slices_Concat_int64_int64.f k l2).bind fun t103 => (some (a0, t102, a1, t103))) = some (r1, r2, r3, r4) := H
 have A4 := Aside0.mk A40
 clear A40
 replace H := Option.bind_eq_some_iff.mp H
 obtain ⟨t103, A50, H⟩ := H
 (try dsimp only at H)
 have A5 := Aside0.mk A50
 clear A50
 simp only [Option.some.injEq, Prod.mk.injEq] at H
 obtain ⟨rfl, rfl, rfl, rfl⟩ := H
 go_enter Try.func78, Try.ntmps78
 go_wp2_with (first | ((with_reducible refine gate_dst (N := 6) rfl ?_); refine box_event ?hg (N := 6) ?hd (cs := #[.int .i64 0, .int .i64 0, .int .i64 0, .slice none 0 0]) (t := 28) ?hr ?_; (case hd => rfl); (case hg => rfl); (case hr => first | (go_simp; done) | (go_simp; rfl)); intro gb101 hg w6 hbox hb; have BK101 := Aside0.mk (hbox); have GW101 := Aside0.mk (show w.heap.size ≤ gb101 from (by rw [hg]; exact (below_size Z78.z1))); have GE101 := Aside0.mk (show w.heap.size ≤ gb101 from (by rw [hg]; exact (below_size Z78.z1))); replace HB := Aside0.mk (below_step Z78.z1 hb); clear hb hbox hg) | ((with_reducible refine gate_callee (f := 108) rfl ?_); refine goesL_ (some 9) rfl rfl Try.func108 (by kernel_rfl) rfl #[.slice A2 l2.length c2] rfl Z78.z3 ?_; (with_reducible refine (impl_size_int64_108.calls _ _ l2 t102 _ ?side1 ?side2 A4.out).mono ?_); (case side1 => exact Z78.z2); (case side2 => exact HC2.out); rintro e w' ⟨rfl, ⟨nd, rfl⟩⟩; refine ⟨_, rfl, ?_⟩; (try (rw [drewN_self w6]; generalize hq_ : World.drewN w6 _ = w6; have n0_ : Aside0 (w6.heap[gb101]? = some (.cells #[.int .i64 0, .int .i64 0, .int .i64 0, .slice none 0 0] 28 (0, 0))) := ⟨(by rw [← hq_]; exact (by (with_reducible repeat (first | refine blk_drewN ?_ _ | refine blk_drew ?_ | refine blk_alloc ?_ _)); exact BK101.out))⟩; have n1_ : Aside0 (Below w.heap.size w w6) := ⟨(by rw [← hq_]; exact Z78.z0)⟩; clear BK101 HB hq_; have BK101 := n0_; have HB := n1_; clear n0_ n1_))) | ((with_reducible refine gate_callee (f := 109) rfl ?_); refine goesL_ (some 12) rfl rfl Try.func109 (by kernel_rfl) rfl #[.slice A2 l2.length c2] rfl Z78.z3 ?_; (with_reducible refine (slices_Concat_int64_int64.calls k _ _ l2 t103 _ ?side1 ?side2 A5.out).mono ?_); (case side1 => exact Z78.z2); (case side2 => exact HC2.out); rintro e w7 ⟨v104, rfl, ho0, hb⟩; refine ⟨_, rfl, ?_⟩; have HO105 := Aside0.mk (Kd.R_lower ho0 (below_size Z78.z0)); replace BK101 := Aside0.mk (Z78.bb BK101 (by (with_reducible repeat (first | refine blk_drewN ?_ _ | refine blk_drew ?_ | refine blk_alloc ?_ _)); exact BK101.out) hb); replace HB := Aside0.mk (below_step Z78.z0 hb); (try clear hb); (try clear hb2); (try clear hk); (try clear hi); (try clear ho0); obtain ⟨Ao8, co8, eo8⟩ := Kd.R_slice HO105.out; subst eo8; obtain ⟨hcz9_0, hcz9_1, hcz9_2, hcz9_3, hfz9_0, hfz9_1, hfz9_2, hfz9_3⟩ := cells4 BK101.out))
 refine bodyPost_ret (results_cell_row rfl _ _ gb101 28 #[.int .i64 a0, .int .i64 t102, .int .i64 a1, .slice Ao8 t103.length co8] (0, 0) _ rfl (by (with_reducible repeat (first | refine blk_drewN ?_ _ | refine blk_drew ?_ | refine blk_alloc ?_ _)); refine blk_put (cs := #[.int .i64 a0, .int .i64 t102, .int .i64 a1, .slice none 0 0]) ?_ 3 _ rfl; (with_reducible repeat (first | refine blk_drewN ?_ _ | refine blk_drew ?_ | refine blk_alloc ?_ _)); refine blk_put (cs := #[.int .i64 a0, .int .i64 t102, .int .i64 0, .slice none 0 0]) ?_ 2 _ rfl; (with_reducible repeat (first | refine blk_drewN ?_ _ | refine blk_drew ?_ | refine blk_alloc ?_ _)); refine blk_put (cs := #[.int .i64 a0, .int .i64 0, .int .i64 0, .slice none 0 0]) ?_ 1 _ rfl; (with_reducible repeat (first | refine blk_drewN ?_ _ | refine blk_drew ?_ | refine blk_alloc ?_ _)); refine blk_put (cs := #[.int .i64 0, .int .i64 0, .int .i64 0, .slice none 0 0]) ?_ 0 _ rfl; (with_reducible repeat (first | refine blk_drewN ?_ _ | refine blk_drew ?_ | refine blk_alloc ?_ _)); exact BK101.out) Try.underlying28 rfl (by kernel_rfl)) rfl ?_
 exact ⟨_, (by first | rfl | (simp [errW_none, errW_some] <;> rfl) | (simp [*, errW_none, errW_some] <;> rfl)), (by (with_reducible repeat (first | apply Kd.R_alloc | apply Kd.R_drewN | apply Kd.R_drew)); exact Kd.R_mono (Kd.R_far (p := ⟨gb101, 3, none⟩) (Kd.R_far (p := ⟨gb101, 2, none⟩) (Kd.R_far (p := ⟨gb101, 1, none⟩) (Kd.R_far (p := ⟨gb101, 0, none⟩) (Kd.R_types HO105.out BK101.out (by decide)) (fun _ hk => hk.2) (.int .i64 a0)) (fun _ hk => hk.2) (.int .i64 t102)) (fun _ hk => hk.2) (.int .i64 a1)) (fun _ hk => hk.2) (.slice Ao8 t103.length co8)) (fun _ hk => trivial)), Z78.z0⟩
/-! ### impl_certificate: function 47 -/
def impl_certificate.f (k : Nat) (a0_0 : Int) (a0_1 : Int) (a0_2 : Int) (l0_3 : List Int) (l1 : List Int) : Option (List Int × Bool) := (impl_columnsOf.f k a0_0 a0_1 a0_2 l0_3).bind fun t102 => (if t102.length < 5864062014805 then ((some (t102 ++ [l1] : List (List Int))).bind fun y105 => (if 0 ≤ (y105.length : Int) then (if ((y105.length : Int) : Int).toNat ≤ 35184372088832 then ((some (List.replicate ((y105.length : Int) : Int).toNat 0 : List Int)).bind fun y108 => (if 0 ≤ (wrap64 ((y105.length : Int) - 1)) then (if (wrap64 ((y105.length : Int) - 1)) < (y108.length : Int) then ((impl_matrixOf.f k a0_0 a0_1 y105).bind fun bt112 => ((impl_solve.f k bt112.1 bt112.2.1 bt112.2.2.1 bt112.2.2.2 (y108.set ((wrap64 ((y105.length : Int) - 1)) : Int).toNat 1)).bind fun bt118 => (some (bt118.1, bt118.2)))) else (none)) else (none))) else (none)) else (none))) else (none))
theorem Z47.bb {w0 w w1 : World} {g : Nat} {o : Obj} (_B : Aside0 (w0.heap[g]? = some o)) (h : w.heap[g]? = some o) (hb : Below w.heap.size w w1) : w1.heap[g]? = some o := blk_below h hb
theorem Z47.bl {w0 w : World} {g : Nat} {o : Obj} (_B : Aside0 (w0.heap[g]? = some o)) (h : w.heap[g]? = some o) : g < w.heap.size := blk_lt h
theorem Z47.k {p : Prop} (h : p) : Aside0 p := ⟨h⟩
theorem Z47.z7 {P : Prop} (h : P := by (try simp only [List.map_toArray, List.map_cons, List.map_nil]); first | done | rfl | (simp only [List.length_drop, List.length_take]; rfl)) : P := h
theorem Z47.z6 {P : Prop} (h : P := by first | (with_reducible assumption) | assumption) : P := h
theorem Z47.z5 {P : Prop} (h : P := by repeat (first | (with_reducible first | exact HB.out | apply below_alloc | apply pw_below_drewN | apply below_drew1) | exact HB.out)) : P := h
theorem Z47.z4 {P : Prop} (h : P := by (with_reducible repeat (first | apply Kd.N_alloc | apply Kd.N_drewN | apply Kd.N_drew)); exact HO107.out) : P := h
theorem Z47.z3 {P : Prop} (h : P := by (with_reducible repeat (first | apply Kd.R_alloc | apply Kd.R_drewN | apply Kd.R_drew)); exact HO110.out) : P := h
theorem Z47.z2 {P : Prop} (h : P := by (with_reducible repeat (first | apply Kd.V_alloc | apply Kd.V_drewN | apply Kd.V_drew)); exact HO1.out) : P := h
theorem Z47.z1 {P : Prop} (h : P := by (with_reducible repeat (first | refine blk_drewN ?_ _ | refine blk_drew ?_ | refine blk_alloc ?_ _)); exact BK101.out) : P := h
theorem Z47.z0 {P : Prop} (h : P := by repeat (first | (with_reducible first | exact HB.out | apply below_alloc | apply pw_below_drewN | apply below_drew1 | refine below_set ?_ GE101.out) | exact HB.out)) : P := h
set_option maxHeartbeats 8000000 in
set_option maxRecDepth 100000 in
theorem impl_certificate.calls (k : Nat) (a0_0 : Int) (a0_1 : Int) (a0_2 : Int) (A0_3 : Option Addr) (c0_3 : Nat) (l0_3 : List Int) (P1_ : Nat → Prop) (A1 : Option Addr) (c1 : Nat) (l1 : List Int) (r1 : List Int) (r2 : Bool) (w : World) (hr0_3 : Kd.C (Kd.int .i64) w A0_3 l0_3.length l0_3) (hc0_3 : l0_3.length ≤ c0_3) (hs1 : Kd.V (Kd.int .i64) 2 w w.heap.size (fun k_ => P1_ k_) (.slice A1 l1.length c1) l1) (h : impl_certificate.f k a0_0 a0_1 a0_2 l0_3 l1 = some (r1, r2)) :
  Calls Try.prog 47 #[.agg #[.int .i64 a0_0, .int .i64 a0_1, .int .i64 a0_2, .slice A0_3 l0_3.length c0_3], .slice A1 l1.length c1] w fun e w' => ∃ v0_ : Value, e = .returned (.tuple #[v0_, .bool r2]) ∧ Kd.R (Kd.int .i64) 2 w' w.heap.size (fun k_ => (w.heap.size ≤ k_)) v0_ r1 ∧ Below w.heap.size w w' := by
 have hu28 := Try.underlying28
 have HR0_3 := Z47.k hr0_3
 have HC0_3 := Z47.k hc0_3
 clear hr0_3 hc0_3
 have HO1 := Z47.k (show Kd.V (Kd.int .i64) 2 w w.heap.size (fun k_ => (P1_ k_ ∨ w.heap.size ≤ k_)) (.slice A1 l1.length c1) l1 from Kd.V_mono hs1 (fun k_ hk => .inl hk))
 have HB := Z47.k (Below.refl w.heap.size w)
 have H : ((impl_columnsOf.f k a0_0 a0_1 a0_2 l0_3).bind fun t102 => (if t102.length < 5864062014805 then ((some (t102 ++ [l1] : List (List Int))).bind fun y105 => (if 0 ≤ (y105.length : Int) then (if ((y105.length : Int) : Int).toNat ≤ 35184372088832 then ((some (List.replicate ((y105.length : Int) : Int).toNat 0 : List Int)).bind fun y108 => (if 0 ≤ (wrap64 ((y105.length : Int) - 1)) then (if (wrap64 ((y105.length : Int) - 1)) < (y108.length : Int) then ((impl_matrixOf.f k a0_0 a0_1 y105).bind fun bt112 => ((impl_solve.f k bt112.1 bt112.2.1 bt112.2.2.1 bt112.2.2.2 (y108.set ((wrap64 ((y105.length : Int) - 1)) : Int).toNat 1)).bind fun bt118 => (some (bt118.1, bt118.2)))) else (none)) else (none))) else (none)) else (none))) else (none))) = some (r1, r2) := h
 clear h
 replace H := Option.bind_eq_some_iff.mp H
 obtain ⟨t102, A30, H⟩ := H
 replace H : (if t102.length < 5864062014805 then ((some (t102 ++ [l1] : List (List Int))).bind fun y105 => (if 0 ≤ (y105.length : Int) then (if ((y105.length : Int) : Int).toNat ≤ 35184372088832 then ((some (List.replicate ((y105.length : Int) : Int).toNat 0 : List Int)).bind fun y108 => (if 0 ≤ (wrap64 ((y105.length : Int) - 1)) then (if (wrap64 ((y105.length : Int) - 1)) < (y108.length : Int) then ((impl_matrixOf.f k a0_0 a0_1 y105).bind fun bt112 => ((impl_solve.f k bt112.1 bt112.2.1 bt112.2.2.1 bt112.2.2.2 (y108.set ((wrap64 ((y105.length : Int) - 1)) : Int).toNat 1)).bind fun bt118 => (some (bt118.1, bt118.2)))) else (none)) else (none))) else (none)) else (none))) else (none)) = some (r1, r2) := H
 have A3 := Z47.k A30
 clear A30
 by_cases c4 : t102.length < 5864062014805
 ·rw [if_pos c4] at H
  have LMc4 := Z47.k c4
  clear c4
  obtain ⟨y105, hy105⟩ : ∃ y_ : List (List Int), y_ = (t102 ++ [l1]) := ⟨_, rfl⟩
  replace H : (if 0 ≤ (y105.length : Int) then (if ((y105.length : Int) : Int).toNat ≤ 35184372088832 then ((some (List.replicate ((y105.length : Int) : Int).toNat 0 : List Int)).bind fun y108 => (if 0 ≤ (wrap64 ((y105.length : Int) - 1)) then (if (wrap64 ((y105.length : Int) - 1)) < (y108.length : Int) then ((impl_matrixOf.f k a0_0 a0_1 y105).bind fun bt112 => ((impl_solve.f k bt112.1 bt112.2.1 bt112.2.2.1 bt112.2.2.2 (y108.set ((wrap64 ((y105.length : Int) - 1)) : Int).toNat 1)).bind fun bt118 => (some (bt118.1, bt118.2)))) else (none)) else (none))) else (none)) else (none)) = some (r1, r2) := by first | (rw [hy105]; with_reducible exact H) | (have H2_ := (Option.bind_some _ _).symm.trans H; rw [hy105]; with_reducible exact H2_) | (have H2_ := (Option.bind_some _ _).symm.trans H; with_reducible exact H2_) | with_reducible exact H | (rw [hy105]; exact H) | exact H
  have Ny105 := Z47.k hy105
  clear hy105
  by_cases c5 : 0 ≤ (y105.length : Int)
  ·rw [if_pos c5] at H
   have c5b0 := eq_true c5
   have c5b1 : decide (0 ≤ (y105.length : Int)) = true := decide_eq_true c5
   clear c5
   by_cases c6 : ((y105.length : Int) : Int).toNat ≤ 35184372088832
   ·rw [if_pos c6] at H
    have c6b0 := eq_true c6
    have c6b1 : decide (((y105.length : Int) : Int).toNat ≤ 35184372088832) = true := decide_eq_true c6
    clear c6
    obtain ⟨y108, hy108⟩ : ∃ y_ : List Int, y_ = (List.replicate ((y105.length : Int) : Int).toNat 0) := ⟨_, rfl⟩
    replace H : (if 0 ≤ (wrap64 ((y105.length : Int) - 1)) then (if (wrap64 ((y105.length : Int) - 1)) < (y108.length : Int) then ((impl_matrixOf.f k a0_0 a0_1 y105).bind fun bt112 => ((impl_solve.f k bt112.1 bt112.2.1 bt112.2.2.1 bt112.2.2.2 (y108.set ((wrap64 ((y105.length : Int) - 1)) : Int).toNat 1)).bind fun bt118 => (some (bt118.1, bt118.2)))) else (none)) else (none)) = some (r1, r2) := by first | (rw [hy108]; with_reducible exact H) | (have H2_ := (Option.bind_some _ _).symm.trans H; rw [hy108]; with_reducible exact H2_) | (have H2_ := (Option.bind_some _ _).symm.trans H; with_reducible exact H2_) | with_reducible exact H | (rw [hy108]; exact H) | exact H
    have Ny108 := Z47.k hy108
    clear hy108
    obtain ⟨ji7, hji7⟩ : ∃ j_ : Int, (wrap64 ((y105.length : Int) - 1)) = j_ := ⟨_, rfl⟩
    replace H : (if 0 ≤ (ji7) then (if (ji7) < (y108.length : Int) then ((impl_matrixOf.f k a0_0 a0_1 y105).bind fun bt112 => ((impl_solve.f k bt112.1 bt112.2.1 bt112.2.2.1 bt112.2.2.2 (y108.set ((ji7) : Int).toNat 1)).bind fun bt118 => (some (bt118.1, bt118.2)))) else (none)) else (none)) = some (r1, r2) := by first | (rw [hji7] at H; exact H) | (simp only [hji7] at H ⊢; exact H)
    (try rw [hji7] at A3)
    have hji7w : (IntKind.i64.wrap ((y105.length : Int) - 1)) = ji7 := (i64_w _).trans hji7
    by_cases c8 : 0 ≤ (ji7)
    ·rw [if_pos c8] at H
     have c8b0 : decide (0 ≤ (ji7)) = true := decide_eq_true c8
     clear c8
     by_cases c9 : (ji7) < (y108.length : Int)
     ·rw [if_pos c9] at H
      have c9b0 : decide ((ji7) < (y108.length : Int)) = true := decide_eq_true c9; clear c9; obtain ⟨y111, hy111⟩ : ∃ y_ : List Int, y_ = (y108.set ((ji7) : Int).toNat 1) := ⟨_, rfl⟩; replace H : ((impl_matrixOf.f k a0_0 a0_1 y105).bind fun bt112 => ((impl_solve.f k bt112.1 bt112.2.1 bt112.2.2.1 bt112.2.2.2 y111).bind fun bt118 => (some (bt118.1, bt118.2)))) = some (r1, r2) := by first | (rw [hy111]; with_reducible exact H) | (have H2_ := (Option.bind_some _ _).symm.trans H; rw [hy111]; with_reducible exact H2_) | (have H2_ := (Option.bind_some _ _).symm.trans H; with_reducible exact H2_) | with_reducible exact H | (rw [hy111]; exact H) | exact H
      have Ny111 := Z47.k hy111; clear hy111; replace H := Option.bind_eq_some_iff.mp H; obtain ⟨⟨t112, t113, t114, t115⟩, A110, H⟩ := H
      (try dsimp only at H)
      have A11 := Z47.k A110; clear A110; replace H := Option.bind_eq_some_iff.mp H; obtain ⟨⟨t118, t121⟩, A120, H⟩ := H
      (try dsimp only at H)
      have A12 := Z47.k A120; clear A120; simp only [Option.some.injEq, Prod.mk.injEq] at H
      obtain ⟨rfl, rfl⟩ := H
      go_enter Try.func47, Try.ntmps47
      go_wp2_with (first | ((with_reducible refine gate_dst (N := 2) rfl ?_); refine box_event ?hg (N := 2) ?hd (cs := #[.int .i64 a0_0, .int .i64 a0_1, .int .i64 a0_2, .slice A0_3 l0_3.length c0_3]) (t := 28) ?hr ?_; (case hd => rfl); (case hg => rfl); (case hr => first | (go_simp; done) | (go_simp; rfl)); intro gb101 hg w13 hbox hb; have BK101 := Z47.k (hbox); have GW101 := Z47.k (show w.heap.size ≤ gb101 from (by rw [hg]; exact (below_size Z47.z5))); have GE101 := Z47.k (show w.heap.size ≤ gb101 from (by rw [hg]; exact (below_size Z47.z5))); replace HO1 := Z47.k (Kd.V_below (Kd.V_elderB Z47.z2 gb101 (Nat.le_of_eq hg.symm)) hb); replace HB := Z47.k (below_step Z47.z5 hb); clear hb hbox hg; obtain ⟨hcz14_0, hcz14_1, hcz14_2, hcz14_3, hfz14_0, hfz14_1, hfz14_2, hfz14_3⟩ := cells4 BK101.out) | ((with_reducible refine gate_callee (f := 77) rfl ?_); refine goesL_ (some 9) rfl rfl Try.func77 (by kernel_rfl) rfl #[.agg #[.int .i64 a0_0, .int .i64 a0_1, .int .i64 a0_2, .slice A0_3 l0_3.length c0_3]] rfl Z47.z7 ?_; (with_reducible refine (impl_columnsOf.calls k a0_0 a0_1 a0_2 _ _ l0_3 t102 _ ?side1 ?side2 A3.out).mono ?_); (case side1 => exact (by repeat (first | exact (Kd.C_below HR0_3.out HB.out) | (with_reducible refine Kd.C_alloc ?_ _) | (with_reducible refine Kd.C_drewN ?_ _) | (with_reducible refine Kd.C_drew ?_)))); (case side2 => exact HC0_3.out); rintro e w15 ⟨v103, rfl, ho0, hb⟩; refine ⟨_, rfl, ?_⟩; have HO104 := Z47.k (Kd.N_lower (Kd.N_mono (ok' := fun k_ => (P1_ k_ ∨ w.heap.size ≤ k_) ∧ k_ ≠ gb101) (Kd.S_N (Kd.S_bound ho0)) (fun k_ hk_ => ⟨(.inr (Nat.le_trans (below_size Z47.z0) hk_.2.1)), (Kd.freshB (g := gb101) (o := .cells #[.int .i64 a0_0, .int .i64 a0_1, .int .i64 a0_2, .slice A0_3 l0_3.length c0_3] 28 (0, 0)) Z47.z1 k_ hk_.2.1)⟩)) (below_size Z47.z0)); replace HO1 := Z47.k (Kd.V_elder' Z47.z2 (Kd.S_base ho0) hb); replace BK101 := Z47.k (Z47.bb BK101 Z47.z1 hb); replace HB := Z47.k (below_step Z47.z0 hb); (try clear hb); (try clear hb2); (try clear hk); (try clear hi); (try clear ho0)) | ((with_reducible refine gate_builtin (b := .append) (xs := #[.tmp 9, .tmp 11]) rfl ?_); at_builtin; refine Kd.N_append (Kd.slice 2 (Kd.int .i64)) (w0 := w) w.heap.size rfl (.tmp 9) (.tmp 11) 36 22 (.slice none 0 0) 24 rfl Try.underlying36 info22 rfl (by decide) (by omega) v103 t102 l1 [.slice A1 l1.length c1] (fun k_ => (P1_ k_ ∨ w.heap.size ≤ k_) ∧ k_ ≠ gb101) (fun k_ => ((fun k_ => (P1_ k_ ∨ w.heap.size ≤ k_) ∧ k_ ≠ gb101)) k_ ∧ some k_ ≠ (v103 : Value).ownBlock) rfl rfl ?aP (fun _ hk => hk) ?aF ?aO ?aB ?aS ?aL ?_; (case aP => exact (Kd.FK_slice_mk (Kd.V_reads' (Kd.V_mono (ok' := (fun k_ => ((fun k_ => (P1_ k_ ∨ w.heap.size ≤ k_) ∧ k_ ≠ gb101)) k_ ∧ some k_ ≠ (v103 : Value).ownBlock)) (HO1.out) (fun k_ hk => ⟨⟨hk.1.1, hk.1.2⟩, hk.2⟩))).2.1 (Kd.V_F (Kd.V_mono (ok' := (fun k_ => ((fun k_ => (P1_ k_ ∨ w.heap.size ≤ k_) ∧ k_ ≠ gb101)) k_ ∧ some k_ ≠ (v103 : Value).ownBlock)) (HO1.out) (fun k_ hk => ⟨⟨hk.1.1, hk.1.2⟩, hk.2⟩))))); (case aB => exact Z47.z0); (case aF => exact (fun k_ hk => ⟨(.inr (Nat.le_trans (below_size Z47.z0) hk)), Kd.freshB (g := gb101) (o := .cells #[.int .i64 a0_0, .int .i64 a0_1, .int .i64 a0_2, .slice A0_3 l0_3.length c0_3] 28 (0, 0)) Z47.z1 k_ hk⟩)); (case aO => exact (by (with_reducible repeat (first | apply Kd.N_alloc | apply Kd.N_drewN | apply Kd.N_drew)); exact HO104.out)); (case aS => exact (below_size Z47.z0)); (case aL => have := LMc4.out; omega); intro v106 w16 ho hb hg hat; rw [← Ny105.out] at ho; have HO107 := Z47.k (ho); replace HO1 := Z47.k (Kd.V_afterv (ok := (fun k_ => (P1_ k_ ∨ w.heap.size ≤ k_) ∧ k_ ≠ gb101)) Z47.z2 hg hat); replace BK101 := Z47.k (blk_grown (g := gb101) (o := .cells #[.int .i64 a0_0, .int .i64 a0_1, .int .i64 a0_2, .slice A0_3 l0_3.length c0_3] 28 (0, 0)) Z47.z1 hg (Kd.N_ne HO104.out BK101.out (by decide))); replace HB := Z47.k (hb); clear HO104; clear ho hb hg hat; obtain ⟨Ao17, co17, eo17⟩ := Kd.N_slice HO107.out; subst eo17) | ((with_reducible refine gate_dst (N := 15) rfl ?_); refine Kd.R_make (Kd.int .i64) _ 2 rfl (N := 15) rfl 22 _ _ rfl (y105.length : Int) rfl rfl Try.underlying22 (.int .i64 0) 8 info2 rfl (by decide) (by omega) 0 (ok := fun _ => True) (okp := fun _ => True) rfl (fun _ hk => hk) trivial (of_decide_eq_true Z47.z6) (Nat.le_trans (Nat.mul_le_mul_right _ (of_decide_eq_true Z47.z6 : (y105.length : Int).toNat ≤ 35184372088832)) (by omega)) (Below.refl _ _) (Nat.le_refl _) ?_; intro v109 w18 ho19 hb hg_ hnew_; clear hg_ hnew_; (first | rw [← Ny108.out] at ho19 | (simp only [Int.reduceToNat] at ho19; rw [← Ny108.out] at ho19)); have HO110 := Z47.k (Kd.R_lower (Kd.R_newM (M := fun k_ => (w.heap.size ≤ k_)) ho19 (below_size Z47.z0) (fun k_ h_ => h_)) (below_size Z47.z0)); replace HO1 := Z47.k (Kd.V_elder' Z47.z2 (Kd.R_base ho19) hb); replace HO107 := Z47.k (Kd.N_elder' Z47.z4 (Kd.R_base ho19) hb); replace BK101 := Z47.k (Z47.bb BK101 Z47.z1 hb); replace HB := Z47.k (below_step Z47.z0 hb); clear hb ho19; have p10 : 0 ≤ ((ji7) : Int) := of_decide_eq_true Z47.z6; have q10 : ((ji7) : Int) < ((y108.length : Int) : Int) := of_decide_eq_true Z47.z6; obtain ⟨go10, co10, eo10, gb10, gl10, cl10, HG10⟩ := Kd.R_form HO110.out (by omega); (first | cases eo10 | (injection eo10 with ea_ en_ ec_; (first | subst ea_ | (injection ea_ with ea_; subst ea_)); subst ec_; clear en_)); have GB10 := Z47.k gb10; have GG10 := Z47.k HG10; clear gb10 gl10 HG10; obtain ⟨hx10_0, hf10_0⟩ := Kd.R_celln 0 HO110.out ((ji7) : Int) p10 q10; replace p10 := eq_true p10; replace q10 := eq_true q10; have n_ := Z47.k (Kd.R_mono (ok' := (fun k_ => (w.heap.size ≤ k_))) HO110.out (fun k_ hk => hk.1)); clear HO110; have HO110 := n_; clear n_; obtain ⟨hy20_, hz20_⟩ := Kd.R_celln 0 HO110.out ((ji7) : Int) (of_decide_eq_true Z47.z6) (of_decide_eq_true Z47.z6); have HP20 := Kd.R_putg HO110.out ((ji7) : Int) 1) | ((with_reducible refine gate_store (t := 2) (p := 20) rfl ?_); refine store_event (t := 2) (p := 20) (v := ?vo_w21) (w1 := (w18.setCell ⟨go10, ((ji7) : Int).toNat, none⟩ (.int .i64 1))) ?hg ?ho ?hn ?hr ?_; (case ho => rfl); (case hg => rfl); (case hn => rfl); (case hr => first | (go_simp; done) | (go_simp; rfl)); intro w21 hw; have hg : w18.grownBy w21 (some go10) := (by rw [hw]; exact HP20.2); have hp_ : Kd.R (Kd.int .i64) 2 w21 w.heap.size (fun k_ => (w.heap.size ≤ k_)) (.slice (some ⟨go10, 0, none⟩) y108.length co10) y111 := (by rw [hw, Ny111.out]; exact HP20.1); clear HP20; replace HO1 := Z47.k (Kd.V_afterv (v := (.slice (some ⟨go10, 0, none⟩) y108.length co10)) (v1 := (.slice (some ⟨go10, 0, none⟩) y108.length co10)) (ok := (fun k_ => (P1_ k_ ∨ w.heap.size ≤ k_) ∧ some k_ ≠ (.slice Ao17 y105.length co17 : Value).ownBlock ∧ k_ ≠ gb101)) (by (with_reducible repeat (first | apply Kd.V_alloc | apply Kd.V_drewN | apply Kd.V_drew)); exact Kd.V_mono HO1.out (fun _ hk => ⟨⟨hk.1.1.1, ⟨hk.1.2, hk.1.1.2⟩⟩, hk.2⟩)) hg (.inl rfl)); replace BK101 := Z47.k (blk_grown (g := gb101) (o := .cells #[.int .i64 a0_0, .int .i64 a0_1, .int .i64 a0_2, .slice A0_3 l0_3.length c0_3] 28 (0, 0)) Z47.z1 hg (Kd.R_ne HO110.out BK101.out (by decide))); replace HO107 := Z47.k (Kd.N_afterv (v := (.slice (some ⟨go10, 0, none⟩) y108.length co10)) (v1 := (.slice (some ⟨go10, 0, none⟩) y108.length co10)) (ok := (fun k_ => (P1_ k_ ∨ w.heap.size ≤ k_) ∧ k_ ≠ gb101)) Z47.z4 hg (.inl rfl)); replace HO110 := Z47.k (hp_); replace HB := Z47.k ((by rw [hw]; exact below_set (HB.out) GB10.out : Below w.heap.size w w21)); clear hg hw hp_; obtain ⟨hcz22_0, hcz22_1, hcz22_2, hcz22_3, hfz22_0, hfz22_1, hfz22_2, hfz22_3⟩ := cells4 BK101.out) | ((with_reducible refine gate_callee (f := 78) rfl ?_); refine goesL_ (some 26) rfl rfl Try.func78 (by kernel_rfl) rfl #[.int .i64 a0_0, .int .i64 a0_1, .slice Ao17 y105.length co17] rfl Z47.z7 ?_; (with_reducible refine (impl_matrixOf.calls k a0_0 a0_1 _ _ y105 t112 t113 t114 t115 _ ?side1 ?side2 A11.out).mono ?_); (case side1 => exact (by repeat (first | exact (Kd.N_reads' HO107.out).2.2 | (with_reducible refine Kd.C_alloc ?_ _) | (with_reducible refine Kd.C_drewN ?_ _) | (with_reducible refine Kd.C_drew ?_)))); (case side2 => exact (Kd.N_reads' HO107.out).2.1); rintro e w23 ⟨v116, rfl, ho0, hb⟩; refine ⟨_, rfl, ?_⟩; have HO117 := Z47.k (Kd.R_lower (Kd.R_new' (Kd.R_newM (M := fun k_ => (w.heap.size ≤ k_)) ho0 (below_size Z47.z0) (fun k_ h_ => h_)) (Kd.R_lt Z47.z3)) (below_size Z47.z0)); replace HO1 := Z47.k (Kd.V_elder' Z47.z2 (Kd.R_base ho0) hb); replace HO107 := Z47.k (Kd.N_elder' Z47.z4 (Kd.R_base ho0) hb); replace HO110 := Z47.k (Kd.R_elder' Z47.z3 (Kd.R_base ho0) hb); replace BK101 := Z47.k (Z47.bb BK101 Z47.z1 hb); replace HB := Z47.k (below_step Z47.z0 hb); (try clear hb); (try clear hb2); (try clear hk); (try clear hi); (try clear ho0); obtain ⟨Ao24, co24, eo24⟩ := Kd.R_slice HO117.out; subst eo24) | ((with_reducible refine gate_callee (f := 36) rfl ?_); refine goesL_ (some 28) rfl rfl Try.func36 (by kernel_rfl) rfl #[.agg #[.int .i64 t112, .int .i64 t113, .int .i64 t114, .slice Ao24 t115.length co24], .slice (some ⟨go10, 0, none⟩) y111.length co10] rfl (by (try simp only [List.map_toArray, List.map_cons, List.map_nil]); first | done | (rw [show y111.length = y108.length from (Kd.R_reads' HO110.out).1.symm] <;> rfl) | rfl | (simp only [List.length_drop, List.length_take]; rfl)) ?_; (with_reducible refine (impl_solve.calls k t112 t113 t114 _ _ t115 _ _ y111 t118 t121 _ ?side1 ?side2 ?side3 ?side4 A12.out).mono ?_); (case side1 => exact (by repeat (first | exact (Kd.R_reads' HO117.out).2.2 | (with_reducible refine Kd.C_alloc ?_ _) | (with_reducible refine Kd.C_drewN ?_ _) | (with_reducible refine Kd.C_drew ?_)))); (case side2 => exact (Kd.R_reads' HO117.out).2.1); (case side3 => exact (by repeat (first | exact (Kd.R_reads' HO110.out).2.2 | (with_reducible refine Kd.C_alloc ?_ _) | (with_reducible refine Kd.C_drewN ?_ _) | (with_reducible refine Kd.C_drew ?_)))); (case side4 => exact (by rw [show y111.length = y108.length from (Kd.R_reads' HO110.out).1.symm]; exact (Kd.R_reads' HO110.out).2.1)); rintro e w25 ⟨v119, rfl, ho0, hb⟩; refine ⟨_, rfl, ?_⟩; have HO120 := Z47.k (Kd.R_lower (Kd.R_new' (Kd.R_new' (Kd.R_newM (M := fun k_ => (w.heap.size ≤ k_)) ho0 (below_size Z47.z0) (fun k_ h_ => h_)) (Kd.R_lt Z47.z3)) (Kd.R_lt (by (with_reducible repeat (first | apply Kd.R_alloc | apply Kd.R_drewN | apply Kd.R_drew)); exact HO117.out))) (below_size Z47.z0)); replace HO1 := Z47.k (Kd.V_elder' Z47.z2 (Kd.R_base ho0) hb); replace HO107 := Z47.k (Kd.N_elder' Z47.z4 (Kd.R_base ho0) hb); replace HO110 := Z47.k (Kd.R_elder' Z47.z3 (Kd.R_base ho0) hb); replace HO117 := Z47.k (Kd.R_elder' (by (with_reducible repeat (first | apply Kd.R_alloc | apply Kd.R_drewN | apply Kd.R_drew)); exact HO117.out) (Kd.R_base ho0) hb); replace BK101 := Z47.k (Z47.bb BK101 Z47.z1 hb); replace HB := Z47.k (below_step Z47.z0 hb); (try clear hb); (try clear hb2); (try clear hk); (try clear hi); (try clear ho0)))
      go_ret2
      exact ⟨_, (by first | rfl | (simp [errW_none, errW_some] <;> rfl) | (simp only [← hji7]; first | rfl | (simp [errW_none, errW_some] <;> rfl)) | (simp [*, errW_none, errW_some] <;> rfl)), (by (with_reducible repeat (first | apply Kd.R_alloc | apply Kd.R_drewN | apply Kd.R_drew)); exact Kd.R_mono HO120.out (fun _ hk => hk.1.1.1)), Z47.z0⟩
     rw [if_neg c9] at H
     exact absurd H (by simp)
    rw [if_neg c8] at H
    exact absurd H (by simp)
   rw [if_neg c6] at H
   exact absurd H (by simp)
  rw [if_neg c5] at H
  exact absurd H (by simp)
 rw [if_neg c4] at H
 exact absurd H (by simp)
/-! ### impl_Certificate: function 23 -/
def impl_Certificate.f (k : Nat) (a0_0 : Int) (a0_1 : Int) (a0_2 : Int) (l0_3 : List Int) (l1 : List Int) : Option (List Int × Int) := (impl_rightSide.f k a0_0 a0_1 a0_2 l0_3 l1).bind fun t102 => (if t102 = 0 then ((impl_certificate.f k a0_0 a0_1 a0_2 l0_3 l1).bind fun bt103 => (if bt103.2 = true then (some (bt103.1, 0)) else (some (([] : List Int), 3)))) else (some (([] : List Int), t102)))
theorem Z23.bb {w0 w w1 : World} {g : Nat} {o : Obj} (_B : Aside0 (w0.heap[g]? = some o)) (h : w.heap[g]? = some o) (hb : Below w.heap.size w w1) : w1.heap[g]? = some o := blk_below h hb
theorem Z23.bl {w0 w : World} {g : Nat} {o : Obj} (_B : Aside0 (w0.heap[g]? = some o)) (h : w.heap[g]? = some o) : g < w.heap.size := blk_lt h
theorem Z23.k {p : Prop} (h : p) : Aside0 p := ⟨h⟩
theorem Z23.z7 {P : Prop} (h : P := by first | exact Kd.R_nil _ _ _ _ _ | exact Kd.N_nil _ _ _ _ _ | exact Kd.V_nil _ _ _ _ _ | exact Kd.Q_nil _ _ _ _ _ | exact Kd.S_nil _ _ _ _ _) : P := h
theorem Z23.z6 {P : Prop} (h : P := by first | rfl | (simp [errW_none, errW_some] <;> rfl) | (simp [*, errW_none, errW_some] <;> rfl)) : P := h
theorem Z23.z5 {P : Prop} (h : P := by repeat (first | exact (Kd.C_below HR1.out HB.out) | (with_reducible refine Kd.C_alloc ?_ _) | (with_reducible refine Kd.C_drewN ?_ _) | (with_reducible refine Kd.C_drew ?_))) : P := h
theorem Z23.z4 {P : Prop} (h : P := by (with_reducible repeat (first | refine blk_drewN ?_ _ | refine blk_drew ?_ | refine blk_alloc ?_ _)); exact BK101.out) : P := h
theorem Z23.z3 {P : Prop} (h : P := by (try simp only [List.map_toArray, List.map_cons, List.map_nil]); first | done | rfl | (simp only [List.length_drop, List.length_take]; rfl)) : P := h
theorem Z23.z2 {P : Prop} (h : P := by repeat (first | exact (Kd.C_below HR0_3.out HB.out) | (with_reducible refine Kd.C_alloc ?_ _) | (with_reducible refine Kd.C_drewN ?_ _) | (with_reducible refine Kd.C_drew ?_))) : P := h
theorem Z23.z1 {P : Prop} (h : P := by repeat (first | (with_reducible first | exact HB.out | apply below_alloc | apply pw_below_drewN | apply below_drew1) | exact HB.out)) : P := h
theorem Z23.z0 {P : Prop} (h : P := by repeat (first | (with_reducible first | exact HB.out | apply below_alloc | apply pw_below_drewN | apply below_drew1 | refine below_set ?_ GE101.out) | exact HB.out)) : P := h
set_option maxHeartbeats 8000000 in
set_option maxRecDepth 100000 in
theorem impl_Certificate.calls (k : Nat) (a0_0 : Int) (a0_1 : Int) (a0_2 : Int) (A0_3 : Option Addr) (c0_3 : Nat) (l0_3 : List Int) (A1 : Option Addr) (c1 : Nat) (l1 : List Int) (r1 : List Int) (r2 : Int) (w : World) (hr0_3 : Kd.C (Kd.int .i64) w A0_3 l0_3.length l0_3) (hc0_3 : l0_3.length ≤ c0_3) (hr1 : Kd.C (Kd.int .i64) w A1 l1.length l1) (hc1 : l1.length ≤ c1) (h : impl_Certificate.f k a0_0 a0_1 a0_2 l0_3 l1 = some (r1, r2)) :
  Calls Try.prog 23 #[.agg #[.int .i64 a0_0, .int .i64 a0_1, .int .i64 a0_2, .slice A0_3 l0_3.length c0_3], .slice A1 l1.length c1] w fun e w' => ∃ v0_ : Value, e = .returned (.tuple #[v0_, .int .i64 r2]) ∧ Kd.R (Kd.int .i64) 2 w' w.heap.size (fun _ => True) v0_ r1 ∧ Below w.heap.size w w' := by
 have hu28 := Try.underlying28
 have HR0_3 := Z23.k hr0_3
 have HC0_3 := Z23.k hc0_3
 clear hr0_3 hc0_3
 have HR1 := Z23.k hr1
 have HC1 := Z23.k hc1
 clear hr1 hc1
 have HB := Z23.k (Below.refl w.heap.size w)
 have H : ((impl_rightSide.f k a0_0 a0_1 a0_2 l0_3 l1).bind fun t102 => (if t102 = 0 then ((impl_certificate.f k a0_0 a0_1 a0_2 l0_3 l1).bind fun bt103 => (if bt103.2 = true then (some (bt103.1, 0)) else (some (([] : List Int), 3)))) else (some (([] : List Int), t102)))) = some (r1, r2) := h
 clear h
 replace H := Option.bind_eq_some_iff.mp H
 obtain ⟨t102, A30, H⟩ := H
 replace H : (if t102 = 0 then ((impl_certificate.f k a0_0 a0_1 a0_2 l0_3 l1).bind fun bt103 => (if bt103.2 = true then (some (bt103.1, 0)) else (some (([] : List Int), 3)))) else (some (([] : List Int), t102))) = some (r1, r2) := H
 have A3 := Z23.k A30
 clear A30
 by_cases c4 : t102 = 0
 ·rw [if_pos c4] at H
  have c4b0 : (t102 == 0) = true := beq_iff_eq.mpr c4
  have c4b1 : (t102 != 0) = false := bne_eq_false_iff_eq.mpr c4
  clear c4
  replace H := Option.bind_eq_some_iff.mp H
  obtain ⟨⟨t103, t106⟩, A50, H⟩ := H
  (try dsimp only at H)
  have A5 := Z23.k A50
  clear A50
  by_cases c6 : t106 = true
  ·subst c6
   rw [if_pos rfl] at H
   simp only [Option.some.injEq, Prod.mk.injEq] at H
   obtain ⟨rfl, rfl⟩ := H
   go_enter Try.func23, Try.ntmps23
   go_wp2_with (first | ((with_reducible refine gate_dst (N := 2) rfl ?_); refine box_event ?hg (N := 2) ?hd (cs := #[.int .i64 a0_0, .int .i64 a0_1, .int .i64 a0_2, .slice A0_3 l0_3.length c0_3]) (t := 28) ?hr ?_; (case hd => rfl); (case hg => rfl); (case hr => first | (go_simp; done) | (go_simp; rfl)); intro gb101 hg w7 hbox hb; have BK101 := Z23.k (hbox); have GW101 := Z23.k (show w.heap.size ≤ gb101 from (by rw [hg]; exact (below_size Z23.z1))); have GE101 := Z23.k (show w.heap.size ≤ gb101 from (by rw [hg]; exact (below_size Z23.z1))); replace HB := Z23.k (below_step Z23.z1 hb); clear hb hbox hg; obtain ⟨hcz8_0, hcz8_1, hcz8_2, hcz8_3, hfz8_0, hfz8_1, hfz8_2, hfz8_3⟩ := cells4 BK101.out) | ((with_reducible refine gate_callee (f := 35) rfl ?_); refine goesL_ (some 11) rfl rfl Try.func35 (by kernel_rfl) rfl #[.agg #[.int .i64 a0_0, .int .i64 a0_1, .int .i64 a0_2, .slice A0_3 l0_3.length c0_3], .slice A1 l1.length c1] rfl Z23.z3 ?_; (with_reducible refine (impl_rightSide.calls k a0_0 a0_1 a0_2 _ _ l0_3 _ _ l1 t102 _ ?side1 ?side2 ?side3 ?side4 A3.out).mono ?_); (case side1 => exact Z23.z2); (case side2 => exact HC0_3.out); (case side3 => exact Z23.z5); (case side4 => exact HC1.out); rintro e w9 ⟨rfl, hb⟩; refine ⟨_, rfl, ?_⟩; replace BK101 := Z23.k (Z23.bb BK101 Z23.z4 hb); replace HB := Z23.k (below_step Z23.z0 hb); (try clear hb); (try clear hb2); (try clear hk); (try clear hi); obtain ⟨hcz10_0, hcz10_1, hcz10_2, hcz10_3, hfz10_0, hfz10_1, hfz10_2, hfz10_3⟩ := cells4 BK101.out) | ((with_reducible refine gate_callee (f := 47) rfl ?_); refine goesL_ (some 18) rfl rfl Try.func47 (by kernel_rfl) rfl #[.agg #[.int .i64 a0_0, .int .i64 a0_1, .int .i64 a0_2, .slice A0_3 l0_3.length c0_3], .slice A1 l1.length c1] rfl Z23.z3 ?_; (with_reducible refine (impl_certificate.calls k a0_0 a0_1 a0_2 _ _ l0_3 (fun k_ => k_ < w.heap.size) _ _ l1 t103 true _ ?side1 ?side2 ?side3 A5.out).mono ?_); (case side1 => exact Z23.z2); (case side2 => exact HC0_3.out); (case side3 => exact (by exact Kd.V_mk HC1.out (Kd.F_below (Kd.C_F (Kd.heap_int .i64) HR1.out) Z23.z0))); rintro e w11 ⟨v104, rfl, ho0, hb⟩; refine ⟨_, rfl, ?_⟩; have HO105 := Z23.k (Kd.R_lower (Kd.R_mono (ok' := fun k_ => True) ho0 (fun _ hk_ => trivial)) (below_size Z23.z0)); replace BK101 := Z23.k (Z23.bb BK101 Z23.z4 hb); replace HB := Z23.k (below_step Z23.z0 hb); (try clear hb); (try clear hb2); (try clear hk); (try clear hi); (try clear ho0)))
   go_ret2
   exact ⟨_, Z23.z6, (by (with_reducible repeat (first | apply Kd.R_alloc | apply Kd.R_drewN | apply Kd.R_drew)); exact HO105.out), Z23.z0⟩
  replace c6 := Bool.eq_false_iff.mpr c6
  subst c6
  rw [if_neg (show ¬ (false = true) by decide)] at H
  simp only [Option.some.injEq, Prod.mk.injEq] at H
  obtain ⟨rfl, rfl⟩ := H
  go_enter Try.func23, Try.ntmps23
  go_wp2_with (first | ((with_reducible refine gate_dst (N := 2) rfl ?_); refine box_event ?hg (N := 2) ?hd (cs := #[.int .i64 a0_0, .int .i64 a0_1, .int .i64 a0_2, .slice A0_3 l0_3.length c0_3]) (t := 28) ?hr ?_; (case hd => rfl); (case hg => rfl); (case hr => first | (go_simp; done) | (go_simp; rfl)); intro gb101 hg w12 hbox hb; have BK101 := Z23.k (hbox); have GW101 := Z23.k (show w.heap.size ≤ gb101 from (by rw [hg]; exact (below_size Z23.z1))); have GE101 := Z23.k (show w.heap.size ≤ gb101 from (by rw [hg]; exact (below_size Z23.z1))); replace HB := Z23.k (below_step Z23.z1 hb); clear hb hbox hg; obtain ⟨hcz13_0, hcz13_1, hcz13_2, hcz13_3, hfz13_0, hfz13_1, hfz13_2, hfz13_3⟩ := cells4 BK101.out) | ((with_reducible refine gate_callee (f := 35) rfl ?_); refine goesL_ (some 11) rfl rfl Try.func35 (by kernel_rfl) rfl #[.agg #[.int .i64 a0_0, .int .i64 a0_1, .int .i64 a0_2, .slice A0_3 l0_3.length c0_3], .slice A1 l1.length c1] rfl Z23.z3 ?_; (with_reducible refine (impl_rightSide.calls k a0_0 a0_1 a0_2 _ _ l0_3 _ _ l1 t102 _ ?side1 ?side2 ?side3 ?side4 A3.out).mono ?_); (case side1 => exact Z23.z2); (case side2 => exact HC0_3.out); (case side3 => exact Z23.z5); (case side4 => exact HC1.out); rintro e w14 ⟨rfl, hb⟩; refine ⟨_, rfl, ?_⟩; replace BK101 := Z23.k (Z23.bb BK101 Z23.z4 hb); replace HB := Z23.k (below_step Z23.z0 hb); (try clear hb); (try clear hb2); (try clear hk); (try clear hi); obtain ⟨hcz15_0, hcz15_1, hcz15_2, hcz15_3, hfz15_0, hfz15_1, hfz15_2, hfz15_3⟩ := cells4 BK101.out) | ((with_reducible refine gate_callee (f := 47) rfl ?_); refine goesL_ (some 18) rfl rfl Try.func47 (by kernel_rfl) rfl #[.agg #[.int .i64 a0_0, .int .i64 a0_1, .int .i64 a0_2, .slice A0_3 l0_3.length c0_3], .slice A1 l1.length c1] rfl Z23.z3 ?_; (with_reducible refine (impl_certificate.calls k a0_0 a0_1 a0_2 _ _ l0_3 (fun k_ => k_ < w.heap.size) _ _ l1 t103 false _ ?side1 ?side2 ?side3 A5.out).mono ?_); (case side1 => exact Z23.z2); (case side2 => exact HC0_3.out); (case side3 => exact (by exact Kd.V_mk HC1.out (Kd.F_below (Kd.C_F (Kd.heap_int .i64) HR1.out) Z23.z0))); rintro e w16 ⟨v104, rfl, ho0, hb⟩; refine ⟨_, rfl, ?_⟩; have HO105 := Z23.k (Kd.R_lower (Kd.R_mono (ok' := fun k_ => True) ho0 (fun _ hk_ => trivial)) (below_size Z23.z0)); replace BK101 := Z23.k (Z23.bb BK101 Z23.z4 hb); replace HB := Z23.k (below_step Z23.z0 hb); (try clear hb); (try clear hb2); (try clear hk); (try clear hi); (try clear ho0)))
  go_ret2
  exact ⟨_, Z23.z6, Z23.z7, Z23.z0⟩
 rw [if_neg c4] at H
 have c4b0 : (t102 == 0) = false := beq_eq_false_iff_ne.mpr c4
 have c4b1 : (t102 != 0) = true := bne_iff_ne.mpr c4
 simp only [Option.some.injEq, Prod.mk.injEq] at H
 obtain ⟨rfl, rfl⟩ := H
 go_enter Try.func23, Try.ntmps23
 go_wp2_with (first | ((with_reducible refine gate_dst (N := 2) rfl ?_); refine box_event ?hg (N := 2) ?hd (cs := #[.int .i64 a0_0, .int .i64 a0_1, .int .i64 a0_2, .slice A0_3 l0_3.length c0_3]) (t := 28) ?hr ?_; (case hd => rfl); (case hg => rfl); (case hr => first | (go_simp; done) | (go_simp; rfl)); intro gb101 hg w17 hbox hb; have BK101 := Z23.k (hbox); have GW101 := Z23.k (show w.heap.size ≤ gb101 from (by rw [hg]; exact (below_size Z23.z1))); have GE101 := Z23.k (show w.heap.size ≤ gb101 from (by rw [hg]; exact (below_size Z23.z1))); replace HB := Z23.k (below_step Z23.z1 hb); clear hb hbox hg; obtain ⟨hcz18_0, hcz18_1, hcz18_2, hcz18_3, hfz18_0, hfz18_1, hfz18_2, hfz18_3⟩ := cells4 BK101.out) | ((with_reducible refine gate_callee (f := 35) rfl ?_); refine goesL_ (some 11) rfl rfl Try.func35 (by kernel_rfl) rfl #[.agg #[.int .i64 a0_0, .int .i64 a0_1, .int .i64 a0_2, .slice A0_3 l0_3.length c0_3], .slice A1 l1.length c1] rfl Z23.z3 ?_; (with_reducible refine (impl_rightSide.calls k a0_0 a0_1 a0_2 _ _ l0_3 _ _ l1 t102 _ ?side1 ?side2 ?side3 ?side4 A3.out).mono ?_); (case side1 => exact Z23.z2); (case side2 => exact HC0_3.out); (case side3 => exact Z23.z5); (case side4 => exact HC1.out); rintro e w19 ⟨rfl, hb⟩; refine ⟨_, rfl, ?_⟩; replace BK101 := Z23.k (Z23.bb BK101 Z23.z4 hb); replace HB := Z23.k (below_step Z23.z0 hb); (try clear hb); (try clear hb2); (try clear hk); (try clear hi)))
 go_ret2
 exact ⟨_, Z23.z6, Z23.z7, Z23.z0⟩
/-! ### laws_FnExactCertificate: function 5 -/
mutual
def laws_FnExactCertificate.j0 : Nat → List Int → List Int → Int → List Int → List Int → Int → Bool → Int → Int → Int → List Int → Int → Int → Int → List Int → Option (Bool)
  | 0, _, _, _, _, _, _, _, _, _, _, _, _, _, _, _ => none
  | k + 1, x1, x6, x7, x9, x10, x11, x51, x102000, x102001, x102002, x102003, x123000, x123001, x123002, x123003 => if x51 = true then (some false) else ((laws_toMatrix.f k x102000 x102001 x102002 x102003).bind fun bt131 => ((laws_eqMatrix.f k x123000 x123001 x123002 x123003 bt131.1 bt131.2.1 bt131.2.2.1 bt131.2.2.2).bind fun t137 => (if t137 = true then ((laws_toInt64S.f k x1).bind fun t138 => ((laws_eqInt64S.f k x9 t138).bind fun t141 => (if t141 = true then ((laws_markMatrix.f k x123000 x123001 x123002 x123003 1).bind fun bt142 => ((laws_markInt64S.f k x9 bt142.1).bind fun bt144 => (if bt144.1 < 0 then (laws_FnExactCertificate.j1 k x1 x6 x7 x10 true x102000 x102001 x102002 x102003) else ((laws_eqInt64S.f k x10 x6).bind fun t146 => (if t146 = true then (laws_FnExactCertificate.j1 k x1 x6 x7 x10 (x11 != x7) x102000 x102001 x102002 x102003) else (laws_FnExactCertificate.j1 k x1 x6 x7 x10 true x102000 x102001 x102002 x102003)))))) else (some false)))) else (some false))))
def laws_FnExactCertificate.j1 : Nat → List Int → List Int → Int → List Int → Bool → Int → Int → Int → List Int → Option (Bool)
  | 0, _, _, _, _, _, _, _, _, _ => none
  | k + 1, x1, x6, x7, x10, x80, x102000, x102001, x102002, x102003 => if x80 = true then (some false) else ((laws_markInt64S.f k x10 1).bind fun bt147 => ((laws_heldInt64S.f k bt147.2 1).bind fun t149 => (if t149 < 0 then (some false) else (if t149 = bt147.1 then ((laws_toMatrix.f k x102000 x102001 x102002 x102003).bind fun bt150 => ((laws_toInt64S.f k x1).bind fun t156 => ((impl_Certificate.f k bt150.1 bt150.2.1 bt150.2.2.1 bt150.2.2.2 t156).bind fun bt159 => ((laws_eqInt64S.f k bt159.1 x6).bind fun t163 => (if t163 = true then (laws_FnExactCertificate.j2 k bt147.2 bt147.1 (bt159.2 != x7)) else (laws_FnExactCertificate.j2 k bt147.2 bt147.1 true)))))) else (some false)))))
def laws_FnExactCertificate.j2 : Nat → List Int → Int → Bool → Option (Bool)
  | 0, _, _, _ => none
  | k + 1, x10, x13, x108 => if x108 = true then (some false) else ((laws_heldInt64S.f k x10 1).bind fun t164 => (if t164 < 0 then (some false) else (if t164 = x13 then (some true) else (some false))))
end
def laws_FnExactCertificate.f (k : Nat) (a0_0 : Int) (a0_1 : Int) (a0_2 : Int) (l0_3 : List Int) (l1 : List Int) : Option (Bool) := if (l1.length : Int) > 1048576 then (some true) else ((laws_szMatrix.f a0_0 a0_1 a0_2 l0_3 1048576).bind fun t102 => (if t102 < 0 then (some true) else ((laws_toMatrix.f k a0_0 a0_1 a0_2 l0_3).bind fun bt103 => ((laws_toInt64S.f k l1).bind fun t109 => ((spec_Certificate.f k bt103.1 bt103.2.1 bt103.2.2.1 bt103.2.2.2 t109).bind fun bt112 => ((laws_toMatrix.f k a0_0 a0_1 a0_2 l0_3).bind fun bt116 => ((laws_toInt64S.f k l1).bind fun t123 => ((impl_Certificate.f k bt116.1 bt116.2.1 bt116.2.2.1 bt116.2.2.2 t123).bind fun bt126 => ((laws_eqInt64S.f k bt126.1 bt112.1).bind fun t130 => (if t130 = true then (laws_FnExactCertificate.j0 k l1 bt112.1 bt112.2 t123 bt126.1 bt126.2 (bt126.2 != bt112.2) a0_0 a0_1 a0_2 l0_3 bt116.1 bt116.2.1 bt116.2.2.1 bt116.2.2.2) else (laws_FnExactCertificate.j0 k l1 bt112.1 bt112.2 t123 bt126.1 bt126.2 true a0_0 a0_1 a0_2 l0_3 bt116.1 bt116.2.1 bt116.2.2.1 bt116.2.2.2)))))))))))
def Z5.b (n x : Nat) : Array Bool := ((List.range n).map (fun i => x.testBit i)).toArray
theorem Z5.pP {P : Program} {ops : Array Oper} {Q : Exit → Act → World → Prop} {md : Region.Mode} {S : World → Prop} {ds : List Nat} (i N : Nat) {oi : Oper} {v : Value} {fuel : Nat} {l : Array Bool} {a : Act} {w : World} (l' : Array Bool) (hc : anyB md ops l l' i = true) {a' : Act} (h : wpAnyLast P md ops Q S ds fuel l' a' w) (hi : ops[i]? = some oi := by rfl) (hN : oi.dst = some N := by rfl) (hQ : ∀ c a w, Q (.panic c) (a.put oi.dst v) w → Q (.panic c) a w := by exact fun _ _ _ h => h) (hy : Yields P ops oi v a := by exact Or.inl ⟨(by rfl), by intro w'; go_simp; with_reducible rfl⟩) (ha : a.put (some N) v = a' := by simp only [Act.put, List.setIfInBounds_toArray, List.set_cons_zero, List.set_cons_succ, i64_w, i32_w]; rfl) : wpAnyLast P md ops Q S ds (fuel + 1) l a w := pure_ l' hi hN hc hQ hy ha h
theorem Z5.pT8 {P : Program} {ops : Array Oper} {Q : Exit → Act → World → Prop} {md : Region.Mode} {S : World → Prop} {ds : List Nat} (i N : Nat) {oi : Oper} {v : Value} {fuel : Nat} {l : Array Bool} {a : Act} {w : World} (l' : Array Bool) (hc : takeB md ops ds l l' i = true) (hS : S w) {a' : Act} (h : wpAnyLast P md ops Q S ds fuel l' a' w) (hi : ops[i]? = some oi := by rfl) (hN : oi.dst = some N := by rfl) (hQ : ∀ c a w, Q (.panic c) (a.put oi.dst v) w → Q (.panic c) a w := by exact fun _ _ _ h => h) (hy : YieldsIf P ops S oi v a := by exact Or.inl ⟨(by rfl), by rintro w' ⟨s0, s1, s2, s3, s4, s5, s6, s7⟩; go_simp; with_reducible rfl⟩) (ha : a.put (some N) v = a' := by simp only [Act.put, List.setIfInBounds_toArray, List.set_cons_zero, List.set_cons_succ, i64_w, i32_w]; rfl) : wpAnyLast P md ops Q S ds (fuel + 1) l a w := take_ l' hi hN hc hQ hy hS ha h
theorem Z5.bb {w0 w w1 : World} {g : Nat} {o : Obj} (_B : Aside0 (w0.heap[g]? = some o)) (h : w.heap[g]? = some o) (hb : Below w.heap.size w w1) : w1.heap[g]? = some o := blk_below h hb
theorem Z5.bl {w0 w : World} {g : Nat} {o : Obj} (_B : Aside0 (w0.heap[g]? = some o)) (h : w.heap[g]? = some o) : g < w.heap.size := blk_lt h
theorem Z5.k {p : Prop} (h : p) : Aside0 p := ⟨h⟩
theorem Z5.z47 {P : Prop} (h : P := by (try simp only [hl123003_50]); (with_reducible repeat (first | refine blk_drewN ?_ _ | refine blk_drew ?_ | refine blk_alloc ?_ _)); exact BK101.out) : P := h
theorem Z5.z46 {P : Prop} (h : P := by (try simp only [hl123003_50]); (with_reducible repeat (first | refine blk_drewN ?_ _ | refine blk_drew ?_ | refine blk_alloc ?_ _)); exact BK122.out) : P := h
theorem Z5.z45 {P : Prop} (h : P := by first | rfl | (simp; done) | (simp [*]; done)) : P := h
theorem Z5.z44 {P : Prop} (h : P := by (with_reducible repeat (first | apply Kd.R_alloc | apply Kd.R_drewN | apply Kd.R_drew)); exact Kd.R_mono HO114.out (fun _ hk => ⟨hk.1.2, ⟨hk.2, hk.1.1.2⟩⟩)) : P := h
theorem Z5.z43 {P : Prop} (h : P := by (with_reducible repeat (first | apply Kd.R_alloc | apply Kd.R_drewN | apply Kd.R_drew)); exact Kd.R_mono HO121.out (fun _ hk => ⟨hk.1.1.2, ⟨hk.1.2, hk.2⟩⟩)) : P := h
theorem Z5.z42 {P : Prop} (h : P := by (with_reducible repeat (first | apply Kd.R_alloc | apply Kd.R_drewN | apply Kd.R_drew)); exact Kd.R_mono HO125.out (fun _ hk => ⟨hk.1.1.2, ⟨hk.2, hk.1.2⟩⟩)) : P := h
theorem Z5.z41 {P : Prop} (h : P := by (with_reducible repeat (first | apply Kd.R_alloc | apply Kd.R_drewN | apply Kd.R_drew)); exact Kd.R_mono HO128.out (fun _ hk => ⟨hk.1.1.2, ⟨hk.2, hk.1.2⟩⟩)) : P := h
theorem Z5.z40 {P : Prop} (h : P := by (try simp only [hl123003_50]); (with_reducible repeat (first | apply Kd.R_alloc | apply Kd.R_drewN | apply Kd.R_drew)); exact Kd.R_mono HO_10.out (fun _ hk => hk.1.1.1.2)) : P := h
theorem Z5.z39 {P : Prop} (h : P := by repeat (first | exact (Kd.R_reads' HO_9.out).2.2 | (with_reducible refine Kd.C_alloc ?_ _) | (with_reducible refine Kd.C_drewN ?_ _) | (with_reducible refine Kd.C_drew ?_))) : P := h
theorem Z5.z38 {P : Prop} (h : P := by repeat (first | exact (Kd.R_reads' HO114.out).2.2 | (with_reducible refine Kd.C_alloc ?_ _) | (with_reducible refine Kd.C_drewN ?_ _) | (with_reducible refine Kd.C_drew ?_))) : P := h
theorem Z5.z37 {P : Prop} (h : P := by repeat (first | exact (Kd.R_reads' HO128.out).2.2 | (with_reducible refine Kd.C_alloc ?_ _) | (with_reducible refine Kd.C_drewN ?_ _) | (with_reducible refine Kd.C_drew ?_))) : P := h
theorem Z5.z36 {P : Prop} (h : P := by repeat (first | exact (Kd.R_reads' HO140.out).2.2 | (with_reducible refine Kd.C_alloc ?_ _) | (with_reducible refine Kd.C_drewN ?_ _) | (with_reducible refine Kd.C_drew ?_))) : P := h
theorem Z5.z35 {P : Prop} (h : P := by repeat (first | exact (Kd.R_reads' HO161.out).2.2 | (with_reducible refine Kd.C_alloc ?_ _) | (with_reducible refine Kd.C_drewN ?_ _) | (with_reducible refine Kd.C_drew ?_))) : P := h
theorem Z5.z34 {P : Prop} (h : P := by (try simp only [hl123003_50]); (with_reducible repeat (first | apply Kd.R_alloc | apply Kd.R_drewN | apply Kd.R_drew)); exact Kd.R_mono HO_123003.out (fun _ hk => hk.1.1.1.2)) : P := h
theorem Z5.z33 {P : Prop} (h : P := by (with_reducible repeat (first | apply Kd.R_alloc | apply Kd.R_drewN | apply Kd.R_drew)); exact HO121.out) : P := h
theorem Z5.z32 {P : Prop} (h : P := by rw [show t148.length = t126.length from (Kd.R_reads' HO_10.out).1.symm]; exact (Kd.R_reads' HO_10.out).2.1) : P := h
theorem Z5.z31 {P : Prop} (h : P := by (with_reducible repeat (first | apply Kd.R_alloc | apply Kd.R_drewN | apply Kd.R_drew)); exact HO155.out) : P := h
theorem Z5.z30 {P : Prop} (h : P := by (with_reducible repeat (first | apply Kd.R_alloc | apply Kd.R_drewN | apply Kd.R_drew)); exact Kd.R_mono HO_10.out (fun _ hk => ⟨hk.1, hk.2.2.1⟩)) : P := h
theorem Z5.z29 {P : Prop} (h : P := by (with_reducible repeat (first | apply Kd.R_alloc | apply Kd.R_drewN | apply Kd.R_drew)); exact Kd.R_mono HO_6.out (fun _ hk => ⟨hk.2.1, hk.2.2.1⟩)) : P := h
theorem Z5.z28 {P : Prop} (h : P := by (with_reducible repeat (first | apply Kd.R_alloc | apply Kd.R_drewN | apply Kd.R_drew)); exact Kd.R_mono HO_123003.out (fun _ hk => ⟨hk.1, hk.2.2.1⟩)) : P := h
theorem Z5.z27 {P : Prop} (h : P := by repeat (first | exact (Kd.R_reads' HO136.out).2.2 | (with_reducible refine Kd.C_alloc ?_ _) | (with_reducible refine Kd.C_drewN ?_ _) | (with_reducible refine Kd.C_drew ?_))) : P := h
theorem Z5.z26 {P : Prop} (h : P := by repeat (first | exact (Kd.R_reads' HO_123003.out).2.2 | (with_reducible refine Kd.C_alloc ?_ _) | (with_reducible refine Kd.C_drewN ?_ _) | (with_reducible refine Kd.C_drew ?_))) : P := h
theorem Z5.z25 {P : Prop} (h : P := by (with_reducible repeat (first | apply Kd.R_alloc | apply Kd.R_drewN | apply Kd.R_drew)); exact HO114.out) : P := h
theorem Z5.z24 {P : Prop} (h : P := by (try simp only [List.map_toArray, List.map_cons, List.map_nil]); first | done | (rw [show t148.length = t126.length from (Kd.R_reads' HO_10.out).1.symm] <;> rfl) | rfl | (simp only [List.length_drop, List.length_take]; rfl)) : P := h
theorem Z5.z23 {P : Prop} (h : P := by (with_reducible repeat (first | apply Kd.R_alloc | apply Kd.R_drewN | apply Kd.R_drew)); exact (Kd.R_mono (Kd.R_far (p := ⟨gb122, 3, none⟩) (Kd.R_far (p := ⟨gb122, 2, none⟩) (Kd.R_far (p := ⟨gb122, 1, none⟩) (Kd.R_far (p := ⟨gb122, 0, none⟩) (Kd.R_types HO108.out BK122.out (by decide)) (fun _ hk => hk.2) (.int .i64 t116)) (fun _ hk => hk.2) (.int .i64 t117)) (fun _ hk => hk.2) (.int .i64 t118)) (fun _ hk => hk.2) (.slice Ao31 t119.length co31)) (fun _ h_ => h_.1))) : P := h
theorem Z5.z22 {P : Prop} (h : P := by (with_reducible repeat (first | apply Kd.R_alloc | apply Kd.R_drewN | apply Kd.R_drew)); exact (Kd.R_mono (Kd.R_far (p := ⟨gb122, 3, none⟩) (Kd.R_far (p := ⟨gb122, 2, none⟩) (Kd.R_far (p := ⟨gb122, 1, none⟩) (Kd.R_far (p := ⟨gb122, 0, none⟩) (Kd.R_types HO111.out BK122.out (by decide)) (fun _ hk => hk.2) (.int .i64 t116)) (fun _ hk => hk.2) (.int .i64 t117)) (fun _ hk => hk.2) (.int .i64 t118)) (fun _ hk => hk.2) (.slice Ao31 t119.length co31)) (fun _ h_ => h_.1))) : P := h
theorem Z5.z21 {P : Prop} (h : P := by (with_reducible repeat (first | apply Kd.R_alloc | apply Kd.R_drewN | apply Kd.R_drew)); exact (Kd.R_mono (Kd.R_far (p := ⟨gb122, 3, none⟩) (Kd.R_far (p := ⟨gb122, 2, none⟩) (Kd.R_far (p := ⟨gb122, 1, none⟩) (Kd.R_far (p := ⟨gb122, 0, none⟩) (Kd.R_types HO114.out BK122.out (by decide)) (fun _ hk => hk.2) (.int .i64 t116)) (fun _ hk => hk.2) (.int .i64 t117)) (fun _ hk => hk.2) (.int .i64 t118)) (fun _ hk => hk.2) (.slice Ao31 t119.length co31)) (fun _ h_ => h_.1))) : P := h
theorem Z5.z20 {P : Prop} (h : P := by (with_reducible repeat (first | apply Kd.R_alloc | apply Kd.R_drewN | apply Kd.R_drew)); exact (Kd.R_mono (Kd.R_far (p := ⟨gb122, 3, none⟩) (Kd.R_far (p := ⟨gb122, 2, none⟩) (Kd.R_far (p := ⟨gb122, 1, none⟩) (Kd.R_far (p := ⟨gb122, 0, none⟩) (Kd.R_types HO121.out BK122.out (by decide)) (fun _ hk => hk.2) (.int .i64 t116)) (fun _ hk => hk.2) (.int .i64 t117)) (fun _ hk => hk.2) (.int .i64 t118)) (fun _ hk => hk.2) (.slice Ao31 t119.length co31)) (fun _ h_ => h_.1))) : P := h
theorem Z5.z19 {P : Prop} (h : P := by repeat (first | exact (Kd.R_reads' HO_6.out).2.2 | (with_reducible refine Kd.C_alloc ?_ _) | (with_reducible refine Kd.C_drewN ?_ _) | (with_reducible refine Kd.C_drew ?_))) : P := h
theorem Z5.z18 {P : Prop} (h : P := by repeat (first | exact (Kd.C_below HR1.out HB.out) | (with_reducible refine Kd.C_alloc ?_ _) | (with_reducible refine Kd.C_drewN ?_ _) | (with_reducible refine Kd.C_drew ?_))) : P := h
theorem Z5.z17 {P : Prop} (h : P := by (with_reducible repeat (first | apply Kd.R_alloc | apply Kd.R_drewN | apply Kd.R_drew)); exact HO111.out) : P := h
theorem Z5.z16 {P : Prop} (h : P := by (with_reducible repeat (first | apply Kd.R_alloc | apply Kd.R_drewN | apply Kd.R_drew)); exact HO136.out) : P := h
theorem Z5.z15 {P : Prop} (h : P := by (with_reducible repeat (first | apply Kd.R_alloc | apply Kd.R_drewN | apply Kd.R_drew)); exact HO108.out) : P := h
theorem Z5.z14 {P : Prop} (h : P := by simp only [Act.put, List.setIfInBounds_toArray, List.set_cons_zero, List.set_cons_succ, i64_w, i32_w]; rfl) : P := h
theorem Z5.z13 {P : Prop} (h : P := by first | rfl | (simp [errW_none, errW_some] <;> rfl) | (simp [*, errW_none, errW_some] <;> rfl)) : P := h
theorem Z5.z12 {P : Prop} (h : P := by repeat (first | (with_reducible first | exact HB.out | apply below_alloc | apply pw_below_drewN | apply below_drew1) | exact HB.out)) : P := h
theorem Z5.z11 {P : Prop} (h : P := by repeat (first | exact (Kd.C_below HR0_3.out HB.out) | (with_reducible refine Kd.C_alloc ?_ _) | (with_reducible refine Kd.C_drewN ?_ _) | (with_reducible refine Kd.C_drew ?_))) : P := h
theorem Z5.z10 {P : Prop} (h : P := by (with_reducible repeat (first | apply Kd.R_alloc | apply Kd.R_drewN | apply Kd.R_drew)); exact HO_9.out) : P := h
theorem Z5.z9 {P : Prop} (h : P := by repeat (first | exact (Kd.R_reads' HO_10.out).2.2 | (with_reducible refine Kd.C_alloc ?_ _) | (with_reducible refine Kd.C_drewN ?_ _) | (with_reducible refine Kd.C_drew ?_))) : P := h
theorem Z5.z8 {P : Prop} (h : P := by (with_reducible repeat (first | apply Kd.R_alloc | apply Kd.R_drewN | apply Kd.R_drew)); exact HO_6.out) : P := h
theorem Z5.z7 {P : Prop} (h : P := by (with_reducible repeat (first | apply Kd.R_alloc | apply Kd.R_drewN | apply Kd.R_drew)); exact HO_10.out) : P := h
theorem Z5.z6 {P : Prop} (h : P := by (with_reducible repeat (first | apply Kd.R_alloc | apply Kd.R_drewN | apply Kd.R_drew)); exact HO_123003.out) : P := h
theorem Z5.z5 {P : Prop} (h : P := by (with_reducible repeat (first | refine blk_drewN ?_ _ | refine blk_drew ?_ | refine blk_alloc ?_ _)); exact BK122.out) : P := h
theorem Z5.z4 {P : Prop} (h : P := by repeat (first | (with_reducible first | exact HB.out | apply below_alloc | apply pw_below_drewN | apply below_drew1 | refine below_set ?_ GE101.out) | exact HB.out)) : P := h
theorem Z5.z3 {P : Prop} (h : P := by exact ⟨(blk_cell BK122.out 0).trans rfl, (blk_cell BK122.out 1).trans rfl, (blk_cell BK122.out 2).trans rfl, (blk_cell BK122.out 3).trans rfl, (blk_cell BK101.out 0).trans rfl, (blk_cell BK101.out 1).trans rfl, (blk_cell BK101.out 2).trans rfl, (blk_cell BK101.out 3).trans rfl⟩) : P := h
theorem Z5.z2 {P : Prop} (h : P := by (with_reducible repeat (first | refine blk_drewN ?_ _ | refine blk_drew ?_ | refine blk_alloc ?_ _)); exact BK101.out) : P := h
theorem Z5.z1 {P : Prop} (h : P := by (try simp only [List.map_toArray, List.map_cons, List.map_nil]); first | done | rfl | (simp only [List.length_drop, List.length_take]; rfl)) : P := h
theorem Z5.z0 {P : Prop} (h : P := by repeat (first | (with_reducible first | exact HB.out | apply below_alloc | apply pw_below_drewN | apply below_drew1 | refine below_set ?_ GE101.out | refine below_set ?_ GE122.out) | exact HB.out)) : P := h
set_option maxHeartbeats 8000000 in
set_option maxRecDepth 100000 in
theorem laws_FnExactCertificate.calls (k : Nat) (a0_0 : Int) (a0_1 : Int) (a0_2 : Int) (A0_3 : Option Addr) (c0_3 : Nat) (l0_3 : List Int) (A1 : Option Addr) (c1 : Nat) (l1 : List Int) (r : Bool) (w : World) (hr0_3 : Kd.C (Kd.int .i64) w A0_3 l0_3.length l0_3) (hc0_3 : l0_3.length ≤ c0_3) (hr1 : Kd.C (Kd.int .i64) w A1 l1.length l1) (hc1 : l1.length ≤ c1) (h : laws_FnExactCertificate.f k a0_0 a0_1 a0_2 l0_3 l1 = some r) :
  Calls Try.prog 5 #[.agg #[.int .i64 a0_0, .int .i64 a0_1, .int .i64 a0_2, .slice A0_3 l0_3.length c0_3], .slice A1 l1.length c1] w fun e w' => e = .returned (.bool r) ∧ Below w.heap.size w w' := by
 have hu24 := Try.underlying24
 have hu28 := Try.underlying28
 have HR0_3 := Z5.k hr0_3
 have HC0_3 := Z5.k hc0_3
 clear hr0_3 hc0_3
 have HR1 := Z5.k hr1
 have HC1 := Z5.k hc1
 clear hr1 hc1
 have HB := Z5.k (Below.refl w.heap.size w)
 have H : (if (l1.length : Int) > 1048576 then (some true) else ((laws_szMatrix.f a0_0 a0_1 a0_2 l0_3 1048576).bind fun t102 => (if t102 < 0 then (some true) else ((laws_toMatrix.f k a0_0 a0_1 a0_2 l0_3).bind fun bt103 => ((laws_toInt64S.f k l1).bind fun t109 => ((spec_Certificate.f k bt103.1 bt103.2.1 bt103.2.2.1 bt103.2.2.2 t109).bind fun bt112 => ((laws_toMatrix.f k a0_0 a0_1 a0_2 l0_3).bind fun bt116 => ((laws_toInt64S.f k l1).bind fun t123 => ((impl_Certificate.f k bt116.1 bt116.2.1 bt116.2.2.1 bt116.2.2.2 t123).bind fun bt126 => ((laws_eqInt64S.f k bt126.1 bt112.1).bind fun t130 => (if t130 = true then (laws_FnExactCertificate.j0 k l1 bt112.1 bt112.2 t123 bt126.1 bt126.2 (bt126.2 != bt112.2) a0_0 a0_1 a0_2 l0_3 bt116.1 bt116.2.1 bt116.2.2.1 bt116.2.2.2) else (laws_FnExactCertificate.j0 k l1 bt112.1 bt112.2 t123 bt126.1 bt126.2 true a0_0 a0_1 a0_2 l0_3 bt116.1 bt116.2.1 bt116.2.2.1 bt116.2.2.2)))))))))))) = some r := h
 clear h
 by_cases c3 : (l1.length : Int) > 1048576
 ·rw [if_pos c3] at H
  have c3b0 : decide (1048576 < (l1.length : Int)) = true := decide_eq_true c3
  have c3b1 : decide (1048576 < l1.length) = true := decide_eq_true (by omega)
  clear c3
  obtain rfl := Option.some.inj H
  go_enter Try.func5, Try.ntmps5
  go_wp2_with (first | ((with_reducible refine gate_dst (N := 2) rfl ?_); refine box_event ?hg (N := 2) ?hd (cs := #[.int .i64 a0_0, .int .i64 a0_1, .int .i64 a0_2, .slice A0_3 l0_3.length c0_3]) (t := 24) ?hr ?_; (case hd => rfl); (case hg => rfl); (case hr => first | (go_simp; done) | (go_simp; rfl)); intro gb101 hg w4 hbox hb; have BK101 := Z5.k (hbox); have GW101 := Z5.k (show w.heap.size ≤ gb101 from (by rw [hg]; exact (below_size Z5.z12))); have GE101 := Z5.k (show w.heap.size ≤ gb101 from (by rw [hg]; exact (below_size Z5.z12))); replace HB := Z5.k (below_step Z5.z12 hb); clear hb hbox hg))
  go_ret
  exact ⟨Z5.z13, Z5.z4⟩
 rw [if_neg c3] at H
 have c3b0 : decide (1048576 < (l1.length : Int)) = false := decide_eq_false c3
 have c3b1 : decide (1048576 < l1.length) = false := decide_eq_false (by omega)
 clear c3
 replace H := Option.bind_eq_some_iff.mp H
 obtain ⟨t102, A50, H⟩ := H
 replace H : (if t102 < 0 then (some true) else ((laws_toMatrix.f k a0_0 a0_1 a0_2 l0_3).bind fun bt103 => ((laws_toInt64S.f k l1).bind fun t109 => ((spec_Certificate.f k bt103.1 bt103.2.1 bt103.2.2.1 bt103.2.2.2 t109).bind fun bt112 => ((laws_toMatrix.f k a0_0 a0_1 a0_2 l0_3).bind fun bt116 => ((laws_toInt64S.f k l1).bind fun t123 => ((impl_Certificate.f k bt116.1 bt116.2.1 bt116.2.2.1 bt116.2.2.2 t123).bind fun bt126 => ((laws_eqInt64S.f k bt126.1 bt112.1).bind fun t130 => (if t130 = true then (laws_FnExactCertificate.j0 k l1 bt112.1 bt112.2 t123 bt126.1 bt126.2 (bt126.2 != bt112.2) a0_0 a0_1 a0_2 l0_3 bt116.1 bt116.2.1 bt116.2.2.1 bt116.2.2.2) else (laws_FnExactCertificate.j0 k l1 bt112.1 bt112.2 t123 bt126.1 bt126.2 true a0_0 a0_1 a0_2 l0_3 bt116.1 bt116.2.1 bt116.2.2.1 bt116.2.2.2)))))))))) = some r := H
 have A5 := Z5.k A50
 clear A50
 by_cases c6 : t102 < 0
 ·rw [if_pos c6] at H
  have c6b0 : decide (t102 < 0) = true := decide_eq_true c6
  clear c6
  obtain rfl := Option.some.inj H
  go_enter Try.func5, Try.ntmps5
  go_wp2_with (first | ((with_reducible refine gate_dst (N := 2) rfl ?_); refine box_event ?hg (N := 2) ?hd (cs := #[.int .i64 a0_0, .int .i64 a0_1, .int .i64 a0_2, .slice A0_3 l0_3.length c0_3]) (t := 24) ?hr ?_; (case hd => rfl); (case hg => rfl); (case hr => first | (go_simp; done) | (go_simp; rfl)); intro gb101 hg w7 hbox hb; have BK101 := Z5.k (hbox); have GW101 := Z5.k (show w.heap.size ≤ gb101 from (by rw [hg]; exact (below_size Z5.z12))); have GE101 := Z5.k (show w.heap.size ≤ gb101 from (by rw [hg]; exact (below_size Z5.z12))); replace HB := Z5.k (below_step Z5.z12 hb); clear hb hbox hg; obtain ⟨hcz8_0, hcz8_1, hcz8_2, hcz8_3, hfz8_0, hfz8_1, hfz8_2, hfz8_3⟩ := cells4 BK101.out) | ((with_reducible refine gate_callee (f := 7) rfl ?_); refine goesL_ (some 22) rfl rfl Try.func7 (by kernel_rfl) rfl #[.agg #[.int .i64 a0_0, .int .i64 a0_1, .int .i64 a0_2, .slice A0_3 l0_3.length c0_3], .int .i64 1048576] rfl Z5.z1 ?_; (with_reducible refine (laws_szMatrix.calls a0_0 a0_1 a0_2 _ _ l0_3 1048576 t102 _ ?side1 ?side2 A5.out).mono ?_); (case side1 => exact Z5.z11); (case side2 => exact HC0_3.out); rintro e w9 ⟨rfl, hb⟩; refine ⟨_, rfl, ?_⟩; replace BK101 := Z5.k (Z5.bb BK101 Z5.z2 hb); replace HB := Z5.k (below_step Z5.z4 hb); (try clear hb); (try clear hb2); (try clear hk); (try clear hi)))
  go_ret
  exact ⟨Z5.z13, Z5.z4⟩
 rw [if_neg c6] at H
 have c6b0 : decide (t102 < 0) = false := decide_eq_false c6
 clear c6
 replace H := Option.bind_eq_some_iff.mp H
 obtain ⟨⟨t103, t104, t105, t106⟩, A100, H⟩ := H
 (try dsimp only at H)
 have A10 := Z5.k A100
 clear A100
 replace H := Option.bind_eq_some_iff.mp H
 obtain ⟨t109, A110, H⟩ := H
 (try dsimp only at H)
 have A11 := Z5.k A110
 clear A110
 replace H := Option.bind_eq_some_iff.mp H
 obtain ⟨⟨t112, t115⟩, A120, H⟩ := H
 (try dsimp only at H)
 have A12 := Z5.k A120
 clear A120
 replace H := Option.bind_eq_some_iff.mp H
 obtain ⟨⟨t116, t117, t118, t119⟩, A130, H⟩ := H
 (try dsimp only at H)
 have A13 := Z5.k A130
 clear A130
 replace H := Option.bind_eq_some_iff.mp H
 obtain ⟨t123, A140, H⟩ := H
 (try dsimp only at H)
 have A14 := Z5.k A140
 clear A140
 replace H := Option.bind_eq_some_iff.mp H
 obtain ⟨⟨t126, t129⟩, A150, H⟩ := H
 (try dsimp only at H)
 have A15 := Z5.k A150
 clear A150
 have HC16 := Z5.k H
 clear H
 go_enter Try.func5, Try.ntmps5
 go_upto_region 11 with (first | ((with_reducible refine gate_dst (N := 2) rfl ?_); refine box_event ?hg (N := 2) ?hd (cs := #[.int .i64 a0_0, .int .i64 a0_1, .int .i64 a0_2, .slice A0_3 l0_3.length c0_3]) (t := 24) ?hr ?_; (case hd => rfl); (case hg => rfl); (case hr => first | (go_simp; done) | (go_simp; rfl)); intro gb101 hg w17 hbox hb; have BK101 := Z5.k (hbox); have GW101 := Z5.k (show w.heap.size ≤ gb101 from (by rw [hg]; exact (below_size Z5.z12))); have GE101 := Z5.k (show w.heap.size ≤ gb101 from (by rw [hg]; exact (below_size Z5.z12))); replace HB := Z5.k (below_step Z5.z12 hb); clear hb hbox hg; obtain ⟨hcz18_0, hcz18_1, hcz18_2, hcz18_3, hfz18_0, hfz18_1, hfz18_2, hfz18_3⟩ := cells4 BK101.out) | ((with_reducible refine gate_callee (f := 7) rfl ?_); refine goesL_ (some 22) rfl rfl Try.func7 (by kernel_rfl) rfl #[.agg #[.int .i64 a0_0, .int .i64 a0_1, .int .i64 a0_2, .slice A0_3 l0_3.length c0_3], .int .i64 1048576] rfl Z5.z1 ?_; (with_reducible refine (laws_szMatrix.calls a0_0 a0_1 a0_2 _ _ l0_3 1048576 t102 _ ?side1 ?side2 A5.out).mono ?_); (case side1 => exact Z5.z11); (case side2 => exact HC0_3.out); rintro e w19 ⟨rfl, hb⟩; refine ⟨_, rfl, ?_⟩; replace BK101 := Z5.k (Z5.bb BK101 Z5.z2 hb); replace HB := Z5.k (below_step Z5.z4 hb); (try clear hb); (try clear hb2); (try clear hk); (try clear hi); obtain ⟨hcz20_0, hcz20_1, hcz20_2, hcz20_3, hfz20_0, hfz20_1, hfz20_2, hfz20_3⟩ := cells4 BK101.out) | ((with_reducible refine gate_callee (f := 9) rfl ?_); refine goesL_ (some 27) rfl rfl Try.func9 (by kernel_rfl) rfl #[.agg #[.int .i64 a0_0, .int .i64 a0_1, .int .i64 a0_2, .slice A0_3 l0_3.length c0_3]] rfl Z5.z1 ?_; (with_reducible refine (laws_toMatrix.calls k a0_0 a0_1 a0_2 _ _ l0_3 t103 t104 t105 t106 _ ?side1 ?side2 A10.out).mono ?_); (case side1 => exact Z5.z11); (case side2 => exact HC0_3.out); rintro e w21 ⟨v107, rfl, ho0, hb⟩; refine ⟨_, rfl, ?_⟩; have HO108 := Z5.k (Kd.R_lower ho0 (below_size Z5.z4)); replace BK101 := Z5.k (Z5.bb BK101 Z5.z2 hb); replace HB := Z5.k (below_step Z5.z4 hb); (try clear hb); (try clear hb2); (try clear hk); (try clear hi); (try clear ho0)) | ((with_reducible refine gate_callee (f := 10) rfl ?_); refine goesL_ (some 29) rfl rfl Try.func10 (by kernel_rfl) rfl #[.slice A1 l1.length c1] rfl Z5.z1 ?_; (with_reducible refine (laws_toInt64S.calls k _ _ l1 t109 _ ?side1 ?side2 A11.out).mono ?_); (case side1 => exact Z5.z18); (case side2 => exact HC1.out); rintro e w22 ⟨v110, rfl, ho0, hb⟩; refine ⟨_, rfl, ?_⟩; have HO111 := Z5.k (Kd.R_lower (Kd.R_new' ho0 (Kd.R_lt Z5.z15)) (below_size Z5.z4)); replace HO108 := Z5.k (Kd.R_elder' Z5.z15 (Kd.R_base ho0) hb); replace BK101 := Z5.k (Z5.bb BK101 Z5.z2 hb); replace HB := Z5.k (below_step Z5.z4 hb); (try clear hb); (try clear hb2); (try clear hk); (try clear hi); (try clear ho0); obtain ⟨Ao23, co23, eo23⟩ := Kd.R_slice HO108.out; subst eo23; obtain ⟨Ao24, co24, eo24⟩ := Kd.R_slice HO111.out; subst eo24) | ((with_reducible refine gate_callee (f := 22) rfl ?_); refine goesL_ (some 30) rfl rfl Try.func22 (by kernel_rfl) rfl #[.agg #[.int .i64 t103, .int .i64 t104, .int .i64 t105, .slice Ao23 t106.length co23], .slice Ao24 t109.length co24] rfl Z5.z1 ?_; (with_reducible refine (spec_Certificate.calls k t103 t104 t105 _ _ t106 _ _ t109 t112 t115 _ ?side1 ?side2 ?side3 ?side4 A12.out).mono ?_); (case side1 => exact (by repeat (first | exact (Kd.R_reads' HO108.out).2.2 | (with_reducible refine Kd.C_alloc ?_ _) | (with_reducible refine Kd.C_drewN ?_ _) | (with_reducible refine Kd.C_drew ?_)))); (case side2 => exact (Kd.R_reads' HO108.out).2.1); (case side3 => exact (by repeat (first | exact (Kd.R_reads' HO111.out).2.2 | (with_reducible refine Kd.C_alloc ?_ _) | (with_reducible refine Kd.C_drewN ?_ _) | (with_reducible refine Kd.C_drew ?_)))); (case side4 => exact (Kd.R_reads' HO111.out).2.1); rintro e w25 ⟨v113, rfl, ho0, hb⟩; refine ⟨_, rfl, ?_⟩; have HO114 := Z5.k (Kd.R_lower (Kd.R_new' (Kd.R_new' ho0 (Kd.R_lt Z5.z15)) (Kd.R_lt Z5.z17)) (below_size Z5.z4)); replace HO108 := Z5.k (Kd.R_elder' Z5.z15 (Kd.R_base ho0) hb); replace HO111 := Z5.k (Kd.R_elder' Z5.z17 (Kd.R_base ho0) hb); replace BK101 := Z5.k (Z5.bb BK101 Z5.z2 hb); replace HB := Z5.k (below_step Z5.z4 hb); (try clear hb); (try clear hb2); (try clear hk); (try clear hi); (try clear ho0); obtain ⟨hcz26_0, hcz26_1, hcz26_2, hcz26_3, hfz26_0, hfz26_1, hfz26_2, hfz26_3⟩ := cells4 BK101.out) | ((with_reducible refine gate_callee (f := 9) rfl ?_); refine goesL_ (some 34) rfl rfl Try.func9 (by kernel_rfl) rfl #[.agg #[.int .i64 a0_0, .int .i64 a0_1, .int .i64 a0_2, .slice A0_3 l0_3.length c0_3]] rfl Z5.z1 ?_; (with_reducible refine (laws_toMatrix.calls k a0_0 a0_1 a0_2 _ _ l0_3 t116 t117 t118 t119 _ ?side1 ?side2 A13.out).mono ?_); (case side1 => exact Z5.z11); (case side2 => exact HC0_3.out); rintro e w27 ⟨v120, rfl, ho0, hb⟩; refine ⟨_, rfl, ?_⟩; have HO121 := Z5.k (Kd.R_lower (Kd.R_new' (Kd.R_new' (Kd.R_new' ho0 (Kd.R_lt Z5.z15)) (Kd.R_lt Z5.z17)) (Kd.R_lt Z5.z25)) (below_size Z5.z4)); replace HO108 := Z5.k (Kd.R_elder' Z5.z15 (Kd.R_base ho0) hb); replace HO111 := Z5.k (Kd.R_elder' Z5.z17 (Kd.R_base ho0) hb); replace HO114 := Z5.k (Kd.R_elder' Z5.z25 (Kd.R_base ho0) hb); replace BK101 := Z5.k (Z5.bb BK101 Z5.z2 hb); replace HB := Z5.k (below_step Z5.z4 hb); (try clear hb); (try clear hb2); (try clear hk); (try clear hi); (try clear ho0)) | ((with_reducible refine gate_dst (N := 8) rfl ?_); refine box_event ?hg (N := 8) ?hd (cs := #[.int .i64 0, .int .i64 0, .int .i64 0, .slice none 0 0]) (t := 28) ?hr ?_; (case hd => rfl); (case hg => rfl); (case hr => first | (go_simp; done) | (go_simp; rfl)); intro gb122 hg w28 hbox hb; have BK122 := Z5.k (hbox); have GW122 := Z5.k (show w.heap.size ≤ gb122 from (by rw [hg]; exact (below_size Z5.z4))); have GE122 := Z5.k (show w.heap.size ≤ gb122 from (by rw [hg]; exact (below_size Z5.z4))); have NB101_122 := Z5.k (show gb101 ≠ gb122 from (by rw [hg]; exact Nat.ne_of_lt (Z5.bl BK101 Z5.z2))); have NB122_101 := Z5.k (show gb122 ≠ gb101 from (by rw [hg]; exact Nat.ne_of_gt (Z5.bl BK101 Z5.z2))); replace HO108 := Z5.k (Kd.R_below Z5.z15 hb); replace HO111 := Z5.k (Kd.R_below Z5.z17 hb); replace HO114 := Z5.k (Kd.R_below Z5.z25 hb); replace HO121 := Z5.k (Kd.R_below Z5.z33 hb); replace BK101 := Z5.k (Z5.bb BK101 Z5.z2 hb); replace HB := Z5.k (below_step Z5.z4 hb); clear hb hbox hg; have hnb29 := NB122_101.out; have hnc29 := NB101_122.out; obtain ⟨hcz30_0, hcz30_1, hcz30_2, hcz30_3, hfz30_0, hfz30_1, hfz30_2, hfz30_3⟩ := cells4 BK122.out; obtain ⟨Ao31, co31, eo31⟩ := Kd.R_slice HO121.out; subst eo31) | ((with_reducible refine gate_callee (f := 10) rfl ?_); refine goesL_ (some 36) rfl rfl Try.func10 (by kernel_rfl) rfl #[.slice A1 l1.length c1] rfl Z5.z1 ?_; (with_reducible refine (laws_toInt64S.calls k _ _ l1 t123 _ ?side1 ?side2 A14.out).mono ?_); (case side1 => exact (by exact Kd.C_below HR1.out Z5.z0)); (case side2 => exact HC1.out); rintro e w32 ⟨v124, rfl, ho0, hb⟩; refine ⟨_, rfl, ?_⟩; have HO125 := Z5.k (Kd.R_lower (Kd.R_new' (Kd.R_new' (Kd.R_new' (Kd.R_new' ho0 (Kd.R_lt Z5.z23)) (Kd.R_lt Z5.z22)) (Kd.R_lt Z5.z21)) (Kd.R_lt Z5.z20)) (below_size Z5.z0)); replace HO108 := Z5.k (Kd.R_elder' Z5.z23 (Kd.R_base ho0) hb); replace HO111 := Z5.k (Kd.R_elder' Z5.z22 (Kd.R_base ho0) hb); replace HO114 := Z5.k (Kd.R_elder' Z5.z21 (Kd.R_base ho0) hb); replace HO121 := Z5.k (Kd.R_elder' Z5.z20 (Kd.R_base ho0) hb); replace BK101 := Z5.k (Z5.bb BK101 (by (repeat (first | (with_reducible first | refine blk_drewN ?_ _ | refine blk_drew ?_ | refine blk_alloc ?_ _) | refine blk_far ?_ NB101_122.out _)); exact BK101.out) hb); replace BK122 := Z5.k (blk_below (g := gb122) (o := .cells #[.int .i64 t116, .int .i64 t117, .int .i64 t118, .slice Ao31 t119.length co31] 28 (0, 0)) (by (with_reducible repeat (first | refine blk_drewN ?_ _ | refine blk_drew ?_ | refine blk_alloc ?_ _)); refine blk_put (cs := #[.int .i64 t116, .int .i64 t117, .int .i64 t118, .slice none 0 0]) ?_ 3 _ rfl; (with_reducible repeat (first | refine blk_drewN ?_ _ | refine blk_drew ?_ | refine blk_alloc ?_ _)); refine blk_put (cs := #[.int .i64 t116, .int .i64 t117, .int .i64 0, .slice none 0 0]) ?_ 2 _ rfl; (with_reducible repeat (first | refine blk_drewN ?_ _ | refine blk_drew ?_ | refine blk_alloc ?_ _)); refine blk_put (cs := #[.int .i64 t116, .int .i64 0, .int .i64 0, .slice none 0 0]) ?_ 1 _ rfl; (with_reducible repeat (first | refine blk_drewN ?_ _ | refine blk_drew ?_ | refine blk_alloc ?_ _)); refine blk_put (cs := #[.int .i64 0, .int .i64 0, .int .i64 0, .slice none 0 0]) ?_ 0 _ rfl; (with_reducible repeat (first | refine blk_drewN ?_ _ | refine blk_drew ?_ | refine blk_alloc ?_ _)); exact BK122.out) hb); replace HB := Z5.k (below_step Z5.z0 hb); (try clear hb); (try clear hb2); (try clear hk); (try clear hi); (try clear ho0); obtain ⟨hcz33_0, hcz33_1, hcz33_2, hcz33_3, hfz33_0, hfz33_1, hfz33_2, hfz33_3⟩ := cells4 BK122.out; obtain ⟨Ao34, co34, eo34⟩ := Kd.R_slice HO125.out; subst eo34) | ((with_reducible refine gate_callee (f := 23) rfl ?_); refine goesL_ (some 40) rfl rfl Try.func23 (by kernel_rfl) rfl #[.agg #[.int .i64 t116, .int .i64 t117, .int .i64 t118, .slice Ao31 t119.length co31], .slice Ao34 t123.length co34] rfl Z5.z1 ?_; (with_reducible refine (impl_Certificate.calls k t116 t117 t118 _ _ t119 _ _ t123 t126 t129 _ ?side1 ?side2 ?side3 ?side4 A15.out).mono ?_); (case side1 => exact (by repeat (first | exact (Kd.R_reads' HO121.out).2.2 | (with_reducible refine Kd.C_alloc ?_ _) | (with_reducible refine Kd.C_drewN ?_ _) | (with_reducible refine Kd.C_drew ?_)))); (case side2 => exact (Kd.R_reads' HO121.out).2.1); (case side3 => exact (by repeat (first | exact (Kd.R_reads' HO125.out).2.2 | (with_reducible refine Kd.C_alloc ?_ _) | (with_reducible refine Kd.C_drewN ?_ _) | (with_reducible refine Kd.C_drew ?_)))); (case side4 => exact (Kd.R_reads' HO125.out).2.1); rintro e w35 ⟨v127, rfl, ho0, hb⟩; refine ⟨_, rfl, ?_⟩; have HO128 := Z5.k (Kd.R_lower (Kd.R_new' (Kd.R_new' (Kd.R_new' (Kd.R_new' (Kd.R_new' ho0 (Kd.R_lt Z5.z15)) (Kd.R_lt Z5.z17)) (Kd.R_lt Z5.z25)) (Kd.R_lt Z5.z33)) (Kd.R_lt (by (with_reducible repeat (first | apply Kd.R_alloc | apply Kd.R_drewN | apply Kd.R_drew)); exact HO125.out))) (below_size Z5.z0)); replace HO108 := Z5.k (Kd.R_elder' Z5.z15 (Kd.R_base ho0) hb); replace HO111 := Z5.k (Kd.R_elder' Z5.z17 (Kd.R_base ho0) hb); replace HO114 := Z5.k (Kd.R_elder' Z5.z25 (Kd.R_base ho0) hb); replace HO121 := Z5.k (Kd.R_elder' Z5.z33 (Kd.R_base ho0) hb); replace HO125 := Z5.k (Kd.R_elder' (by (with_reducible repeat (first | apply Kd.R_alloc | apply Kd.R_drewN | apply Kd.R_drew)); exact HO125.out) (Kd.R_base ho0) hb); replace BK101 := Z5.k (Z5.bb BK101 Z5.z2 hb); replace BK122 := Z5.k (Z5.bb BK122 Z5.z5 hb); replace HB := Z5.k (below_step Z5.z0 hb); (try clear hb); (try clear hb2); (try clear hk); (try clear hi); (try clear ho0)))
 (try simp only [Act.put, List.setIfInBounds_toArray, List.set_cons_zero, List.set_cons_succ])
 go_cut [51] (fun v51 wc => ∃ (kq : Nat) (x51_15 : Bool), v51 = .bool x51_15 ∧ Aside0 (laws_FnExactCertificate.j0 kq l1 t112 t115 t123 t126 t129 x51_15 a0_0 a0_1 a0_2 l0_3 t116 t117 t118 t119 = some r) ∧ Aside0 (kq ≤ k) ∧ Aside0 (Kd.R (Kd.int .i64) 2 wc w.heap.size (fun k_ => some k_ ≠ ((.slice Ao34 t123.length co34) : Value).ownBlock ∧ some k_ ≠ (v127 : Value).ownBlock ∧ some k_ ≠ ((.slice Ao31 t119.length co31) : Value).ownBlock) v113 t112) ∧ Aside0 (Kd.R (Kd.int .i64) 2 wc w.heap.size (fun k_ => some k_ ≠ (v113 : Value).ownBlock ∧ some k_ ≠ (v127 : Value).ownBlock ∧ some k_ ≠ ((.slice Ao31 t119.length co31) : Value).ownBlock) (.slice Ao34 t123.length co34) t123) ∧ Aside0 (Kd.R (Kd.int .i64) 2 wc w.heap.size (fun k_ => some k_ ≠ (v113 : Value).ownBlock ∧ some k_ ≠ ((.slice Ao34 t123.length co34) : Value).ownBlock ∧ some k_ ≠ ((.slice Ao31 t119.length co31) : Value).ownBlock) v127 t126) ∧ Aside0 (Kd.R (Kd.int .i64) 2 wc w.heap.size (fun k_ => some k_ ≠ (v113 : Value).ownBlock ∧ some k_ ≠ ((.slice Ao34 t123.length co34) : Value).ownBlock ∧ some k_ ≠ (v127 : Value).ownBlock) (.slice Ao31 t119.length co31) t119) ∧ Aside0 (wc.heap[gb101]? = some (.cells #[.int .i64 a0_0, .int .i64 a0_1, .int .i64 a0_2, (.slice A0_3 l0_3.length c0_3)] 24 (0, 0))) ∧ Aside0 (wc.heap[gb122]? = some (.cells #[.int .i64 t116, .int .i64 t117, .int .i64 t118, (.slice Ao31 t119.length co31)] 28 (0, 0))) ∧ Aside0 (Below w.heap.size w wc))
 case first =>
  have H := HC16.out
  clear HC16
  replace H := Option.bind_eq_some_iff.mp H
  obtain ⟨t130, A360, H⟩ := H
  (try dsimp only at H)
  have A36 := Z5.k A360
  clear A360
  by_cases c37 : t130 = true
  ·subst c37
   rw [if_pos rfl] at H
   have H' := Z5.k H
   clear H
   obtain ⟨Ao38, co38, eo38⟩ := Kd.R_slice HO128.out
   subst eo38
   obtain ⟨Ao39, co39, eo39⟩ := Kd.R_slice HO114.out
   subst eo39
   go_wp2_with (first | ((with_reducible refine gate_callee (f := 12) rfl ?_); refine goesL_ (some 45) rfl rfl Try.func12 (by kernel_rfl) rfl #[.slice Ao38 t126.length co38, .slice Ao39 t112.length co39] rfl Z5.z1 ?_; (with_reducible refine (laws_eqInt64S.calls k _ _ t126 _ _ t112 true _ ?side1 ?side2 ?side3 ?side4 A36.out).mono ?_); (case side1 => exact Z5.z37); (case side2 => exact (Kd.R_reads' HO128.out).2.1); (case side3 => exact Z5.z38); (case side4 => exact (Kd.R_reads' HO114.out).2.1); rintro e w' ⟨rfl, ⟨nd, rfl⟩⟩; refine ⟨_, rfl, ?_⟩))
   go_meet
   case rel => exact ⟨_, ((t129 != t115)), Z5.z45, H', ⟨(by first | omega | exact Nat.le_refl _)⟩, ⟨Z5.z44⟩, ⟨Z5.z42⟩, ⟨Z5.z41⟩, ⟨Z5.z43⟩, ⟨Z5.z2⟩, ⟨Z5.z5⟩, ⟨Z5.z0⟩⟩
  replace c37 := Bool.eq_false_iff.mpr c37
  subst c37
  rw [if_neg (show ¬ (false = true) by decide)] at H
  have H' := Z5.k H
  clear H
  obtain ⟨Ao40, co40, eo40⟩ := Kd.R_slice HO128.out
  subst eo40
  obtain ⟨Ao41, co41, eo41⟩ := Kd.R_slice HO114.out
  subst eo41
  go_wp2_with (first | ((with_reducible refine gate_callee (f := 12) rfl ?_); refine goesL_ (some 45) rfl rfl Try.func12 (by kernel_rfl) rfl #[.slice Ao40 t126.length co40, .slice Ao41 t112.length co41] rfl Z5.z1 ?_; (with_reducible refine (laws_eqInt64S.calls k _ _ t126 _ _ t112 false _ ?side1 ?side2 ?side3 ?side4 A36.out).mono ?_); (case side1 => exact Z5.z37); (case side2 => exact (Kd.R_reads' HO128.out).2.1); (case side3 => exact Z5.z38); (case side4 => exact (Kd.R_reads' HO114.out).2.1); rintro e w' ⟨rfl, ⟨nd, rfl⟩⟩; refine ⟨_, rfl, ?_⟩))
  go_meet
  case rel => exact ⟨_, (true), Z5.z45, H', ⟨(by first | omega | exact Nat.le_refl _)⟩, ⟨Z5.z44⟩, ⟨Z5.z42⟩, ⟨Z5.z41⟩, ⟨Z5.z43⟩, ⟨Z5.z2⟩, ⟨Z5.z5⟩, ⟨Z5.z0⟩⟩
 case rest =>
  clear HC16
  try clear c1
  try clear c2
  try clear p2
  try clear c3
  try clear c3b0
  try clear c3b1
  try clear c5
  try clear c6
  try clear c6b0
  try clear c7
  try clear c9
  try clear c10
  try clear c12
  try clear c22
  try clear c23
  try clear c29
  try clear c37
  try clear hcz18_0
  try clear hcz18_1
  try clear hcz18_2
  try clear hcz18_3
  try clear hcz20_0
  try clear hcz20_1
  try clear hcz20_2
  try clear hcz20_3
  try clear hcz26_0
  try clear hcz26_1
  try clear hcz26_2
  try clear hcz26_3
  try clear hcz30_0
  try clear hcz30_1
  try clear hcz30_2
  try clear hcz30_3
  try clear hcz33_0
  try clear hcz33_1
  try clear hcz33_2
  try clear hcz33_3
  try clear hcz8_0
  try clear hcz8_1
  try clear hcz8_2
  try clear hcz8_3
  try clear hfz18_0
  try clear hfz18_1
  try clear hfz18_2
  try clear hfz18_3
  try clear hfz20_0
  try clear hfz20_1
  try clear hfz20_2
  try clear hfz20_3
  try clear hfz26_0
  try clear hfz26_1
  try clear hfz26_2
  try clear hfz26_3
  try clear hfz30_0
  try clear hfz30_1
  try clear hfz30_2
  try clear hfz30_3
  try clear hfz33_0
  try clear hfz33_1
  try clear hfz33_2
  try clear hfz33_3
  try clear hfz8_0
  try clear hfz8_1
  try clear hfz8_2
  try clear hfz8_3
  obtain ⟨kq, x51_15, rfl, HA, HJ15, HO_6, HO_9, HO_10, HO_123003, BK101, BK122, HB⟩ := hcut
  cases kq with
  | zero => exact absurd HA.out (by simp [laws_FnExactCertificate.j0])
  | succ kj15 =>
   have H := HA.out
   clear HA
   simp only [laws_FnExactCertificate.j0] at H
   by_cases c42 : x51_15 = true
   ·subst c42
    rw [if_pos rfl] at H
    obtain rfl := Option.some.inj H
    go_wp2
    go_ret
    exact ⟨Z5.z13, Z5.z0⟩
   replace c42 := Bool.eq_false_iff.mpr c42
   subst c42
   rw [if_neg (show ¬ (false = true) by decide)] at H
   replace H := Option.bind_eq_some_iff.mp H
   obtain ⟨⟨t131, t132, t133, t134⟩, A430, H⟩ := H
   (try dsimp only at H)
   have A43 := Z5.k A430
   clear A430
   replace H := Option.bind_eq_some_iff.mp H
   obtain ⟨t137, A440, H⟩ := H
   (try dsimp only at H)
   have A44 := Z5.k A440
   clear A440
   by_cases c45 : t137 = true
   ·subst c45
    rw [if_pos rfl] at H
    replace H := Option.bind_eq_some_iff.mp H
    obtain ⟨t138, A460, H⟩ := H
    (try dsimp only at H)
    have A46 := Z5.k A460
    clear A460
    replace H := Option.bind_eq_some_iff.mp H
    obtain ⟨t141, A470, H⟩ := H
    (try dsimp only at H)
    have A47 := Z5.k A470
    clear A470
    by_cases c48 : t141 = true
    ·subst c48
     rw [if_pos rfl] at H
     replace H := Option.bind_eq_some_iff.mp H
     obtain ⟨⟨t142, t143⟩, A490, H⟩ := H
     (try dsimp only at H)
     have A49 := Z5.k A490
     clear A490
     replace H := Option.bind_eq_some_iff.mp H
     obtain ⟨⟨t144, t145⟩, A500, H⟩ := H
     (try dsimp only at H)
     have A50 := Z5.k A500
     clear A500
     have HC51 := Z5.k H
     clear H
     try go_wp2
     replace HO_6 := Z5.k (Kd.R_drew HO_6.out)
     replace HO_9 := Z5.k (Kd.R_drew HO_9.out)
     replace HO_10 := Z5.k (Kd.R_drew HO_10.out)
     replace HO_123003 := Z5.k (Kd.R_drew HO_123003.out)
     replace BK101 := Z5.k (blk_drew BK101.out)
     replace BK122 := Z5.k (blk_drew BK122.out)
     replace HB := Z5.k (below_drew1 HB.out)
     refine start_ (n := 5) (S := fun w' => w'.cell? ⟨gb122, 0, none⟩ = some (.int .i64 t116) ∧ w'.cell? ⟨gb122, 1, none⟩ = some (.int .i64 t117) ∧ w'.cell? ⟨gb122, 2, none⟩ = some (.int .i64 t118) ∧ w'.cell? ⟨gb122, 3, none⟩ = some (.slice Ao31 t119.length co31) ∧ w'.cell? ⟨gb101, 0, none⟩ = some (.int .i64 a0_0) ∧ w'.cell? ⟨gb101, 1, none⟩ = some (.int .i64 a0_1) ∧ w'.cell? ⟨gb101, 2, none⟩ = some (.int .i64 a0_2) ∧ w'.cell? ⟨gb101, 3, none⟩ = some (.slice A0_3 l0_3.length c0_3)) (ds := []) #[false, false, false, false, false] (by kernel_rfl) rfl rfl Z5.z3 (fun hHeld => ?_)
     generalize wc.drew = w52 at HO_6 HO_9 HO_10 HO_123003 BK101 BK122 HB hHeld ⊢
     refine Z5.pT8 0 52 (Z5.b 5 1) (by kernel_rfl) hHeld ?_
     refine Z5.pT8 1 53 (Z5.b 5 3) (by kernel_rfl) hHeld ?_
     refine one_ (i := 2) (N := some 54) (Z5.b 5 7) rfl rfl (by kernel_rfl) (by decide) (fun K hK => ?_)
     refine goes_ Try.func9 (by kernel_rfl) rfl #[.agg #[.int .i64 a0_0, .int .i64 a0_1, .int .i64 a0_2, .slice A0_3 l0_3.length c0_3]] (by rfl) rfl rfl Z5.z1 ?_
     with_reducible refine (laws_toMatrix.calls kj15 a0_0 a0_1 a0_2 _ _ l0_3 t131 t132 t133 t134 _ ?side1 ?side2 A43.out).mono ?_
     (case side1 => exact Z5.z11)
     (case side2 => exact HC0_3.out)
     rintro e w53 ⟨v135, rfl, ho0, hb⟩
     refine ⟨_, rfl, ?_⟩
     have HO136 := Z5.k (Kd.R_lower (Kd.R_new' (Kd.R_new' (Kd.R_new' (Kd.R_new' ho0 (Kd.R_lt Z5.z8)) (Kd.R_lt Z5.z10)) (Kd.R_lt Z5.z7)) (Kd.R_lt Z5.z6)) (below_size Z5.z0))
     replace HO_6 := Z5.k (Kd.R_elder' Z5.z8 (Kd.R_base ho0) hb)
     replace HO_9 := Z5.k (Kd.R_elder' Z5.z10 (Kd.R_base ho0) hb)
     replace HO_10 := Z5.k (Kd.R_elder' Z5.z7 (Kd.R_base ho0) hb)
     replace HO_123003 := Z5.k (Kd.R_elder' Z5.z6 (Kd.R_base ho0) hb)
     replace BK101 := Z5.k (Z5.bb BK101 Z5.z2 hb)
     replace BK122 := Z5.k (Z5.bb BK122 Z5.z5 hb)
     replace HB := Z5.k (below_step Z5.z0 hb)
     (try clear hb)
     (try clear hb2)
     (try clear hk)
     (try clear hi)
     (try clear ho0)
     obtain ⟨Ao54, co54, eo54⟩ := Kd.R_slice HO136.out
     (first | subst eo54 | (injection eo54 with f1_ f2_ f3_; have f4_ := f1_.symm; have f5_ := f3_.symm; clear f1_ f2_ f3_; subst f4_; subst f5_))
     refine hK.out _ _ Z5.z3 (fun hHeld => ?_)
     clear hK K
     refine norm_ (a' := ?_) ?_ ?_
     rotate_left
     ·show Act.put _ (some 54) _ = _
      simp only [Act.put, List.setIfInBounds_toArray, List.set_cons_zero, List.set_cons_succ, i64_w, i32_w]
      rfl
     refine one_ (i := 3) (N := some 55) (Z5.b 5 15) rfl rfl (by kernel_rfl) (by decide) (fun K hK => ?_)
     refine goes_ Try.func13 (by kernel_rfl) rfl #[.agg #[.int .i64 t116, .int .i64 t117, .int .i64 t118, .slice Ao31 t119.length co31], .agg #[.int .i64 t131, .int .i64 t132, .int .i64 t133, .slice Ao54 t134.length co54]] (by rfl) rfl rfl Z5.z1 ?_
     with_reducible refine (laws_eqMatrix.calls kj15 t116 t117 t118 _ _ t119 t131 t132 t133 _ _ t134 true _ ?side1 ?side2 ?side3 ?side4 A44.out).mono ?_
     (case side1 => exact Z5.z26)
     (case side2 => exact (Kd.R_reads' HO_123003.out).2.1)
     (case side3 => exact Z5.z27)
     (case side4 => exact (Kd.R_reads' HO136.out).2.1)
     rintro e w55 ⟨rfl, hb⟩
     refine ⟨_, rfl, ?_⟩
     replace HO_6 := Z5.k (Kd.R_below Z5.z8 hb)
     replace HO_9 := Z5.k (Kd.R_below Z5.z10 hb)
     replace HO_10 := Z5.k (Kd.R_below Z5.z7 hb)
     replace HO_123003 := Z5.k (Kd.R_below Z5.z6 hb)
     replace HO136 := Z5.k (Kd.R_below Z5.z16 hb)
     replace BK101 := Z5.k (Z5.bb BK101 Z5.z2 hb)
     replace BK122 := Z5.k (Z5.bb BK122 Z5.z5 hb)
     replace HB := Z5.k (below_step Z5.z0 hb)
     (try clear hb)
     (try clear hb2)
     (try clear hk)
     (try clear hi)
     refine hK.out _ _ Z5.z3 (fun hHeld => ?_)
     clear hK K
     refine norm_ (a' := ?_) ?_ ?_
     rotate_left
     ·show Act.put _ (some 55) _ = _
      simp only [Act.put, List.setIfInBounds_toArray, List.set_cons_zero, List.set_cons_succ, i64_w, i32_w]
      rfl
     refine Z5.pP 4 56 (Z5.b 5 31) (by kernel_rfl) ?_
     refine done_ (by kernel_rfl) ?_
     go_upto_region 20 with (first | ((with_reducible refine gate_callee (f := 10) rfl ?_); refine goesL_ (some 59) rfl rfl Try.func10 (by kernel_rfl) rfl #[.slice A1 l1.length c1] rfl Z5.z1 ?_; (with_reducible refine (laws_toInt64S.calls kj15 _ _ l1 t138 _ ?side1 ?side2 A46.out).mono ?_); (case side1 => exact Z5.z18); (case side2 => exact HC1.out); rintro e w56 ⟨v139, rfl, ho0, hb⟩; refine ⟨_, rfl, ?_⟩; have HO140 := Z5.k (Kd.R_lower (Kd.R_new' (Kd.R_new' (Kd.R_new' (Kd.R_new' (Kd.R_new' ho0 (Kd.R_lt Z5.z8)) (Kd.R_lt Z5.z10)) (Kd.R_lt Z5.z7)) (Kd.R_lt Z5.z6)) (Kd.R_lt Z5.z16)) (below_size Z5.z0)); replace HO_6 := Z5.k (Kd.R_elder' Z5.z8 (Kd.R_base ho0) hb); replace HO_9 := Z5.k (Kd.R_elder' Z5.z10 (Kd.R_base ho0) hb); replace HO_10 := Z5.k (Kd.R_elder' Z5.z7 (Kd.R_base ho0) hb); replace HO_123003 := Z5.k (Kd.R_elder' Z5.z6 (Kd.R_base ho0) hb); replace HO136 := Z5.k (Kd.R_elder' Z5.z16 (Kd.R_base ho0) hb); replace BK101 := Z5.k (Z5.bb BK101 Z5.z2 hb); replace BK122 := Z5.k (Z5.bb BK122 Z5.z5 hb); replace HB := Z5.k (below_step Z5.z0 hb); (try clear hb); (try clear hb2); (try clear hk); (try clear hi); (try clear ho0); obtain ⟨Ao57, co57, eo57⟩ := Kd.R_slice HO140.out; subst eo57) | ((with_reducible refine gate_callee (f := 12) rfl ?_); refine goesL_ (some 60) rfl rfl Try.func12 (by kernel_rfl) rfl #[.slice Ao34 t123.length co34, .slice Ao57 t138.length co57] rfl Z5.z1 ?_; (with_reducible refine (laws_eqInt64S.calls kj15 _ _ t123 _ _ t138 true _ ?side1 ?side2 ?side3 ?side4 A47.out).mono ?_); (case side1 => exact Z5.z39); (case side2 => exact (Kd.R_reads' HO_9.out).2.1); (case side3 => exact Z5.z36); (case side4 => exact (Kd.R_reads' HO140.out).2.1); rintro e w' ⟨rfl, ⟨nd, rfl⟩⟩; refine ⟨_, rfl, ?_⟩; have hnb58 := NB122_101.out; have hnc58 := NB101_122.out; obtain ⟨hcz59_0, hcz59_1, hcz59_2, hcz59_3, hfz59_0, hfz59_1, hfz59_2, hfz59_3⟩ := cells4 BK122.out) | ((with_reducible refine gate_callee (f := 14) rfl ?_); refine goesL_ (some 64) rfl rfl Try.func14 (by kernel_rfl) rfl #[.agg #[.int .i64 t116, .int .i64 t117, .int .i64 t118, .slice Ao31 t119.length co31], .int .i64 1] rfl Z5.z1 ?_; (with_reducible refine (laws_markMatrix.calls kj15 t116 t117 t118 (fun k_ => some k_ = (.slice Ao31 t119.length co31 : Value).ownBlock) (.slice Ao31 t119.length co31) t119 1 t142 t143 w _ ?side1 ?side2 A49.out).mono ?_); (case side1 => exact Z5.z0); (case side2 => exact Kd.R_tight rfl HO_123003.out); rintro e w60 ⟨rfl, hy0, hb, hkp⟩; refine ⟨_, rfl, ?_⟩; replace HO_6 := Z5.k (Kd.R_mono (ok' := fun k_ => some k_ ≠ (.slice Ao34 t123.length co34 : Value).ownBlock ∧ some k_ ≠ (v127 : Value).ownBlock ∧ some k_ ≠ (.slice Ao31 t119.length co31 : Value).ownBlock ∧ some k_ ≠ (.slice Ao54 t134.length co54 : Value).ownBlock ∧ some k_ ≠ (.slice Ao57 t138.length co57 : Value).ownBlock) (Kd.R_keptB (HO_6.out) hkp (fun k_ hk_ hs_ => (hk_.1.1.2.2) hs_)) (fun k_ hk_ => ⟨hk_.1.1.1.1, hk_.1.1.1.2.1, hk_.1.1.1.2.2, hk_.1.1.2, hk_.1.2⟩)); replace HO_9 := Z5.k (Kd.R_mono (ok' := fun k_ => some k_ ≠ (v113 : Value).ownBlock ∧ some k_ ≠ (v127 : Value).ownBlock ∧ some k_ ≠ (.slice Ao31 t119.length co31 : Value).ownBlock ∧ some k_ ≠ (.slice Ao54 t134.length co54 : Value).ownBlock ∧ some k_ ≠ (.slice Ao57 t138.length co57 : Value).ownBlock) (Kd.R_keptB (HO_9.out) hkp (fun k_ hk_ hs_ => (hk_.1.1.2.2) hs_)) (fun k_ hk_ => ⟨hk_.1.1.1.1, hk_.1.1.1.2.1, hk_.1.1.1.2.2, hk_.1.1.2, hk_.1.2⟩)); replace HO_10 := Z5.k (Kd.R_mono (ok' := fun k_ => some k_ ≠ (v113 : Value).ownBlock ∧ some k_ ≠ (.slice Ao34 t123.length co34 : Value).ownBlock ∧ some k_ ≠ (.slice Ao31 t119.length co31 : Value).ownBlock ∧ some k_ ≠ (.slice Ao54 t134.length co54 : Value).ownBlock ∧ some k_ ≠ (.slice Ao57 t138.length co57 : Value).ownBlock) (Kd.R_keptB (HO_10.out) hkp (fun k_ hk_ hs_ => (hk_.1.1.2.2) hs_)) (fun k_ hk_ => ⟨hk_.1.1.1.1, hk_.1.1.1.2.1, hk_.1.1.1.2.2, hk_.1.1.2, hk_.1.2⟩)); replace BK101 := Z5.k (blk_kept Z5.z2 hkp (fun hs_ => (fun e_ => (Kd.R_ne HO_123003.out BK101.out (by decide)) e_) hs_)); replace BK122 := Z5.k (blk_kept Z5.z5 hkp (fun hs_ => (fun e_ => (Kd.R_ne HO_123003.out BK122.out (by decide)) e_) hs_)); replace HO_123003 := Z5.k (Kd.R_reok rfl hy0 (fun k_ e_ => HO_123003.out.1 k_ e_)); replace HO136 := Z5.k (Kd.R_mono (ok' := fun k_ => some k_ ≠ (v113 : Value).ownBlock ∧ some k_ ≠ (.slice Ao34 t123.length co34 : Value).ownBlock ∧ some k_ ≠ (v127 : Value).ownBlock ∧ some k_ ≠ (.slice Ao31 t119.length co31 : Value).ownBlock ∧ some k_ ≠ (.slice Ao57 t138.length co57 : Value).ownBlock) (Kd.R_keptB (HO136.out) hkp (fun k_ hk_ hs_ => (hk_.1.2) hs_)) (fun k_ hk_ => ⟨hk_.1.1.1.1.1.2, hk_.1.1.1.1.2, hk_.1.1.1.2, hk_.1.1.2, hk_.1.2⟩)); replace HO140 := Z5.k (Kd.R_mono (ok' := fun k_ => some k_ ≠ (v113 : Value).ownBlock ∧ some k_ ≠ (.slice Ao34 t123.length co34 : Value).ownBlock ∧ some k_ ≠ (v127 : Value).ownBlock ∧ some k_ ≠ (.slice Ao31 t119.length co31 : Value).ownBlock ∧ some k_ ≠ (.slice Ao54 t134.length co54 : Value).ownBlock) (Kd.R_keptB (HO140.out) hkp (fun k_ hk_ hs_ => (hk_.1.2) hs_)) (fun k_ hk_ => ⟨hk_.1.1.1.1.1.2, hk_.1.1.1.1.2, hk_.1.1.1.2, hk_.1.1.2, hk_.1.2⟩)); replace HB := Z5.k (hb); (try clear hb); (try clear hkp); (try clear hy0)) | ((with_reducible refine gate_callee (f := 15) rfl ?_); refine goesL_ (some 67) rfl rfl Try.func15 (by kernel_rfl) rfl #[.slice Ao34 t123.length co34, .int .i64 t142] rfl Z5.z1 ?_; (with_reducible refine (laws_markInt64S.calls kj15 (fun k_ => some k_ = (.slice Ao34 t123.length co34 : Value).ownBlock) (.slice Ao34 t123.length co34) t123 t142 t144 t145 w _ ?side1 ?side2 A50.out).mono ?_); (case side1 => exact Z5.z0); (case side2 => exact Kd.R_tight rfl HO_9.out); rintro e w61 ⟨rfl, hy0, hb, hkp⟩; refine ⟨_, rfl, ?_⟩; replace HO_6 := Z5.k (Kd.R_mono (ok' := fun k_ => some k_ ≠ (.slice Ao34 t123.length co34 : Value).ownBlock ∧ some k_ ≠ (v127 : Value).ownBlock ∧ some k_ ≠ (.slice Ao31 t119.length co31 : Value).ownBlock ∧ some k_ ≠ (.slice Ao54 t134.length co54 : Value).ownBlock ∧ some k_ ≠ (.slice Ao57 t138.length co57 : Value).ownBlock) (Kd.R_keptB (HO_6.out) hkp (fun k_ hk_ hs_ => (hk_.1) hs_)) (fun k_ hk_ => ⟨hk_.1.1, hk_.1.2.1, hk_.1.2.2.1, hk_.1.2.2.2.1, hk_.1.2.2.2.2⟩)); replace HO_10 := Z5.k (Kd.R_mono (ok' := fun k_ => some k_ ≠ (v113 : Value).ownBlock ∧ some k_ ≠ (.slice Ao34 t123.length co34 : Value).ownBlock ∧ some k_ ≠ (.slice Ao31 t119.length co31 : Value).ownBlock ∧ some k_ ≠ (.slice Ao54 t134.length co54 : Value).ownBlock ∧ some k_ ≠ (.slice Ao57 t138.length co57 : Value).ownBlock) (Kd.R_keptB (HO_10.out) hkp (fun k_ hk_ hs_ => (hk_.2.1) hs_)) (fun k_ hk_ => ⟨hk_.1.1, hk_.1.2.1, hk_.1.2.2.1, hk_.1.2.2.2.1, hk_.1.2.2.2.2⟩)); replace HO_123003 := Z5.k (Kd.R_mono (ok' := fun k_ => some k_ ≠ (v113 : Value).ownBlock ∧ some k_ ≠ (.slice Ao34 t123.length co34 : Value).ownBlock ∧ some k_ ≠ (v127 : Value).ownBlock ∧ some k_ ≠ (.slice Ao54 t134.length co54 : Value).ownBlock ∧ some k_ ≠ (.slice Ao57 t138.length co57 : Value).ownBlock) (Kd.R_keptB (HO_123003.out) hkp (fun k_ hk_ hs_ => (hk_.1.1.2.1) hs_)) (fun k_ hk_ => ⟨hk_.1.1.1.1, hk_.1.1.1.2.1, hk_.1.1.1.2.2, hk_.1.1.2, hk_.1.2⟩)); replace BK101 := Z5.k (blk_kept Z5.z2 hkp (fun hs_ => (fun e_ => (Kd.R_ne HO_9.out BK101.out (by decide)) e_) hs_)); replace BK122 := Z5.k (blk_kept Z5.z5 hkp (fun hs_ => (fun e_ => (Kd.R_ne HO_9.out BK122.out (by decide)) e_) hs_)); replace HO_9 := Z5.k (Kd.R_reok rfl hy0 (fun k_ e_ => HO_9.out.1 k_ e_)); replace HO136 := Z5.k (Kd.R_mono (ok' := fun k_ => some k_ ≠ (v113 : Value).ownBlock ∧ some k_ ≠ (.slice Ao34 t123.length co34 : Value).ownBlock ∧ some k_ ≠ (v127 : Value).ownBlock ∧ some k_ ≠ (.slice Ao31 t119.length co31 : Value).ownBlock ∧ some k_ ≠ (.slice Ao57 t138.length co57 : Value).ownBlock) (Kd.R_keptB (HO136.out) hkp (fun k_ hk_ hs_ => (hk_.2.1) hs_)) (fun k_ hk_ => ⟨hk_.1.1, hk_.1.2.1, hk_.1.2.2.1, hk_.1.2.2.2.1, hk_.1.2.2.2.2⟩)); replace HO140 := Z5.k (Kd.R_mono (ok' := fun k_ => some k_ ≠ (v113 : Value).ownBlock ∧ some k_ ≠ (.slice Ao34 t123.length co34 : Value).ownBlock ∧ some k_ ≠ (v127 : Value).ownBlock ∧ some k_ ≠ (.slice Ao31 t119.length co31 : Value).ownBlock ∧ some k_ ≠ (.slice Ao54 t134.length co54 : Value).ownBlock) (Kd.R_keptB (HO140.out) hkp (fun k_ hk_ hs_ => (hk_.2.1) hs_)) (fun k_ hk_ => ⟨hk_.1.1, hk_.1.2.1, hk_.1.2.2.1, hk_.1.2.2.2.1, hk_.1.2.2.2.2⟩)); replace HB := Z5.k (hb); (try clear hb); (try clear hkp); (try clear hy0)))
     (try simp only [Act.put, List.setIfInBounds_toArray, List.set_cons_zero, List.set_cons_succ])
     go_cut [80] (fun v80 wc => ∃ (kq : Nat) (x80_50 : Bool), v80 = .bool x80_50 ∧ Aside0 (laws_FnExactCertificate.j1 kq l1 t112 t115 t126 x80_50 a0_0 a0_1 a0_2 l0_3 = some r) ∧ Aside0 (kq ≤ kj15) ∧ Aside0 (Kd.R (Kd.int .i64) 2 wc w.heap.size (fun k_ => some k_ ≠ (v127 : Value).ownBlock ∧ some k_ ≠ ((.slice Ao31 t119.length co31) : Value).ownBlock) v113 t112) ∧ Aside0 (Kd.R (Kd.int .i64) 2 wc w.heap.size (fun k_ => some k_ ≠ (v113 : Value).ownBlock ∧ some k_ ≠ ((.slice Ao31 t119.length co31) : Value).ownBlock) v127 t126) ∧ Aside0 (Kd.R (Kd.int .i64) 2 wc w.heap.size (fun k_ => some k_ ≠ (v113 : Value).ownBlock ∧ some k_ ≠ (v127 : Value).ownBlock) (.slice Ao31 t119.length co31) t143) ∧ Aside0 (wc.heap[gb101]? = some (.cells #[.int .i64 a0_0, .int .i64 a0_1, .int .i64 a0_2, (.slice A0_3 l0_3.length c0_3)] 24 (0, 0))) ∧ Aside0 (wc.heap[gb122]? = some (.cells #[.int .i64 t116, .int .i64 t117, .int .i64 t118, (.slice Ao31 t119.length co31)] 28 (0, 0))) ∧ Aside0 (Below w.heap.size w wc))
     case first =>
      have H := HC51.out
      clear HC51
      by_cases c62 : t144 < 0
      ·rw [if_pos c62] at H
       have c62b0 : decide (t144 < 0) = true := decide_eq_true c62; clear c62
       (first | rw [c62b0] | (simp only [i64_w, i32_w]; rw [c62b0]) | skip)
       have H' := Z5.k H; clear H
       go_wp2
       go_meet
       case rel => exact ⟨_, (true), Z5.z45, H', ⟨(by have := HJ15.out; first | omega | exact Nat.le_refl _)⟩, ⟨Z5.z29⟩, ⟨Z5.z30⟩, ⟨Z5.z28⟩, ⟨Z5.z2⟩, ⟨Z5.z5⟩, ⟨Z5.z0⟩⟩
      rw [if_neg c62] at H; have c62b0 : decide (t144 < 0) = false := decide_eq_false c62; clear c62
      (first | rw [c62b0] | (simp only [i64_w, i32_w]; rw [c62b0]) | skip)
      replace H := Option.bind_eq_some_iff.mp H; obtain ⟨t146, A630, H⟩ := H
      (try dsimp only at H)
      have A63 := Z5.k A630; clear A630
      by_cases c64 : t146 = true
      ·subst c64
       rw [if_pos rfl] at H; have H' := Z5.k H; clear H; obtain ⟨Ao65, co65, eo65⟩ := Kd.R_slice HO_10.out; subst eo65; obtain ⟨Ao66, co66, eo66⟩ := Kd.R_slice HO_6.out; subst eo66
       go_wp2_with (first | (go_at_call 12; (with_reducible refine (laws_eqInt64S.calls kj15 _ _ t126 _ _ t112 true _ ?side1 ?side2 ?side3 ?side4 A63.out).mono ?_); (case side1 => exact Z5.z9); (case side2 => exact (Kd.R_reads' HO_10.out).2.1); (case side3 => exact Z5.z19); (case side4 => exact (Kd.R_reads' HO_6.out).2.1); rintro e w' ⟨rfl, ⟨nd, rfl⟩⟩))
       go_meet
       case rel => exact ⟨_, ((t129 != t115)), Z5.z45, H', ⟨(by have := HJ15.out; first | omega | exact Nat.le_refl _)⟩, ⟨Z5.z29⟩, ⟨Z5.z30⟩, ⟨Z5.z28⟩, ⟨Z5.z2⟩, ⟨Z5.z5⟩, ⟨Z5.z0⟩⟩
      replace c64 := Bool.eq_false_iff.mpr c64; subst c64; rw [if_neg (show ¬ (false = true) by decide)] at H; have H' := Z5.k H; clear H; obtain ⟨Ao67, co67, eo67⟩ := Kd.R_slice HO_10.out; subst eo67; obtain ⟨Ao68, co68, eo68⟩ := Kd.R_slice HO_6.out; subst eo68
      go_wp2_with (first | (go_at_call 12; (with_reducible refine (laws_eqInt64S.calls kj15 _ _ t126 _ _ t112 false _ ?side1 ?side2 ?side3 ?side4 A63.out).mono ?_); (case side1 => exact Z5.z9); (case side2 => exact (Kd.R_reads' HO_10.out).2.1); (case side3 => exact Z5.z19); (case side4 => exact (Kd.R_reads' HO_6.out).2.1); rintro e w' ⟨rfl, ⟨nd, rfl⟩⟩))
      go_meet
      case rel => exact ⟨_, (true), Z5.z45, H', ⟨(by have := HJ15.out; first | omega | exact Nat.le_refl _)⟩, ⟨Z5.z29⟩, ⟨Z5.z30⟩, ⟨Z5.z28⟩, ⟨Z5.z2⟩, ⟨Z5.z5⟩, ⟨Z5.z0⟩⟩
     case rest =>
      clear HC51; (try clear c1); (try clear c2); (try clear p2); (try clear c3); (try clear c3b0); (try clear c3b1); (try clear c4); (try clear c5); (try clear c6); (try clear c6b0); (try clear c7); (try clear c9); (try clear c10); (try clear c12); (try clear c13); (try clear c14); (try clear c15); (try clear c22); (try clear c23); (try clear c29); (try clear c37); (try clear c42); (try clear c45); (try clear c48); (try clear c58); (try clear c62); (try clear c62b0); (try clear c64); (try clear hcz18_0); (try clear hcz18_1); (try clear hcz18_2); (try clear hcz18_3); (try clear hcz20_0); (try clear hcz20_1); (try clear hcz20_2); (try clear hcz20_3); (try clear hcz26_0); (try clear hcz26_1); (try clear hcz26_2); (try clear hcz26_3); (try clear hcz30_0); (try clear hcz30_1); (try clear hcz30_2); (try clear hcz30_3); (try clear hcz33_0); (try clear hcz33_1); (try clear hcz33_2); (try clear hcz33_3); (try clear hcz59_0); (try clear hcz59_1); (try clear hcz59_2); (try clear hcz59_3); (try clear hcz8_0); (try clear hcz8_1); (try clear hcz8_2); (try clear hcz8_3); (try clear hfz18_0); (try clear hfz18_1); (try clear hfz18_2); (try clear hfz18_3); (try clear hfz20_0); (try clear hfz20_1); (try clear hfz20_2); (try clear hfz20_3); (try clear hfz26_0); (try clear hfz26_1); (try clear hfz26_2); (try clear hfz26_3); (try clear hfz30_0); (try clear hfz30_1); (try clear hfz30_2); (try clear hfz30_3); (try clear hfz33_0); (try clear hfz33_1); (try clear hfz33_2); (try clear hfz33_3); (try clear hfz59_0); (try clear hfz59_1); (try clear hfz59_2); (try clear hfz59_3); (try clear hfz8_0); (try clear hfz8_1); (try clear hfz8_2); (try clear hfz8_3); (try clear p2); obtain ⟨kq, x80_50, rfl, HA, HJ50, HO_6, HO_10, HO_123003, BK101, BK122, HB⟩ := hcut; have hl123003_50 := (Kd.R_reads' HO_123003.out).1; rw [hl123003_50] at HO_123003
      (try simp only [hl123003_50])
      (try simp only [hl123003_50] at BK101)
      (try simp only [hl123003_50] at BK122)
      (try simp only [hl123003_50] at HO_6)
      (try simp only [hl123003_50] at HO_10)
      cases kq with
      | zero => exact absurd HA.out (by simp [laws_FnExactCertificate.j1])
      | succ kj50 =>
       have H := HA.out
       clear HA; simp only [laws_FnExactCertificate.j1] at H
       by_cases c69 : x80_50 = true
       ·subst c69
        rw [if_pos rfl] at H; obtain rfl := Option.some.inj H
        go_wp2
        go_ret
        exact ⟨Z5.z13, Z5.z0⟩
       replace c69 := Bool.eq_false_iff.mpr c69; subst c69; rw [if_neg (show ¬ (false = true) by decide)] at H; replace H := Option.bind_eq_some_iff.mp H; obtain ⟨⟨t147, t148⟩, A700, H⟩ := H
       (try dsimp only at H)
       have A70 := Z5.k A700; clear A700; replace H := Option.bind_eq_some_iff.mp H; obtain ⟨t149, A710, H⟩ := H
       (try dsimp only at H)
       have A71 := Z5.k A710; clear A710
       by_cases c72 : t149 < 0
       ·rw [if_pos c72] at H
        have c72b0 : decide (t149 < 0) = true := decide_eq_true c72; clear c72; obtain rfl := Option.some.inj H; obtain ⟨Ao73, co73, eo73⟩ := Kd.R_slice HO_10.out; subst eo73
        go_wp2_with (first | ((with_reducible refine gate_callee (f := 15) rfl ?_); refine goesL_ (some 83) rfl rfl Try.func15 (by kernel_rfl) rfl #[.slice Ao73 t126.length co73, .int .i64 1] rfl Z5.z1 ?_; (with_reducible refine (laws_markInt64S.calls kj50 (fun k_ => some k_ = (.slice Ao73 t126.length co73 : Value).ownBlock) (.slice Ao73 t126.length co73) t126 1 t147 t148 w _ ?side1 ?side2 A70.out).mono ?_); (case side1 => exact Z5.z0); (case side2 => exact Kd.R_tight rfl HO_10.out); rintro e w74 ⟨rfl, hy0, hb, hkp⟩; refine ⟨_, rfl, ?_⟩; replace HO_6 := Z5.k (Kd.R_mono (ok' := fun k_ => some k_ ≠ (.slice Ao73 t126.length co73 : Value).ownBlock ∧ some k_ ≠ (.slice Ao31 t143.length co31 : Value).ownBlock) (Kd.R_keptB (HO_6.out) hkp (fun k_ hk_ hs_ => (hk_.1) hs_)) (fun k_ hk_ => ⟨hk_.1.1, hk_.1.2⟩)); replace HO_123003 := Z5.k (Kd.R_mono (ok' := fun k_ => some k_ ≠ (v113 : Value).ownBlock ∧ some k_ ≠ (.slice Ao73 t126.length co73 : Value).ownBlock) (Kd.R_keptB (HO_123003.out) hkp (fun k_ hk_ hs_ => (hk_.2) hs_)) (fun k_ hk_ => ⟨hk_.1.1, hk_.1.2⟩)); replace BK101 := Z5.k (blk_kept Z5.z2 hkp (fun hs_ => (fun e_ => (Kd.R_ne HO_10.out BK101.out (by decide)) e_) hs_)); replace BK122 := Z5.k (blk_kept Z5.z5 hkp (fun hs_ => (fun e_ => (Kd.R_ne HO_10.out BK122.out (by decide)) e_) hs_)); replace HO_10 := Z5.k (Kd.R_reok rfl hy0 (fun k_ e_ => HO_10.out.1 k_ e_)); replace HB := Z5.k (hb); (try clear hb); (try clear hkp); (try clear hy0)) | ((with_reducible refine gate_callee (f := 16) rfl ?_); refine goesL_ (some 86) rfl rfl Try.func16 (by kernel_rfl) rfl #[.slice Ao73 t148.length co73, .int .i64 1] rfl Z5.z24 ?_; (with_reducible refine (laws_heldInt64S.calls kj50 _ _ t148 1 t149 _ ?side1 ?side2 A71.out).mono ?_); (case side1 => exact Z5.z9); (case side2 => exact Z5.z32); rintro e w' ⟨rfl, ⟨nd, rfl⟩⟩; refine ⟨_, rfl, ?_⟩))
        go_ret
        exact ⟨Z5.z13, Z5.z0⟩
       rw [if_neg c72] at H; have c72b0 : decide (t149 < 0) = false := decide_eq_false c72; clear c72
       by_cases c75 : t149 = t147
       ·rw [if_pos c75] at H
        have c75b0 : (t149 == t147) = true := beq_iff_eq.mpr c75; have c75b1 : (t149 != t147) = false := bne_eq_false_iff_eq.mpr c75; clear c75; replace H := Option.bind_eq_some_iff.mp H; obtain ⟨⟨t150, t151, t152, t153⟩, A760, H⟩ := H
        (try dsimp only at H)
        have A76 := Z5.k A760; clear A760; replace H := Option.bind_eq_some_iff.mp H; obtain ⟨t156, A770, H⟩ := H
        (try dsimp only at H)
        have A77 := Z5.k A770; clear A770; replace H := Option.bind_eq_some_iff.mp H; obtain ⟨⟨t159, t162⟩, A780, H⟩ := H
        (try dsimp only at H)
        have A78 := Z5.k A780; clear A780; have HC79 := Z5.k H; clear H; obtain ⟨Ao80, co80, eo80⟩ := Kd.R_slice HO_10.out; subst eo80
        go_upto_region 31 with (first | ((with_reducible refine gate_callee (f := 15) rfl ?_); refine goesL_ (some 83) rfl rfl Try.func15 (by kernel_rfl) rfl #[.slice Ao80 t126.length co80, .int .i64 1] rfl Z5.z1 ?_; (with_reducible refine (laws_markInt64S.calls kj50 (fun k_ => some k_ = (.slice Ao80 t126.length co80 : Value).ownBlock) (.slice Ao80 t126.length co80) t126 1 t147 t148 w _ ?side1 ?side2 A70.out).mono ?_); (case side1 => exact Z5.z0); (case side2 => exact Kd.R_tight rfl HO_10.out); rintro e w81 ⟨rfl, hy0, hb, hkp⟩; refine ⟨_, rfl, ?_⟩; replace HO_6 := Z5.k (Kd.R_mono (ok' := fun k_ => some k_ ≠ (.slice Ao80 t126.length co80 : Value).ownBlock ∧ some k_ ≠ (.slice Ao31 t143.length co31 : Value).ownBlock) (Kd.R_keptB (HO_6.out) hkp (fun k_ hk_ hs_ => (hk_.1) hs_)) (fun k_ hk_ => ⟨hk_.1.1, hk_.1.2⟩)); replace HO_123003 := Z5.k (Kd.R_mono (ok' := fun k_ => some k_ ≠ (v113 : Value).ownBlock ∧ some k_ ≠ (.slice Ao80 t126.length co80 : Value).ownBlock) (Kd.R_keptB (HO_123003.out) hkp (fun k_ hk_ hs_ => (hk_.2) hs_)) (fun k_ hk_ => ⟨hk_.1.1, hk_.1.2⟩)); replace BK101 := Z5.k (blk_kept Z5.z2 hkp (fun hs_ => (fun e_ => (Kd.R_ne HO_10.out BK101.out (by decide)) e_) hs_)); replace BK122 := Z5.k (blk_kept Z5.z5 hkp (fun hs_ => (fun e_ => (Kd.R_ne HO_10.out BK122.out (by decide)) e_) hs_)); replace HO_10 := Z5.k (Kd.R_reok rfl hy0 (fun k_ e_ => HO_10.out.1 k_ e_)); replace HB := Z5.k (hb); (try clear hb); (try clear hkp); (try clear hy0)) | ((with_reducible refine gate_callee (f := 16) rfl ?_); refine goesL_ (some 86) rfl rfl Try.func16 (by kernel_rfl) rfl #[.slice Ao80 t148.length co80, .int .i64 1] rfl Z5.z24 ?_; (with_reducible refine (laws_heldInt64S.calls kj50 _ _ t148 1 t149 _ ?side1 ?side2 A71.out).mono ?_); (case side1 => exact Z5.z9); (case side2 => exact Z5.z32); rintro e w' ⟨rfl, ⟨nd, rfl⟩⟩; refine ⟨_, rfl, ?_⟩; have hnb82 := NB101_122.out; have hnc82 := NB122_101.out; obtain ⟨hcz83_0, hcz83_1, hcz83_2, hcz83_3, hfz83_0, hfz83_1, hfz83_2, hfz83_3⟩ := cells4 BK101.out) | ((with_reducible refine gate_callee (f := 9) rfl ?_); refine goesL_ (some 94) rfl rfl Try.func9 (by kernel_rfl) rfl #[.agg #[.int .i64 a0_0, .int .i64 a0_1, .int .i64 a0_2, .slice A0_3 l0_3.length c0_3]] rfl Z5.z1 ?_; (with_reducible refine (laws_toMatrix.calls kj50 a0_0 a0_1 a0_2 _ _ l0_3 t150 t151 t152 t153 _ ?side1 ?side2 A76.out).mono ?_); (case side1 => exact (by repeat (first | exact (Kd.C_below HR0_3.out Z5.z0) | (with_reducible refine Kd.C_alloc ?_ _) | (with_reducible refine Kd.C_drewN ?_ _) | (with_reducible refine Kd.C_drew ?_)))); (case side2 => exact HC0_3.out); rintro e w84 ⟨v154, rfl, ho0, hb⟩; refine ⟨_, rfl, ?_⟩; have HO155 := Z5.k (Kd.R_lower (Kd.R_new' (Kd.R_new' (Kd.R_new' ho0 (Kd.R_lt Z5.z8)) (Kd.R_lt Z5.z7)) (Kd.R_lt Z5.z6)) (below_size Z5.z0)); replace HO_6 := Z5.k (Kd.R_elder' Z5.z8 (Kd.R_base ho0) hb); replace HO_10 := Z5.k (Kd.R_elder' Z5.z7 (Kd.R_base ho0) hb); replace HO_123003 := Z5.k (Kd.R_elder' Z5.z6 (Kd.R_base ho0) hb); replace BK101 := Z5.k (Z5.bb BK101 Z5.z2 hb); replace BK122 := Z5.k (Z5.bb BK122 Z5.z5 hb); replace HB := Z5.k (below_step Z5.z0 hb); (try clear hb); (try clear hb2); (try clear hk); (try clear hi); (try clear ho0)) | ((with_reducible refine gate_callee (f := 10) rfl ?_); refine goesL_ (some 96) rfl rfl Try.func10 (by kernel_rfl) rfl #[.slice A1 l1.length c1] rfl Z5.z1 ?_; (with_reducible refine (laws_toInt64S.calls kj50 _ _ l1 t156 _ ?side1 ?side2 A77.out).mono ?_); (case side1 => exact Z5.z18); (case side2 => exact HC1.out); rintro e w85 ⟨v157, rfl, ho0, hb⟩; refine ⟨_, rfl, ?_⟩; have HO158 := Z5.k (Kd.R_lower (Kd.R_new' (Kd.R_new' (Kd.R_new' (Kd.R_new' ho0 (Kd.R_lt Z5.z8)) (Kd.R_lt Z5.z7)) (Kd.R_lt Z5.z6)) (Kd.R_lt Z5.z31)) (below_size Z5.z0)); replace HO_6 := Z5.k (Kd.R_elder' Z5.z8 (Kd.R_base ho0) hb); replace HO_10 := Z5.k (Kd.R_elder' Z5.z7 (Kd.R_base ho0) hb); replace HO_123003 := Z5.k (Kd.R_elder' Z5.z6 (Kd.R_base ho0) hb); replace HO155 := Z5.k (Kd.R_elder' Z5.z31 (Kd.R_base ho0) hb); replace BK101 := Z5.k (Z5.bb BK101 Z5.z2 hb); replace BK122 := Z5.k (Z5.bb BK122 Z5.z5 hb); replace HB := Z5.k (below_step Z5.z0 hb); (try clear hb); (try clear hb2); (try clear hk); (try clear hi); (try clear ho0); obtain ⟨Ao86, co86, eo86⟩ := Kd.R_slice HO155.out; subst eo86; obtain ⟨Ao87, co87, eo87⟩ := Kd.R_slice HO158.out; subst eo87) | ((with_reducible refine gate_callee (f := 23) rfl ?_); refine goesL_ (some 97) rfl rfl Try.func23 (by kernel_rfl) rfl #[.agg #[.int .i64 t150, .int .i64 t151, .int .i64 t152, .slice Ao86 t153.length co86], .slice Ao87 t156.length co87] rfl Z5.z1 ?_; (with_reducible refine (impl_Certificate.calls kj50 t150 t151 t152 _ _ t153 _ _ t156 t159 t162 _ ?side1 ?side2 ?side3 ?side4 A78.out).mono ?_); (case side1 => exact (by repeat (first | exact (Kd.R_reads' HO155.out).2.2 | (with_reducible refine Kd.C_alloc ?_ _) | (with_reducible refine Kd.C_drewN ?_ _) | (with_reducible refine Kd.C_drew ?_)))); (case side2 => exact (Kd.R_reads' HO155.out).2.1); (case side3 => exact (by repeat (first | exact (Kd.R_reads' HO158.out).2.2 | (with_reducible refine Kd.C_alloc ?_ _) | (with_reducible refine Kd.C_drewN ?_ _) | (with_reducible refine Kd.C_drew ?_)))); (case side4 => exact (Kd.R_reads' HO158.out).2.1); rintro e w88 ⟨v160, rfl, ho0, hb⟩; refine ⟨_, rfl, ?_⟩; have HO161 := Z5.k (Kd.R_lower (Kd.R_new' (Kd.R_new' (Kd.R_new' (Kd.R_new' (Kd.R_new' ho0 (Kd.R_lt Z5.z8)) (Kd.R_lt Z5.z7)) (Kd.R_lt Z5.z6)) (Kd.R_lt Z5.z31)) (Kd.R_lt (by (with_reducible repeat (first | apply Kd.R_alloc | apply Kd.R_drewN | apply Kd.R_drew)); exact HO158.out))) (below_size Z5.z0)); replace HO_6 := Z5.k (Kd.R_elder' Z5.z8 (Kd.R_base ho0) hb); replace HO_10 := Z5.k (Kd.R_elder' Z5.z7 (Kd.R_base ho0) hb); replace HO_123003 := Z5.k (Kd.R_elder' Z5.z6 (Kd.R_base ho0) hb); replace HO155 := Z5.k (Kd.R_elder' Z5.z31 (Kd.R_base ho0) hb); replace HO158 := Z5.k (Kd.R_elder' (by (with_reducible repeat (first | apply Kd.R_alloc | apply Kd.R_drewN | apply Kd.R_drew)); exact HO158.out) (Kd.R_base ho0) hb); replace BK101 := Z5.k (Z5.bb BK101 Z5.z2 hb); replace BK122 := Z5.k (Z5.bb BK122 Z5.z5 hb); replace HB := Z5.k (below_step Z5.z0 hb); (try clear hb); (try clear hb2); (try clear hk); (try clear hi); (try clear ho0)))
        (try simp only [Act.put, List.setIfInBounds_toArray, List.set_cons_zero, List.set_cons_succ])
        go_cut [108] (fun v108 wc => ∃ (kq : Nat) (x108_78 : Bool), v108 = .bool x108_78 ∧ Aside0 (laws_FnExactCertificate.j2 kq t148 t147 x108_78 = some r) ∧ Aside0 (kq ≤ kj50) ∧ Aside0 (Kd.R (Kd.int .i64) 2 wc w.heap.size (fun k_ => some k_ ≠ ((.slice Ao31 t143.length co31) : Value).ownBlock) (.slice Ao80 t126.length co80) t148) ∧ Aside0 (Kd.R (Kd.int .i64) 2 wc w.heap.size (fun k_ => some k_ ≠ ((.slice Ao80 t126.length co80) : Value).ownBlock) (.slice Ao31 t143.length co31) t143) ∧ Aside0 (wc.heap[gb101]? = some (.cells #[.int .i64 a0_0, .int .i64 a0_1, .int .i64 a0_2, (.slice A0_3 l0_3.length c0_3)] 24 (0, 0))) ∧ Aside0 (wc.heap[gb122]? = some (.cells #[.int .i64 t116, .int .i64 t117, .int .i64 t118, (.slice Ao31 t143.length co31)] 28 (0, 0))) ∧ Aside0 (Below w.heap.size w wc))
        case first =>
         have H := HC79.out
         clear HC79; replace H := Option.bind_eq_some_iff.mp H; obtain ⟨t163, A890, H⟩ := H
         (try dsimp only at H)
         have A89 := Z5.k A890; clear A890
         by_cases c90 : t163 = true
         ·subst c90
          rw [if_pos rfl] at H; have H' := Z5.k H; clear H; obtain ⟨Ao91, co91, eo91⟩ := Kd.R_slice HO161.out; subst eo91; obtain ⟨Ao92, co92, eo92⟩ := Kd.R_slice HO_6.out; subst eo92
          go_wp2_with (first | ((with_reducible refine gate_callee (f := 12) rfl ?_); refine goesL_ (some 102) rfl rfl Try.func12 (by kernel_rfl) rfl #[.slice Ao91 t159.length co91, .slice Ao92 t112.length co92] rfl Z5.z1 ?_; (with_reducible refine (laws_eqInt64S.calls kj50 _ _ t159 _ _ t112 true _ ?side1 ?side2 ?side3 ?side4 A89.out).mono ?_); (case side1 => exact Z5.z35); (case side2 => exact (Kd.R_reads' HO161.out).2.1); (case side3 => exact Z5.z19); (case side4 => exact (Kd.R_reads' HO_6.out).2.1); rintro e w' ⟨rfl, ⟨nd, rfl⟩⟩; refine ⟨_, rfl, ?_⟩))
          go_meet
          case rel => exact ⟨_, ((t162 != t115)), Z5.z45, H', ⟨(by have := HJ15.out; have := HJ50.out; first | omega | exact Nat.le_refl _)⟩, ⟨Z5.z40⟩, ⟨Z5.z34⟩, ⟨Z5.z47⟩, ⟨Z5.z46⟩, ⟨Z5.z0⟩⟩
         replace c90 := Bool.eq_false_iff.mpr c90; subst c90; rw [if_neg (show ¬ (false = true) by decide)] at H; have H' := Z5.k H; clear H; obtain ⟨Ao93, co93, eo93⟩ := Kd.R_slice HO161.out; subst eo93; obtain ⟨Ao94, co94, eo94⟩ := Kd.R_slice HO_6.out; subst eo94
         go_wp2_with (first | ((with_reducible refine gate_callee (f := 12) rfl ?_); refine goesL_ (some 102) rfl rfl Try.func12 (by kernel_rfl) rfl #[.slice Ao93 t159.length co93, .slice Ao94 t112.length co94] rfl Z5.z1 ?_; (with_reducible refine (laws_eqInt64S.calls kj50 _ _ t159 _ _ t112 false _ ?side1 ?side2 ?side3 ?side4 A89.out).mono ?_); (case side1 => exact Z5.z35); (case side2 => exact (Kd.R_reads' HO161.out).2.1); (case side3 => exact Z5.z19); (case side4 => exact (Kd.R_reads' HO_6.out).2.1); rintro e w' ⟨rfl, ⟨nd, rfl⟩⟩; refine ⟨_, rfl, ?_⟩))
         go_meet
         case rel => exact ⟨_, (true), Z5.z45, H', ⟨(by have := HJ15.out; have := HJ50.out; first | omega | exact Nat.le_refl _)⟩, ⟨Z5.z40⟩, ⟨Z5.z34⟩, ⟨Z5.z47⟩, ⟨Z5.z46⟩, ⟨Z5.z0⟩⟩
        case rest =>
         clear HC79; (try clear c1); (try clear c2); (try clear p2); (try clear c3); (try clear c3b0); (try clear c3b1); (try clear c4); (try clear c5); (try clear c6); (try clear c6b0); (try clear c7); (try clear c8); (try clear c9); (try clear c10); (try clear c12); (try clear c13); (try clear c14); (try clear c15); (try clear c16); (try clear c22); (try clear c23); (try clear c29); (try clear c37); (try clear c42); (try clear c45); (try clear c48); (try clear c58); (try clear c62); (try clear c62b0); (try clear c64); (try clear c69); (try clear c72); (try clear c72b0); (try clear c75); (try clear c75b0); (try clear c75b1); (try clear c82); (try clear c90); (try clear hcz18_0); (try clear hcz18_1); (try clear hcz18_2); (try clear hcz18_3); (try clear hcz20_0); (try clear hcz20_1); (try clear hcz20_2); (try clear hcz20_3); (try clear hcz26_0); (try clear hcz26_1); (try clear hcz26_2); (try clear hcz26_3); (try clear hcz30_0); (try clear hcz30_1); (try clear hcz30_2); (try clear hcz30_3); (try clear hcz33_0); (try clear hcz33_1); (try clear hcz33_2); (try clear hcz33_3); (try clear hcz59_0); (try clear hcz59_1); (try clear hcz59_2); (try clear hcz59_3); (try clear hcz83_0); (try clear hcz83_1); (try clear hcz83_2); (try clear hcz83_3); (try clear hcz8_0); (try clear hcz8_1); (try clear hcz8_2); (try clear hcz8_3); (try clear hfz18_0); (try clear hfz18_1); (try clear hfz18_2); (try clear hfz18_3); (try clear hfz20_0); (try clear hfz20_1); (try clear hfz20_2); (try clear hfz20_3); (try clear hfz26_0); (try clear hfz26_1); (try clear hfz26_2); (try clear hfz26_3); (try clear hfz30_0); (try clear hfz30_1); (try clear hfz30_2); (try clear hfz30_3); (try clear hfz33_0); (try clear hfz33_1); (try clear hfz33_2); (try clear hfz33_3); (try clear hfz59_0); (try clear hfz59_1); (try clear hfz59_2); (try clear hfz59_3); (try clear hfz83_0); (try clear hfz83_1); (try clear hfz83_2); (try clear hfz83_3); (try clear hfz8_0); (try clear hfz8_1); (try clear hfz8_2); (try clear hfz8_3); (try clear p2); obtain ⟨kq, x108_78, rfl, HA, HJ78, HO_10, HO_123003, BK101, BK122, HB⟩ := hcut; have hl10_78 := (Kd.R_reads' HO_10.out).1; rw [hl10_78] at HO_10
         (try simp only [hl10_78])
         (try simp only [hl10_78] at BK101)
         (try simp only [hl10_78] at BK122)
         (try simp only [hl10_78] at HO_123003)
         cases kq with
         | zero => exact absurd HA.out (by simp [laws_FnExactCertificate.j2])
         | succ kj78 =>
          have H := HA.out
          clear HA; simp only [laws_FnExactCertificate.j2] at H
          by_cases c95 : x108_78 = true
          ·subst c95
           rw [if_pos rfl] at H; obtain rfl := Option.some.inj H
           go_wp2
           go_ret
           exact ⟨Z5.z13, Z5.z0⟩
          replace c95 := Bool.eq_false_iff.mpr c95; subst c95; rw [if_neg (show ¬ (false = true) by decide)] at H; replace H := Option.bind_eq_some_iff.mp H; obtain ⟨t164, A960, H⟩ := H
          (try dsimp only at H)
          have A96 := Z5.k A960; clear A960
          by_cases c97 : t164 < 0
          ·rw [if_pos c97] at H
           have c97b0 : decide (t164 < 0) = true := decide_eq_true c97; clear c97; obtain rfl := Option.some.inj H
           go_wp2_with (first | ((with_reducible refine gate_callee (f := 16) rfl ?_); refine goesL_ (some 111) rfl rfl Try.func16 (by kernel_rfl) rfl #[.slice Ao80 t148.length co80, .int .i64 1] rfl Z5.z1 ?_; (with_reducible refine (laws_heldInt64S.calls kj78 _ _ t148 1 t164 _ ?side1 ?side2 A96.out).mono ?_); (case side1 => exact Z5.z9); (case side2 => exact (Kd.R_reads' HO_10.out).2.1); rintro e w' ⟨rfl, ⟨nd, rfl⟩⟩; refine ⟨_, rfl, ?_⟩))
           go_ret
           exact ⟨Z5.z13, Z5.z0⟩
          rw [if_neg c97] at H; have c97b0 : decide (t164 < 0) = false := decide_eq_false c97; clear c97
          by_cases c98 : t164 = t147
          ·rw [if_pos c98] at H
           have c98b0 : (t164 == t147) = true := beq_iff_eq.mpr c98; have c98b1 : (t164 != t147) = false := bne_eq_false_iff_eq.mpr c98; clear c98; obtain rfl := Option.some.inj H
           go_wp2_with (first | ((with_reducible refine gate_callee (f := 16) rfl ?_); refine goesL_ (some 111) rfl rfl Try.func16 (by kernel_rfl) rfl #[.slice Ao80 t148.length co80, .int .i64 1] rfl Z5.z1 ?_; (with_reducible refine (laws_heldInt64S.calls kj78 _ _ t148 1 t164 _ ?side1 ?side2 A96.out).mono ?_); (case side1 => exact Z5.z9); (case side2 => exact (Kd.R_reads' HO_10.out).2.1); rintro e w' ⟨rfl, ⟨nd, rfl⟩⟩; refine ⟨_, rfl, ?_⟩))
           go_ret
           exact ⟨Z5.z13, Z5.z0⟩
          rw [if_neg c98] at H; have c98b0 : (t164 == t147) = false := beq_eq_false_iff_ne.mpr c98; have c98b1 : (t164 != t147) = true := bne_iff_ne.mpr c98; obtain rfl := Option.some.inj H
          go_wp2_with (first | ((with_reducible refine gate_callee (f := 16) rfl ?_); refine goesL_ (some 111) rfl rfl Try.func16 (by kernel_rfl) rfl #[.slice Ao80 t148.length co80, .int .i64 1] rfl Z5.z1 ?_; (with_reducible refine (laws_heldInt64S.calls kj78 _ _ t148 1 t164 _ ?side1 ?side2 A96.out).mono ?_); (case side1 => exact Z5.z9); (case side2 => exact (Kd.R_reads' HO_10.out).2.1); rintro e w' ⟨rfl, ⟨nd, rfl⟩⟩; refine ⟨_, rfl, ?_⟩))
          go_ret
          exact ⟨Z5.z13, Z5.z0⟩
       rw [if_neg c75] at H; have c75b0 : (t149 == t147) = false := beq_eq_false_iff_ne.mpr c75; have c75b1 : (t149 != t147) = true := bne_iff_ne.mpr c75; obtain rfl := Option.some.inj H; obtain ⟨Ao99, co99, eo99⟩ := Kd.R_slice HO_10.out; subst eo99
       go_wp2_with (first | ((with_reducible refine gate_callee (f := 15) rfl ?_); refine goesL_ (some 83) rfl rfl Try.func15 (by kernel_rfl) rfl #[.slice Ao99 t126.length co99, .int .i64 1] rfl Z5.z1 ?_; (with_reducible refine (laws_markInt64S.calls kj50 (fun k_ => some k_ = (.slice Ao99 t126.length co99 : Value).ownBlock) (.slice Ao99 t126.length co99) t126 1 t147 t148 w _ ?side1 ?side2 A70.out).mono ?_); (case side1 => exact Z5.z0); (case side2 => exact Kd.R_tight rfl HO_10.out); rintro e w100 ⟨rfl, hy0, hb, hkp⟩; refine ⟨_, rfl, ?_⟩; replace HO_6 := Z5.k (Kd.R_mono (ok' := fun k_ => some k_ ≠ (.slice Ao99 t126.length co99 : Value).ownBlock ∧ some k_ ≠ (.slice Ao31 t143.length co31 : Value).ownBlock) (Kd.R_keptB (HO_6.out) hkp (fun k_ hk_ hs_ => (hk_.1) hs_)) (fun k_ hk_ => ⟨hk_.1.1, hk_.1.2⟩)); replace HO_123003 := Z5.k (Kd.R_mono (ok' := fun k_ => some k_ ≠ (v113 : Value).ownBlock ∧ some k_ ≠ (.slice Ao99 t126.length co99 : Value).ownBlock) (Kd.R_keptB (HO_123003.out) hkp (fun k_ hk_ hs_ => (hk_.2) hs_)) (fun k_ hk_ => ⟨hk_.1.1, hk_.1.2⟩)); replace BK101 := Z5.k (blk_kept Z5.z2 hkp (fun hs_ => (fun e_ => (Kd.R_ne HO_10.out BK101.out (by decide)) e_) hs_)); replace BK122 := Z5.k (blk_kept Z5.z5 hkp (fun hs_ => (fun e_ => (Kd.R_ne HO_10.out BK122.out (by decide)) e_) hs_)); replace HO_10 := Z5.k (Kd.R_reok rfl hy0 (fun k_ e_ => HO_10.out.1 k_ e_)); replace HB := Z5.k (hb); (try clear hb); (try clear hkp); (try clear hy0)) | ((with_reducible refine gate_callee (f := 16) rfl ?_); refine goesL_ (some 86) rfl rfl Try.func16 (by kernel_rfl) rfl #[.slice Ao99 t148.length co99, .int .i64 1] rfl Z5.z24 ?_; (with_reducible refine (laws_heldInt64S.calls kj50 _ _ t148 1 t149 _ ?side1 ?side2 A71.out).mono ?_); (case side1 => exact Z5.z9); (case side2 => exact Z5.z32); rintro e w' ⟨rfl, ⟨nd, rfl⟩⟩; refine ⟨_, rfl, ?_⟩))
       go_ret
       exact ⟨Z5.z13, Z5.z0⟩
    replace c48 := Bool.eq_false_iff.mpr c48
    subst c48
    rw [if_neg (show ¬ (false = true) by decide)] at H
    obtain rfl := Option.some.inj H
    try go_wp2
    replace HO_6 := Z5.k (Kd.R_drew HO_6.out)
    replace HO_9 := Z5.k (Kd.R_drew HO_9.out)
    replace HO_10 := Z5.k (Kd.R_drew HO_10.out)
    replace HO_123003 := Z5.k (Kd.R_drew HO_123003.out)
    replace BK101 := Z5.k (blk_drew BK101.out)
    replace BK122 := Z5.k (blk_drew BK122.out)
    replace HB := Z5.k (below_drew1 HB.out)
    refine start_ (n := 5) (S := fun w' => w'.cell? ⟨gb122, 0, none⟩ = some (.int .i64 t116) ∧ w'.cell? ⟨gb122, 1, none⟩ = some (.int .i64 t117) ∧ w'.cell? ⟨gb122, 2, none⟩ = some (.int .i64 t118) ∧ w'.cell? ⟨gb122, 3, none⟩ = some (.slice Ao31 t119.length co31) ∧ w'.cell? ⟨gb101, 0, none⟩ = some (.int .i64 a0_0) ∧ w'.cell? ⟨gb101, 1, none⟩ = some (.int .i64 a0_1) ∧ w'.cell? ⟨gb101, 2, none⟩ = some (.int .i64 a0_2) ∧ w'.cell? ⟨gb101, 3, none⟩ = some (.slice A0_3 l0_3.length c0_3)) (ds := []) #[false, false, false, false, false] (by kernel_rfl) rfl rfl Z5.z3 (fun hHeld => ?_)
    generalize wc.drew = w101 at HO_6 HO_9 HO_10 HO_123003 BK101 BK122 HB hHeld ⊢
    refine Z5.pT8 0 52 (Z5.b 5 1) (by kernel_rfl) hHeld ?_
    refine Z5.pT8 1 53 (Z5.b 5 3) (by kernel_rfl) hHeld ?_
    refine one_ (i := 2) (N := some 54) (Z5.b 5 7) rfl rfl (by kernel_rfl) (by decide) (fun K hK => ?_)
    refine goes_ Try.func9 (by kernel_rfl) rfl #[.agg #[.int .i64 a0_0, .int .i64 a0_1, .int .i64 a0_2, .slice A0_3 l0_3.length c0_3]] (by rfl) rfl rfl Z5.z1 ?_
    with_reducible refine (laws_toMatrix.calls kj15 a0_0 a0_1 a0_2 _ _ l0_3 t131 t132 t133 t134 _ ?side1 ?side2 A43.out).mono ?_
    (case side1 => exact Z5.z11)
    (case side2 => exact HC0_3.out)
    rintro e w102 ⟨v135, rfl, ho0, hb⟩
    refine ⟨_, rfl, ?_⟩
    have HO136 := Z5.k (Kd.R_lower (Kd.R_new' (Kd.R_new' (Kd.R_new' (Kd.R_new' ho0 (Kd.R_lt Z5.z8)) (Kd.R_lt Z5.z10)) (Kd.R_lt Z5.z7)) (Kd.R_lt Z5.z6)) (below_size Z5.z0))
    replace HO_6 := Z5.k (Kd.R_elder' Z5.z8 (Kd.R_base ho0) hb)
    replace HO_9 := Z5.k (Kd.R_elder' Z5.z10 (Kd.R_base ho0) hb)
    replace HO_10 := Z5.k (Kd.R_elder' Z5.z7 (Kd.R_base ho0) hb)
    replace HO_123003 := Z5.k (Kd.R_elder' Z5.z6 (Kd.R_base ho0) hb)
    replace BK101 := Z5.k (Z5.bb BK101 Z5.z2 hb)
    replace BK122 := Z5.k (Z5.bb BK122 Z5.z5 hb)
    replace HB := Z5.k (below_step Z5.z0 hb)
    (try clear hb)
    (try clear hb2)
    (try clear hk)
    (try clear hi)
    (try clear ho0)
    obtain ⟨Ao103, co103, eo103⟩ := Kd.R_slice HO136.out
    (first | subst eo103 | (injection eo103 with f1_ f2_ f3_; have f4_ := f1_.symm; have f5_ := f3_.symm; clear f1_ f2_ f3_; subst f4_; subst f5_))
    refine hK.out _ _ Z5.z3 (fun hHeld => ?_)
    clear hK K
    refine norm_ (a' := ?_) ?_ ?_
    rotate_left
    ·show Act.put _ (some 54) _ = _
     simp only [Act.put, List.setIfInBounds_toArray, List.set_cons_zero, List.set_cons_succ, i64_w, i32_w]
     rfl
    refine one_ (i := 3) (N := some 55) (Z5.b 5 15) rfl rfl (by kernel_rfl) (by decide) (fun K hK => ?_)
    refine goes_ Try.func13 (by kernel_rfl) rfl #[.agg #[.int .i64 t116, .int .i64 t117, .int .i64 t118, .slice Ao31 t119.length co31], .agg #[.int .i64 t131, .int .i64 t132, .int .i64 t133, .slice Ao103 t134.length co103]] (by rfl) rfl rfl Z5.z1 ?_
    with_reducible refine (laws_eqMatrix.calls kj15 t116 t117 t118 _ _ t119 t131 t132 t133 _ _ t134 true _ ?side1 ?side2 ?side3 ?side4 A44.out).mono ?_
    (case side1 => exact Z5.z26)
    (case side2 => exact (Kd.R_reads' HO_123003.out).2.1)
    (case side3 => exact Z5.z27)
    (case side4 => exact (Kd.R_reads' HO136.out).2.1)
    rintro e w104 ⟨rfl, hb⟩
    refine ⟨_, rfl, ?_⟩
    replace HO_6 := Z5.k (Kd.R_below Z5.z8 hb)
    replace HO_9 := Z5.k (Kd.R_below Z5.z10 hb)
    replace HO_10 := Z5.k (Kd.R_below Z5.z7 hb)
    replace HO_123003 := Z5.k (Kd.R_below Z5.z6 hb)
    replace HO136 := Z5.k (Kd.R_below Z5.z16 hb)
    replace BK101 := Z5.k (Z5.bb BK101 Z5.z2 hb)
    replace BK122 := Z5.k (Z5.bb BK122 Z5.z5 hb)
    replace HB := Z5.k (below_step Z5.z0 hb)
    (try clear hb)
    (try clear hb2)
    (try clear hk)
    (try clear hi)
    refine hK.out _ _ Z5.z3 (fun hHeld => ?_)
    clear hK K
    refine norm_ (a' := ?_) ?_ ?_
    rotate_left
    ·show Act.put _ (some 55) _ = _
     simp only [Act.put, List.setIfInBounds_toArray, List.set_cons_zero, List.set_cons_succ, i64_w, i32_w]
     rfl
    refine Z5.pP 4 56 (Z5.b 5 31) (by kernel_rfl) ?_
    refine done_ (by kernel_rfl) ?_
    try go_wp2_with (first | ((with_reducible refine gate_callee (f := 10) rfl ?_); refine goesL_ (some 59) rfl rfl Try.func10 (by kernel_rfl) rfl #[.slice A1 l1.length c1] rfl Z5.z1 ?_; (with_reducible refine (laws_toInt64S.calls kj15 _ _ l1 t138 _ ?side1 ?side2 A46.out).mono ?_); (case side1 => exact Z5.z18); (case side2 => exact HC1.out); rintro e w105 ⟨v139, rfl, ho0, hb⟩; refine ⟨_, rfl, ?_⟩; have HO140 := Z5.k (Kd.R_lower (Kd.R_new' (Kd.R_new' (Kd.R_new' (Kd.R_new' (Kd.R_new' ho0 (Kd.R_lt Z5.z8)) (Kd.R_lt Z5.z10)) (Kd.R_lt Z5.z7)) (Kd.R_lt Z5.z6)) (Kd.R_lt Z5.z16)) (below_size Z5.z0)); replace HO_6 := Z5.k (Kd.R_elder' Z5.z8 (Kd.R_base ho0) hb); replace HO_9 := Z5.k (Kd.R_elder' Z5.z10 (Kd.R_base ho0) hb); replace HO_10 := Z5.k (Kd.R_elder' Z5.z7 (Kd.R_base ho0) hb); replace HO_123003 := Z5.k (Kd.R_elder' Z5.z6 (Kd.R_base ho0) hb); replace HO136 := Z5.k (Kd.R_elder' Z5.z16 (Kd.R_base ho0) hb); replace BK101 := Z5.k (Z5.bb BK101 Z5.z2 hb); replace BK122 := Z5.k (Z5.bb BK122 Z5.z5 hb); replace HB := Z5.k (below_step Z5.z0 hb); (try clear hb); (try clear hb2); (try clear hk); (try clear hi); (try clear ho0); obtain ⟨Ao106, co106, eo106⟩ := Kd.R_slice HO140.out; subst eo106) | ((with_reducible refine gate_callee (f := 12) rfl ?_); refine goesL_ (some 60) rfl rfl Try.func12 (by kernel_rfl) rfl #[.slice Ao34 t123.length co34, .slice Ao106 t138.length co106] rfl Z5.z1 ?_; (with_reducible refine (laws_eqInt64S.calls kj15 _ _ t123 _ _ t138 false _ ?side1 ?side2 ?side3 ?side4 A47.out).mono ?_); (case side1 => exact Z5.z39); (case side2 => exact (Kd.R_reads' HO_9.out).2.1); (case side3 => exact Z5.z36); (case side4 => exact (Kd.R_reads' HO140.out).2.1); rintro e w' ⟨rfl, ⟨nd, rfl⟩⟩; refine ⟨_, rfl, ?_⟩))
    go_ret
    exact ⟨Z5.z13, Z5.z0⟩
   replace c45 := Bool.eq_false_iff.mpr c45
   subst c45
   rw [if_neg (show ¬ (false = true) by decide)] at H
   obtain rfl := Option.some.inj H
   try go_wp2
   replace HO_6 := Z5.k (Kd.R_drew HO_6.out)
   replace HO_9 := Z5.k (Kd.R_drew HO_9.out)
   replace HO_10 := Z5.k (Kd.R_drew HO_10.out)
   replace HO_123003 := Z5.k (Kd.R_drew HO_123003.out)
   replace BK101 := Z5.k (blk_drew BK101.out)
   replace BK122 := Z5.k (blk_drew BK122.out)
   replace HB := Z5.k (below_drew1 HB.out)
   refine start_ (n := 5) (S := fun w' => w'.cell? ⟨gb122, 0, none⟩ = some (.int .i64 t116) ∧ w'.cell? ⟨gb122, 1, none⟩ = some (.int .i64 t117) ∧ w'.cell? ⟨gb122, 2, none⟩ = some (.int .i64 t118) ∧ w'.cell? ⟨gb122, 3, none⟩ = some (.slice Ao31 t119.length co31) ∧ w'.cell? ⟨gb101, 0, none⟩ = some (.int .i64 a0_0) ∧ w'.cell? ⟨gb101, 1, none⟩ = some (.int .i64 a0_1) ∧ w'.cell? ⟨gb101, 2, none⟩ = some (.int .i64 a0_2) ∧ w'.cell? ⟨gb101, 3, none⟩ = some (.slice A0_3 l0_3.length c0_3)) (ds := []) #[false, false, false, false, false] (by kernel_rfl) rfl rfl Z5.z3 (fun hHeld => ?_)
   generalize wc.drew = w107 at HO_6 HO_9 HO_10 HO_123003 BK101 BK122 HB hHeld ⊢
   refine Z5.pT8 0 52 (Z5.b 5 1) (by kernel_rfl) hHeld ?_
   refine Z5.pT8 1 53 (Z5.b 5 3) (by kernel_rfl) hHeld ?_
   refine one_ (i := 2) (N := some 54) (Z5.b 5 7) rfl rfl (by kernel_rfl) (by decide) (fun K hK => ?_)
   refine goes_ Try.func9 (by kernel_rfl) rfl #[.agg #[.int .i64 a0_0, .int .i64 a0_1, .int .i64 a0_2, .slice A0_3 l0_3.length c0_3]] (by rfl) rfl rfl Z5.z1 ?_
   with_reducible refine (laws_toMatrix.calls kj15 a0_0 a0_1 a0_2 _ _ l0_3 t131 t132 t133 t134 _ ?side1 ?side2 A43.out).mono ?_
   (case side1 => exact Z5.z11)
   (case side2 => exact HC0_3.out)
   rintro e w108 ⟨v135, rfl, ho0, hb⟩
   refine ⟨_, rfl, ?_⟩
   have HO136 := Z5.k (Kd.R_lower (Kd.R_new' (Kd.R_new' (Kd.R_new' (Kd.R_new' ho0 (Kd.R_lt Z5.z8)) (Kd.R_lt Z5.z10)) (Kd.R_lt Z5.z7)) (Kd.R_lt Z5.z6)) (below_size Z5.z0))
   replace HO_6 := Z5.k (Kd.R_elder' Z5.z8 (Kd.R_base ho0) hb)
   replace HO_9 := Z5.k (Kd.R_elder' Z5.z10 (Kd.R_base ho0) hb)
   replace HO_10 := Z5.k (Kd.R_elder' Z5.z7 (Kd.R_base ho0) hb)
   replace HO_123003 := Z5.k (Kd.R_elder' Z5.z6 (Kd.R_base ho0) hb)
   replace BK101 := Z5.k (Z5.bb BK101 Z5.z2 hb)
   replace BK122 := Z5.k (Z5.bb BK122 Z5.z5 hb)
   replace HB := Z5.k (below_step Z5.z0 hb)
   (try clear hb)
   (try clear hb2)
   (try clear hk)
   (try clear hi)
   (try clear ho0)
   obtain ⟨Ao109, co109, eo109⟩ := Kd.R_slice HO136.out
   (first | subst eo109 | (injection eo109 with f1_ f2_ f3_; have f4_ := f1_.symm; have f5_ := f3_.symm; clear f1_ f2_ f3_; subst f4_; subst f5_))
   refine hK.out _ _ Z5.z3 (fun hHeld => ?_)
   clear hK K
   refine norm_ (a' := ?_) ?_ ?_
   rotate_left
   ·show Act.put _ (some 54) _ = _
    simp only [Act.put, List.setIfInBounds_toArray, List.set_cons_zero, List.set_cons_succ, i64_w, i32_w]
    rfl
   refine one_ (i := 3) (N := some 55) (Z5.b 5 15) rfl rfl (by kernel_rfl) (by decide) (fun K hK => ?_)
   refine goes_ Try.func13 (by kernel_rfl) rfl #[.agg #[.int .i64 t116, .int .i64 t117, .int .i64 t118, .slice Ao31 t119.length co31], .agg #[.int .i64 t131, .int .i64 t132, .int .i64 t133, .slice Ao109 t134.length co109]] (by rfl) rfl rfl Z5.z1 ?_
   with_reducible refine (laws_eqMatrix.calls kj15 t116 t117 t118 _ _ t119 t131 t132 t133 _ _ t134 false _ ?side1 ?side2 ?side3 ?side4 A44.out).mono ?_
   (case side1 => exact Z5.z26)
   (case side2 => exact (Kd.R_reads' HO_123003.out).2.1)
   (case side3 => exact Z5.z27)
   (case side4 => exact (Kd.R_reads' HO136.out).2.1)
   rintro e w110 ⟨rfl, hb⟩
   refine ⟨_, rfl, ?_⟩
   replace HO_6 := Z5.k (Kd.R_below Z5.z8 hb)
   replace HO_9 := Z5.k (Kd.R_below Z5.z10 hb)
   replace HO_10 := Z5.k (Kd.R_below Z5.z7 hb)
   replace HO_123003 := Z5.k (Kd.R_below Z5.z6 hb)
   replace HO136 := Z5.k (Kd.R_below Z5.z16 hb)
   replace BK101 := Z5.k (Z5.bb BK101 Z5.z2 hb)
   replace BK122 := Z5.k (Z5.bb BK122 Z5.z5 hb)
   replace HB := Z5.k (below_step Z5.z0 hb)
   (try clear hb)
   (try clear hb2)
   (try clear hk)
   (try clear hi)
   refine hK.out _ _ Z5.z3 (fun hHeld => ?_)
   clear hK K
   refine norm_ (a' := ?_) ?_ ?_
   rotate_left
   ·show Act.put _ (some 55) _ = _
    simp only [Act.put, List.setIfInBounds_toArray, List.set_cons_zero, List.set_cons_succ, i64_w, i32_w]
    rfl
   refine Z5.pP 4 56 (Z5.b 5 31) (by kernel_rfl) ?_
   refine done_ (by kernel_rfl) ?_
   try go_wp2
   go_ret
   exact ⟨Z5.z13, Z5.z0⟩
def laws_FnExactCertificate.Pure : Prop := ∀ (a0_0 : Int) (a0_1 : Int) (a0_2 : Int) (l0_3 : List Int) (l1 : List Int), (Lit.int .i64 a0_0).wf = true → (Lit.int .i64 a0_1).wf = true → (Lit.int .i64 a0_2).wf = true → l0_3.length ≤ maxLen → (∀ x ∈ l0_3, (Lit.int .i64 x).wf = true) → l1.length ≤ maxLen → l1.length * 8 ≤ 140737488351232 → (∀ x ∈ l1, (Lit.int .i64 x).wf = true) → ∃ k, laws_FnExactCertificate.f k a0_0 a0_1 a0_2 l0_3 l1 = some true
theorem laws_FnExactCertificate.walk (P : laws_FnExactCertificate.Pure) (a0_0 : Int) (a0_1 : Int) (a0_2 : Int) (a0_3 : Option Addr) (len0_3 cap0_3 : Nat) (z0_3 : List Int) (a1 : Option Addr) (len1 cap1 : Nat) (z1 : List Int) (w : World) (w0_0 : (Lit.int .i64 a0_0).wf = true) (w0_1 : (Lit.int .i64 a0_1).wf = true) (w0_2 : (Lit.int .i64 a0_2).wf = true) (w0_3 : (a0_3 = none ∧ len0_3 = 0 ∧ cap0_3 = 0 ∧ z0_3 = []) ∨ ∃ x, a0_3 = some x ∧ len0_3 ≤ cap0_3 ∧ cap0_3 ≤ maxLen ∧ z0_3.length = cap0_3 ∧ (∀ i, i < z0_3.length → w.cell? (x.add i) = some (.int .i64 (z0_3.getD i 0))) ∧ ∀ n ∈ z0_3, (Lit.int .i64 n).wf = true) (w1 : (a1 = none ∧ len1 = 0 ∧ cap1 = 0 ∧ z1 = []) ∨ ∃ x, a1 = some x ∧ len1 ≤ cap1 ∧ cap1 ≤ maxLen ∧ z1.length = cap1 ∧ (∀ i, i < z1.length → w.cell? (x.add i) = some (.int .i64 (z1.getD i 0))) ∧ ∀ n ∈ z1, (Lit.int .i64 n).wf = true) (y1 : len1 * 8 ≤ 140737488351232) :
    Calls Try.prog 5 #[.agg #[.int .i64 a0_0, .int .i64 a0_1, .int .i64 a0_2, .slice a0_3 len0_3 cap0_3], .slice a1 len1 cap1] w fun e w' => e = .returned (.bool true) ∧ Below w.heap.size w w' := by
  obtain ⟨l0_3, rfl, hr0_3, hm0_3, hw0_3, hc0_3⟩ := ReadsInt.ofRowC w0_3
  obtain ⟨l1, rfl, hr1, hm1, hw1, hc1⟩ := ReadsInt.ofRowC w1
  obtain ⟨k, h⟩ := P a0_0 a0_1 a0_2 l0_3 l1 w0_0 w0_1 w0_2 hm0_3 hw0_3 hm1 y1 hw1
  refine (laws_FnExactCertificate.calls k a0_0 a0_1 a0_2 _ _ l0_3 _ _ l1 true w (Kd.C_of_reads (d := (0 : Int)) (h1 := fun _ => rfl) hr0_3) hc0_3 (Kd.C_of_reads (d := (0 : Int)) (h1 := fun _ => rfl) hr1) hc1 h).mono ?_
  rintro e w' ⟨rfl, hd⟩
  exact ⟨rfl, hd⟩
end Go.Proofs.Ytmbbjmkcbpefhaa.F
end
