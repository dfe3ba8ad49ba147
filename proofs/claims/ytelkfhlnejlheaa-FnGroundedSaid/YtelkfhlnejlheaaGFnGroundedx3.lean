-- Written by gprint.py, a program of this session, with the printer of the kit as its library. Lean checks it.
import Derived.Test.YtelkfhlnejlheaaGFnGroundedx0
import Derived.Test.YtelkfhlnejlheaaGFnGroundedx1
import Derived.Test.YtelkfhlnejlheaaGFnGroundedx2
namespace Go.Proofs.Ytelkfhlnejlheaa.GFnGrounded
open Go.RowKit Go.Proofs.YtelkfhlnejlheaaW.PrintWords Go.Proofs.YtelkfhlnejlheaaW.PrintLast Go.Proofs.YtelkfhlnejlheaaW.PrintMore
attribute [local go_sem] max2_int min2_int max_two min_two max_three min_three max_four min_four   -- for this text's walks alone
set_option linter.unusedVariables false
set_option linter.unusedSimpArgs false

/-! ### impl_VictimsOf: function 53 -/
def impl_VictimsOf.l0 : Nat → Int → List Int → List (List Int) → Int → Int → Option (List Int)
 | 0, _, _, _, _, _ => none
 | k + 1, x1, x5, x14, x15, x16 => if x16 < x15 then (if 0 ≤ x16 then (if x16 < (x14.length : Int) then (if 0 < ((rd_L1 x14 x16).length : Int) then (if (rd (rd_L1 x14 x16) 0) = x1 then (if 1 < ((rd_L1 x14 x16).length : Int) then (if x5.length < 17592186044416 then (impl_VictimsOf.l0 k x1 (x5 ++ [rd (rd_L1 x14 x16) 1]) x14 x15 (wrap64 (x16 + 1))) else (none)) else (none)) else (impl_VictimsOf.l0 k x1 x5 x14 x15 (wrap64 (x16 + 1)))) else (none)) else (none)) else (none)) else (some x5)
def impl_VictimsOf.f (k : Nat) (a0_0 : Int) (l0_1 : List (List Int)) (a1 : Int) : Option (List Int) := (some (([] : List Int) : List Int)).bind fun y118 => ((impl_IsGraph.f k a0_0 l0_1).bind fun t121 => (if t121 = true then (impl_VictimsOf.l0 k a1 y118 l0_1 (l0_1.length : Int) 0) else (some y118)))
theorem impl_VictimsOf.mono_l : ∀ k, (∀ y0 y1 y2 y3 y4, LeO (impl_VictimsOf.l0 k y0 y1 y2 y3 y4) (impl_VictimsOf.l0 (k + 1) y0 y1 y2 y3 y4))
 | 0 => fun _ _ _ _ _ r h => by simp [impl_VictimsOf.l0] at h
 | k + 1 => by
  have ih0 := impl_VictimsOf.mono_l k
  ·
   intro y0 y1 y2 y3 y4
   unfold impl_VictimsOf.l0
   repeat' with_reducible first | exact ih0 _ _ _ _ _ | exact impl_IsGraph.mono _ _ _ | exact LeO.refl _ | exact LeO.none _ | refine LeO.ite ?_ ?_ | refine LeO.bind ?_ (fun _ => ?_)
theorem impl_VictimsOf.mono : ∀ a0 a1 a2 k, LeO (impl_VictimsOf.f k a0 a1 a2) (impl_VictimsOf.f (k + 1) a0 a1 a2) := by
 intro a0 a1 a2 k
 have ih0 := impl_VictimsOf.mono_l k
 unfold impl_VictimsOf.f
 repeat' with_reducible first | exact ih0 _ _ _ _ _ | exact impl_IsGraph.mono _ _ _ | exact LeO.refl _ | exact LeO.none _ | refine LeO.ite ?_ ?_ | refine LeO.bind ?_ (fun _ => ?_)
set_option maxHeartbeats 8000000 in
set_option maxRecDepth 100000 in
theorem impl_VictimsOf.calls (k : Nat) (a0_0 : Int) (A0_1 : Option Addr) (c0_1 : Nat) (l0_1 : List (List Int)) (a1 : Int) (r : List Int) (w : World) (hr0_1 : Kd.C (Kd.slice 3 (Kd.int .i64)) w A0_1 l0_1.length l0_1) (hc0_1 : l0_1.length ≤ c0_1) (h : impl_VictimsOf.f k a0_0 l0_1 a1 = some r) :
  Calls Try.prog 53 #[.agg #[.int .i64 a0_0, .slice A0_1 l0_1.length c0_1], .int .i64 a1] w fun e w' => ∃ v0_ : Value, e = .returned (v0_) ∧ Kd.R (Kd.int .i64) 3 w' w.heap.size (fun _ => True) v0_ r ∧ Below w.heap.size w w' := by
 have hu28 := Try.underlying28
 have HR0_1 := Aside0.mk hr0_1
 have HC0_1 := Aside0.mk hc0_1
 clear hr0_1 hc0_1
 have HB := Aside0.mk (Below.refl w.heap.size w)
 have H : ((some (([] : List Int) : List Int)).bind fun y118 => ((impl_IsGraph.f k a0_0 l0_1).bind fun t121 => (if t121 = true then (impl_VictimsOf.l0 k a1 y118 l0_1 (l0_1.length : Int) 0) else (some y118)))) = some r := h
 clear h
 obtain ⟨y118, hy118⟩ : ∃ y_ : List Int, y_ = (([] : List Int)) := ⟨_, rfl⟩
 replace H : ((impl_IsGraph.f k a0_0 l0_1).bind fun t121 => (if t121 = true then (impl_VictimsOf.l0 k a1 y118 l0_1 (l0_1.length : Int) 0) else (some y118))) = some r := by first | (rw [hy118]; with_reducible exact H) | (have H2_ := (Option.bind_some _ _).symm.trans H; rw [hy118]; with_reducible exact H2_) | (have H2_ := (Option.bind_some _ _).symm.trans H; with_reducible exact H2_) | with_reducible exact H | (rw [hy118]; exact H) | exact H
 have Ny118 := Aside0.mk hy118
 clear hy118
 replace H := Option.bind_eq_some_iff.mp H
 obtain ⟨t121, A30, H⟩ := H
 have A3 := Aside0.mk A30
 clear A30
 by_cases c4 : t121 = true
 rotate_left
 ·
  replace c4 := Bool.eq_false_iff.mpr c4
  subst c4
  rw [if_neg (show ¬ (false = true) by decide)] at H
  obtain rfl := Option.some.inj H
  go_enter Try.func53, Try.ntmps53
  go_wp2_with (first | ((with_reducible refine gate_dst (N := 2) rfl ?_); refine box_event ?hg (N := 2) ?hd (cs := #[.int .i64 a0_0, .slice A0_1 l0_1.length c0_1]) (t := 28) ?hr ?_; (case hd => rfl); (case hg => rfl); (case hr => first | (go_simp; done) | (go_simp; rfl)); intro gb117 hg w19 hbox hb; have n0_ := Aside0.mk (below_step (mB HB.out) hb); have n1_ := Aside0.mk (hbox); have n2_ := Aside0.mk ((by rw [hg]; exact (below_size (mB HB.out)) : w.heap.size ≤ gb117)); have n3_ := Aside0.mk ((by rw [hg]; exact (below_size (mB HB.out)) : w.heap.size ≤ gb117)); clear HB; have HB := n0_; have BK117 := n1_; have GW117 := n2_; have GE117 := n3_; clear n0_ n1_ n2_ n3_; clear hb hbox hg) | ((with_reducible refine gate_dst (N := 8) rfl ?_); refine Kd.R_lit (Kd.int .i64) _ 3 ?hg (N := 8) ?hd (xs := ([] : List Int)) (inner := []) (ok := fun _ => True) (okp := fun _ => True) ?hr ?hp (fun _ hk => hk) trivial (Below.refl _ _) (Nat.le_refl _) (by simp) ?_; (case hd => rfl); (case hg => rfl); (case hr => first | (go_simp; done) | (go_simp; rfl)); (case hp => exact (Reps.none _ _)); intro v119 w20 ho21 hb hg_ hnew_; clear hg_ hnew_; (first | rw [← Ny118.out] at ho21 | (simp only [Int.reduceToNat] at ho21; rw [← Ny118.out] at ho21)); have n0_ := Aside0.mk (Kd.R_lower ho21 (below_size mG)); have n1_ := Aside0.mk (blk_below (g := gb117) (o := .cells #[.int .i64 a0_0, .slice A0_1 l0_1.length c0_1] 28 (0, 0)) ((mK (BK117.out))) hb); have n2_ := Aside0.mk (below_step mG hb); clear BK117 HB; have HO120 := n0_; have BK117 := n1_; have HB := n2_; clear n0_ n1_ n2_; clear hb ho21; have hcz22_0 : w20.cell? ⟨gb117, 0, none⟩ = some (.int .i64 a0_0) := (blk_cell BK117.out 0).trans rfl; have hcz22_1 : w20.cell? ⟨gb117, 1, none⟩ = some (.slice A0_1 l0_1.length c0_1) := (blk_cell BK117.out 1).trans rfl; have hfz22_0 := blk_frozen BK117.out 0; have hfz22_1 := blk_frozen BK117.out 1) | ((with_reducible refine gate_callee (f := 49) rfl ?_); refine goesL_ (some 10) rfl rfl Try.func49 (by kernel_rfl) rfl #[.agg #[.int .i64 a0_0, .slice A0_1 l0_1.length c0_1]] rfl mA ?_; (with_reducible refine (impl_IsGraph.calls k a0_0 _ _ l0_1 false _ ?side1 ?side2 A3.out).mono ?_); (case side1 => exact mC (Kd.C_below HR0_1.out HB.out)); (case side2 => exact HC0_1.out); rintro e w23 ⟨rfl, hb⟩; refine ⟨_, rfl, ?_⟩; have n0_ := Aside0.mk (Kd.R_below (mR HO120.out) hb); have n1_ := Aside0.mk (blk_below (g := gb117) (o := .cells #[.int .i64 a0_0, .slice A0_1 l0_1.length c0_1] 28 (0, 0)) ((mK (BK117.out))) hb); have n2_ := Aside0.mk (below_step mG hb); clear HO120 BK117 HB; have HO120 := n0_; have BK117 := n1_; have HB := n2_; clear n0_ n1_ n2_; (try clear hb)))
  go_ret
  exact ⟨_, mE, by (with_reducible repeat (first | apply Kd.R_alloc | apply Kd.R_drewN | apply Kd.R_drew)); exact HO120.out, mG⟩
 subst c4
 rw [if_pos rfl] at H
 have H' := Aside0.mk H
 clear H
 go_enter Try.func53, Try.ntmps53
 go_wp2_with (first | ((with_reducible refine gate_dst (N := 2) rfl ?_); refine box_event ?hg (N := 2) ?hd (cs := #[.int .i64 a0_0, .slice A0_1 l0_1.length c0_1]) (t := 28) ?hr ?_; (case hd => rfl); (case hg => rfl); (case hr => first | (go_simp; done) | (go_simp; rfl)); intro gb117 hg w5 hbox hb; have n0_ := Aside0.mk (below_step (mB HB.out) hb); have n1_ := Aside0.mk (hbox); have n2_ := Aside0.mk ((by rw [hg]; exact (below_size (mB HB.out)) : w.heap.size ≤ gb117)); have n3_ := Aside0.mk ((by rw [hg]; exact (below_size (mB HB.out)) : w.heap.size ≤ gb117)); clear HB; have HB := n0_; have BK117 := n1_; have GW117 := n2_; have GE117 := n3_; clear n0_ n1_ n2_ n3_; clear hb hbox hg) | ((with_reducible refine gate_dst (N := 8) rfl ?_); refine Kd.R_lit (Kd.int .i64) _ 3 ?hg (N := 8) ?hd (xs := ([] : List Int)) (inner := []) (ok := fun _ => True) (okp := fun _ => True) ?hr ?hp (fun _ hk => hk) trivial (Below.refl _ _) (Nat.le_refl _) (by simp) ?_; (case hd => rfl); (case hg => rfl); (case hr => first | (go_simp; done) | (go_simp; rfl)); (case hp => exact (Reps.none _ _)); intro v119 w6 ho7 hb hg_ hnew_; clear hg_ hnew_; (first | rw [← Ny118.out] at ho7 | (simp only [Int.reduceToNat] at ho7; rw [← Ny118.out] at ho7)); have n0_ := Aside0.mk (Kd.R_lower ho7 (below_size mG)); have n1_ := Aside0.mk (blk_below (g := gb117) (o := .cells #[.int .i64 a0_0, .slice A0_1 l0_1.length c0_1] 28 (0, 0)) ((mK (BK117.out))) hb); have n2_ := Aside0.mk (below_step mG hb); clear BK117 HB; have HO120 := n0_; have BK117 := n1_; have HB := n2_; clear n0_ n1_ n2_; clear hb ho7; have hcz8_0 : w6.cell? ⟨gb117, 0, none⟩ = some (.int .i64 a0_0) := (blk_cell BK117.out 0).trans rfl; have hcz8_1 : w6.cell? ⟨gb117, 1, none⟩ = some (.slice A0_1 l0_1.length c0_1) := (blk_cell BK117.out 1).trans rfl; have hfz8_0 := blk_frozen BK117.out 0; have hfz8_1 := blk_frozen BK117.out 1) | ((with_reducible refine gate_callee (f := 49) rfl ?_); refine goesL_ (some 10) rfl rfl Try.func49 (by kernel_rfl) rfl #[.agg #[.int .i64 a0_0, .slice A0_1 l0_1.length c0_1]] rfl mA ?_; (with_reducible refine (impl_IsGraph.calls k a0_0 _ _ l0_1 true _ ?side1 ?side2 A3.out).mono ?_); (case side1 => exact mC (Kd.C_below HR0_1.out HB.out)); (case side2 => exact HC0_1.out); rintro e w9 ⟨rfl, hb⟩; refine ⟨_, rfl, ?_⟩; have n0_ := Aside0.mk (Kd.R_below (mR HO120.out) hb); have n1_ := Aside0.mk (blk_below (g := gb117) (o := .cells #[.int .i64 a0_0, .slice A0_1 l0_1.length c0_1] 28 (0, 0)) ((mK (BK117.out))) hb); have n2_ := Aside0.mk (below_step mG hb); clear HO120 BK117 HB; have HO120 := n0_; have BK117 := n1_; have HB := n2_; clear n0_ n1_ n2_; (try clear hb); have hcz10_0 : w9.cell? ⟨gb117, 0, none⟩ = some (.int .i64 a0_0) := (blk_cell BK117.out 0).trans rfl; have hcz10_1 : w9.cell? ⟨gb117, 1, none⟩ = some (.slice A0_1 l0_1.length c0_1) := (blk_cell BK117.out 1).trans rfl; have hfz10_0 := blk_frozen BK117.out 0; have hfz10_1 := blk_frozen BK117.out 1))
 go_loopg [5, 16] k (fun kq v5 v16 w' => ∃ (x5_1 : List Int) (x16_1 : Int), v16 = .int .i64 x16_1 ∧ Aside0 (impl_VictimsOf.l0 kq a1 x5_1 l0_1 (l0_1.length : Int) x16_1 = some r) ∧ Aside0 (kq ≤ k) ∧ Aside0 (Kd.R (Kd.int .i64) 3 w' w.heap.size (fun _ => True) v5 x5_1) ∧ Aside0 (w'.heap[gb117]? = some (.cells #[.int .i64 a0_0, (.slice A0_1 l0_1.length c0_1)] 28 (0, 0))) ∧ Aside0 (Below w.heap.size w w'))
 case atStart => exact ⟨(y118), (0), mF, H', ⟨Nat.le_refl _⟩, ⟨mR HO120.out⟩, ⟨(mK (BK117.out))⟩, ⟨mG⟩⟩
 case round =>
  clear H'
  (try clear hcz10_0); (try clear hcz10_1); (try clear hcz8_0); (try clear hcz8_1); (try clear hfz10_0); (try clear hfz10_1); (try clear hfz8_0); (try clear hfz8_1)
  obtain ⟨x5_1, x16_1, rfl, HA, HK1, HO_5, BK117, HB⟩ := hrel
  cases gk with
  | zero => exact absurd HA.out (by simp [impl_VictimsOf.l0])
  | succ k1 =>
   have H := HA.out
   clear HA
   simp only [impl_VictimsOf.l0] at H
   by_cases c11 : x16_1 < (l0_1.length : Int)
   rotate_left
   ·
    rw [if_neg c11] at H
    have c11b0 : decide (x16_1 < (l0_1.length : Int)) = false := decide_eq_false c11
    clear c11
    obtain rfl := Option.some.inj H
    go_wp2
    go_ret
    exact ⟨_, mE, by (with_reducible repeat (first | apply Kd.R_alloc | apply Kd.R_drewN | apply Kd.R_drew)); exact HO_5.out, mG⟩
   rw [if_pos c11] at H
   have c11b0 : decide (x16_1 < (l0_1.length : Int)) = true := decide_eq_true c11
   clear c11
   by_cases c12 : 0 ≤ x16_1
   rotate_left
   ·
    rw [if_neg c12] at H
    exact absurd H (by simp)
   rw [if_pos c12] at H
   have c12b0 : decide (0 ≤ x16_1) = true := decide_eq_true c12
   clear c12
   by_cases c13 : x16_1 < (l0_1.length : Int)
   rotate_left
   ·
    rw [if_neg c13] at H
    exact absurd H (by simp)
   rw [if_pos c13] at H
   have c13b0 : decide (x16_1 < (l0_1.length : Int)) = true := decide_eq_true c13
   clear c13
   by_cases c14 : 0 < ((rd_L1 l0_1 x16_1).length : Int)
   rotate_left
   ·
    rw [if_neg c14] at H
    exact absurd H (by simp)
   rw [if_pos c14] at H
   have c14b0 : decide (0 < ((rd_L1 l0_1 x16_1).length : Int)) = true := decide_eq_true c14
   have c14b1 : decide (0 < (rd_L1 l0_1 x16_1).length) = true := decide_eq_true (by omega)
   clear c14
   by_cases c15 : (rd (rd_L1 l0_1 x16_1) 0) = a1
   rotate_left
   ·
    rw [if_neg c15] at H
    have c15b0 : ((rd (rd_L1 l0_1 x16_1) 0) == a1) = false := beq_eq_false_iff_ne.mpr c15
    have c15b1 : ((rd (rd_L1 l0_1 x16_1) 0) != a1) = true := bne_iff_ne.mpr c15
    have H' := Aside0.mk H
    clear H
    have p122 : 0 ≤ (x16_1 : Int) := mD
    have q122 : x16_1 < (l0_1.length : Int) := mD
    obtain ⟨ad122, A122_0, c122_0, e122, hx122_0, hl122_0, hi122_0⟩ := at_L1 HR0_1.out x16_1 p122 q122
    cases e122
    replace hx122_0 := (HB.out.cell (World.block_lt_of_cell? w _ hx122_0)).trans hx122_0
    have HR122_0 := Aside0.mk hi122_0
    have HC122_0 := Aside0.mk hl122_0
    clear hi122_0 hl122_0
    replace p122 := eq_true p122
    replace q122 := eq_true q122
    have p123 : 0 ≤ (0 : Int) := (by omega)
    have q123 : 0 < ((rd_L1 l0_1 x16_1).length : Int) := mD
    obtain ⟨ad123, e123, hx123_0⟩ := Kd.at_int HR122_0.out 0 p123 q123
    cases e123
    have qi123 : (0 < (rd_L1 l0_1 x16_1).length) = True := eq_true (by omega)
    (try rw [show ((0 : Int)).toNat = 0 from rfl] at hx123_0)
    (try rw [Addr.add_zero'] at hx123_0)
    replace hx123_0 := (HB.out.cell (World.block_lt_of_cell? w _ hx123_0)).trans hx123_0
    replace p123 := eq_true p123
    replace q123 := eq_true q123
    go_wp2
    go_roundg k1
    case measure => have := HK1.out; omega
    case rel => exact ⟨(x5_1), (wrap64 (x16_1 + 1)), mF, H', ⟨by have := HK1.out; omega⟩, ⟨mR HO_5.out⟩, ⟨(mK (BK117.out))⟩, ⟨mG⟩⟩
   rw [if_pos c15] at H
   have c15b0 : ((rd (rd_L1 l0_1 x16_1) 0) == a1) = true := beq_iff_eq.mpr c15
   have c15b1 : ((rd (rd_L1 l0_1 x16_1) 0) != a1) = false := bne_eq_false_iff_eq.mpr c15
   clear c15
   by_cases c16 : 1 < ((rd_L1 l0_1 x16_1).length : Int)
   rotate_left
   ·
    rw [if_neg c16] at H
    exact absurd H (by simp)
   rw [if_pos c16] at H
   have c16b0 : decide (1 < ((rd_L1 l0_1 x16_1).length : Int)) = true := decide_eq_true c16
   have c16b1 : decide (1 < (rd_L1 l0_1 x16_1).length) = true := decide_eq_true (by omega)
   clear c16
   by_cases c17 : x5_1.length < 17592186044416
   rotate_left
   ·
    rw [if_neg c17] at H
    exact absurd H (by simp)
   rw [if_pos c17] at H
   have LMc17 := Aside0.mk c17
   clear c17
   obtain ⟨y125, hy125⟩ : ∃ y_ : List Int, y_ = (x5_1 ++ [rd (rd_L1 l0_1 x16_1) 1]) := ⟨_, rfl⟩
   replace H : (impl_VictimsOf.l0 k1 a1 y125 l0_1 (l0_1.length : Int) (wrap64 (x16_1 + 1))) = some r := by first | (rw [hy125]; with_reducible exact H) | (have H2_ := (Option.bind_some _ _).symm.trans H; rw [hy125]; with_reducible exact H2_) | (have H2_ := (Option.bind_some _ _).symm.trans H; with_reducible exact H2_) | with_reducible exact H | (rw [hy125]; exact H) | exact H
   have Ny125 := Aside0.mk hy125
   clear hy125
   have H' := Aside0.mk H
   clear H
   have p122 : 0 ≤ (x16_1 : Int) := mD
   have q122 : x16_1 < (l0_1.length : Int) := mD
   obtain ⟨ad122, A122_0, c122_0, e122, hx122_0, hl122_0, hi122_0⟩ := at_L1 HR0_1.out x16_1 p122 q122
   cases e122
   replace hx122_0 := (HB.out.cell (World.block_lt_of_cell? w _ hx122_0)).trans hx122_0
   have HR122_0 := Aside0.mk hi122_0
   have HC122_0 := Aside0.mk hl122_0
   clear hi122_0 hl122_0
   replace p122 := eq_true p122
   replace q122 := eq_true q122
   have p123 : 0 ≤ (0 : Int) := (by omega)
   have q123 : 0 < ((rd_L1 l0_1 x16_1).length : Int) := mD
   obtain ⟨ad123, e123, hx123_0⟩ := Kd.at_int HR122_0.out 0 p123 q123
   cases e123
   have qi123 : (0 < (rd_L1 l0_1 x16_1).length) = True := eq_true (by omega)
   (try rw [show ((0 : Int)).toNat = 0 from rfl] at hx123_0)
   (try rw [Addr.add_zero'] at hx123_0)
   replace hx123_0 := (HB.out.cell (World.block_lt_of_cell? w _ hx123_0)).trans hx123_0
   replace p123 := eq_true p123
   replace q123 := eq_true q123
   have p124 : 0 ≤ (1 : Int) := (by omega)
   have q124 : 1 < ((rd_L1 l0_1 x16_1).length : Int) := mD
   obtain ⟨ad124, e124, hx124_0⟩ := Kd.at_int HR122_0.out 1 p124 q124
   obtain rfl : ad123 = ad124 := (by injection e124)
   (try simp only [show (1 : Int).toNat = 1 from rfl, Nat.reduceMul, Nat.reduceEqDiff, Go.Addr.add, ↓reduceIte] at hx124_0)
   have qi124 : (1 < (rd_L1 l0_1 x16_1).length) = True := eq_true (by omega)
   (try rw [show ((1 : Int)).toNat = 1 from rfl] at hx124_0)
   replace hx124_0 := (HB.out.cell (World.block_lt_of_cell? w _ hx124_0)).trans hx124_0
   replace p124 := eq_true p124
   replace q124 := eq_true q124
   go_wp2_with (first | ((with_reducible refine gate_builtin (b := .append) (xs := #[.tmp 25, .tmp 29]) rfl ?_); at_builtin; refine Kd.R_append (Kd.int .i64) (w0 := w) w.heap.size rfl (.tmp 25) (.tmp 29) 25 3 (.int .i64 0) 8 rfl Try.underlying25 info3 rfl (by decide) (by omega) u5 x5_1 (rd (rd_L1 l0_1 x16_1) 1) [.int .i64 (rd (rd_L1 l0_1 x16_1) 1)] (fun _ => True) (fun _ => False) rfl rfl ?aP (fun _ hk => hk.elim) ?aF ?aO ?aB ?aS ?aL ?_; (case aP => exact rfl); (case aB => exact mG); (case aF => exact (fun _ _ => trivial)); (case aO => exact (mR HO_5.out)); (case aS => exact (below_size mG)); (case aL => have := LMc17.out; omega); intro v126 w18 ho hb hg hat; rw [← Ny125.out] at ho; have n0_ := Aside0.mk (blk_grown (g := gb117) (o := .cells #[.int .i64 a0_0, .slice (some ad122) l0_1.length c0_1] 28 (0, 0)) ((mK (BK117.out))) hg (Kd.R_ne HO_5.out BK117.out (by decide))); have n1_ := Aside0.mk (hb); have n2_ := Aside0.mk (ho); clear BK117 HB HO_5; have BK117 := n0_; have HB := n1_; have HO127 := n2_; clear n0_ n1_ n2_; clear ho hb hg hat))
   go_roundg k1
   case measure => have := HK1.out; omega
   case rel => exact ⟨(y125), (wrap64 (x16_1 + 1)), mF, H', ⟨by have := HK1.out; omega⟩, ⟨mR HO127.out⟩, ⟨(mK (BK117.out))⟩, ⟨mG⟩⟩
-- NOT PRINTED: function 134 (cmp_Less_int)

-- NOT PRINTED: function 128 (slices_insertionSortOrdered_int)

-- NOT PRINTED: function 152 (slices_siftDownOrdered_int)

-- NOT PRINTED: function 129 (slices_heapSortOrdered_int)

-- NOT PRINTED: function 137 (bits_Len32)

-- NOT PRINTED: function 138 (bits_Len64)

-- NOT PRINTED: function 113 (bits_Len)

-- NOT PRINTED: function 153 (slices_nextPowerOfTwo)

-- NOT PRINTED: function 154 (slices_xorshift_Next)

-- NOT PRINTED: function 130 (slices_breakPatternsOrdered_int)

-- NOT PRINTED: function 162 (slices_order2Ordered_int)

-- NOT PRINTED: function 156 (slices_medianOrdered_int)

-- NOT PRINTED: function 155 (slices_medianAdjacentOrdered_int)

-- NOT PRINTED: function 131 (slices_choosePivotOrdered_int)

-- NOT PRINTED: function 132 (slices_reverseRangeOrdered_int)

-- NOT PRINTED: function 133 (slices_partialInsertionSortOrdered_int)

-- NOT PRINTED: function 135 (slices_partitionEqualOrdered_int)

-- NOT PRINTED: function 136 (slices_partitionOrdered_int)

-- NOT PRINTED: function 112 (slices_pdqsortOrdered_int)

-- NOT PRINTED: function 81 (slices_Sort_int_int)

-- NOT PRINTED: function 82 (slices_Compact_int_int)


/-! ### impl_HitBy: function 24 -/
def impl_HitBy.l0 : Nat → Int → List (List Int) → List Int → List Int → Int → Int → Option (List Int)
 | 0, _, _, _, _, _, _ => none
 | k + 1, x0, x1, x5, l1, x10, x11 => if x11 < x10 then (if 0 ≤ x11 then (if x11 < (l1.length : Int) then ((impl_VictimsOf.f k x0 x1 (rd l1 x11)).bind fun t => (if x5.length + t.length < 17592186044416 then (impl_HitBy.l0 k x0 x1 (x5 ++ t) l1 x10 (wrap64 (x11 + 1))) else (none))) else (none)) else (none)) else (some x5)
def impl_HitBy.f (k : Nat) (a0_0 : Int) (l0_1 : List (List Int)) (l1 : List Int) : Option (List Int) := (impl_HitBy.l0 k a0_0 l0_1 [] l1 (l1.length : Int) 0).bind fun y => (if y.length < 17592186044416 then (some (Lib.compact (Go.Proofs.YtelkfhlnejlheaaW.Sorts.sorted y))) else (none))
theorem impl_HitBy.mono_l : ∀ k, (∀ y0 y1 y2 y3 y4 y5, LeO (impl_HitBy.l0 k y0 y1 y2 y3 y4 y5) (impl_HitBy.l0 (k + 1) y0 y1 y2 y3 y4 y5))
 | 0 => fun _ _ _ _ _ _ r h => by simp [impl_HitBy.l0] at h
 | k + 1 => by
  have ih0 := impl_HitBy.mono_l k
  intro y0 y1 y2 y3 y4 y5
  unfold impl_HitBy.l0
  refine LeO.ite (LeO.ite (LeO.ite (LeO.bind (impl_VictimsOf.mono _ _ _ _) (fun _ => LeO.ite (ih0 _ _ _ _ _ _) (LeO.none _))) (LeO.none _)) (LeO.none _)) (LeO.refl _)
theorem impl_HitBy.mono : ∀ a0 a1 a2 k, LeO (impl_HitBy.f k a0 a1 a2) (impl_HitBy.f (k + 1) a0 a1 a2) := by
 intro a0 a1 a2 k
 unfold impl_HitBy.f
 exact LeO.bind (impl_HitBy.mono_l k _ _ _ _ _ _) (fun _ => LeO.refl _)
set_option maxHeartbeats 8000000 in
set_option maxRecDepth 100000 in
theorem impl_HitBy.calls (k : Nat) (a0_0 : Int) (A0_1 : Option Addr) (c0_1 : Nat) (l0_1 : List (List Int)) (A1 : Option Addr) (c1 : Nat) (l1 : List Int) (r : List Int) (w : World) (hr0_1 : Kd.C (Kd.slice 3 (Kd.int .i64)) w A0_1 l0_1.length l0_1) (hc0_1 : l0_1.length ≤ c0_1) (hr1 : Kd.C (Kd.int .i64) w A1 l1.length l1) (hc1 : l1.length ≤ c1) (h : impl_HitBy.f k a0_0 l0_1 l1 = some r) :
  Calls Try.prog 24 #[.agg #[.int .i64 a0_0, .slice A0_1 l0_1.length c0_1], .slice A1 l1.length c1] w fun e w' => ∃ v0_ : Value, e = .returned (v0_) ∧ Kd.R (Kd.int .i64) 3 w' w.heap.size (fun _ => True) v0_ r ∧ Below w.heap.size w w' := by
 have hu28 := Try.underlying28
 have HR0_1 := Aside0.mk hr0_1
 have HC0_1 := Aside0.mk hc0_1
 have HR1 := Aside0.mk hr1
 have HC1 := Aside0.mk hc1
 clear hr0_1 hc0_1 hr1 hc1
 have HB := Aside0.mk (Below.refl w.heap.size w)
 obtain ⟨y169, hy169⟩ : ∃ y_ : List Int, y_ = (([] : List Int)) := ⟨_, rfl⟩
 obtain ⟨yy, H0, H⟩ := Option.bind_eq_some_iff.mp (show (impl_HitBy.l0 k a0_0 l0_1 [] l1 (l1.length : Int) 0).bind (fun y => (if y.length < 17592186044416 then (some (Lib.compact (Go.Proofs.YtelkfhlnejlheaaW.Sorts.sorted y))) else (none))) = some r from h)
 clear h
 rw [← hy169] at H0
 have H' := Aside0.mk H0
 have Ny169 := Aside0.mk hy169
 clear hy169 H0
 by_cases hyl : yy.length < 17592186044416
 ·
  rw [if_pos hyl] at H
  have HYL := Aside0.mk hyl
  have HE := Aside0.mk (Option.some.inj H)
  clear hyl H
  go_enter Try.func24, Try.ntmps24
  go_wp2_with (first | ((with_reducible refine gate_dst (N := 2) rfl ?_); refine box_event ?hg (N := 2) ?hd (cs := #[.int .i64 a0_0, .slice A0_1 l0_1.length c0_1]) (t := 28) ?hr ?_; (case hd => rfl); (case hg => rfl); (case hr => first | (go_simp; done) | (go_simp; rfl)); intro gb168 hg w5 hbox hb; have n0_ := Aside0.mk (below_step (mB HB.out) hb); have n1_ := Aside0.mk (hbox); have n2_ := Aside0.mk ((by rw [hg]; exact (below_size (mB HB.out)) : w.heap.size ≤ gb168)); have n3_ := Aside0.mk ((by rw [hg]; exact (below_size (mB HB.out)) : w.heap.size ≤ gb168)); clear HB; have HB := n0_; have BK168 := n1_; have GW168 := n2_; have GE168 := n3_; clear n0_ n1_ n2_ n3_; clear hb hbox hg) | ((with_reducible refine gate_dst (N := 8) rfl ?_); refine Kd.R_lit (Kd.int .i64) _ 3 ?hg (N := 8) ?hd (xs := ([] : List Int)) (inner := []) (ok := fun _ => True) (okp := fun _ => True) ?hr ?hp (fun _ hk => hk) trivial (Below.refl _ _) (Nat.le_refl _) (by simp) ?_; (case hd => rfl); (case hg => rfl); (case hr => first | (go_simp; done) | (go_simp; rfl)); (case hp => exact (Reps.none _ _)); intro v170 w6 ho7 hb hg_ hnew_; clear hg_ hnew_; (first | rw [← Ny169.out] at ho7 | (simp only [Int.reduceToNat] at ho7; rw [← Ny169.out] at ho7)); have n0_ := Aside0.mk (Kd.R_lower ho7 (below_size mG)); have n1_ := Aside0.mk (blk_below (g := gb168) (o := .cells #[.int .i64 a0_0, .slice A0_1 l0_1.length c0_1] 28 (0, 0)) ((mK (BK168.out))) hb); have n2_ := Aside0.mk (below_step mG hb); clear BK168 HB; have HO171 := n0_; have BK168 := n1_; have HB := n2_; clear n0_ n1_ n2_; clear hb ho7))
  go_loopg [5, 11] k (fun kq v5 v11 w' => ∃ (x5_1 : List Int) (x11_1 : Int), v11 = .int .i64 x11_1 ∧ Aside0 (impl_HitBy.l0 kq a0_0 l0_1 x5_1 l1 (l1.length : Int) x11_1 = some yy) ∧ Aside0 (kq ≤ k) ∧ Aside0 (Kd.R (Kd.int .i64) 3 w' w.heap.size (fun _ => True) v5 x5_1) ∧ Aside0 (w'.heap[gb168]? = some (.cells #[.int .i64 a0_0, (.slice A0_1 l0_1.length c0_1)] 28 (0, 0))) ∧ Aside0 (Below w.heap.size w w'))
  case atStart => exact ⟨(y169), (0), mF, H', ⟨Nat.le_refl _⟩, ⟨mR HO171.out⟩, ⟨(mK (BK168.out))⟩, ⟨mG⟩⟩
  case round =>
   clear H'
   obtain ⟨x5_1, x11_1, rfl, HA, HK1, HO_5, BK168, HB⟩ := hrel
   cases gk with
   | zero => exact absurd HA.out (by simp [impl_HitBy.l0])
   | succ k1 =>
    have H := HA.out
    clear HA
    simp only [impl_HitBy.l0] at H
    by_cases c4 : x11_1 < (l1.length : Int)
    rotate_left
    ·
     rw [if_neg c4] at H
     have c4b0 : decide (x11_1 < (l1.length : Int)) = false := decide_eq_false c4
     clear c4
     obtain rfl := Option.some.inj H
     clear H
     go_wp2_with (first | (go_at_call 81; (refine (Go.Proofs.YtelkfhlnejlheaaW.Sorts.sortc (B := w.heap.size) (w0 := w) (mR HO_5.out) (mB HB.out) (Nat.le_refl _) (by have := HYL.out; omega)).mono ?_); rintro e w11 ⟨rfl, hs, hb⟩; have HS := Aside0.mk hs; have HB2 := Aside0.mk hb; clear hs hb) | (go_at_call 82; (refine (Go.Proofs.YtelkfhlnejlheaaW.Sorts.compactc (B := w.heap.size) (w0 := w) (mR HS.out) (by repeat (first | (with_reducible first | exact HB2.out | apply below_alloc | apply pw_below_drewN | apply below_drew1) | exact HB2.out)) (by have := HYL.out; rw [show (Go.Proofs.YtelkfhlnejlheaaW.Sorts.sorted x5_1).length = x5_1.length from List.length_mergeSort _]; omega)).mono ?_); rintro e w12 ⟨v12, rfl, hs, hb⟩; have HT := Aside0.mk hs; have HB3 := Aside0.mk hb; clear hs hb))
     go_ret
     exact ⟨_, rfl, by rw [← HE.out]; exact HT.out, HB3.out⟩
    rw [if_pos c4] at H
    by_cases c5 : 0 ≤ x11_1
    rotate_left
    ·
     rw [if_neg c5] at H
     exact absurd H (by simp)
    rw [if_pos c5, if_pos c4] at H
    have c4b0 : decide (x11_1 < (l1.length : Int)) = true := decide_eq_true c4
    have c5b0 : decide (0 ≤ x11_1) = true := decide_eq_true c5
    replace H := Option.bind_eq_some_iff.mp H
    obtain ⟨t150, A70, H⟩ := H
    have A7 := Aside0.mk A70
    clear A70
    by_cases c6 : x5_1.length + t150.length < 17592186044416
    rotate_left
    ·
     rw [if_neg c6] at H
     exact absurd H (by simp)
    have LM := Aside0.mk c6
    rw [if_pos c6] at H
    have H' := Aside0.mk H
    obtain ⟨y145, hy145⟩ : ∃ y_ : List Int, y_ = (x5_1 ++ t150) := ⟨_, rfl⟩
    have Ny145 := Aside0.mk hy145
    clear H c6 hy145
    obtain ⟨ad149, e149, hx149_0⟩ := Kd.at_int HR1.out x11_1 c5 c4
    cases e149
    replace hx149_0 := (HB.out.cell (World.block_lt_of_cell? w _ hx149_0)).trans hx149_0
    have hcz8_0 := (blk_cell BK168.out 0).trans (show _ = some (Value.int .i64 a0_0) from rfl)
    have hcz8_1 := (blk_cell BK168.out 1).trans (show _ = some (Value.slice A0_1 l0_1.length c0_1) from rfl)
    have hfz8_0 := blk_frozen BK168.out 0
    have hfz8_1 := blk_frozen BK168.out 1
    replace c4 := eq_true c4
    replace c5 := eq_true c5
    go_wp2_with (first | ((with_reducible refine gate_callee (f := 53) rfl ?_); refine goesL_ (some 18) rfl rfl Try.func53 (by kernel_rfl) rfl #[.agg #[.int .i64 a0_0, .slice A0_1 l0_1.length c0_1], .int .i64 (rd l1 x11_1)] rfl mA ?_; (with_reducible refine (impl_VictimsOf.calls k1 a0_0 _ _ l0_1 (rd l1 x11_1) t150 _ ?side1 ?side2 A7.out).mono ?_); (case side1 => exact mC (Kd.C_below HR0_1.out HB.out)); (case side2 => exact HC0_1.out); rintro e w9 ⟨v151, rfl, ho0, hb⟩; refine ⟨_, rfl, ?_⟩; have n0_ := Aside0.mk (Kd.R_below (mR HO_5.out) hb); obtain ⟨At_, ct_, et_⟩ := Kd.R_slice ho0; subst et_; have n1_ := Aside0.mk ho0; have n2_ := Aside0.mk (below_step mG hb); have n3_ := Aside0.mk (blk_below (g := gb168) (o := .cells #[.int .i64 a0_0, .slice A0_1 l0_1.length c0_1] 28 (0, 0)) ((mK (BK168.out))) hb); clear HO_5 HB BK168; have HO_5 := n0_; have HO152 := n1_; have HB := n2_; have BK168 := n3_; clear n0_ n1_ n2_ n3_ hb ho0) | ((with_reducible refine gate_builtin (b := .append) (xs := #[.tmp 15, .tmp 18]) rfl ?_); at_builtin; refine Kd.R_append_rows (Kd.int .i64) (w0 := w) w.heap.size rfl (.tmp 15) (.tmp 18) 25 3 (.int .i64 0) 8 rfl Try.underlying25 info3 rfl (by decide) (by omega) _ x5_1 t150 _ _ _ (fun _ => True) (fun _ => False) rfl rfl ?aO ?aR (fun _ _ h => h) (fun _ h => h.elim) ?aF ?aB ?aS ?aL ?_; (case aR => exact (Kd.R_reads' HO152.out).2.2); (case aB => exact (mB HB.out)); (case aF => exact (fun _ _ => trivial)); (case aO => exact (mR HO_5.out)); (case aS => exact (below_size (mB HB.out))); (case aL => have := LM.out; omega); intro v146 w10 ho hb hg hat; rw [← Ny145.out] at ho; have n0_ := Aside0.mk (hb); have n1_ := Aside0.mk (ho); have n2_ := Aside0.mk ((hg.block gb168 (blk_lt BK168.out) (Kd.R_ne HO_5.out BK168.out (by decide))).trans BK168.out); clear HB; clear HO_5 BK168; have HB := n0_; have HO147 := n1_; have BK168 := n2_; clear n0_ n1_ n2_; clear ho hb hg hat))
    go_roundg k1
    case measure => have := HK1.out; omega
    case rel => exact ⟨y145, (wrap64 (x11_1 + 1)), mF, ⟨by rw [Ny145.out]; exact H'.out⟩, ⟨by have := HK1.out; omega⟩, ⟨mR HO147.out⟩, ⟨(mK (BK168.out))⟩, ⟨mB HB.out⟩⟩
 ·
  rw [if_neg hyl] at H; cases H


/-! ### slices_IndexFunc_L: function 88 -/
def slices_IndexFunc_L.idx (q : List Int → Option Bool) : List (List Int) → Int → Option Int
 | [], _ => some (-1)
 | x :: xs, i => (q x).bind fun t => if t = true then some i else slices_IndexFunc_L.idx q xs (i + 1)
theorem slices_IndexFunc_L.idx_mono {q q' : List Int → Option Bool} (h : ∀ x, LeO (q x) (q' x)) : ∀ xs i, LeO (slices_IndexFunc_L.idx q xs i) (slices_IndexFunc_L.idx q' xs i)
 | [], _ => LeO.refl _
 | x :: xs, i => LeO.bind (h x) (fun _ => LeO.ite (LeO.refl _) (slices_IndexFunc_L.idx_mono h xs (i + 1)))
set_option maxHeartbeats 4000000 in
set_option maxRecDepth 100000 in
theorem slices_IndexFunc_L.calls (q : List Int → Option Bool) (g : Nat) (lb : Array Value) (eg : ∀ args w, (callFunc g args).run Try.prog w = .ok (.enter g args) w) (A0 : Option Addr) (c0 : Nat) (l0 : List (List Int)) (r : Int) (w : World) (hr0 : Kd.C (Kd.slice 3 (Kd.int .i64)) w A0 l0.length l0) (_hc0 : l0.length ≤ c0)
  (hp : ∀ (W : World) (A : Option Addr) (c : Nat) (x : List Int) (t : Bool), Drawn0 w W → Kd.C (Kd.int .i64) W A x.length x → x.length ≤ c → q x = some t → Calls Try.prog g (#[.slice A x.length c] ++ lb) W fun e w' => e = .returned (.bool t) ∧ Drawn0 W w') (h : slices_IndexFunc_L.idx q l0 0 = some r) :
  Calls Try.prog 88 #[.slice A0 l0.length c0, .func (.func g) #[] lb] w fun e w' => e = .returned (.int .i64 r) ∧ Drawn0 w w' := by
 have HR0 := Aside0.mk hr0
 have HP := Aside0.mk hp
 have H' := Aside0.mk (show slices_IndexFunc_L.idx q (l0.drop 0) ((0 : Nat) : Int) = some r by simpa using h)
 have hbig : l0.length ≤ 9223372036854775807 := hr0.2.1
 clear hr0 hp h
 go_enter Try.func88, Try.ntmps88
 go_wp2
 go_loopg [5, 8] l0.length (fun gg _ s8 wr => ∃ i : Nat, i ≤ l0.length ∧ l0.length - i ≤ gg ∧ s8 = .int .i64 i ∧ Aside0 (slices_IndexFunc_L.idx q (l0.drop i) (i : Int) = some r) ∧ Aside0 (Drawn0 w wr))
 case atStart => exact ⟨0, Nat.zero_le _, by omega, rfl, H', ⟨Drawn0.refl w⟩⟩
 case round =>
  clear H'
  obtain ⟨i, hi, hg, rfl, HA, HD⟩ := hrel
  by_cases hlt : i < l0.length
  ·
   have hltz : (i : Int) < (l0.length : Int) := by omega
   have hC : Kd.C (Kd.slice 3 (Kd.int .i64)) wr A0 l0.length l0 := Kd.C_below HR0.out (Drawn0.below HD.out)
   obtain ⟨ad, A1, c1, rfl, hx, hl1, hi1⟩ := at_L1 hC (i : Int) (by omega) hltz
   obtain ⟨x, hxe⟩ : ∃ x, rd_L1 l0 (i : Int) = x := ⟨_, rfl⟩
   rw [hxe] at hx hl1 hi1
   have hdrop : l0.drop i = x :: l0.drop (i + 1) := by
    rw [List.drop_eq_getElem_cons hlt]
    congr 1
    rw [← hxe]
    unfold rd_L1
    simp [List.getD_eq_getElem?_getD, List.getElem?_eq_getElem hlt]
   have H := HA.out
   rw [hdrop] at H
   clear HA hdrop hC
   obtain ⟨t, hq, H⟩ := Option.bind_eq_some_iff.mp (show (q x).bind (fun t => if t = true then some (i : Int) else slices_IndexFunc_L.idx q (l0.drop (i + 1)) ((i : Int) + 1)) = some r from H)
   have hcall := HP.out wr A1 c1 x t HD.out hi1 hl1 hq
   rw [Int.toNat_natCast] at hx
   cases t with
   | true =>
    obtain rfl := Option.some.inj (show some (i : Int) = some r by simpa using H)
    clear H hi1 hq
    go_wp2_with (go_at_fn g; refine hcall.mono ?_; rintro e w' ⟨rfl, hb'⟩)
    go_ret
    exact ⟨rfl, (by obtain ⟨n1, e1⟩ := HD.out; obtain ⟨n2, e2⟩ := hb'; exact ⟨⟨n1 + n2, by rw [e2, e1, World.drewN_drewN]⟩⟩)⟩
   | false =>
    have H2 := Aside0.mk (show slices_IndexFunc_L.idx q (l0.drop (i + 1)) (((i + 1 : Nat)) : Int) = some r by rw [if_neg (by decide)] at H; push_cast; exact H)
    clear H hi1 hq
    go_wp2_with (go_at_fn g; refine hcall.mono ?_; rintro e w' ⟨rfl, hb'⟩)
    go_roundg (l0.length - (i + 1))
    case measure => omega
    case rel => exact ⟨i + 1, by omega, by omega, by go_num, H2, ⟨by obtain ⟨n1, e1⟩ := HD.out; obtain ⟨n2, e2⟩ := hb'; exact ⟨⟨n1 + n2, by rw [e2, e1, World.drewN_drewN]⟩⟩⟩⟩
  ·
   have hltz : ¬ (i : Int) < (l0.length : Int) := by omega
   have : i = l0.length := by omega
   subst this
   have H := HA.out
   rw [List.drop_eq_nil_of_le (Nat.le_refl _)] at H
   obtain rfl := Option.some.inj (show some (-1 : Int) = some r from H)
   clear H HA
   go_wp2
   go_ret
   exact ⟨rfl, HD.out⟩

/-! ### impl_AttackersOf: function 52 -/
def impl_AttackersOf.l0 : Nat → Int → List Int → List (List Int) → Int → Int → Option (List Int)
 | 0, _, _, _, _, _ => none
 | k + 1, x1, x5, x14, x15, x16 => if x16 < x15 then (if 0 ≤ x16 then (if x16 < (x14.length : Int) then (if 1 < ((rd_L1 x14 x16).length : Int) then (if (rd (rd_L1 x14 x16) 1) = x1 then (if 0 < ((rd_L1 x14 x16).length : Int) then (if x5.length < 17592186044416 then (impl_AttackersOf.l0 k x1 (x5 ++ [rd (rd_L1 x14 x16) 0]) x14 x15 (wrap64 (x16 + 1))) else (none)) else (none)) else (impl_AttackersOf.l0 k x1 x5 x14 x15 (wrap64 (x16 + 1)))) else (none)) else (none)) else (none)) else (some x5)
def impl_AttackersOf.f (k : Nat) (a0_0 : Int) (l0_1 : List (List Int)) (a1 : Int) : Option (List Int) := (some (([] : List Int) : List Int)).bind fun y143 => ((impl_IsGraph.f k a0_0 l0_1).bind fun t146 => (if t146 = true then (impl_AttackersOf.l0 k a1 y143 l0_1 (l0_1.length : Int) 0) else (some y143)))
theorem impl_AttackersOf.mono_l : ∀ k, (∀ y0 y1 y2 y3 y4, LeO (impl_AttackersOf.l0 k y0 y1 y2 y3 y4) (impl_AttackersOf.l0 (k + 1) y0 y1 y2 y3 y4))
 | 0 => fun _ _ _ _ _ r h => by simp [impl_AttackersOf.l0] at h
 | k + 1 => by
  have ih0 := impl_AttackersOf.mono_l k
  ·
   intro y0 y1 y2 y3 y4
   unfold impl_AttackersOf.l0
   repeat' with_reducible first | exact ih0 _ _ _ _ _ | exact impl_IsGraph.mono _ _ _ | exact LeO.refl _ | exact LeO.none _ | refine LeO.ite ?_ ?_ | refine LeO.bind ?_ (fun _ => ?_)
theorem impl_AttackersOf.mono : ∀ a0 a1 a2 k, LeO (impl_AttackersOf.f k a0 a1 a2) (impl_AttackersOf.f (k + 1) a0 a1 a2) := by
 intro a0 a1 a2 k
 have ih0 := impl_AttackersOf.mono_l k
 unfold impl_AttackersOf.f
 repeat' with_reducible first | exact ih0 _ _ _ _ _ | exact impl_IsGraph.mono _ _ _ | exact LeO.refl _ | exact LeO.none _ | refine LeO.ite ?_ ?_ | refine LeO.bind ?_ (fun _ => ?_)
set_option maxHeartbeats 8000000 in
set_option maxRecDepth 100000 in
theorem impl_AttackersOf.calls (k : Nat) (a0_0 : Int) (A0_1 : Option Addr) (c0_1 : Nat) (l0_1 : List (List Int)) (a1 : Int) (r : List Int) (w : World) (hr0_1 : Kd.C (Kd.slice 3 (Kd.int .i64)) w A0_1 l0_1.length l0_1) (hc0_1 : l0_1.length ≤ c0_1) (h : impl_AttackersOf.f k a0_0 l0_1 a1 = some r) :
  Calls Try.prog 52 #[.agg #[.int .i64 a0_0, .slice A0_1 l0_1.length c0_1], .int .i64 a1] w fun e w' => ∃ v0_ : Value, e = .returned (v0_) ∧ Kd.R (Kd.int .i64) 3 w' w.heap.size (fun _ => True) v0_ r ∧ Below w.heap.size w w' := by
 have hu28 := Try.underlying28
 have HR0_1 := Aside0.mk hr0_1
 have HC0_1 := Aside0.mk hc0_1
 clear hr0_1 hc0_1
 have HB := Aside0.mk (Below.refl w.heap.size w)
 have H : ((some (([] : List Int) : List Int)).bind fun y143 => ((impl_IsGraph.f k a0_0 l0_1).bind fun t146 => (if t146 = true then (impl_AttackersOf.l0 k a1 y143 l0_1 (l0_1.length : Int) 0) else (some y143)))) = some r := h
 clear h
 obtain ⟨y143, hy143⟩ : ∃ y_ : List Int, y_ = (([] : List Int)) := ⟨_, rfl⟩
 replace H : ((impl_IsGraph.f k a0_0 l0_1).bind fun t146 => (if t146 = true then (impl_AttackersOf.l0 k a1 y143 l0_1 (l0_1.length : Int) 0) else (some y143))) = some r := by first | (rw [hy143]; with_reducible exact H) | (have H2_ := (Option.bind_some _ _).symm.trans H; rw [hy143]; with_reducible exact H2_) | (have H2_ := (Option.bind_some _ _).symm.trans H; with_reducible exact H2_) | with_reducible exact H | (rw [hy143]; exact H) | exact H
 have Ny143 := Aside0.mk hy143
 clear hy143
 replace H := Option.bind_eq_some_iff.mp H
 obtain ⟨t146, A30, H⟩ := H
 have A3 := Aside0.mk A30
 clear A30
 by_cases c4 : t146 = true
 rotate_left
 ·
  replace c4 := Bool.eq_false_iff.mpr c4
  subst c4
  rw [if_neg (show ¬ (false = true) by decide)] at H
  obtain rfl := Option.some.inj H
  go_enter Try.func52, Try.ntmps52
  go_wp2_with (first | ((with_reducible refine gate_dst (N := 2) rfl ?_); refine box_event ?hg (N := 2) ?hd (cs := #[.int .i64 a0_0, .slice A0_1 l0_1.length c0_1]) (t := 28) ?hr ?_; (case hd => rfl); (case hg => rfl); (case hr => first | (go_simp; done) | (go_simp; rfl)); intro gb142 hg w19 hbox hb; have n0_ := Aside0.mk (below_step (mB HB.out) hb); have n1_ := Aside0.mk (hbox); have n2_ := Aside0.mk ((by rw [hg]; exact (below_size (mB HB.out)) : w.heap.size ≤ gb142)); have n3_ := Aside0.mk ((by rw [hg]; exact (below_size (mB HB.out)) : w.heap.size ≤ gb142)); clear HB; have HB := n0_; have BK142 := n1_; have GW142 := n2_; have GE142 := n3_; clear n0_ n1_ n2_ n3_; clear hb hbox hg) | ((with_reducible refine gate_dst (N := 8) rfl ?_); refine Kd.R_lit (Kd.int .i64) _ 3 ?hg (N := 8) ?hd (xs := ([] : List Int)) (inner := []) (ok := fun _ => True) (okp := fun _ => True) ?hr ?hp (fun _ hk => hk) trivial (Below.refl _ _) (Nat.le_refl _) (by simp) ?_; (case hd => rfl); (case hg => rfl); (case hr => first | (go_simp; done) | (go_simp; rfl)); (case hp => exact (Reps.none _ _)); intro v144 w20 ho21 hb hg_ hnew_; clear hg_ hnew_; (first | rw [← Ny143.out] at ho21 | (simp only [Int.reduceToNat] at ho21; rw [← Ny143.out] at ho21)); have n0_ := Aside0.mk (Kd.R_lower ho21 (below_size mG)); have n1_ := Aside0.mk (blk_below (g := gb142) (o := .cells #[.int .i64 a0_0, .slice A0_1 l0_1.length c0_1] 28 (0, 0)) ((mK (BK142.out))) hb); have n2_ := Aside0.mk (below_step mG hb); clear BK142 HB; have HO145 := n0_; have BK142 := n1_; have HB := n2_; clear n0_ n1_ n2_; clear hb ho21; have hcz22_0 : w20.cell? ⟨gb142, 0, none⟩ = some (.int .i64 a0_0) := (blk_cell BK142.out 0).trans rfl; have hcz22_1 : w20.cell? ⟨gb142, 1, none⟩ = some (.slice A0_1 l0_1.length c0_1) := (blk_cell BK142.out 1).trans rfl; have hfz22_0 := blk_frozen BK142.out 0; have hfz22_1 := blk_frozen BK142.out 1) | ((with_reducible refine gate_callee (f := 49) rfl ?_); refine goesL_ (some 10) rfl rfl Try.func49 (by kernel_rfl) rfl #[.agg #[.int .i64 a0_0, .slice A0_1 l0_1.length c0_1]] rfl mA ?_; (with_reducible refine (impl_IsGraph.calls k a0_0 _ _ l0_1 false _ ?side1 ?side2 A3.out).mono ?_); (case side1 => exact mC (Kd.C_below HR0_1.out HB.out)); (case side2 => exact HC0_1.out); rintro e w23 ⟨rfl, hb⟩; refine ⟨_, rfl, ?_⟩; have n0_ := Aside0.mk (Kd.R_below (mR HO145.out) hb); have n1_ := Aside0.mk (blk_below (g := gb142) (o := .cells #[.int .i64 a0_0, .slice A0_1 l0_1.length c0_1] 28 (0, 0)) ((mK (BK142.out))) hb); have n2_ := Aside0.mk (below_step mG hb); clear HO145 BK142 HB; have HO145 := n0_; have BK142 := n1_; have HB := n2_; clear n0_ n1_ n2_; (try clear hb)))
  go_ret
  exact ⟨_, mE, by (with_reducible repeat (first | apply Kd.R_alloc | apply Kd.R_drewN | apply Kd.R_drew)); exact HO145.out, mG⟩
 subst c4
 rw [if_pos rfl] at H
 have H' := Aside0.mk H
 clear H
 go_enter Try.func52, Try.ntmps52
 go_wp2_with (first | ((with_reducible refine gate_dst (N := 2) rfl ?_); refine box_event ?hg (N := 2) ?hd (cs := #[.int .i64 a0_0, .slice A0_1 l0_1.length c0_1]) (t := 28) ?hr ?_; (case hd => rfl); (case hg => rfl); (case hr => first | (go_simp; done) | (go_simp; rfl)); intro gb142 hg w5 hbox hb; have n0_ := Aside0.mk (below_step (mB HB.out) hb); have n1_ := Aside0.mk (hbox); have n2_ := Aside0.mk ((by rw [hg]; exact (below_size (mB HB.out)) : w.heap.size ≤ gb142)); have n3_ := Aside0.mk ((by rw [hg]; exact (below_size (mB HB.out)) : w.heap.size ≤ gb142)); clear HB; have HB := n0_; have BK142 := n1_; have GW142 := n2_; have GE142 := n3_; clear n0_ n1_ n2_ n3_; clear hb hbox hg) | ((with_reducible refine gate_dst (N := 8) rfl ?_); refine Kd.R_lit (Kd.int .i64) _ 3 ?hg (N := 8) ?hd (xs := ([] : List Int)) (inner := []) (ok := fun _ => True) (okp := fun _ => True) ?hr ?hp (fun _ hk => hk) trivial (Below.refl _ _) (Nat.le_refl _) (by simp) ?_; (case hd => rfl); (case hg => rfl); (case hr => first | (go_simp; done) | (go_simp; rfl)); (case hp => exact (Reps.none _ _)); intro v144 w6 ho7 hb hg_ hnew_; clear hg_ hnew_; (first | rw [← Ny143.out] at ho7 | (simp only [Int.reduceToNat] at ho7; rw [← Ny143.out] at ho7)); have n0_ := Aside0.mk (Kd.R_lower ho7 (below_size mG)); have n1_ := Aside0.mk (blk_below (g := gb142) (o := .cells #[.int .i64 a0_0, .slice A0_1 l0_1.length c0_1] 28 (0, 0)) ((mK (BK142.out))) hb); have n2_ := Aside0.mk (below_step mG hb); clear BK142 HB; have HO145 := n0_; have BK142 := n1_; have HB := n2_; clear n0_ n1_ n2_; clear hb ho7; have hcz8_0 : w6.cell? ⟨gb142, 0, none⟩ = some (.int .i64 a0_0) := (blk_cell BK142.out 0).trans rfl; have hcz8_1 : w6.cell? ⟨gb142, 1, none⟩ = some (.slice A0_1 l0_1.length c0_1) := (blk_cell BK142.out 1).trans rfl; have hfz8_0 := blk_frozen BK142.out 0; have hfz8_1 := blk_frozen BK142.out 1) | ((with_reducible refine gate_callee (f := 49) rfl ?_); refine goesL_ (some 10) rfl rfl Try.func49 (by kernel_rfl) rfl #[.agg #[.int .i64 a0_0, .slice A0_1 l0_1.length c0_1]] rfl mA ?_; (with_reducible refine (impl_IsGraph.calls k a0_0 _ _ l0_1 true _ ?side1 ?side2 A3.out).mono ?_); (case side1 => exact mC (Kd.C_below HR0_1.out HB.out)); (case side2 => exact HC0_1.out); rintro e w9 ⟨rfl, hb⟩; refine ⟨_, rfl, ?_⟩; have n0_ := Aside0.mk (Kd.R_below (mR HO145.out) hb); have n1_ := Aside0.mk (blk_below (g := gb142) (o := .cells #[.int .i64 a0_0, .slice A0_1 l0_1.length c0_1] 28 (0, 0)) ((mK (BK142.out))) hb); have n2_ := Aside0.mk (below_step mG hb); clear HO145 BK142 HB; have HO145 := n0_; have BK142 := n1_; have HB := n2_; clear n0_ n1_ n2_; (try clear hb); have hcz10_0 : w9.cell? ⟨gb142, 0, none⟩ = some (.int .i64 a0_0) := (blk_cell BK142.out 0).trans rfl; have hcz10_1 : w9.cell? ⟨gb142, 1, none⟩ = some (.slice A0_1 l0_1.length c0_1) := (blk_cell BK142.out 1).trans rfl; have hfz10_0 := blk_frozen BK142.out 0; have hfz10_1 := blk_frozen BK142.out 1))
 go_loopg [5, 16] k (fun kq v5 v16 w' => ∃ (x5_1 : List Int) (x16_1 : Int), v16 = .int .i64 x16_1 ∧ Aside0 (impl_AttackersOf.l0 kq a1 x5_1 l0_1 (l0_1.length : Int) x16_1 = some r) ∧ Aside0 (kq ≤ k) ∧ Aside0 (Kd.R (Kd.int .i64) 3 w' w.heap.size (fun _ => True) v5 x5_1) ∧ Aside0 (w'.heap[gb142]? = some (.cells #[.int .i64 a0_0, (.slice A0_1 l0_1.length c0_1)] 28 (0, 0))) ∧ Aside0 (Below w.heap.size w w'))
 case atStart => exact ⟨(y143), (0), mF, H', ⟨Nat.le_refl _⟩, ⟨mR HO145.out⟩, ⟨(mK (BK142.out))⟩, ⟨mG⟩⟩
 case round =>
  clear H'
  (try clear hcz10_0); (try clear hcz10_1); (try clear hcz8_0); (try clear hcz8_1); (try clear hfz10_0); (try clear hfz10_1); (try clear hfz8_0); (try clear hfz8_1)
  obtain ⟨x5_1, x16_1, rfl, HA, HK1, HO_5, BK142, HB⟩ := hrel
  cases gk with
  | zero => exact absurd HA.out (by simp [impl_AttackersOf.l0])
  | succ k1 =>
   have H := HA.out
   clear HA
   simp only [impl_AttackersOf.l0] at H
   by_cases c11 : x16_1 < (l0_1.length : Int)
   rotate_left
   ·
    rw [if_neg c11] at H
    have c11b0 : decide (x16_1 < (l0_1.length : Int)) = false := decide_eq_false c11
    clear c11
    obtain rfl := Option.some.inj H
    go_wp2
    go_ret
    exact ⟨_, mE, by (with_reducible repeat (first | apply Kd.R_alloc | apply Kd.R_drewN | apply Kd.R_drew)); exact HO_5.out, mG⟩
   rw [if_pos c11] at H
   have c11b0 : decide (x16_1 < (l0_1.length : Int)) = true := decide_eq_true c11
   clear c11
   by_cases c12 : 0 ≤ x16_1
   rotate_left
   ·
    rw [if_neg c12] at H
    exact absurd H (by simp)
   rw [if_pos c12] at H
   have c12b0 : decide (0 ≤ x16_1) = true := decide_eq_true c12
   clear c12
   by_cases c13 : x16_1 < (l0_1.length : Int)
   rotate_left
   ·
    rw [if_neg c13] at H
    exact absurd H (by simp)
   rw [if_pos c13] at H
   have c13b0 : decide (x16_1 < (l0_1.length : Int)) = true := decide_eq_true c13
   clear c13
   by_cases c14 : 1 < ((rd_L1 l0_1 x16_1).length : Int)
   rotate_left
   ·
    rw [if_neg c14] at H
    exact absurd H (by simp)
   rw [if_pos c14] at H
   have c14b0 : decide (1 < ((rd_L1 l0_1 x16_1).length : Int)) = true := decide_eq_true c14
   have c14b1 : decide (1 < (rd_L1 l0_1 x16_1).length) = true := decide_eq_true (by omega)
   clear c14
   by_cases c15 : (rd (rd_L1 l0_1 x16_1) 1) = a1
   rotate_left
   ·
    rw [if_neg c15] at H
    have c15b0 : ((rd (rd_L1 l0_1 x16_1) 1) == a1) = false := beq_eq_false_iff_ne.mpr c15
    have c15b1 : ((rd (rd_L1 l0_1 x16_1) 1) != a1) = true := bne_iff_ne.mpr c15
    have H' := Aside0.mk H
    clear H
    have p147 : 0 ≤ (x16_1 : Int) := mD
    have q147 : x16_1 < (l0_1.length : Int) := mD
    obtain ⟨ad147, A147_0, c147_0, e147, hx147_0, hl147_0, hi147_0⟩ := at_L1 HR0_1.out x16_1 p147 q147
    cases e147
    replace hx147_0 := (HB.out.cell (World.block_lt_of_cell? w _ hx147_0)).trans hx147_0
    have HR147_0 := Aside0.mk hi147_0
    have HC147_0 := Aside0.mk hl147_0
    clear hi147_0 hl147_0
    replace p147 := eq_true p147
    replace q147 := eq_true q147
    have p148 : 0 ≤ (1 : Int) := (by omega)
    have q148 : 1 < ((rd_L1 l0_1 x16_1).length : Int) := mD
    obtain ⟨ad148, e148, hx148_0⟩ := Kd.at_int HR147_0.out 1 p148 q148
    cases e148
    (try simp only [show (1 : Int).toNat = 1 from rfl, Nat.reduceMul, Nat.reduceEqDiff, Go.Addr.add, ↓reduceIte] at hx148_0)
    have qi148 : (1 < (rd_L1 l0_1 x16_1).length) = True := eq_true (by omega)
    (try rw [show ((1 : Int)).toNat = 1 from rfl] at hx148_0)
    replace hx148_0 := (HB.out.cell (World.block_lt_of_cell? w _ hx148_0)).trans hx148_0
    replace p148 := eq_true p148
    replace q148 := eq_true q148
    go_wp2
    go_roundg k1
    case measure => have := HK1.out; omega
    case rel => exact ⟨(x5_1), (wrap64 (x16_1 + 1)), mF, H', ⟨by have := HK1.out; omega⟩, ⟨mR HO_5.out⟩, ⟨(mK (BK142.out))⟩, ⟨mG⟩⟩
   rw [if_pos c15] at H
   have c15b0 : ((rd (rd_L1 l0_1 x16_1) 1) == a1) = true := beq_iff_eq.mpr c15
   have c15b1 : ((rd (rd_L1 l0_1 x16_1) 1) != a1) = false := bne_eq_false_iff_eq.mpr c15
   clear c15
   by_cases c16 : 0 < ((rd_L1 l0_1 x16_1).length : Int)
   rotate_left
   ·
    rw [if_neg c16] at H
    exact absurd H (by simp)
   rw [if_pos c16] at H
   have c16b0 : decide (0 < ((rd_L1 l0_1 x16_1).length : Int)) = true := decide_eq_true c16
   have c16b1 : decide (0 < (rd_L1 l0_1 x16_1).length) = true := decide_eq_true (by omega)
   clear c16
   by_cases c17 : x5_1.length < 17592186044416
   rotate_left
   ·
    rw [if_neg c17] at H
    exact absurd H (by simp)
   rw [if_pos c17] at H
   have LMc17 := Aside0.mk c17
   clear c17
   obtain ⟨y150, hy150⟩ : ∃ y_ : List Int, y_ = (x5_1 ++ [rd (rd_L1 l0_1 x16_1) 0]) := ⟨_, rfl⟩
   replace H : (impl_AttackersOf.l0 k1 a1 y150 l0_1 (l0_1.length : Int) (wrap64 (x16_1 + 1))) = some r := by first | (rw [hy150]; with_reducible exact H) | (have H2_ := (Option.bind_some _ _).symm.trans H; rw [hy150]; with_reducible exact H2_) | (have H2_ := (Option.bind_some _ _).symm.trans H; with_reducible exact H2_) | with_reducible exact H | (rw [hy150]; exact H) | exact H
   have Ny150 := Aside0.mk hy150
   clear hy150
   have H' := Aside0.mk H
   clear H
   have p147 : 0 ≤ (x16_1 : Int) := mD
   have q147 : x16_1 < (l0_1.length : Int) := mD
   obtain ⟨ad147, A147_0, c147_0, e147, hx147_0, hl147_0, hi147_0⟩ := at_L1 HR0_1.out x16_1 p147 q147
   cases e147
   replace hx147_0 := (HB.out.cell (World.block_lt_of_cell? w _ hx147_0)).trans hx147_0
   have HR147_0 := Aside0.mk hi147_0
   have HC147_0 := Aside0.mk hl147_0
   clear hi147_0 hl147_0
   replace p147 := eq_true p147
   replace q147 := eq_true q147
   have p148 : 0 ≤ (1 : Int) := (by omega)
   have q148 : 1 < ((rd_L1 l0_1 x16_1).length : Int) := mD
   obtain ⟨ad148, e148, hx148_0⟩ := Kd.at_int HR147_0.out 1 p148 q148
   cases e148
   (try simp only [show (1 : Int).toNat = 1 from rfl, Nat.reduceMul, Nat.reduceEqDiff, Go.Addr.add, ↓reduceIte] at hx148_0)
   have qi148 : (1 < (rd_L1 l0_1 x16_1).length) = True := eq_true (by omega)
   (try rw [show ((1 : Int)).toNat = 1 from rfl] at hx148_0)
   replace hx148_0 := (HB.out.cell (World.block_lt_of_cell? w _ hx148_0)).trans hx148_0
   replace p148 := eq_true p148
   replace q148 := eq_true q148
   have p149 : 0 ≤ (0 : Int) := (by omega)
   have q149 : 0 < ((rd_L1 l0_1 x16_1).length : Int) := mD
   obtain ⟨ad149, e149, hx149_0⟩ := Kd.at_int HR147_0.out 0 p149 q149
   obtain rfl : ad148 = ad149 := (by injection e149)
   have qi149 : (0 < (rd_L1 l0_1 x16_1).length) = True := eq_true (by omega)
   (try rw [show ((0 : Int)).toNat = 0 from rfl] at hx149_0)
   (try rw [Addr.add_zero'] at hx149_0)
   replace hx149_0 := (HB.out.cell (World.block_lt_of_cell? w _ hx149_0)).trans hx149_0
   replace p149 := eq_true p149
   replace q149 := eq_true q149
   go_wp2_with (first | ((with_reducible refine gate_builtin (b := .append) (xs := #[.tmp 25, .tmp 29]) rfl ?_); at_builtin; refine Kd.R_append (Kd.int .i64) (w0 := w) w.heap.size rfl (.tmp 25) (.tmp 29) 25 3 (.int .i64 0) 8 rfl Try.underlying25 info3 rfl (by decide) (by omega) u5 x5_1 (rd (rd_L1 l0_1 x16_1) 0) [.int .i64 (rd (rd_L1 l0_1 x16_1) 0)] (fun _ => True) (fun _ => False) rfl rfl ?aP (fun _ hk => hk.elim) ?aF ?aO ?aB ?aS ?aL ?_; (case aP => exact rfl); (case aB => exact mG); (case aF => exact (fun _ _ => trivial)); (case aO => exact (mR HO_5.out)); (case aS => exact (below_size mG)); (case aL => have := LMc17.out; omega); intro v151 w18 ho hb hg hat; rw [← Ny150.out] at ho; have n0_ := Aside0.mk (blk_grown (g := gb142) (o := .cells #[.int .i64 a0_0, .slice (some ad147) l0_1.length c0_1] 28 (0, 0)) ((mK (BK142.out))) hg (Kd.R_ne HO_5.out BK142.out (by decide))); have n1_ := Aside0.mk (hb); have n2_ := Aside0.mk (ho); clear BK142 HB HO_5; have BK142 := n0_; have HB := n1_; have HO152 := n2_; clear n0_ n1_ n2_; clear ho hb hg hat))
   go_roundg k1
   case measure => have := HK1.out; omega
   case rel => exact ⟨(y150), (wrap64 (x16_1 + 1)), mF, H', ⟨by have := HK1.out; omega⟩, ⟨mR HO152.out⟩, ⟨(mK (BK142.out))⟩, ⟨mG⟩⟩
/-! ### impl_IsSet: function 57 -/
def impl_IsSet.l0 : Nat → List Int → List Int → Int → Int → Int → List (List Int) → Option (Bool)
 | 0, _, _, _, _, _, _ => none
 | k + 1, x1, x10, x11, x12, x154000, x154001 => if x12 < x11 then (if 0 ≤ x12 then (if x12 < (x10.length : Int) then ((impl_isClaim.f x154000 x154001 (rd x10 x12)).bind fun t156 => (if t156 = true then (if x12 > 0 then (if 0 ≤ (wrap64 (x12 - 1)) then (if (wrap64 (x12 - 1)) < (x1.length : Int) then (if (rd x10 x12) ≤ (rd x1 (wrap64 (x12 - 1))) then (some false) else (impl_IsSet.l0 k x1 x10 x11 (wrap64 (x12 + 1)) x154000 x154001)) else (none)) else (none)) else (impl_IsSet.l0 k x1 x10 x11 (wrap64 (x12 + 1)) x154000 x154001)) else (some false))) else (none)) else (none)) else (some true)
def impl_IsSet.f (k : Nat) (a0_0 : Int) (l0_1 : List (List Int)) (l1 : List Int) : Option (Bool) := (impl_IsGraph.f k a0_0 l0_1).bind fun t154 => (if t154 = true then (impl_IsSet.l0 k l1 l1 (l1.length : Int) 0 a0_0 l0_1) else (some false))
theorem impl_IsSet.mono_l : ∀ k, (∀ y0 y1 y2 y3 y4 y5, LeO (impl_IsSet.l0 k y0 y1 y2 y3 y4 y5) (impl_IsSet.l0 (k + 1) y0 y1 y2 y3 y4 y5))
 | 0 => fun _ _ _ _ _ _ r h => by simp [impl_IsSet.l0] at h
 | k + 1 => by
  have ih0 := impl_IsSet.mono_l k
  ·
   intro y0 y1 y2 y3 y4 y5
   unfold impl_IsSet.l0
   repeat' with_reducible first | exact ih0 _ _ _ _ _ _ | exact impl_IsGraph.mono _ _ _ | exact LeO.refl _ | exact LeO.none _ | refine LeO.ite ?_ ?_ | refine LeO.bind ?_ (fun _ => ?_)
theorem impl_IsSet.mono : ∀ a0 a1 a2 k, LeO (impl_IsSet.f k a0 a1 a2) (impl_IsSet.f (k + 1) a0 a1 a2) := by
 intro a0 a1 a2 k
 have ih0 := impl_IsSet.mono_l k
 unfold impl_IsSet.f
 repeat' with_reducible first | exact ih0 _ _ _ _ _ _ | exact impl_IsGraph.mono _ _ _ | exact LeO.refl _ | exact LeO.none _ | refine LeO.ite ?_ ?_ | refine LeO.bind ?_ (fun _ => ?_)
set_option maxHeartbeats 8000000 in
set_option maxRecDepth 100000 in
theorem impl_IsSet.calls (k : Nat) (a0_0 : Int) (A0_1 : Option Addr) (c0_1 : Nat) (l0_1 : List (List Int)) (A1 : Option Addr) (c1 : Nat) (l1 : List Int) (r : Bool) (w : World) (hr0_1 : Kd.C (Kd.slice 3 (Kd.int .i64)) w A0_1 l0_1.length l0_1) (hc0_1 : l0_1.length ≤ c0_1) (hr1 : Kd.C (Kd.int .i64) w A1 l1.length l1) (hc1 : l1.length ≤ c1) (h : impl_IsSet.f k a0_0 l0_1 l1 = some r) :
  Calls Try.prog 57 #[.agg #[.int .i64 a0_0, .slice A0_1 l0_1.length c0_1], .slice A1 l1.length c1] w fun e w' => e = .returned (.bool r) ∧ Below w.heap.size w w' := by
 have hu28 := Try.underlying28
 have HR0_1 := Aside0.mk hr0_1
 have HC0_1 := Aside0.mk hc0_1
 clear hr0_1 hc0_1
 have HR1 := Aside0.mk hr1
 have HC1 := Aside0.mk hc1
 clear hr1 hc1
 have HB := Aside0.mk (Below.refl w.heap.size w)
 have H : ((impl_IsGraph.f k a0_0 l0_1).bind fun t154 => (if t154 = true then (impl_IsSet.l0 k l1 l1 (l1.length : Int) 0 a0_0 l0_1) else (some false))) = some r := h
 clear h
 replace H := Option.bind_eq_some_iff.mp H
 obtain ⟨t154, A30, H⟩ := H
 have A3 := Aside0.mk A30
 clear A30
 by_cases c4 : t154 = true
 rotate_left
 ·
  replace c4 := Bool.eq_false_iff.mpr c4
  subst c4
  rw [if_neg (show ¬ (false = true) by decide)] at H
  obtain rfl := Option.some.inj H
  go_enter Try.func57, Try.ntmps57
  go_wp2_with (first | ((with_reducible refine gate_dst (N := 2) rfl ?_); refine box_event ?hg (N := 2) ?hd (cs := #[.int .i64 a0_0, .slice A0_1 l0_1.length c0_1]) (t := 28) ?hr ?_; (case hd => rfl); (case hg => rfl); (case hr => first | (go_simp; done) | (go_simp; rfl)); intro gb153 hg w26 hbox hb; have n0_ := Aside0.mk (below_step (mB HB.out) hb); have n1_ := Aside0.mk (hbox); have n2_ := Aside0.mk ((by rw [hg]; exact (below_size (mB HB.out)) : w.heap.size ≤ gb153)); have n3_ := Aside0.mk ((by rw [hg]; exact (below_size (mB HB.out)) : w.heap.size ≤ gb153)); clear HB; have HB := n0_; have BK153 := n1_; have GW153 := n2_; have GE153 := n3_; clear n0_ n1_ n2_ n3_; clear hb hbox hg; have hcz27_0 : w26.cell? ⟨gb153, 0, none⟩ = some (.int .i64 a0_0) := (blk_cell BK153.out 0).trans rfl; have hcz27_1 : w26.cell? ⟨gb153, 1, none⟩ = some (.slice A0_1 l0_1.length c0_1) := (blk_cell BK153.out 1).trans rfl; have hfz27_0 := blk_frozen BK153.out 0; have hfz27_1 := blk_frozen BK153.out 1) | ((with_reducible refine gate_callee (f := 49) rfl ?_); refine goesL_ (some 8) rfl rfl Try.func49 (by kernel_rfl) rfl #[.agg #[.int .i64 a0_0, .slice A0_1 l0_1.length c0_1]] rfl mA ?_; (with_reducible refine (impl_IsGraph.calls k a0_0 _ _ l0_1 false _ ?side1 ?side2 A3.out).mono ?_); (case side1 => exact mC (Kd.C_below HR0_1.out HB.out)); (case side2 => exact HC0_1.out); rintro e w28 ⟨rfl, hb⟩; refine ⟨_, rfl, ?_⟩; have n0_ := Aside0.mk (blk_below (g := gb153) (o := .cells #[.int .i64 a0_0, .slice A0_1 l0_1.length c0_1] 28 (0, 0)) ((mK (BK153.out))) hb); have n1_ := Aside0.mk (below_step mG hb); clear BK153 HB; have BK153 := n0_; have HB := n1_; clear n0_ n1_; (try clear hb)))
  go_ret
  exact ⟨mE, mG⟩
 subst c4
 rw [if_pos rfl] at H
 have H' := Aside0.mk H
 clear H
 go_enter Try.func57, Try.ntmps57
 go_wp2_with (first | ((with_reducible refine gate_dst (N := 2) rfl ?_); refine box_event ?hg (N := 2) ?hd (cs := #[.int .i64 a0_0, .slice A0_1 l0_1.length c0_1]) (t := 28) ?hr ?_; (case hd => rfl); (case hg => rfl); (case hr => first | (go_simp; done) | (go_simp; rfl)); intro gb153 hg w5 hbox hb; have n0_ := Aside0.mk (below_step (mB HB.out) hb); have n1_ := Aside0.mk (hbox); have n2_ := Aside0.mk ((by rw [hg]; exact (below_size (mB HB.out)) : w.heap.size ≤ gb153)); have n3_ := Aside0.mk ((by rw [hg]; exact (below_size (mB HB.out)) : w.heap.size ≤ gb153)); clear HB; have HB := n0_; have BK153 := n1_; have GW153 := n2_; have GE153 := n3_; clear n0_ n1_ n2_ n3_; clear hb hbox hg; have hcz6_0 : w5.cell? ⟨gb153, 0, none⟩ = some (.int .i64 a0_0) := (blk_cell BK153.out 0).trans rfl; have hcz6_1 : w5.cell? ⟨gb153, 1, none⟩ = some (.slice A0_1 l0_1.length c0_1) := (blk_cell BK153.out 1).trans rfl; have hfz6_0 := blk_frozen BK153.out 0; have hfz6_1 := blk_frozen BK153.out 1) | ((with_reducible refine gate_callee (f := 49) rfl ?_); refine goesL_ (some 8) rfl rfl Try.func49 (by kernel_rfl) rfl #[.agg #[.int .i64 a0_0, .slice A0_1 l0_1.length c0_1]] rfl mA ?_; (with_reducible refine (impl_IsGraph.calls k a0_0 _ _ l0_1 true _ ?side1 ?side2 A3.out).mono ?_); (case side1 => exact mC (Kd.C_below HR0_1.out HB.out)); (case side2 => exact HC0_1.out); rintro e w7 ⟨rfl, hb⟩; refine ⟨_, rfl, ?_⟩; have n0_ := Aside0.mk (blk_below (g := gb153) (o := .cells #[.int .i64 a0_0, .slice A0_1 l0_1.length c0_1] 28 (0, 0)) ((mK (BK153.out))) hb); have n1_ := Aside0.mk (below_step mG hb); clear BK153 HB; have BK153 := n0_; have HB := n1_; clear n0_ n1_; (try clear hb)))
 go_loopg [12] k (fun kq v12 w' => ∃ (x12_1 : Int), v12 = .int .i64 x12_1 ∧ Aside0 (impl_IsSet.l0 kq l1 l1 (l1.length : Int) x12_1 a0_0 l0_1 = some r) ∧ Aside0 (kq ≤ k) ∧ Aside0 (w'.heap[gb153]? = some (.cells #[.int .i64 a0_0, (.slice A0_1 l0_1.length c0_1)] 28 (0, 0))) ∧ Aside0 (Below w.heap.size w w'))
 case atStart => exact ⟨(0), mF, H', ⟨Nat.le_refl _⟩, ⟨(mK (BK153.out))⟩, ⟨mG⟩⟩
 case round =>
  clear H'
  (try clear hcz6_0); (try clear hcz6_1); (try clear hfz6_0); (try clear hfz6_1)
  obtain ⟨x12_1, rfl, HA, HK1, BK153, HB⟩ := hrel
  cases gk with
  | zero => exact absurd HA.out (by simp [impl_IsSet.l0])
  | succ k1 =>
   have H := HA.out
   clear HA
   simp only [impl_IsSet.l0] at H
   by_cases c8 : x12_1 < (l1.length : Int)
   rotate_left
   ·
    rw [if_neg c8] at H
    have c8b0 : decide (x12_1 < (l1.length : Int)) = false := decide_eq_false c8
    clear c8
    obtain rfl := Option.some.inj H
    go_wp2
    go_ret
    exact ⟨mE, mG⟩
   rw [if_pos c8] at H
   have c8b0 : decide (x12_1 < (l1.length : Int)) = true := decide_eq_true c8
   clear c8
   by_cases c9 : 0 ≤ x12_1
   rotate_left
   ·
    rw [if_neg c9] at H
    exact absurd H (by simp)
   rw [if_pos c9] at H
   have c9b0 : decide (0 ≤ x12_1) = true := decide_eq_true c9
   clear c9
   by_cases c10 : x12_1 < (l1.length : Int)
   rotate_left
   ·
    rw [if_neg c10] at H
    exact absurd H (by simp)
   rw [if_pos c10] at H
   have c10b0 : decide (x12_1 < (l1.length : Int)) = true := decide_eq_true c10
   clear c10
   replace H := Option.bind_eq_some_iff.mp H
   obtain ⟨t156, A110, H⟩ := H
   have A11 := Aside0.mk A110
   clear A110
   by_cases c12 : t156 = true
   rotate_left
   ·
    replace c12 := Bool.eq_false_iff.mpr c12
    subst c12
    rw [if_neg (show ¬ (false = true) by decide)] at H
    obtain rfl := Option.some.inj H
    have p155 : 0 ≤ (x12_1 : Int) := mD
    have q155 : x12_1 < (l1.length : Int) := mD
    obtain ⟨ad155, e155, hx155_0⟩ := Kd.at_int HR1.out x12_1 p155 q155
    cases e155
    replace hx155_0 := (HB.out.cell (World.block_lt_of_cell? w _ hx155_0)).trans hx155_0
    replace p155 := eq_true p155
    replace q155 := eq_true q155
    have hcz24_0 : wr.cell? ⟨gb153, 0, none⟩ = some (.int .i64 a0_0) := (blk_cell BK153.out 0).trans rfl
    have hcz24_1 : wr.cell? ⟨gb153, 1, none⟩ = some (.slice A0_1 l0_1.length c0_1) := (blk_cell BK153.out 1).trans rfl
    have hfz24_0 := blk_frozen BK153.out 0
    have hfz24_1 := blk_frozen BK153.out 1
    go_wp2_with (first | ((with_reducible refine gate_callee (f := 87) rfl ?_); refine goesL_ (some 19) rfl rfl Try.func87 (by kernel_rfl) rfl #[.agg #[.int .i64 a0_0, .slice A0_1 l0_1.length c0_1], .int .i64 (rd l1 x12_1)] rfl mA ?_; (with_reducible refine (impl_isClaim.calls a0_0 _ _ l0_1 (rd l1 x12_1) false _ ?side1 ?side2 A11.out).mono ?_); (case side1 => exact mC (Kd.C_below HR0_1.out HB.out)); (case side2 => exact HC0_1.out); rintro e w25 ⟨rfl, hb⟩; refine ⟨_, rfl, ?_⟩; have n0_ := Aside0.mk (blk_below (g := gb153) (o := .cells #[.int .i64 a0_0, .slice A0_1 l0_1.length c0_1] 28 (0, 0)) ((mK (BK153.out))) hb); have n1_ := Aside0.mk (below_step mG hb); clear BK153 HB; have BK153 := n0_; have HB := n1_; clear n0_ n1_; (try clear hb)))
    go_ret
    exact ⟨mE, mG⟩
   subst c12
   rw [if_pos rfl] at H
   by_cases c13 : x12_1 > 0
   rotate_left
   ·
    rw [if_neg c13] at H
    have c13b0 : decide (0 < x12_1) = false := decide_eq_false c13
    clear c13
    have H' := Aside0.mk H
    clear H
    have p155 : 0 ≤ (x12_1 : Int) := mD
    have q155 : x12_1 < (l1.length : Int) := mD
    obtain ⟨ad155, e155, hx155_0⟩ := Kd.at_int HR1.out x12_1 p155 q155
    cases e155
    replace hx155_0 := (HB.out.cell (World.block_lt_of_cell? w _ hx155_0)).trans hx155_0
    replace p155 := eq_true p155
    replace q155 := eq_true q155
    have hcz22_0 : wr.cell? ⟨gb153, 0, none⟩ = some (.int .i64 a0_0) := (blk_cell BK153.out 0).trans rfl
    have hcz22_1 : wr.cell? ⟨gb153, 1, none⟩ = some (.slice A0_1 l0_1.length c0_1) := (blk_cell BK153.out 1).trans rfl
    have hfz22_0 := blk_frozen BK153.out 0
    have hfz22_1 := blk_frozen BK153.out 1
    go_wp2_with (first | ((with_reducible refine gate_callee (f := 87) rfl ?_); refine goesL_ (some 19) rfl rfl Try.func87 (by kernel_rfl) rfl #[.agg #[.int .i64 a0_0, .slice A0_1 l0_1.length c0_1], .int .i64 (rd l1 x12_1)] rfl mA ?_; (with_reducible refine (impl_isClaim.calls a0_0 _ _ l0_1 (rd l1 x12_1) true _ ?side1 ?side2 A11.out).mono ?_); (case side1 => exact mC (Kd.C_below HR0_1.out HB.out)); (case side2 => exact HC0_1.out); rintro e w23 ⟨rfl, hb⟩; refine ⟨_, rfl, ?_⟩; have n0_ := Aside0.mk (blk_below (g := gb153) (o := .cells #[.int .i64 a0_0, .slice A0_1 l0_1.length c0_1] 28 (0, 0)) ((mK (BK153.out))) hb); have n1_ := Aside0.mk (below_step mG hb); clear BK153 HB; have BK153 := n0_; have HB := n1_; clear n0_ n1_; (try clear hb)))
    go_roundg k1
    case measure => have := HK1.out; omega
    case rel => exact ⟨(wrap64 (x12_1 + 1)), mF, H', ⟨by have := HK1.out; omega⟩, ⟨(mK (BK153.out))⟩, ⟨mG⟩⟩
   rw [if_pos c13] at H
   have c13b0 : decide (0 < x12_1) = true := decide_eq_true c13
   clear c13
   obtain ⟨ji14, hji14⟩ : ∃ j_ : Int, (wrap64 (x12_1 - 1)) = j_ := ⟨_, rfl⟩
   replace H : (if 0 ≤ (ji14) then (if (ji14) < (l1.length : Int) then (if (rd l1 x12_1) ≤ (rd l1 (ji14)) then (some false) else (impl_IsSet.l0 k1 l1 l1 (l1.length : Int) (wrap64 (x12_1 + 1)) a0_0 l0_1)) else (none)) else (none)) = some r := by first | (rw [hji14] at H; exact H) | (simp only [hji14] at H ⊢; exact H)
   (try rw [hji14] at A11)
   have hji14w : (IntKind.i64.wrap (x12_1 - 1)) = ji14 := (i64_w _).trans hji14
   by_cases c15 : 0 ≤ (ji14)
   rotate_left
   ·
    rw [if_neg c15] at H
    exact absurd H (by simp)
   rw [if_pos c15] at H
   have c15b0 : decide (0 ≤ (ji14)) = true := decide_eq_true c15
   clear c15
   by_cases c16 : (ji14) < (l1.length : Int)
   rotate_left
   ·
    rw [if_neg c16] at H
    exact absurd H (by simp)
   rw [if_pos c16] at H
   have c16b0 : decide ((ji14) < (l1.length : Int)) = true := decide_eq_true c16
   clear c16
   by_cases c17 : (rd l1 x12_1) ≤ (rd l1 (ji14))
   rotate_left
   ·
    rw [if_neg c17] at H
    have c17b0 : decide ((rd l1 x12_1) ≤ (rd l1 (ji14))) = false := decide_eq_false c17
    clear c17
    have H' := Aside0.mk H
    clear H
    have p155 : 0 ≤ (x12_1 : Int) := mD
    have q155 : x12_1 < (l1.length : Int) := mD
    obtain ⟨ad155, e155, hx155_0⟩ := Kd.at_int HR1.out x12_1 p155 q155
    cases e155
    replace hx155_0 := (HB.out.cell (World.block_lt_of_cell? w _ hx155_0)).trans hx155_0
    replace p155 := eq_true p155
    replace q155 := eq_true q155
    have hcz20_0 : wr.cell? ⟨gb153, 0, none⟩ = some (.int .i64 a0_0) := (blk_cell BK153.out 0).trans rfl
    have hcz20_1 : wr.cell? ⟨gb153, 1, none⟩ = some (.slice A0_1 l0_1.length c0_1) := (blk_cell BK153.out 1).trans rfl
    have hfz20_0 := blk_frozen BK153.out 0
    have hfz20_1 := blk_frozen BK153.out 1
    go_wp2_with (first | ((with_reducible refine gate_callee (f := 87) rfl ?_); refine goesL_ (some 19) rfl rfl Try.func87 (by kernel_rfl) rfl #[.agg #[.int .i64 a0_0, .slice A0_1 l0_1.length c0_1], .int .i64 (rd l1 x12_1)] rfl mA ?_; (with_reducible refine (impl_isClaim.calls a0_0 _ _ l0_1 (rd l1 x12_1) true _ ?side1 ?side2 A11.out).mono ?_); (case side1 => exact mC (Kd.C_below HR0_1.out HB.out)); (case side2 => exact HC0_1.out); rintro e w21 ⟨rfl, hb⟩; refine ⟨_, rfl, ?_⟩; have n0_ := Aside0.mk (blk_below (g := gb153) (o := .cells #[.int .i64 a0_0, .slice A0_1 l0_1.length c0_1] 28 (0, 0)) ((mK (BK153.out))) hb); have n1_ := Aside0.mk (below_step mG hb); clear BK153 HB; have BK153 := n0_; have HB := n1_; clear n0_ n1_; (try clear hb); have p157 : 0 ≤ ((ji14) : Int) := mD; have q157 : (ji14) < (l1.length : Int) := mD; obtain ⟨ad157, e157, hx157_0⟩ := Kd.at_int HR1.out (ji14) p157 q157; obtain rfl : ad155 = ad157 := (by injection e157); replace hx157_0 := (HB.out.cell (World.block_lt_of_cell? w _ hx157_0)).trans hx157_0; replace p157 := eq_true p157; replace q157 := eq_true q157))
    go_roundg k1
    case measure => have := HK1.out; omega
    case rel => exact ⟨(wrap64 (x12_1 + 1)), mF, H', ⟨by have := HK1.out; omega⟩, ⟨(mK (BK153.out))⟩, ⟨mG⟩⟩
   rw [if_pos c17] at H
   have c17b0 : decide ((rd l1 x12_1) ≤ (rd l1 (ji14))) = true := decide_eq_true c17
   clear c17
   obtain rfl := Option.some.inj H
   have p155 : 0 ≤ (x12_1 : Int) := mD
   have q155 : x12_1 < (l1.length : Int) := mD
   obtain ⟨ad155, e155, hx155_0⟩ := Kd.at_int HR1.out x12_1 p155 q155
   cases e155
   replace hx155_0 := (HB.out.cell (World.block_lt_of_cell? w _ hx155_0)).trans hx155_0
   replace p155 := eq_true p155
   replace q155 := eq_true q155
   have hcz18_0 : wr.cell? ⟨gb153, 0, none⟩ = some (.int .i64 a0_0) := (blk_cell BK153.out 0).trans rfl
   have hcz18_1 : wr.cell? ⟨gb153, 1, none⟩ = some (.slice A0_1 l0_1.length c0_1) := (blk_cell BK153.out 1).trans rfl
   have hfz18_0 := blk_frozen BK153.out 0
   have hfz18_1 := blk_frozen BK153.out 1
   go_wp2_with (first | ((with_reducible refine gate_callee (f := 87) rfl ?_); refine goesL_ (some 19) rfl rfl Try.func87 (by kernel_rfl) rfl #[.agg #[.int .i64 a0_0, .slice A0_1 l0_1.length c0_1], .int .i64 (rd l1 x12_1)] rfl mA ?_; (with_reducible refine (impl_isClaim.calls a0_0 _ _ l0_1 (rd l1 x12_1) true _ ?side1 ?side2 A11.out).mono ?_); (case side1 => exact mC (Kd.C_below HR0_1.out HB.out)); (case side2 => exact HC0_1.out); rintro e w19 ⟨rfl, hb⟩; refine ⟨_, rfl, ?_⟩; have n0_ := Aside0.mk (blk_below (g := gb153) (o := .cells #[.int .i64 a0_0, .slice A0_1 l0_1.length c0_1] 28 (0, 0)) ((mK (BK153.out))) hb); have n1_ := Aside0.mk (below_step mG hb); clear BK153 HB; have BK153 := n0_; have HB := n1_; clear n0_ n1_; (try clear hb); have p157 : 0 ≤ ((ji14) : Int) := mD; have q157 : (ji14) < (l1.length : Int) := mD; obtain ⟨ad157, e157, hx157_0⟩ := Kd.at_int HR1.out (ji14) p157 q157; obtain rfl : ad155 = ad157 := (by injection e157); replace hx157_0 := (HB.out.cell (World.block_lt_of_cell? w _ hx157_0)).trans hx157_0; replace p157 := eq_true p157; replace q157 := eq_true q157))
   go_ret
   exact ⟨by first | rfl | (simp [errW_none, errW_some] <;> rfl) | (simp only [← hji14]; first | rfl | (simp [errW_none, errW_some] <;> rfl)) | (simp [*, errW_none, errW_some] <;> rfl), mG⟩
/-! ### slices_Index_int_int: function 114 -/
def slices_Index_int_int.l0 : Nat → List Int → Int → Int → Int → Option (Int)
 | 0, _, _, _, _ => none
 | k + 1, x0, x1, x7, x8 => if x8 < x7 then (if 0 ≤ x8 then (if x8 < (x0.length : Int) then (if x1 = (rd x0 x8) then (some x8) else (slices_Index_int_int.l0 k x0 x1 x7 (wrap64 (x8 + 1)))) else (none)) else (none)) else (some (-1))
def slices_Index_int_int.f (k : Nat) (l0 : List Int) (a1 : Int) : Option (Int) := slices_Index_int_int.l0 k l0 a1 (l0.length : Int) 0
theorem slices_Index_int_int.mono_l : ∀ k, (∀ y0 y1 y2 y3, LeO (slices_Index_int_int.l0 k y0 y1 y2 y3) (slices_Index_int_int.l0 (k + 1) y0 y1 y2 y3))
 | 0 => fun _ _ _ _ r h => by simp [slices_Index_int_int.l0] at h
 | k + 1 => by
  have ih0 := slices_Index_int_int.mono_l k
  ·
   intro y0 y1 y2 y3
   unfold slices_Index_int_int.l0
   repeat' with_reducible first | exact ih0 _ _ _ _ | exact LeO.refl _ | exact LeO.none _ | refine LeO.ite ?_ ?_ | refine LeO.bind ?_ (fun _ => ?_)
theorem slices_Index_int_int.mono : ∀ a0 a1 k, LeO (slices_Index_int_int.f k a0 a1) (slices_Index_int_int.f (k + 1) a0 a1) := by
 intro a0 a1 k
 have ih0 := slices_Index_int_int.mono_l k
 unfold slices_Index_int_int.f
 repeat' with_reducible first | exact ih0 _ _ _ _ | exact LeO.refl _ | exact LeO.none _ | refine LeO.ite ?_ ?_ | refine LeO.bind ?_ (fun _ => ?_)
set_option maxHeartbeats 8000000 in
set_option maxRecDepth 100000 in
theorem slices_Index_int_int.calls (k : Nat) (A0 : Option Addr) (c0 : Nat) (l0 : List Int) (a1 : Int) (r : Int) (w : World) (hr0 : Kd.C (Kd.int .i64) w A0 l0.length l0) (hc0 : l0.length ≤ c0) (h : slices_Index_int_int.f k l0 a1 = some r) :
  Calls Try.prog 114 #[.slice A0 l0.length c0, .int .i64 a1] w fun e w' => e = .returned (.int .i64 r) ∧ Drawn0 w w' := by
 have HR0 := Aside0.mk hr0
 have HC0 := Aside0.mk hc0
 clear hr0 hc0
 have H : (slices_Index_int_int.l0 k l0 a1 (l0.length : Int) 0) = some r := h
 clear h
 have H' := Aside0.mk H
 clear H
 go_enter Try.func114, Try.ntmps114
 go_wp2
 go_loopg [8] k (fun kq v8 w' => ∃ (x8_1 : Int), v8 = .int .i64 x8_1 ∧ Aside0 (slices_Index_int_int.l0 kq l0 a1 (l0.length : Int) x8_1 = some r) ∧ Aside0 (kq ≤ k) ∧ Drawn0 w w')
 case atStart => exact ⟨(0), mF, H', ⟨Nat.le_refl _⟩, by repeat (first | exact Drawn0.refl _ | apply Drawn0.step)⟩
 case round =>
  clear H'
  obtain ⟨x8_1, rfl, HA, HK1, ⟨m1, rfl⟩⟩ := hrel
  cases gk with
  | zero => exact absurd HA.out (by simp [slices_Index_int_int.l0])
  | succ k1 =>
   have H := HA.out
   clear HA
   simp only [slices_Index_int_int.l0] at H
   by_cases c3 : x8_1 < (l0.length : Int)
   rotate_left
   ·
    rw [if_neg c3] at H
    have c3b0 : decide (x8_1 < (l0.length : Int)) = false := decide_eq_false c3
    clear c3
    obtain rfl := Option.some.inj H
    go_wp2
    go_ret
    exact ⟨mF, by repeat (first | exact Drawn0.refl _ | apply Drawn0.step)⟩
   rw [if_pos c3] at H
   have c3b0 : decide (x8_1 < (l0.length : Int)) = true := decide_eq_true c3
   clear c3
   by_cases c4 : 0 ≤ x8_1
   rotate_left
   ·
    rw [if_neg c4] at H
    exact absurd H (by simp)
   rw [if_pos c4] at H
   have c4b0 : decide (0 ≤ x8_1) = true := decide_eq_true c4
   clear c4
   by_cases c5 : x8_1 < (l0.length : Int)
   rotate_left
   ·
    rw [if_neg c5] at H
    exact absurd H (by simp)
   rw [if_pos c5] at H
   have c5b0 : decide (x8_1 < (l0.length : Int)) = true := decide_eq_true c5
   clear c5
   by_cases c6 : a1 = (rd l0 x8_1)
   ·
    rw [if_pos c6] at H
    have c6b0 : (a1 == (rd l0 x8_1)) = true := beq_iff_eq.mpr c6
    have c6b1 : (a1 != (rd l0 x8_1)) = false := bne_eq_false_iff_eq.mpr c6
    clear c6
    obtain rfl := Option.some.inj H
    have p158 : 0 ≤ (x8_1 : Int) := mD
    have q158 : x8_1 < (l0.length : Int) := mD
    obtain ⟨ad158, e158, hx158_0⟩ := Kd.at_int HR0.out x8_1 p158 q158
    cases e158
    replace p158 := eq_true p158
    replace q158 := eq_true q158
    go_wp2
    go_ret
    exact ⟨mF, by repeat (first | exact Drawn0.refl _ | apply Drawn0.step)⟩
   rw [if_neg c6] at H
   have c6b0 : (a1 == (rd l0 x8_1)) = false := beq_eq_false_iff_ne.mpr c6
   have c6b1 : (a1 != (rd l0 x8_1)) = true := bne_iff_ne.mpr c6
   have H' := Aside0.mk H
   clear H
   have p158 : 0 ≤ (x8_1 : Int) := mD
   have q158 : x8_1 < (l0.length : Int) := mD
   obtain ⟨ad158, e158, hx158_0⟩ := Kd.at_int HR0.out x8_1 p158 q158
   cases e158
   replace p158 := eq_true p158
   replace q158 := eq_true q158
   go_wp2
   go_roundg k1
   case measure => have := HK1.out; omega
   case rel => exact ⟨(wrap64 (x8_1 + 1)), mF, H', ⟨by have := HK1.out; omega⟩, by repeat (first | exact Drawn0.refl _ | apply Drawn0.step)⟩
end Go.Proofs.Ytelkfhlnejlheaa.GFnGrounded
