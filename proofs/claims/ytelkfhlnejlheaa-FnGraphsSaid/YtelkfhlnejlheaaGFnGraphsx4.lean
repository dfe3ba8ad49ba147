-- Written by gprint.py, a program of this session, with the printer of the kit as its library. Lean checks it.
import Derived.Test.YtelkfhlnejlheaaGFnGraphsx0
import Derived.Test.YtelkfhlnejlheaaGFnGraphsx3
namespace Go.Proofs.Ytelkfhlnejlheaa.GFnGraphs
open Go.RowKit Go.Proofs.YtelkfhlnejlheaaW.PrintWords Go.Proofs.YtelkfhlnejlheaaW.PrintLast Go.Proofs.YtelkfhlnejlheaaW.PrintMore
attribute [local go_sem] max2_int min2_int max_two min_two max_three min_three max_four min_four   -- for this text's walks alone
set_option linter.unusedVariables false
set_option linter.unusedSimpArgs false

/-! ### spec_IsGraph: function 67 -/
mutual
def spec_IsGraph.l0 : Nat → Int → Int → List (List Int) → Option (Bool)
 | 0, _, _, _ => none
 | k + 1, x3, x159000, x159001 => if x3 < (x159001.length : Int) then (if 0 ≤ x3 then (if ((rd_L1 x159001 x3).length : Int) = 2 then (if 0 < ((rd_L1 x159001 x3).length : Int) then ((spec_l1In.f (rd (rd_L1 x159001 x3) 0) 0 (wrap64 (x159000 - 1))).bind fun t162 => (if t162 = true then (if 1 < ((rd_L1 x159001 x3).length : Int) then ((spec_l1In.f (rd (rd_L1 x159001 x3) 1) 0 (wrap64 (x159000 - 1))).bind fun t164 => (spec_IsGraph.j1 k x3 (rd_L1 x159001 x3) (!t164) x159000 x159001)) else (none)) else (spec_IsGraph.j1 k x3 (rd_L1 x159001 x3) true x159000 x159001))) else (none)) else (spec_IsGraph.j1 k x3 (rd_L1 x159001 x3) true x159000 x159001)) else (none)) else ((spec_l1In.f x159000 0 10).bind fun t159 => (some t159))
def spec_IsGraph.j1 : Nat → Int → List Int → Bool → Int → List (List Int) → Option (Bool)
 | 0, _, _, _, _, _ => none
 | k + 1, x3, x4, x40, x159000, x159001 => if x40 = true then (some false) else (if x3 > 0 then (if 0 ≤ (wrap64 (x3 - 1)) then (if (wrap64 (x3 - 1)) < (x159001.length : Int) then (if 0 < ((rd_L1 x159001 (wrap64 (x3 - 1))).length : Int) then (if 0 < (x4.length : Int) then (if (rd (rd_L1 x159001 (wrap64 (x3 - 1))) 0) > (rd x4 0) then (some false) else (if (rd (rd_L1 x159001 (wrap64 (x3 - 1))) 0) = (rd x4 0) then (if 1 < ((rd_L1 x159001 (wrap64 (x3 - 1))).length : Int) then (if 1 < (x4.length : Int) then (if (rd (rd_L1 x159001 (wrap64 (x3 - 1))) 1) ≥ (rd x4 1) then (some false) else (spec_IsGraph.l0 k (wrap64 (x3 + 1)) x159000 x159001)) else (none)) else (none)) else (spec_IsGraph.l0 k (wrap64 (x3 + 1)) x159000 x159001))) else (none)) else (none)) else (none)) else (none)) else (spec_IsGraph.l0 k (wrap64 (x3 + 1)) x159000 x159001))
end
def spec_IsGraph.f (k : Nat) (a0_0 : Int) (l0_1 : List (List Int)) : Option (Bool) := spec_IsGraph.l0 k 0 a0_0 l0_1
theorem spec_IsGraph.mono_l : ∀ k, (∀ y0 y1 y2, LeO (spec_IsGraph.l0 k y0 y1 y2) (spec_IsGraph.l0 (k + 1) y0 y1 y2)) ∧ (∀ y0 y1 y2 y3 y4, LeO (spec_IsGraph.j1 k y0 y1 y2 y3 y4) (spec_IsGraph.j1 (k + 1) y0 y1 y2 y3 y4))
 | 0 => ⟨fun _ _ _ r h => by simp [spec_IsGraph.l0] at h, fun _ _ _ _ _ r h => by simp [spec_IsGraph.j1] at h⟩
 | k + 1 => by
  obtain ⟨ih0, ih1⟩ := spec_IsGraph.mono_l k
  refine ⟨?_, ?_⟩
  ·
   intro y0 y1 y2
   unfold spec_IsGraph.l0
   repeat' with_reducible first | exact ih0 _ _ _ | exact ih1 _ _ _ _ _ | exact LeO.refl _ | exact LeO.none _ | refine LeO.ite ?_ ?_ | refine LeO.bind ?_ (fun _ => ?_)
  ·
   intro y0 y1 y2 y3 y4
   unfold spec_IsGraph.j1
   repeat' with_reducible first | exact ih0 _ _ _ | exact ih1 _ _ _ _ _ | exact LeO.refl _ | exact LeO.none _ | refine LeO.ite ?_ ?_ | refine LeO.bind ?_ (fun _ => ?_)
theorem spec_IsGraph.mono : ∀ a0 a1 k, LeO (spec_IsGraph.f k a0 a1) (spec_IsGraph.f (k + 1) a0 a1) := by
 intro a0 a1 k
 obtain ⟨ih0, ih1⟩ := spec_IsGraph.mono_l k
 unfold spec_IsGraph.f
 repeat' with_reducible first | exact ih0 _ _ _ | exact ih1 _ _ _ _ _ | exact LeO.refl _ | exact LeO.none _ | refine LeO.ite ?_ ?_ | refine LeO.bind ?_ (fun _ => ?_)
set_option maxHeartbeats 8000000 in
set_option maxRecDepth 100000 in
theorem spec_IsGraph.calls (k : Nat) (a0_0 : Int) (A0_1 : Option Addr) (c0_1 : Nat) (l0_1 : List (List Int)) (r : Bool) (w : World) (hr0_1 : Kd.C (Kd.slice 3 (Kd.int .i64)) w A0_1 l0_1.length l0_1) (hc0_1 : l0_1.length ≤ c0_1) (h : spec_IsGraph.f k a0_0 l0_1 = some r) :
  Calls Try.prog 67 #[.agg #[.int .i64 a0_0, .slice A0_1 l0_1.length c0_1]] w fun e w' => e = .returned (.bool r) ∧ Below w.heap.size w w' := by
 have hu28 := Try.underlying28
 have HR0_1 := Aside0.mk hr0_1
 have HC0_1 := Aside0.mk hc0_1
 clear hr0_1 hc0_1
 have HB := Aside0.mk (Below.refl w.heap.size w)
 have H : (spec_IsGraph.l0 k 0 a0_0 l0_1) = some r := h
 clear h
 have H' := Aside0.mk H
 clear H
 go_enter Try.func67, Try.ntmps67
 go_wp2_with (first | ((with_reducible refine gate_dst (N := 1) rfl ?_); refine box_event ?hg (N := 1) ?hd (cs := #[.int .i64 a0_0, .slice A0_1 l0_1.length c0_1]) (t := 28) ?hr ?_; (case hd => rfl); (case hg => rfl); (case hr => first | (go_simp; done) | (go_simp; rfl)); intro gb158 hg w2 hbox hb; have n0_ := Aside0.mk (below_step (mB HB.out) hb); have n1_ := Aside0.mk (hbox); have n2_ := Aside0.mk ((by rw [hg]; exact (below_size (mB HB.out)) : w.heap.size ≤ gb158)); have n3_ := Aside0.mk ((by rw [hg]; exact (below_size (mB HB.out)) : w.heap.size ≤ gb158)); clear HB; have HB := n0_; have BK158 := n1_; have GW158 := n2_; have GE158 := n3_; clear n0_ n1_ n2_ n3_; clear hb hbox hg))
 repeat (go_quiet (first | ((with_reducible refine gate_dst (N := 1) rfl ?_); refine box_event ?hg (N := 1) ?hd (cs := #[.int .i64 a0_0, .slice A0_1 l0_1.length c0_1]) (t := 28) ?hr ?_; (case hd => rfl); (case hg => rfl); (case hr => first | (go_simp; done) | (go_simp; rfl)); intro gb158 hg w2 hbox hb; have n0_ := Aside0.mk (below_step (mB HB.out) hb); have n1_ := Aside0.mk (hbox); have n2_ := Aside0.mk ((by rw [hg]; exact (below_size (mB HB.out)) : w.heap.size ≤ gb158)); have n3_ := Aside0.mk ((by rw [hg]; exact (below_size (mB HB.out)) : w.heap.size ≤ gb158)); clear HB; have HB := n0_; have BK158 := n1_; have GW158 := n2_; have GE158 := n3_; clear n0_ n1_ n2_ n3_; clear hb hbox hg)); try go_wp2_with (first | ((with_reducible refine gate_dst (N := 1) rfl ?_); refine box_event ?hg (N := 1) ?hd (cs := #[.int .i64 a0_0, .slice A0_1 l0_1.length c0_1]) (t := 28) ?hr ?_; (case hd => rfl); (case hg => rfl); (case hr => first | (go_simp; done) | (go_simp; rfl)); intro gb158 hg w2 hbox hb; have n0_ := Aside0.mk (below_step (mB HB.out) hb); have n1_ := Aside0.mk (hbox); have n2_ := Aside0.mk ((by rw [hg]; exact (below_size (mB HB.out)) : w.heap.size ≤ gb158)); have n3_ := Aside0.mk ((by rw [hg]; exact (below_size (mB HB.out)) : w.heap.size ≤ gb158)); clear HB; have HB := n0_; have BK158 := n1_; have GW158 := n2_; have GE158 := n3_; clear n0_ n1_ n2_ n3_; clear hb hbox hg)))
 go_loopg [3] k (fun kq v3 w' => ∃ (x3_1 : Int), v3 = .int .i64 x3_1 ∧ Aside0 (spec_IsGraph.l0 kq x3_1 a0_0 l0_1 = some r) ∧ Aside0 (kq ≤ k) ∧ Aside0 (w'.heap[gb158]? = some (.cells #[.int .i64 a0_0, (.slice A0_1 l0_1.length c0_1)] 28 (0, 0))) ∧ Aside0 (Below w.heap.size w w'))
 case atStart => exact ⟨(0), mF, H', ⟨Nat.le_refl _⟩, ⟨(mK (BK158.out))⟩, ⟨mG⟩⟩
 case round =>
  clear H'
  obtain ⟨x3_1, rfl, HA, HK1, BK158, HB⟩ := hrel
  cases gk with
  | zero => exact absurd HA.out (by simp [spec_IsGraph.l0])
  | succ k1 =>
   have H := HA.out
   clear HA
   simp only [spec_IsGraph.l0] at H
   by_cases c3 : x3_1 < (l0_1.length : Int)
   rotate_left
   ·
    rw [if_neg c3] at H
    have c3b0 : decide (x3_1 < (l0_1.length : Int)) = false := decide_eq_false c3
    clear c3
    replace H := Option.bind_eq_some_iff.mp H
    obtain ⟨t159, A310, H⟩ := H
    have A31 := Aside0.mk A310
    clear A310
    obtain rfl := Option.some.inj H
    have hcz32_0 : wr.cell? ⟨gb158, 0, none⟩ = some (.int .i64 a0_0) := (blk_cell BK158.out 0).trans rfl
    have hcz32_1 : wr.cell? ⟨gb158, 1, none⟩ = some (.slice A0_1 l0_1.length c0_1) := (blk_cell BK158.out 1).trans rfl
    have hfz32_0 := blk_frozen BK158.out 0
    have hfz32_1 := blk_frozen BK158.out 1
    go_wp2_with (first | (go_at_call 85; (with_reducible refine (spec_l1In.calls a0_0 0 10 t159 _ A31.out).mono ?_); rintro e w' ⟨rfl, ⟨nd, rfl⟩⟩; (try first | exact ⟨rfl, _, World.drewN_drewN _ _ _⟩ | exact ⟨rfl, _, Eq.trans (World.drewN_drewN _ _ _) (congrArg (World.drewN _) (Nat.add_assoc _ _ _))⟩)))
    repeat (go_quiet (first | (go_at_call 85; (with_reducible refine (spec_l1In.calls a0_0 0 10 t159 _ A31.out).mono ?_); rintro e w' ⟨rfl, ⟨nd, rfl⟩⟩; (try first | exact ⟨rfl, _, World.drewN_drewN _ _ _⟩ | exact ⟨rfl, _, Eq.trans (World.drewN_drewN _ _ _) (congrArg (World.drewN _) (Nat.add_assoc _ _ _))⟩))); try go_wp2_with (first | (go_at_call 85; (with_reducible refine (spec_l1In.calls a0_0 0 10 t159 _ A31.out).mono ?_); rintro e w' ⟨rfl, ⟨nd, rfl⟩⟩; (try first | exact ⟨rfl, _, World.drewN_drewN _ _ _⟩ | exact ⟨rfl, _, Eq.trans (World.drewN_drewN _ _ _) (congrArg (World.drewN _) (Nat.add_assoc _ _ _))⟩))))
    go_ret
    exact ⟨mE, mG⟩
   rw [if_pos c3] at H
   have c3b0 : decide (x3_1 < (l0_1.length : Int)) = true := decide_eq_true c3
   clear c3
   by_cases c4 : 0 ≤ x3_1
   rotate_left
   ·
    rw [if_neg c4] at H
    exact absurd H (by simp)
   rw [if_pos c4] at H
   have c4b0 : decide (0 ≤ x3_1) = true := decide_eq_true c4
   clear c4
   have HC5 := Aside0.mk H
   clear H
   have hcz6_0 : wr.cell? ⟨gb158, 0, none⟩ = some (.int .i64 a0_0) := (blk_cell BK158.out 0).trans rfl
   have hcz6_1 : wr.cell? ⟨gb158, 1, none⟩ = some (.slice A0_1 l0_1.length c0_1) := (blk_cell BK158.out 1).trans rfl
   have hfz6_0 := blk_frozen BK158.out 0
   have hfz6_1 := blk_frozen BK158.out 1
   have p160 : 0 ≤ (x3_1 : Int) := mD
   have q160 : x3_1 < (l0_1.length : Int) := mD
   obtain ⟨ad160, A160_0, c160_0, e160, hx160_0, hl160_0, hi160_0⟩ := at_L1 HR0_1.out x3_1 p160 q160
   cases e160
   replace hx160_0 := (HB.out.cell (World.block_lt_of_cell? w _ hx160_0)).trans hx160_0
   have HR160_0 := Aside0.mk hi160_0
   have HC160_0 := Aside0.mk hl160_0
   clear hi160_0 hl160_0
   replace p160 := eq_true p160
   replace q160 := eq_true q160
   go_upto_region 5 with (fail)
   repeat (go_quiet (fail); go_upto_region 5 with (fail))
   go_cut [40] (fun v40 wc => ∃ (kq : Nat) (x40_4 : Bool), v40 = .bool x40_4 ∧ Aside0 (spec_IsGraph.j1 kq x3_1 (rd_L1 l0_1 x3_1) x40_4 a0_0 l0_1 = some r) ∧ Aside0 (kq ≤ k1) ∧ Aside0 (wc.heap[gb158]? = some (.cells #[.int .i64 a0_0, (.slice (some ad160) l0_1.length c0_1)] 28 (0, 0))) ∧ Aside0 (Below w.heap.size w wc))
   case first =>
    have H := HC5.out
    clear HC5
    by_cases c7 : ((rd_L1 l0_1 x3_1).length : Int) = 2
    rotate_left
    ·
     rw [if_neg c7] at H
     have c7b0 : (((rd_L1 l0_1 x3_1).length : Int) == 2) = false := beq_eq_false_iff_ne.mpr c7
     have c7b1 : (((rd_L1 l0_1 x3_1).length : Int) != 2) = true := bne_iff_ne.mpr c7
     (first | rw [c7b0] | (simp only [i64_w, i32_w]; rw [c7b0]) | skip)
     have H' := Aside0.mk H
     clear H
     go_wp2
     repeat (go_quiet (fail); try go_wp2)
     go_meet
     case rel => exact ⟨_, (true), mF, H', ⟨by have := HK1.out; first | omega | exact Nat.le_refl _⟩, ⟨(mK (BK158.out))⟩, ⟨mG⟩⟩
    rw [if_pos c7] at H
    have c7b0 : (((rd_L1 l0_1 x3_1).length : Int) == 2) = true := beq_iff_eq.mpr c7
    have c7b1 : (((rd_L1 l0_1 x3_1).length : Int) != 2) = false := bne_eq_false_iff_eq.mpr c7
    clear c7
    (first | rw [c7b0] | (simp only [i64_w, i32_w]; rw [c7b0]) | skip)
    by_cases c8 : 0 < ((rd_L1 l0_1 x3_1).length : Int)
    rotate_left
    ·
     rw [if_neg c8] at H
     exact absurd H (by simp)
    rw [if_pos c8] at H
    have c8b0 : decide (0 < ((rd_L1 l0_1 x3_1).length : Int)) = true := decide_eq_true c8
    have c8b1 : decide (0 < (rd_L1 l0_1 x3_1).length) = true := decide_eq_true (by omega)
    clear c8
    replace H := Option.bind_eq_some_iff.mp H
    obtain ⟨t162, A90, H⟩ := H
    have A9 := Aside0.mk A90
    clear A90
    by_cases c10 : t162 = true
    rotate_left
    ·
     replace c10 := Bool.eq_false_iff.mpr c10
     subst c10
     rw [if_neg (show ¬ (false = true) by decide)] at H
     have H' := Aside0.mk H
     clear H
     have p161 : 0 ≤ (0 : Int) := (by omega)
     have q161 : 0 < ((rd_L1 l0_1 x3_1).length : Int) := mD
     obtain ⟨ad161, e161, hx161_0⟩ := Kd.at_int HR160_0.out 0 p161 q161
     cases e161
     have qi161 : (0 < (rd_L1 l0_1 x3_1).length) = True := eq_true (by omega)
     (try rw [show ((0 : Int)).toNat = 0 from rfl] at hx161_0)
     (try rw [Addr.add_zero'] at hx161_0)
     replace hx161_0 := (HB.out.cell (World.block_lt_of_cell? w _ hx161_0)).trans hx161_0
     replace p161 := eq_true p161
     replace q161 := eq_true q161
     have hcz14_0 : wr.cell? ⟨gb158, 0, none⟩ = some (.int .i64 a0_0) := (blk_cell BK158.out 0).trans rfl
     have hcz14_1 : wr.cell? ⟨gb158, 1, none⟩ = some (.slice (some ad160) l0_1.length c0_1) := (blk_cell BK158.out 1).trans rfl
     have hfz14_0 := blk_frozen BK158.out 0
     have hfz14_1 := blk_frozen BK158.out 1
     go_wp2_with (first | (go_at_call 85; (with_reducible refine (spec_l1In.calls (rd (rd_L1 l0_1 x3_1) 0) 0 (wrap64 (a0_0 - 1)) false _ A9.out).mono ?_); rintro e w' ⟨rfl, ⟨nd, rfl⟩⟩; (try first | exact ⟨rfl, _, World.drewN_drewN _ _ _⟩ | exact ⟨rfl, _, Eq.trans (World.drewN_drewN _ _ _) (congrArg (World.drewN _) (Nat.add_assoc _ _ _))⟩)))
     repeat (go_quiet (first | (go_at_call 85; (with_reducible refine (spec_l1In.calls (rd (rd_L1 l0_1 x3_1) 0) 0 (wrap64 (a0_0 - 1)) false _ A9.out).mono ?_); rintro e w' ⟨rfl, ⟨nd, rfl⟩⟩; (try first | exact ⟨rfl, _, World.drewN_drewN _ _ _⟩ | exact ⟨rfl, _, Eq.trans (World.drewN_drewN _ _ _) (congrArg (World.drewN _) (Nat.add_assoc _ _ _))⟩))); try go_wp2_with (first | (go_at_call 85; (with_reducible refine (spec_l1In.calls (rd (rd_L1 l0_1 x3_1) 0) 0 (wrap64 (a0_0 - 1)) false _ A9.out).mono ?_); rintro e w' ⟨rfl, ⟨nd, rfl⟩⟩; (try first | exact ⟨rfl, _, World.drewN_drewN _ _ _⟩ | exact ⟨rfl, _, Eq.trans (World.drewN_drewN _ _ _) (congrArg (World.drewN _) (Nat.add_assoc _ _ _))⟩))))
     go_meet
     case rel => exact ⟨_, (true), mF, H', ⟨by have := HK1.out; first | omega | exact Nat.le_refl _⟩, ⟨(mK (BK158.out))⟩, ⟨mG⟩⟩
    subst c10
    rw [if_pos rfl] at H
    by_cases c11 : 1 < ((rd_L1 l0_1 x3_1).length : Int)
    rotate_left
    ·
     rw [if_neg c11] at H
     exact absurd H (by simp)
    rw [if_pos c11] at H
    have c11b0 : decide (1 < ((rd_L1 l0_1 x3_1).length : Int)) = true := decide_eq_true c11
    have c11b1 : decide (1 < (rd_L1 l0_1 x3_1).length) = true := decide_eq_true (by omega)
    clear c11
    replace H := Option.bind_eq_some_iff.mp H
    obtain ⟨t164, A120, H⟩ := H
    have A12 := Aside0.mk A120
    clear A120
    have H' := Aside0.mk H
    clear H
    have p161 : 0 ≤ (0 : Int) := (by omega)
    have q161 : 0 < ((rd_L1 l0_1 x3_1).length : Int) := mD
    obtain ⟨ad161, e161, hx161_0⟩ := Kd.at_int HR160_0.out 0 p161 q161
    cases e161
    have qi161 : (0 < (rd_L1 l0_1 x3_1).length) = True := eq_true (by omega)
    (try rw [show ((0 : Int)).toNat = 0 from rfl] at hx161_0)
    (try rw [Addr.add_zero'] at hx161_0)
    replace hx161_0 := (HB.out.cell (World.block_lt_of_cell? w _ hx161_0)).trans hx161_0
    replace p161 := eq_true p161
    replace q161 := eq_true q161
    have hcz13_0 : wr.cell? ⟨gb158, 0, none⟩ = some (.int .i64 a0_0) := (blk_cell BK158.out 0).trans rfl
    have hcz13_1 : wr.cell? ⟨gb158, 1, none⟩ = some (.slice (some ad160) l0_1.length c0_1) := (blk_cell BK158.out 1).trans rfl
    have hfz13_0 := blk_frozen BK158.out 0
    have hfz13_1 := blk_frozen BK158.out 1
    have p163 : 0 ≤ (1 : Int) := (by omega)
    have q163 : 1 < ((rd_L1 l0_1 x3_1).length : Int) := mD
    obtain ⟨ad163, e163, hx163_0⟩ := Kd.at_int HR160_0.out 1 p163 q163
    obtain rfl : ad161 = ad163 := (by injection e163)
    (try simp only [show (1 : Int).toNat = 1 from rfl, Nat.reduceMul, Nat.reduceEqDiff, Go.Addr.add, ↓reduceIte] at hx163_0)
    have qi163 : (1 < (rd_L1 l0_1 x3_1).length) = True := eq_true (by omega)
    (try rw [show ((1 : Int)).toNat = 1 from rfl] at hx163_0)
    replace hx163_0 := (HB.out.cell (World.block_lt_of_cell? w _ hx163_0)).trans hx163_0
    replace p163 := eq_true p163
    replace q163 := eq_true q163
    go_wp2_with (first | (go_at_call 85; (with_reducible refine (spec_l1In.calls (rd (rd_L1 l0_1 x3_1) 0) 0 (wrap64 (a0_0 - 1)) true _ A9.out).mono ?_); rintro e w' ⟨rfl, ⟨nd, rfl⟩⟩; (try first | exact ⟨rfl, _, World.drewN_drewN _ _ _⟩ | exact ⟨rfl, _, Eq.trans (World.drewN_drewN _ _ _) (congrArg (World.drewN _) (Nat.add_assoc _ _ _))⟩)) | (go_at_call 85; (with_reducible refine (spec_l1In.calls (rd (rd_L1 l0_1 x3_1) 1) 0 (wrap64 (a0_0 - 1)) t164 _ A12.out).mono ?_); rintro e w' ⟨rfl, ⟨nd, rfl⟩⟩; (try first | exact ⟨rfl, _, World.drewN_drewN _ _ _⟩ | exact ⟨rfl, _, Eq.trans (World.drewN_drewN _ _ _) (congrArg (World.drewN _) (Nat.add_assoc _ _ _))⟩)))
    repeat (go_quiet (first | (go_at_call 85; (with_reducible refine (spec_l1In.calls (rd (rd_L1 l0_1 x3_1) 0) 0 (wrap64 (a0_0 - 1)) true _ A9.out).mono ?_); rintro e w' ⟨rfl, ⟨nd, rfl⟩⟩; (try first | exact ⟨rfl, _, World.drewN_drewN _ _ _⟩ | exact ⟨rfl, _, Eq.trans (World.drewN_drewN _ _ _) (congrArg (World.drewN _) (Nat.add_assoc _ _ _))⟩)) | (go_at_call 85; (with_reducible refine (spec_l1In.calls (rd (rd_L1 l0_1 x3_1) 1) 0 (wrap64 (a0_0 - 1)) t164 _ A12.out).mono ?_); rintro e w' ⟨rfl, ⟨nd, rfl⟩⟩; (try first | exact ⟨rfl, _, World.drewN_drewN _ _ _⟩ | exact ⟨rfl, _, Eq.trans (World.drewN_drewN _ _ _) (congrArg (World.drewN _) (Nat.add_assoc _ _ _))⟩))); try go_wp2_with (first | (go_at_call 85; (with_reducible refine (spec_l1In.calls (rd (rd_L1 l0_1 x3_1) 0) 0 (wrap64 (a0_0 - 1)) true _ A9.out).mono ?_); rintro e w' ⟨rfl, ⟨nd, rfl⟩⟩; (try first | exact ⟨rfl, _, World.drewN_drewN _ _ _⟩ | exact ⟨rfl, _, Eq.trans (World.drewN_drewN _ _ _) (congrArg (World.drewN _) (Nat.add_assoc _ _ _))⟩)) | (go_at_call 85; (with_reducible refine (spec_l1In.calls (rd (rd_L1 l0_1 x3_1) 1) 0 (wrap64 (a0_0 - 1)) t164 _ A12.out).mono ?_); rintro e w' ⟨rfl, ⟨nd, rfl⟩⟩; (try first | exact ⟨rfl, _, World.drewN_drewN _ _ _⟩ | exact ⟨rfl, _, Eq.trans (World.drewN_drewN _ _ _) (congrArg (World.drewN _) (Nat.add_assoc _ _ _))⟩))))
    go_meet
    case rel => exact ⟨_, (!t164), mF, H', ⟨by have := HK1.out; first | omega | exact Nat.le_refl _⟩, ⟨(mK (BK158.out))⟩, ⟨mG⟩⟩
   case rest =>
    clear HC5; (try clear hx1); (try clear qi1); (try clear c3b0); (try clear c4b0); (try clear c7b0); (try clear c7b1); (try clear c8b0); (try clear c8b1); (try clear c11b0); (try clear c11b1); (try clear hcz13_0); (try clear hcz13_1); (try clear hcz14_0); (try clear hcz14_1); (try clear hcz6_0); (try clear hcz6_1); (try clear hfz13_0); (try clear hfz13_1); (try clear hfz14_0); (try clear hfz14_1); (try clear hfz6_0); (try clear hfz6_1); (try clear hx160_0); (try clear hx161_0); (try clear hx163_0)
    obtain ⟨kq, x40_4, rfl, HA, HJ4, BK158, HB⟩ := hcut
    cases kq with
    | zero => exact absurd HA.out (by simp [spec_IsGraph.j1])
    | succ kj4 =>
     have H := HA.out
     clear HA
     simp only [spec_IsGraph.j1] at H
     by_cases c15 : x40_4 = true
     ·
      subst c15
      rw [if_pos rfl] at H
      obtain rfl := Option.some.inj H
      go_wp2
      repeat (go_quiet (fail); try go_wp2)
      go_ret
      exact ⟨mE, mG⟩
     replace c15 := Bool.eq_false_iff.mpr c15
     subst c15
     rw [if_neg (show ¬ (false = true) by decide)] at H
     by_cases c16 : x3_1 > 0
     rotate_left
     ·
      rw [if_neg c16] at H
      have c16b0 : decide (0 < x3_1) = false := decide_eq_false c16
      clear c16
      have H' := Aside0.mk H
      clear H
      go_wp2
      repeat (go_quiet (fail); try go_wp2)
      go_roundg kj4
      case measure => have := HK1.out; have := HJ4.out; omega
      case rel => exact ⟨(wrap64 (x3_1 + 1)), mF, H', ⟨by have := HK1.out; have := HJ4.out; omega⟩, ⟨(mK (BK158.out))⟩, ⟨mG⟩⟩
     rw [if_pos c16] at H
     have c16b0 : decide (0 < x3_1) = true := decide_eq_true c16
     clear c16
     obtain ⟨ji17, hji17⟩ : ∃ j_ : Int, (wrap64 (x3_1 - 1)) = j_ := ⟨_, rfl⟩
     replace H : (if 0 ≤ (ji17) then (if (ji17) < (l0_1.length : Int) then (if 0 < ((rd_L1 l0_1 (ji17)).length : Int) then (if 0 < ((rd_L1 l0_1 x3_1).length : Int) then (if (rd (rd_L1 l0_1 (ji17)) 0) > (rd (rd_L1 l0_1 x3_1) 0) then (some false) else (if (rd (rd_L1 l0_1 (ji17)) 0) = (rd (rd_L1 l0_1 x3_1) 0) then (if 1 < ((rd_L1 l0_1 (ji17)).length : Int) then (if 1 < ((rd_L1 l0_1 x3_1).length : Int) then (if (rd (rd_L1 l0_1 (ji17)) 1) ≥ (rd (rd_L1 l0_1 x3_1) 1) then (some false) else (spec_IsGraph.l0 kj4 (wrap64 (x3_1 + 1)) a0_0 l0_1)) else (none)) else (none)) else (spec_IsGraph.l0 kj4 (wrap64 (x3_1 + 1)) a0_0 l0_1))) else (none)) else (none)) else (none)) else (none)) = some r := by first | (rw [hji17] at H; exact H) | (simp only [hji17] at H ⊢; exact H)
     have hji17w : (IntKind.i64.wrap (x3_1 - 1)) = ji17 := (i64_w _).trans hji17
     by_cases c18 : 0 ≤ (ji17)
     rotate_left
     ·
      rw [if_neg c18] at H
      exact absurd H (by simp)
     rw [if_pos c18] at H
     have c18b0 : decide (0 ≤ (ji17)) = true := decide_eq_true c18
     clear c18
     by_cases c19 : (ji17) < (l0_1.length : Int)
     rotate_left
     ·
      rw [if_neg c19] at H
      exact absurd H (by simp)
     rw [if_pos c19] at H
     have c19b0 : decide ((ji17) < (l0_1.length : Int)) = true := decide_eq_true c19
     clear c19
     by_cases c20 : 0 < ((rd_L1 l0_1 (ji17)).length : Int)
     rotate_left
     ·
      rw [if_neg c20] at H
      exact absurd H (by simp)
     rw [if_pos c20] at H
     have c20b0 : decide (0 < ((rd_L1 l0_1 (ji17)).length : Int)) = true := decide_eq_true c20
     have c20b1 : decide (0 < (rd_L1 l0_1 (ji17)).length) = true := decide_eq_true (by omega)
     clear c20
     by_cases c21 : 0 < ((rd_L1 l0_1 x3_1).length : Int)
     rotate_left
     ·
      rw [if_neg c21] at H
      exact absurd H (by simp)
     rw [if_pos c21] at H
     have c21b0 : decide (0 < ((rd_L1 l0_1 x3_1).length : Int)) = true := decide_eq_true c21
     have c21b1 : decide (0 < (rd_L1 l0_1 x3_1).length) = true := decide_eq_true (by omega)
     clear c21
     by_cases c22 : (rd (rd_L1 l0_1 (ji17)) 0) > (rd (rd_L1 l0_1 x3_1) 0)
     ·
      rw [if_pos c22] at H
      have c22b0 : decide ((rd (rd_L1 l0_1 x3_1) 0) < (rd (rd_L1 l0_1 (ji17)) 0)) = true := decide_eq_true c22
      clear c22
      obtain rfl := Option.some.inj H
      have hcz23_0 : wc.cell? ⟨gb158, 0, none⟩ = some (.int .i64 a0_0) := (blk_cell BK158.out 0).trans rfl
      have hcz23_1 : wc.cell? ⟨gb158, 1, none⟩ = some (.slice (some ad160) l0_1.length c0_1) := (blk_cell BK158.out 1).trans rfl
      have hfz23_0 := blk_frozen BK158.out 0
      have hfz23_1 := blk_frozen BK158.out 1
      have p165 : 0 ≤ ((ji17) : Int) := mD
      have q165 : (ji17) < (l0_1.length : Int) := mD
      obtain ⟨ad165, A165_0, c165_0, e165, hx165_0, hl165_0, hi165_0⟩ := at_L1 HR0_1.out (ji17) p165 q165
      obtain rfl : ad160 = ad165 := (by injection e165)
      replace hx165_0 := (HB.out.cell (World.block_lt_of_cell? w _ hx165_0)).trans hx165_0
      have HR165_0 := Aside0.mk hi165_0
      have HC165_0 := Aside0.mk hl165_0
      clear hi165_0 hl165_0
      replace p165 := eq_true p165
      replace q165 := eq_true q165
      have p166 : 0 ≤ (0 : Int) := (by omega)
      have q166 : 0 < ((rd_L1 l0_1 (ji17)).length : Int) := mD
      obtain ⟨ad166, e166, hx166_0⟩ := Kd.at_int HR165_0.out 0 p166 q166
      cases e166
      have qi166 : (0 < (rd_L1 l0_1 (ji17)).length) = True := eq_true (by omega)
      (try rw [show ((0 : Int)).toNat = 0 from rfl] at hx166_0)
      (try rw [Addr.add_zero'] at hx166_0)
      replace hx166_0 := (HB.out.cell (World.block_lt_of_cell? w _ hx166_0)).trans hx166_0
      replace p166 := eq_true p166
      replace q166 := eq_true q166
      have p167 : 0 ≤ (0 : Int) := (by omega)
      have q167 : 0 < ((rd_L1 l0_1 x3_1).length : Int) := mD
      obtain ⟨ad167, e167, hx167_0⟩ := Kd.at_int HR160_0.out 0 p167 q167
      cases e167
      have qi167 : (0 < (rd_L1 l0_1 x3_1).length) = True := eq_true (by omega)
      (try rw [show ((0 : Int)).toNat = 0 from rfl] at hx167_0)
      (try rw [Addr.add_zero'] at hx167_0)
      replace hx167_0 := (HB.out.cell (World.block_lt_of_cell? w _ hx167_0)).trans hx167_0
      replace p167 := eq_true p167
      replace q167 := eq_true q167
      go_wp2
      repeat (go_quiet (fail); try go_wp2)
      go_ret
      exact ⟨by first | rfl | (simp [errW_none, errW_some] <;> rfl) | (simp only [← hji17]; first | rfl | (simp [errW_none, errW_some] <;> rfl)) | (simp [*, errW_none, errW_some] <;> rfl), mG⟩
     rw [if_neg c22] at H
     have c22b0 : decide ((rd (rd_L1 l0_1 x3_1) 0) < (rd (rd_L1 l0_1 (ji17)) 0)) = false := decide_eq_false c22
     clear c22
     by_cases c24 : (rd (rd_L1 l0_1 (ji17)) 0) = (rd (rd_L1 l0_1 x3_1) 0)
     rotate_left
     ·
      rw [if_neg c24] at H
      have c24b0 : ((rd (rd_L1 l0_1 (ji17)) 0) == (rd (rd_L1 l0_1 x3_1) 0)) = false := beq_eq_false_iff_ne.mpr c24
      have c24b1 : ((rd (rd_L1 l0_1 (ji17)) 0) != (rd (rd_L1 l0_1 x3_1) 0)) = true := bne_iff_ne.mpr c24
      have H' := Aside0.mk H
      clear H
      have hcz30_0 : wc.cell? ⟨gb158, 0, none⟩ = some (.int .i64 a0_0) := (blk_cell BK158.out 0).trans rfl
      have hcz30_1 : wc.cell? ⟨gb158, 1, none⟩ = some (.slice (some ad160) l0_1.length c0_1) := (blk_cell BK158.out 1).trans rfl
      have hfz30_0 := blk_frozen BK158.out 0
      have hfz30_1 := blk_frozen BK158.out 1
      have p165 : 0 ≤ ((ji17) : Int) := mD
      have q165 : (ji17) < (l0_1.length : Int) := mD
      obtain ⟨ad165, A165_0, c165_0, e165, hx165_0, hl165_0, hi165_0⟩ := at_L1 HR0_1.out (ji17) p165 q165
      obtain rfl : ad160 = ad165 := (by injection e165)
      replace hx165_0 := (HB.out.cell (World.block_lt_of_cell? w _ hx165_0)).trans hx165_0
      have HR165_0 := Aside0.mk hi165_0
      have HC165_0 := Aside0.mk hl165_0
      clear hi165_0 hl165_0
      replace p165 := eq_true p165
      replace q165 := eq_true q165
      have p166 : 0 ≤ (0 : Int) := (by omega)
      have q166 : 0 < ((rd_L1 l0_1 (ji17)).length : Int) := mD
      obtain ⟨ad166, e166, hx166_0⟩ := Kd.at_int HR165_0.out 0 p166 q166
      cases e166
      have qi166 : (0 < (rd_L1 l0_1 (ji17)).length) = True := eq_true (by omega)
      (try rw [show ((0 : Int)).toNat = 0 from rfl] at hx166_0)
      (try rw [Addr.add_zero'] at hx166_0)
      replace hx166_0 := (HB.out.cell (World.block_lt_of_cell? w _ hx166_0)).trans hx166_0
      replace p166 := eq_true p166
      replace q166 := eq_true q166
      have p167 : 0 ≤ (0 : Int) := (by omega)
      have q167 : 0 < ((rd_L1 l0_1 x3_1).length : Int) := mD
      obtain ⟨ad167, e167, hx167_0⟩ := Kd.at_int HR160_0.out 0 p167 q167
      cases e167
      have qi167 : (0 < (rd_L1 l0_1 x3_1).length) = True := eq_true (by omega)
      (try rw [show ((0 : Int)).toNat = 0 from rfl] at hx167_0)
      (try rw [Addr.add_zero'] at hx167_0)
      replace hx167_0 := (HB.out.cell (World.block_lt_of_cell? w _ hx167_0)).trans hx167_0
      replace p167 := eq_true p167
      replace q167 := eq_true q167
      have p168 : 0 ≤ (0 : Int) := (by omega)
      have q168 : 0 < ((rd_L1 l0_1 (ji17)).length : Int) := mD
      obtain ⟨ad168, e168, hx168_0⟩ := Kd.at_int HR165_0.out 0 p168 q168
      obtain rfl : ad166 = ad168 := (by injection e168)
      have qi168 : (0 < (rd_L1 l0_1 (ji17)).length) = True := eq_true (by omega)
      (try rw [show ((0 : Int)).toNat = 0 from rfl] at hx168_0)
      (try rw [Addr.add_zero'] at hx168_0)
      replace hx168_0 := (HB.out.cell (World.block_lt_of_cell? w _ hx168_0)).trans hx168_0
      replace p168 := eq_true p168
      replace q168 := eq_true q168
      have p169 : 0 ≤ (0 : Int) := (by omega)
      have q169 : 0 < ((rd_L1 l0_1 x3_1).length : Int) := mD
      obtain ⟨ad169, e169, hx169_0⟩ := Kd.at_int HR160_0.out 0 p169 q169
      obtain rfl : ad167 = ad169 := (by injection e169)
      have qi169 : (0 < (rd_L1 l0_1 x3_1).length) = True := eq_true (by omega)
      (try rw [show ((0 : Int)).toNat = 0 from rfl] at hx169_0)
      (try rw [Addr.add_zero'] at hx169_0)
      replace hx169_0 := (HB.out.cell (World.block_lt_of_cell? w _ hx169_0)).trans hx169_0
      replace p169 := eq_true p169
      replace q169 := eq_true q169
      go_wp2
      repeat (go_quiet (fail); try go_wp2)
      go_roundg kj4
      case measure => have := HK1.out; have := HJ4.out; omega
      case rel => exact ⟨(wrap64 (x3_1 + 1)), mF, H', ⟨by have := HK1.out; have := HJ4.out; omega⟩, ⟨(mK (BK158.out))⟩, ⟨mG⟩⟩
     rw [if_pos c24] at H
     have c24b0 : ((rd (rd_L1 l0_1 (ji17)) 0) == (rd (rd_L1 l0_1 x3_1) 0)) = true := beq_iff_eq.mpr c24
     have c24b1 : ((rd (rd_L1 l0_1 (ji17)) 0) != (rd (rd_L1 l0_1 x3_1) 0)) = false := bne_eq_false_iff_eq.mpr c24
     clear c24
     by_cases c25 : 1 < ((rd_L1 l0_1 (ji17)).length : Int)
     rotate_left
     ·
      rw [if_neg c25] at H
      exact absurd H (by simp)
     rw [if_pos c25] at H
     have c25b0 : decide (1 < ((rd_L1 l0_1 (ji17)).length : Int)) = true := decide_eq_true c25
     have c25b1 : decide (1 < (rd_L1 l0_1 (ji17)).length) = true := decide_eq_true (by omega)
     clear c25
     by_cases c26 : 1 < ((rd_L1 l0_1 x3_1).length : Int)
     rotate_left
     ·
      rw [if_neg c26] at H
      exact absurd H (by simp)
     rw [if_pos c26] at H
     have c26b0 : decide (1 < ((rd_L1 l0_1 x3_1).length : Int)) = true := decide_eq_true c26
     have c26b1 : decide (1 < (rd_L1 l0_1 x3_1).length) = true := decide_eq_true (by omega)
     clear c26
     by_cases c27 : (rd (rd_L1 l0_1 (ji17)) 1) ≥ (rd (rd_L1 l0_1 x3_1) 1)
     ·
      rw [if_pos c27] at H
      have c27b0 : decide ((rd (rd_L1 l0_1 x3_1) 1) ≤ (rd (rd_L1 l0_1 (ji17)) 1)) = true := decide_eq_true c27
      clear c27
      obtain rfl := Option.some.inj H
      have hcz28_0 : wc.cell? ⟨gb158, 0, none⟩ = some (.int .i64 a0_0) := (blk_cell BK158.out 0).trans rfl
      have hcz28_1 : wc.cell? ⟨gb158, 1, none⟩ = some (.slice (some ad160) l0_1.length c0_1) := (blk_cell BK158.out 1).trans rfl
      have hfz28_0 := blk_frozen BK158.out 0
      have hfz28_1 := blk_frozen BK158.out 1
      have p165 : 0 ≤ ((ji17) : Int) := mD
      have q165 : (ji17) < (l0_1.length : Int) := mD
      obtain ⟨ad165, A165_0, c165_0, e165, hx165_0, hl165_0, hi165_0⟩ := at_L1 HR0_1.out (ji17) p165 q165
      obtain rfl : ad160 = ad165 := (by injection e165)
      replace hx165_0 := (HB.out.cell (World.block_lt_of_cell? w _ hx165_0)).trans hx165_0
      have HR165_0 := Aside0.mk hi165_0
      have HC165_0 := Aside0.mk hl165_0
      clear hi165_0 hl165_0
      replace p165 := eq_true p165
      replace q165 := eq_true q165
      have p166 : 0 ≤ (0 : Int) := (by omega)
      have q166 : 0 < ((rd_L1 l0_1 (ji17)).length : Int) := mD
      obtain ⟨ad166, e166, hx166_0⟩ := Kd.at_int HR165_0.out 0 p166 q166
      cases e166
      have qi166 : (0 < (rd_L1 l0_1 (ji17)).length) = True := eq_true (by omega)
      (try rw [show ((0 : Int)).toNat = 0 from rfl] at hx166_0)
      (try rw [Addr.add_zero'] at hx166_0)
      replace hx166_0 := (HB.out.cell (World.block_lt_of_cell? w _ hx166_0)).trans hx166_0
      replace p166 := eq_true p166
      replace q166 := eq_true q166
      have p167 : 0 ≤ (0 : Int) := (by omega)
      have q167 : 0 < ((rd_L1 l0_1 x3_1).length : Int) := mD
      obtain ⟨ad167, e167, hx167_0⟩ := Kd.at_int HR160_0.out 0 p167 q167
      cases e167
      have qi167 : (0 < (rd_L1 l0_1 x3_1).length) = True := eq_true (by omega)
      (try rw [show ((0 : Int)).toNat = 0 from rfl] at hx167_0)
      (try rw [Addr.add_zero'] at hx167_0)
      replace hx167_0 := (HB.out.cell (World.block_lt_of_cell? w _ hx167_0)).trans hx167_0
      replace p167 := eq_true p167
      replace q167 := eq_true q167
      have p168 : 0 ≤ (0 : Int) := (by omega)
      have q168 : 0 < ((rd_L1 l0_1 (ji17)).length : Int) := mD
      obtain ⟨ad168, e168, hx168_0⟩ := Kd.at_int HR165_0.out 0 p168 q168
      obtain rfl : ad166 = ad168 := (by injection e168)
      have qi168 : (0 < (rd_L1 l0_1 (ji17)).length) = True := eq_true (by omega)
      (try rw [show ((0 : Int)).toNat = 0 from rfl] at hx168_0)
      (try rw [Addr.add_zero'] at hx168_0)
      replace hx168_0 := (HB.out.cell (World.block_lt_of_cell? w _ hx168_0)).trans hx168_0
      replace p168 := eq_true p168
      replace q168 := eq_true q168
      have p169 : 0 ≤ (0 : Int) := (by omega)
      have q169 : 0 < ((rd_L1 l0_1 x3_1).length : Int) := mD
      obtain ⟨ad169, e169, hx169_0⟩ := Kd.at_int HR160_0.out 0 p169 q169
      obtain rfl : ad167 = ad169 := (by injection e169)
      have qi169 : (0 < (rd_L1 l0_1 x3_1).length) = True := eq_true (by omega)
      (try rw [show ((0 : Int)).toNat = 0 from rfl] at hx169_0)
      (try rw [Addr.add_zero'] at hx169_0)
      replace hx169_0 := (HB.out.cell (World.block_lt_of_cell? w _ hx169_0)).trans hx169_0
      replace p169 := eq_true p169
      replace q169 := eq_true q169
      have p170 : 0 ≤ (1 : Int) := (by omega)
      have q170 : 1 < ((rd_L1 l0_1 (ji17)).length : Int) := mD
      obtain ⟨ad170, e170, hx170_0⟩ := Kd.at_int HR165_0.out 1 p170 q170
      obtain rfl : ad166 = ad170 := (by injection e170)
      (try simp only [show (1 : Int).toNat = 1 from rfl, Nat.reduceMul, Nat.reduceEqDiff, Go.Addr.add, ↓reduceIte] at hx170_0)
      have qi170 : (1 < (rd_L1 l0_1 (ji17)).length) = True := eq_true (by omega)
      (try rw [show ((1 : Int)).toNat = 1 from rfl] at hx170_0)
      replace hx170_0 := (HB.out.cell (World.block_lt_of_cell? w _ hx170_0)).trans hx170_0
      replace p170 := eq_true p170
      replace q170 := eq_true q170
      have p171 : 0 ≤ (1 : Int) := (by omega)
      have q171 : 1 < ((rd_L1 l0_1 x3_1).length : Int) := mD
      obtain ⟨ad171, e171, hx171_0⟩ := Kd.at_int HR160_0.out 1 p171 q171
      obtain rfl : ad167 = ad171 := (by injection e171)
      (try simp only [show (1 : Int).toNat = 1 from rfl, Nat.reduceMul, Nat.reduceEqDiff, Go.Addr.add, ↓reduceIte] at hx171_0)
      have qi171 : (1 < (rd_L1 l0_1 x3_1).length) = True := eq_true (by omega)
      (try rw [show ((1 : Int)).toNat = 1 from rfl] at hx171_0)
      replace hx171_0 := (HB.out.cell (World.block_lt_of_cell? w _ hx171_0)).trans hx171_0
      replace p171 := eq_true p171
      replace q171 := eq_true q171
      go_wp2
      repeat (go_quiet (fail); try go_wp2)
      go_ret
      exact ⟨by first | rfl | (simp [errW_none, errW_some] <;> rfl) | (simp only [← hji17]; first | rfl | (simp [errW_none, errW_some] <;> rfl)) | (simp [*, errW_none, errW_some] <;> rfl), mG⟩
     rw [if_neg c27] at H
     have c27b0 : decide ((rd (rd_L1 l0_1 x3_1) 1) ≤ (rd (rd_L1 l0_1 (ji17)) 1)) = false := decide_eq_false c27
     clear c27
     have H' := Aside0.mk H
     clear H
     have hcz29_0 : wc.cell? ⟨gb158, 0, none⟩ = some (.int .i64 a0_0) := (blk_cell BK158.out 0).trans rfl
     have hcz29_1 : wc.cell? ⟨gb158, 1, none⟩ = some (.slice (some ad160) l0_1.length c0_1) := (blk_cell BK158.out 1).trans rfl
     have hfz29_0 := blk_frozen BK158.out 0
     have hfz29_1 := blk_frozen BK158.out 1
     have p165 : 0 ≤ ((ji17) : Int) := mD
     have q165 : (ji17) < (l0_1.length : Int) := mD
     obtain ⟨ad165, A165_0, c165_0, e165, hx165_0, hl165_0, hi165_0⟩ := at_L1 HR0_1.out (ji17) p165 q165
     obtain rfl : ad160 = ad165 := (by injection e165)
     replace hx165_0 := (HB.out.cell (World.block_lt_of_cell? w _ hx165_0)).trans hx165_0
     have HR165_0 := Aside0.mk hi165_0
     have HC165_0 := Aside0.mk hl165_0
     clear hi165_0 hl165_0
     replace p165 := eq_true p165
     replace q165 := eq_true q165
     have p166 : 0 ≤ (0 : Int) := (by omega)
     have q166 : 0 < ((rd_L1 l0_1 (ji17)).length : Int) := mD
     obtain ⟨ad166, e166, hx166_0⟩ := Kd.at_int HR165_0.out 0 p166 q166
     cases e166
     have qi166 : (0 < (rd_L1 l0_1 (ji17)).length) = True := eq_true (by omega)
     (try rw [show ((0 : Int)).toNat = 0 from rfl] at hx166_0)
     (try rw [Addr.add_zero'] at hx166_0)
     replace hx166_0 := (HB.out.cell (World.block_lt_of_cell? w _ hx166_0)).trans hx166_0
     replace p166 := eq_true p166
     replace q166 := eq_true q166
     have p167 : 0 ≤ (0 : Int) := (by omega)
     have q167 : 0 < ((rd_L1 l0_1 x3_1).length : Int) := mD
     obtain ⟨ad167, e167, hx167_0⟩ := Kd.at_int HR160_0.out 0 p167 q167
     cases e167
     have qi167 : (0 < (rd_L1 l0_1 x3_1).length) = True := eq_true (by omega)
     (try rw [show ((0 : Int)).toNat = 0 from rfl] at hx167_0)
     (try rw [Addr.add_zero'] at hx167_0)
     replace hx167_0 := (HB.out.cell (World.block_lt_of_cell? w _ hx167_0)).trans hx167_0
     replace p167 := eq_true p167
     replace q167 := eq_true q167
     have p168 : 0 ≤ (0 : Int) := (by omega)
     have q168 : 0 < ((rd_L1 l0_1 (ji17)).length : Int) := mD
     obtain ⟨ad168, e168, hx168_0⟩ := Kd.at_int HR165_0.out 0 p168 q168
     obtain rfl : ad166 = ad168 := (by injection e168)
     have qi168 : (0 < (rd_L1 l0_1 (ji17)).length) = True := eq_true (by omega)
     (try rw [show ((0 : Int)).toNat = 0 from rfl] at hx168_0)
     (try rw [Addr.add_zero'] at hx168_0)
     replace hx168_0 := (HB.out.cell (World.block_lt_of_cell? w _ hx168_0)).trans hx168_0
     replace p168 := eq_true p168
     replace q168 := eq_true q168
     have p169 : 0 ≤ (0 : Int) := (by omega)
     have q169 : 0 < ((rd_L1 l0_1 x3_1).length : Int) := mD
     obtain ⟨ad169, e169, hx169_0⟩ := Kd.at_int HR160_0.out 0 p169 q169
     obtain rfl : ad167 = ad169 := (by injection e169)
     have qi169 : (0 < (rd_L1 l0_1 x3_1).length) = True := eq_true (by omega)
     (try rw [show ((0 : Int)).toNat = 0 from rfl] at hx169_0)
     (try rw [Addr.add_zero'] at hx169_0)
     replace hx169_0 := (HB.out.cell (World.block_lt_of_cell? w _ hx169_0)).trans hx169_0
     replace p169 := eq_true p169
     replace q169 := eq_true q169
     have p170 : 0 ≤ (1 : Int) := (by omega)
     have q170 : 1 < ((rd_L1 l0_1 (ji17)).length : Int) := mD
     obtain ⟨ad170, e170, hx170_0⟩ := Kd.at_int HR165_0.out 1 p170 q170
     obtain rfl : ad166 = ad170 := (by injection e170)
     (try simp only [show (1 : Int).toNat = 1 from rfl, Nat.reduceMul, Nat.reduceEqDiff, Go.Addr.add, ↓reduceIte] at hx170_0)
     have qi170 : (1 < (rd_L1 l0_1 (ji17)).length) = True := eq_true (by omega)
     (try rw [show ((1 : Int)).toNat = 1 from rfl] at hx170_0)
     replace hx170_0 := (HB.out.cell (World.block_lt_of_cell? w _ hx170_0)).trans hx170_0
     replace p170 := eq_true p170
     replace q170 := eq_true q170
     have p171 : 0 ≤ (1 : Int) := (by omega)
     have q171 : 1 < ((rd_L1 l0_1 x3_1).length : Int) := mD
     obtain ⟨ad171, e171, hx171_0⟩ := Kd.at_int HR160_0.out 1 p171 q171
     obtain rfl : ad167 = ad171 := (by injection e171)
     (try simp only [show (1 : Int).toNat = 1 from rfl, Nat.reduceMul, Nat.reduceEqDiff, Go.Addr.add, ↓reduceIte] at hx171_0)
     have qi171 : (1 < (rd_L1 l0_1 x3_1).length) = True := eq_true (by omega)
     (try rw [show ((1 : Int)).toNat = 1 from rfl] at hx171_0)
     replace hx171_0 := (HB.out.cell (World.block_lt_of_cell? w _ hx171_0)).trans hx171_0
     replace p171 := eq_true p171
     replace q171 := eq_true q171
     go_wp2
     repeat (go_quiet (fail); try go_wp2)
     go_roundg kj4
     case measure => have := HK1.out; have := HJ4.out; omega
     case rel => exact ⟨(wrap64 (x3_1 + 1)), mF, H', ⟨by have := HK1.out; have := HJ4.out; omega⟩, ⟨(mK (BK158.out))⟩, ⟨mG⟩⟩
/-! ### spec_l4Copy: function 158 -/
def spec_l4Copy.l0 : Nat → Int → Int → List (List Int) → Int → List (List Int) → Option (Int × (List (List Int)))
 | 0, _, _, _, _, _ => none
 | k + 1, x4, x173000, x173001, x175000, x175001 => if x4 < (x173001.length : Int) then ((some (([] : List Int) : List Int)).bind fun y175 => (if 0 ≤ x4 then (if y175.length + (rd_L1 x173001 x4).length < 17592186044416 then (if x175001.length < 5864062014805 then (spec_l4Copy.l0 k (wrap64 (x4 + 1)) x173000 x173001 x175000 (x175001 ++ [(y175 ++ (rd_L1 x173001 x4))])) else (none)) else (none)) else (none))) else (some (x175000, x175001))
def spec_l4Copy.f (k : Nat) (a0_0 : Int) (l0_1 : List (List Int)) : Option (Int × (List (List Int))) := spec_l4Copy.l0 k 0 a0_0 l0_1 a0_0 ([] : List (List Int))
theorem spec_l4Copy.mono_l : ∀ k, (∀ y0 y1 y2 y3 y4, LeO (spec_l4Copy.l0 k y0 y1 y2 y3 y4) (spec_l4Copy.l0 (k + 1) y0 y1 y2 y3 y4))
 | 0 => fun _ _ _ _ _ r h => by simp [spec_l4Copy.l0] at h
 | k + 1 => by
  have ih0 := spec_l4Copy.mono_l k
  ·
   intro y0 y1 y2 y3 y4
   unfold spec_l4Copy.l0
   repeat' with_reducible first | exact ih0 _ _ _ _ _ | exact LeO.refl _ | exact LeO.none _ | refine LeO.ite ?_ ?_ | refine LeO.bind ?_ (fun _ => ?_)
theorem spec_l4Copy.mono : ∀ a0 a1 k, LeO (spec_l4Copy.f k a0 a1) (spec_l4Copy.f (k + 1) a0 a1) := by
 intro a0 a1 k
 have ih0 := spec_l4Copy.mono_l k
 unfold spec_l4Copy.f
 repeat' with_reducible first | exact ih0 _ _ _ _ _ | exact LeO.refl _ | exact LeO.none _ | refine LeO.ite ?_ ?_ | refine LeO.bind ?_ (fun _ => ?_)
def spec_l4Copy.T5 : Bool × List (List Nat × List Nat) := (true, [([], []), ([0], [0]), ([], []), ([], []), ([3], [3]), ([], []), ([4, 5], [4, 5]), ([6], [6]), ([2, 7], [2, 7]), ([8], [8]), ([1, 9, 8], [1, 9]), ([0, 1, 2, 3, 4, 5, 6, 7, 8, 9, 10], []), ([11, 10, 10, 0, 1, 2, 3, 4, 5, 6, 7, 8, 9, 10], [10, 11])])
def spec_l4Copy.B5 : List Nat := [0, 1, 0, 0, 8, 0, 56, 120, 252, 508, 1023, 2047, 4095]
theorem spec_l4Copy.tab5 : rtab .any (opsOf Try.f158 5) = spec_l4Copy.T5 := by kernel_rfl
theorem spec_l4Copy.bits5 : waitsOk spec_l4Copy.T5.2 spec_l4Copy.B5 = true := by kernel_rfl
set_option maxHeartbeats 8000000 in
set_option maxRecDepth 100000 in
theorem spec_l4Copy.calls (k : Nat) (a0_0 : Int) (A0_1 : Option Addr) (c0_1 : Nat) (l0_1 : List (List Int)) (r1 : Int) (r2 : List (List Int)) (w : World) (hr0_1 : Kd.C (Kd.slice 3 (Kd.int .i64)) w A0_1 l0_1.length l0_1) (hc0_1 : l0_1.length ≤ c0_1) (h : spec_l4Copy.f k a0_0 l0_1 = some (r1, r2)) :
  Calls Try.prog 158 #[.agg #[.int .i64 a0_0, .slice A0_1 l0_1.length c0_1]] w fun e w' => ∃ v1_ : Value, e = .returned (.agg #[.int .i64 r1, v1_]) ∧ Kd.S (Kd.slice 3 (Kd.int .i64)) 25 w' w.heap.size (fun _ => True) v1_ r2 ∧ Below w.heap.size w w' := by
 have hu28 := Try.underlying28
 have HR0_1 := Aside0.mk hr0_1
 have HC0_1 := Aside0.mk hc0_1
 clear hr0_1 hc0_1
 have HB := Aside0.mk (Below.refl w.heap.size w)
 have H : (spec_l4Copy.l0 k 0 a0_0 l0_1 a0_0 ([] : List (List Int))) = some (r1, r2) := h
 clear h
 have H' := Aside0.mk H
 clear H
 go_enter Try.func158, Try.ntmps158
 go_wp2_with (first | ((with_reducible refine gate_dst (N := 1) rfl ?_); refine box_event ?hg (N := 1) ?hd (cs := #[.int .i64 a0_0, .slice A0_1 l0_1.length c0_1]) (t := 28) ?hr ?_; (case hd => rfl); (case hg => rfl); (case hr => first | (go_simp; done) | (go_simp; rfl)); intro gb172 hg w2 hbox hb; have n0_ := Aside0.mk (below_step (mB HB.out) hb); have n1_ := Aside0.mk (hbox); have n2_ := Aside0.mk ((by rw [hg]; exact (below_size (mB HB.out)) : w.heap.size ≤ gb172)); have n3_ := Aside0.mk ((by rw [hg]; exact (below_size (mB HB.out)) : w.heap.size ≤ gb172)); clear HB; have HB := n0_; have BK172 := n1_; have GW172 := n2_; have GE172 := n3_; clear n0_ n1_ n2_ n3_; clear hb hbox hg) | ((with_reducible refine gate_dst (N := 2) rfl ?_); refine box_event ?hg (N := 2) ?hd (cs := #[.int .i64 0, .slice none 0 0]) (t := 28) ?hr ?_; (case hd => rfl); (case hg => rfl); (case hr => first | (go_simp; done) | (go_simp; rfl)); intro gb173 hg w3 hbox hb; have n0_ := Aside0.mk (blk_below (g := gb172) (o := .cells #[.int .i64 a0_0, .slice A0_1 l0_1.length c0_1] 28 (0, 0)) ((mK (BK172.out))) hb); have n1_ := Aside0.mk (below_step mG hb); have n2_ := Aside0.mk (hbox); have n3_ := Aside0.mk ((by rw [hg]; exact (below_size mG) : w.heap.size ≤ gb173)); have n4_ := Aside0.mk ((by rw [hg]; exact (below_size mG) : w.heap.size ≤ gb173)); have n5_ := Aside0.mk ((by rw [hg]; exact Nat.ne_of_lt (blk_lt (g := gb172) (o := .cells #[.int .i64 a0_0, .slice A0_1 l0_1.length c0_1] 28 (0, 0)) ((mK (BK172.out)))) : gb172 ≠ gb173)); have n6_ := Aside0.mk ((by rw [hg]; exact Nat.ne_of_gt (blk_lt (g := gb172) (o := .cells #[.int .i64 a0_0, .slice A0_1 l0_1.length c0_1] 28 (0, 0)) ((mK (BK172.out)))) : gb173 ≠ gb172)); clear BK172 HB; have BK172 := n0_; have HB := n1_; have BK173 := n2_; have GW173 := n3_; have GE173 := n4_; have NB172_173 := n5_; have NB173_172 := n6_; clear n0_ n1_ n2_ n3_ n4_ n5_ n6_; clear hb hbox hg; have hnb4 := NB172_173.out; have hnc4 := NB173_172.out; have hcz5_0 : w3.cell? ⟨gb172, 0, none⟩ = some (.int .i64 a0_0) := (blk_cell BK172.out 0).trans rfl; have hcz5_1 : w3.cell? ⟨gb172, 1, none⟩ = some (.slice A0_1 l0_1.length c0_1) := (blk_cell BK172.out 1).trans rfl; have hfz5_0 := blk_frozen BK172.out 0; have hfz5_1 := blk_frozen BK172.out 1) | ((with_reducible refine gate_dst (N := 3) rfl ?_); refine box_event ?hg (N := 3) ?hd (cs := #[.int .i64 0, .slice none 0 0]) (t := 28) ?hr ?_; (case hd => rfl); (case hg => rfl); (case hr => first | (go_simp; done) | (go_simp; rfl)); intro gb174 hg w6 hbox hb; have n0_ := Aside0.mk (blk_below (g := gb172) (o := .cells #[.int .i64 a0_0, .slice A0_1 l0_1.length c0_1] 28 (0, 0)) ((mK (BK172.out))) hb); have n1_ := Aside0.mk (blk_below (g := gb173) (o := .cells #[.int .i64 0, .slice none 0 0] 28 (0, 0)) ((mK (BK173.out))) hb); have n2_ := Aside0.mk (below_step mG hb); have n3_ := Aside0.mk (hbox); have n4_ := Aside0.mk ((by rw [hg]; exact (below_size mG) : w.heap.size ≤ gb174)); have n5_ := Aside0.mk ((by rw [hg]; exact (below_size mG) : w.heap.size ≤ gb174)); have n6_ := Aside0.mk ((by rw [hg]; exact Nat.ne_of_lt (blk_lt (g := gb172) (o := .cells #[.int .i64 a0_0, .slice A0_1 l0_1.length c0_1] 28 (0, 0)) ((mK (BK172.out)))) : gb172 ≠ gb174)); have n7_ := Aside0.mk ((by rw [hg]; exact Nat.ne_of_gt (blk_lt (g := gb172) (o := .cells #[.int .i64 a0_0, .slice A0_1 l0_1.length c0_1] 28 (0, 0)) ((mK (BK172.out)))) : gb174 ≠ gb172)); have n8_ := Aside0.mk ((by rw [hg]; exact Nat.ne_of_lt (blk_lt (g := gb173) (o := .cells #[.int .i64 0, .slice none 0 0] 28 (0, 0)) ((mK (BK173.out)))) : gb173 ≠ gb174)); have n9_ := Aside0.mk ((by rw [hg]; exact Nat.ne_of_gt (blk_lt (g := gb173) (o := .cells #[.int .i64 0, .slice none 0 0] 28 (0, 0)) ((mK (BK173.out)))) : gb174 ≠ gb173)); clear BK172 BK173 HB; have BK172 := n0_; have BK173 := n1_; have HB := n2_; have BK174 := n3_; have GW174 := n4_; have GE174 := n5_; have NB172_174 := n6_; have NB174_172 := n7_; have NB173_174 := n8_; have NB174_173 := n9_; clear n0_ n1_ n2_ n3_ n4_ n5_ n6_ n7_ n8_ n9_; clear hb hbox hg; have hnb7 := NB174_172.out; have hnc7 := NB172_174.out; have hnb8 := NB174_173.out; have hnc8 := NB173_174.out; have hcz9_0 : w6.cell? ⟨gb174, 0, none⟩ = some (.int .i64 0) := (blk_cell BK174.out 0).trans rfl; have hcz9_1 : w6.cell? ⟨gb174, 1, none⟩ = some (.slice none 0 0) := (blk_cell BK174.out 1).trans rfl; have hfz9_0 := blk_frozen BK174.out 0; have hfz9_1 := blk_frozen BK174.out 1))
 go_loopg [4] k (fun kq v4 w' => ∃ (x4_1 : Int) (x175001_1 : List (List Int)) (u175001 : Value), v4 = .int .i64 x4_1 ∧ Aside0 (spec_l4Copy.l0 kq x4_1 a0_0 l0_1 a0_0 x175001_1 = some (r1, r2)) ∧ Aside0 (kq ≤ k) ∧ Aside0 (Kd.S (Kd.slice 3 (Kd.int .i64)) 25 w' w.heap.size (fun _ => True) u175001 x175001_1) ∧ Aside0 (w'.heap[gb172]? = some (.cells #[.int .i64 a0_0, (.slice A0_1 l0_1.length c0_1)] 28 (0, 0))) ∧ Aside0 (w'.heap[gb173]? = some (.cells #[.int .i64 0, (.slice none 0 0)] 28 (0, 0))) ∧ Aside0 (w'.heap[gb174]? = some (.cells #[.int .i64 a0_0, u175001] 28 (0, 0))) ∧ Aside0 (Below w.heap.size w w'))
 case atStart => exact ⟨(0), (([] : List (List Int))), (.slice none 0 0), mF, H', ⟨Nat.le_refl _⟩, ⟨by first | exact Kd.S_nil _ _ _ _ _ | exact Kd.N_nil _ _ _ _ _ | exact Kd.V_nil _ _ _ _ _ | exact Kd.Q_nil _ _ _ _ _ | exact Kd.R_nil _ _ _ _ _⟩, ⟨by refine pK ?_; refine blk_far ?_ NB172_174.out _; refine pK ?_; refine blk_far ?_ NB172_174.out _; refine pK ?_; exact BK172.out⟩, ⟨by refine pK ?_; refine blk_far ?_ NB173_174.out _; refine pK ?_; refine blk_far ?_ NB173_174.out _; refine pK ?_; exact BK173.out⟩, ⟨by refine pK ?_; refine blk_put (cs := #[.int .i64 a0_0, .slice none 0 0]) ?_ 1 _ rfl; refine pK ?_; refine blk_put (cs := #[.int .i64 0, .slice none 0 0]) ?_ 0 _ rfl; refine pK ?_; exact BK174.out⟩, ⟨mG⟩⟩
 case round =>
  clear H'
  (try clear hcz5_0); (try clear hcz5_1); (try clear hcz9_0); (try clear hcz9_1); (try clear hfz5_0); (try clear hfz5_1); (try clear hfz9_0); (try clear hfz9_1)
  obtain ⟨x4_1, x175001_1, u175001, rfl, HA, HK1, HO_175001, BK172, BK173, BK174, HB⟩ := hrel
  cases gk with
  | zero => exact absurd HA.out (by simp [spec_l4Copy.l0])
  | succ k1 =>
   have H := HA.out
   clear HA
   simp only [spec_l4Copy.l0] at H
   by_cases c10 : x4_1 < (l0_1.length : Int)
   rotate_left
   ·
    rw [if_neg c10] at H
    have c10b0 : decide (x4_1 < (l0_1.length : Int)) = false := decide_eq_false c10
    clear c10
    simp only [Option.some.injEq, Prod.mk.injEq] at H
    obtain ⟨rfl, rfl⟩ := H
    have hnb25 := NB172_173.out
    have hnc25 := NB173_172.out
    have hnb26 := NB172_174.out
    have hnc26 := NB174_172.out
    have hcz27_0 : wr.cell? ⟨gb172, 0, none⟩ = some (.int .i64 a0_0) := (blk_cell BK172.out 0).trans rfl
    have hcz27_1 : wr.cell? ⟨gb172, 1, none⟩ = some (.slice A0_1 l0_1.length c0_1) := (blk_cell BK172.out 1).trans rfl
    have hfz27_0 := blk_frozen BK172.out 0
    have hfz27_1 := blk_frozen BK172.out 1
    have hnb28 := NB174_173.out
    have hnc28 := NB173_174.out
    have hcz29_0 : wr.cell? ⟨gb174, 0, none⟩ = some (.int .i64 a0_0) := (blk_cell BK174.out 0).trans rfl
    have hcz29_1 : wr.cell? ⟨gb174, 1, none⟩ = some (u175001) := (blk_cell BK174.out 1).trans rfl
    have hfz29_0 := blk_frozen BK174.out 0
    have hfz29_1 := blk_frozen BK174.out 1
    have hcz30_0 : wr.cell? ⟨gb173, 0, none⟩ = some (.int .i64 0) := (blk_cell BK173.out 0).trans rfl
    have hcz30_1 : wr.cell? ⟨gb173, 1, none⟩ = some (.slice none 0 0) := (blk_cell BK173.out 1).trans rfl
    have hfz30_0 := blk_frozen BK173.out 0
    have hfz30_1 := blk_frozen BK173.out 1
    obtain ⟨Ao31, co31, eo31⟩ := Kd.S_slice HO_175001.out
    subst eo31
    go_wp2
    refine bodyPost_ret (results_cell_row rfl _ _ gb173 28 #[.int .i64 a0_0, .slice Ao31 x175001_1.length co31] (0, 0) _ rfl (by refine pK ?_; refine blk_put (cs := #[.int .i64 a0_0, .slice none 0 0]) ?_ 1 _ rfl; refine pK ?_; refine blk_put (cs := #[.int .i64 0, .slice none 0 0]) ?_ 0 _ rfl; refine pK ?_; exact BK173.out) Try.underlying28 rfl (by kernel_rfl)) rfl ?_
    exact ⟨_, mE, by (with_reducible repeat (first | apply Kd.S_alloc | apply Kd.S_drewN | apply Kd.S_drew)); exact Kd.S_mono (Kd.S_far (p := ⟨gb173, 1, none⟩) (Kd.S_far (p := ⟨gb173, 0, none⟩) (Kd.S_types HO_175001.out BK173.out (by decide)) (fun _ hk => hk.2) (.int .i64 a0_0)) (fun _ hk => hk.2) (.slice Ao31 x175001_1.length co31)) (fun _ hk => trivial), mG⟩
   rw [if_pos c10] at H
   have c10b0 : decide (x4_1 < (l0_1.length : Int)) = true := decide_eq_true c10
   clear c10
   obtain ⟨y175, hy175⟩ : ∃ y_ : List Int, y_ = (([] : List Int)) := ⟨_, rfl⟩
   replace H : (if 0 ≤ x4_1 then (if y175.length + (rd_L1 l0_1 x4_1).length < 17592186044416 then (if x175001_1.length < 5864062014805 then (spec_l4Copy.l0 k1 (wrap64 (x4_1 + 1)) a0_0 l0_1 a0_0 (x175001_1 ++ [(y175 ++ (rd_L1 l0_1 x4_1))])) else (none)) else (none)) else (none)) = some (r1, r2) := by first | (rw [hy175]; with_reducible exact H) | (have H2_ := (Option.bind_some _ _).symm.trans H; rw [hy175]; with_reducible exact H2_) | (have H2_ := (Option.bind_some _ _).symm.trans H; with_reducible exact H2_) | with_reducible exact H | (rw [hy175]; exact H) | exact H
   have Ny175 := Aside0.mk hy175
   clear hy175
   by_cases c11 : 0 ≤ x4_1
   rotate_left
   ·
    rw [if_neg c11] at H
    exact absurd H (by simp)
   rw [if_pos c11] at H
   have c11b0 : decide (0 ≤ x4_1) = true := decide_eq_true c11
   clear c11
   by_cases c12 : y175.length + (rd_L1 l0_1 x4_1).length < 17592186044416
   rotate_left
   ·
    rw [if_neg c12] at H
    exact absurd H (by simp)
   rw [if_pos c12] at H
   have LMc12 := Aside0.mk c12
   clear c12
   obtain ⟨y179, hy179⟩ : ∃ y_ : List Int, y_ = (y175 ++ (rd_L1 l0_1 x4_1)) := ⟨_, rfl⟩
   replace H : (if x175001_1.length < 5864062014805 then (spec_l4Copy.l0 k1 (wrap64 (x4_1 + 1)) a0_0 l0_1 a0_0 (x175001_1 ++ [y179])) else (none)) = some (r1, r2) := by first | (rw [hy179]; with_reducible exact H) | (have H2_ := (Option.bind_some _ _).symm.trans H; rw [hy179]; with_reducible exact H2_) | (have H2_ := (Option.bind_some _ _).symm.trans H; with_reducible exact H2_) | with_reducible exact H | (rw [hy179]; exact H) | exact H
   have Ny179 := Aside0.mk hy179
   clear hy179
   by_cases c13 : x175001_1.length < 5864062014805
   rotate_left
   ·
    rw [if_neg c13] at H
    exact absurd H (by simp)
   rw [if_pos c13] at H
   have LMc13 := Aside0.mk c13
   clear c13
   obtain ⟨y182, hy182⟩ : ∃ y_ : List (List Int), y_ = (x175001_1 ++ [y179]) := ⟨_, rfl⟩
   replace H : (spec_l4Copy.l0 k1 (wrap64 (x4_1 + 1)) a0_0 l0_1 a0_0 y182) = some (r1, r2) := by first | (rw [hy182]; with_reducible exact H) | (have H2_ := (Option.bind_some _ _).symm.trans H; rw [hy182]; with_reducible exact H2_) | (have H2_ := (Option.bind_some _ _).symm.trans H; with_reducible exact H2_) | with_reducible exact H | (rw [hy182]; exact H) | exact H
   have Ny182 := Aside0.mk hy182
   clear hy182
   have H' := Aside0.mk H
   clear H
   have hnb14 := NB172_173.out
   have hnc14 := NB173_172.out
   have hnb15 := NB172_174.out
   have hnc15 := NB174_172.out
   have hcz16_0 : wr.cell? ⟨gb172, 0, none⟩ = some (.int .i64 a0_0) := (blk_cell BK172.out 0).trans rfl
   have hcz16_1 : wr.cell? ⟨gb172, 1, none⟩ = some (.slice A0_1 l0_1.length c0_1) := (blk_cell BK172.out 1).trans rfl
   have hfz16_0 := blk_frozen BK172.out 0
   have hfz16_1 := blk_frozen BK172.out 1
   try go_wp2
   have n0_ := Aside0.mk (Kd.S_drew HO_175001.out)
   have n1_ := Aside0.mk (blk_drew BK172.out)
   have n2_ := Aside0.mk (blk_drew BK173.out)
   have n3_ := Aside0.mk (blk_drew BK174.out)
   have n4_ := Aside0.mk (below_drew1 HB.out)
   clear HO_175001 BK172 BK173 BK174 HB; have HO_175001 := n0_; have BK172 := n1_; have BK173 := n2_; have BK174 := n3_; have HB := n4_; clear n0_ n1_ n2_ n3_ n4_
   have p178 : 0 ≤ (x4_1 : Int) := mD
   have q178 : x4_1 < (l0_1.length : Int) := mD
   obtain ⟨ad178, A178_0, c178_0, e178, hx178_0, hl178_0, hi178_0⟩ := at_L1 HR0_1.out x4_1 p178 q178
   have hw178_0 := hx178_0
   cases e178
   replace hx178_0 := (HB.out.cell (World.block_lt_of_cell? w _ hx178_0)).trans hx178_0
   have HR178_0 := Aside0.mk hi178_0
   have HC178_0 := Aside0.mk hl178_0
   clear hi178_0 hl178_0
   replace p178 := eq_true p178
   replace q178 := eq_true q178
   refine start_ (n := 13) (S := fun w' => w'.cell? ⟨gb174, 0, none⟩ = some (.int .i64 a0_0) ∧ w'.cell? ⟨gb174, 1, none⟩ = some (u175001) ∧ w'.cell? ⟨gb172, 0, none⟩ = some (.int .i64 a0_0) ∧ w'.cell? ⟨gb172, 1, none⟩ = some (.slice (some ad178) l0_1.length c0_1) ∧ w'.cell? (ad178.add (x4_1).toNat) = some (.slice A178_0 (rd_L1 l0_1 x4_1).length c178_0)) (ds := [12]) (L_ 0 13) (by kernel_rfl) rfl rfl ⟨(blk_cell BK174.out 0).trans rfl, (blk_cell BK174.out 1).trans rfl, (blk_cell BK172.out 0).trans rfl, (blk_cell BK172.out 1).trans rfl, ((HB.out.cell (World.block_lt_of_cell? w _ hw178_0)).trans hw178_0)⟩ (fun hHeld => ?_); refine with_tabW spec_l4Copy.tab5 spec_l4Copy.bits5 (fun HT_ HW_ => ?_)
   generalize wr.drew = w17 at HO_175001 BK172 BK173 BK174 HB HR178_0 hx178_0 hHeld ⊢
   refine ps 0 15 (L_ 1 13) HT_.out ?_
   refine ps 3 18 #[true, false, false, true, false, false, false, false, false, false, false, false, false] HT_.out ?_
   refine ps 5 20 #[true, false, false, true, false, true, false, false, false, false, false, false, false] HT_.out ?_
   refine take_ (i := 1) (N := some 16) (v := ?_) (a' := ?_) #[true, true, false, true, false, true, false, false, false, false, false, false, false] rfl rfl (take_ofW HT_.out HW_.out (by kernel_rfl)) (fun _ _ _ h => h) (Or.inl ⟨by rfl, ?_⟩) hHeld ?_ ?_
   rotate_left
   ·
    rintro w' ⟨s0, s1, s2, s3, s4⟩
    go_simp
    with_reducible rfl
   rotate_left
   ·
    simp only [Act.put, List.setIfInBounds_toArray, List.set_cons_zero, List.set_cons_succ, i64_w, i32_w]
    rfl
   refine take_ (i := 4) (N := some 19) (v := ?_) (a' := ?_) #[true, true, false, true, true, true, false, false, false, false, false, false, false] rfl rfl (take_ofW HT_.out HW_.out (by kernel_rfl)) (fun _ _ _ h => h) (Or.inl ⟨by rfl, ?_⟩) hHeld ?_ ?_
   rotate_left
   ·
    rintro w' ⟨s0, s1, s2, s3, s4⟩
    go_simp
    with_reducible rfl
   rotate_left
   ·
    simp only [Act.put, List.setIfInBounds_toArray, List.set_cons_zero, List.set_cons_succ, i64_w, i32_w]
    rfl
   refine ps 6 21 #[true, true, false, true, true, true, true, false, false, false, false, false, false] HT_.out ?_
   refine take_ (i := 7) (N := some 22) (v := ?_) (a' := ?_) #[true, true, false, true, true, true, true, true, false, false, false, false, false] rfl rfl (take_ofW HT_.out HW_.out (by kernel_rfl)) (fun _ _ _ h => h) (Or.inl ⟨by rfl, ?_⟩) hHeld ?_ ?_
   rotate_left
   ·
    rintro w' ⟨s0, s1, s2, s3, s4⟩
    go_simp
    with_reducible rfl
   rotate_left
   ·
    simp only [Act.put, List.setIfInBounds_toArray, List.set_cons_zero, List.set_cons_succ, i64_w, i32_w]
    rfl
   refine one_ (i := 2) (N := some 17) (L_ 8 13) rfl rfl (one_of HT_.out (by kernel_rfl)) (by decide) (fun K hK => ?_)
   refine Kd.R_lit_step (Kd.int .i64) _ 3 ?hg (N := 17) ?hd (xs := ([] : List Int)) (inner := []) (ok := fun _ => True) (okp := fun _ => True) ?hr ?hp (fun _ hk => hk) trivial (Below.refl _ _) (Nat.le_refl _) (by simp) ?_; (case hd => rfl); (case hg => rfl); (case hr => first | (go_simp; done) | (go_simp; rfl)); (case hp => exact (Reps.none _ _))
   intro v176 w18 ho19 hb hg_ hnew_
   clear hg_ hnew_
   (first | rw [← Ny175.out] at ho19 | (simp only [Int.reduceToNat] at ho19; rw [← Ny175.out] at ho19))
   have n0_ := Aside0.mk (Kd.S_elder' (mS HO_175001.out) (Kd.R_base ho19) hb)
   have n1_ := Aside0.mk (Kd.R_lower ho19 (below_size mG))
   have n2_ := Aside0.mk (blk_below (g := gb172) (o := .cells #[.int .i64 a0_0, .slice (some ad178) l0_1.length c0_1] 28 (0, 0)) ((mK (BK172.out))) hb)
   have n3_ := Aside0.mk (blk_below (g := gb173) (o := .cells #[.int .i64 0, .slice none 0 0] 28 (0, 0)) ((mK (BK173.out))) hb)
   have n4_ := Aside0.mk (blk_below (g := gb174) (o := .cells #[.int .i64 a0_0, u175001] 28 (0, 0)) ((mK (BK174.out))) hb)
   have n5_ := Aside0.mk (below_step mG hb)
   clear HO_175001 BK172 BK173 BK174 HB; have HO_175001 := n0_; have HO177 := n1_; have BK172 := n2_; have BK173 := n3_; have BK174 := n4_; have HB := n5_; clear n0_ n1_ n2_ n3_ n4_ n5_; clear hb ho19
   refine hK.out _ _ ⟨(blk_cell BK174.out 0).trans rfl, (blk_cell BK174.out 1).trans rfl, (blk_cell BK172.out 0).trans rfl, (blk_cell BK172.out 1).trans rfl, ((HB.out.cell (World.block_lt_of_cell? w _ hw178_0)).trans hw178_0)⟩ (fun hHeld => ?_)
   clear hK K
   refine norm_ (a' := ?_) ?_ ?_
   rotate_left
   ·
    show Act.put _ (some 17) _ = _
    simp only [Act.put, List.setIfInBounds_toArray, List.set_cons_zero, List.set_cons_succ, i64_w, i32_w]
    rfl
   refine one_ (i := 8) (N := some 23) (L_ 9 13) rfl rfl (one_of HT_.out (by kernel_rfl)) (by decide) (fun K hK => ?_)
   refine Kd.R_append_rows_step (Kd.int .i64) (w0 := w) w.heap.size (by rfl) (.tmp 17) (.tmp 22) 25 3 (.int .i64 0) 8 rfl Try.underlying25 info3 rfl (by decide) (by omega) v176 y175 (rd_L1 l0_1 x4_1) _ _ _ (fun _ => True) (fun _ => False) rfl rfl ?aO ?aR (fun _ _ h => h) (fun _ h => h.elim) ?aF ?aB ?aS ?aL ?_
   (case aR => exact mC (Kd.C_below HR178_0.out HB.out))
   (case aB => exact mG)
   (case aF => exact (fun _ _ => trivial))
   (case aO => exact (mR HO177.out))
   (case aS => exact (below_size mG))
   (case aL => have := LMc12.out; omega)
   intro v180 w20 ho hb hg hat
   rw [← Ny179.out] at ho
   have n0_ := Aside0.mk (Kd.S_after (ok := (fun _ => True)) (mS HO_175001.out) hg hat)
   have n1_ := Aside0.mk (blk_grown (g := gb172) (o := .cells #[.int .i64 a0_0, .slice (some ad178) l0_1.length c0_1] 28 (0, 0)) ((mK (BK172.out))) hg (Kd.R_ne HO177.out BK172.out (by decide)))
   have n2_ := Aside0.mk (blk_grown (g := gb173) (o := .cells #[.int .i64 0, .slice none 0 0] 28 (0, 0)) ((mK (BK173.out))) hg (Kd.R_ne HO177.out BK173.out (by decide)))
   have n3_ := Aside0.mk (blk_grown (g := gb174) (o := .cells #[.int .i64 a0_0, u175001] 28 (0, 0)) ((mK (BK174.out))) hg (Kd.R_ne HO177.out BK174.out (by decide)))
   have n4_ := Aside0.mk (hb)
   have n5_ := Aside0.mk (ho)
   clear HO_175001 BK172 BK173 BK174 HB HO177; have HO_175001 := n0_; have BK172 := n1_; have BK173 := n2_; have BK174 := n3_; have HB := n4_; have HO181 := n5_; clear n0_ n1_ n2_ n3_ n4_ n5_; clear ho hb hg hat
   obtain ⟨Ao22, co22, eo22⟩ := Kd.R_slice HO181.out
   (first | subst eo22 | (injection eo22 with f1_ f2_ f3_; have f4_ := f1_.symm; have f5_ := f3_.symm; clear f1_ f2_ f3_; subst f4_; subst f5_))
   refine hK.out _ _ ⟨(blk_cell BK174.out 0).trans rfl, (blk_cell BK174.out 1).trans rfl, (blk_cell BK172.out 0).trans rfl, (blk_cell BK172.out 1).trans rfl, ((HB.out.cell (World.block_lt_of_cell? w _ hw178_0)).trans hw178_0)⟩ (fun hHeld => ?_)
   clear hK K
   refine norm_ (a' := ?_) ?_ ?_
   rotate_left
   ·
    show Act.put _ (some 23) _ = _
    simp only [Act.put, List.setIfInBounds_toArray, List.set_cons_zero, List.set_cons_succ, i64_w, i32_w]
    rfl
   refine one_ (i := 9) (N := some 24) (L_ 10 13) rfl rfl (one_of HT_.out (by kernel_rfl)) (by decide) (fun K hK => ?_)
   refine value_ (w1 := ?_) (v := ?_) (by rfl) rfl ?_ ?_
   rotate_left 2
   ·
    go_simp
    constructor
    ·
     rfl
    ·
     rfl
   refine hK.out _ _ ⟨(blk_cell (blk_alloc BK174.out _) 0).trans rfl, (blk_cell (blk_alloc BK174.out _) 1).trans rfl, (blk_cell (blk_alloc BK172.out _) 0).trans rfl, (blk_cell (blk_alloc BK172.out _) 1).trans rfl, (World.cell?_alloc_lt _ _ _ (World.block_lt_of_cell? _ _ (((HB.out.cell (World.block_lt_of_cell? w _ hw178_0)).trans hw178_0)))).trans (((HB.out.cell (World.block_lt_of_cell? w _ hw178_0)).trans hw178_0))⟩ (fun hHeld => ?_)
   clear hK K
   refine norm_ (a' := ?_) ?_ ?_
   rotate_left
   ·
    show Act.put _ (some 24) _ = _
    simp only [Act.put, List.setIfInBounds_toArray, List.set_cons_zero, List.set_cons_succ, i64_w, i32_w]
    rfl
   refine one_ (i := 10) (N := some 25) (L_ 11 13) rfl rfl (one_of HT_.out (by kernel_rfl)) (by decide) (fun K hK => ?_)
   refine Kd.S_append_step (Kd.slice 3 (Kd.int .i64)) (w0 := w) w.heap.size (by rfl) (.tmp 16) (.tmp 24) 22 25 (.slice none 0 0) 24 rfl Try.underlying22 info25 rfl (by decide) (by omega) u175001 x175001_1 y179 [.slice Ao22 y179.length co22] (fun _ => True) (fun k_ => some k_ = (.slice Ao22 y179.length co22 : Value).ownBlock) rfl rfl ?aP (fun k_ hk_ => ((Kd.R_mono (ok' := fun k_ => ((fun _ => True)) k_ ∧ some k_ ≠ (u175001 : Value).ownBlock) (Kd.R_apart' (HO181.out) (Kd.S_typed HO_175001.out) (by decide)) (fun k_ hk => ⟨trivial, hk.2⟩))).1 k_ hk_.symm) ?aF ?aO ?aB ?aS ?aL ?_
   (case aP => exact Kd.M_row (Kd.R_mono (Kd.R_tight rfl (Kd.R_mono (ok' := fun k_ => ((fun _ => True)) k_ ∧ some k_ ≠ (u175001 : Value).ownBlock) (Kd.R_apart' (HO181.out) (Kd.S_typed HO_175001.out) (by decide)) (fun k_ hk => ⟨trivial, hk.2⟩))) (fun _ h_ => h_)))
   (case aB => exact mG)
   (case aF => exact (fun _ _ => trivial))
   (case aO => exact (mS (Kd.S_mono HO_175001.out (fun k_ hk => ⟨trivial, fun e_ => hk.2 e_⟩))))
   (case aS => exact (below_size mG))
   (case aL => have := LMc13.out; omega)
   intro v183 w21 ho hb hg hat
   rw [← Ny182.out] at ho
   have n0_ := Aside0.mk (blk_grown (g := gb172) (o := .cells #[.int .i64 a0_0, .slice (some ad178) l0_1.length c0_1] 28 (0, 0)) ((mK (BK172.out))) hg (Kd.S_ne HO_175001.out BK172.out (by decide)))
   have n1_ := Aside0.mk (blk_grown (g := gb173) (o := .cells #[.int .i64 0, .slice none 0 0] 28 (0, 0)) ((mK (BK173.out))) hg (Kd.S_ne HO_175001.out BK173.out (by decide)))
   have n2_ := Aside0.mk (blk_grown (g := gb174) (o := .cells #[.int .i64 a0_0, u175001] 28 (0, 0)) ((mK (BK174.out))) hg (Kd.S_ne HO_175001.out BK174.out (by decide)))
   have n3_ := Aside0.mk (hb)
   have n4_ := Aside0.mk (ho)
   clear BK172 BK173 BK174 HB HO_175001 HO181; have BK172 := n0_; have BK173 := n1_; have BK174 := n2_; have HB := n3_; have HO184 := n4_; clear n0_ n1_ n2_ n3_ n4_; clear ho hb hg hat
   obtain ⟨Ao23, co23, eo23⟩ := Kd.S_slice HO184.out
   (first | subst eo23 | (injection eo23 with f1_ f2_ f3_; have f4_ := f1_.symm; have f5_ := f3_.symm; clear f1_ f2_ f3_; subst f4_; subst f5_))
   refine hK.out _ _ ⟨(blk_cell BK174.out 0).trans rfl, (blk_cell BK174.out 1).trans rfl, (blk_cell BK172.out 0).trans rfl, (blk_cell BK172.out 1).trans rfl, ((HB.out.cell (World.block_lt_of_cell? w _ hw178_0)).trans hw178_0)⟩ (fun hHeld => ?_)
   clear hK K
   refine norm_ (a' := ?_) ?_ ?_
   rotate_left
   ·
    show Act.put _ (some 25) _ = _
    simp only [Act.put, List.setIfInBounds_toArray, List.set_cons_zero, List.set_cons_succ, i64_w, i32_w]
    rfl
   refine ps 11 26 (L_ 12 13) HT_.out ?_
   refine last_ (i := 12) (N := none) (L_ 13 13) rfl rfl (one_of HT_.out (by kernel_rfl)) (by decide) (fun K hK => ?_)
   have hs24 : w21.cell? ⟨gb174, 1, none⟩ = some (u175001) := (blk_cell BK174.out 1).trans rfl
   have hfs24 := blk_frozen BK174.out 1
   have hns24_0 := NB172_174.out
   have hns24_1 := NB173_174.out
   have hms24_0 := NB174_172.out
   have hms24_1 := NB174_173.out
   refine skip_ (w1 := ?_) (by rfl) rfl ?_ ?_
   rotate_left
   ·
    go_simp
    rfl
   refine hK.out _ _ ?_
   clear hK K
   refine done_ (done_of HT_.out (by kernel_rfl)) ?_
   try go_wp2
   go_roundg k1
   case measure => have := HK1.out; omega
   case rel => exact ⟨(wrap64 (x4_1 + 1)), (y182), (.slice Ao23 y182.length co23), mF, H', ⟨by have := HK1.out; omega⟩, ⟨by (with_reducible repeat (first | apply Kd.S_alloc | apply Kd.S_drewN | apply Kd.S_drew)); exact Kd.S_mono (Kd.S_far (p := ⟨gb174, 1, none⟩) (Kd.S_types HO184.out BK174.out (by decide)) (fun _ hk => hk.2) (.slice Ao23 y182.length co23)) (fun _ hk => trivial)⟩, ⟨by refine pK ?_; refine blk_far ?_ NB172_174.out _; refine pK ?_; exact BK172.out⟩, ⟨by refine pK ?_; refine blk_far ?_ NB173_174.out _; refine pK ?_; exact BK173.out⟩, ⟨by refine pK ?_; refine blk_put (cs := #[.int .i64 a0_0, u175001]) ?_ 1 _ rfl; refine pK ?_; exact BK174.out⟩, ⟨mG⟩⟩
end Go.Proofs.Ytelkfhlnejlheaa.GFnGraphs
