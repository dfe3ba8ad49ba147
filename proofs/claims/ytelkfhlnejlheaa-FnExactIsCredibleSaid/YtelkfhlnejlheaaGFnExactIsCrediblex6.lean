-- Written by gprint.py, a program of this session, with the printer of the kit as its library. Lean checks it.
import Derived.Test.YtelkfhlnejlheaaGFnExactIsCrediblex0
import Derived.Test.YtelkfhlnejlheaaGFnExactIsCrediblex2
import Derived.Test.YtelkfhlnejlheaaGFnExactIsCrediblex4
import Derived.Test.YtelkfhlnejlheaaGFnExactIsCrediblex5
namespace Go.Proofs.Ytelkfhlnejlheaa.GFnExactIsCredible
open Go.RowKit Go.Proofs.YtelkfhlnejlheaaW.PrintWords Go.Proofs.YtelkfhlnejlheaaW.PrintLast Go.Proofs.YtelkfhlnejlheaaW.PrintMore
attribute [local go_sem] max2_int min2_int max_two min_two max_three min_three max_four min_four   -- for this text's walks alone
set_option linter.unusedVariables false
set_option linter.unusedSimpArgs false

/-! ### spec_AllComplete: function 69 -/
mutual
def spec_AllComplete.l0 : Nat → List (List Int) → Int → Int → List (List Int) → Option ((List (List Int)))
 | 0, _, _, _, _ => none
 | k + 1, x3, x4, x218000, x218001 => if 0 ≤ x218000 then (if x4 < (shl .i64 1 x218000) then (spec_AllComplete.l1 k x3 x4 (([] : List Int)) 0 x218000 x218001) else (some x3)) else (none)
def spec_AllComplete.l1 : Nat → List (List Int) → Int → List Int → Int → Int → List (List Int) → Option ((List (List Int)))
 | 0, _, _, _, _, _, _ => none
 | k + 1, x3, x4, x5, x6, x218000, x218001 => if x6 < x218000 then (if 0 ≤ x6 then (if (Go.bits .and .i64 (shr .i64 x4 x6) 1) = 1 then ((some (([x6] : List Int) : List Int)).bind fun y225 => (if x5.length + y225.length < 17592186044416 then (spec_AllComplete.l1 k x3 x4 (x5 ++ y225) (wrap64 (x6 + 1)) x218000 x218001) else (none))) else (spec_AllComplete.l1 k x3 x4 x5 (wrap64 (x6 + 1)) x218000 x218001)) else (none)) else ((spec_IsComplete.f k x218000 x218001 x5).bind fun t231 => (if t231 = true then (spec_AllComplete.l2 k x3 x4 x5 (x3.length : Int) x218000 x218001) else (spec_AllComplete.l0 k x3 (wrap64 (x4 + 1)) x218000 x218001)))
def spec_AllComplete.l2 : Nat → List (List Int) → Int → List Int → Int → Int → List (List Int) → Option ((List (List Int)))
 | 0, _, _, _, _, _, _ => none
 | k + 1, x3, x4, x5, x7, x218000, x218001 => if x7 > 0 then (if 0 ≤ (wrap64 (x7 - 1)) then (if (wrap64 (x7 - 1)) < (x3.length : Int) then ((spec_l7Before.f k x5 (rd_L1 x3 (wrap64 (x7 - 1)))).bind fun t233 => (if t233 = true then (spec_AllComplete.l2 k x3 x4 x5 (wrap64 (x7 - 1)) x218000 x218001) else ((some (([] : List (List Int)) : List (List Int))).bind fun y234 => (if 0 ≤ x7 then (if x7 ≤ (x3.length : Int) then ((some (x3.take (x7 : Int).toNat : List (List Int))).bind fun y237 => (if y234.length + y237.length < 5864062014805 then ((some (y234 ++ y237 : List (List Int))).bind fun y242 => ((some (([x5] : List (List Int)) : List (List Int))).bind fun y245 => (if y242.length + y245.length < 5864062014805 then ((some (y242 ++ y245 : List (List Int))).bind fun y248 => ((some (x3.drop (x7 : Int).toNat : List (List Int))).bind fun y251 => (if y248.length + y251.length < 5864062014805 then (spec_AllComplete.l0 k (y248 ++ y251) (wrap64 (x4 + 1)) x218000 x218001) else (none)))) else (none)))) else (none))) else (none)) else (none))))) else (none)) else (none)) else ((some (([] : List (List Int)) : List (List Int))).bind fun y259 => (if 0 ≤ x7 then (if x7 ≤ (x3.length : Int) then ((some (x3.take (x7 : Int).toNat : List (List Int))).bind fun y262 => (if y259.length + y262.length < 5864062014805 then ((some (y259 ++ y262 : List (List Int))).bind fun y267 => ((some (([x5] : List (List Int)) : List (List Int))).bind fun y270 => (if y267.length + y270.length < 5864062014805 then ((some (y267 ++ y270 : List (List Int))).bind fun y273 => ((some (x3.drop (x7 : Int).toNat : List (List Int))).bind fun y276 => (if y273.length + y276.length < 5864062014805 then (spec_AllComplete.l0 k (y273 ++ y276) (wrap64 (x4 + 1)) x218000 x218001) else (none)))) else (none)))) else (none))) else (none)) else (none)))
end
def spec_AllComplete.f (k : Nat) (a0_0 : Int) (l0_1 : List (List Int)) : Option ((List (List Int))) := (some (([] : List (List Int)) : List (List Int))).bind fun y218 => ((spec_IsGraph.f k a0_0 l0_1).bind fun t221 => (if t221 = true then (spec_AllComplete.l0 k y218 0 a0_0 l0_1) else (some y218)))
theorem spec_AllComplete.mono_l : ∀ k, (∀ y0 y1 y2 y3, LeO (spec_AllComplete.l0 k y0 y1 y2 y3) (spec_AllComplete.l0 (k + 1) y0 y1 y2 y3)) ∧ (∀ y0 y1 y2 y3 y4 y5, LeO (spec_AllComplete.l1 k y0 y1 y2 y3 y4 y5) (spec_AllComplete.l1 (k + 1) y0 y1 y2 y3 y4 y5)) ∧ (∀ y0 y1 y2 y3 y4 y5, LeO (spec_AllComplete.l2 k y0 y1 y2 y3 y4 y5) (spec_AllComplete.l2 (k + 1) y0 y1 y2 y3 y4 y5))
 | 0 => ⟨fun _ _ _ _ r h => by simp [spec_AllComplete.l0] at h, fun _ _ _ _ _ _ r h => by simp [spec_AllComplete.l1] at h, fun _ _ _ _ _ _ r h => by simp [spec_AllComplete.l2] at h⟩
 | k + 1 => by
  obtain ⟨ih0, ih1, ih2⟩ := spec_AllComplete.mono_l k
  refine ⟨?_, ?_, ?_⟩
  ·
   intro y0 y1 y2 y3
   unfold spec_AllComplete.l0
   repeat' with_reducible first | exact ih0 _ _ _ _ | exact ih1 _ _ _ _ _ _ | exact ih2 _ _ _ _ _ _ | exact spec_IsComplete.mono _ _ _ _ | exact spec_IsGraph.mono _ _ _ | exact spec_l7Before.mono _ _ _ | exact LeO.refl _ | exact LeO.none _ | refine LeO.ite ?_ ?_ | refine LeO.bind ?_ (fun _ => ?_)
  ·
   intro y0 y1 y2 y3 y4 y5
   unfold spec_AllComplete.l1
   repeat' with_reducible first | exact ih0 _ _ _ _ | exact ih1 _ _ _ _ _ _ | exact ih2 _ _ _ _ _ _ | exact spec_IsComplete.mono _ _ _ _ | exact spec_IsGraph.mono _ _ _ | exact spec_l7Before.mono _ _ _ | exact LeO.refl _ | exact LeO.none _ | refine LeO.ite ?_ ?_ | refine LeO.bind ?_ (fun _ => ?_)
  ·
   intro y0 y1 y2 y3 y4 y5
   unfold spec_AllComplete.l2
   repeat' with_reducible first | exact ih0 _ _ _ _ | exact ih1 _ _ _ _ _ _ | exact ih2 _ _ _ _ _ _ | exact spec_IsComplete.mono _ _ _ _ | exact spec_IsGraph.mono _ _ _ | exact spec_l7Before.mono _ _ _ | exact LeO.refl _ | exact LeO.none _ | refine LeO.ite ?_ ?_ | refine LeO.bind ?_ (fun _ => ?_)
theorem spec_AllComplete.mono : ∀ a0 a1 k, LeO (spec_AllComplete.f k a0 a1) (spec_AllComplete.f (k + 1) a0 a1) := by
 intro a0 a1 k
 obtain ⟨ih0, ih1, ih2⟩ := spec_AllComplete.mono_l k
 unfold spec_AllComplete.f
 repeat' with_reducible first | exact ih0 _ _ _ _ | exact ih1 _ _ _ _ _ _ | exact ih2 _ _ _ _ _ _ | exact spec_IsComplete.mono _ _ _ _ | exact spec_IsGraph.mono _ _ _ | exact spec_l7Before.mono _ _ _ | exact LeO.refl _ | exact LeO.none _ | refine LeO.ite ?_ ?_ | refine LeO.bind ?_ (fun _ => ?_)
def spec_AllComplete.T17 : Bool × List (List Nat × List Nat) := (true, [([], []), ([], []), ([], []), ([1, 2], [1, 2]), ([0, 3], [0, 3]), ([], []), ([5], [5]), ([4, 6, 4], [4, 6]), ([], []), ([], []), ([8, 9], [8, 9]), ([7, 10, 7], [7, 10]), ([11, 11, 0, 1, 2, 3, 4, 5, 6, 7, 8, 9, 10, 11], [1, 8, 11])])
def spec_AllComplete.B17 : List Nat := [0, 0, 0, 6, 15, 0, 32, 127, 0, 0, 768, 2047, 4095]
theorem spec_AllComplete.tab17 : rtab .any (opsOf Try.f69 17) = spec_AllComplete.T17 := by kernel_rfl
theorem spec_AllComplete.bits17 : waitsOk spec_AllComplete.T17.2 spec_AllComplete.B17 = true := by kernel_rfl
set_option maxHeartbeats 8000000 in
set_option maxRecDepth 100000 in
theorem spec_AllComplete.calls (k : Nat) (a0_0 : Int) (A0_1 : Option Addr) (c0_1 : Nat) (l0_1 : List (List Int)) (r : List (List Int)) (w : World) (hr0_1 : Kd.C (Kd.slice 3 (Kd.int .i64)) w A0_1 l0_1.length l0_1) (hc0_1 : l0_1.length ≤ c0_1) (h : spec_AllComplete.f k a0_0 l0_1 = some r) :
  Calls Try.prog 69 #[.agg #[.int .i64 a0_0, .slice A0_1 l0_1.length c0_1]] w fun e w' => ∃ v0_ : Value, e = .returned (v0_) ∧ Kd.N (Kd.slice 3 (Kd.int .i64)) 25 w' w.heap.size (fun k_ => (w.heap.size ≤ k_)) v0_ r ∧ Below w.heap.size w w' := by
 have hu28 := Try.underlying28
 have HR0_1 := Aside0.mk hr0_1
 have HC0_1 := Aside0.mk hc0_1
 clear hr0_1 hc0_1
 have HB := Aside0.mk (Below.refl w.heap.size w)
 have H : ((some (([] : List (List Int)) : List (List Int))).bind fun y218 => ((spec_IsGraph.f k a0_0 l0_1).bind fun t221 => (if t221 = true then (spec_AllComplete.l0 k y218 0 a0_0 l0_1) else (some y218)))) = some r := h
 clear h
 obtain ⟨y218, hy218⟩ : ∃ y_ : List (List Int), y_ = (([] : List (List Int))) := ⟨_, rfl⟩
 replace H : ((spec_IsGraph.f k a0_0 l0_1).bind fun t221 => (if t221 = true then (spec_AllComplete.l0 k y218 0 a0_0 l0_1) else (some y218))) = some r := by first | (rw [hy218]; with_reducible exact H) | (have H2_ := (Option.bind_some _ _).symm.trans H; rw [hy218]; with_reducible exact H2_) | (have H2_ := (Option.bind_some _ _).symm.trans H; with_reducible exact H2_) | with_reducible exact H | (rw [hy218]; exact H) | exact H
 have Ny218 := Aside0.mk hy218
 clear hy218
 replace H := Option.bind_eq_some_iff.mp H
 obtain ⟨t221, A20, H⟩ := H
 have A2 := Aside0.mk A20
 clear A20
 by_cases c3 : t221 = true
 rotate_left
 ·
  replace c3 := Bool.eq_false_iff.mpr c3
  subst c3
  rw [if_neg (show ¬ (false = true) by decide)] at H
  obtain rfl := Option.some.inj H
  go_enter Try.func69, Try.ntmps69
  go_wp2_with (first | ((with_reducible refine gate_dst (N := 1) rfl ?_); refine box_event ?hg (N := 1) ?hd (cs := #[.int .i64 a0_0, .slice A0_1 l0_1.length c0_1]) (t := 28) ?hr ?_; (case hd => rfl); (case hg => rfl); (case hr => first | (go_simp; done) | (go_simp; rfl)); intro gb217 hg w80 hbox hb; have n0_ := Aside0.mk (below_step (mB HB.out) hb); have n1_ := Aside0.mk (hbox); have n2_ := Aside0.mk ((by rw [hg]; exact (below_size (mB HB.out)) : w.heap.size ≤ gb217)); have n3_ := Aside0.mk ((by rw [hg]; exact (below_size (mB HB.out)) : w.heap.size ≤ gb217)); clear HB; have HB := n0_; have BK217 := n1_; have GW217 := n2_; have GE217 := n3_; clear n0_ n1_ n2_ n3_; clear hb hbox hg) | ((with_reducible refine gate_dst (N := 8) rfl ?_); refine Kd.N_lit (Kd.slice 3 (Kd.int .i64)) _ 25 ?hg (N' := 8) ?hd (xs := ([] : List (List Int))) (inner := []) (ok := (fun k_ => (w.heap.size ≤ k_) ∧ k_ ≠ gb217)) (okp := (fun k_ => (w.heap.size ≤ k_) ∧ k_ ≠ gb217)) ?hr ?hp (fun _ hk => hk) ((show ∀ k_, w80.heap.size ≤ k_ → (fun k_ => (w.heap.size ≤ k_) ∧ k_ ≠ gb217) k_ from fun k_ hk => ⟨(Nat.le_trans (below_size mG) hk), Kd.freshB (g := gb217) (o := .cells #[.int .i64 a0_0, .slice A0_1 l0_1.length c0_1] 28 (0, 0)) ((mK (BK217.out))) k_ hk⟩) _ (Nat.le_refl _)) (Below.refl _ _) (Nat.le_refl _) (by simp) ?_; (case hd => rfl); (case hg => rfl); (case hr => first | (go_simp; done) | (go_simp; rfl)); (case hp => exact (Reps.none _ _)); intro v219 w81 ho82 hb hg_ hnew_; clear hg_ hnew_; (first | rw [← Ny218.out] at ho82 | (simp only [Int.reduceToNat] at ho82; rw [← Ny218.out] at ho82)); have n0_ := Aside0.mk (Kd.N_lower ho82 (below_size mG)); have n1_ := Aside0.mk (blk_below (g := gb217) (o := .cells #[.int .i64 a0_0, .slice A0_1 l0_1.length c0_1] 28 (0, 0)) ((mK (BK217.out))) hb); have n2_ := Aside0.mk (below_step mG hb); clear BK217 HB; have HO220 := n0_; have BK217 := n1_; have HB := n2_; clear n0_ n1_ n2_; clear hb ho82; have hcz83_0 : w81.cell? ⟨gb217, 0, none⟩ = some (.int .i64 a0_0) := (blk_cell BK217.out 0).trans rfl; have hcz83_1 : w81.cell? ⟨gb217, 1, none⟩ = some (.slice A0_1 l0_1.length c0_1) := (blk_cell BK217.out 1).trans rfl; have hfz83_0 := blk_frozen BK217.out 0; have hfz83_1 := blk_frozen BK217.out 1) | ((with_reducible refine gate_callee (f := 67) rfl ?_); refine goesL_ (some 10) rfl rfl Try.func67 (by kernel_rfl) rfl #[.agg #[.int .i64 a0_0, .slice A0_1 l0_1.length c0_1]] rfl mA ?_; (with_reducible refine (spec_IsGraph.calls k a0_0 _ _ l0_1 false _ ?side1 ?side2 A2.out).mono ?_); (case side1 => exact mC (Kd.C_below HR0_1.out HB.out)); (case side2 => exact HC0_1.out); rintro e w84 ⟨rfl, hb⟩; refine ⟨_, rfl, ?_⟩; have n0_ := Aside0.mk (Kd.N_below (by (with_reducible repeat (first | apply Kd.N_alloc | apply Kd.N_drewN | apply Kd.N_drew)); exact HO220.out) hb); have n1_ := Aside0.mk (blk_below (g := gb217) (o := .cells #[.int .i64 a0_0, .slice A0_1 l0_1.length c0_1] 28 (0, 0)) ((mK (BK217.out))) hb); have n2_ := Aside0.mk (below_step mG hb); clear HO220 BK217 HB; have HO220 := n0_; have BK217 := n1_; have HB := n2_; clear n0_ n1_ n2_; (try clear hb)))
  go_ret
  exact ⟨_, mE, by (with_reducible repeat (first | apply Kd.N_alloc | apply Kd.N_drewN | apply Kd.N_drew)); exact Kd.N_mono HO220.out (fun _ hk => hk.1), mG⟩
 subst c3
 rw [if_pos rfl] at H
 have H' := Aside0.mk H
 clear H
 go_enter Try.func69, Try.ntmps69
 go_wp2_with (first | ((with_reducible refine gate_dst (N := 1) rfl ?_); refine box_event ?hg (N := 1) ?hd (cs := #[.int .i64 a0_0, .slice A0_1 l0_1.length c0_1]) (t := 28) ?hr ?_; (case hd => rfl); (case hg => rfl); (case hr => first | (go_simp; done) | (go_simp; rfl)); intro gb217 hg w4 hbox hb; have n0_ := Aside0.mk (below_step (mB HB.out) hb); have n1_ := Aside0.mk (hbox); have n2_ := Aside0.mk ((by rw [hg]; exact (below_size (mB HB.out)) : w.heap.size ≤ gb217)); have n3_ := Aside0.mk ((by rw [hg]; exact (below_size (mB HB.out)) : w.heap.size ≤ gb217)); clear HB; have HB := n0_; have BK217 := n1_; have GW217 := n2_; have GE217 := n3_; clear n0_ n1_ n2_ n3_; clear hb hbox hg) | ((with_reducible refine gate_dst (N := 8) rfl ?_); refine Kd.N_lit (Kd.slice 3 (Kd.int .i64)) _ 25 ?hg (N' := 8) ?hd (xs := ([] : List (List Int))) (inner := []) (ok := (fun k_ => (w.heap.size ≤ k_) ∧ k_ ≠ gb217)) (okp := (fun k_ => (w.heap.size ≤ k_) ∧ k_ ≠ gb217)) ?hr ?hp (fun _ hk => hk) ((show ∀ k_, w4.heap.size ≤ k_ → (fun k_ => (w.heap.size ≤ k_) ∧ k_ ≠ gb217) k_ from fun k_ hk => ⟨(Nat.le_trans (below_size mG) hk), Kd.freshB (g := gb217) (o := .cells #[.int .i64 a0_0, .slice A0_1 l0_1.length c0_1] 28 (0, 0)) ((mK (BK217.out))) k_ hk⟩) _ (Nat.le_refl _)) (Below.refl _ _) (Nat.le_refl _) (by simp) ?_; (case hd => rfl); (case hg => rfl); (case hr => first | (go_simp; done) | (go_simp; rfl)); (case hp => exact (Reps.none _ _)); intro v219 w5 ho6 hb hg_ hnew_; clear hg_ hnew_; (first | rw [← Ny218.out] at ho6 | (simp only [Int.reduceToNat] at ho6; rw [← Ny218.out] at ho6)); have n0_ := Aside0.mk (Kd.N_lower ho6 (below_size mG)); have n1_ := Aside0.mk (blk_below (g := gb217) (o := .cells #[.int .i64 a0_0, .slice A0_1 l0_1.length c0_1] 28 (0, 0)) ((mK (BK217.out))) hb); have n2_ := Aside0.mk (below_step mG hb); clear BK217 HB; have HO220 := n0_; have BK217 := n1_; have HB := n2_; clear n0_ n1_ n2_; clear hb ho6; have hcz7_0 : w5.cell? ⟨gb217, 0, none⟩ = some (.int .i64 a0_0) := (blk_cell BK217.out 0).trans rfl; have hcz7_1 : w5.cell? ⟨gb217, 1, none⟩ = some (.slice A0_1 l0_1.length c0_1) := (blk_cell BK217.out 1).trans rfl; have hfz7_0 := blk_frozen BK217.out 0; have hfz7_1 := blk_frozen BK217.out 1) | ((with_reducible refine gate_callee (f := 67) rfl ?_); refine goesL_ (some 10) rfl rfl Try.func67 (by kernel_rfl) rfl #[.agg #[.int .i64 a0_0, .slice A0_1 l0_1.length c0_1]] rfl mA ?_; (with_reducible refine (spec_IsGraph.calls k a0_0 _ _ l0_1 true _ ?side1 ?side2 A2.out).mono ?_); (case side1 => exact mC (Kd.C_below HR0_1.out HB.out)); (case side2 => exact HC0_1.out); rintro e w8 ⟨rfl, hb⟩; refine ⟨_, rfl, ?_⟩; have n0_ := Aside0.mk (Kd.N_below (by (with_reducible repeat (first | apply Kd.N_alloc | apply Kd.N_drewN | apply Kd.N_drew)); exact HO220.out) hb); have n1_ := Aside0.mk (blk_below (g := gb217) (o := .cells #[.int .i64 a0_0, .slice A0_1 l0_1.length c0_1] 28 (0, 0)) ((mK (BK217.out))) hb); have n2_ := Aside0.mk (below_step mG hb); clear HO220 BK217 HB; have HO220 := n0_; have BK217 := n1_; have HB := n2_; clear n0_ n1_ n2_; (try clear hb)))
 go_loopg [3, 4] k (fun kq v3 v4 w' => ∃ (x3_1 : List (List Int)) (x4_1 : Int), v4 = .int .i64 x4_1 ∧ Aside0 (spec_AllComplete.l0 kq x3_1 x4_1 a0_0 l0_1 = some r) ∧ Aside0 (kq ≤ k) ∧ Aside0 (Kd.N (Kd.slice 3 (Kd.int .i64)) 25 w' w.heap.size (fun k_ => (w.heap.size ≤ k_) ∧ k_ ≠ gb217) v3 x3_1) ∧ Aside0 (w'.heap[gb217]? = some (.cells #[.int .i64 a0_0, (.slice A0_1 l0_1.length c0_1)] 28 (0, 0))) ∧ Aside0 (Below w.heap.size w w'))
 case atStart => exact ⟨(y218), (0), mF, H', ⟨Nat.le_refl _⟩, ⟨by (with_reducible repeat (first | apply Kd.N_alloc | apply Kd.N_drewN | apply Kd.N_drew)); exact HO220.out⟩, ⟨(mK (BK217.out))⟩, ⟨mG⟩⟩
 case round =>
  clear H'
  (try clear hcz7_0); (try clear hcz7_1); (try clear hfz7_0); (try clear hfz7_1)
  obtain ⟨x3_1, x4_1, rfl, HA, HK1, HO_3, BK217, HB⟩ := hrel
  cases gk with
  | zero => exact absurd HA.out (by simp [spec_AllComplete.l0])
  | succ k1 =>
   have H := HA.out
   clear HA
   simp only [spec_AllComplete.l0] at H
   by_cases c9 : 0 ≤ a0_0
   rotate_left
   ·
    rw [if_neg c9] at H
    exact absurd H (by simp)
   rw [if_pos c9] at H
   have c9b0 := eq_true c9
   have c9b1 : decide (0 ≤ a0_0) = true := decide_eq_true c9
   clear c9
   obtain ⟨ji10, hji10⟩ : ∃ j_ : Int, (shl .i64 1 a0_0) = j_ := ⟨_, rfl⟩
   replace H : (if x4_1 < (ji10) then (spec_AllComplete.l1 k1 x3_1 x4_1 (([] : List Int)) 0 a0_0 l0_1) else (some x3_1)) = some r := by first | (rw [hji10] at H; exact H) | (simp only [hji10] at H ⊢; exact H)
   have hji10_ : (IntKind.i64.wrap (1 * 2 ^ min a0_0.toNat 64)) = ji10 := hji10
   have hji10z : a0_0 ≤ 64 → (IntKind.i64.wrap (1 * 2 ^ a0_0.toNat)) = ji10 := shl_small hji10
   have hji10u : (IntKind.i64.wrap (2 ^ min a0_0.toNat 64)) = ji10 := by have h_ := hji10_; rw [Int.one_mul] at h_; exact h_
   have hji10v : a0_0 ≤ 64 → (IntKind.i64.wrap (2 ^ a0_0.toNat)) = ji10 := fun hle_ => by have h_ := hji10z hle_; rw [Int.one_mul] at h_; exact h_
   have hji10y : (wrap64 (1 * 2 ^ min a0_0.toNat 64)) = ji10 := (i64_w _).symm.trans hji10_
   have hji10x : a0_0 ≤ 64 → (wrap64 (1 * 2 ^ a0_0.toNat)) = ji10 := fun h_ => (i64_w _).symm.trans (hji10z h_)
   by_cases c11 : x4_1 < (ji10)
   rotate_left
   ·
    rw [if_neg c11] at H
    have c11b0 : decide (x4_1 < (ji10)) = false := decide_eq_false c11
    clear c11
    obtain rfl := Option.some.inj H
    have hcz79_0 : wr.cell? ⟨gb217, 0, none⟩ = some (.int .i64 a0_0) := (blk_cell BK217.out 0).trans rfl
    have hcz79_1 : wr.cell? ⟨gb217, 1, none⟩ = some (.slice A0_1 l0_1.length c0_1) := (blk_cell BK217.out 1).trans rfl
    have hfz79_0 := blk_frozen BK217.out 0
    have hfz79_1 := blk_frozen BK217.out 1
    go_wp2
    go_ret
    exact ⟨_, by first | rfl | (simp [errW_none, errW_some] <;> rfl) | (simp only [← hji10]; first | rfl | (simp [errW_none, errW_some] <;> rfl)) | (simp [*, errW_none, errW_some] <;> rfl), by (with_reducible repeat (first | apply Kd.N_alloc | apply Kd.N_drewN | apply Kd.N_drew)); exact Kd.N_mono HO_3.out (fun _ hk => hk.1), mG⟩
   rw [if_pos c11] at H
   have c11b0 : decide (x4_1 < (ji10)) = true := decide_eq_true c11
   clear c11
   obtain ⟨y222, hy222⟩ : ∃ y_ : List Int, y_ = (([] : List Int)) := ⟨_, rfl⟩
   replace H : (spec_AllComplete.l1 k1 x3_1 x4_1 y222 0 a0_0 l0_1) = some r := by first | (rw [hy222]; with_reducible exact H) | (have H2_ := (Option.bind_some _ _).symm.trans H; rw [hy222]; with_reducible exact H2_) | (have H2_ := (Option.bind_some _ _).symm.trans H; with_reducible exact H2_) | with_reducible exact H | (rw [hy222]; exact H) | exact H
   have Ny222 := Aside0.mk hy222
   clear hy222
   have H' := Aside0.mk H
   clear H
   have hcz12_0 : wr.cell? ⟨gb217, 0, none⟩ = some (.int .i64 a0_0) := (blk_cell BK217.out 0).trans rfl
   have hcz12_1 : wr.cell? ⟨gb217, 1, none⟩ = some (.slice A0_1 l0_1.length c0_1) := (blk_cell BK217.out 1).trans rfl
   have hfz12_0 := blk_frozen BK217.out 0
   have hfz12_1 := blk_frozen BK217.out 1
   go_wp2_with (first | ((with_reducible refine gate_dst (N := 20) rfl ?_); refine Kd.R_lit (Kd.int .i64) _ 3 ?hg (N := 20) ?hd (xs := ([] : List Int)) (inner := []) (ok := fun _ => True) (okp := fun _ => True) ?hr ?hp (fun _ hk => hk) trivial (Below.refl _ _) (Nat.le_refl _) (by simp) ?_; (case hd => rfl); (case hg => rfl); (case hr => first | (go_simp; done) | (go_simp; rfl)); (case hp => exact (Reps.none _ _)); intro v223 w13 ho14 hb hg_ hnew_; clear hg_ hnew_; (first | rw [← Ny222.out] at ho14 | (simp only [Int.reduceToNat] at ho14; rw [← Ny222.out] at ho14)); have n0_ := Aside0.mk (Kd.N_elder' (by (with_reducible repeat (first | apply Kd.N_alloc | apply Kd.N_drewN | apply Kd.N_drew)); exact HO_3.out) (Kd.R_base ho14) hb); have n1_ := Aside0.mk (Kd.R_lower (Kd.R_newM (M := fun k_ => (w.heap.size ≤ k_)) ho14 (below_size mG) (fun k_ h_ => h_)) (below_size mG)); have n2_ := Aside0.mk (blk_below (g := gb217) (o := .cells #[.int .i64 a0_0, .slice A0_1 l0_1.length c0_1] 28 (0, 0)) ((mK (BK217.out))) hb); have n3_ := Aside0.mk (below_step mG hb); clear HO_3 BK217 HB; have HO_3 := n0_; have HO224 := n1_; have BK217 := n2_; have HB := n3_; clear n0_ n1_ n2_ n3_; clear hb ho14))
   go_loopg [5, 6] k1 (fun kq v5 v6 w' => ∃ (x5_2 : List Int) (x6_2 : Int), v6 = .int .i64 x6_2 ∧ Aside0 (spec_AllComplete.l1 kq x3_1 x4_1 x5_2 x6_2 a0_0 l0_1 = some r) ∧ Aside0 (kq ≤ k1) ∧ Aside0 (Kd.N (Kd.slice 3 (Kd.int .i64)) 25 w' w.heap.size (fun k_ => (w.heap.size ≤ k_) ∧ some k_ ≠ (v5 : Value).ownBlock ∧ k_ ≠ gb217) u3 x3_1) ∧ Aside0 (Kd.R (Kd.int .i64) 3 w' w.heap.size (fun k_ => (w.heap.size ≤ k_)) v5 x5_2) ∧ Aside0 (w'.heap[gb217]? = some (.cells #[.int .i64 a0_0, (.slice A0_1 l0_1.length c0_1)] 28 (0, 0))) ∧ Aside0 (Below w.heap.size w w'))
   case atStart => exact ⟨(y222), (0), mF, H', ⟨Nat.le_refl _⟩, ⟨by (with_reducible repeat (first | apply Kd.N_alloc | apply Kd.N_drewN | apply Kd.N_drew)); exact Kd.N_mono HO_3.out (fun _ hk => ⟨hk.1.1, ⟨hk.2, hk.1.2⟩⟩)⟩, ⟨by (with_reducible repeat (first | apply Kd.R_alloc | apply Kd.R_drewN | apply Kd.R_drew)); exact Kd.R_mono HO224.out (fun _ hk => hk.1)⟩, ⟨(mK (BK217.out))⟩, ⟨mG⟩⟩
   case round =>
    clear H'
    (try clear c9b0); (try clear c9b1); (try clear c11b0); (try clear hcz12_0); (try clear hcz12_1); (try clear hcz7_0); (try clear hcz7_1); (try clear hfz12_0); (try clear hfz12_1); (try clear hfz7_0); (try clear hfz7_1)
    obtain ⟨x5_2, x6_2, rfl, HA, HK2, HO_3, HO_5, BK217, HB⟩ := hrel
    cases gk with
    | zero => exact absurd HA.out (by simp [spec_AllComplete.l1])
    | succ k2 =>
     have H := HA.out
     clear HA
     simp only [spec_AllComplete.l1] at H
     by_cases c15 : x6_2 < a0_0
     ·
      rw [if_pos c15] at H
      have c15b0 : decide (x6_2 < a0_0) = true := decide_eq_true c15
      clear c15
      by_cases c16 : 0 ≤ x6_2
      rotate_left
      ·
       rw [if_neg c16] at H
       exact absurd H (by simp)
      rw [if_pos c16] at H
      have c16b0 := eq_true c16
      have c16b1 : decide (0 ≤ x6_2) = true := decide_eq_true c16
      clear c16
      obtain ⟨ji17, hji17⟩ : ∃ j_ : Int, (shr .i64 x4_1 x6_2) = j_ := ⟨_, rfl⟩
      replace H : (if (Go.bits .and .i64 (ji17) 1) = 1 then ((some (([x6_2] : List Int) : List Int)).bind fun y225 => (if x5_2.length + y225.length < 17592186044416 then (spec_AllComplete.l1 k2 x3_1 x4_1 (x5_2 ++ y225) (wrap64 (x6_2 + 1)) a0_0 l0_1) else (none))) else (spec_AllComplete.l1 k2 x3_1 x4_1 x5_2 (wrap64 (x6_2 + 1)) a0_0 l0_1)) = some r := by first | (rw [hji17] at H; exact H) | (simp only [hji17] at H ⊢; exact H)
      have hji17_ : (x4_1 / 2 ^ min x6_2.toNat 64) = ji17 := hji17
      have hji17z : x6_2 ≤ 64 → (x4_1 / 2 ^ x6_2.toNat) = ji17 := shr_small hji17
      by_cases c18 : (Go.bits .and .i64 (ji17) 1) = 1
      rotate_left
      ·
       rw [if_neg c18] at H
       have c18b0 : ((Go.bits .and .i64 (ji17) 1) == 1) = false := beq_eq_false_iff_ne.mpr c18
       have c18b1 : ((Go.bits .and .i64 (ji17) 1) != 1) = true := bne_iff_ne.mpr c18
       have H' := Aside0.mk H
       clear H
       have hcz25_0 : wr.cell? ⟨gb217, 0, none⟩ = some (.int .i64 a0_0) := (blk_cell BK217.out 0).trans rfl
       have hcz25_1 : wr.cell? ⟨gb217, 1, none⟩ = some (.slice A0_1 l0_1.length c0_1) := (blk_cell BK217.out 1).trans rfl
       have hfz25_0 := blk_frozen BK217.out 0
       have hfz25_1 := blk_frozen BK217.out 1
       go_wp2
       go_roundg k2
       case measure => have := HK1.out; have := HK2.out; omega
       case rel => exact ⟨(x5_2), (wrap64 (x6_2 + 1)), mF, H', ⟨by have := HK1.out; have := HK2.out; omega⟩, ⟨by (with_reducible repeat (first | apply Kd.N_alloc | apply Kd.N_drewN | apply Kd.N_drew)); exact HO_3.out⟩, ⟨mR HO_5.out⟩, ⟨(mK (BK217.out))⟩, ⟨mG⟩⟩
      rw [if_pos c18] at H
      have c18b0 : ((Go.bits .and .i64 (ji17) 1) == 1) = true := beq_iff_eq.mpr c18
      have c18b1 : ((Go.bits .and .i64 (ji17) 1) != 1) = false := bne_eq_false_iff_eq.mpr c18
      clear c18
      obtain ⟨y225, hy225⟩ : ∃ y_ : List Int, y_ = (([x6_2] : List Int)) := ⟨_, rfl⟩
      replace H : (if x5_2.length + y225.length < 17592186044416 then (spec_AllComplete.l1 k2 x3_1 x4_1 (x5_2 ++ y225) (wrap64 (x6_2 + 1)) a0_0 l0_1) else (none)) = some r := by first | (rw [hy225]; with_reducible exact H) | (have H2_ := (Option.bind_some _ _).symm.trans H; rw [hy225]; with_reducible exact H2_) | (have H2_ := (Option.bind_some _ _).symm.trans H; with_reducible exact H2_) | with_reducible exact H | (rw [hy225]; exact H) | exact H
      have Ny225 := Aside0.mk hy225
      clear hy225
      by_cases c19 : x5_2.length + y225.length < 17592186044416
      rotate_left
      ·
       rw [if_neg c19] at H
       exact absurd H (by simp)
      rw [if_pos c19] at H
      have LMc19 := Aside0.mk c19
      clear c19
      obtain ⟨y228, hy228⟩ : ∃ y_ : List Int, y_ = (x5_2 ++ y225) := ⟨_, rfl⟩
      replace H : (spec_AllComplete.l1 k2 x3_1 x4_1 y228 (wrap64 (x6_2 + 1)) a0_0 l0_1) = some r := by first | (rw [hy228]; with_reducible exact H) | (have H2_ := (Option.bind_some _ _).symm.trans H; rw [hy228]; with_reducible exact H2_) | (have H2_ := (Option.bind_some _ _).symm.trans H; with_reducible exact H2_) | with_reducible exact H | (rw [hy228]; exact H) | exact H
      have Ny228 := Aside0.mk hy228
      clear hy228
      have H' := Aside0.mk H
      clear H
      have hcz20_0 : wr.cell? ⟨gb217, 0, none⟩ = some (.int .i64 a0_0) := (blk_cell BK217.out 0).trans rfl
      have hcz20_1 : wr.cell? ⟨gb217, 1, none⟩ = some (.slice A0_1 l0_1.length c0_1) := (blk_cell BK217.out 1).trans rfl
      have hfz20_0 := blk_frozen BK217.out 0
      have hfz20_1 := blk_frozen BK217.out 1
      go_wp2_with (first | ((with_reducible refine gate_dst (N := 34) rfl ?_); refine Kd.R_lit (Kd.int .i64) _ 3 ?hg (N := 34) ?hd (xs := ([x6_2] : List Int)) (inner := [.int .i64 x6_2]) (ok := fun _ => True) (okp := fun _ => True) ?hr ?hp (fun _ hk => hk) trivial (Below.refl _ _) (Nat.le_refl _) (by simp) ?_; (case hd => rfl); (case hg => rfl); (case hr => first | (go_simp; done) | (go_simp; rfl)); (case hp => exact (Reps.one (show Kd.M (Kd.int .i64) _ _ _ x6_2 [.int .i64 x6_2] from rfl) (Reps.none _ _))); intro v226 w21 ho22 hb hg_ hnew_; clear hg_ hnew_; (first | rw [← Ny225.out] at ho22 | (simp only [Int.reduceToNat] at ho22; rw [← Ny225.out] at ho22)); have n0_ := Aside0.mk (Kd.N_elder' (by (with_reducible repeat (first | apply Kd.N_alloc | apply Kd.N_drewN | apply Kd.N_drew)); exact HO_3.out) (Kd.R_base ho22) hb); have n1_ := Aside0.mk (Kd.R_elder' (mR HO_5.out) (Kd.R_base ho22) hb); have n2_ := Aside0.mk (Kd.R_lower (Kd.R_new' (Kd.R_newM (M := fun k_ => (w.heap.size ≤ k_)) ho22 (below_size mG) (fun k_ h_ => h_)) (Kd.R_lt (mR HO_5.out))) (below_size mG)); have n3_ := Aside0.mk (blk_below (g := gb217) (o := .cells #[.int .i64 a0_0, .slice A0_1 l0_1.length c0_1] 28 (0, 0)) ((mK (BK217.out))) hb); have n4_ := Aside0.mk (below_step mG hb); clear HO_3 HO_5 BK217 HB; have HO_3 := n0_; have HO_5 := n1_; have HO227 := n2_; have BK217 := n3_; have HB := n4_; clear n0_ n1_ n2_ n3_ n4_; clear hb ho22; obtain ⟨Ao24, co24, eo24⟩ := Kd.R_slice HO227.out; subst eo24) | ((with_reducible refine gate_builtin (b := .append) (xs := #[.tmp 32, .tmp 34]) rfl ?_); at_builtin; refine Kd.R_append_rows (Kd.int .i64) (w0 := w) w.heap.size rfl (.tmp 32) (.tmp 34) 25 3 (.int .i64 0) 8 rfl Try.underlying25 info3 rfl (by decide) (by omega) u5 x5_2 y225 _ _ _ (fun k_ => (w.heap.size ≤ k_) ∧ some k_ ≠ (.slice Ao24 y225.length co24 : Value).ownBlock) (fun _ => False) rfl rfl ?aO ?aR (fun _ _ h => h) (fun _ h => h.elim) ?aF ?aB ?aS ?aL ?_; (case aR => exact mC (Kd.R_reads' HO227.out).2.2); (case aB => exact mG); (case aF => exact (fun k_ hk => ⟨(Nat.le_trans (below_size mG) hk), Kd.fresh' (Kd.R_lt (mR HO227.out)) k_ hk⟩)); (case aO => exact (mR HO_5.out)); (case aS => exact (below_size mG)); (case aL => have := LMc19.out; omega); intro v229 w23 ho hb hg hat; rw [← Ny228.out] at ho; have n0_ := Aside0.mk (Kd.N_afterv (ok := (fun k_ => (w.heap.size ≤ k_) ∧ some k_ ≠ (.slice Ao24 y225.length co24 : Value).ownBlock ∧ k_ ≠ gb217)) (by (with_reducible repeat (first | apply Kd.N_alloc | apply Kd.N_drewN | apply Kd.N_drew)); exact Kd.N_mono HO_3.out (fun _ hk => ⟨⟨hk.1.1, ⟨hk.2, hk.1.2.2⟩⟩, hk.1.2.1⟩)) hg hat); have n1_ := Aside0.mk (blk_grown (g := gb217) (o := .cells #[.int .i64 a0_0, .slice A0_1 l0_1.length c0_1] 28 (0, 0)) ((mK (BK217.out))) hg (Kd.R_ne HO_5.out BK217.out (by decide))); have n2_ := Aside0.mk (Kd.R_after (ok := (fun k_ => (w.heap.size ≤ k_))) (mR (Kd.R_mono HO227.out (fun _ hk => ⟨hk.1.1, hk.2⟩))) hg hat); have n3_ := Aside0.mk (hb); have n4_ := Aside0.mk (ho); clear HO_3 BK217 HO227 HB HO_5; have HO_3 := n0_; have BK217 := n1_; have HO227 := n2_; have HB := n3_; have HO230 := n4_; clear n0_ n1_ n2_ n3_ n4_; clear ho hb hg hat))
      go_roundg k2
      case measure => have := HK1.out; have := HK2.out; omega
      case rel => exact ⟨(y228), (wrap64 (x6_2 + 1)), mF, H', ⟨by have := HK1.out; have := HK2.out; omega⟩, ⟨by (with_reducible repeat (first | apply Kd.N_alloc | apply Kd.N_drewN | apply Kd.N_drew)); exact Kd.N_mono HO_3.out (fun _ hk => ⟨hk.1.1, ⟨hk.2, hk.1.2.2⟩⟩)⟩, ⟨by (with_reducible repeat (first | apply Kd.R_alloc | apply Kd.R_drewN | apply Kd.R_drew)); exact Kd.R_mono HO230.out (fun _ hk => hk.1)⟩, ⟨(mK (BK217.out))⟩, ⟨mG⟩⟩
     rw [if_neg c15] at H
     have c15b0 : decide (x6_2 < a0_0) = false := decide_eq_false c15
     clear c15
     replace H := Option.bind_eq_some_iff.mp H
     obtain ⟨t231, A260, H⟩ := H
     have A26 := Aside0.mk A260
     clear A260
     by_cases c27 : t231 = true
     rotate_left
     ·
      replace c27 := Bool.eq_false_iff.mpr c27
      subst c27
      rw [if_neg (show ¬ (false = true) by decide)] at H
      have H' := Aside0.mk H
      clear H
      have hcz76_0 : wr.cell? ⟨gb217, 0, none⟩ = some (.int .i64 a0_0) := (blk_cell BK217.out 0).trans rfl
      have hcz76_1 : wr.cell? ⟨gb217, 1, none⟩ = some (.slice A0_1 l0_1.length c0_1) := (blk_cell BK217.out 1).trans rfl
      have hfz76_0 := blk_frozen BK217.out 0
      have hfz76_1 := blk_frozen BK217.out 1
      obtain ⟨Ao77, co77, eo77⟩ := Kd.R_slice HO_5.out
      subst eo77
      go_wp2_with (first | ((with_reducible refine gate_callee (f := 42) rfl ?_); refine goesL_ (some 38) rfl rfl Try.func42 (by kernel_rfl) rfl #[.agg #[.int .i64 a0_0, .slice A0_1 l0_1.length c0_1], .slice Ao77 x5_2.length co77] rfl mA ?_; (with_reducible refine (spec_IsComplete.calls k2 a0_0 _ _ l0_1 _ _ x5_2 false _ ?side1 ?side2 ?side3 ?side4 A26.out).mono ?_); (case side1 => exact mC (Kd.C_below HR0_1.out HB.out)); (case side2 => exact HC0_1.out); (case side3 => exact mC (Kd.R_reads' HO_5.out).2.2); (case side4 => exact (Kd.R_reads' HO_5.out).2.1); rintro e w78 ⟨rfl, hb⟩; refine ⟨_, rfl, ?_⟩; have n0_ := Aside0.mk (Kd.N_below (by (with_reducible repeat (first | apply Kd.N_alloc | apply Kd.N_drewN | apply Kd.N_drew)); exact HO_3.out) hb); have n1_ := Aside0.mk (Kd.R_below (mR HO_5.out) hb); have n2_ := Aside0.mk (blk_below (g := gb217) (o := .cells #[.int .i64 a0_0, .slice A0_1 l0_1.length c0_1] 28 (0, 0)) ((mK (BK217.out))) hb); have n3_ := Aside0.mk (below_step mG hb); clear HO_3 HO_5 BK217 HB; have HO_3 := n0_; have HO_5 := n1_; have BK217 := n2_; have HB := n3_; clear n0_ n1_ n2_ n3_; (try clear hb)))
      go_roundg k2
      case measure => have := HK1.out; have := HK2.out; omega
      case rel => exact ⟨(x3_1), (wrap64 (x4_1 + 1)), mF, H', ⟨by have := HK1.out; have := HK2.out; omega⟩, ⟨by (with_reducible repeat (first | apply Kd.N_alloc | apply Kd.N_drewN | apply Kd.N_drew)); exact Kd.N_mono HO_3.out (fun _ hk => ⟨hk.1, hk.2.2⟩)⟩, ⟨(mK (BK217.out))⟩, ⟨mG⟩⟩
     subst c27
     rw [if_pos rfl] at H
     have H' := Aside0.mk H
     clear H
     have hcz28_0 : wr.cell? ⟨gb217, 0, none⟩ = some (.int .i64 a0_0) := (blk_cell BK217.out 0).trans rfl
     have hcz28_1 : wr.cell? ⟨gb217, 1, none⟩ = some (.slice A0_1 l0_1.length c0_1) := (blk_cell BK217.out 1).trans rfl
     have hfz28_0 := blk_frozen BK217.out 0
     have hfz28_1 := blk_frozen BK217.out 1
     obtain ⟨Ao29, co29, eo29⟩ := Kd.R_slice HO_5.out
     subst eo29
     go_wp2_with (first | ((with_reducible refine gate_callee (f := 42) rfl ?_); refine goesL_ (some 38) rfl rfl Try.func42 (by kernel_rfl) rfl #[.agg #[.int .i64 a0_0, .slice A0_1 l0_1.length c0_1], .slice Ao29 x5_2.length co29] rfl mA ?_; (with_reducible refine (spec_IsComplete.calls k2 a0_0 _ _ l0_1 _ _ x5_2 true _ ?side1 ?side2 ?side3 ?side4 A26.out).mono ?_); (case side1 => exact mC (Kd.C_below HR0_1.out HB.out)); (case side2 => exact HC0_1.out); (case side3 => exact mC (Kd.R_reads' HO_5.out).2.2); (case side4 => exact (Kd.R_reads' HO_5.out).2.1); rintro e w30 ⟨rfl, hb⟩; refine ⟨_, rfl, ?_⟩; have n0_ := Aside0.mk (Kd.N_below (by (with_reducible repeat (first | apply Kd.N_alloc | apply Kd.N_drewN | apply Kd.N_drew)); exact HO_3.out) hb); have n1_ := Aside0.mk (Kd.R_below (mR HO_5.out) hb); have n2_ := Aside0.mk (blk_below (g := gb217) (o := .cells #[.int .i64 a0_0, .slice A0_1 l0_1.length c0_1] 28 (0, 0)) ((mK (BK217.out))) hb); have n3_ := Aside0.mk (below_step mG hb); clear HO_3 HO_5 BK217 HB; have HO_3 := n0_; have HO_5 := n1_; have BK217 := n2_; have HB := n3_; clear n0_ n1_ n2_ n3_; (try clear hb); obtain ⟨Ao31, co31, eo31⟩ := Kd.N_slice HO_3.out; subst eo31))
     go_loopg [7] k2 (fun kq v7 w' => ∃ (x7_3 : Int), v7 = .int .i64 x7_3 ∧ Aside0 (spec_AllComplete.l2 kq x3_1 x4_1 x5_2 x7_3 a0_0 l0_1 = some r) ∧ Aside0 (kq ≤ k2) ∧ Aside0 (Kd.N (Kd.slice 3 (Kd.int .i64)) 25 w' w.heap.size (fun k_ => (w.heap.size ≤ k_) ∧ some k_ ≠ ((.slice Ao29 x5_2.length co29) : Value).ownBlock ∧ k_ ≠ gb217) (.slice Ao31 x3_1.length co31) x3_1) ∧ Aside0 (Kd.R (Kd.int .i64) 3 w' w.heap.size (fun k_ => (w.heap.size ≤ k_)) (.slice Ao29 x5_2.length co29) x5_2) ∧ Aside0 (w'.heap[gb217]? = some (.cells #[.int .i64 a0_0, (.slice A0_1 l0_1.length c0_1)] 28 (0, 0))) ∧ Aside0 (Below w.heap.size w w'))
     case atStart => exact ⟨((x3_1.length : Int)), mF, H', ⟨Nat.le_refl _⟩, ⟨by (with_reducible repeat (first | apply Kd.N_alloc | apply Kd.N_drewN | apply Kd.N_drew)); exact HO_3.out⟩, ⟨mR HO_5.out⟩, ⟨(mK (BK217.out))⟩, ⟨mG⟩⟩
     case round =>
      clear H'
      (try clear c9b0); (try clear c9b1); (try clear c11b0); (try clear c15b0); (try clear c16b0); (try clear c16b1); (try clear c18b0); (try clear c18b1); (try clear hcz12_0); (try clear hcz12_1); (try clear hcz20_0); (try clear hcz20_1); (try clear hcz25_0); (try clear hcz25_1); (try clear hcz28_0); (try clear hcz28_1); (try clear hcz7_0); (try clear hcz7_1); (try clear hfz12_0); (try clear hfz12_1); (try clear hfz20_0); (try clear hfz20_1); (try clear hfz25_0); (try clear hfz25_1); (try clear hfz28_0); (try clear hfz28_1); (try clear hfz7_0); (try clear hfz7_1)
      obtain ⟨x7_3, rfl, HA, HK3, HO_3, HO_5, BK217, HB⟩ := hrel
      cases gk with
      | zero => exact absurd HA.out (by simp [spec_AllComplete.l2])
      | succ k3 =>
       have H := HA.out
       clear HA
       simp only [spec_AllComplete.l2] at H
       by_cases c32 : x7_3 > 0
       rotate_left
       ·
        rw [if_neg c32] at H
        have c32b0 : decide (0 < x7_3) = false := decide_eq_false c32
        clear c32
        obtain ⟨y259, hy259⟩ : ∃ y_ : List (List Int), y_ = (([] : List (List Int))) := ⟨_, rfl⟩
        replace H : (if 0 ≤ x7_3 then (if x7_3 ≤ (x3_1.length : Int) then ((some (x3_1.take (x7_3 : Int).toNat : List (List Int))).bind fun y262 => (if y259.length + y262.length < 5864062014805 then ((some (y259 ++ y262 : List (List Int))).bind fun y267 => ((some (([x5_2] : List (List Int)) : List (List Int))).bind fun y270 => (if y267.length + y270.length < 5864062014805 then ((some (y267 ++ y270 : List (List Int))).bind fun y273 => ((some (x3_1.drop (x7_3 : Int).toNat : List (List Int))).bind fun y276 => (if y273.length + y276.length < 5864062014805 then (spec_AllComplete.l0 k3 (y273 ++ y276) (wrap64 (x4_1 + 1)) a0_0 l0_1) else (none)))) else (none)))) else (none))) else (none)) else (none)) = some r := by first | (rw [hy259]; with_reducible exact H) | (have H2_ := (Option.bind_some _ _).symm.trans H; rw [hy259]; with_reducible exact H2_) | (have H2_ := (Option.bind_some _ _).symm.trans H; with_reducible exact H2_) | with_reducible exact H | (rw [hy259]; exact H) | exact H
        have Ny259 := Aside0.mk hy259
        clear hy259
        by_cases c57 : 0 ≤ x7_3
        rotate_left
        ·
         rw [if_neg c57] at H
         exact absurd H (by simp)
        rw [if_pos c57] at H
        have c57b0 := eq_true c57
        have c57b1 : decide (0 ≤ x7_3) = true := decide_eq_true c57
        clear c57
        by_cases c58 : x7_3 ≤ (x3_1.length : Int)
        rotate_left
        ·
         rw [if_neg c58] at H
         exact absurd H (by simp)
        rw [if_pos c58] at H
        have c58b0 := eq_true c58
        have c58b1 : decide (x7_3 ≤ (x3_1.length : Int)) = true := decide_eq_true c58
        clear c58
        obtain ⟨y262, hy262⟩ : ∃ y_ : List (List Int), y_ = (x3_1.take (x7_3 : Int).toNat) := ⟨_, rfl⟩
        replace H : (if y259.length + y262.length < 5864062014805 then ((some (y259 ++ y262 : List (List Int))).bind fun y267 => ((some (([x5_2] : List (List Int)) : List (List Int))).bind fun y270 => (if y267.length + y270.length < 5864062014805 then ((some (y267 ++ y270 : List (List Int))).bind fun y273 => ((some (x3_1.drop (x7_3 : Int).toNat : List (List Int))).bind fun y276 => (if y273.length + y276.length < 5864062014805 then (spec_AllComplete.l0 k3 (y273 ++ y276) (wrap64 (x4_1 + 1)) a0_0 l0_1) else (none)))) else (none)))) else (none)) = some r := by first | (rw [hy262]; with_reducible exact H) | (have H2_ := (Option.bind_some _ _).symm.trans H; rw [hy262]; with_reducible exact H2_) | (have H2_ := (Option.bind_some _ _).symm.trans H; with_reducible exact H2_) | with_reducible exact H | (rw [hy262]; exact H) | exact H
        have Ny262 := Aside0.mk hy262
        clear hy262
        by_cases c59 : y259.length + y262.length < 5864062014805
        rotate_left
        ·
         rw [if_neg c59] at H
         exact absurd H (by simp)
        rw [if_pos c59] at H
        have LMc59 := Aside0.mk c59
        clear c59
        obtain ⟨y267, hy267⟩ : ∃ y_ : List (List Int), y_ = (y259 ++ y262) := ⟨_, rfl⟩
        replace H : ((some (([x5_2] : List (List Int)) : List (List Int))).bind fun y270 => (if y267.length + y270.length < 5864062014805 then ((some (y267 ++ y270 : List (List Int))).bind fun y273 => ((some (x3_1.drop (x7_3 : Int).toNat : List (List Int))).bind fun y276 => (if y273.length + y276.length < 5864062014805 then (spec_AllComplete.l0 k3 (y273 ++ y276) (wrap64 (x4_1 + 1)) a0_0 l0_1) else (none)))) else (none))) = some r := by first | (rw [hy267]; with_reducible exact H) | (have H2_ := (Option.bind_some _ _).symm.trans H; rw [hy267]; with_reducible exact H2_) | (have H2_ := (Option.bind_some _ _).symm.trans H; with_reducible exact H2_) | with_reducible exact H | (rw [hy267]; exact H) | exact H
        have Ny267 := Aside0.mk hy267
        clear hy267
        obtain ⟨y270, hy270⟩ : ∃ y_ : List (List Int), y_ = (([x5_2] : List (List Int))) := ⟨_, rfl⟩
        replace H : (if y267.length + y270.length < 5864062014805 then ((some (y267 ++ y270 : List (List Int))).bind fun y273 => ((some (x3_1.drop (x7_3 : Int).toNat : List (List Int))).bind fun y276 => (if y273.length + y276.length < 5864062014805 then (spec_AllComplete.l0 k3 (y273 ++ y276) (wrap64 (x4_1 + 1)) a0_0 l0_1) else (none)))) else (none)) = some r := by first | (rw [hy270]; with_reducible exact H) | (have H2_ := (Option.bind_some _ _).symm.trans H; rw [hy270]; with_reducible exact H2_) | (have H2_ := (Option.bind_some _ _).symm.trans H; with_reducible exact H2_) | with_reducible exact H | (rw [hy270]; exact H) | exact H
        have Ny270 := Aside0.mk hy270
        clear hy270
        by_cases c60 : y267.length + y270.length < 5864062014805
        rotate_left
        ·
         rw [if_neg c60] at H
         exact absurd H (by simp)
        rw [if_pos c60] at H
        have LMc60 := Aside0.mk c60
        clear c60
        obtain ⟨y273, hy273⟩ : ∃ y_ : List (List Int), y_ = (y267 ++ y270) := ⟨_, rfl⟩
        replace H : ((some (x3_1.drop (x7_3 : Int).toNat : List (List Int))).bind fun y276 => (if y273.length + y276.length < 5864062014805 then (spec_AllComplete.l0 k3 (y273 ++ y276) (wrap64 (x4_1 + 1)) a0_0 l0_1) else (none))) = some r := by first | (rw [hy273]; with_reducible exact H) | (have H2_ := (Option.bind_some _ _).symm.trans H; rw [hy273]; with_reducible exact H2_) | (have H2_ := (Option.bind_some _ _).symm.trans H; with_reducible exact H2_) | with_reducible exact H | (rw [hy273]; exact H) | exact H
        have Ny273 := Aside0.mk hy273
        clear hy273
        have c61b0 := eq_true (mD : 0 ≤ x7_3)
        have c62b0 := eq_true (mD : x7_3 ≤ (x3_1.length : Int))
        obtain ⟨y276, hy276⟩ : ∃ y_ : List (List Int), y_ = (x3_1.drop (x7_3 : Int).toNat) := ⟨_, rfl⟩
        replace H : (if y273.length + y276.length < 5864062014805 then (spec_AllComplete.l0 k3 (y273 ++ y276) (wrap64 (x4_1 + 1)) a0_0 l0_1) else (none)) = some r := by first | (rw [hy276]; with_reducible exact H) | (have H2_ := (Option.bind_some _ _).symm.trans H; rw [hy276]; with_reducible exact H2_) | (have H2_ := (Option.bind_some _ _).symm.trans H; with_reducible exact H2_) | with_reducible exact H | (rw [hy276]; exact H) | exact H
        have Ny276 := Aside0.mk hy276
        clear hy276
        by_cases c63 : y273.length + y276.length < 5864062014805
        rotate_left
        ·
         rw [if_neg c63] at H
         exact absurd H (by simp)
        rw [if_pos c63] at H
        have LMc63 := Aside0.mk c63
        clear c63
        obtain ⟨y281, hy281⟩ : ∃ y_ : List (List Int), y_ = (y273 ++ y276) := ⟨_, rfl⟩
        replace H : (spec_AllComplete.l0 k3 y281 (wrap64 (x4_1 + 1)) a0_0 l0_1) = some r := by first | (rw [hy281]; with_reducible exact H) | (have H2_ := (Option.bind_some _ _).symm.trans H; rw [hy281]; with_reducible exact H2_) | (have H2_ := (Option.bind_some _ _).symm.trans H; with_reducible exact H2_) | with_reducible exact H | (rw [hy281]; exact H) | exact H
        have Ny281 := Aside0.mk hy281
        clear hy281
        have H' := Aside0.mk H
        clear H
        try go_wp2
        have n0_ := Aside0.mk (Kd.N_drew HO_3.out)
        have n1_ := Aside0.mk (Kd.R_drew HO_5.out)
        have n2_ := Aside0.mk (blk_drew BK217.out)
        have n3_ := Aside0.mk (below_drew1 HB.out)
        clear HO_3 HO_5 BK217 HB; have HO_3 := n0_; have HO_5 := n1_; have BK217 := n2_; have HB := n3_; clear n0_ n1_ n2_ n3_
        have q65 : (x7_3 : Int) ≤ ((x3_1.length : Int) : Int) := mD
        obtain ⟨i065, hi065, _, hsz65, _⟩ := info_parts info25
        have hroom65 : x3_1.length ≤ co31 := (Kd.N_reads' HO_3.out).2.1
        have hC65 : Kd.F (Kd.slice 3 (Kd.int .i64)) _ _ Ao31 x3_1.length x3_1 := (Kd.V_at (base := w.heap.size) (Kd.N_V HO_3.out)).2.2
        have hcut65 := cut_to (P := Try.prog) 22 25 .i64 Try.underlying22 hi065 Ao31 x3_1.length co31 x7_3 (mD) q65 hroom65
        have hr65 := Kd.F_take (m := (x7_3 : Int).toNat) hC65 (by omega)
        have hy65 : y262.length = (x7_3 : Int).toNat := (by rw [Ny262.out, List.length_take]; omega)
        rw [← Ny262.out] at hr65
        rw [← hy65] at hcut65
        have HO266 := Aside0.mk (show Kd.V (Kd.slice 3 (Kd.int .i64)) 25 _ w.heap.size _ (.slice Ao31 y262.length co31) y262 from Kd.V_mk (by omega) hr65)
        have HC266 := Aside0.mk (show y262.length ≤ co31 from by omega)
        clear hr65 hC65 hroom65 hi065 hsz65
        have KY65 := Aside0.mk hy65
        clear hy65
        replace q65 := eq_true q65
        have q66 : (x7_3 : Int) ≤ ((x3_1.length : Int) : Int) := mD
        obtain ⟨i066, hi066, _, hsz66, _⟩ := info_parts info25
        have hroom66 : x3_1.length ≤ co31 := (Kd.N_reads' HO_3.out).2.1
        have hC66 : Kd.F (Kd.slice 3 (Kd.int .i64)) _ _ Ao31 x3_1.length x3_1 := (Kd.V_at (base := w.heap.size) (Kd.N_V HO_3.out)).2.2
        have q066 : (0 : Int) ≤ (x7_3 : Int) := mD
        have hcut66 := cut_from (P := Try.prog) 22 25 .i64 Try.underlying22 hi066 1 hsz66 Ao31 x3_1.length co31 x7_3 q066 q66
        have hr66 := Kd.F_cut (m := (x7_3 : Int).toNat) (c := co31) hC66 (by omega) hroom66
        obtain ⟨A66, hA66⟩ : ∃ A1, A1 = (if co31 = (x7_3 : Int).toNat then Ao31 else (Ao31 : Option Addr).map (·.add ((x7_3 : Int).toNat * 1))) := ⟨_, rfl⟩
        obtain ⟨c66, hc66⟩ : ∃ c1, c1 = co31 - (x7_3 : Int).toNat := ⟨_, rfl⟩
        have hy66 : y276.length = x3_1.length - (x7_3 : Int).toNat := (by rw [Ny276.out, List.length_drop] <;> omega)
        rw [show (x3_1).drop (x7_3 : Int).toNat = y276 from Ny276.out.symm] at hr66
        replace hr66 : Kd.F (Kd.slice 3 (Kd.int .i64)) _ _ A66 y276.length y276 := (by rw [hA66]; exact hr66)
        rw [← hy66, ← hA66, ← hc66] at hcut66
        have HO280 := Aside0.mk (show Kd.V (Kd.slice 3 (Kd.int .i64)) 25 _ w.heap.size _ (.slice A66 y276.length c66) y276 from Kd.V_mk (by rw [hy66, hc66]; exact Nat.sub_le_sub_right hroom66 _) hr66)
        have HC280 := Aside0.mk (show y276.length ≤ c66 from by rw [hy66, hc66]; exact Nat.sub_le_sub_right hroom66 _)
        clear hr66 hC66 hroom66 hi066 hsz66 hc66
        have KY66 := Aside0.mk hy66
        have KA66 := Aside0.mk hA66
        clear hy66 hA66
        replace q66 := eq_true q66
        refine start_ (n := 13) (S := fun w' => True) (ds := []) (L_ 0 13) (by kernel_rfl) rfl rfl trivial (fun hHeld => ?_); refine with_tabW spec_AllComplete.tab17 spec_AllComplete.bits17 (fun HT_ HW_ => ?_)
        generalize wr.drew = w64 at HO_3 HO_5 BK217 HB HO266 HO280 hHeld ⊢
        refine ps 1 55 #[false, true, false, false, false, false, false, false, false, false, false, false, false] HT_.out ?_
        refine ps 2 56 #[false, true, true, false, false, false, false, false, false, false, false, false, false] HT_.out ?_
        refine ps 3 57 #[false, true, true, true, false, false, false, false, false, false, false, false, false] HT_.out ?_
        refine ps 5 59 #[false, true, true, true, false, true, false, false, false, false, false, false, false] HT_.out ?_
        refine ps 8 62 #[false, true, true, true, false, true, false, false, true, false, false, false, false] HT_.out ?_
        refine ps 9 63 #[false, true, true, true, false, true, false, false, true, true, false, false, false] HT_.out ?_
        refine ps 10 64 #[false, true, true, true, false, true, false, false, true, true, true, false, false] HT_.out ?_
        refine join_ (σ := Value × Value × Value) 3 #[true, true, true, true, true, true, true, false, true, true, true, false, false] (fun s_ => [(54, s_.1), (58, s_.2.1), (60, s_.2.2)]) (fun s_ w' => (Kd.V (Kd.slice 3 (Kd.int .i64)) 25 w' w.heap.size (fun k_ => (w.heap.size ≤ k_) ∧ some k_ ≠ (s_.2.1 : Value).ownBlock ∧ some k_ ≠ (s_.2.2 : Value).ownBlock ∧ k_ ≠ gb217) (.slice Ao31 y262.length co31) y262) ∧ (Kd.N (Kd.slice 3 (Kd.int .i64)) 25 w' w.heap.size (fun k_ => (w.heap.size ≤ k_) ∧ some k_ ≠ (s_.2.2 : Value).ownBlock ∧ k_ ≠ gb217) s_.2.1 y267) ∧ (Kd.N (Kd.slice 3 (Kd.int .i64)) 25 w' w.heap.size (fun k_ => (w.heap.size ≤ k_) ∧ some k_ ≠ (s_.2.1 : Value).ownBlock ∧ some k_ ≠ (.slice Ao31 x3_1.length co31 : Value).ownBlock ∧ k_ ≠ gb217) s_.2.2 y270) ∧ (Kd.V (Kd.slice 3 (Kd.int .i64)) 25 w' w.heap.size (fun k_ => (w.heap.size ≤ k_) ∧ some k_ ≠ (s_.2.1 : Value).ownBlock ∧ some k_ ≠ (s_.2.2 : Value).ownBlock ∧ k_ ≠ gb217) (.slice A66 y276.length c66) y276) ∧ (Kd.N (Kd.slice 3 (Kd.int .i64)) 25 w' w.heap.size (fun k_ => (w.heap.size ≤ k_) ∧ some k_ ≠ (s_.2.1 : Value).ownBlock ∧ some k_ ≠ (s_.2.2 : Value).ownBlock ∧ k_ ≠ gb217) (.slice Ao31 x3_1.length co31) x3_1) ∧ (w'.heap[gb217]? = some (.cells #[.int .i64 a0_0, .slice A0_1 l0_1.length c0_1] 28 (0, 0))) ∧ (Below w.heap.size w w')) ?_ ?_
        rotate_left
        ·
         intro hCont
         refine two_ (i := 0) (j := 6) (Ni := some 54) (Nj := some 60) #[true, true, true, true, false, true, false, false, true, true, true, false, false] #[false, true, true, true, false, true, true, false, true, true, true, false, false] rfl rfl rfl rfl (two_of HT_.out (by kernel_rfl)) (by decide) (by decide) (fun K hK => ?_) (fun K hK => ?_)
         ·
          skip
          refine Kd.N_lit_step (Kd.slice 3 (Kd.int .i64)) _ 25 ?hg (N' := 54) ?hd (xs := ([] : List (List Int))) (inner := []) (ok := (fun k_ => (w.heap.size ≤ k_) ∧ some k_ ≠ (.slice Ao31 x3_1.length co31 : Value).ownBlock ∧ some k_ ≠ (.slice Ao29 x5_2.length co29 : Value).ownBlock ∧ k_ ≠ gb217)) (okp := (fun k_ => (w.heap.size ≤ k_) ∧ some k_ ≠ (.slice Ao31 x3_1.length co31 : Value).ownBlock ∧ some k_ ≠ (.slice Ao29 x5_2.length co29 : Value).ownBlock ∧ k_ ≠ gb217)) ?hr ?hp (fun _ hk => hk) ((show ∀ k_, w64.heap.size ≤ k_ → (fun k_ => (w.heap.size ≤ k_) ∧ some k_ ≠ (.slice Ao31 x3_1.length co31 : Value).ownBlock ∧ some k_ ≠ (.slice Ao29 x5_2.length co29 : Value).ownBlock ∧ k_ ≠ gb217) k_ from fun k_ hk => ⟨(Nat.le_trans (below_size mG) hk), Kd.fresh' (Kd.N_lt (by (with_reducible repeat (first | apply Kd.N_alloc | apply Kd.N_drewN | apply Kd.N_drew)); exact HO_3.out)) k_ hk, Kd.fresh' (Kd.R_lt (mR HO_5.out)) k_ hk, Kd.freshB (g := gb217) (o := .cells #[.int .i64 a0_0, .slice A0_1 l0_1.length c0_1] 28 (0, 0)) ((mK (BK217.out))) k_ hk⟩) _ (Nat.le_refl _)) (Below.refl _ _) (Nat.le_refl _) (by simp) ?_; (case hd => rfl); (case hg => rfl); (case hr => first | (go_simp; done) | (go_simp; rfl)); (case hp => exact (Reps.none _ _))
          intro v260 w67 ho68 hb hg_ hnew_
          clear hg_ hnew_
          (first | rw [← Ny259.out] at ho68 | (simp only [Int.reduceToNat] at ho68; rw [← Ny259.out] at ho68))
          have n0_ := Aside0.mk (Kd.N_elder' (by (with_reducible repeat (first | apply Kd.N_alloc | apply Kd.N_drewN | apply Kd.N_drew)); exact HO_3.out) (Kd.N_base ho68) hb)
          have n1_ := Aside0.mk (Kd.R_below (mR HO_5.out) hb)
          have n2_ := Aside0.mk (Kd.V_elder' (by (with_reducible repeat (first | apply Kd.V_alloc | apply Kd.V_drewN | apply Kd.V_drew)); exact HO266.out) (Kd.N_base ho68) hb)
          have n3_ := Aside0.mk (Kd.V_elder' (by (with_reducible repeat (first | apply Kd.V_alloc | apply Kd.V_drewN | apply Kd.V_drew)); exact HO280.out) (Kd.N_base ho68) hb)
          have n4_ := Aside0.mk (Kd.N_lower ho68 (below_size mG))
          have n5_ := Aside0.mk (blk_below (g := gb217) (o := .cells #[.int .i64 a0_0, .slice A0_1 l0_1.length c0_1] 28 (0, 0)) ((mK (BK217.out))) hb)
          have n6_ := Aside0.mk (below_step mG hb)
          clear HO_3 HO_5 HO266 HO280 BK217 HB; have HO_3 := n0_; have HO_5 := n1_; have HO266 := n2_; have HO280 := n3_; have HO261 := n4_; have BK217 := n5_; have HB := n6_; clear n0_ n1_ n2_ n3_ n4_ n5_ n6_; clear hb ho68
          refine hK.out _ _ trivial (fun hHeld => ?_)
          clear hK K
          refine norm_ (a' := ?_) ?_ ?_
          rotate_left
          ·
           show Act.put _ (some 54) _ = _
           simp only [Act.put, List.setIfInBounds_toArray, List.set_cons_zero, List.set_cons_succ, i64_w, i32_w]
           rfl
          refine two_ (i := 4) (j := 6) (Ni := some 58) (Nj := some 60) #[true, true, true, true, true, true, false, false, true, true, true, false, false] #[true, true, true, true, false, true, true, false, true, true, true, false, false] rfl rfl rfl rfl (two_of HT_.out (by kernel_rfl)) (by decide) (by decide) (fun K hK => ?_) (fun K hK => ?_)
          ·
           skip
           refine Kd.N_append_rows_step (Kd.slice 3 (Kd.int .i64)) (w0 := w) w.heap.size (by rfl) (.tmp 54) (.tmp 57) 22 25 (.slice none 0 0) 24 rfl Try.underlying22 info25 rfl (by decide) (by omega) v260 y259 y262 _ _ _ (fun k_ => (w.heap.size ≤ k_) ∧ some k_ ≠ (.slice Ao29 x5_2.length co29 : Value).ownBlock ∧ k_ ≠ gb217) (fun k_ => ((fun k_ => (w.heap.size ≤ k_) ∧ some k_ ≠ (.slice Ao29 x5_2.length co29 : Value).ownBlock ∧ k_ ≠ gb217)) k_ ∧ some k_ ≠ (v260 : Value).ownBlock) rfl rfl ?aO ?aR (fun _ hk => hk) ?aF ?aB ?aS ?aL ?_
           (case aR => exact (by skip; exact Kd.V_F (Kd.V_mono (ok' := (fun k_ => ((fun k_ => (w.heap.size ≤ k_) ∧ some k_ ≠ (.slice Ao29 x5_2.length co29 : Value).ownBlock ∧ k_ ≠ gb217)) k_ ∧ some k_ ≠ (v260 : Value).ownBlock)) (HO266.out) (fun k_ hk => ⟨⟨hk.1.1, ⟨hk.1.2.1, hk.1.2.2⟩⟩, hk.2⟩))))
           (case aB => exact mG)
           (case aF => exact (fun k_ hk => ⟨(Nat.le_trans (below_size mG) hk), Kd.fresh' (Kd.R_lt (mR HO_5.out)) k_ hk, Kd.freshB (g := gb217) (o := .cells #[.int .i64 a0_0, .slice A0_1 l0_1.length c0_1] 28 (0, 0)) ((mK (BK217.out))) k_ hk⟩))
           (case aO => exact (by (with_reducible repeat (first | apply Kd.N_alloc | apply Kd.N_drewN | apply Kd.N_drew)); exact Kd.N_mono HO261.out (fun _ hk => ⟨hk.1, ⟨hk.2.2.1, hk.2.2.2⟩⟩)))
           (case aS => exact (below_size mG))
           (case aL => have := LMc59.out; omega)
           intro v268 w69 ho hb hg hat
           rw [← Ny267.out] at ho
           have n0_ := Aside0.mk (Kd.N_afterv (ok := (fun k_ => (w.heap.size ≤ k_) ∧ some k_ ≠ (.slice Ao29 x5_2.length co29 : Value).ownBlock ∧ k_ ≠ gb217)) (by (with_reducible repeat (first | apply Kd.N_alloc | apply Kd.N_drewN | apply Kd.N_drew)); exact HO_3.out) hg hat)
           have n1_ := Aside0.mk (Kd.R_over' (mR HO_5.out) (Kd.N_typed (by (with_reducible repeat (first | apply Kd.N_alloc | apply Kd.N_drewN | apply Kd.N_drew)); exact HO261.out)) (by decide) hg)
           have n2_ := Aside0.mk (blk_grown (g := gb217) (o := .cells #[.int .i64 a0_0, .slice A0_1 l0_1.length c0_1] 28 (0, 0)) ((mK (BK217.out))) hg (Kd.N_ne HO261.out BK217.out (by decide)))
           have n3_ := Aside0.mk (Kd.V_afterv (ok := (fun k_ => (w.heap.size ≤ k_) ∧ some k_ ≠ (.slice Ao29 x5_2.length co29 : Value).ownBlock ∧ k_ ≠ gb217)) (by (with_reducible repeat (first | apply Kd.V_alloc | apply Kd.V_drewN | apply Kd.V_drew)); exact HO266.out) hg hat)
           have n4_ := Aside0.mk (Kd.V_afterv (ok := (fun k_ => (w.heap.size ≤ k_) ∧ some k_ ≠ (.slice Ao29 x5_2.length co29 : Value).ownBlock ∧ k_ ≠ gb217)) (by (with_reducible repeat (first | apply Kd.V_alloc | apply Kd.V_drewN | apply Kd.V_drew)); exact HO280.out) hg hat)
           have n5_ := Aside0.mk (hb)
           have n6_ := Aside0.mk (ho)
           clear HO_3 HO_5 BK217 HO266 HO280 HB HO261; have HO_3 := n0_; have HO_5 := n1_; have BK217 := n2_; have HO266 := n3_; have HO280 := n4_; have HB := n5_; have HO269 := n6_; clear n0_ n1_ n2_ n3_ n4_ n5_ n6_; clear ho hb hg hat
           refine hK.out _ _ trivial (fun hHeld => ?_)
           clear hK K
           refine norm_ (a' := ?_) ?_ ?_
           rotate_left
           ·
            show Act.put _ (some 58) _ = _
            simp only [Act.put, List.setIfInBounds_toArray, List.set_cons_zero, List.set_cons_succ, i64_w, i32_w]
            rfl
           refine one_ (i := 6) (N := some 60) #[true, true, true, true, true, true, true, false, true, true, true, false, false] rfl rfl (one_of HT_.out (by kernel_rfl)) (by decide) (fun K hK => ?_)
           refine Kd.N_lit_step (Kd.slice 3 (Kd.int .i64)) _ 25 ?hg (N' := 60) ?hd (xs := ([x5_2] : List (List Int))) (inner := [.slice Ao29 x5_2.length co29]) (ok := (fun k_ => (w.heap.size ≤ k_) ∧ some k_ ≠ (.slice Ao31 x3_1.length co31 : Value).ownBlock ∧ some k_ ≠ (v268 : Value).ownBlock ∧ k_ ≠ gb217)) (okp := (fun k_ => (w.heap.size ≤ k_) ∧ some k_ ≠ (.slice Ao31 x3_1.length co31 : Value).ownBlock ∧ some k_ ≠ (v268 : Value).ownBlock ∧ k_ ≠ gb217)) ?hr ?hp (fun _ hk => hk) ((show ∀ k_, w69.heap.size ≤ k_ → (fun k_ => (w.heap.size ≤ k_) ∧ some k_ ≠ (.slice Ao31 x3_1.length co31 : Value).ownBlock ∧ some k_ ≠ (v268 : Value).ownBlock ∧ k_ ≠ gb217) k_ from fun k_ hk => ⟨(Nat.le_trans (below_size mG) hk), Kd.fresh' (Kd.N_lt (by (with_reducible repeat (first | apply Kd.N_alloc | apply Kd.N_drewN | apply Kd.N_drew)); exact HO_3.out)) k_ hk, Kd.fresh' (Kd.N_lt (by (with_reducible repeat (first | apply Kd.N_alloc | apply Kd.N_drewN | apply Kd.N_drew)); exact HO269.out)) k_ hk, Kd.freshB (g := gb217) (o := .cells #[.int .i64 a0_0, .slice A0_1 l0_1.length c0_1] 28 (0, 0)) ((mK (BK217.out))) k_ hk⟩) _ (Nat.le_refl _)) (Below.refl _ _) (Nat.le_refl _) (by simp) ?_; (case hd => rfl); (case hg => rfl); (case hr => first | (go_simp; done) | (go_simp; rfl)); (case hp => exact (Reps.one (show Kd.FK (Kd.slice 3 (Kd.int .i64)) _ _ x5_2 [.slice Ao29 x5_2.length co29] from (Kd.FK_slice_mk (Kd.R_reads' (Kd.R_mono (ok' := (fun k_ => (w.heap.size ≤ k_) ∧ some k_ ≠ (.slice Ao31 x3_1.length co31 : Value).ownBlock ∧ some k_ ≠ (v268 : Value).ownBlock ∧ k_ ≠ gb217)) (Kd.R_types (Kd.R_apart' (Kd.R_apart' (HO_5.out) (Kd.N_typed HO_3.out) (by decide)) (Kd.N_typed HO269.out) (by decide)) BK217.out (by decide)) (fun k_ hk => ⟨hk.1.1.1, ⟨hk.1.1.2, ⟨hk.1.2, hk.2⟩⟩⟩))).2.1 (Kd.R_F (Kd.R_mono (ok' := (fun k_ => (w.heap.size ≤ k_) ∧ some k_ ≠ (.slice Ao31 x3_1.length co31 : Value).ownBlock ∧ some k_ ≠ (v268 : Value).ownBlock ∧ k_ ≠ gb217)) (Kd.R_types (Kd.R_apart' (Kd.R_apart' (HO_5.out) (Kd.N_typed HO_3.out) (by decide)) (Kd.N_typed HO269.out) (by decide)) BK217.out (by decide)) (fun k_ hk => ⟨hk.1.1.1, ⟨hk.1.1.2, ⟨hk.1.2, hk.2⟩⟩⟩))))) (Reps.none _ _)))
           intro v271 w70 ho71 hb hg_ hnew_
           clear hg_ hnew_
           (first | rw [← Ny270.out] at ho71 | (simp only [Int.reduceToNat] at ho71; rw [← Ny270.out] at ho71))
           have n0_ := Aside0.mk (Kd.N_elder' (by (with_reducible repeat (first | apply Kd.N_alloc | apply Kd.N_drewN | apply Kd.N_drew)); exact HO_3.out) (Kd.N_base ho71) hb)
           have n1_ := Aside0.mk (Kd.V_elder' (by (with_reducible repeat (first | apply Kd.V_alloc | apply Kd.V_drewN | apply Kd.V_drew)); exact HO266.out) (Kd.N_base ho71) hb)
           have n2_ := Aside0.mk (Kd.V_elder' (by (with_reducible repeat (first | apply Kd.V_alloc | apply Kd.V_drewN | apply Kd.V_drew)); exact HO280.out) (Kd.N_base ho71) hb)
           have n3_ := Aside0.mk (Kd.N_elder' (by (with_reducible repeat (first | apply Kd.N_alloc | apply Kd.N_drewN | apply Kd.N_drew)); exact HO269.out) (Kd.N_base ho71) hb)
           have n4_ := Aside0.mk (Kd.N_lower ho71 (below_size mG))
           have n5_ := Aside0.mk (blk_below (g := gb217) (o := .cells #[.int .i64 a0_0, .slice A0_1 l0_1.length c0_1] 28 (0, 0)) ((mK (BK217.out))) hb)
           have n6_ := Aside0.mk (below_step mG hb)
           clear HO_3 HO266 HO280 HO269 BK217 HB HO_5; have HO_3 := n0_; have HO266 := n1_; have HO280 := n2_; have HO269 := n3_; have HO272 := n4_; have BK217 := n5_; have HB := n6_; clear n0_ n1_ n2_ n3_ n4_ n5_ n6_; clear hb ho71
           refine hK.out _ _ trivial (fun hHeld => ?_)
           clear hK K
           refine norm_ (a' := ?_) ?_ ?_
           rotate_left
           ·
            show Act.put _ (some 60) _ = _
            simp only [Act.put, List.setIfInBounds_toArray, List.set_cons_zero, List.set_cons_succ, i64_w, i32_w]
            rfl
           exact norm_ (by simp only [putAll, Act.put, List.setIfInBounds_toArray, List.set_cons_zero, List.set_cons_succ]) (hCont (v260, v268, v271) _ ⟨(by (with_reducible repeat (first | apply Kd.V_alloc | apply Kd.V_drewN | apply Kd.V_drew)); exact Kd.V_mono HO266.out (fun _ hk => ⟨hk.1.1.1, ⟨hk.1.2, ⟨hk.2, hk.1.1.2.2⟩⟩⟩)), (by (with_reducible repeat (first | apply Kd.N_alloc | apply Kd.N_drewN | apply Kd.N_drew)); exact Kd.N_mono HO269.out (fun _ hk => ⟨hk.1.1, ⟨hk.2, hk.1.2.2⟩⟩)), (by (with_reducible repeat (first | apply Kd.N_alloc | apply Kd.N_drewN | apply Kd.N_drew)); exact Kd.N_mono HO272.out (fun _ hk => ⟨hk.1, ⟨hk.2.2.1, ⟨hk.2.1, hk.2.2.2⟩⟩⟩)), (by (with_reducible repeat (first | apply Kd.V_alloc | apply Kd.V_drewN | apply Kd.V_drew)); exact Kd.V_mono HO280.out (fun _ hk => ⟨hk.1.1.1, ⟨hk.1.2, ⟨hk.2, hk.1.1.2.2⟩⟩⟩)), (by (with_reducible repeat (first | apply Kd.N_alloc | apply Kd.N_drewN | apply Kd.N_drew)); exact Kd.N_mono HO_3.out (fun _ hk => ⟨hk.1.1.1, ⟨hk.1.2, ⟨hk.2, hk.1.1.2.2⟩⟩⟩)), ((mK (BK217.out))), mG⟩)
          ·
           skip
           refine Kd.N_lit_step (Kd.slice 3 (Kd.int .i64)) _ 25 ?hg (N' := 60) ?hd (xs := ([x5_2] : List (List Int))) (inner := [.slice Ao29 x5_2.length co29]) (ok := (fun k_ => (w.heap.size ≤ k_) ∧ some k_ ≠ (.slice Ao31 x3_1.length co31 : Value).ownBlock ∧ some k_ ≠ (v260 : Value).ownBlock ∧ k_ ≠ gb217)) (okp := (fun k_ => (w.heap.size ≤ k_) ∧ some k_ ≠ (.slice Ao31 x3_1.length co31 : Value).ownBlock ∧ some k_ ≠ (v260 : Value).ownBlock ∧ k_ ≠ gb217)) ?hr ?hp (fun _ hk => hk) ((show ∀ k_, w67.heap.size ≤ k_ → (fun k_ => (w.heap.size ≤ k_) ∧ some k_ ≠ (.slice Ao31 x3_1.length co31 : Value).ownBlock ∧ some k_ ≠ (v260 : Value).ownBlock ∧ k_ ≠ gb217) k_ from fun k_ hk => ⟨(Nat.le_trans (below_size mG) hk), Kd.fresh' (Kd.N_lt (by (with_reducible repeat (first | apply Kd.N_alloc | apply Kd.N_drewN | apply Kd.N_drew)); exact HO_3.out)) k_ hk, Kd.fresh' (Kd.N_lt (by (with_reducible repeat (first | apply Kd.N_alloc | apply Kd.N_drewN | apply Kd.N_drew)); exact HO261.out)) k_ hk, Kd.freshB (g := gb217) (o := .cells #[.int .i64 a0_0, .slice A0_1 l0_1.length c0_1] 28 (0, 0)) ((mK (BK217.out))) k_ hk⟩) _ (Nat.le_refl _)) (Below.refl _ _) (Nat.le_refl _) (by simp) ?_; (case hd => rfl); (case hg => rfl); (case hr => first | (go_simp; done) | (go_simp; rfl)); (case hp => exact (Reps.one (show Kd.FK (Kd.slice 3 (Kd.int .i64)) _ _ x5_2 [.slice Ao29 x5_2.length co29] from (Kd.FK_slice_mk (Kd.R_reads' (Kd.R_mono (ok' := (fun k_ => (w.heap.size ≤ k_) ∧ some k_ ≠ (.slice Ao31 x3_1.length co31 : Value).ownBlock ∧ some k_ ≠ (v260 : Value).ownBlock ∧ k_ ≠ gb217)) (Kd.R_types (Kd.R_apart' (Kd.R_apart' (HO_5.out) (Kd.N_typed HO_3.out) (by decide)) (Kd.N_typed HO261.out) (by decide)) BK217.out (by decide)) (fun k_ hk => ⟨hk.1.1.1, ⟨hk.1.1.2, ⟨hk.1.2, hk.2⟩⟩⟩))).2.1 (Kd.R_F (Kd.R_mono (ok' := (fun k_ => (w.heap.size ≤ k_) ∧ some k_ ≠ (.slice Ao31 x3_1.length co31 : Value).ownBlock ∧ some k_ ≠ (v260 : Value).ownBlock ∧ k_ ≠ gb217)) (Kd.R_types (Kd.R_apart' (Kd.R_apart' (HO_5.out) (Kd.N_typed HO_3.out) (by decide)) (Kd.N_typed HO261.out) (by decide)) BK217.out (by decide)) (fun k_ hk => ⟨hk.1.1.1, ⟨hk.1.1.2, ⟨hk.1.2, hk.2⟩⟩⟩))))) (Reps.none _ _)))
           intro v271 w69 ho70 hb hg_ hnew_
           clear hg_ hnew_
           (first | rw [← Ny270.out] at ho70 | (simp only [Int.reduceToNat] at ho70; rw [← Ny270.out] at ho70))
           have n0_ := Aside0.mk (Kd.N_elder' (by (with_reducible repeat (first | apply Kd.N_alloc | apply Kd.N_drewN | apply Kd.N_drew)); exact HO_3.out) (Kd.N_base ho70) hb)
           have n1_ := Aside0.mk (Kd.V_elder' (by (with_reducible repeat (first | apply Kd.V_alloc | apply Kd.V_drewN | apply Kd.V_drew)); exact HO266.out) (Kd.N_base ho70) hb)
           have n2_ := Aside0.mk (Kd.V_elder' (by (with_reducible repeat (first | apply Kd.V_alloc | apply Kd.V_drewN | apply Kd.V_drew)); exact HO280.out) (Kd.N_base ho70) hb)
           have n3_ := Aside0.mk (Kd.N_elder' (by (with_reducible repeat (first | apply Kd.N_alloc | apply Kd.N_drewN | apply Kd.N_drew)); exact HO261.out) (Kd.N_base ho70) hb)
           have n4_ := Aside0.mk (Kd.N_lower ho70 (below_size mG))
           have n5_ := Aside0.mk (blk_below (g := gb217) (o := .cells #[.int .i64 a0_0, .slice A0_1 l0_1.length c0_1] 28 (0, 0)) ((mK (BK217.out))) hb)
           have n6_ := Aside0.mk (below_step mG hb)
           clear HO_3 HO266 HO280 HO261 BK217 HB HO_5; have HO_3 := n0_; have HO266 := n1_; have HO280 := n2_; have HO261 := n3_; have HO272 := n4_; have BK217 := n5_; have HB := n6_; clear n0_ n1_ n2_ n3_ n4_ n5_ n6_; clear hb ho70
           refine hK.out _ _ trivial (fun hHeld => ?_)
           clear hK K
           refine norm_ (a' := ?_) ?_ ?_
           rotate_left
           ·
            show Act.put _ (some 60) _ = _
            simp only [Act.put, List.setIfInBounds_toArray, List.set_cons_zero, List.set_cons_succ, i64_w, i32_w]
            rfl
           refine one_ (i := 4) (N := some 58) #[true, true, true, true, true, true, true, false, true, true, true, false, false] rfl rfl (one_of HT_.out (by kernel_rfl)) (by decide) (fun K hK => ?_)
           refine Kd.N_append_rows_step (Kd.slice 3 (Kd.int .i64)) (w0 := w) w.heap.size (by rfl) (.tmp 54) (.tmp 57) 22 25 (.slice none 0 0) 24 rfl Try.underlying22 info25 rfl (by decide) (by omega) v260 y259 y262 _ _ _ (fun k_ => (w.heap.size ≤ k_) ∧ some k_ ≠ (v271 : Value).ownBlock ∧ k_ ≠ gb217) (fun k_ => ((fun k_ => (w.heap.size ≤ k_) ∧ some k_ ≠ (v271 : Value).ownBlock ∧ k_ ≠ gb217)) k_ ∧ some k_ ≠ (v260 : Value).ownBlock) rfl rfl ?aO ?aR (fun _ hk => hk) ?aF ?aB ?aS ?aL ?_
           (case aR => exact (by skip; exact Kd.V_F (Kd.V_mono (ok' := (fun k_ => ((fun k_ => (w.heap.size ≤ k_) ∧ some k_ ≠ (v271 : Value).ownBlock ∧ k_ ≠ gb217)) k_ ∧ some k_ ≠ (v260 : Value).ownBlock)) (HO266.out) (fun k_ hk => ⟨⟨hk.1.1.1, ⟨hk.2, hk.1.1.2.2⟩⟩, hk.1.2⟩))))
           (case aB => exact mG)
           (case aF => exact (fun k_ hk => ⟨(Nat.le_trans (below_size mG) hk), Kd.fresh' (Kd.N_lt (by (with_reducible repeat (first | apply Kd.N_alloc | apply Kd.N_drewN | apply Kd.N_drew)); exact HO272.out)) k_ hk, Kd.freshB (g := gb217) (o := .cells #[.int .i64 a0_0, .slice A0_1 l0_1.length c0_1] 28 (0, 0)) ((mK (BK217.out))) k_ hk⟩))
           (case aO => exact (by (with_reducible repeat (first | apply Kd.N_alloc | apply Kd.N_drewN | apply Kd.N_drew)); exact Kd.N_mono HO261.out (fun _ hk => ⟨hk.1.1, ⟨hk.2, hk.1.2.2.2⟩⟩)))
           (case aS => exact (below_size mG))
           (case aL => have := LMc59.out; omega)
           intro v268 w71 ho hb hg hat
           rw [← Ny267.out] at ho
           have n0_ := Aside0.mk (Kd.N_afterv (ok := (fun k_ => (w.heap.size ≤ k_) ∧ some k_ ≠ (v271 : Value).ownBlock ∧ k_ ≠ gb217)) (by (with_reducible repeat (first | apply Kd.N_alloc | apply Kd.N_drewN | apply Kd.N_drew)); exact Kd.N_mono HO_3.out (fun _ hk => ⟨⟨hk.1.1.1, ⟨hk.2, hk.1.1.2.2⟩⟩, hk.1.2⟩)) hg hat)
           have n1_ := Aside0.mk (blk_grown (g := gb217) (o := .cells #[.int .i64 a0_0, .slice A0_1 l0_1.length c0_1] 28 (0, 0)) ((mK (BK217.out))) hg (Kd.N_ne HO261.out BK217.out (by decide)))
           have n2_ := Aside0.mk (Kd.V_afterv (ok := (fun k_ => (w.heap.size ≤ k_) ∧ some k_ ≠ (v271 : Value).ownBlock ∧ k_ ≠ gb217)) (by (with_reducible repeat (first | apply Kd.V_alloc | apply Kd.V_drewN | apply Kd.V_drew)); exact Kd.V_mono HO266.out (fun _ hk => ⟨⟨hk.1.1.1, ⟨hk.2, hk.1.1.2.2⟩⟩, hk.1.2⟩)) hg hat)
           have n3_ := Aside0.mk (Kd.V_afterv (ok := (fun k_ => (w.heap.size ≤ k_) ∧ some k_ ≠ (v271 : Value).ownBlock ∧ k_ ≠ gb217)) (by (with_reducible repeat (first | apply Kd.V_alloc | apply Kd.V_drewN | apply Kd.V_drew)); exact Kd.V_mono HO280.out (fun _ hk => ⟨⟨hk.1.1.1, ⟨hk.2, hk.1.1.2.2⟩⟩, hk.1.2⟩)) hg hat)
           have n4_ := Aside0.mk (Kd.N_afterv (ok := (fun k_ => (w.heap.size ≤ k_) ∧ some k_ ≠ (.slice Ao31 x3_1.length co31 : Value).ownBlock ∧ k_ ≠ gb217)) (by (with_reducible repeat (first | apply Kd.N_alloc | apply Kd.N_drewN | apply Kd.N_drew)); exact Kd.N_mono HO272.out (fun _ hk => ⟨⟨hk.1, ⟨hk.2.1, hk.2.2.2⟩⟩, hk.2.2.1⟩)) hg hat)
           have n5_ := Aside0.mk (hb)
           have n6_ := Aside0.mk (ho)
           clear HO_3 BK217 HO266 HO280 HO272 HB HO261; have HO_3 := n0_; have BK217 := n1_; have HO266 := n2_; have HO280 := n3_; have HO272 := n4_; have HB := n5_; have HO269 := n6_; clear n0_ n1_ n2_ n3_ n4_ n5_ n6_; clear ho hb hg hat
           refine hK.out _ _ trivial (fun hHeld => ?_)
           clear hK K
           refine norm_ (a' := ?_) ?_ ?_
           rotate_left
           ·
            show Act.put _ (some 58) _ = _
            simp only [Act.put, List.setIfInBounds_toArray, List.set_cons_zero, List.set_cons_succ, i64_w, i32_w]
            rfl
           exact norm_ (by simp only [putAll, Act.put, List.setIfInBounds_toArray, List.set_cons_zero, List.set_cons_succ]) (hCont (v260, v268, v271) _ ⟨(by (with_reducible repeat (first | apply Kd.V_alloc | apply Kd.V_drewN | apply Kd.V_drew)); exact Kd.V_mono HO266.out (fun _ hk => ⟨hk.1.1, ⟨hk.2, ⟨hk.1.2.1, hk.1.2.2⟩⟩⟩)), (by (with_reducible repeat (first | apply Kd.N_alloc | apply Kd.N_drewN | apply Kd.N_drew)); exact HO269.out), (by (with_reducible repeat (first | apply Kd.N_alloc | apply Kd.N_drewN | apply Kd.N_drew)); exact Kd.N_mono HO272.out (fun _ hk => ⟨hk.1.1, ⟨hk.2, ⟨hk.1.2.1, hk.1.2.2⟩⟩⟩)), (by (with_reducible repeat (first | apply Kd.V_alloc | apply Kd.V_drewN | apply Kd.V_drew)); exact Kd.V_mono HO280.out (fun _ hk => ⟨hk.1.1, ⟨hk.2, ⟨hk.1.2.1, hk.1.2.2⟩⟩⟩)), (by (with_reducible repeat (first | apply Kd.N_alloc | apply Kd.N_drewN | apply Kd.N_drew)); exact Kd.N_mono HO_3.out (fun _ hk => ⟨hk.1.1, ⟨hk.2, ⟨hk.1.2.1, hk.1.2.2⟩⟩⟩)), ((mK (BK217.out))), mG⟩)
         ·
          skip
          refine Kd.N_lit_step (Kd.slice 3 (Kd.int .i64)) _ 25 ?hg (N' := 60) ?hd (xs := ([x5_2] : List (List Int))) (inner := [.slice Ao29 x5_2.length co29]) (ok := (fun k_ => (w.heap.size ≤ k_) ∧ some k_ ≠ (.slice Ao31 x3_1.length co31 : Value).ownBlock ∧ k_ ≠ gb217)) (okp := (fun k_ => (w.heap.size ≤ k_) ∧ some k_ ≠ (.slice Ao31 x3_1.length co31 : Value).ownBlock ∧ k_ ≠ gb217)) ?hr ?hp (fun _ hk => hk) ((show ∀ k_, w64.heap.size ≤ k_ → (fun k_ => (w.heap.size ≤ k_) ∧ some k_ ≠ (.slice Ao31 x3_1.length co31 : Value).ownBlock ∧ k_ ≠ gb217) k_ from fun k_ hk => ⟨(Nat.le_trans (below_size mG) hk), Kd.fresh' (Kd.N_lt (by (with_reducible repeat (first | apply Kd.N_alloc | apply Kd.N_drewN | apply Kd.N_drew)); exact HO_3.out)) k_ hk, Kd.freshB (g := gb217) (o := .cells #[.int .i64 a0_0, .slice A0_1 l0_1.length c0_1] 28 (0, 0)) ((mK (BK217.out))) k_ hk⟩) _ (Nat.le_refl _)) (Below.refl _ _) (Nat.le_refl _) (by simp) ?_; (case hd => rfl); (case hg => rfl); (case hr => first | (go_simp; done) | (go_simp; rfl)); (case hp => exact (Reps.one (show Kd.FK (Kd.slice 3 (Kd.int .i64)) _ _ x5_2 [.slice Ao29 x5_2.length co29] from (Kd.FK_slice_mk (Kd.R_reads' (Kd.R_mono (ok' := (fun k_ => (w.heap.size ≤ k_) ∧ some k_ ≠ (.slice Ao31 x3_1.length co31 : Value).ownBlock ∧ k_ ≠ gb217)) (Kd.R_types (Kd.R_apart' (HO_5.out) (Kd.N_typed HO_3.out) (by decide)) BK217.out (by decide)) (fun k_ hk => ⟨hk.1.1, ⟨hk.1.2, hk.2⟩⟩))).2.1 (Kd.R_F (Kd.R_mono (ok' := (fun k_ => (w.heap.size ≤ k_) ∧ some k_ ≠ (.slice Ao31 x3_1.length co31 : Value).ownBlock ∧ k_ ≠ gb217)) (Kd.R_types (Kd.R_apart' (HO_5.out) (Kd.N_typed HO_3.out) (by decide)) BK217.out (by decide)) (fun k_ hk => ⟨hk.1.1, ⟨hk.1.2, hk.2⟩⟩))))) (Reps.none _ _)))
          intro v271 w67 ho68 hb hg_ hnew_
          clear hg_ hnew_
          (first | rw [← Ny270.out] at ho68 | (simp only [Int.reduceToNat] at ho68; rw [← Ny270.out] at ho68))
          have n0_ := Aside0.mk (Kd.N_elder' (by (with_reducible repeat (first | apply Kd.N_alloc | apply Kd.N_drewN | apply Kd.N_drew)); exact HO_3.out) (Kd.N_base ho68) hb)
          have n1_ := Aside0.mk (Kd.V_elder' (by (with_reducible repeat (first | apply Kd.V_alloc | apply Kd.V_drewN | apply Kd.V_drew)); exact HO266.out) (Kd.N_base ho68) hb)
          have n2_ := Aside0.mk (Kd.V_elder' (by (with_reducible repeat (first | apply Kd.V_alloc | apply Kd.V_drewN | apply Kd.V_drew)); exact HO280.out) (Kd.N_base ho68) hb)
          have n3_ := Aside0.mk (Kd.N_lower ho68 (below_size mG))
          have n4_ := Aside0.mk (blk_below (g := gb217) (o := .cells #[.int .i64 a0_0, .slice A0_1 l0_1.length c0_1] 28 (0, 0)) ((mK (BK217.out))) hb)
          have n5_ := Aside0.mk (below_step mG hb)
          clear HO_3 HO266 HO280 BK217 HB HO_5; have HO_3 := n0_; have HO266 := n1_; have HO280 := n2_; have HO272 := n3_; have BK217 := n4_; have HB := n5_; clear n0_ n1_ n2_ n3_ n4_ n5_; clear hb ho68
          refine hK.out _ _ trivial (fun hHeld => ?_)
          clear hK K
          refine norm_ (a' := ?_) ?_ ?_
          rotate_left
          ·
           show Act.put _ (some 60) _ = _
           simp only [Act.put, List.setIfInBounds_toArray, List.set_cons_zero, List.set_cons_succ, i64_w, i32_w]
           rfl
          refine one_ (i := 0) (N := some 54) #[true, true, true, true, false, true, true, false, true, true, true, false, false] rfl rfl (one_of HT_.out (by kernel_rfl)) (by decide) (fun K hK => ?_)
          refine Kd.N_lit_step (Kd.slice 3 (Kd.int .i64)) _ 25 ?hg (N' := 54) ?hd (xs := ([] : List (List Int))) (inner := []) (ok := (fun k_ => (w.heap.size ≤ k_) ∧ some k_ ≠ (.slice Ao31 x3_1.length co31 : Value).ownBlock ∧ some k_ ≠ (v271 : Value).ownBlock ∧ k_ ≠ gb217)) (okp := (fun k_ => (w.heap.size ≤ k_) ∧ some k_ ≠ (.slice Ao31 x3_1.length co31 : Value).ownBlock ∧ some k_ ≠ (v271 : Value).ownBlock ∧ k_ ≠ gb217)) ?hr ?hp (fun _ hk => hk) ((show ∀ k_, w67.heap.size ≤ k_ → (fun k_ => (w.heap.size ≤ k_) ∧ some k_ ≠ (.slice Ao31 x3_1.length co31 : Value).ownBlock ∧ some k_ ≠ (v271 : Value).ownBlock ∧ k_ ≠ gb217) k_ from fun k_ hk => ⟨(Nat.le_trans (below_size mG) hk), Kd.fresh' (Kd.N_lt (by (with_reducible repeat (first | apply Kd.N_alloc | apply Kd.N_drewN | apply Kd.N_drew)); exact HO_3.out)) k_ hk, Kd.fresh' (Kd.N_lt (by (with_reducible repeat (first | apply Kd.N_alloc | apply Kd.N_drewN | apply Kd.N_drew)); exact HO272.out)) k_ hk, Kd.freshB (g := gb217) (o := .cells #[.int .i64 a0_0, .slice A0_1 l0_1.length c0_1] 28 (0, 0)) ((mK (BK217.out))) k_ hk⟩) _ (Nat.le_refl _)) (Below.refl _ _) (Nat.le_refl _) (by simp) ?_; (case hd => rfl); (case hg => rfl); (case hr => first | (go_simp; done) | (go_simp; rfl)); (case hp => exact (Reps.none _ _))
          intro v260 w69 ho70 hb hg_ hnew_
          clear hg_ hnew_
          (first | rw [← Ny259.out] at ho70 | (simp only [Int.reduceToNat] at ho70; rw [← Ny259.out] at ho70))
          have n0_ := Aside0.mk (Kd.N_elder' (by (with_reducible repeat (first | apply Kd.N_alloc | apply Kd.N_drewN | apply Kd.N_drew)); exact HO_3.out) (Kd.N_base ho70) hb)
          have n1_ := Aside0.mk (Kd.V_elder' (by (with_reducible repeat (first | apply Kd.V_alloc | apply Kd.V_drewN | apply Kd.V_drew)); exact HO266.out) (Kd.N_base ho70) hb)
          have n2_ := Aside0.mk (Kd.V_elder' (by (with_reducible repeat (first | apply Kd.V_alloc | apply Kd.V_drewN | apply Kd.V_drew)); exact HO280.out) (Kd.N_base ho70) hb)
          have n3_ := Aside0.mk (Kd.N_elder' (by (with_reducible repeat (first | apply Kd.N_alloc | apply Kd.N_drewN | apply Kd.N_drew)); exact HO272.out) (Kd.N_base ho70) hb)
          have n4_ := Aside0.mk (Kd.N_lower ho70 (below_size mG))
          have n5_ := Aside0.mk (blk_below (g := gb217) (o := .cells #[.int .i64 a0_0, .slice A0_1 l0_1.length c0_1] 28 (0, 0)) ((mK (BK217.out))) hb)
          have n6_ := Aside0.mk (below_step mG hb)
          clear HO_3 HO266 HO280 HO272 BK217 HB; have HO_3 := n0_; have HO266 := n1_; have HO280 := n2_; have HO272 := n3_; have HO261 := n4_; have BK217 := n5_; have HB := n6_; clear n0_ n1_ n2_ n3_ n4_ n5_ n6_; clear hb ho70
          refine hK.out _ _ trivial (fun hHeld => ?_)
          clear hK K
          refine norm_ (a' := ?_) ?_ ?_
          rotate_left
          ·
           show Act.put _ (some 54) _ = _
           simp only [Act.put, List.setIfInBounds_toArray, List.set_cons_zero, List.set_cons_succ, i64_w, i32_w]
           rfl
          refine one_ (i := 4) (N := some 58) #[true, true, true, true, true, true, true, false, true, true, true, false, false] rfl rfl (one_of HT_.out (by kernel_rfl)) (by decide) (fun K hK => ?_)
          refine Kd.N_append_rows_step (Kd.slice 3 (Kd.int .i64)) (w0 := w) w.heap.size (by rfl) (.tmp 54) (.tmp 57) 22 25 (.slice none 0 0) 24 rfl Try.underlying22 info25 rfl (by decide) (by omega) v260 y259 y262 _ _ _ (fun k_ => (w.heap.size ≤ k_) ∧ some k_ ≠ (v271 : Value).ownBlock ∧ k_ ≠ gb217) (fun k_ => ((fun k_ => (w.heap.size ≤ k_) ∧ some k_ ≠ (v271 : Value).ownBlock ∧ k_ ≠ gb217)) k_ ∧ some k_ ≠ (v260 : Value).ownBlock) rfl rfl ?aO ?aR (fun _ hk => hk) ?aF ?aB ?aS ?aL ?_
          (case aR => exact (by skip; exact Kd.V_F (Kd.V_mono (ok' := (fun k_ => ((fun k_ => (w.heap.size ≤ k_) ∧ some k_ ≠ (v271 : Value).ownBlock ∧ k_ ≠ gb217)) k_ ∧ some k_ ≠ (v260 : Value).ownBlock)) (HO266.out) (fun k_ hk => ⟨⟨hk.1.1.1, ⟨hk.1.2, hk.1.1.2.2⟩⟩, hk.2⟩))))
          (case aB => exact mG)
          (case aF => exact (fun k_ hk => ⟨(Nat.le_trans (below_size mG) hk), Kd.fresh' (Kd.N_lt (by (with_reducible repeat (first | apply Kd.N_alloc | apply Kd.N_drewN | apply Kd.N_drew)); exact HO272.out)) k_ hk, Kd.freshB (g := gb217) (o := .cells #[.int .i64 a0_0, .slice A0_1 l0_1.length c0_1] 28 (0, 0)) ((mK (BK217.out))) k_ hk⟩))
          (case aO => exact (by (with_reducible repeat (first | apply Kd.N_alloc | apply Kd.N_drewN | apply Kd.N_drew)); exact Kd.N_mono HO261.out (fun _ hk => ⟨hk.1, ⟨hk.2.2.1, hk.2.2.2⟩⟩)))
          (case aS => exact (below_size mG))
          (case aL => have := LMc59.out; omega)
          intro v268 w71 ho hb hg hat
          rw [← Ny267.out] at ho
          have n0_ := Aside0.mk (Kd.N_afterv (ok := (fun k_ => (w.heap.size ≤ k_) ∧ some k_ ≠ (v271 : Value).ownBlock ∧ k_ ≠ gb217)) (by (with_reducible repeat (first | apply Kd.N_alloc | apply Kd.N_drewN | apply Kd.N_drew)); exact Kd.N_mono HO_3.out (fun _ hk => ⟨⟨hk.1.1.1, ⟨hk.1.2, hk.1.1.2.2⟩⟩, hk.2⟩)) hg hat)
          have n1_ := Aside0.mk (blk_grown (g := gb217) (o := .cells #[.int .i64 a0_0, .slice A0_1 l0_1.length c0_1] 28 (0, 0)) ((mK (BK217.out))) hg (Kd.N_ne HO261.out BK217.out (by decide)))
          have n2_ := Aside0.mk (Kd.V_afterv (ok := (fun k_ => (w.heap.size ≤ k_) ∧ some k_ ≠ (v271 : Value).ownBlock ∧ k_ ≠ gb217)) (by (with_reducible repeat (first | apply Kd.V_alloc | apply Kd.V_drewN | apply Kd.V_drew)); exact Kd.V_mono HO266.out (fun _ hk => ⟨⟨hk.1.1.1, ⟨hk.1.2, hk.1.1.2.2⟩⟩, hk.2⟩)) hg hat)
          have n3_ := Aside0.mk (Kd.V_afterv (ok := (fun k_ => (w.heap.size ≤ k_) ∧ some k_ ≠ (v271 : Value).ownBlock ∧ k_ ≠ gb217)) (by (with_reducible repeat (first | apply Kd.V_alloc | apply Kd.V_drewN | apply Kd.V_drew)); exact Kd.V_mono HO280.out (fun _ hk => ⟨⟨hk.1.1.1, ⟨hk.1.2, hk.1.1.2.2⟩⟩, hk.2⟩)) hg hat)
          have n4_ := Aside0.mk (Kd.N_afterv (ok := (fun k_ => (w.heap.size ≤ k_) ∧ some k_ ≠ (.slice Ao31 x3_1.length co31 : Value).ownBlock ∧ k_ ≠ gb217)) (by (with_reducible repeat (first | apply Kd.N_alloc | apply Kd.N_drewN | apply Kd.N_drew)); exact HO272.out) hg hat)
          have n5_ := Aside0.mk (hb)
          have n6_ := Aside0.mk (ho)
          clear HO_3 BK217 HO266 HO280 HO272 HB HO261; have HO_3 := n0_; have BK217 := n1_; have HO266 := n2_; have HO280 := n3_; have HO272 := n4_; have HB := n5_; have HO269 := n6_; clear n0_ n1_ n2_ n3_ n4_ n5_ n6_; clear ho hb hg hat
          refine hK.out _ _ trivial (fun hHeld => ?_)
          clear hK K
          refine norm_ (a' := ?_) ?_ ?_
          rotate_left
          ·
           show Act.put _ (some 58) _ = _
           simp only [Act.put, List.setIfInBounds_toArray, List.set_cons_zero, List.set_cons_succ, i64_w, i32_w]
           rfl
          exact norm_ (by simp only [putAll, Act.put, List.setIfInBounds_toArray, List.set_cons_zero, List.set_cons_succ]) (hCont (v260, v268, v271) _ ⟨(by (with_reducible repeat (first | apply Kd.V_alloc | apply Kd.V_drewN | apply Kd.V_drew)); exact Kd.V_mono HO266.out (fun _ hk => ⟨hk.1.1, ⟨hk.2, ⟨hk.1.2.1, hk.1.2.2⟩⟩⟩)), (by (with_reducible repeat (first | apply Kd.N_alloc | apply Kd.N_drewN | apply Kd.N_drew)); exact HO269.out), (by (with_reducible repeat (first | apply Kd.N_alloc | apply Kd.N_drewN | apply Kd.N_drew)); exact Kd.N_mono HO272.out (fun _ hk => ⟨hk.1.1, ⟨hk.2, ⟨hk.1.2.1, hk.1.2.2⟩⟩⟩)), (by (with_reducible repeat (first | apply Kd.V_alloc | apply Kd.V_drewN | apply Kd.V_drew)); exact Kd.V_mono HO280.out (fun _ hk => ⟨hk.1.1, ⟨hk.2, ⟨hk.1.2.1, hk.1.2.2⟩⟩⟩)), (by (with_reducible repeat (first | apply Kd.N_alloc | apply Kd.N_drewN | apply Kd.N_drew)); exact Kd.N_mono HO_3.out (fun _ hk => ⟨hk.1.1, ⟨hk.2, ⟨hk.1.2.1, hk.1.2.2⟩⟩⟩)), ((mK (BK217.out))), mG⟩)
        rintro ⟨v260, v268, v271⟩ w72 ⟨h0_, h1_, h2_, h3_, h4_, h5_, h6_⟩
        have n0_ : Aside0 (Kd.V (Kd.slice 3 (Kd.int .i64)) 25 w72 w.heap.size (fun k_ => (w.heap.size ≤ k_) ∧ some k_ ≠ (v268 : Value).ownBlock ∧ some k_ ≠ (v271 : Value).ownBlock ∧ k_ ≠ gb217) (.slice Ao31 y262.length co31) y262) := ⟨h0_⟩
        have n1_ : Aside0 (Kd.N (Kd.slice 3 (Kd.int .i64)) 25 w72 w.heap.size (fun k_ => (w.heap.size ≤ k_) ∧ some k_ ≠ (v271 : Value).ownBlock ∧ k_ ≠ gb217) v268 y267) := ⟨h1_⟩
        have n2_ : Aside0 (Kd.N (Kd.slice 3 (Kd.int .i64)) 25 w72 w.heap.size (fun k_ => (w.heap.size ≤ k_) ∧ some k_ ≠ (v268 : Value).ownBlock ∧ some k_ ≠ (.slice Ao31 x3_1.length co31 : Value).ownBlock ∧ k_ ≠ gb217) v271 y270) := ⟨h2_⟩
        have n3_ : Aside0 (Kd.V (Kd.slice 3 (Kd.int .i64)) 25 w72 w.heap.size (fun k_ => (w.heap.size ≤ k_) ∧ some k_ ≠ (v268 : Value).ownBlock ∧ some k_ ≠ (v271 : Value).ownBlock ∧ k_ ≠ gb217) (.slice A66 y276.length c66) y276) := ⟨h3_⟩
        have n4_ : Aside0 (Kd.N (Kd.slice 3 (Kd.int .i64)) 25 w72 w.heap.size (fun k_ => (w.heap.size ≤ k_) ∧ some k_ ≠ (v268 : Value).ownBlock ∧ some k_ ≠ (v271 : Value).ownBlock ∧ k_ ≠ gb217) (.slice Ao31 x3_1.length co31) x3_1) := ⟨h4_⟩
        have n5_ : Aside0 (w72.heap[gb217]? = some (.cells #[.int .i64 a0_0, .slice A0_1 l0_1.length c0_1] 28 (0, 0))) := ⟨h5_⟩
        have n6_ : Aside0 (Below w.heap.size w w72) := ⟨h6_⟩
        clear HO_3 HO_5 BK217 HB; clear h0_ h1_ h2_ h3_ h4_ h5_ h6_; have HO266 := n0_; have HO269 := n1_; have HO272 := n2_; have HO280 := n3_; have HO_3 := n4_; have BK217 := n5_; have HB := n6_; clear n0_ n1_ n2_ n3_ n4_ n5_ n6_
        have hHeld := trivial
        obtain ⟨Ao74, co74, eo74⟩ := Kd.N_slice HO272.out
        (first | subst eo74 | (injection eo74 with f1_ f2_ f3_; have f4_ := f1_.symm; have f5_ := f3_.symm; clear f1_ f2_ f3_; subst f4_; subst f5_))
        refine norm_ (a' := ?_) ?_ ?_
        rotate_left
        ·
         simp only [putAll, Act.put, List.setIfInBounds_toArray, List.set_cons_zero, List.set_cons_succ]
         rfl
        refine one_ (i := 7) (N := some 61) (L_ 11 13) rfl rfl (one_of HT_.out (by kernel_rfl)) (by decide) (fun K hK => ?_)
        refine Kd.N_append_rows_step (Kd.slice 3 (Kd.int .i64)) (w0 := w) w.heap.size (by rfl) (.tmp 58) (.tmp 60) 22 25 (.slice none 0 0) 24 rfl Try.underlying22 info25 rfl (by decide) (by omega) v268 y267 y270 _ _ _ (fun k_ => (w.heap.size ≤ k_) ∧ k_ ≠ gb217) (fun k_ => ((fun k_ => (w.heap.size ≤ k_) ∧ k_ ≠ gb217)) k_ ∧ some k_ ≠ (v268 : Value).ownBlock) rfl rfl ?aO ?aR (fun _ hk => hk) ?aF ?aB ?aS ?aL ?_
        (case aR => exact (by skip; exact Kd.N_F (Kd.N_mono (ok' := (fun k_ => ((fun k_ => (w.heap.size ≤ k_) ∧ k_ ≠ gb217)) k_ ∧ some k_ ≠ (v268 : Value).ownBlock)) (HO272.out) (fun k_ hk => ⟨⟨hk.1, hk.2.2.2⟩, hk.2.1⟩))))
        (case aB => exact mG)
        (case aF => exact (fun k_ hk => ⟨(Nat.le_trans (below_size mG) hk), Kd.freshB (g := gb217) (o := .cells #[.int .i64 a0_0, .slice A0_1 l0_1.length c0_1] 28 (0, 0)) ((mK (BK217.out))) k_ hk⟩))
        (case aO => exact (by (with_reducible repeat (first | apply Kd.N_alloc | apply Kd.N_drewN | apply Kd.N_drew)); exact Kd.N_mono HO269.out (fun _ hk => ⟨hk.1, hk.2.2⟩)))
        (case aS => exact (below_size mG))
        (case aL => have := LMc60.out; omega)
        intro v274 w73 ho hb hg hat
        rw [← Ny273.out] at ho
        have n0_ := Aside0.mk (Kd.N_afterv (ok := (fun k_ => (w.heap.size ≤ k_) ∧ some k_ ≠ (.slice Ao74 y270.length co74 : Value).ownBlock ∧ k_ ≠ gb217)) (by (with_reducible repeat (first | apply Kd.N_alloc | apply Kd.N_drewN | apply Kd.N_drew)); exact Kd.N_mono HO_3.out (fun _ hk => ⟨⟨hk.1, ⟨hk.2.2.1, hk.2.2.2⟩⟩, hk.2.1⟩)) hg hat)
        have n1_ := Aside0.mk (blk_grown (g := gb217) (o := .cells #[.int .i64 a0_0, .slice A0_1 l0_1.length c0_1] 28 (0, 0)) ((mK (BK217.out))) hg (Kd.N_ne HO269.out BK217.out (by decide)))
        have n2_ := Aside0.mk (Kd.V_afterv (ok := (fun k_ => (w.heap.size ≤ k_) ∧ some k_ ≠ (.slice Ao74 y270.length co74 : Value).ownBlock ∧ k_ ≠ gb217)) (by (with_reducible repeat (first | apply Kd.V_alloc | apply Kd.V_drewN | apply Kd.V_drew)); exact Kd.V_mono HO266.out (fun _ hk => ⟨⟨hk.1, ⟨hk.2.2.1, hk.2.2.2⟩⟩, hk.2.1⟩)) hg hat)
        have n3_ := Aside0.mk (Kd.V_afterv (ok := (fun k_ => (w.heap.size ≤ k_) ∧ some k_ ≠ (.slice Ao74 y270.length co74 : Value).ownBlock ∧ k_ ≠ gb217)) (by (with_reducible repeat (first | apply Kd.V_alloc | apply Kd.V_drewN | apply Kd.V_drew)); exact Kd.V_mono HO280.out (fun _ hk => ⟨⟨hk.1, ⟨hk.2.2.1, hk.2.2.2⟩⟩, hk.2.1⟩)) hg hat)
        have n4_ := Aside0.mk (Kd.N_afterv (ok := (fun k_ => (w.heap.size ≤ k_) ∧ some k_ ≠ (.slice Ao31 x3_1.length co31 : Value).ownBlock ∧ k_ ≠ gb217)) (by (with_reducible repeat (first | apply Kd.N_alloc | apply Kd.N_drewN | apply Kd.N_drew)); exact Kd.N_mono HO272.out (fun _ hk => ⟨⟨hk.1, ⟨hk.2.2.1, hk.2.2.2⟩⟩, hk.2.1⟩)) hg hat)
        have n5_ := Aside0.mk (hb)
        have n6_ := Aside0.mk (ho)
        clear HO_3 BK217 HO266 HO280 HO272 HB HO269; have HO_3 := n0_; have BK217 := n1_; have HO266 := n2_; have HO280 := n3_; have HO272 := n4_; have HB := n5_; have HO275 := n6_; clear n0_ n1_ n2_ n3_ n4_ n5_ n6_; clear ho hb hg hat
        refine hK.out _ _ trivial (fun hHeld => ?_)
        clear hK K
        refine norm_ (a' := ?_) ?_ ?_
        rotate_left
        ·
         show Act.put _ (some 61) _ = _
         simp only [Act.put, List.setIfInBounds_toArray, List.set_cons_zero, List.set_cons_succ, i64_w, i32_w]
         rfl
        refine one_ (i := 11) (N := some 65) (L_ 12 13) rfl rfl (one_of HT_.out (by kernel_rfl)) (by decide) (fun K hK => ?_)
        refine Kd.N_append_rows_step (Kd.slice 3 (Kd.int .i64)) (w0 := w) w.heap.size (by rfl) (.tmp 61) (.tmp 64) 22 25 (.slice none 0 0) 24 rfl Try.underlying22 info25 rfl (by decide) (by omega) v274 y273 y276 _ _ _ (fun k_ => (w.heap.size ≤ k_) ∧ k_ ≠ gb217) (fun k_ => ((fun k_ => (w.heap.size ≤ k_) ∧ k_ ≠ gb217)) k_ ∧ some k_ ≠ (v274 : Value).ownBlock) rfl rfl ?aO ?aR (fun _ hk => hk) ?aF ?aB ?aS ?aL ?_
        (case aR => exact (by skip; exact Kd.V_F (Kd.V_mono (ok' := (fun k_ => ((fun k_ => (w.heap.size ≤ k_) ∧ k_ ≠ gb217)) k_ ∧ some k_ ≠ (v274 : Value).ownBlock)) (HO280.out) (fun k_ hk => ⟨⟨hk.1.1, hk.1.2.2⟩, hk.2⟩))))
        (case aB => exact mG)
        (case aF => exact (fun k_ hk => ⟨(Nat.le_trans (below_size mG) hk), Kd.freshB (g := gb217) (o := .cells #[.int .i64 a0_0, .slice A0_1 l0_1.length c0_1] 28 (0, 0)) ((mK (BK217.out))) k_ hk⟩))
        (case aO => exact (by (with_reducible repeat (first | apply Kd.N_alloc | apply Kd.N_drewN | apply Kd.N_drew)); exact HO275.out))
        (case aS => exact (below_size mG))
        (case aL => have := LMc63.out; omega)
        intro v282 w75 ho hb hg hat
        rw [← Ny281.out] at ho
        have n0_ := Aside0.mk (Kd.N_afterv (ok := (fun k_ => (w.heap.size ≤ k_) ∧ some k_ ≠ (.slice Ao74 y270.length co74 : Value).ownBlock ∧ k_ ≠ gb217)) (by (with_reducible repeat (first | apply Kd.N_alloc | apply Kd.N_drewN | apply Kd.N_drew)); exact HO_3.out) hg hat)
        have n1_ := Aside0.mk (blk_grown (g := gb217) (o := .cells #[.int .i64 a0_0, .slice A0_1 l0_1.length c0_1] 28 (0, 0)) ((mK (BK217.out))) hg (Kd.N_ne HO275.out BK217.out (by decide)))
        have n2_ := Aside0.mk (Kd.V_afterv (ok := (fun k_ => (w.heap.size ≤ k_) ∧ some k_ ≠ (.slice Ao74 y270.length co74 : Value).ownBlock ∧ k_ ≠ gb217)) (by (with_reducible repeat (first | apply Kd.V_alloc | apply Kd.V_drewN | apply Kd.V_drew)); exact HO266.out) hg hat)
        have n3_ := Aside0.mk (Kd.V_afterv (ok := (fun k_ => (w.heap.size ≤ k_) ∧ some k_ ≠ (.slice Ao74 y270.length co74 : Value).ownBlock ∧ k_ ≠ gb217)) (by (with_reducible repeat (first | apply Kd.V_alloc | apply Kd.V_drewN | apply Kd.V_drew)); exact HO280.out) hg hat)
        have n4_ := Aside0.mk (Kd.N_afterv (ok := (fun k_ => (w.heap.size ≤ k_) ∧ some k_ ≠ (.slice Ao31 x3_1.length co31 : Value).ownBlock ∧ k_ ≠ gb217)) (by (with_reducible repeat (first | apply Kd.N_alloc | apply Kd.N_drewN | apply Kd.N_drew)); exact HO272.out) hg hat)
        have n5_ := Aside0.mk (hb)
        have n6_ := Aside0.mk (ho)
        clear HO_3 BK217 HO266 HO280 HO272 HB HO275; have HO_3 := n0_; have BK217 := n1_; have HO266 := n2_; have HO280 := n3_; have HO272 := n4_; have HB := n5_; have HO283 := n6_; clear n0_ n1_ n2_ n3_ n4_ n5_ n6_; clear ho hb hg hat
        refine hK.out _ _ trivial (fun hHeld => ?_)
        clear hK K
        refine norm_ (a' := ?_) ?_ ?_
        rotate_left
        ·
         show Act.put _ (some 65) _ = _
         simp only [Act.put, List.setIfInBounds_toArray, List.set_cons_zero, List.set_cons_succ, i64_w, i32_w]
         rfl
        refine ps 12 3 (L_ 13 13) HT_.out ?_
        refine done_ (done_of HT_.out (by kernel_rfl)) ?_
        try go_wp2
        go_roundg k3
        case measure => have := HK1.out; have := HK2.out; have := HK3.out; omega
        case rel => exact ⟨(y281), (wrap64 (x4_1 + 1)), mF, H', ⟨by have := HK1.out; have := HK2.out; have := HK3.out; omega⟩, ⟨by (with_reducible repeat (first | apply Kd.N_alloc | apply Kd.N_drewN | apply Kd.N_drew)); exact HO283.out⟩, ⟨(mK (BK217.out))⟩, ⟨mG⟩⟩
       rw [if_pos c32] at H
       have c32b0 : decide (0 < x7_3) = true := decide_eq_true c32
       clear c32
       obtain ⟨ji33, hji33⟩ : ∃ j_ : Int, (wrap64 (x7_3 - 1)) = j_ := ⟨_, rfl⟩
       replace H : (if 0 ≤ (ji33) then (if (ji33) < (x3_1.length : Int) then ((spec_l7Before.f k3 x5_2 (rd_L1 x3_1 (ji33))).bind fun t233 => (if t233 = true then (spec_AllComplete.l2 k3 x3_1 x4_1 x5_2 ji33 a0_0 l0_1) else ((some (([] : List (List Int)) : List (List Int))).bind fun y234 => (if 0 ≤ x7_3 then (if x7_3 ≤ (x3_1.length : Int) then ((some (x3_1.take (x7_3 : Int).toNat : List (List Int))).bind fun y237 => (if y234.length + y237.length < 5864062014805 then ((some (y234 ++ y237 : List (List Int))).bind fun y242 => ((some (([x5_2] : List (List Int)) : List (List Int))).bind fun y245 => (if y242.length + y245.length < 5864062014805 then ((some (y242 ++ y245 : List (List Int))).bind fun y248 => ((some (x3_1.drop (x7_3 : Int).toNat : List (List Int))).bind fun y251 => (if y248.length + y251.length < 5864062014805 then (spec_AllComplete.l0 k3 (y248 ++ y251) (wrap64 (x4_1 + 1)) a0_0 l0_1) else (none)))) else (none)))) else (none))) else (none)) else (none))))) else (none)) else (none)) = some r := by first | (rw [hji33] at H; exact H) | (simp only [hji33] at H ⊢; exact H)
       have hji33w : (IntKind.i64.wrap (x7_3 - 1)) = ji33 := (i64_w _).trans hji33
       by_cases c34 : 0 ≤ (ji33)
       rotate_left
       ·
        rw [if_neg c34] at H
        exact absurd H (by simp)
       rw [if_pos c34] at H
       have c34b0 : decide (0 ≤ (ji33)) = true := decide_eq_true c34
       clear c34
       by_cases c35 : (ji33) < (x3_1.length : Int)
       rotate_left
       ·
        rw [if_neg c35] at H
        exact absurd H (by simp)
       rw [if_pos c35] at H
       have c35b0 : decide ((ji33) < (x3_1.length : Int)) = true := decide_eq_true c35
       clear c35
       replace H := Option.bind_eq_some_iff.mp H
       obtain ⟨t233, A360, H⟩ := H
       have A36 := Aside0.mk A360
       clear A360
       by_cases c37 : t233 = true
       ·
        subst c37
        rw [if_pos rfl] at H
        have H' := Aside0.mk H
        clear H
        have p232 : 0 ≤ ((ji33) : Int) := mD
        have q232 : (ji33) < (x3_1.length : Int) := mD
        obtain ⟨ad232, A232_0, c232_0, e232, hx232_0, hl232_0, hi232_0⟩ := at_L1 (Kd.N_reads' HO_3.out).2.2 (ji33) p232 q232
        cases e232
        obtain ⟨ce232, hce232, hMe232, hcc232⟩ := Kd.N_get HO_3.out [] (ji33) p232 (by first | exact q232 | exact mD | (have e_ := (Kd.N_reads' HO_3.out).1; omega))
        obtain ⟨ua232_0, uc232_0, rfl, ul232_0, ge232_0⟩ := Kd.FK_slice_open hMe232
        have hv232_0 := hcc232 0 _ rfl
        rw [Nat.add_zero, show ((Kd.slice 3 (Kd.int .i64))).sz = 1 from rfl, Nat.mul_one] at hv232_0
        replace hv232_0 := Option.some.inj (hv232_0.symm.trans hx232_0)
        injection hv232_0 with hva_ hvn_ hvc_
        rw [hva_] at ge232_0
        rw [hvc_] at ul232_0
        have HL232_0 := Aside0.mk (show Kd.V (Kd.int .i64) 3 _ w.heap.size _ _ (rd_L1 x3_1 (ji33)) from Kd.V_mk ul232_0 ge232_0)
        clear hva_ hvn_ hvc_ ge232_0 ul232_0; clear hcc232 hce232
        have HR232_0 := Aside0.mk hi232_0
        have HC232_0 := Aside0.mk hl232_0
        clear hi232_0 hl232_0
        replace p232 := eq_true p232
        replace q232 := eq_true q232
        go_wp2_with (first | (go_at_call 105; (with_reducible refine (spec_l7Before.calls k3 _ _ x5_2 _ _ (rd_L1 x3_1 (ji33)) true _ ?side1 ?side2 ?side3 ?side4 A36.out).mono ?_); (case side1 => exact mC (Kd.R_reads' HO_5.out).2.2); (case side2 => exact (Kd.R_reads' HO_5.out).2.1); (case side3 => repeat (first | exact (mC HR232_0.out) | (with_reducible refine Kd.C_alloc ?_ _) | (with_reducible refine Kd.C_drewN ?_ _) | (with_reducible refine Kd.C_drew ?_))); (case side4 => exact HC232_0.out); rintro e w' ⟨rfl, ⟨nd, rfl⟩⟩))
        go_roundg k3
        case measure => have := HK1.out; have := HK2.out; have := HK3.out; omega
        case rel => exact ⟨(ji33), (by first | rfl | (simp; done) | (simp only [← hji33] <;> (first | rfl | simp)) | (simp [*]; done)), H', ⟨by have := HK1.out; have := HK2.out; have := HK3.out; omega⟩, ⟨by (with_reducible repeat (first | apply Kd.N_alloc | apply Kd.N_drewN | apply Kd.N_drew)); exact HO_3.out⟩, ⟨mR HO_5.out⟩, ⟨(mK (BK217.out))⟩, ⟨mG⟩⟩
       replace c37 := Bool.eq_false_iff.mpr c37
       subst c37
       rw [if_neg (show ¬ (false = true) by decide)] at H
       obtain ⟨y234, hy234⟩ : ∃ y_ : List (List Int), y_ = (([] : List (List Int))) := ⟨_, rfl⟩
       replace H : (if 0 ≤ x7_3 then (if x7_3 ≤ (x3_1.length : Int) then ((some (x3_1.take (x7_3 : Int).toNat : List (List Int))).bind fun y237 => (if y234.length + y237.length < 5864062014805 then ((some (y234 ++ y237 : List (List Int))).bind fun y242 => ((some (([x5_2] : List (List Int)) : List (List Int))).bind fun y245 => (if y242.length + y245.length < 5864062014805 then ((some (y242 ++ y245 : List (List Int))).bind fun y248 => ((some (x3_1.drop (x7_3 : Int).toNat : List (List Int))).bind fun y251 => (if y248.length + y251.length < 5864062014805 then (spec_AllComplete.l0 k3 (y248 ++ y251) (wrap64 (x4_1 + 1)) a0_0 l0_1) else (none)))) else (none)))) else (none))) else (none)) else (none)) = some r := by first | (rw [hy234]; with_reducible exact H) | (have H2_ := (Option.bind_some _ _).symm.trans H; rw [hy234]; with_reducible exact H2_) | (have H2_ := (Option.bind_some _ _).symm.trans H; with_reducible exact H2_) | with_reducible exact H | (rw [hy234]; exact H) | exact H
       have Ny234 := Aside0.mk hy234
       clear hy234
       by_cases c38 : 0 ≤ x7_3
       rotate_left
       ·
        rw [if_neg c38] at H
        exact absurd H (by simp)
       rw [if_pos c38] at H
       have c38b0 := eq_true c38
       have c38b1 : decide (0 ≤ x7_3) = true := decide_eq_true c38
       clear c38
       by_cases c39 : x7_3 ≤ (x3_1.length : Int)
       rotate_left
       ·
        rw [if_neg c39] at H
        exact absurd H (by simp)
       rw [if_pos c39] at H
       have c39b0 := eq_true c39
       have c39b1 : decide (x7_3 ≤ (x3_1.length : Int)) = true := decide_eq_true c39
       clear c39
       obtain ⟨y237, hy237⟩ : ∃ y_ : List (List Int), y_ = (x3_1.take (x7_3 : Int).toNat) := ⟨_, rfl⟩
       replace H : (if y234.length + y237.length < 5864062014805 then ((some (y234 ++ y237 : List (List Int))).bind fun y242 => ((some (([x5_2] : List (List Int)) : List (List Int))).bind fun y245 => (if y242.length + y245.length < 5864062014805 then ((some (y242 ++ y245 : List (List Int))).bind fun y248 => ((some (x3_1.drop (x7_3 : Int).toNat : List (List Int))).bind fun y251 => (if y248.length + y251.length < 5864062014805 then (spec_AllComplete.l0 k3 (y248 ++ y251) (wrap64 (x4_1 + 1)) a0_0 l0_1) else (none)))) else (none)))) else (none)) = some r := by first | (rw [hy237]; with_reducible exact H) | (have H2_ := (Option.bind_some _ _).symm.trans H; rw [hy237]; with_reducible exact H2_) | (have H2_ := (Option.bind_some _ _).symm.trans H; with_reducible exact H2_) | with_reducible exact H | (rw [hy237]; exact H) | exact H
       have Ny237 := Aside0.mk hy237
       clear hy237
       by_cases c40 : y234.length + y237.length < 5864062014805
       rotate_left
       ·
        rw [if_neg c40] at H
        exact absurd H (by simp)
       rw [if_pos c40] at H
       have LMc40 := Aside0.mk c40
       clear c40
       obtain ⟨y242, hy242⟩ : ∃ y_ : List (List Int), y_ = (y234 ++ y237) := ⟨_, rfl⟩
       replace H : ((some (([x5_2] : List (List Int)) : List (List Int))).bind fun y245 => (if y242.length + y245.length < 5864062014805 then ((some (y242 ++ y245 : List (List Int))).bind fun y248 => ((some (x3_1.drop (x7_3 : Int).toNat : List (List Int))).bind fun y251 => (if y248.length + y251.length < 5864062014805 then (spec_AllComplete.l0 k3 (y248 ++ y251) (wrap64 (x4_1 + 1)) a0_0 l0_1) else (none)))) else (none))) = some r := by first | (rw [hy242]; with_reducible exact H) | (have H2_ := (Option.bind_some _ _).symm.trans H; rw [hy242]; with_reducible exact H2_) | (have H2_ := (Option.bind_some _ _).symm.trans H; with_reducible exact H2_) | with_reducible exact H | (rw [hy242]; exact H) | exact H
       have Ny242 := Aside0.mk hy242
       clear hy242
       obtain ⟨y245, hy245⟩ : ∃ y_ : List (List Int), y_ = (([x5_2] : List (List Int))) := ⟨_, rfl⟩
       replace H : (if y242.length + y245.length < 5864062014805 then ((some (y242 ++ y245 : List (List Int))).bind fun y248 => ((some (x3_1.drop (x7_3 : Int).toNat : List (List Int))).bind fun y251 => (if y248.length + y251.length < 5864062014805 then (spec_AllComplete.l0 k3 (y248 ++ y251) (wrap64 (x4_1 + 1)) a0_0 l0_1) else (none)))) else (none)) = some r := by first | (rw [hy245]; with_reducible exact H) | (have H2_ := (Option.bind_some _ _).symm.trans H; rw [hy245]; with_reducible exact H2_) | (have H2_ := (Option.bind_some _ _).symm.trans H; with_reducible exact H2_) | with_reducible exact H | (rw [hy245]; exact H) | exact H
       have Ny245 := Aside0.mk hy245
       clear hy245
       by_cases c41 : y242.length + y245.length < 5864062014805
       rotate_left
       ·
        rw [if_neg c41] at H
        exact absurd H (by simp)
       rw [if_pos c41] at H
       have LMc41 := Aside0.mk c41
       clear c41
       obtain ⟨y248, hy248⟩ : ∃ y_ : List (List Int), y_ = (y242 ++ y245) := ⟨_, rfl⟩
       replace H : ((some (x3_1.drop (x7_3 : Int).toNat : List (List Int))).bind fun y251 => (if y248.length + y251.length < 5864062014805 then (spec_AllComplete.l0 k3 (y248 ++ y251) (wrap64 (x4_1 + 1)) a0_0 l0_1) else (none))) = some r := by first | (rw [hy248]; with_reducible exact H) | (have H2_ := (Option.bind_some _ _).symm.trans H; rw [hy248]; with_reducible exact H2_) | (have H2_ := (Option.bind_some _ _).symm.trans H; with_reducible exact H2_) | with_reducible exact H | (rw [hy248]; exact H) | exact H
       have Ny248 := Aside0.mk hy248
       clear hy248
       have c42b0 := eq_true (mD : 0 ≤ x7_3)
       have c43b0 := eq_true (mD : x7_3 ≤ (x3_1.length : Int))
       obtain ⟨y251, hy251⟩ : ∃ y_ : List (List Int), y_ = (x3_1.drop (x7_3 : Int).toNat) := ⟨_, rfl⟩
       replace H : (if y248.length + y251.length < 5864062014805 then (spec_AllComplete.l0 k3 (y248 ++ y251) (wrap64 (x4_1 + 1)) a0_0 l0_1) else (none)) = some r := by first | (rw [hy251]; with_reducible exact H) | (have H2_ := (Option.bind_some _ _).symm.trans H; rw [hy251]; with_reducible exact H2_) | (have H2_ := (Option.bind_some _ _).symm.trans H; with_reducible exact H2_) | with_reducible exact H | (rw [hy251]; exact H) | exact H
       have Ny251 := Aside0.mk hy251
       clear hy251
       by_cases c44 : y248.length + y251.length < 5864062014805
       rotate_left
       ·
        rw [if_neg c44] at H
        exact absurd H (by simp)
       rw [if_pos c44] at H
       have LMc44 := Aside0.mk c44
       clear c44
       obtain ⟨y256, hy256⟩ : ∃ y_ : List (List Int), y_ = (y248 ++ y251) := ⟨_, rfl⟩
       replace H : (spec_AllComplete.l0 k3 y256 (wrap64 (x4_1 + 1)) a0_0 l0_1) = some r := by first | (rw [hy256]; with_reducible exact H) | (have H2_ := (Option.bind_some _ _).symm.trans H; rw [hy256]; with_reducible exact H2_) | (have H2_ := (Option.bind_some _ _).symm.trans H; with_reducible exact H2_) | with_reducible exact H | (rw [hy256]; exact H) | exact H
       have Ny256 := Aside0.mk hy256
       clear hy256
       have H' := Aside0.mk H
       clear H
       have p232 : 0 ≤ ((ji33) : Int) := mD
       have q232 : (ji33) < (x3_1.length : Int) := mD
       obtain ⟨ad232, A232_0, c232_0, e232, hx232_0, hl232_0, hi232_0⟩ := at_L1 (Kd.N_reads' HO_3.out).2.2 (ji33) p232 q232
       cases e232
       obtain ⟨ce232, hce232, hMe232, hcc232⟩ := Kd.N_get HO_3.out [] (ji33) p232 (by first | exact q232 | exact mD | (have e_ := (Kd.N_reads' HO_3.out).1; omega))
       obtain ⟨ua232_0, uc232_0, rfl, ul232_0, ge232_0⟩ := Kd.FK_slice_open hMe232
       have hv232_0 := hcc232 0 _ rfl
       rw [Nat.add_zero, show ((Kd.slice 3 (Kd.int .i64))).sz = 1 from rfl, Nat.mul_one] at hv232_0
       replace hv232_0 := Option.some.inj (hv232_0.symm.trans hx232_0)
       injection hv232_0 with hva_ hvn_ hvc_
       rw [hva_] at ge232_0
       rw [hvc_] at ul232_0
       have HL232_0 := Aside0.mk (show Kd.V (Kd.int .i64) 3 _ w.heap.size _ _ (rd_L1 x3_1 (ji33)) from Kd.V_mk ul232_0 ge232_0)
       clear hva_ hvn_ hvc_ ge232_0 ul232_0; clear hcc232 hce232
       have HR232_0 := Aside0.mk hi232_0
       have HC232_0 := Aside0.mk hl232_0
       clear hi232_0 hl232_0
       replace p232 := eq_true p232
       replace q232 := eq_true q232
       try go_wp2_with (first | (go_at_call 105; (with_reducible refine (spec_l7Before.calls k3 _ _ x5_2 _ _ (rd_L1 x3_1 (ji33)) false _ ?side1 ?side2 ?side3 ?side4 A36.out).mono ?_); (case side1 => exact mC (Kd.R_reads' HO_5.out).2.2); (case side2 => exact (Kd.R_reads' HO_5.out).2.1); (case side3 => repeat (first | exact (mC HR232_0.out) | (with_reducible refine Kd.C_alloc ?_ _) | (with_reducible refine Kd.C_drewN ?_ _) | (with_reducible refine Kd.C_drew ?_))); (case side4 => exact HC232_0.out); rintro e w' ⟨rfl, ⟨nd, rfl⟩⟩))
       (try (rw [drewN_self wr]; generalize hq_ : World.drewN wr _ = wr; have n0_ : Aside0 (Kd.V (Kd.int .i64) 3 wr w.heap.size (fun k_ => (w.heap.size ≤ k_) ∧ some k_ ≠ (.slice (some ad232) x3_1.length co31 : Value).ownBlock ∧ some k_ ≠ (.slice Ao29 x5_2.length co29 : Value).ownBlock ∧ k_ ≠ gb217) (.slice A232_0 (rd_L1 x3_1 (ji33)).length c232_0) (rd_L1 x3_1 (ji33))) := ⟨by rw [← hq_]; exact (by (with_reducible repeat (first | apply Kd.V_alloc | apply Kd.V_drewN | apply Kd.V_drew)); exact Kd.V_mono HL232_0.out (fun _ hk => by (repeat' (with_reducible apply And.intro)) <;> first | exact hk.1 | exact hk.2 | exact hk.1.1 | exact hk.1.2 | exact hk.2.1 | exact hk.2.2 | exact hk.1.1.1 | exact hk.1.1.2 | exact hk.1.2.1 | exact hk.1.2.2 | exact hk.2.1.1 | exact hk.2.1.2 | exact hk.2.2.1 | exact hk.2.2.2 | exact hk.1.1.1.1 | exact hk.1.1.1.2 | exact hk.1.1.2.1 | exact hk.1.1.2.2 | exact hk.1.2.1.1 | exact hk.1.2.1.2 | exact hk.1.2.2.1 | exact hk.1.2.2.2 | exact hk.2.1.1.1 | exact hk.2.1.1.2 | exact hk.2.1.2.1 | exact hk.2.1.2.2 | exact hk.2.2.1.1 | exact hk.2.2.1.2 | exact hk.2.2.2.1 | exact hk.2.2.2.2 | exact hk.1.1.1.1.1 | exact hk.1.1.1.1.2 | exact hk.1.1.1.2.1 | exact hk.1.1.1.2.2 | exact hk.1.1.2.1.1 | exact hk.1.1.2.1.2 | exact hk.1.1.2.2.1 | exact hk.1.1.2.2.2 | exact hk.1.2.1.1.1 | exact hk.1.2.1.1.2 | exact hk.1.2.1.2.1 | exact hk.1.2.1.2.2 | exact hk.1.2.2.1.1 | exact hk.1.2.2.1.2 | exact hk.1.2.2.2.1 | exact hk.1.2.2.2.2 | exact hk.2.1.1.1.1 | exact hk.2.1.1.1.2 | exact hk.2.1.1.2.1 | exact hk.2.1.1.2.2 | exact hk.2.1.2.1.1 | exact hk.2.1.2.1.2 | exact hk.2.1.2.2.1 | exact hk.2.1.2.2.2 | exact hk.2.2.1.1.1 | exact hk.2.2.1.1.2 | exact hk.2.2.1.2.1 | exact hk.2.2.1.2.2 | exact hk.2.2.2.1.1 | exact hk.2.2.2.1.2 | exact hk.2.2.2.2.1 | exact hk.2.2.2.2.2))⟩; have n1_ : Aside0 (Kd.N (Kd.slice 3 (Kd.int .i64)) 25 wr w.heap.size (fun k_ => (w.heap.size ≤ k_) ∧ some k_ ≠ (.slice Ao29 x5_2.length co29 : Value).ownBlock ∧ k_ ≠ gb217) (.slice (some ad232) x3_1.length co31) x3_1) := ⟨by rw [← hq_]; exact (by (with_reducible repeat (first | apply Kd.N_alloc | apply Kd.N_drewN | apply Kd.N_drew)); exact HO_3.out)⟩; have n2_ : Aside0 (Kd.R (Kd.int .i64) 3 wr w.heap.size (fun k_ => (w.heap.size ≤ k_)) (.slice Ao29 x5_2.length co29) x5_2) := ⟨by rw [← hq_]; exact (mR HO_5.out)⟩; have n3_ : Aside0 (wr.heap[gb217]? = some (.cells #[.int .i64 a0_0, .slice A0_1 l0_1.length c0_1] 28 (0, 0))) := ⟨by rw [← hq_]; exact ((mK (BK217.out)))⟩; have n4_ : Aside0 (Below w.heap.size w wr) := ⟨by rw [← hq_]; exact mG⟩; have n5_ : Aside0 (Kd.C (Kd.int .i64) wr A232_0 (rd_L1 x3_1 (ji33)).length (rd_L1 x3_1 (ji33))) := ⟨by rw [← hq_]; exact (mC HR232_0.out)⟩; clear HL232_0 HO_3 HO_5 BK217 HB HR232_0 hq_; have HL232_0 := n0_; have HO_3 := n1_; have HO_5 := n2_; have BK217 := n3_; have HB := n4_; have HR232_0 := n5_; clear n0_ n1_ n2_ n3_ n4_ n5_))
       have n0_ := Aside0.mk (Kd.N_drew HO_3.out)
       have n1_ := Aside0.mk (Kd.R_drew HO_5.out)
       have n2_ := Aside0.mk (Kd.V_drew HL232_0.out)
       have n3_ := Aside0.mk (blk_drew BK217.out)
       have n4_ := Aside0.mk (Kd.C_drew HR232_0.out)
       have n5_ := Aside0.mk (below_drew1 HB.out)
       clear HO_3 HO_5 HL232_0 BK217 HR232_0 HB; have HO_3 := n0_; have HO_5 := n1_; have HL232_0 := n2_; have BK217 := n3_; have HR232_0 := n4_; have HB := n5_; clear n0_ n1_ n2_ n3_ n4_ n5_
       have q46 : (x7_3 : Int) ≤ ((x3_1.length : Int) : Int) := mD
       obtain ⟨i046, hi046, _, hsz46, _⟩ := info_parts info25
       have hroom46 : x3_1.length ≤ co31 := (Kd.N_reads' HO_3.out).2.1
       have hC46 : Kd.F (Kd.slice 3 (Kd.int .i64)) _ _ (some ad232) x3_1.length x3_1 := (Kd.V_at (base := w.heap.size) (Kd.N_V HO_3.out)).2.2
       have hcut46 := cut_to (P := Try.prog) 22 25 .i64 Try.underlying22 hi046 (some ad232) x3_1.length co31 x7_3 (mD) q46 hroom46
       have hr46 := Kd.F_take (m := (x7_3 : Int).toNat) hC46 (by omega)
       have hy46 : y237.length = (x7_3 : Int).toNat := (by rw [Ny237.out, List.length_take]; omega)
       rw [← Ny237.out] at hr46
       rw [← hy46] at hcut46
       have HO241 := Aside0.mk (show Kd.V (Kd.slice 3 (Kd.int .i64)) 25 _ w.heap.size _ (.slice (some ad232) y237.length co31) y237 from Kd.V_mk (by omega) hr46)
       have HC241 := Aside0.mk (show y237.length ≤ co31 from by omega)
       clear hr46 hC46 hroom46 hi046 hsz46
       have KY46 := Aside0.mk hy46
       clear hy46
       replace q46 := eq_true q46
       have q47 : (x7_3 : Int) ≤ ((x3_1.length : Int) : Int) := mD
       obtain ⟨i047, hi047, _, hsz47, _⟩ := info_parts info25
       have hroom47 : x3_1.length ≤ co31 := (Kd.N_reads' HO_3.out).2.1
       have hC47 : Kd.F (Kd.slice 3 (Kd.int .i64)) _ _ (some ad232) x3_1.length x3_1 := (Kd.V_at (base := w.heap.size) (Kd.N_V HO_3.out)).2.2
       have q047 : (0 : Int) ≤ (x7_3 : Int) := mD
       have hcut47 := cut_from (P := Try.prog) 22 25 .i64 Try.underlying22 hi047 1 hsz47 (some ad232) x3_1.length co31 x7_3 q047 q47
       have hr47 := Kd.F_cut (m := (x7_3 : Int).toNat) (c := co31) hC47 (by omega) hroom47
       obtain ⟨A47, hA47⟩ : ∃ A1, A1 = (if co31 = (x7_3 : Int).toNat then (some ad232) else ((some ad232) : Option Addr).map (·.add ((x7_3 : Int).toNat * 1))) := ⟨_, rfl⟩
       obtain ⟨c47, hc47⟩ : ∃ c1, c1 = co31 - (x7_3 : Int).toNat := ⟨_, rfl⟩
       have hy47 : y251.length = x3_1.length - (x7_3 : Int).toNat := (by rw [Ny251.out, List.length_drop] <;> omega)
       rw [show (x3_1).drop (x7_3 : Int).toNat = y251 from Ny251.out.symm] at hr47
       replace hr47 : Kd.F (Kd.slice 3 (Kd.int .i64)) _ _ A47 y251.length y251 := (by rw [hA47]; exact hr47)
       rw [← hy47, ← hA47, ← hc47] at hcut47
       have HO255 := Aside0.mk (show Kd.V (Kd.slice 3 (Kd.int .i64)) 25 _ w.heap.size _ (.slice A47 y251.length c47) y251 from Kd.V_mk (by rw [hy47, hc47]; exact Nat.sub_le_sub_right hroom47 _) hr47)
       have HC255 := Aside0.mk (show y251.length ≤ c47 from by rw [hy47, hc47]; exact Nat.sub_le_sub_right hroom47 _)
       clear hr47 hC47 hroom47 hi047 hsz47 hc47
       have KY47 := Aside0.mk hy47
       have KA47 := Aside0.mk hA47
       clear hy47 hA47
       replace q47 := eq_true q47
       refine start_ (n := 13) (S := fun w' => True) (ds := []) (L_ 0 13) (by kernel_rfl) rfl rfl trivial (fun hHeld => ?_); refine with_tabW spec_AllComplete.tab17 spec_AllComplete.bits17 (fun HT_ HW_ => ?_)
       generalize wr.drew = w45 at HO_3 HO_5 HL232_0 BK217 HR232_0 HB HO241 HO255 hHeld ⊢
       refine ps 1 55 #[false, true, false, false, false, false, false, false, false, false, false, false, false] HT_.out ?_
       refine ps 2 56 #[false, true, true, false, false, false, false, false, false, false, false, false, false] HT_.out ?_
       refine ps 3 57 #[false, true, true, true, false, false, false, false, false, false, false, false, false] HT_.out ?_
       refine ps 5 59 #[false, true, true, true, false, true, false, false, false, false, false, false, false] HT_.out ?_
       refine ps 8 62 #[false, true, true, true, false, true, false, false, true, false, false, false, false] HT_.out ?_
       refine ps 9 63 #[false, true, true, true, false, true, false, false, true, true, false, false, false] HT_.out ?_
       refine ps 10 64 #[false, true, true, true, false, true, false, false, true, true, true, false, false] HT_.out ?_
       refine join_ (σ := Value × Value × Value) 3 #[true, true, true, true, true, true, true, false, true, true, true, false, false] (fun s_ => [(54, s_.1), (58, s_.2.1), (60, s_.2.2)]) (fun s_ w' => (Kd.V (Kd.int .i64) 3 w' w.heap.size (fun k_ => (w.heap.size ≤ k_) ∧ some k_ ≠ (s_.2.1 : Value).ownBlock ∧ some k_ ≠ (s_.2.2 : Value).ownBlock ∧ some k_ ≠ (.slice (some ad232) x3_1.length co31 : Value).ownBlock ∧ k_ ≠ gb217) (.slice A232_0 (rd_L1 x3_1 (ji33)).length c232_0) (rd_L1 x3_1 (ji33))) ∧ (Kd.V (Kd.slice 3 (Kd.int .i64)) 25 w' w.heap.size (fun k_ => (w.heap.size ≤ k_) ∧ some k_ ≠ (s_.2.1 : Value).ownBlock ∧ some k_ ≠ (s_.2.2 : Value).ownBlock ∧ k_ ≠ gb217) (.slice (some ad232) y237.length co31) y237) ∧ (Kd.N (Kd.slice 3 (Kd.int .i64)) 25 w' w.heap.size (fun k_ => (w.heap.size ≤ k_) ∧ some k_ ≠ (s_.2.2 : Value).ownBlock ∧ k_ ≠ gb217) s_.2.1 y242) ∧ (Kd.N (Kd.slice 3 (Kd.int .i64)) 25 w' w.heap.size (fun k_ => (w.heap.size ≤ k_) ∧ some k_ ≠ (s_.2.1 : Value).ownBlock ∧ some k_ ≠ (.slice (some ad232) x3_1.length co31 : Value).ownBlock ∧ k_ ≠ gb217) s_.2.2 y245) ∧ (Kd.V (Kd.slice 3 (Kd.int .i64)) 25 w' w.heap.size (fun k_ => (w.heap.size ≤ k_) ∧ some k_ ≠ (s_.2.1 : Value).ownBlock ∧ some k_ ≠ (s_.2.2 : Value).ownBlock ∧ k_ ≠ gb217) (.slice A47 y251.length c47) y251) ∧ (Kd.N (Kd.slice 3 (Kd.int .i64)) 25 w' w.heap.size (fun k_ => (w.heap.size ≤ k_) ∧ some k_ ≠ (s_.2.1 : Value).ownBlock ∧ some k_ ≠ (s_.2.2 : Value).ownBlock ∧ k_ ≠ gb217) (.slice (some ad232) x3_1.length co31) x3_1) ∧ (w'.heap[gb217]? = some (.cells #[.int .i64 a0_0, .slice A0_1 l0_1.length c0_1] 28 (0, 0))) ∧ (Below w.heap.size w w')) ?_ ?_
       rotate_left
       ·
        intro hCont
        refine two_ (i := 0) (j := 6) (Ni := some 54) (Nj := some 60) #[true, true, true, true, false, true, false, false, true, true, true, false, false] #[false, true, true, true, false, true, true, false, true, true, true, false, false] rfl rfl rfl rfl (two_of HT_.out (by kernel_rfl)) (by decide) (by decide) (fun K hK => ?_) (fun K hK => ?_)
        ·
         skip
         refine Kd.N_lit_step (Kd.slice 3 (Kd.int .i64)) _ 25 ?hg (N' := 54) ?hd (xs := ([] : List (List Int))) (inner := []) (ok := (fun k_ => (w.heap.size ≤ k_) ∧ some k_ ≠ (.slice (some ad232) x3_1.length co31 : Value).ownBlock ∧ some k_ ≠ (.slice Ao29 x5_2.length co29 : Value).ownBlock ∧ k_ ≠ gb217)) (okp := (fun k_ => (w.heap.size ≤ k_) ∧ some k_ ≠ (.slice (some ad232) x3_1.length co31 : Value).ownBlock ∧ some k_ ≠ (.slice Ao29 x5_2.length co29 : Value).ownBlock ∧ k_ ≠ gb217)) ?hr ?hp (fun _ hk => hk) ((show ∀ k_, w45.heap.size ≤ k_ → (fun k_ => (w.heap.size ≤ k_) ∧ some k_ ≠ (.slice (some ad232) x3_1.length co31 : Value).ownBlock ∧ some k_ ≠ (.slice Ao29 x5_2.length co29 : Value).ownBlock ∧ k_ ≠ gb217) k_ from fun k_ hk => ⟨(Nat.le_trans (below_size mG) hk), Kd.fresh' (Kd.N_lt (by (with_reducible repeat (first | apply Kd.N_alloc | apply Kd.N_drewN | apply Kd.N_drew)); exact HO_3.out)) k_ hk, Kd.fresh' (Kd.R_lt (mR HO_5.out)) k_ hk, Kd.freshB (g := gb217) (o := .cells #[.int .i64 a0_0, .slice A0_1 l0_1.length c0_1] 28 (0, 0)) ((mK (BK217.out))) k_ hk⟩) _ (Nat.le_refl _)) (Below.refl _ _) (Nat.le_refl _) (by simp) ?_; (case hd => rfl); (case hg => rfl); (case hr => first | (go_simp; done) | (go_simp; rfl)); (case hp => exact (Reps.none _ _))
         intro v235 w48 ho49 hb hg_ hnew_
         clear hg_ hnew_
         (first | rw [← Ny234.out] at ho49 | (simp only [Int.reduceToNat] at ho49; rw [← Ny234.out] at ho49))
         have n0_ := Aside0.mk (Kd.N_elder' (by (with_reducible repeat (first | apply Kd.N_alloc | apply Kd.N_drewN | apply Kd.N_drew)); exact HO_3.out) (Kd.N_base ho49) hb)
         have n1_ := Aside0.mk (Kd.R_below (mR HO_5.out) hb)
         have n2_ := Aside0.mk (Kd.V_elder' (by (with_reducible repeat (first | apply Kd.V_alloc | apply Kd.V_drewN | apply Kd.V_drew)); exact HL232_0.out) (Kd.N_base ho49) hb)
         have n3_ := Aside0.mk (Kd.V_elder' (by (with_reducible repeat (first | apply Kd.V_alloc | apply Kd.V_drewN | apply Kd.V_drew)); exact HO241.out) (Kd.N_base ho49) hb)
         have n4_ := Aside0.mk (Kd.V_elder' (by (with_reducible repeat (first | apply Kd.V_alloc | apply Kd.V_drewN | apply Kd.V_drew)); exact HO255.out) (Kd.N_base ho49) hb)
         have n5_ := Aside0.mk (Kd.N_lower ho49 (below_size mG))
         have n6_ := Aside0.mk (blk_below (g := gb217) (o := .cells #[.int .i64 a0_0, .slice A0_1 l0_1.length c0_1] 28 (0, 0)) ((mK (BK217.out))) hb)
         have n7_ := Aside0.mk (Kd.C_below (mC HR232_0.out) hb)
         have n8_ := Aside0.mk (below_step mG hb)
         clear HO_3 HO_5 HL232_0 HO241 HO255 BK217 HR232_0 HB; have HO_3 := n0_; have HO_5 := n1_; have HL232_0 := n2_; have HO241 := n3_; have HO255 := n4_; have HO236 := n5_; have BK217 := n6_; have HR232_0 := n7_; have HB := n8_; clear n0_ n1_ n2_ n3_ n4_ n5_ n6_ n7_ n8_; clear hb ho49
         refine hK.out _ _ trivial (fun hHeld => ?_)
         clear hK K
         refine norm_ (a' := ?_) ?_ ?_
         rotate_left
         ·
          show Act.put _ (some 54) _ = _
          simp only [Act.put, List.setIfInBounds_toArray, List.set_cons_zero, List.set_cons_succ, i64_w, i32_w]
          rfl
         refine two_ (i := 4) (j := 6) (Ni := some 58) (Nj := some 60) #[true, true, true, true, true, true, false, false, true, true, true, false, false] #[true, true, true, true, false, true, true, false, true, true, true, false, false] rfl rfl rfl rfl (two_of HT_.out (by kernel_rfl)) (by decide) (by decide) (fun K hK => ?_) (fun K hK => ?_)
         ·
          skip
          refine Kd.N_append_rows_step (Kd.slice 3 (Kd.int .i64)) (w0 := w) w.heap.size (by rfl) (.tmp 54) (.tmp 57) 22 25 (.slice none 0 0) 24 rfl Try.underlying22 info25 rfl (by decide) (by omega) v235 y234 y237 _ _ _ (fun k_ => (w.heap.size ≤ k_) ∧ some k_ ≠ (.slice Ao29 x5_2.length co29 : Value).ownBlock ∧ k_ ≠ gb217) (fun k_ => ((fun k_ => (w.heap.size ≤ k_) ∧ some k_ ≠ (.slice Ao29 x5_2.length co29 : Value).ownBlock ∧ k_ ≠ gb217)) k_ ∧ some k_ ≠ (v235 : Value).ownBlock) rfl rfl ?aO ?aR (fun _ hk => hk) ?aF ?aB ?aS ?aL ?_
          (case aR => exact (by skip; exact Kd.V_F (Kd.V_mono (ok' := (fun k_ => ((fun k_ => (w.heap.size ≤ k_) ∧ some k_ ≠ (.slice Ao29 x5_2.length co29 : Value).ownBlock ∧ k_ ≠ gb217)) k_ ∧ some k_ ≠ (v235 : Value).ownBlock)) (HO241.out) (fun k_ hk => ⟨⟨hk.1.1, ⟨hk.1.2.1, hk.1.2.2⟩⟩, hk.2⟩))))
          (case aB => exact mG)
          (case aF => exact (fun k_ hk => ⟨(Nat.le_trans (below_size mG) hk), Kd.fresh' (Kd.R_lt (mR HO_5.out)) k_ hk, Kd.freshB (g := gb217) (o := .cells #[.int .i64 a0_0, .slice A0_1 l0_1.length c0_1] 28 (0, 0)) ((mK (BK217.out))) k_ hk⟩))
          (case aO => exact (by (with_reducible repeat (first | apply Kd.N_alloc | apply Kd.N_drewN | apply Kd.N_drew)); exact Kd.N_mono HO236.out (fun _ hk => ⟨hk.1, ⟨hk.2.2.1, hk.2.2.2⟩⟩)))
          (case aS => exact (below_size mG))
          (case aL => have := LMc40.out; omega)
          intro v243 w50 ho hb hg hat
          rw [← Ny242.out] at ho
          have n0_ := Aside0.mk (Kd.N_afterv (ok := (fun k_ => (w.heap.size ≤ k_) ∧ some k_ ≠ (.slice Ao29 x5_2.length co29 : Value).ownBlock ∧ k_ ≠ gb217)) (by (with_reducible repeat (first | apply Kd.N_alloc | apply Kd.N_drewN | apply Kd.N_drew)); exact HO_3.out) hg hat)
          have n1_ := Aside0.mk (Kd.R_over' (mR HO_5.out) (Kd.N_typed (by (with_reducible repeat (first | apply Kd.N_alloc | apply Kd.N_drewN | apply Kd.N_drew)); exact HO236.out)) (by decide) hg)
          have n2_ := Aside0.mk (blk_grown (g := gb217) (o := .cells #[.int .i64 a0_0, .slice A0_1 l0_1.length c0_1] 28 (0, 0)) ((mK (BK217.out))) hg (Kd.N_ne HO236.out BK217.out (by decide)))
          have n3_ := Aside0.mk (Kd.V_afterv (ok := (fun k_ => (w.heap.size ≤ k_) ∧ some k_ ≠ (.slice (some ad232) x3_1.length co31 : Value).ownBlock ∧ some k_ ≠ (.slice Ao29 x5_2.length co29 : Value).ownBlock ∧ k_ ≠ gb217)) (by (with_reducible repeat (first | apply Kd.V_alloc | apply Kd.V_drewN | apply Kd.V_drew)); exact Kd.V_mono HL232_0.out (fun _ hk => by (repeat' (with_reducible apply And.intro)) <;> first | exact hk.1 | exact hk.2 | exact hk.1.1 | exact hk.1.2 | exact hk.2.1 | exact hk.2.2 | exact hk.1.1.1 | exact hk.1.1.2 | exact hk.1.2.1 | exact hk.1.2.2 | exact hk.2.1.1 | exact hk.2.1.2 | exact hk.2.2.1 | exact hk.2.2.2 | exact hk.1.1.1.1 | exact hk.1.1.1.2 | exact hk.1.1.2.1 | exact hk.1.1.2.2 | exact hk.1.2.1.1 | exact hk.1.2.1.2 | exact hk.1.2.2.1 | exact hk.1.2.2.2 | exact hk.2.1.1.1 | exact hk.2.1.1.2 | exact hk.2.1.2.1 | exact hk.2.1.2.2 | exact hk.2.2.1.1 | exact hk.2.2.1.2 | exact hk.2.2.2.1 | exact hk.2.2.2.2 | exact hk.1.1.1.1.1 | exact hk.1.1.1.1.2 | exact hk.1.1.1.2.1 | exact hk.1.1.1.2.2 | exact hk.1.1.2.1.1 | exact hk.1.1.2.1.2 | exact hk.1.1.2.2.1 | exact hk.1.1.2.2.2 | exact hk.1.2.1.1.1 | exact hk.1.2.1.1.2 | exact hk.1.2.1.2.1 | exact hk.1.2.1.2.2 | exact hk.1.2.2.1.1 | exact hk.1.2.2.1.2 | exact hk.1.2.2.2.1 | exact hk.1.2.2.2.2 | exact hk.2.1.1.1.1 | exact hk.2.1.1.1.2 | exact hk.2.1.1.2.1 | exact hk.2.1.1.2.2 | exact hk.2.1.2.1.1 | exact hk.2.1.2.1.2 | exact hk.2.1.2.2.1 | exact hk.2.1.2.2.2 | exact hk.2.2.1.1.1 | exact hk.2.2.1.1.2 | exact hk.2.2.1.2.1 | exact hk.2.2.1.2.2 | exact hk.2.2.2.1.1 | exact hk.2.2.2.1.2 | exact hk.2.2.2.2.1 | exact hk.2.2.2.2.2)) hg hat)
          have n4_ := Aside0.mk (Kd.V_afterv (ok := (fun k_ => (w.heap.size ≤ k_) ∧ some k_ ≠ (.slice Ao29 x5_2.length co29 : Value).ownBlock ∧ k_ ≠ gb217)) (by (with_reducible repeat (first | apply Kd.V_alloc | apply Kd.V_drewN | apply Kd.V_drew)); exact HO241.out) hg hat)
          have n5_ := Aside0.mk (Kd.V_afterv (ok := (fun k_ => (w.heap.size ≤ k_) ∧ some k_ ≠ (.slice Ao29 x5_2.length co29 : Value).ownBlock ∧ k_ ≠ gb217)) (by (with_reducible repeat (first | apply Kd.V_alloc | apply Kd.V_drewN | apply Kd.V_drew)); exact HO255.out) hg hat)
          have n6_ := Aside0.mk (hb)
          have n7_ := Aside0.mk (ho)
          clear HO_3 HO_5 BK217 HL232_0 HO241 HO255 HB HO236; have HO_3 := n0_; have HO_5 := n1_; have BK217 := n2_; have HL232_0 := n3_; have HO241 := n4_; have HO255 := n5_; have HB := n6_; have HO244 := n7_; clear n0_ n1_ n2_ n3_ n4_ n5_ n6_ n7_; clear ho hb hg hat
          refine hK.out _ _ trivial (fun hHeld => ?_)
          clear hK K
          refine norm_ (a' := ?_) ?_ ?_
          rotate_left
          ·
           show Act.put _ (some 58) _ = _
           simp only [Act.put, List.setIfInBounds_toArray, List.set_cons_zero, List.set_cons_succ, i64_w, i32_w]
           rfl
          refine one_ (i := 6) (N := some 60) #[true, true, true, true, true, true, true, false, true, true, true, false, false] rfl rfl (one_of HT_.out (by kernel_rfl)) (by decide) (fun K hK => ?_)
          refine Kd.N_lit_step (Kd.slice 3 (Kd.int .i64)) _ 25 ?hg (N' := 60) ?hd (xs := ([x5_2] : List (List Int))) (inner := [.slice Ao29 x5_2.length co29]) (ok := (fun k_ => (w.heap.size ≤ k_) ∧ some k_ ≠ (.slice (some ad232) x3_1.length co31 : Value).ownBlock ∧ some k_ ≠ (v243 : Value).ownBlock ∧ k_ ≠ gb217)) (okp := (fun k_ => (w.heap.size ≤ k_) ∧ some k_ ≠ (.slice (some ad232) x3_1.length co31 : Value).ownBlock ∧ some k_ ≠ (v243 : Value).ownBlock ∧ k_ ≠ gb217)) ?hr ?hp (fun _ hk => hk) ((show ∀ k_, w50.heap.size ≤ k_ → (fun k_ => (w.heap.size ≤ k_) ∧ some k_ ≠ (.slice (some ad232) x3_1.length co31 : Value).ownBlock ∧ some k_ ≠ (v243 : Value).ownBlock ∧ k_ ≠ gb217) k_ from fun k_ hk => ⟨(Nat.le_trans (below_size mG) hk), Kd.fresh' (Kd.N_lt (by (with_reducible repeat (first | apply Kd.N_alloc | apply Kd.N_drewN | apply Kd.N_drew)); exact HO_3.out)) k_ hk, Kd.fresh' (Kd.N_lt (by (with_reducible repeat (first | apply Kd.N_alloc | apply Kd.N_drewN | apply Kd.N_drew)); exact HO244.out)) k_ hk, Kd.freshB (g := gb217) (o := .cells #[.int .i64 a0_0, .slice A0_1 l0_1.length c0_1] 28 (0, 0)) ((mK (BK217.out))) k_ hk⟩) _ (Nat.le_refl _)) (Below.refl _ _) (Nat.le_refl _) (by simp) ?_; (case hd => rfl); (case hg => rfl); (case hr => first | (go_simp; done) | (go_simp; rfl)); (case hp => exact (Reps.one (show Kd.FK (Kd.slice 3 (Kd.int .i64)) _ _ x5_2 [.slice Ao29 x5_2.length co29] from (Kd.FK_slice_mk (Kd.R_reads' (Kd.R_mono (ok' := (fun k_ => (w.heap.size ≤ k_) ∧ some k_ ≠ (.slice (some ad232) x3_1.length co31 : Value).ownBlock ∧ some k_ ≠ (v243 : Value).ownBlock ∧ k_ ≠ gb217)) (Kd.R_types (Kd.R_apart' (Kd.R_apart' (HO_5.out) (Kd.N_typed HO_3.out) (by decide)) (Kd.N_typed HO244.out) (by decide)) BK217.out (by decide)) (fun k_ hk => ⟨hk.1.1.1, ⟨hk.1.1.2, ⟨hk.1.2, hk.2⟩⟩⟩))).2.1 (Kd.R_F (Kd.R_mono (ok' := (fun k_ => (w.heap.size ≤ k_) ∧ some k_ ≠ (.slice (some ad232) x3_1.length co31 : Value).ownBlock ∧ some k_ ≠ (v243 : Value).ownBlock ∧ k_ ≠ gb217)) (Kd.R_types (Kd.R_apart' (Kd.R_apart' (HO_5.out) (Kd.N_typed HO_3.out) (by decide)) (Kd.N_typed HO244.out) (by decide)) BK217.out (by decide)) (fun k_ hk => ⟨hk.1.1.1, ⟨hk.1.1.2, ⟨hk.1.2, hk.2⟩⟩⟩))))) (Reps.none _ _)))
          intro v246 w51 ho52 hb hg_ hnew_
          clear hg_ hnew_
          (first | rw [← Ny245.out] at ho52 | (simp only [Int.reduceToNat] at ho52; rw [← Ny245.out] at ho52))
          have n0_ := Aside0.mk (Kd.N_elder' (by (with_reducible repeat (first | apply Kd.N_alloc | apply Kd.N_drewN | apply Kd.N_drew)); exact HO_3.out) (Kd.N_base ho52) hb)
          have n1_ := Aside0.mk (Kd.V_elder' (by (with_reducible repeat (first | apply Kd.V_alloc | apply Kd.V_drewN | apply Kd.V_drew)); exact HL232_0.out) (Kd.N_base ho52) hb)
          have n2_ := Aside0.mk (Kd.V_elder' (by (with_reducible repeat (first | apply Kd.V_alloc | apply Kd.V_drewN | apply Kd.V_drew)); exact HO241.out) (Kd.N_base ho52) hb)
          have n3_ := Aside0.mk (Kd.V_elder' (by (with_reducible repeat (first | apply Kd.V_alloc | apply Kd.V_drewN | apply Kd.V_drew)); exact HO255.out) (Kd.N_base ho52) hb)
          have n4_ := Aside0.mk (Kd.N_elder' (by (with_reducible repeat (first | apply Kd.N_alloc | apply Kd.N_drewN | apply Kd.N_drew)); exact HO244.out) (Kd.N_base ho52) hb)
          have n5_ := Aside0.mk (Kd.N_lower ho52 (below_size mG))
          have n6_ := Aside0.mk (blk_below (g := gb217) (o := .cells #[.int .i64 a0_0, .slice A0_1 l0_1.length c0_1] 28 (0, 0)) ((mK (BK217.out))) hb)
          have n7_ := Aside0.mk (below_step mG hb)
          clear HO_3 HL232_0 HO241 HO255 HO244 BK217 HB HO_5; have HO_3 := n0_; have HL232_0 := n1_; have HO241 := n2_; have HO255 := n3_; have HO244 := n4_; have HO247 := n5_; have BK217 := n6_; have HB := n7_; clear n0_ n1_ n2_ n3_ n4_ n5_ n6_ n7_; clear hb ho52
          refine hK.out _ _ trivial (fun hHeld => ?_)
          clear hK K
          refine norm_ (a' := ?_) ?_ ?_
          rotate_left
          ·
           show Act.put _ (some 60) _ = _
           simp only [Act.put, List.setIfInBounds_toArray, List.set_cons_zero, List.set_cons_succ, i64_w, i32_w]
           rfl
          exact norm_ (by simp only [putAll, Act.put, List.setIfInBounds_toArray, List.set_cons_zero, List.set_cons_succ]) (hCont (v235, v243, v246) _ ⟨(by (with_reducible repeat (first | apply Kd.V_alloc | apply Kd.V_drewN | apply Kd.V_drew)); exact Kd.V_mono HL232_0.out (fun _ hk => by (repeat' (with_reducible apply And.intro)) <;> first | exact hk.1 | exact hk.2 | exact hk.1.1 | exact hk.1.2 | exact hk.2.1 | exact hk.2.2 | exact hk.1.1.1 | exact hk.1.1.2 | exact hk.1.2.1 | exact hk.1.2.2 | exact hk.2.1.1 | exact hk.2.1.2 | exact hk.2.2.1 | exact hk.2.2.2 | exact hk.1.1.1.1 | exact hk.1.1.1.2 | exact hk.1.1.2.1 | exact hk.1.1.2.2 | exact hk.1.2.1.1 | exact hk.1.2.1.2 | exact hk.1.2.2.1 | exact hk.1.2.2.2 | exact hk.2.1.1.1 | exact hk.2.1.1.2 | exact hk.2.1.2.1 | exact hk.2.1.2.2 | exact hk.2.2.1.1 | exact hk.2.2.1.2 | exact hk.2.2.2.1 | exact hk.2.2.2.2 | exact hk.1.1.1.1.1 | exact hk.1.1.1.1.2 | exact hk.1.1.1.2.1 | exact hk.1.1.1.2.2 | exact hk.1.1.2.1.1 | exact hk.1.1.2.1.2 | exact hk.1.1.2.2.1 | exact hk.1.1.2.2.2 | exact hk.1.2.1.1.1 | exact hk.1.2.1.1.2 | exact hk.1.2.1.2.1 | exact hk.1.2.1.2.2 | exact hk.1.2.2.1.1 | exact hk.1.2.2.1.2 | exact hk.1.2.2.2.1 | exact hk.1.2.2.2.2 | exact hk.2.1.1.1.1 | exact hk.2.1.1.1.2 | exact hk.2.1.1.2.1 | exact hk.2.1.1.2.2 | exact hk.2.1.2.1.1 | exact hk.2.1.2.1.2 | exact hk.2.1.2.2.1 | exact hk.2.1.2.2.2 | exact hk.2.2.1.1.1 | exact hk.2.2.1.1.2 | exact hk.2.2.1.2.1 | exact hk.2.2.1.2.2 | exact hk.2.2.2.1.1 | exact hk.2.2.2.1.2 | exact hk.2.2.2.2.1 | exact hk.2.2.2.2.2)), (by (with_reducible repeat (first | apply Kd.V_alloc | apply Kd.V_drewN | apply Kd.V_drew)); exact Kd.V_mono HO241.out (fun _ hk => ⟨hk.1.1.1, ⟨hk.1.2, ⟨hk.2, hk.1.1.2.2⟩⟩⟩)), (by (with_reducible repeat (first | apply Kd.N_alloc | apply Kd.N_drewN | apply Kd.N_drew)); exact Kd.N_mono HO244.out (fun _ hk => ⟨hk.1.1, ⟨hk.2, hk.1.2.2⟩⟩)), (by (with_reducible repeat (first | apply Kd.N_alloc | apply Kd.N_drewN | apply Kd.N_drew)); exact Kd.N_mono HO247.out (fun _ hk => ⟨hk.1, ⟨hk.2.2.1, ⟨hk.2.1, hk.2.2.2⟩⟩⟩)), (by (with_reducible repeat (first | apply Kd.V_alloc | apply Kd.V_drewN | apply Kd.V_drew)); exact Kd.V_mono HO255.out (fun _ hk => ⟨hk.1.1.1, ⟨hk.1.2, ⟨hk.2, hk.1.1.2.2⟩⟩⟩)), (by (with_reducible repeat (first | apply Kd.N_alloc | apply Kd.N_drewN | apply Kd.N_drew)); exact Kd.N_mono HO_3.out (fun _ hk => ⟨hk.1.1.1, ⟨hk.1.2, ⟨hk.2, hk.1.1.2.2⟩⟩⟩)), ((mK (BK217.out))), mG⟩)
         ·
          skip
          refine Kd.N_lit_step (Kd.slice 3 (Kd.int .i64)) _ 25 ?hg (N' := 60) ?hd (xs := ([x5_2] : List (List Int))) (inner := [.slice Ao29 x5_2.length co29]) (ok := (fun k_ => (w.heap.size ≤ k_) ∧ some k_ ≠ (.slice (some ad232) x3_1.length co31 : Value).ownBlock ∧ some k_ ≠ (v235 : Value).ownBlock ∧ k_ ≠ gb217)) (okp := (fun k_ => (w.heap.size ≤ k_) ∧ some k_ ≠ (.slice (some ad232) x3_1.length co31 : Value).ownBlock ∧ some k_ ≠ (v235 : Value).ownBlock ∧ k_ ≠ gb217)) ?hr ?hp (fun _ hk => hk) ((show ∀ k_, w48.heap.size ≤ k_ → (fun k_ => (w.heap.size ≤ k_) ∧ some k_ ≠ (.slice (some ad232) x3_1.length co31 : Value).ownBlock ∧ some k_ ≠ (v235 : Value).ownBlock ∧ k_ ≠ gb217) k_ from fun k_ hk => ⟨(Nat.le_trans (below_size mG) hk), Kd.fresh' (Kd.N_lt (by (with_reducible repeat (first | apply Kd.N_alloc | apply Kd.N_drewN | apply Kd.N_drew)); exact HO_3.out)) k_ hk, Kd.fresh' (Kd.N_lt (by (with_reducible repeat (first | apply Kd.N_alloc | apply Kd.N_drewN | apply Kd.N_drew)); exact HO236.out)) k_ hk, Kd.freshB (g := gb217) (o := .cells #[.int .i64 a0_0, .slice A0_1 l0_1.length c0_1] 28 (0, 0)) ((mK (BK217.out))) k_ hk⟩) _ (Nat.le_refl _)) (Below.refl _ _) (Nat.le_refl _) (by simp) ?_; (case hd => rfl); (case hg => rfl); (case hr => first | (go_simp; done) | (go_simp; rfl)); (case hp => exact (Reps.one (show Kd.FK (Kd.slice 3 (Kd.int .i64)) _ _ x5_2 [.slice Ao29 x5_2.length co29] from (Kd.FK_slice_mk (Kd.R_reads' (Kd.R_mono (ok' := (fun k_ => (w.heap.size ≤ k_) ∧ some k_ ≠ (.slice (some ad232) x3_1.length co31 : Value).ownBlock ∧ some k_ ≠ (v235 : Value).ownBlock ∧ k_ ≠ gb217)) (Kd.R_types (Kd.R_apart' (Kd.R_apart' (HO_5.out) (Kd.N_typed HO_3.out) (by decide)) (Kd.N_typed HO236.out) (by decide)) BK217.out (by decide)) (fun k_ hk => ⟨hk.1.1.1, ⟨hk.1.1.2, ⟨hk.1.2, hk.2⟩⟩⟩))).2.1 (Kd.R_F (Kd.R_mono (ok' := (fun k_ => (w.heap.size ≤ k_) ∧ some k_ ≠ (.slice (some ad232) x3_1.length co31 : Value).ownBlock ∧ some k_ ≠ (v235 : Value).ownBlock ∧ k_ ≠ gb217)) (Kd.R_types (Kd.R_apart' (Kd.R_apart' (HO_5.out) (Kd.N_typed HO_3.out) (by decide)) (Kd.N_typed HO236.out) (by decide)) BK217.out (by decide)) (fun k_ hk => ⟨hk.1.1.1, ⟨hk.1.1.2, ⟨hk.1.2, hk.2⟩⟩⟩))))) (Reps.none _ _)))
          intro v246 w50 ho51 hb hg_ hnew_
          clear hg_ hnew_
          (first | rw [← Ny245.out] at ho51 | (simp only [Int.reduceToNat] at ho51; rw [← Ny245.out] at ho51))
          have n0_ := Aside0.mk (Kd.N_elder' (by (with_reducible repeat (first | apply Kd.N_alloc | apply Kd.N_drewN | apply Kd.N_drew)); exact HO_3.out) (Kd.N_base ho51) hb)
          have n1_ := Aside0.mk (Kd.V_elder' (by (with_reducible repeat (first | apply Kd.V_alloc | apply Kd.V_drewN | apply Kd.V_drew)); exact HL232_0.out) (Kd.N_base ho51) hb)
          have n2_ := Aside0.mk (Kd.V_elder' (by (with_reducible repeat (first | apply Kd.V_alloc | apply Kd.V_drewN | apply Kd.V_drew)); exact HO241.out) (Kd.N_base ho51) hb)
          have n3_ := Aside0.mk (Kd.V_elder' (by (with_reducible repeat (first | apply Kd.V_alloc | apply Kd.V_drewN | apply Kd.V_drew)); exact HO255.out) (Kd.N_base ho51) hb)
          have n4_ := Aside0.mk (Kd.N_elder' (by (with_reducible repeat (first | apply Kd.N_alloc | apply Kd.N_drewN | apply Kd.N_drew)); exact HO236.out) (Kd.N_base ho51) hb)
          have n5_ := Aside0.mk (Kd.N_lower ho51 (below_size mG))
          have n6_ := Aside0.mk (blk_below (g := gb217) (o := .cells #[.int .i64 a0_0, .slice A0_1 l0_1.length c0_1] 28 (0, 0)) ((mK (BK217.out))) hb)
          have n7_ := Aside0.mk (Kd.C_below (mC HR232_0.out) hb)
          have n8_ := Aside0.mk (below_step mG hb)
          clear HO_3 HL232_0 HO241 HO255 HO236 BK217 HR232_0 HB HO_5; have HO_3 := n0_; have HL232_0 := n1_; have HO241 := n2_; have HO255 := n3_; have HO236 := n4_; have HO247 := n5_; have BK217 := n6_; have HR232_0 := n7_; have HB := n8_; clear n0_ n1_ n2_ n3_ n4_ n5_ n6_ n7_ n8_; clear hb ho51
          refine hK.out _ _ trivial (fun hHeld => ?_)
          clear hK K
          refine norm_ (a' := ?_) ?_ ?_
          rotate_left
          ·
           show Act.put _ (some 60) _ = _
           simp only [Act.put, List.setIfInBounds_toArray, List.set_cons_zero, List.set_cons_succ, i64_w, i32_w]
           rfl
          refine one_ (i := 4) (N := some 58) #[true, true, true, true, true, true, true, false, true, true, true, false, false] rfl rfl (one_of HT_.out (by kernel_rfl)) (by decide) (fun K hK => ?_)
          refine Kd.N_append_rows_step (Kd.slice 3 (Kd.int .i64)) (w0 := w) w.heap.size (by rfl) (.tmp 54) (.tmp 57) 22 25 (.slice none 0 0) 24 rfl Try.underlying22 info25 rfl (by decide) (by omega) v235 y234 y237 _ _ _ (fun k_ => (w.heap.size ≤ k_) ∧ some k_ ≠ (v246 : Value).ownBlock ∧ k_ ≠ gb217) (fun k_ => ((fun k_ => (w.heap.size ≤ k_) ∧ some k_ ≠ (v246 : Value).ownBlock ∧ k_ ≠ gb217)) k_ ∧ some k_ ≠ (v235 : Value).ownBlock) rfl rfl ?aO ?aR (fun _ hk => hk) ?aF ?aB ?aS ?aL ?_
          (case aR => exact (by skip; exact Kd.V_F (Kd.V_mono (ok' := (fun k_ => ((fun k_ => (w.heap.size ≤ k_) ∧ some k_ ≠ (v246 : Value).ownBlock ∧ k_ ≠ gb217)) k_ ∧ some k_ ≠ (v235 : Value).ownBlock)) (HO241.out) (fun k_ hk => ⟨⟨hk.1.1.1, ⟨hk.2, hk.1.1.2.2⟩⟩, hk.1.2⟩))))
          (case aB => exact mG)
          (case aF => exact (fun k_ hk => ⟨(Nat.le_trans (below_size mG) hk), Kd.fresh' (Kd.N_lt (by (with_reducible repeat (first | apply Kd.N_alloc | apply Kd.N_drewN | apply Kd.N_drew)); exact HO247.out)) k_ hk, Kd.freshB (g := gb217) (o := .cells #[.int .i64 a0_0, .slice A0_1 l0_1.length c0_1] 28 (0, 0)) ((mK (BK217.out))) k_ hk⟩))
          (case aO => exact (by (with_reducible repeat (first | apply Kd.N_alloc | apply Kd.N_drewN | apply Kd.N_drew)); exact Kd.N_mono HO236.out (fun _ hk => ⟨hk.1.1, ⟨hk.2, hk.1.2.2.2⟩⟩)))
          (case aS => exact (below_size mG))
          (case aL => have := LMc40.out; omega)
          intro v243 w52 ho hb hg hat
          rw [← Ny242.out] at ho
          have n0_ := Aside0.mk (Kd.N_afterv (ok := (fun k_ => (w.heap.size ≤ k_) ∧ some k_ ≠ (v246 : Value).ownBlock ∧ k_ ≠ gb217)) (by (with_reducible repeat (first | apply Kd.N_alloc | apply Kd.N_drewN | apply Kd.N_drew)); exact Kd.N_mono HO_3.out (fun _ hk => ⟨⟨hk.1.1.1, ⟨hk.2, hk.1.1.2.2⟩⟩, hk.1.2⟩)) hg hat)
          have n1_ := Aside0.mk (blk_grown (g := gb217) (o := .cells #[.int .i64 a0_0, .slice A0_1 l0_1.length c0_1] 28 (0, 0)) ((mK (BK217.out))) hg (Kd.N_ne HO236.out BK217.out (by decide)))
          have n2_ := Aside0.mk (Kd.V_afterv (ok := (fun k_ => (w.heap.size ≤ k_) ∧ some k_ ≠ (.slice (some ad232) x3_1.length co31 : Value).ownBlock ∧ some k_ ≠ (v246 : Value).ownBlock ∧ k_ ≠ gb217)) (by (with_reducible repeat (first | apply Kd.V_alloc | apply Kd.V_drewN | apply Kd.V_drew)); exact Kd.V_mono HL232_0.out (fun _ hk => by (repeat' (with_reducible apply And.intro)) <;> first | exact hk.1 | exact hk.2 | exact hk.1.1 | exact hk.1.2 | exact hk.2.1 | exact hk.2.2 | exact hk.1.1.1 | exact hk.1.1.2 | exact hk.1.2.1 | exact hk.1.2.2 | exact hk.2.1.1 | exact hk.2.1.2 | exact hk.2.2.1 | exact hk.2.2.2 | exact hk.1.1.1.1 | exact hk.1.1.1.2 | exact hk.1.1.2.1 | exact hk.1.1.2.2 | exact hk.1.2.1.1 | exact hk.1.2.1.2 | exact hk.1.2.2.1 | exact hk.1.2.2.2 | exact hk.2.1.1.1 | exact hk.2.1.1.2 | exact hk.2.1.2.1 | exact hk.2.1.2.2 | exact hk.2.2.1.1 | exact hk.2.2.1.2 | exact hk.2.2.2.1 | exact hk.2.2.2.2 | exact hk.1.1.1.1.1 | exact hk.1.1.1.1.2 | exact hk.1.1.1.2.1 | exact hk.1.1.1.2.2 | exact hk.1.1.2.1.1 | exact hk.1.1.2.1.2 | exact hk.1.1.2.2.1 | exact hk.1.1.2.2.2 | exact hk.1.2.1.1.1 | exact hk.1.2.1.1.2 | exact hk.1.2.1.2.1 | exact hk.1.2.1.2.2 | exact hk.1.2.2.1.1 | exact hk.1.2.2.1.2 | exact hk.1.2.2.2.1 | exact hk.1.2.2.2.2 | exact hk.2.1.1.1.1 | exact hk.2.1.1.1.2 | exact hk.2.1.1.2.1 | exact hk.2.1.1.2.2 | exact hk.2.1.2.1.1 | exact hk.2.1.2.1.2 | exact hk.2.1.2.2.1 | exact hk.2.1.2.2.2 | exact hk.2.2.1.1.1 | exact hk.2.2.1.1.2 | exact hk.2.2.1.2.1 | exact hk.2.2.1.2.2 | exact hk.2.2.2.1.1 | exact hk.2.2.2.1.2 | exact hk.2.2.2.2.1 | exact hk.2.2.2.2.2)) hg hat)
          have n3_ := Aside0.mk (Kd.V_afterv (ok := (fun k_ => (w.heap.size ≤ k_) ∧ some k_ ≠ (v246 : Value).ownBlock ∧ k_ ≠ gb217)) (by (with_reducible repeat (first | apply Kd.V_alloc | apply Kd.V_drewN | apply Kd.V_drew)); exact Kd.V_mono HO241.out (fun _ hk => ⟨⟨hk.1.1.1, ⟨hk.2, hk.1.1.2.2⟩⟩, hk.1.2⟩)) hg hat)
          have n4_ := Aside0.mk (Kd.V_afterv (ok := (fun k_ => (w.heap.size ≤ k_) ∧ some k_ ≠ (v246 : Value).ownBlock ∧ k_ ≠ gb217)) (by (with_reducible repeat (first | apply Kd.V_alloc | apply Kd.V_drewN | apply Kd.V_drew)); exact Kd.V_mono HO255.out (fun _ hk => ⟨⟨hk.1.1.1, ⟨hk.2, hk.1.1.2.2⟩⟩, hk.1.2⟩)) hg hat)
          have n5_ := Aside0.mk (Kd.N_afterv (ok := (fun k_ => (w.heap.size ≤ k_) ∧ some k_ ≠ (.slice (some ad232) x3_1.length co31 : Value).ownBlock ∧ k_ ≠ gb217)) (by (with_reducible repeat (first | apply Kd.N_alloc | apply Kd.N_drewN | apply Kd.N_drew)); exact Kd.N_mono HO247.out (fun _ hk => ⟨⟨hk.1, ⟨hk.2.1, hk.2.2.2⟩⟩, hk.2.2.1⟩)) hg hat)
          have n6_ := Aside0.mk (hb)
          have n7_ := Aside0.mk (ho)
          clear HO_3 BK217 HL232_0 HO241 HO255 HO247 HB HO236; have HO_3 := n0_; have BK217 := n1_; have HL232_0 := n2_; have HO241 := n3_; have HO255 := n4_; have HO247 := n5_; have HB := n6_; have HO244 := n7_; clear n0_ n1_ n2_ n3_ n4_ n5_ n6_ n7_; clear ho hb hg hat
          refine hK.out _ _ trivial (fun hHeld => ?_)
          clear hK K
          refine norm_ (a' := ?_) ?_ ?_
          rotate_left
          ·
           show Act.put _ (some 58) _ = _
           simp only [Act.put, List.setIfInBounds_toArray, List.set_cons_zero, List.set_cons_succ, i64_w, i32_w]
           rfl
          exact norm_ (by simp only [putAll, Act.put, List.setIfInBounds_toArray, List.set_cons_zero, List.set_cons_succ]) (hCont (v235, v243, v246) _ ⟨(by (with_reducible repeat (first | apply Kd.V_alloc | apply Kd.V_drewN | apply Kd.V_drew)); exact Kd.V_mono HL232_0.out (fun _ hk => by (repeat' (with_reducible apply And.intro)) <;> first | exact hk.1 | exact hk.2 | exact hk.1.1 | exact hk.1.2 | exact hk.2.1 | exact hk.2.2 | exact hk.1.1.1 | exact hk.1.1.2 | exact hk.1.2.1 | exact hk.1.2.2 | exact hk.2.1.1 | exact hk.2.1.2 | exact hk.2.2.1 | exact hk.2.2.2 | exact hk.1.1.1.1 | exact hk.1.1.1.2 | exact hk.1.1.2.1 | exact hk.1.1.2.2 | exact hk.1.2.1.1 | exact hk.1.2.1.2 | exact hk.1.2.2.1 | exact hk.1.2.2.2 | exact hk.2.1.1.1 | exact hk.2.1.1.2 | exact hk.2.1.2.1 | exact hk.2.1.2.2 | exact hk.2.2.1.1 | exact hk.2.2.1.2 | exact hk.2.2.2.1 | exact hk.2.2.2.2 | exact hk.1.1.1.1.1 | exact hk.1.1.1.1.2 | exact hk.1.1.1.2.1 | exact hk.1.1.1.2.2 | exact hk.1.1.2.1.1 | exact hk.1.1.2.1.2 | exact hk.1.1.2.2.1 | exact hk.1.1.2.2.2 | exact hk.1.2.1.1.1 | exact hk.1.2.1.1.2 | exact hk.1.2.1.2.1 | exact hk.1.2.1.2.2 | exact hk.1.2.2.1.1 | exact hk.1.2.2.1.2 | exact hk.1.2.2.2.1 | exact hk.1.2.2.2.2 | exact hk.2.1.1.1.1 | exact hk.2.1.1.1.2 | exact hk.2.1.1.2.1 | exact hk.2.1.1.2.2 | exact hk.2.1.2.1.1 | exact hk.2.1.2.1.2 | exact hk.2.1.2.2.1 | exact hk.2.1.2.2.2 | exact hk.2.2.1.1.1 | exact hk.2.2.1.1.2 | exact hk.2.2.1.2.1 | exact hk.2.2.1.2.2 | exact hk.2.2.2.1.1 | exact hk.2.2.2.1.2 | exact hk.2.2.2.2.1 | exact hk.2.2.2.2.2)), (by (with_reducible repeat (first | apply Kd.V_alloc | apply Kd.V_drewN | apply Kd.V_drew)); exact Kd.V_mono HO241.out (fun _ hk => ⟨hk.1.1, ⟨hk.2, ⟨hk.1.2.1, hk.1.2.2⟩⟩⟩)), (by (with_reducible repeat (first | apply Kd.N_alloc | apply Kd.N_drewN | apply Kd.N_drew)); exact HO244.out), (by (with_reducible repeat (first | apply Kd.N_alloc | apply Kd.N_drewN | apply Kd.N_drew)); exact Kd.N_mono HO247.out (fun _ hk => ⟨hk.1.1, ⟨hk.2, ⟨hk.1.2.1, hk.1.2.2⟩⟩⟩)), (by (with_reducible repeat (first | apply Kd.V_alloc | apply Kd.V_drewN | apply Kd.V_drew)); exact Kd.V_mono HO255.out (fun _ hk => ⟨hk.1.1, ⟨hk.2, ⟨hk.1.2.1, hk.1.2.2⟩⟩⟩)), (by (with_reducible repeat (first | apply Kd.N_alloc | apply Kd.N_drewN | apply Kd.N_drew)); exact Kd.N_mono HO_3.out (fun _ hk => ⟨hk.1.1, ⟨hk.2, ⟨hk.1.2.1, hk.1.2.2⟩⟩⟩)), ((mK (BK217.out))), mG⟩)
        ·
         skip
         refine Kd.N_lit_step (Kd.slice 3 (Kd.int .i64)) _ 25 ?hg (N' := 60) ?hd (xs := ([x5_2] : List (List Int))) (inner := [.slice Ao29 x5_2.length co29]) (ok := (fun k_ => (w.heap.size ≤ k_) ∧ some k_ ≠ (.slice (some ad232) x3_1.length co31 : Value).ownBlock ∧ k_ ≠ gb217)) (okp := (fun k_ => (w.heap.size ≤ k_) ∧ some k_ ≠ (.slice (some ad232) x3_1.length co31 : Value).ownBlock ∧ k_ ≠ gb217)) ?hr ?hp (fun _ hk => hk) ((show ∀ k_, w45.heap.size ≤ k_ → (fun k_ => (w.heap.size ≤ k_) ∧ some k_ ≠ (.slice (some ad232) x3_1.length co31 : Value).ownBlock ∧ k_ ≠ gb217) k_ from fun k_ hk => ⟨(Nat.le_trans (below_size mG) hk), Kd.fresh' (Kd.N_lt (by (with_reducible repeat (first | apply Kd.N_alloc | apply Kd.N_drewN | apply Kd.N_drew)); exact HO_3.out)) k_ hk, Kd.freshB (g := gb217) (o := .cells #[.int .i64 a0_0, .slice A0_1 l0_1.length c0_1] 28 (0, 0)) ((mK (BK217.out))) k_ hk⟩) _ (Nat.le_refl _)) (Below.refl _ _) (Nat.le_refl _) (by simp) ?_; (case hd => rfl); (case hg => rfl); (case hr => first | (go_simp; done) | (go_simp; rfl)); (case hp => exact (Reps.one (show Kd.FK (Kd.slice 3 (Kd.int .i64)) _ _ x5_2 [.slice Ao29 x5_2.length co29] from (Kd.FK_slice_mk (Kd.R_reads' (Kd.R_mono (ok' := (fun k_ => (w.heap.size ≤ k_) ∧ some k_ ≠ (.slice (some ad232) x3_1.length co31 : Value).ownBlock ∧ k_ ≠ gb217)) (Kd.R_types (Kd.R_apart' (HO_5.out) (Kd.N_typed HO_3.out) (by decide)) BK217.out (by decide)) (fun k_ hk => ⟨hk.1.1, ⟨hk.1.2, hk.2⟩⟩))).2.1 (Kd.R_F (Kd.R_mono (ok' := (fun k_ => (w.heap.size ≤ k_) ∧ some k_ ≠ (.slice (some ad232) x3_1.length co31 : Value).ownBlock ∧ k_ ≠ gb217)) (Kd.R_types (Kd.R_apart' (HO_5.out) (Kd.N_typed HO_3.out) (by decide)) BK217.out (by decide)) (fun k_ hk => ⟨hk.1.1, ⟨hk.1.2, hk.2⟩⟩))))) (Reps.none _ _)))
         intro v246 w48 ho49 hb hg_ hnew_
         clear hg_ hnew_
         (first | rw [← Ny245.out] at ho49 | (simp only [Int.reduceToNat] at ho49; rw [← Ny245.out] at ho49))
         have n0_ := Aside0.mk (Kd.N_elder' (by (with_reducible repeat (first | apply Kd.N_alloc | apply Kd.N_drewN | apply Kd.N_drew)); exact HO_3.out) (Kd.N_base ho49) hb)
         have n1_ := Aside0.mk (Kd.V_elder' (by (with_reducible repeat (first | apply Kd.V_alloc | apply Kd.V_drewN | apply Kd.V_drew)); exact HL232_0.out) (Kd.N_base ho49) hb)
         have n2_ := Aside0.mk (Kd.V_elder' (by (with_reducible repeat (first | apply Kd.V_alloc | apply Kd.V_drewN | apply Kd.V_drew)); exact HO241.out) (Kd.N_base ho49) hb)
         have n3_ := Aside0.mk (Kd.V_elder' (by (with_reducible repeat (first | apply Kd.V_alloc | apply Kd.V_drewN | apply Kd.V_drew)); exact HO255.out) (Kd.N_base ho49) hb)
         have n4_ := Aside0.mk (Kd.N_lower ho49 (below_size mG))
         have n5_ := Aside0.mk (blk_below (g := gb217) (o := .cells #[.int .i64 a0_0, .slice A0_1 l0_1.length c0_1] 28 (0, 0)) ((mK (BK217.out))) hb)
         have n6_ := Aside0.mk (Kd.C_below (mC HR232_0.out) hb)
         have n7_ := Aside0.mk (below_step mG hb)
         clear HO_3 HL232_0 HO241 HO255 BK217 HR232_0 HB HO_5; have HO_3 := n0_; have HL232_0 := n1_; have HO241 := n2_; have HO255 := n3_; have HO247 := n4_; have BK217 := n5_; have HR232_0 := n6_; have HB := n7_; clear n0_ n1_ n2_ n3_ n4_ n5_ n6_ n7_; clear hb ho49
         refine hK.out _ _ trivial (fun hHeld => ?_)
         clear hK K
         refine norm_ (a' := ?_) ?_ ?_
         rotate_left
         ·
          show Act.put _ (some 60) _ = _
          simp only [Act.put, List.setIfInBounds_toArray, List.set_cons_zero, List.set_cons_succ, i64_w, i32_w]
          rfl
         refine one_ (i := 0) (N := some 54) #[true, true, true, true, false, true, true, false, true, true, true, false, false] rfl rfl (one_of HT_.out (by kernel_rfl)) (by decide) (fun K hK => ?_)
         refine Kd.N_lit_step (Kd.slice 3 (Kd.int .i64)) _ 25 ?hg (N' := 54) ?hd (xs := ([] : List (List Int))) (inner := []) (ok := (fun k_ => (w.heap.size ≤ k_) ∧ some k_ ≠ (.slice (some ad232) x3_1.length co31 : Value).ownBlock ∧ some k_ ≠ (v246 : Value).ownBlock ∧ k_ ≠ gb217)) (okp := (fun k_ => (w.heap.size ≤ k_) ∧ some k_ ≠ (.slice (some ad232) x3_1.length co31 : Value).ownBlock ∧ some k_ ≠ (v246 : Value).ownBlock ∧ k_ ≠ gb217)) ?hr ?hp (fun _ hk => hk) ((show ∀ k_, w48.heap.size ≤ k_ → (fun k_ => (w.heap.size ≤ k_) ∧ some k_ ≠ (.slice (some ad232) x3_1.length co31 : Value).ownBlock ∧ some k_ ≠ (v246 : Value).ownBlock ∧ k_ ≠ gb217) k_ from fun k_ hk => ⟨(Nat.le_trans (below_size mG) hk), Kd.fresh' (Kd.N_lt (by (with_reducible repeat (first | apply Kd.N_alloc | apply Kd.N_drewN | apply Kd.N_drew)); exact HO_3.out)) k_ hk, Kd.fresh' (Kd.N_lt (by (with_reducible repeat (first | apply Kd.N_alloc | apply Kd.N_drewN | apply Kd.N_drew)); exact HO247.out)) k_ hk, Kd.freshB (g := gb217) (o := .cells #[.int .i64 a0_0, .slice A0_1 l0_1.length c0_1] 28 (0, 0)) ((mK (BK217.out))) k_ hk⟩) _ (Nat.le_refl _)) (Below.refl _ _) (Nat.le_refl _) (by simp) ?_; (case hd => rfl); (case hg => rfl); (case hr => first | (go_simp; done) | (go_simp; rfl)); (case hp => exact (Reps.none _ _))
         intro v235 w50 ho51 hb hg_ hnew_
         clear hg_ hnew_
         (first | rw [← Ny234.out] at ho51 | (simp only [Int.reduceToNat] at ho51; rw [← Ny234.out] at ho51))
         have n0_ := Aside0.mk (Kd.N_elder' (by (with_reducible repeat (first | apply Kd.N_alloc | apply Kd.N_drewN | apply Kd.N_drew)); exact HO_3.out) (Kd.N_base ho51) hb)
         have n1_ := Aside0.mk (Kd.V_elder' (by (with_reducible repeat (first | apply Kd.V_alloc | apply Kd.V_drewN | apply Kd.V_drew)); exact HL232_0.out) (Kd.N_base ho51) hb)
         have n2_ := Aside0.mk (Kd.V_elder' (by (with_reducible repeat (first | apply Kd.V_alloc | apply Kd.V_drewN | apply Kd.V_drew)); exact HO241.out) (Kd.N_base ho51) hb)
         have n3_ := Aside0.mk (Kd.V_elder' (by (with_reducible repeat (first | apply Kd.V_alloc | apply Kd.V_drewN | apply Kd.V_drew)); exact HO255.out) (Kd.N_base ho51) hb)
         have n4_ := Aside0.mk (Kd.N_elder' (by (with_reducible repeat (first | apply Kd.N_alloc | apply Kd.N_drewN | apply Kd.N_drew)); exact HO247.out) (Kd.N_base ho51) hb)
         have n5_ := Aside0.mk (Kd.N_lower ho51 (below_size mG))
         have n6_ := Aside0.mk (blk_below (g := gb217) (o := .cells #[.int .i64 a0_0, .slice A0_1 l0_1.length c0_1] 28 (0, 0)) ((mK (BK217.out))) hb)
         have n7_ := Aside0.mk (Kd.C_below (mC HR232_0.out) hb)
         have n8_ := Aside0.mk (below_step mG hb)
         clear HO_3 HL232_0 HO241 HO255 HO247 BK217 HR232_0 HB; have HO_3 := n0_; have HL232_0 := n1_; have HO241 := n2_; have HO255 := n3_; have HO247 := n4_; have HO236 := n5_; have BK217 := n6_; have HR232_0 := n7_; have HB := n8_; clear n0_ n1_ n2_ n3_ n4_ n5_ n6_ n7_ n8_; clear hb ho51
         refine hK.out _ _ trivial (fun hHeld => ?_)
         clear hK K
         refine norm_ (a' := ?_) ?_ ?_
         rotate_left
         ·
          show Act.put _ (some 54) _ = _
          simp only [Act.put, List.setIfInBounds_toArray, List.set_cons_zero, List.set_cons_succ, i64_w, i32_w]
          rfl
         refine one_ (i := 4) (N := some 58) #[true, true, true, true, true, true, true, false, true, true, true, false, false] rfl rfl (one_of HT_.out (by kernel_rfl)) (by decide) (fun K hK => ?_)
         refine Kd.N_append_rows_step (Kd.slice 3 (Kd.int .i64)) (w0 := w) w.heap.size (by rfl) (.tmp 54) (.tmp 57) 22 25 (.slice none 0 0) 24 rfl Try.underlying22 info25 rfl (by decide) (by omega) v235 y234 y237 _ _ _ (fun k_ => (w.heap.size ≤ k_) ∧ some k_ ≠ (v246 : Value).ownBlock ∧ k_ ≠ gb217) (fun k_ => ((fun k_ => (w.heap.size ≤ k_) ∧ some k_ ≠ (v246 : Value).ownBlock ∧ k_ ≠ gb217)) k_ ∧ some k_ ≠ (v235 : Value).ownBlock) rfl rfl ?aO ?aR (fun _ hk => hk) ?aF ?aB ?aS ?aL ?_
         (case aR => exact (by skip; exact Kd.V_F (Kd.V_mono (ok' := (fun k_ => ((fun k_ => (w.heap.size ≤ k_) ∧ some k_ ≠ (v246 : Value).ownBlock ∧ k_ ≠ gb217)) k_ ∧ some k_ ≠ (v235 : Value).ownBlock)) (HO241.out) (fun k_ hk => ⟨⟨hk.1.1.1, ⟨hk.1.2, hk.1.1.2.2⟩⟩, hk.2⟩))))
         (case aB => exact mG)
         (case aF => exact (fun k_ hk => ⟨(Nat.le_trans (below_size mG) hk), Kd.fresh' (Kd.N_lt (by (with_reducible repeat (first | apply Kd.N_alloc | apply Kd.N_drewN | apply Kd.N_drew)); exact HO247.out)) k_ hk, Kd.freshB (g := gb217) (o := .cells #[.int .i64 a0_0, .slice A0_1 l0_1.length c0_1] 28 (0, 0)) ((mK (BK217.out))) k_ hk⟩))
         (case aO => exact (by (with_reducible repeat (first | apply Kd.N_alloc | apply Kd.N_drewN | apply Kd.N_drew)); exact Kd.N_mono HO236.out (fun _ hk => ⟨hk.1, ⟨hk.2.2.1, hk.2.2.2⟩⟩)))
         (case aS => exact (below_size mG))
         (case aL => have := LMc40.out; omega)
         intro v243 w52 ho hb hg hat
         rw [← Ny242.out] at ho
         have n0_ := Aside0.mk (Kd.N_afterv (ok := (fun k_ => (w.heap.size ≤ k_) ∧ some k_ ≠ (v246 : Value).ownBlock ∧ k_ ≠ gb217)) (by (with_reducible repeat (first | apply Kd.N_alloc | apply Kd.N_drewN | apply Kd.N_drew)); exact Kd.N_mono HO_3.out (fun _ hk => ⟨⟨hk.1.1.1, ⟨hk.1.2, hk.1.1.2.2⟩⟩, hk.2⟩)) hg hat)
         have n1_ := Aside0.mk (blk_grown (g := gb217) (o := .cells #[.int .i64 a0_0, .slice A0_1 l0_1.length c0_1] 28 (0, 0)) ((mK (BK217.out))) hg (Kd.N_ne HO236.out BK217.out (by decide)))
         have n2_ := Aside0.mk (Kd.V_afterv (ok := (fun k_ => (w.heap.size ≤ k_) ∧ some k_ ≠ (.slice (some ad232) x3_1.length co31 : Value).ownBlock ∧ some k_ ≠ (v246 : Value).ownBlock ∧ k_ ≠ gb217)) (by (with_reducible repeat (first | apply Kd.V_alloc | apply Kd.V_drewN | apply Kd.V_drew)); exact Kd.V_mono HL232_0.out (fun _ hk => by (repeat' (with_reducible apply And.intro)) <;> first | exact hk.1 | exact hk.2 | exact hk.1.1 | exact hk.1.2 | exact hk.2.1 | exact hk.2.2 | exact hk.1.1.1 | exact hk.1.1.2 | exact hk.1.2.1 | exact hk.1.2.2 | exact hk.2.1.1 | exact hk.2.1.2 | exact hk.2.2.1 | exact hk.2.2.2 | exact hk.1.1.1.1 | exact hk.1.1.1.2 | exact hk.1.1.2.1 | exact hk.1.1.2.2 | exact hk.1.2.1.1 | exact hk.1.2.1.2 | exact hk.1.2.2.1 | exact hk.1.2.2.2 | exact hk.2.1.1.1 | exact hk.2.1.1.2 | exact hk.2.1.2.1 | exact hk.2.1.2.2 | exact hk.2.2.1.1 | exact hk.2.2.1.2 | exact hk.2.2.2.1 | exact hk.2.2.2.2 | exact hk.1.1.1.1.1 | exact hk.1.1.1.1.2 | exact hk.1.1.1.2.1 | exact hk.1.1.1.2.2 | exact hk.1.1.2.1.1 | exact hk.1.1.2.1.2 | exact hk.1.1.2.2.1 | exact hk.1.1.2.2.2 | exact hk.1.2.1.1.1 | exact hk.1.2.1.1.2 | exact hk.1.2.1.2.1 | exact hk.1.2.1.2.2 | exact hk.1.2.2.1.1 | exact hk.1.2.2.1.2 | exact hk.1.2.2.2.1 | exact hk.1.2.2.2.2 | exact hk.2.1.1.1.1 | exact hk.2.1.1.1.2 | exact hk.2.1.1.2.1 | exact hk.2.1.1.2.2 | exact hk.2.1.2.1.1 | exact hk.2.1.2.1.2 | exact hk.2.1.2.2.1 | exact hk.2.1.2.2.2 | exact hk.2.2.1.1.1 | exact hk.2.2.1.1.2 | exact hk.2.2.1.2.1 | exact hk.2.2.1.2.2 | exact hk.2.2.2.1.1 | exact hk.2.2.2.1.2 | exact hk.2.2.2.2.1 | exact hk.2.2.2.2.2)) hg hat)
         have n3_ := Aside0.mk (Kd.V_afterv (ok := (fun k_ => (w.heap.size ≤ k_) ∧ some k_ ≠ (v246 : Value).ownBlock ∧ k_ ≠ gb217)) (by (with_reducible repeat (first | apply Kd.V_alloc | apply Kd.V_drewN | apply Kd.V_drew)); exact Kd.V_mono HO241.out (fun _ hk => ⟨⟨hk.1.1.1, ⟨hk.1.2, hk.1.1.2.2⟩⟩, hk.2⟩)) hg hat)
         have n4_ := Aside0.mk (Kd.V_afterv (ok := (fun k_ => (w.heap.size ≤ k_) ∧ some k_ ≠ (v246 : Value).ownBlock ∧ k_ ≠ gb217)) (by (with_reducible repeat (first | apply Kd.V_alloc | apply Kd.V_drewN | apply Kd.V_drew)); exact Kd.V_mono HO255.out (fun _ hk => ⟨⟨hk.1.1.1, ⟨hk.1.2, hk.1.1.2.2⟩⟩, hk.2⟩)) hg hat)
         have n5_ := Aside0.mk (Kd.N_afterv (ok := (fun k_ => (w.heap.size ≤ k_) ∧ some k_ ≠ (.slice (some ad232) x3_1.length co31 : Value).ownBlock ∧ k_ ≠ gb217)) (by (with_reducible repeat (first | apply Kd.N_alloc | apply Kd.N_drewN | apply Kd.N_drew)); exact HO247.out) hg hat)
         have n6_ := Aside0.mk (hb)
         have n7_ := Aside0.mk (ho)
         clear HO_3 BK217 HL232_0 HO241 HO255 HO247 HB HO236; have HO_3 := n0_; have BK217 := n1_; have HL232_0 := n2_; have HO241 := n3_; have HO255 := n4_; have HO247 := n5_; have HB := n6_; have HO244 := n7_; clear n0_ n1_ n2_ n3_ n4_ n5_ n6_ n7_; clear ho hb hg hat
         refine hK.out _ _ trivial (fun hHeld => ?_)
         clear hK K
         refine norm_ (a' := ?_) ?_ ?_
         rotate_left
         ·
          show Act.put _ (some 58) _ = _
          simp only [Act.put, List.setIfInBounds_toArray, List.set_cons_zero, List.set_cons_succ, i64_w, i32_w]
          rfl
         exact norm_ (by simp only [putAll, Act.put, List.setIfInBounds_toArray, List.set_cons_zero, List.set_cons_succ]) (hCont (v235, v243, v246) _ ⟨(by (with_reducible repeat (first | apply Kd.V_alloc | apply Kd.V_drewN | apply Kd.V_drew)); exact Kd.V_mono HL232_0.out (fun _ hk => by (repeat' (with_reducible apply And.intro)) <;> first | exact hk.1 | exact hk.2 | exact hk.1.1 | exact hk.1.2 | exact hk.2.1 | exact hk.2.2 | exact hk.1.1.1 | exact hk.1.1.2 | exact hk.1.2.1 | exact hk.1.2.2 | exact hk.2.1.1 | exact hk.2.1.2 | exact hk.2.2.1 | exact hk.2.2.2 | exact hk.1.1.1.1 | exact hk.1.1.1.2 | exact hk.1.1.2.1 | exact hk.1.1.2.2 | exact hk.1.2.1.1 | exact hk.1.2.1.2 | exact hk.1.2.2.1 | exact hk.1.2.2.2 | exact hk.2.1.1.1 | exact hk.2.1.1.2 | exact hk.2.1.2.1 | exact hk.2.1.2.2 | exact hk.2.2.1.1 | exact hk.2.2.1.2 | exact hk.2.2.2.1 | exact hk.2.2.2.2 | exact hk.1.1.1.1.1 | exact hk.1.1.1.1.2 | exact hk.1.1.1.2.1 | exact hk.1.1.1.2.2 | exact hk.1.1.2.1.1 | exact hk.1.1.2.1.2 | exact hk.1.1.2.2.1 | exact hk.1.1.2.2.2 | exact hk.1.2.1.1.1 | exact hk.1.2.1.1.2 | exact hk.1.2.1.2.1 | exact hk.1.2.1.2.2 | exact hk.1.2.2.1.1 | exact hk.1.2.2.1.2 | exact hk.1.2.2.2.1 | exact hk.1.2.2.2.2 | exact hk.2.1.1.1.1 | exact hk.2.1.1.1.2 | exact hk.2.1.1.2.1 | exact hk.2.1.1.2.2 | exact hk.2.1.2.1.1 | exact hk.2.1.2.1.2 | exact hk.2.1.2.2.1 | exact hk.2.1.2.2.2 | exact hk.2.2.1.1.1 | exact hk.2.2.1.1.2 | exact hk.2.2.1.2.1 | exact hk.2.2.1.2.2 | exact hk.2.2.2.1.1 | exact hk.2.2.2.1.2 | exact hk.2.2.2.2.1 | exact hk.2.2.2.2.2)), (by (with_reducible repeat (first | apply Kd.V_alloc | apply Kd.V_drewN | apply Kd.V_drew)); exact Kd.V_mono HO241.out (fun _ hk => ⟨hk.1.1, ⟨hk.2, ⟨hk.1.2.1, hk.1.2.2⟩⟩⟩)), (by (with_reducible repeat (first | apply Kd.N_alloc | apply Kd.N_drewN | apply Kd.N_drew)); exact HO244.out), (by (with_reducible repeat (first | apply Kd.N_alloc | apply Kd.N_drewN | apply Kd.N_drew)); exact Kd.N_mono HO247.out (fun _ hk => ⟨hk.1.1, ⟨hk.2, ⟨hk.1.2.1, hk.1.2.2⟩⟩⟩)), (by (with_reducible repeat (first | apply Kd.V_alloc | apply Kd.V_drewN | apply Kd.V_drew)); exact Kd.V_mono HO255.out (fun _ hk => ⟨hk.1.1, ⟨hk.2, ⟨hk.1.2.1, hk.1.2.2⟩⟩⟩)), (by (with_reducible repeat (first | apply Kd.N_alloc | apply Kd.N_drewN | apply Kd.N_drew)); exact Kd.N_mono HO_3.out (fun _ hk => ⟨hk.1.1, ⟨hk.2, ⟨hk.1.2.1, hk.1.2.2⟩⟩⟩)), ((mK (BK217.out))), mG⟩)
       rintro ⟨v235, v243, v246⟩ w53 ⟨h0_, h1_, h2_, h3_, h4_, h5_, h6_, h7_⟩
       have n0_ : Aside0 (Kd.V (Kd.int .i64) 3 w53 w.heap.size (fun k_ => (w.heap.size ≤ k_) ∧ some k_ ≠ (v243 : Value).ownBlock ∧ some k_ ≠ (v246 : Value).ownBlock ∧ some k_ ≠ (.slice (some ad232) x3_1.length co31 : Value).ownBlock ∧ k_ ≠ gb217) (.slice A232_0 (rd_L1 x3_1 (ji33)).length c232_0) (rd_L1 x3_1 (ji33))) := ⟨h0_⟩
       have n1_ : Aside0 (Kd.V (Kd.slice 3 (Kd.int .i64)) 25 w53 w.heap.size (fun k_ => (w.heap.size ≤ k_) ∧ some k_ ≠ (v243 : Value).ownBlock ∧ some k_ ≠ (v246 : Value).ownBlock ∧ k_ ≠ gb217) (.slice (some ad232) y237.length co31) y237) := ⟨h1_⟩
       have n2_ : Aside0 (Kd.N (Kd.slice 3 (Kd.int .i64)) 25 w53 w.heap.size (fun k_ => (w.heap.size ≤ k_) ∧ some k_ ≠ (v246 : Value).ownBlock ∧ k_ ≠ gb217) v243 y242) := ⟨h2_⟩
       have n3_ : Aside0 (Kd.N (Kd.slice 3 (Kd.int .i64)) 25 w53 w.heap.size (fun k_ => (w.heap.size ≤ k_) ∧ some k_ ≠ (v243 : Value).ownBlock ∧ some k_ ≠ (.slice (some ad232) x3_1.length co31 : Value).ownBlock ∧ k_ ≠ gb217) v246 y245) := ⟨h3_⟩
       have n4_ : Aside0 (Kd.V (Kd.slice 3 (Kd.int .i64)) 25 w53 w.heap.size (fun k_ => (w.heap.size ≤ k_) ∧ some k_ ≠ (v243 : Value).ownBlock ∧ some k_ ≠ (v246 : Value).ownBlock ∧ k_ ≠ gb217) (.slice A47 y251.length c47) y251) := ⟨h4_⟩
       have n5_ : Aside0 (Kd.N (Kd.slice 3 (Kd.int .i64)) 25 w53 w.heap.size (fun k_ => (w.heap.size ≤ k_) ∧ some k_ ≠ (v243 : Value).ownBlock ∧ some k_ ≠ (v246 : Value).ownBlock ∧ k_ ≠ gb217) (.slice (some ad232) x3_1.length co31) x3_1) := ⟨h5_⟩
       have n6_ : Aside0 (w53.heap[gb217]? = some (.cells #[.int .i64 a0_0, .slice A0_1 l0_1.length c0_1] 28 (0, 0))) := ⟨h6_⟩
       have n7_ : Aside0 (Below w.heap.size w w53) := ⟨h7_⟩
       clear HO_3 HO_5 HL232_0 BK217 HR232_0 HB; clear h0_ h1_ h2_ h3_ h4_ h5_ h6_ h7_; have HL232_0 := n0_; have HO241 := n1_; have HO244 := n2_; have HO247 := n3_; have HO255 := n4_; have HO_3 := n5_; have BK217 := n6_; have HB := n7_; clear n0_ n1_ n2_ n3_ n4_ n5_ n6_ n7_
       have hHeld := trivial
       obtain ⟨Ao55, co55, eo55⟩ := Kd.N_slice HO247.out
       (first | subst eo55 | (injection eo55 with f1_ f2_ f3_; have f4_ := f1_.symm; have f5_ := f3_.symm; clear f1_ f2_ f3_; subst f4_; subst f5_))
       refine norm_ (a' := ?_) ?_ ?_
       rotate_left
       ·
        simp only [putAll, Act.put, List.setIfInBounds_toArray, List.set_cons_zero, List.set_cons_succ]
        rfl
       refine one_ (i := 7) (N := some 61) (L_ 11 13) rfl rfl (one_of HT_.out (by kernel_rfl)) (by decide) (fun K hK => ?_)
       refine Kd.N_append_rows_step (Kd.slice 3 (Kd.int .i64)) (w0 := w) w.heap.size (by rfl) (.tmp 58) (.tmp 60) 22 25 (.slice none 0 0) 24 rfl Try.underlying22 info25 rfl (by decide) (by omega) v243 y242 y245 _ _ _ (fun k_ => (w.heap.size ≤ k_) ∧ k_ ≠ gb217) (fun k_ => ((fun k_ => (w.heap.size ≤ k_) ∧ k_ ≠ gb217)) k_ ∧ some k_ ≠ (v243 : Value).ownBlock) rfl rfl ?aO ?aR (fun _ hk => hk) ?aF ?aB ?aS ?aL ?_
       (case aR => exact (by skip; exact Kd.N_F (Kd.N_mono (ok' := (fun k_ => ((fun k_ => (w.heap.size ≤ k_) ∧ k_ ≠ gb217)) k_ ∧ some k_ ≠ (v243 : Value).ownBlock)) (HO247.out) (fun k_ hk => ⟨⟨hk.1, hk.2.2.2⟩, hk.2.1⟩))))
       (case aB => exact mG)
       (case aF => exact (fun k_ hk => ⟨(Nat.le_trans (below_size mG) hk), Kd.freshB (g := gb217) (o := .cells #[.int .i64 a0_0, .slice A0_1 l0_1.length c0_1] 28 (0, 0)) ((mK (BK217.out))) k_ hk⟩))
       (case aO => exact (by (with_reducible repeat (first | apply Kd.N_alloc | apply Kd.N_drewN | apply Kd.N_drew)); exact Kd.N_mono HO244.out (fun _ hk => ⟨hk.1, hk.2.2⟩)))
       (case aS => exact (below_size mG))
       (case aL => have := LMc41.out; omega)
       intro v249 w54 ho hb hg hat
       rw [← Ny248.out] at ho
       have n0_ := Aside0.mk (Kd.N_afterv (ok := (fun k_ => (w.heap.size ≤ k_) ∧ some k_ ≠ (.slice Ao55 y245.length co55 : Value).ownBlock ∧ k_ ≠ gb217)) (by (with_reducible repeat (first | apply Kd.N_alloc | apply Kd.N_drewN | apply Kd.N_drew)); exact Kd.N_mono HO_3.out (fun _ hk => ⟨⟨hk.1, ⟨hk.2.2.1, hk.2.2.2⟩⟩, hk.2.1⟩)) hg hat)
       have n1_ := Aside0.mk (blk_grown (g := gb217) (o := .cells #[.int .i64 a0_0, .slice A0_1 l0_1.length c0_1] 28 (0, 0)) ((mK (BK217.out))) hg (Kd.N_ne HO244.out BK217.out (by decide)))
       have n2_ := Aside0.mk (Kd.V_afterv (ok := (fun k_ => (w.heap.size ≤ k_) ∧ some k_ ≠ (.slice (some ad232) x3_1.length co31 : Value).ownBlock ∧ some k_ ≠ (.slice Ao55 y245.length co55 : Value).ownBlock ∧ k_ ≠ gb217)) (by (with_reducible repeat (first | apply Kd.V_alloc | apply Kd.V_drewN | apply Kd.V_drew)); exact Kd.V_mono HL232_0.out (fun _ hk => by (repeat' (with_reducible apply And.intro)) <;> first | exact hk.1 | exact hk.2 | exact hk.1.1 | exact hk.1.2 | exact hk.2.1 | exact hk.2.2 | exact hk.1.1.1 | exact hk.1.1.2 | exact hk.1.2.1 | exact hk.1.2.2 | exact hk.2.1.1 | exact hk.2.1.2 | exact hk.2.2.1 | exact hk.2.2.2 | exact hk.1.1.1.1 | exact hk.1.1.1.2 | exact hk.1.1.2.1 | exact hk.1.1.2.2 | exact hk.1.2.1.1 | exact hk.1.2.1.2 | exact hk.1.2.2.1 | exact hk.1.2.2.2 | exact hk.2.1.1.1 | exact hk.2.1.1.2 | exact hk.2.1.2.1 | exact hk.2.1.2.2 | exact hk.2.2.1.1 | exact hk.2.2.1.2 | exact hk.2.2.2.1 | exact hk.2.2.2.2 | exact hk.1.1.1.1.1 | exact hk.1.1.1.1.2 | exact hk.1.1.1.2.1 | exact hk.1.1.1.2.2 | exact hk.1.1.2.1.1 | exact hk.1.1.2.1.2 | exact hk.1.1.2.2.1 | exact hk.1.1.2.2.2 | exact hk.1.2.1.1.1 | exact hk.1.2.1.1.2 | exact hk.1.2.1.2.1 | exact hk.1.2.1.2.2 | exact hk.1.2.2.1.1 | exact hk.1.2.2.1.2 | exact hk.1.2.2.2.1 | exact hk.1.2.2.2.2 | exact hk.2.1.1.1.1 | exact hk.2.1.1.1.2 | exact hk.2.1.1.2.1 | exact hk.2.1.1.2.2 | exact hk.2.1.2.1.1 | exact hk.2.1.2.1.2 | exact hk.2.1.2.2.1 | exact hk.2.1.2.2.2 | exact hk.2.2.1.1.1 | exact hk.2.2.1.1.2 | exact hk.2.2.1.2.1 | exact hk.2.2.1.2.2 | exact hk.2.2.2.1.1 | exact hk.2.2.2.1.2 | exact hk.2.2.2.2.1 | exact hk.2.2.2.2.2)) hg hat)
       have n3_ := Aside0.mk (Kd.V_afterv (ok := (fun k_ => (w.heap.size ≤ k_) ∧ some k_ ≠ (.slice Ao55 y245.length co55 : Value).ownBlock ∧ k_ ≠ gb217)) (by (with_reducible repeat (first | apply Kd.V_alloc | apply Kd.V_drewN | apply Kd.V_drew)); exact Kd.V_mono HO241.out (fun _ hk => ⟨⟨hk.1, ⟨hk.2.2.1, hk.2.2.2⟩⟩, hk.2.1⟩)) hg hat)
       have n4_ := Aside0.mk (Kd.V_afterv (ok := (fun k_ => (w.heap.size ≤ k_) ∧ some k_ ≠ (.slice Ao55 y245.length co55 : Value).ownBlock ∧ k_ ≠ gb217)) (by (with_reducible repeat (first | apply Kd.V_alloc | apply Kd.V_drewN | apply Kd.V_drew)); exact Kd.V_mono HO255.out (fun _ hk => ⟨⟨hk.1, ⟨hk.2.2.1, hk.2.2.2⟩⟩, hk.2.1⟩)) hg hat)
       have n5_ := Aside0.mk (Kd.N_afterv (ok := (fun k_ => (w.heap.size ≤ k_) ∧ some k_ ≠ (.slice (some ad232) x3_1.length co31 : Value).ownBlock ∧ k_ ≠ gb217)) (by (with_reducible repeat (first | apply Kd.N_alloc | apply Kd.N_drewN | apply Kd.N_drew)); exact Kd.N_mono HO247.out (fun _ hk => ⟨⟨hk.1, ⟨hk.2.2.1, hk.2.2.2⟩⟩, hk.2.1⟩)) hg hat)
       have n6_ := Aside0.mk (hb)
       have n7_ := Aside0.mk (ho)
       clear HO_3 BK217 HL232_0 HO241 HO255 HO247 HB HO244; have HO_3 := n0_; have BK217 := n1_; have HL232_0 := n2_; have HO241 := n3_; have HO255 := n4_; have HO247 := n5_; have HB := n6_; have HO250 := n7_; clear n0_ n1_ n2_ n3_ n4_ n5_ n6_ n7_; clear ho hb hg hat
       refine hK.out _ _ trivial (fun hHeld => ?_)
       clear hK K
       refine norm_ (a' := ?_) ?_ ?_
       rotate_left
       ·
        show Act.put _ (some 61) _ = _
        simp only [Act.put, List.setIfInBounds_toArray, List.set_cons_zero, List.set_cons_succ, i64_w, i32_w]
        rfl
       refine one_ (i := 11) (N := some 65) (L_ 12 13) rfl rfl (one_of HT_.out (by kernel_rfl)) (by decide) (fun K hK => ?_)
       refine Kd.N_append_rows_step (Kd.slice 3 (Kd.int .i64)) (w0 := w) w.heap.size (by rfl) (.tmp 61) (.tmp 64) 22 25 (.slice none 0 0) 24 rfl Try.underlying22 info25 rfl (by decide) (by omega) v249 y248 y251 _ _ _ (fun k_ => (w.heap.size ≤ k_) ∧ k_ ≠ gb217) (fun k_ => ((fun k_ => (w.heap.size ≤ k_) ∧ k_ ≠ gb217)) k_ ∧ some k_ ≠ (v249 : Value).ownBlock) rfl rfl ?aO ?aR (fun _ hk => hk) ?aF ?aB ?aS ?aL ?_
       (case aR => exact (by skip; exact Kd.V_F (Kd.V_mono (ok' := (fun k_ => ((fun k_ => (w.heap.size ≤ k_) ∧ k_ ≠ gb217)) k_ ∧ some k_ ≠ (v249 : Value).ownBlock)) (HO255.out) (fun k_ hk => ⟨⟨hk.1.1, hk.1.2.2⟩, hk.2⟩))))
       (case aB => exact mG)
       (case aF => exact (fun k_ hk => ⟨(Nat.le_trans (below_size mG) hk), Kd.freshB (g := gb217) (o := .cells #[.int .i64 a0_0, .slice A0_1 l0_1.length c0_1] 28 (0, 0)) ((mK (BK217.out))) k_ hk⟩))
       (case aO => exact (by (with_reducible repeat (first | apply Kd.N_alloc | apply Kd.N_drewN | apply Kd.N_drew)); exact HO250.out))
       (case aS => exact (below_size mG))
       (case aL => have := LMc44.out; omega)
       intro v257 w56 ho hb hg hat
       rw [← Ny256.out] at ho
       have n0_ := Aside0.mk (Kd.N_afterv (ok := (fun k_ => (w.heap.size ≤ k_) ∧ some k_ ≠ (.slice Ao55 y245.length co55 : Value).ownBlock ∧ k_ ≠ gb217)) (by (with_reducible repeat (first | apply Kd.N_alloc | apply Kd.N_drewN | apply Kd.N_drew)); exact HO_3.out) hg hat)
       have n1_ := Aside0.mk (blk_grown (g := gb217) (o := .cells #[.int .i64 a0_0, .slice A0_1 l0_1.length c0_1] 28 (0, 0)) ((mK (BK217.out))) hg (Kd.N_ne HO250.out BK217.out (by decide)))
       have n2_ := Aside0.mk (Kd.V_afterv (ok := (fun k_ => (w.heap.size ≤ k_) ∧ some k_ ≠ (.slice (some ad232) x3_1.length co31 : Value).ownBlock ∧ some k_ ≠ (.slice Ao55 y245.length co55 : Value).ownBlock ∧ k_ ≠ gb217)) (by (with_reducible repeat (first | apply Kd.V_alloc | apply Kd.V_drewN | apply Kd.V_drew)); exact HL232_0.out) hg hat)
       have n3_ := Aside0.mk (Kd.V_afterv (ok := (fun k_ => (w.heap.size ≤ k_) ∧ some k_ ≠ (.slice Ao55 y245.length co55 : Value).ownBlock ∧ k_ ≠ gb217)) (by (with_reducible repeat (first | apply Kd.V_alloc | apply Kd.V_drewN | apply Kd.V_drew)); exact HO241.out) hg hat)
       have n4_ := Aside0.mk (Kd.V_afterv (ok := (fun k_ => (w.heap.size ≤ k_) ∧ some k_ ≠ (.slice Ao55 y245.length co55 : Value).ownBlock ∧ k_ ≠ gb217)) (by (with_reducible repeat (first | apply Kd.V_alloc | apply Kd.V_drewN | apply Kd.V_drew)); exact HO255.out) hg hat)
       have n5_ := Aside0.mk (Kd.N_afterv (ok := (fun k_ => (w.heap.size ≤ k_) ∧ some k_ ≠ (.slice (some ad232) x3_1.length co31 : Value).ownBlock ∧ k_ ≠ gb217)) (by (with_reducible repeat (first | apply Kd.N_alloc | apply Kd.N_drewN | apply Kd.N_drew)); exact HO247.out) hg hat)
       have n6_ := Aside0.mk (hb)
       have n7_ := Aside0.mk (ho)
       clear HO_3 BK217 HL232_0 HO241 HO255 HO247 HB HO250; have HO_3 := n0_; have BK217 := n1_; have HL232_0 := n2_; have HO241 := n3_; have HO255 := n4_; have HO247 := n5_; have HB := n6_; have HO258 := n7_; clear n0_ n1_ n2_ n3_ n4_ n5_ n6_ n7_; clear ho hb hg hat
       refine hK.out _ _ trivial (fun hHeld => ?_)
       clear hK K
       refine norm_ (a' := ?_) ?_ ?_
       rotate_left
       ·
        show Act.put _ (some 65) _ = _
        simp only [Act.put, List.setIfInBounds_toArray, List.set_cons_zero, List.set_cons_succ, i64_w, i32_w]
        rfl
       refine ps 12 3 (L_ 13 13) HT_.out ?_
       refine done_ (done_of HT_.out (by kernel_rfl)) ?_
       try go_wp2
       go_roundg k3
       case measure => have := HK1.out; have := HK2.out; have := HK3.out; omega
       case rel => exact ⟨(y256), (wrap64 (x4_1 + 1)), mF, H', ⟨by have := HK1.out; have := HK2.out; have := HK3.out; omega⟩, ⟨by (with_reducible repeat (first | apply Kd.N_alloc | apply Kd.N_drewN | apply Kd.N_drew)); exact HO258.out⟩, ⟨(mK (BK217.out))⟩, ⟨mG⟩⟩
end Go.Proofs.Ytelkfhlnejlheaa.GFnExactIsCredible
