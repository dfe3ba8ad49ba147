-- Written by gprint.py, a program of this session, with the printer of the kit as its library. Lean checks it.
import Derived.Test.YtpdpampmbdgofaaGFnExactAddAttackx0
import Derived.Test.YtpdpampmbdgofaaGFnExactAddAttackx2
import Derived.Test.YtpdpampmbdgofaaGFnExactAddAttackx3
namespace Go.Proofs.Ytpdpampmbdgofaa.GFnExactAddAttack
open Go.RowKit Go.Proofs.YtpdpampmbdgofaaW.PrintWords Go.Proofs.YtpdpampmbdgofaaW.PrintLast Go.Proofs.YtpdpampmbdgofaaW.PrintMore
attribute [local go_sem] max2_int min2_int max_two min_two max_three min_three max_four min_four   -- for this text's walks alone
set_option linter.unusedVariables false
set_option linter.unusedSimpArgs false

/-! ### spec_AddAttack: function 24 -/
mutual
def spec_AddAttack.l0 : Nat → Int → Int → Bool → Int → Int → List (List Int) → Int → List (List Int) → Option (Int × (List (List Int)) × Bool)
 | 0, _, _, _, _, _, _, _, _ => none
 | k + 1, x1, x2, x9, x10, x161000, x161001, x163000, x163001 => if x10 < (x161001.length : Int) then ((spec_IsGraph.f k x161000 x161001).bind fun t163 => (spec_AddAttack.j1 k x1 x2 x9 x10 t163 x161000 x161001 x163000 x163001)) else (spec_AddAttack.j1 k x1 x2 x9 x10 false x161000 x161001 x163000 x163001)
def spec_AddAttack.j1 : Nat → Int → Int → Bool → Int → Bool → Int → List (List Int) → Int → List (List Int) → Option (Int × (List (List Int)) × Bool)
 | 0, _, _, _, _, _, _, _, _, _ => none
 | k + 1, x1, x2, x9, x10, x23, x161000, x161001, x163000, x163001 => if x23 = true then (if 0 ≤ x10 then (if x10 < (x161001.length : Int) then (if x9 = true then ((some (([] : List Int) : List Int)).bind fun y165 => (if y165.length + (rd_L1 x161001 x10).length < 17592186044416 then (if x163001.length < 5864062014805 then (spec_AddAttack.l0 k x1 x2 x9 (wrap64 (x10 + 1)) x161000 x161001 x163000 (x163001 ++ [(y165 ++ (rd_L1 x161001 x10))])) else (none)) else (none))) else (if 0 < ((rd_L1 x161001 x10).length : Int) then (if (rd (rd_L1 x161001 x10) 0) > x1 then (if x163001.length < 5864062014805 then ((some (x163001 ++ [(([x1, x2] : List Int))] : List (List Int))).bind fun y178 => ((some (([] : List Int) : List Int)).bind fun y181 => (if y181.length + (rd_L1 x161001 x10).length < 17592186044416 then (if y178.length < 5864062014805 then (spec_AddAttack.l0 k x1 x2 true (wrap64 (x10 + 1)) x161000 x161001 x163000 (y178 ++ [(y181 ++ (rd_L1 x161001 x10))])) else (none)) else (none)))) else (none)) else (if (rd (rd_L1 x161001 x10) 0) = x1 then (if 1 < ((rd_L1 x161001 x10).length : Int) then (if (rd (rd_L1 x161001 x10) 1) > x2 then (if x163001.length < 5864062014805 then ((some (x163001 ++ [(([x1, x2] : List Int))] : List (List Int))).bind fun y195 => ((some (([] : List Int) : List Int)).bind fun y198 => (if y198.length + (rd_L1 x161001 x10).length < 17592186044416 then (if y195.length < 5864062014805 then (spec_AddAttack.l0 k x1 x2 true (wrap64 (x10 + 1)) x161000 x161001 x163000 (y195 ++ [(y198 ++ (rd_L1 x161001 x10))])) else (none)) else (none)))) else (none)) else ((some (([] : List Int) : List Int)).bind fun y207 => (if y207.length + (rd_L1 x161001 x10).length < 17592186044416 then (if x163001.length < 5864062014805 then (spec_AddAttack.l0 k x1 x2 x9 (wrap64 (x10 + 1)) x161000 x161001 x163000 (x163001 ++ [(y207 ++ (rd_L1 x161001 x10))])) else (none)) else (none)))) else (none)) else ((some (([] : List Int) : List Int)).bind fun y216 => (if y216.length + (rd_L1 x161001 x10).length < 17592186044416 then (if x163001.length < 5864062014805 then (spec_AddAttack.l0 k x1 x2 x9 (wrap64 (x10 + 1)) x161000 x161001 x163000 (x163001 ++ [(y216 ++ (rd_L1 x161001 x10))])) else (none)) else (none))))) else (none))) else (none)) else (none)) else (if x9 = true then (spec_AddAttack.j2 k x161000 x161001 x163000 x163001) else (if x163001.length < 5864062014805 then (spec_AddAttack.j2 k x161000 x161001 x163000 (x163001 ++ [(([x1, x2] : List Int))])) else (none)))
def spec_AddAttack.j2 : Nat → Int → List (List Int) → Int → List (List Int) → Option (Int × (List (List Int)) × Bool)
 | 0, _, _, _, _ => none
 | k + 1, x161000, x161001, x163000, x163001 => (spec_IsGraph.f k x161000 x161001).bind fun t231 => (if t231 = true then ((spec_IsGraph.f k x163000 x163001).bind fun t232 => (if t232 = true then (some (x163000, x163001, true)) else ((spec_l4Copy.f k x161000 x161001).bind fun bt233 => (some (bt233.1, bt233.2, false))))) else ((spec_l4Copy.f k x161000 x161001).bind fun bt237 => (some (bt237.1, bt237.2, false))))
end
def spec_AddAttack.f (k : Nat) (a0_0 : Int) (l0_1 : List (List Int)) (a1 : Int) (a2 : Int) : Option (Int × (List (List Int)) × Bool) := spec_AddAttack.l0 k a1 a2 false 0 a0_0 l0_1 a0_0 ([] : List (List Int))
theorem spec_AddAttack.mono_l : ∀ k, (∀ y0 y1 y2 y3 y4 y5 y6 y7, LeO (spec_AddAttack.l0 k y0 y1 y2 y3 y4 y5 y6 y7) (spec_AddAttack.l0 (k + 1) y0 y1 y2 y3 y4 y5 y6 y7)) ∧ (∀ y0 y1 y2 y3 y4 y5 y6 y7 y8, LeO (spec_AddAttack.j1 k y0 y1 y2 y3 y4 y5 y6 y7 y8) (spec_AddAttack.j1 (k + 1) y0 y1 y2 y3 y4 y5 y6 y7 y8)) ∧ (∀ y0 y1 y2 y3, LeO (spec_AddAttack.j2 k y0 y1 y2 y3) (spec_AddAttack.j2 (k + 1) y0 y1 y2 y3))
 | 0 => ⟨fun _ _ _ _ _ _ _ _ r h => by simp [spec_AddAttack.l0] at h, fun _ _ _ _ _ _ _ _ _ r h => by simp [spec_AddAttack.j1] at h, fun _ _ _ _ r h => by simp [spec_AddAttack.j2] at h⟩
 | k + 1 => by
  obtain ⟨ih0, ih1, ih2⟩ := spec_AddAttack.mono_l k
  refine ⟨?_, ?_, ?_⟩
  ·
   intro y0 y1 y2 y3 y4 y5 y6 y7
   unfold spec_AddAttack.l0
   repeat' with_reducible first | exact ih0 _ _ _ _ _ _ _ _ | exact ih1 _ _ _ _ _ _ _ _ _ | exact ih2 _ _ _ _ | exact spec_IsGraph.mono _ _ _ | exact spec_l4Copy.mono _ _ _ | exact LeO.refl _ | exact LeO.none _ | refine LeO.ite ?_ ?_ | refine LeO.bind ?_ (fun _ => ?_)
  ·
   intro y0 y1 y2 y3 y4 y5 y6 y7 y8
   unfold spec_AddAttack.j1
   repeat' with_reducible first | exact ih0 _ _ _ _ _ _ _ _ | exact ih1 _ _ _ _ _ _ _ _ _ | exact ih2 _ _ _ _ | exact spec_IsGraph.mono _ _ _ | exact spec_l4Copy.mono _ _ _ | exact LeO.refl _ | exact LeO.none _ | refine LeO.ite ?_ ?_ | refine LeO.bind ?_ (fun _ => ?_)
  ·
   intro y0 y1 y2 y3
   unfold spec_AddAttack.j2
   repeat' with_reducible first | exact ih0 _ _ _ _ _ _ _ _ | exact ih1 _ _ _ _ _ _ _ _ _ | exact ih2 _ _ _ _ | exact spec_IsGraph.mono _ _ _ | exact spec_l4Copy.mono _ _ _ | exact LeO.refl _ | exact LeO.none _ | refine LeO.ite ?_ ?_ | refine LeO.bind ?_ (fun _ => ?_)
theorem spec_AddAttack.mono : ∀ a0 a1 a2 a3 k, LeO (spec_AddAttack.f k a0 a1 a2 a3) (spec_AddAttack.f (k + 1) a0 a1 a2 a3) := by
 intro a0 a1 a2 a3 k
 obtain ⟨ih0, ih1, ih2⟩ := spec_AddAttack.mono_l k
 unfold spec_AddAttack.f
 repeat' with_reducible first | exact ih0 _ _ _ _ _ _ _ _ | exact ih1 _ _ _ _ _ _ _ _ _ | exact ih2 _ _ _ _ | exact spec_IsGraph.mono _ _ _ | exact spec_l4Copy.mono _ _ _ | exact LeO.refl _ | exact LeO.none _ | refine LeO.ite ?_ ?_ | refine LeO.bind ?_ (fun _ => ?_)
def spec_AddAttack.T10 : Bool × List (List Nat × List Nat) := (true, [([], []), ([0], [0]), ([], []), ([], []), ([2, 3], [2, 3]), ([4], [4]), ([1, 5, 4], [1, 5]), ([0, 1, 2, 3, 4, 5, 6], []), ([7, 6, 6, 0, 1, 2, 3, 4, 5, 6], [6, 7])])
def spec_AddAttack.B10 : List Nat := [0, 1, 0, 0, 12, 28, 63, 127, 255]
theorem spec_AddAttack.tab10 : rtab .any (opsOf Try.f24 10) = spec_AddAttack.T10 := by kernel_rfl
theorem spec_AddAttack.bits10 : waitsOk spec_AddAttack.T10.2 spec_AddAttack.B10 = true := by kernel_rfl
set_option maxHeartbeats 8000000 in
set_option maxRecDepth 100000 in
theorem spec_AddAttack.calls (k : Nat) (a0_0 : Int) (A0_1 : Option Addr) (c0_1 : Nat) (l0_1 : List (List Int)) (a1 : Int) (a2 : Int) (r1 : Int) (r2 : List (List Int)) (r3 : Bool) (w : World) (hr0_1 : Kd.C (Kd.slice 3 (Kd.int .i64)) w A0_1 l0_1.length l0_1) (hc0_1 : l0_1.length ≤ c0_1) (h : spec_AddAttack.f k a0_0 l0_1 a1 a2 = some (r1, r2, r3)) :
  Calls Try.prog 24 #[.agg #[.int .i64 a0_0, .slice A0_1 l0_1.length c0_1], .int .i64 a1, .int .i64 a2] w fun e w' => ∃ v1_ : Value, e = .returned (.tuple #[.agg #[.int .i64 r1, v1_], .bool r3]) ∧ Kd.S (Kd.slice 3 (Kd.int .i64)) 25 w' w.heap.size (fun _ => True) v1_ r2 ∧ Below w.heap.size w w' := by
 have hu28 := Try.underlying28
 have HR0_1 := Aside0.mk hr0_1
 have HC0_1 := Aside0.mk hc0_1
 clear hr0_1 hc0_1
 have HB := Aside0.mk (Below.refl w.heap.size w)
 have H : (spec_AddAttack.l0 k a1 a2 false 0 a0_0 l0_1 a0_0 ([] : List (List Int))) = some (r1, r2, r3) := h
 clear h
 have H' := Aside0.mk H
 clear H
 go_enter Try.func24, Try.ntmps24
 go_wp2_with (first | ((with_reducible refine gate_dst (N := 3) rfl ?_); refine box_event ?hg (N := 3) ?hd (cs := #[.int .i64 a0_0, .slice A0_1 l0_1.length c0_1]) (t := 28) ?hr ?_; (case hd => rfl); (case hg => rfl); (case hr => first | (go_simp; done) | (go_simp; rfl)); intro gb160 hg w4 hbox hb; have n0_ := Aside0.mk (below_step (mB HB.out) hb); have n1_ := Aside0.mk (hbox); have n2_ := Aside0.mk ((by rw [hg]; exact (below_size (mB HB.out)) : w.heap.size ≤ gb160)); have n3_ := Aside0.mk ((by rw [hg]; exact (below_size (mB HB.out)) : w.heap.size ≤ gb160)); clear HB; have HB := n0_; have BK160 := n1_; have GW160 := n2_; have GE160 := n3_; clear n0_ n1_ n2_ n3_; clear hb hbox hg) | ((with_reducible refine gate_dst (N := 6) rfl ?_); refine box_event ?hg (N := 6) ?hd (cs := #[.int .i64 0, .slice none 0 0]) (t := 28) ?hr ?_; (case hd => rfl); (case hg => rfl); (case hr => first | (go_simp; done) | (go_simp; rfl)); intro gb161 hg w5 hbox hb; have n0_ := Aside0.mk (blk_below (g := gb160) (o := .cells #[.int .i64 a0_0, .slice A0_1 l0_1.length c0_1] 28 (0, 0)) ((mK (BK160.out))) hb); have n1_ := Aside0.mk (below_step mG hb); have n2_ := Aside0.mk (hbox); have n3_ := Aside0.mk ((by rw [hg]; exact (below_size mG) : w.heap.size ≤ gb161)); have n4_ := Aside0.mk ((by rw [hg]; exact (below_size mG) : w.heap.size ≤ gb161)); have n5_ := Aside0.mk ((by rw [hg]; exact Nat.ne_of_lt (blk_lt (g := gb160) (o := .cells #[.int .i64 a0_0, .slice A0_1 l0_1.length c0_1] 28 (0, 0)) ((mK (BK160.out)))) : gb160 ≠ gb161)); have n6_ := Aside0.mk ((by rw [hg]; exact Nat.ne_of_gt (blk_lt (g := gb160) (o := .cells #[.int .i64 a0_0, .slice A0_1 l0_1.length c0_1] 28 (0, 0)) ((mK (BK160.out)))) : gb161 ≠ gb160)); clear BK160 HB; have BK160 := n0_; have HB := n1_; have BK161 := n2_; have GW161 := n3_; have GE161 := n4_; have NB160_161 := n5_; have NB161_160 := n6_; clear n0_ n1_ n2_ n3_ n4_ n5_ n6_; clear hb hbox hg; have hnb6 := NB160_161.out; have hnc6 := NB161_160.out; have hcz7_0 : w5.cell? ⟨gb160, 0, none⟩ = some (.int .i64 a0_0) := (blk_cell BK160.out 0).trans rfl; have hcz7_1 : w5.cell? ⟨gb160, 1, none⟩ = some (.slice A0_1 l0_1.length c0_1) := (blk_cell BK160.out 1).trans rfl; have hfz7_0 := blk_frozen BK160.out 0; have hfz7_1 := blk_frozen BK160.out 1) | ((with_reducible refine gate_dst (N := 8) rfl ?_); refine box_event ?hg (N := 8) ?hd (cs := #[.int .i64 0, .slice none 0 0]) (t := 28) ?hr ?_; (case hd => rfl); (case hg => rfl); (case hr => first | (go_simp; done) | (go_simp; rfl)); intro gb162 hg w8 hbox hb; have n0_ := Aside0.mk (blk_below (g := gb160) (o := .cells #[.int .i64 a0_0, .slice A0_1 l0_1.length c0_1] 28 (0, 0)) ((mK (BK160.out))) hb); have n1_ := Aside0.mk (blk_below (g := gb161) (o := .cells #[.int .i64 0, .slice none 0 0] 28 (0, 0)) ((mK (BK161.out))) hb); have n2_ := Aside0.mk (below_step mG hb); have n3_ := Aside0.mk (hbox); have n4_ := Aside0.mk ((by rw [hg]; exact (below_size mG) : w.heap.size ≤ gb162)); have n5_ := Aside0.mk ((by rw [hg]; exact (below_size mG) : w.heap.size ≤ gb162)); have n6_ := Aside0.mk ((by rw [hg]; exact Nat.ne_of_lt (blk_lt (g := gb160) (o := .cells #[.int .i64 a0_0, .slice A0_1 l0_1.length c0_1] 28 (0, 0)) ((mK (BK160.out)))) : gb160 ≠ gb162)); have n7_ := Aside0.mk ((by rw [hg]; exact Nat.ne_of_gt (blk_lt (g := gb160) (o := .cells #[.int .i64 a0_0, .slice A0_1 l0_1.length c0_1] 28 (0, 0)) ((mK (BK160.out)))) : gb162 ≠ gb160)); have n8_ := Aside0.mk ((by rw [hg]; exact Nat.ne_of_lt (blk_lt (g := gb161) (o := .cells #[.int .i64 0, .slice none 0 0] 28 (0, 0)) ((mK (BK161.out)))) : gb161 ≠ gb162)); have n9_ := Aside0.mk ((by rw [hg]; exact Nat.ne_of_gt (blk_lt (g := gb161) (o := .cells #[.int .i64 0, .slice none 0 0] 28 (0, 0)) ((mK (BK161.out)))) : gb162 ≠ gb161)); clear BK160 BK161 HB; have BK160 := n0_; have BK161 := n1_; have HB := n2_; have BK162 := n3_; have GW162 := n4_; have GE162 := n5_; have NB160_162 := n6_; have NB162_160 := n7_; have NB161_162 := n8_; have NB162_161 := n9_; clear n0_ n1_ n2_ n3_ n4_ n5_ n6_ n7_ n8_ n9_; clear hb hbox hg; have hnb9 := NB162_160.out; have hnc9 := NB160_162.out; have hnb10 := NB162_161.out; have hnc10 := NB161_162.out; have hcz11_0 : w8.cell? ⟨gb162, 0, none⟩ = some (.int .i64 0) := (blk_cell BK162.out 0).trans rfl; have hcz11_1 : w8.cell? ⟨gb162, 1, none⟩ = some (.slice none 0 0) := (blk_cell BK162.out 1).trans rfl; have hfz11_0 := blk_frozen BK162.out 0; have hfz11_1 := blk_frozen BK162.out 1))
 go_loopg [9, 10] k (fun kq v9 v10 w' => ∃ (x9_1 : Bool) (x10_1 : Int) (x163001_1 : List (List Int)) (u163001 : Value), v9 = .bool x9_1 ∧ v10 = .int .i64 x10_1 ∧ Aside0 (spec_AddAttack.l0 kq a1 a2 x9_1 x10_1 a0_0 l0_1 a0_0 x163001_1 = some (r1, r2, r3)) ∧ Aside0 (kq ≤ k) ∧ Aside0 (Kd.S (Kd.slice 3 (Kd.int .i64)) 25 w' w.heap.size (fun _ => True) u163001 x163001_1) ∧ Aside0 (w'.heap[gb160]? = some (.cells #[.int .i64 a0_0, (.slice A0_1 l0_1.length c0_1)] 28 (0, 0))) ∧ Aside0 (w'.heap[gb161]? = some (.cells #[.int .i64 0, (.slice none 0 0)] 28 (0, 0))) ∧ Aside0 (w'.heap[gb162]? = some (.cells #[.int .i64 a0_0, u163001] 28 (0, 0))) ∧ Aside0 (Below w.heap.size w w'))
 case atStart => exact ⟨(false), (0), (([] : List (List Int))), (.slice none 0 0), mF, mF, H', ⟨Nat.le_refl _⟩, ⟨by first | exact Kd.S_nil _ _ _ _ _ | exact Kd.N_nil _ _ _ _ _ | exact Kd.V_nil _ _ _ _ _ | exact Kd.Q_nil _ _ _ _ _ | exact Kd.R_nil _ _ _ _ _⟩, ⟨by refine pK ?_; refine blk_far ?_ NB160_162.out _; refine pK ?_; refine blk_far ?_ NB160_162.out _; refine pK ?_; exact BK160.out⟩, ⟨by refine pK ?_; refine blk_far ?_ NB161_162.out _; refine pK ?_; refine blk_far ?_ NB161_162.out _; refine pK ?_; exact BK161.out⟩, ⟨by refine pK ?_; refine blk_put (cs := #[.int .i64 a0_0, .slice none 0 0]) ?_ 1 _ rfl; refine pK ?_; refine blk_put (cs := #[.int .i64 0, .slice none 0 0]) ?_ 0 _ rfl; refine pK ?_; exact BK162.out⟩, ⟨mG⟩⟩
 case round =>
  clear H'
  (try clear hcz11_0); (try clear hcz11_1); (try clear hcz7_0); (try clear hcz7_1); (try clear hfz11_0); (try clear hfz11_1); (try clear hfz7_0); (try clear hfz7_1)
  obtain ⟨x9_1, x10_1, x163001_1, u163001, rfl, rfl, HA, HK1, HO_163001, BK160, BK161, BK162, HB⟩ := hrel
  cases gk with
  | zero => exact absurd HA.out (by simp [spec_AddAttack.l0])
  | succ k1 =>
   have H := HA.out
   clear HA
   simp only [spec_AddAttack.l0] at H
   have HC12 := Aside0.mk H
   clear H
   go_upto_region 4 with (fail)
   go_cut [23] (fun v23 wc => ∃ (kq : Nat) (x23_11 : Bool), v23 = .bool x23_11 ∧ Aside0 (spec_AddAttack.j1 kq a1 a2 x9_1 x10_1 x23_11 a0_0 l0_1 a0_0 x163001_1 = some (r1, r2, r3)) ∧ Aside0 (kq ≤ k1) ∧ Aside0 (Kd.S (Kd.slice 3 (Kd.int .i64)) 25 wc w.heap.size (fun _ => True) u163001 x163001_1) ∧ Aside0 (wc.heap[gb160]? = some (.cells #[.int .i64 a0_0, (.slice A0_1 l0_1.length c0_1)] 28 (0, 0))) ∧ Aside0 (wc.heap[gb161]? = some (.cells #[.int .i64 0, (.slice none 0 0)] 28 (0, 0))) ∧ Aside0 (wc.heap[gb162]? = some (.cells #[.int .i64 a0_0, u163001] 28 (0, 0))) ∧ Aside0 (Below w.heap.size w wc))
   case first =>
    have H := HC12.out
    clear HC12
    by_cases c13 : x10_1 < (l0_1.length : Int)
    rotate_left
    ·
     rw [if_neg c13] at H
     have c13b0 : decide (x10_1 < (l0_1.length : Int)) = false := decide_eq_false c13
     clear c13
     (first | rw [c13b0] | (simp only [i64_w, i32_w]; rw [c13b0]) | skip)
     have H' := Aside0.mk H
     clear H
     have hnb19 := NB160_161.out
     have hnc19 := NB161_160.out
     have hnb20 := NB160_162.out
     have hnc20 := NB162_160.out
     have hcz21_0 : wr.cell? ⟨gb160, 0, none⟩ = some (.int .i64 a0_0) := (blk_cell BK160.out 0).trans rfl
     have hcz21_1 : wr.cell? ⟨gb160, 1, none⟩ = some (.slice A0_1 l0_1.length c0_1) := (blk_cell BK160.out 1).trans rfl
     have hfz21_0 := blk_frozen BK160.out 0
     have hfz21_1 := blk_frozen BK160.out 1
     go_wp2
     go_meet
     case rel => exact ⟨_, (false), mF, H', ⟨by have := HK1.out; first | omega | exact Nat.le_refl _⟩, ⟨mS HO_163001.out⟩, ⟨(mK (BK160.out))⟩, ⟨(mK (BK161.out))⟩, ⟨(mK (BK162.out))⟩, ⟨mG⟩⟩
    rw [if_pos c13] at H
    have c13b0 : decide (x10_1 < (l0_1.length : Int)) = true := decide_eq_true c13
    clear c13
    (first | rw [c13b0] | (simp only [i64_w, i32_w]; rw [c13b0]) | skip)
    replace H := Option.bind_eq_some_iff.mp H
    obtain ⟨t163, A140, H⟩ := H
    have A14 := Aside0.mk A140
    clear A140
    have H' := Aside0.mk H
    clear H
    have hnb15 := NB160_161.out
    have hnc15 := NB161_160.out
    have hnb16 := NB160_162.out
    have hnc16 := NB162_160.out
    have hcz17_0 : wr.cell? ⟨gb160, 0, none⟩ = some (.int .i64 a0_0) := (blk_cell BK160.out 0).trans rfl
    have hcz17_1 : wr.cell? ⟨gb160, 1, none⟩ = some (.slice A0_1 l0_1.length c0_1) := (blk_cell BK160.out 1).trans rfl
    have hfz17_0 := blk_frozen BK160.out 0
    have hfz17_1 := blk_frozen BK160.out 1
    go_wp2_with (first | (go_at_call 28; (with_reducible refine (spec_IsGraph.calls k1 a0_0 _ _ l0_1 t163 _ ?side1 ?side2 A14.out).mono ?_); (case side1 => exact mC (Kd.C_below HR0_1.out HB.out)); (case side2 => exact HC0_1.out); rintro e w18 ⟨rfl, hb⟩; have n0_ := Aside0.mk (Kd.S_below (mS HO_163001.out) hb); have n1_ := Aside0.mk (blk_below (g := gb160) (o := .cells #[.int .i64 a0_0, .slice A0_1 l0_1.length c0_1] 28 (0, 0)) ((mK (BK160.out))) hb); have n2_ := Aside0.mk (blk_below (g := gb161) (o := .cells #[.int .i64 0, .slice none 0 0] 28 (0, 0)) ((mK (BK161.out))) hb); have n3_ := Aside0.mk (blk_below (g := gb162) (o := .cells #[.int .i64 a0_0, u163001] 28 (0, 0)) ((mK (BK162.out))) hb); have n4_ := Aside0.mk (below_step mG hb); clear HO_163001 BK160 BK161 BK162 HB; have HO_163001 := n0_; have BK160 := n1_; have BK161 := n2_; have BK162 := n3_; have HB := n4_; clear n0_ n1_ n2_ n3_ n4_; (try clear hb)))
    go_meet
    case rel => exact ⟨_, (t163), mF, H', ⟨by have := HK1.out; first | omega | exact Nat.le_refl _⟩, ⟨mS HO_163001.out⟩, ⟨(mK (BK160.out))⟩, ⟨(mK (BK161.out))⟩, ⟨(mK (BK162.out))⟩, ⟨mG⟩⟩
   case rest =>
    clear HC12; (try clear c13b0); (try clear hcz11_0); (try clear hcz11_1); (try clear hcz17_0); (try clear hcz17_1); (try clear hcz21_0); (try clear hcz21_1); (try clear hcz7_0); (try clear hcz7_1); (try clear hfz11_0); (try clear hfz11_1); (try clear hfz17_0); (try clear hfz17_1); (try clear hfz21_0); (try clear hfz21_1); (try clear hfz7_0); (try clear hfz7_1)
    obtain ⟨kq, x23_11, rfl, HA, HJ11, HO_163001, BK160, BK161, BK162, HB⟩ := hcut
    cases kq with
    | zero => exact absurd HA.out (by simp [spec_AddAttack.j1])
    | succ kj11 =>
     have H := HA.out
     clear HA
     simp only [spec_AddAttack.j1] at H
     by_cases c22 : x23_11 = true
     rotate_left
     ·
      replace c22 := Bool.eq_false_iff.mpr c22
      subst c22
      rw [if_neg (show ¬ (false = true) by decide)] at H
      have HC116 := Aside0.mk H
      clear H
      go_upto_if 71 with (fail)
      go_cut [] (fun wc => ∃ (kq : Nat) (x163001_115 : List (List Int)) (u163001 : Value), Aside0 (spec_AddAttack.j2 kq a0_0 l0_1 a0_0 x163001_115 = some (r1, r2, r3)) ∧ Aside0 (kq ≤ kj11) ∧ Aside0 (Kd.S (Kd.slice 3 (Kd.int .i64)) 25 wc w.heap.size (fun _ => True) u163001 x163001_115) ∧ Aside0 (wc.heap[gb160]? = some (.cells #[.int .i64 a0_0, (.slice A0_1 l0_1.length c0_1)] 28 (0, 0))) ∧ Aside0 (wc.heap[gb161]? = some (.cells #[.int .i64 0, (.slice none 0 0)] 28 (0, 0))) ∧ Aside0 (wc.heap[gb162]? = some (.cells #[.int .i64 a0_0, u163001] 28 (0, 0))) ∧ Aside0 (Below w.heap.size w wc))
      case first =>
       have H := HC116.out
       clear HC116
       by_cases c117 : x9_1 = true
       ·
        subst c117
        rw [if_pos rfl] at H
        have H' := Aside0.mk H
        clear H
        go_wp2
        go_meet
        case rel => exact ⟨_, (x163001_1), (u163001), H', ⟨by have := HK1.out; have := HJ11.out; first | omega | exact Nat.le_refl _⟩, ⟨mS HO_163001.out⟩, ⟨(mK (BK160.out))⟩, ⟨(mK (BK161.out))⟩, ⟨(mK (BK162.out))⟩, ⟨mG⟩⟩
       replace c117 := Bool.eq_false_iff.mpr c117
       subst c117
       rw [if_neg (show ¬ (false = true) by decide)] at H
       obtain ⟨y225, hy225⟩ : ∃ y_ : List Int, y_ = (([a1, a2] : List Int)) := ⟨_, rfl⟩
       replace H : (if x163001_1.length < 5864062014805 then (spec_AddAttack.j2 kj11 a0_0 l0_1 a0_0 (x163001_1 ++ [y225])) else (none)) = some (r1, r2, r3) := by first | (rw [hy225]; with_reducible exact H) | (have H2_ := (Option.bind_some _ _).symm.trans H; rw [hy225]; with_reducible exact H2_) | (have H2_ := (Option.bind_some _ _).symm.trans H; with_reducible exact H2_) | with_reducible exact H | (rw [hy225]; exact H) | exact H
       have Ny225 := Aside0.mk hy225
       clear hy225
       by_cases c118 : x163001_1.length < 5864062014805
       rotate_left
       ·
        rw [if_neg c118] at H
        exact absurd H (by simp)
       rw [if_pos c118] at H
       have LMc118 := Aside0.mk c118
       clear c118
       obtain ⟨y228, hy228⟩ : ∃ y_ : List (List Int), y_ = (x163001_1 ++ [y225]) := ⟨_, rfl⟩
       replace H : (spec_AddAttack.j2 kj11 a0_0 l0_1 a0_0 y228) = some (r1, r2, r3) := by first | (rw [hy228]; with_reducible exact H) | (have H2_ := (Option.bind_some _ _).symm.trans H; rw [hy228]; with_reducible exact H2_) | (have H2_ := (Option.bind_some _ _).symm.trans H; with_reducible exact H2_) | with_reducible exact H | (rw [hy228]; exact H) | exact H
       have Ny228 := Aside0.mk hy228
       clear hy228
       have H' := Aside0.mk H
       clear H
       have hnb119 := NB162_160.out
       have hnc119 := NB160_162.out
       have hnb120 := NB162_161.out
       have hnc120 := NB161_162.out
       have hcz121_0 : wc.cell? ⟨gb162, 0, none⟩ = some (.int .i64 a0_0) := (blk_cell BK162.out 0).trans rfl
       have hcz121_1 : wc.cell? ⟨gb162, 1, none⟩ = some (u163001) := (blk_cell BK162.out 1).trans rfl
       have hfz121_0 := blk_frozen BK162.out 0
       have hfz121_1 := blk_frozen BK162.out 1
       go_wp2_with (first | ((with_reducible refine gate_dst (N := 76) rfl ?_); refine Kd.R_lit (Kd.int .i64) _ 3 ?hg (N := 76) ?hd (xs := ([a1, a2] : List Int)) (inner := [.int .i64 a1, .int .i64 a2]) (ok := fun _ => True) (okp := fun _ => True) ?hr ?hp (fun _ hk => hk) trivial (Below.refl _ _) (Nat.le_refl _) (by simp) ?_; (case hd => rfl); (case hg => rfl); (case hr => first | (go_simp; done) | (go_simp; rfl)); (case hp => exact (Reps.one (show Kd.M (Kd.int .i64) _ _ _ a1 [.int .i64 a1] from rfl) (Reps.one (show Kd.M (Kd.int .i64) _ _ _ a2 [.int .i64 a2] from rfl) (Reps.none _ _)))); intro v226 w122 ho123 hb hg_ hnew_; clear hg_ hnew_; (first | rw [← Ny225.out] at ho123 | (simp only [Int.reduceToNat] at ho123; rw [← Ny225.out] at ho123)); have n0_ := Aside0.mk (Kd.S_elder' (mS HO_163001.out) (Kd.R_base ho123) hb); have n1_ := Aside0.mk (Kd.R_lower ho123 (below_size mG)); have n2_ := Aside0.mk (blk_below (g := gb160) (o := .cells #[.int .i64 a0_0, .slice A0_1 l0_1.length c0_1] 28 (0, 0)) ((mK (BK160.out))) hb); have n3_ := Aside0.mk (blk_below (g := gb161) (o := .cells #[.int .i64 0, .slice none 0 0] 28 (0, 0)) ((mK (BK161.out))) hb); have n4_ := Aside0.mk (blk_below (g := gb162) (o := .cells #[.int .i64 a0_0, u163001] 28 (0, 0)) ((mK (BK162.out))) hb); have n5_ := Aside0.mk (below_step mG hb); clear HO_163001 BK160 BK161 BK162 HB; have HO_163001 := n0_; have HO227 := n1_; have BK160 := n2_; have BK161 := n3_; have BK162 := n4_; have HB := n5_; clear n0_ n1_ n2_ n3_ n4_ n5_; clear hb ho123; obtain ⟨Ao125, co125, eo125⟩ := Kd.R_slice HO227.out; subst eo125) | ((with_reducible refine gate_builtin (b := .append) (xs := #[.tmp 73, .tmp 77]) rfl ?_); at_builtin; refine Kd.S_append (Kd.slice 3 (Kd.int .i64)) (w0 := w) w.heap.size rfl (.tmp 73) (.tmp 77) 22 25 (.slice none 0 0) 24 rfl Try.underlying22 info25 rfl (by decide) (by omega) u163001 x163001_1 y225 [.slice Ao125 y225.length co125] (fun _ => True) (fun k_ => some k_ = (.slice Ao125 y225.length co125 : Value).ownBlock) rfl rfl ?aP (fun k_ hk_ => ((Kd.R_mono (ok' := fun k_ => ((fun _ => True)) k_ ∧ some k_ ≠ (u163001 : Value).ownBlock) (Kd.R_apart' (HO227.out) (Kd.S_typed HO_163001.out) (by decide)) (fun k_ hk => ⟨trivial, hk.2⟩))).1 k_ hk_.symm) ?aF ?aO ?aB ?aS ?aL ?_; (case aP => exact Kd.M_row (Kd.R_mono (Kd.R_tight rfl (Kd.R_mono (ok' := fun k_ => ((fun _ => True)) k_ ∧ some k_ ≠ (u163001 : Value).ownBlock) (Kd.R_apart' (HO227.out) (Kd.S_typed HO_163001.out) (by decide)) (fun k_ hk => ⟨trivial, hk.2⟩))) (fun _ h_ => h_))); (case aB => exact mG); (case aF => exact (fun _ _ => trivial)); (case aO => exact (mS (Kd.S_mono HO_163001.out (fun k_ hk => ⟨trivial, fun e_ => hk.2 e_⟩)))); (case aS => exact (below_size mG)); (case aL => have := LMc118.out; omega); intro v229 w124 ho hb hg hat; rw [← Ny228.out] at ho; have n0_ := Aside0.mk (blk_grown (g := gb160) (o := .cells #[.int .i64 a0_0, .slice A0_1 l0_1.length c0_1] 28 (0, 0)) ((mK (BK160.out))) hg (Kd.S_ne HO_163001.out BK160.out (by decide))); have n1_ := Aside0.mk (blk_grown (g := gb161) (o := .cells #[.int .i64 0, .slice none 0 0] 28 (0, 0)) ((mK (BK161.out))) hg (Kd.S_ne HO_163001.out BK161.out (by decide))); have n2_ := Aside0.mk (blk_grown (g := gb162) (o := .cells #[.int .i64 a0_0, u163001] 28 (0, 0)) ((mK (BK162.out))) hg (Kd.S_ne HO_163001.out BK162.out (by decide))); have n3_ := Aside0.mk (hb); have n4_ := Aside0.mk (ho); clear BK160 BK161 BK162 HB HO_163001 HO227; have BK160 := n0_; have BK161 := n1_; have BK162 := n2_; have HB := n3_; have HO230 := n4_; clear n0_ n1_ n2_ n3_ n4_; clear ho hb hg hat; obtain ⟨Ao126, co126, eo126⟩ := Kd.S_slice HO230.out; subst eo126; have hcz127_0 : w124.cell? ⟨gb162, 0, none⟩ = some (.int .i64 a0_0) := (blk_cell BK162.out 0).trans rfl; have hcz127_1 : w124.cell? ⟨gb162, 1, none⟩ = some (u163001) := (blk_cell BK162.out 1).trans rfl; have hfz127_0 := blk_frozen BK162.out 0; have hfz127_1 := blk_frozen BK162.out 1))
       go_meet
       case rel => exact ⟨_, (y228), (.slice Ao126 y228.length co126), H', ⟨by have := HK1.out; have := HJ11.out; first | omega | exact Nat.le_refl _⟩, ⟨by (with_reducible repeat (first | apply Kd.S_alloc | apply Kd.S_drewN | apply Kd.S_drew)); exact Kd.S_mono (Kd.S_far (p := ⟨gb162, 1, none⟩) (Kd.S_types HO230.out BK162.out (by decide)) (fun _ hk => hk.2) (.slice Ao126 y228.length co126)) (fun _ hk => trivial)⟩, ⟨by refine pK ?_; refine blk_far ?_ NB160_162.out _; refine pK ?_; exact BK160.out⟩, ⟨by refine pK ?_; refine blk_far ?_ NB161_162.out _; refine pK ?_; exact BK161.out⟩, ⟨by refine pK ?_; refine blk_put (cs := #[.int .i64 a0_0, u163001]) ?_ 1 _ rfl; refine pK ?_; exact BK162.out⟩, ⟨mG⟩⟩
      case rest =>
       clear HC116; (try clear hx1); (try clear qi1); (try clear hx16); (try clear hx17); (try clear qi17); (try clear hx19); (try clear qi19); (try clear c64b0); (try clear c64b1); (try clear c66b0); (try clear hcz107_0); (try clear hcz107_1); (try clear hcz121_0); (try clear hcz121_1); (try clear hcz127_0); (try clear hcz127_1); (try clear hcz94_0); (try clear hcz94_1); (try clear hfz107_0); (try clear hfz107_1); (try clear hfz121_0); (try clear hfz121_1); (try clear hfz127_0); (try clear hfz127_1); (try clear hfz94_0); (try clear hfz94_1); (try clear hx164_0); (try clear hx174_0); (try clear hx190_0); (try clear hx191_0)
       obtain ⟨kq, x163001_115, u163001, HA, HJ115, HO_163001, BK160, BK161, BK162, HB⟩ := hcut
       cases kq with
       | zero => exact absurd HA.out (by simp [spec_AddAttack.j2])
       | succ kj115 =>
        have H := HA.out
        clear HA
        simp only [spec_AddAttack.j2] at H
        replace H := Option.bind_eq_some_iff.mp H
        obtain ⟨t231, A1280, H⟩ := H
        have A128 := Aside0.mk A1280
        clear A1280
        by_cases c129 : t231 = true
        rotate_left
        ·
         replace c129 := Bool.eq_false_iff.mpr c129
         subst c129
         rw [if_neg (show ¬ (false = true) by decide)] at H
         replace H := Option.bind_eq_some_iff.mp H
         obtain ⟨⟨t237, t238⟩, A1550, H⟩ := H
         try dsimp only at H
         have A155 := Aside0.mk A1550
         clear A1550
         simp only [Option.some.injEq, Prod.mk.injEq] at H
         obtain ⟨rfl, rfl, rfl⟩ := H
         have hnb156 := NB160_161.out
         have hnc156 := NB161_160.out
         have hnb157 := NB160_162.out
         have hnc157 := NB162_160.out
         have hcz158_0 : wc.cell? ⟨gb160, 0, none⟩ = some (.int .i64 a0_0) := (blk_cell BK160.out 0).trans rfl
         have hcz158_1 : wc.cell? ⟨gb160, 1, none⟩ = some (.slice A0_1 l0_1.length c0_1) := (blk_cell BK160.out 1).trans rfl
         have hfz158_0 := blk_frozen BK160.out 0
         have hfz158_1 := blk_frozen BK160.out 1
         go_wp2_with (first | ((with_reducible refine gate_callee (f := 28) rfl ?_); refine goesL_ (some 81) rfl rfl Try.func28 (by kernel_rfl) rfl #[.agg #[.int .i64 a0_0, .slice A0_1 l0_1.length c0_1]] rfl mA ?_; (with_reducible refine (spec_IsGraph.calls kj115 a0_0 _ _ l0_1 false _ ?side1 ?side2 A128.out).mono ?_); (case side1 => exact mC (Kd.C_below HR0_1.out HB.out)); (case side2 => exact HC0_1.out); rintro e w159 ⟨rfl, hb⟩; refine ⟨_, rfl, ?_⟩; have n0_ := Aside0.mk (Kd.S_below (mS HO_163001.out) hb); have n1_ := Aside0.mk (blk_below (g := gb160) (o := .cells #[.int .i64 a0_0, .slice A0_1 l0_1.length c0_1] 28 (0, 0)) ((mK (BK160.out))) hb); have n2_ := Aside0.mk (blk_below (g := gb161) (o := .cells #[.int .i64 0, .slice none 0 0] 28 (0, 0)) ((mK (BK161.out))) hb); have n3_ := Aside0.mk (blk_below (g := gb162) (o := .cells #[.int .i64 a0_0, u163001] 28 (0, 0)) ((mK (BK162.out))) hb); have n4_ := Aside0.mk (below_step mG hb); clear HO_163001 BK160 BK161 BK162 HB; have HO_163001 := n0_; have BK160 := n1_; have BK161 := n2_; have BK162 := n3_; have HB := n4_; clear n0_ n1_ n2_ n3_ n4_; (try clear hb); have hcz160_0 : w159.cell? ⟨gb160, 0, none⟩ = some (.int .i64 a0_0) := (blk_cell BK160.out 0).trans rfl; have hcz160_1 : w159.cell? ⟨gb160, 1, none⟩ = some (.slice A0_1 l0_1.length c0_1) := (blk_cell BK160.out 1).trans rfl; have hfz160_0 := blk_frozen BK160.out 0; have hfz160_1 := blk_frozen BK160.out 1) | ((with_reducible refine gate_callee (f := 36) rfl ?_); refine goesL_ (some 89) rfl rfl Try.func36 (by kernel_rfl) rfl #[.agg #[.int .i64 a0_0, .slice A0_1 l0_1.length c0_1]] rfl mA ?_; (with_reducible refine (spec_l4Copy.calls kj115 a0_0 _ _ l0_1 t237 t238 _ ?side1 ?side2 A155.out).mono ?_); (case side1 => exact mC (Kd.C_below HR0_1.out HB.out)); (case side2 => exact HC0_1.out); rintro e w161 ⟨v239, rfl, ho0, hb⟩; refine ⟨_, rfl, ?_⟩; have n0_ := Aside0.mk (Kd.S_elder' (mS HO_163001.out) (Kd.S_base ho0) hb); have n1_ := Aside0.mk (Kd.S_lower (Kd.S_new' ho0 (Kd.S_lt (mS HO_163001.out))) (below_size mG)); have n2_ := Aside0.mk (blk_below (g := gb160) (o := .cells #[.int .i64 a0_0, .slice A0_1 l0_1.length c0_1] 28 (0, 0)) ((mK (BK160.out))) hb); have n3_ := Aside0.mk (blk_below (g := gb161) (o := .cells #[.int .i64 0, .slice none 0 0] 28 (0, 0)) ((mK (BK161.out))) hb); have n4_ := Aside0.mk (blk_below (g := gb162) (o := .cells #[.int .i64 a0_0, u163001] 28 (0, 0)) ((mK (BK162.out))) hb); have n5_ := Aside0.mk (below_step mG hb); clear HO_163001 BK160 BK161 BK162 HB; have HO_163001 := n0_; have HO240 := n1_; have BK160 := n2_; have BK161 := n3_; have BK162 := n4_; have HB := n5_; clear n0_ n1_ n2_ n3_ n4_ n5_; (try clear hb); (try clear ho0); have hnb162 := NB161_162.out; have hnc162 := NB162_161.out; have hcz163_0 : w161.cell? ⟨gb161, 0, none⟩ = some (.int .i64 0) := (blk_cell BK161.out 0).trans rfl; have hcz163_1 : w161.cell? ⟨gb161, 1, none⟩ = some (.slice none 0 0) := (blk_cell BK161.out 1).trans rfl; have hfz163_0 := blk_frozen BK161.out 0; have hfz163_1 := blk_frozen BK161.out 1; obtain ⟨Ao164, co164, eo164⟩ := Kd.S_slice HO240.out; subst eo164))
         refine bodyPost_ret (results_ct rfl _ _ gb161 28 #[.int .i64 t237, .slice Ao164 t238.length co164] (0, 0) _ rfl (by refine pK ?_; refine blk_put (cs := #[.int .i64 t237, .slice none 0 0]) ?_ 1 _ rfl; refine pK ?_; refine blk_put (cs := #[.int .i64 0, .slice none 0 0]) ?_ 0 _ rfl; refine pK ?_; exact BK161.out) Try.underlying28 rfl (by kernel_rfl)) rfl ?_
         exact ⟨_, mE, by (with_reducible repeat (first | apply Kd.S_alloc | apply Kd.S_drewN | apply Kd.S_drew)); exact Kd.S_mono (Kd.S_far (p := ⟨gb161, 1, none⟩) (Kd.S_far (p := ⟨gb161, 0, none⟩) (Kd.S_types HO240.out BK161.out (by decide)) (fun _ hk => hk.2) (.int .i64 t237)) (fun _ hk => hk.2) (.slice Ao164 t238.length co164)) (fun _ hk => trivial), mG⟩
        subst c129
        rw [if_pos rfl] at H
        replace H := Option.bind_eq_some_iff.mp H
        obtain ⟨t232, A1300, H⟩ := H
        have A130 := Aside0.mk A1300
        clear A1300
        by_cases c131 : t232 = true
        ·
         subst c131
         rw [if_pos rfl] at H
         simp only [Option.some.injEq, Prod.mk.injEq] at H
         obtain ⟨rfl, rfl, rfl⟩ := H
         have hnb132 := NB160_161.out
         have hnc132 := NB161_160.out
         have hnb133 := NB160_162.out
         have hnc133 := NB162_160.out
         have hcz134_0 : wc.cell? ⟨gb160, 0, none⟩ = some (.int .i64 a0_0) := (blk_cell BK160.out 0).trans rfl
         have hcz134_1 : wc.cell? ⟨gb160, 1, none⟩ = some (.slice A0_1 l0_1.length c0_1) := (blk_cell BK160.out 1).trans rfl
         have hfz134_0 := blk_frozen BK160.out 0
         have hfz134_1 := blk_frozen BK160.out 1
         go_wp2_with (first | ((with_reducible refine gate_callee (f := 28) rfl ?_); refine goesL_ (some 81) rfl rfl Try.func28 (by kernel_rfl) rfl #[.agg #[.int .i64 a0_0, .slice A0_1 l0_1.length c0_1]] rfl mA ?_; (with_reducible refine (spec_IsGraph.calls kj115 a0_0 _ _ l0_1 true _ ?side1 ?side2 A128.out).mono ?_); (case side1 => exact mC (Kd.C_below HR0_1.out HB.out)); (case side2 => exact HC0_1.out); rintro e w135 ⟨rfl, hb⟩; refine ⟨_, rfl, ?_⟩; have n0_ := Aside0.mk (Kd.S_below (mS HO_163001.out) hb); have n1_ := Aside0.mk (blk_below (g := gb160) (o := .cells #[.int .i64 a0_0, .slice A0_1 l0_1.length c0_1] 28 (0, 0)) ((mK (BK160.out))) hb); have n2_ := Aside0.mk (blk_below (g := gb161) (o := .cells #[.int .i64 0, .slice none 0 0] 28 (0, 0)) ((mK (BK161.out))) hb); have n3_ := Aside0.mk (blk_below (g := gb162) (o := .cells #[.int .i64 a0_0, u163001] 28 (0, 0)) ((mK (BK162.out))) hb); have n4_ := Aside0.mk (below_step mG hb); clear HO_163001 BK160 BK161 BK162 HB; have HO_163001 := n0_; have BK160 := n1_; have BK161 := n2_; have BK162 := n3_; have HB := n4_; clear n0_ n1_ n2_ n3_ n4_; (try clear hb); have hnb136 := NB162_161.out; have hnc136 := NB161_162.out; have hcz137_0 : w135.cell? ⟨gb162, 0, none⟩ = some (.int .i64 a0_0) := (blk_cell BK162.out 0).trans rfl; have hcz137_1 : w135.cell? ⟨gb162, 1, none⟩ = some (u163001) := (blk_cell BK162.out 1).trans rfl; have hfz137_0 := blk_frozen BK162.out 0; have hfz137_1 := blk_frozen BK162.out 1; obtain ⟨Ao138, co138, eo138⟩ := Kd.S_slice HO_163001.out; subst eo138) | (go_at_call 28; (with_reducible refine (spec_IsGraph.calls kj115 a0_0 _ _ x163001_115 true _ ?side1 ?side2 A130.out).mono ?_); (case side1 => exact mC (Kd.S_reads' HO_163001.out).2.2); (case side2 => exact (Kd.S_reads' HO_163001.out).2.1); rintro e w139 ⟨rfl, hb⟩; have n0_ := Aside0.mk (Kd.S_below (mS HO_163001.out) hb); have n1_ := Aside0.mk (blk_below (g := gb160) (o := .cells #[.int .i64 a0_0, .slice A0_1 l0_1.length c0_1] 28 (0, 0)) ((mK (BK160.out))) hb); have n2_ := Aside0.mk (blk_below (g := gb161) (o := .cells #[.int .i64 0, .slice none 0 0] 28 (0, 0)) ((mK (BK161.out))) hb); have n3_ := Aside0.mk (blk_below (g := gb162) (o := .cells #[.int .i64 a0_0, .slice Ao138 x163001_115.length co138] 28 (0, 0)) ((mK (BK162.out))) hb); have n4_ := Aside0.mk (below_step mG hb); clear HO_163001 BK160 BK161 BK162 HB; have HO_163001 := n0_; have BK160 := n1_; have BK161 := n2_; have BK162 := n3_; have HB := n4_; clear n0_ n1_ n2_ n3_ n4_; (try clear hb); have hcz140_0 : w139.cell? ⟨gb162, 0, none⟩ = some (.int .i64 a0_0) := (blk_cell BK162.out 0).trans rfl; have hcz140_1 : w139.cell? ⟨gb162, 1, none⟩ = some (.slice Ao138 x163001_115.length co138) := (blk_cell BK162.out 1).trans rfl; have hfz140_0 := blk_frozen BK162.out 0; have hfz140_1 := blk_frozen BK162.out 1; have hcz141_0 : w139.cell? ⟨gb161, 0, none⟩ = some (.int .i64 0) := (blk_cell BK161.out 0).trans rfl; have hcz141_1 : w139.cell? ⟨gb161, 1, none⟩ = some (.slice none 0 0) := (blk_cell BK161.out 1).trans rfl; have hfz141_0 := blk_frozen BK161.out 0; have hfz141_1 := blk_frozen BK161.out 1))
         refine bodyPost_ret (results_ct rfl _ _ gb161 28 #[.int .i64 a0_0, .slice Ao138 x163001_115.length co138] (0, 0) _ rfl (by refine pK ?_; refine blk_put (cs := #[.int .i64 a0_0, .slice none 0 0]) ?_ 1 _ rfl; refine pK ?_; refine blk_put (cs := #[.int .i64 0, .slice none 0 0]) ?_ 0 _ rfl; refine pK ?_; exact BK161.out) Try.underlying28 rfl (by kernel_rfl)) rfl ?_
         exact ⟨_, mE, by (with_reducible repeat (first | apply Kd.S_alloc | apply Kd.S_drewN | apply Kd.S_drew)); exact Kd.S_mono (Kd.S_far (p := ⟨gb161, 1, none⟩) (Kd.S_far (p := ⟨gb161, 0, none⟩) (Kd.S_types HO_163001.out BK161.out (by decide)) (fun _ hk => hk.2) (.int .i64 a0_0)) (fun _ hk => hk.2) (.slice Ao138 x163001_115.length co138)) (fun _ hk => trivial), mG⟩
        replace c131 := Bool.eq_false_iff.mpr c131
        subst c131
        rw [if_neg (show ¬ (false = true) by decide)] at H
        replace H := Option.bind_eq_some_iff.mp H
        obtain ⟨⟨t233, t234⟩, A1420, H⟩ := H
        try dsimp only at H
        have A142 := Aside0.mk A1420
        clear A1420
        simp only [Option.some.injEq, Prod.mk.injEq] at H
        obtain ⟨rfl, rfl, rfl⟩ := H
        have hnb143 := NB160_161.out
        have hnc143 := NB161_160.out
        have hnb144 := NB160_162.out
        have hnc144 := NB162_160.out
        have hcz145_0 : wc.cell? ⟨gb160, 0, none⟩ = some (.int .i64 a0_0) := (blk_cell BK160.out 0).trans rfl
        have hcz145_1 : wc.cell? ⟨gb160, 1, none⟩ = some (.slice A0_1 l0_1.length c0_1) := (blk_cell BK160.out 1).trans rfl
        have hfz145_0 := blk_frozen BK160.out 0
        have hfz145_1 := blk_frozen BK160.out 1
        go_wp2_with (first | ((with_reducible refine gate_callee (f := 28) rfl ?_); refine goesL_ (some 81) rfl rfl Try.func28 (by kernel_rfl) rfl #[.agg #[.int .i64 a0_0, .slice A0_1 l0_1.length c0_1]] rfl mA ?_; (with_reducible refine (spec_IsGraph.calls kj115 a0_0 _ _ l0_1 true _ ?side1 ?side2 A128.out).mono ?_); (case side1 => exact mC (Kd.C_below HR0_1.out HB.out)); (case side2 => exact HC0_1.out); rintro e w146 ⟨rfl, hb⟩; refine ⟨_, rfl, ?_⟩; have n0_ := Aside0.mk (Kd.S_below (mS HO_163001.out) hb); have n1_ := Aside0.mk (blk_below (g := gb160) (o := .cells #[.int .i64 a0_0, .slice A0_1 l0_1.length c0_1] 28 (0, 0)) ((mK (BK160.out))) hb); have n2_ := Aside0.mk (blk_below (g := gb161) (o := .cells #[.int .i64 0, .slice none 0 0] 28 (0, 0)) ((mK (BK161.out))) hb); have n3_ := Aside0.mk (blk_below (g := gb162) (o := .cells #[.int .i64 a0_0, u163001] 28 (0, 0)) ((mK (BK162.out))) hb); have n4_ := Aside0.mk (below_step mG hb); clear HO_163001 BK160 BK161 BK162 HB; have HO_163001 := n0_; have BK160 := n1_; have BK161 := n2_; have BK162 := n3_; have HB := n4_; clear n0_ n1_ n2_ n3_ n4_; (try clear hb); have hnb147 := NB162_161.out; have hnc147 := NB161_162.out; have hcz148_0 : w146.cell? ⟨gb162, 0, none⟩ = some (.int .i64 a0_0) := (blk_cell BK162.out 0).trans rfl; have hcz148_1 : w146.cell? ⟨gb162, 1, none⟩ = some (u163001) := (blk_cell BK162.out 1).trans rfl; have hfz148_0 := blk_frozen BK162.out 0; have hfz148_1 := blk_frozen BK162.out 1; obtain ⟨Ao149, co149, eo149⟩ := Kd.S_slice HO_163001.out; subst eo149) | (go_at_call 28; (with_reducible refine (spec_IsGraph.calls kj115 a0_0 _ _ x163001_115 false _ ?side1 ?side2 A130.out).mono ?_); (case side1 => exact mC (Kd.S_reads' HO_163001.out).2.2); (case side2 => exact (Kd.S_reads' HO_163001.out).2.1); rintro e w150 ⟨rfl, hb⟩; have n0_ := Aside0.mk (Kd.S_below (mS HO_163001.out) hb); have n1_ := Aside0.mk (blk_below (g := gb160) (o := .cells #[.int .i64 a0_0, .slice A0_1 l0_1.length c0_1] 28 (0, 0)) ((mK (BK160.out))) hb); have n2_ := Aside0.mk (blk_below (g := gb161) (o := .cells #[.int .i64 0, .slice none 0 0] 28 (0, 0)) ((mK (BK161.out))) hb); have n3_ := Aside0.mk (blk_below (g := gb162) (o := .cells #[.int .i64 a0_0, .slice Ao149 x163001_115.length co149] 28 (0, 0)) ((mK (BK162.out))) hb); have n4_ := Aside0.mk (below_step mG hb); clear HO_163001 BK160 BK161 BK162 HB; have HO_163001 := n0_; have BK160 := n1_; have BK161 := n2_; have BK162 := n3_; have HB := n4_; clear n0_ n1_ n2_ n3_ n4_; (try clear hb); have hcz151_0 : w150.cell? ⟨gb160, 0, none⟩ = some (.int .i64 a0_0) := (blk_cell BK160.out 0).trans rfl; have hcz151_1 : w150.cell? ⟨gb160, 1, none⟩ = some (.slice A0_1 l0_1.length c0_1) := (blk_cell BK160.out 1).trans rfl; have hfz151_0 := blk_frozen BK160.out 0; have hfz151_1 := blk_frozen BK160.out 1) | ((with_reducible refine gate_callee (f := 36) rfl ?_); refine goesL_ (some 89) rfl rfl Try.func36 (by kernel_rfl) rfl #[.agg #[.int .i64 a0_0, .slice A0_1 l0_1.length c0_1]] rfl mA ?_; (with_reducible refine (spec_l4Copy.calls kj115 a0_0 _ _ l0_1 t233 t234 _ ?side1 ?side2 A142.out).mono ?_); (case side1 => exact mC (Kd.C_below HR0_1.out HB.out)); (case side2 => exact HC0_1.out); rintro e w152 ⟨v235, rfl, ho0, hb⟩; refine ⟨_, rfl, ?_⟩; have n0_ := Aside0.mk (Kd.S_elder' (mS HO_163001.out) (Kd.S_base ho0) hb); have n1_ := Aside0.mk (Kd.S_lower (Kd.S_new' ho0 (Kd.S_lt (mS HO_163001.out))) (below_size mG)); have n2_ := Aside0.mk (blk_below (g := gb160) (o := .cells #[.int .i64 a0_0, .slice A0_1 l0_1.length c0_1] 28 (0, 0)) ((mK (BK160.out))) hb); have n3_ := Aside0.mk (blk_below (g := gb161) (o := .cells #[.int .i64 0, .slice none 0 0] 28 (0, 0)) ((mK (BK161.out))) hb); have n4_ := Aside0.mk (blk_below (g := gb162) (o := .cells #[.int .i64 a0_0, .slice Ao149 x163001_115.length co149] 28 (0, 0)) ((mK (BK162.out))) hb); have n5_ := Aside0.mk (below_step mG hb); clear HO_163001 BK160 BK161 BK162 HB; have HO_163001 := n0_; have HO236 := n1_; have BK160 := n2_; have BK161 := n3_; have BK162 := n4_; have HB := n5_; clear n0_ n1_ n2_ n3_ n4_ n5_; (try clear hb); (try clear ho0); have hcz153_0 : w152.cell? ⟨gb161, 0, none⟩ = some (.int .i64 0) := (blk_cell BK161.out 0).trans rfl; have hcz153_1 : w152.cell? ⟨gb161, 1, none⟩ = some (.slice none 0 0) := (blk_cell BK161.out 1).trans rfl; have hfz153_0 := blk_frozen BK161.out 0; have hfz153_1 := blk_frozen BK161.out 1; obtain ⟨Ao154, co154, eo154⟩ := Kd.S_slice HO236.out; subst eo154))
        refine bodyPost_ret (results_ct rfl _ _ gb161 28 #[.int .i64 t233, .slice Ao154 t234.length co154] (0, 0) _ rfl (by refine pK ?_; refine blk_put (cs := #[.int .i64 t233, .slice none 0 0]) ?_ 1 _ rfl; refine pK ?_; refine blk_put (cs := #[.int .i64 0, .slice none 0 0]) ?_ 0 _ rfl; refine pK ?_; exact BK161.out) Try.underlying28 rfl (by kernel_rfl)) rfl ?_
        exact ⟨_, mE, by (with_reducible repeat (first | apply Kd.S_alloc | apply Kd.S_drewN | apply Kd.S_drew)); exact Kd.S_mono (Kd.S_far (p := ⟨gb161, 1, none⟩) (Kd.S_far (p := ⟨gb161, 0, none⟩) (Kd.S_types HO236.out BK161.out (by decide)) (fun _ hk => hk.2) (.int .i64 t233)) (fun _ hk => hk.2) (.slice Ao154 t234.length co154)) (fun _ hk => trivial), mG⟩
     subst c22
     rw [if_pos rfl] at H
     by_cases c23 : 0 ≤ x10_1
     rotate_left
     ·
      rw [if_neg c23] at H
      exact absurd H (by simp)
     rw [if_pos c23] at H
     have c23b0 : decide (0 ≤ x10_1) = true := decide_eq_true c23
     clear c23
     by_cases c24 : x10_1 < (l0_1.length : Int)
     rotate_left
     ·
      rw [if_neg c24] at H
      exact absurd H (by simp)
     rw [if_pos c24] at H
     have c24b0 : decide (x10_1 < (l0_1.length : Int)) = true := decide_eq_true c24
     clear c24
     by_cases c25 : x9_1 = true
     ·
      subst c25
      rw [if_pos rfl] at H
      obtain ⟨y165, hy165⟩ : ∃ y_ : List Int, y_ = (([] : List Int)) := ⟨_, rfl⟩
      replace H : (if y165.length + (rd_L1 l0_1 x10_1).length < 17592186044416 then (if x163001_1.length < 5864062014805 then (spec_AddAttack.l0 kj11 a1 a2 true (wrap64 (x10_1 + 1)) a0_0 l0_1 a0_0 (x163001_1 ++ [(y165 ++ (rd_L1 l0_1 x10_1))])) else (none)) else (none)) = some (r1, r2, r3) := by first | (rw [hy165]; with_reducible exact H) | (have H2_ := (Option.bind_some _ _).symm.trans H; rw [hy165]; with_reducible exact H2_) | (have H2_ := (Option.bind_some _ _).symm.trans H; with_reducible exact H2_) | with_reducible exact H | (rw [hy165]; exact H) | exact H
      have Ny165 := Aside0.mk hy165
      clear hy165
      by_cases c26 : y165.length + (rd_L1 l0_1 x10_1).length < 17592186044416
      rotate_left
      ·
       rw [if_neg c26] at H
       exact absurd H (by simp)
      rw [if_pos c26] at H
      have LMc26 := Aside0.mk c26
      clear c26
      obtain ⟨y168, hy168⟩ : ∃ y_ : List Int, y_ = (y165 ++ (rd_L1 l0_1 x10_1)) := ⟨_, rfl⟩
      replace H : (if x163001_1.length < 5864062014805 then (spec_AddAttack.l0 kj11 a1 a2 true (wrap64 (x10_1 + 1)) a0_0 l0_1 a0_0 (x163001_1 ++ [y168])) else (none)) = some (r1, r2, r3) := by first | (rw [hy168]; with_reducible exact H) | (have H2_ := (Option.bind_some _ _).symm.trans H; rw [hy168]; with_reducible exact H2_) | (have H2_ := (Option.bind_some _ _).symm.trans H; with_reducible exact H2_) | with_reducible exact H | (rw [hy168]; exact H) | exact H
      have Ny168 := Aside0.mk hy168
      clear hy168
      by_cases c27 : x163001_1.length < 5864062014805
      rotate_left
      ·
       rw [if_neg c27] at H
       exact absurd H (by simp)
      rw [if_pos c27] at H
      have LMc27 := Aside0.mk c27
      clear c27
      obtain ⟨y171, hy171⟩ : ∃ y_ : List (List Int), y_ = (x163001_1 ++ [y168]) := ⟨_, rfl⟩
      replace H : (spec_AddAttack.l0 kj11 a1 a2 true (wrap64 (x10_1 + 1)) a0_0 l0_1 a0_0 y171) = some (r1, r2, r3) := by first | (rw [hy171]; with_reducible exact H) | (have H2_ := (Option.bind_some _ _).symm.trans H; rw [hy171]; with_reducible exact H2_) | (have H2_ := (Option.bind_some _ _).symm.trans H; with_reducible exact H2_) | with_reducible exact H | (rw [hy171]; exact H) | exact H
      have Ny171 := Aside0.mk hy171
      clear hy171
      have H' := Aside0.mk H
      clear H
      have hnb28 := NB160_161.out
      have hnc28 := NB161_160.out
      have hnb29 := NB160_162.out
      have hnc29 := NB162_160.out
      have hcz30_0 : wc.cell? ⟨gb160, 0, none⟩ = some (.int .i64 a0_0) := (blk_cell BK160.out 0).trans rfl
      have hcz30_1 : wc.cell? ⟨gb160, 1, none⟩ = some (.slice A0_1 l0_1.length c0_1) := (blk_cell BK160.out 1).trans rfl
      have hfz30_0 := blk_frozen BK160.out 0
      have hfz30_1 := blk_frozen BK160.out 1
      have p164 : 0 ≤ (x10_1 : Int) := mD
      have q164 : x10_1 < (l0_1.length : Int) := mD
      obtain ⟨ad164, A164_0, c164_0, e164, hx164_0, hl164_0, hi164_0⟩ := at_L1 HR0_1.out x10_1 p164 q164
      cases e164
      replace hx164_0 := (HB.out.cell (World.block_lt_of_cell? w _ hx164_0)).trans hx164_0
      have HR164_0 := Aside0.mk hi164_0
      have HC164_0 := Aside0.mk hl164_0
      clear hi164_0 hl164_0
      replace p164 := eq_true p164
      replace q164 := eq_true q164
      try go_wp2
      have n0_ := Aside0.mk (Kd.S_drew HO_163001.out)
      have n1_ := Aside0.mk (blk_drew BK160.out)
      have n2_ := Aside0.mk (blk_drew BK161.out)
      have n3_ := Aside0.mk (blk_drew BK162.out)
      have n4_ := Aside0.mk (below_drew1 HB.out)
      clear HO_163001 BK160 BK161 BK162 HB; have HO_163001 := n0_; have BK160 := n1_; have BK161 := n2_; have BK162 := n3_; have HB := n4_; clear n0_ n1_ n2_ n3_ n4_
      refine start_ (n := 9) (S := fun w' => w'.cell? ⟨gb162, 0, none⟩ = some (.int .i64 a0_0) ∧ w'.cell? ⟨gb162, 1, none⟩ = some (u163001)) (ds := [8]) (L_ 0 9) (by kernel_rfl) rfl rfl ⟨(blk_cell BK162.out 0).trans rfl, (blk_cell BK162.out 1).trans rfl⟩ (fun hHeld => ?_); refine with_tabW spec_AddAttack.tab10 spec_AddAttack.bits10 (fun HT_ HW_ => ?_)
      generalize wc.drew = w31 at HO_163001 BK160 BK161 BK162 HB hHeld ⊢
      refine ps 0 62 (L_ 1 9) HT_.out ?_
      refine ps 3 65 #[true, false, false, true, false, false, false, false, false] HT_.out ?_
      refine take_ (i := 1) (N := some 63) (v := ?_) (a' := ?_) #[true, true, false, true, false, false, false, false, false] rfl rfl (take_ofW HT_.out HW_.out (by kernel_rfl)) (fun _ _ _ h => h) (Or.inl ⟨by rfl, ?_⟩) hHeld ?_ ?_
      rotate_left
      ·
       rintro w' ⟨s0, s1⟩
       go_simp
       with_reducible rfl
      rotate_left
      ·
       simp only [Act.put, List.setIfInBounds_toArray, List.set_cons_zero, List.set_cons_succ, i64_w, i32_w]
       rfl
      refine one_ (i := 2) (N := some 64) (L_ 4 9) rfl rfl (one_of HT_.out (by kernel_rfl)) (by decide) (fun K hK => ?_)
      refine Kd.R_lit_step (Kd.int .i64) _ 3 ?hg (N := 64) ?hd (xs := ([] : List Int)) (inner := []) (ok := fun _ => True) (okp := fun _ => True) ?hr ?hp (fun _ hk => hk) trivial (Below.refl _ _) (Nat.le_refl _) (by simp) ?_; (case hd => rfl); (case hg => rfl); (case hr => first | (go_simp; done) | (go_simp; rfl)); (case hp => exact (Reps.none _ _))
      intro v166 w32 ho33 hb hg_ hnew_
      clear hg_ hnew_
      (first | rw [← Ny165.out] at ho33 | (simp only [Int.reduceToNat] at ho33; rw [← Ny165.out] at ho33))
      have n0_ := Aside0.mk (Kd.S_elder' (mS HO_163001.out) (Kd.R_base ho33) hb)
      have n1_ := Aside0.mk (Kd.R_lower ho33 (below_size mG))
      have n2_ := Aside0.mk (blk_below (g := gb160) (o := .cells #[.int .i64 a0_0, .slice (some ad164) l0_1.length c0_1] 28 (0, 0)) ((mK (BK160.out))) hb)
      have n3_ := Aside0.mk (blk_below (g := gb161) (o := .cells #[.int .i64 0, .slice none 0 0] 28 (0, 0)) ((mK (BK161.out))) hb)
      have n4_ := Aside0.mk (blk_below (g := gb162) (o := .cells #[.int .i64 a0_0, u163001] 28 (0, 0)) ((mK (BK162.out))) hb)
      have n5_ := Aside0.mk (below_step mG hb)
      clear HO_163001 BK160 BK161 BK162 HB; have HO_163001 := n0_; have HO167 := n1_; have BK160 := n2_; have BK161 := n3_; have BK162 := n4_; have HB := n5_; clear n0_ n1_ n2_ n3_ n4_ n5_; clear hb ho33
      refine hK.out _ _ ⟨(blk_cell BK162.out 0).trans rfl, (blk_cell BK162.out 1).trans rfl⟩ (fun hHeld => ?_)
      clear hK K
      refine norm_ (a' := ?_) ?_ ?_
      rotate_left
      ·
       show Act.put _ (some 64) _ = _
       simp only [Act.put, List.setIfInBounds_toArray, List.set_cons_zero, List.set_cons_succ, i64_w, i32_w]
       rfl
      refine one_ (i := 4) (N := some 66) (L_ 5 9) rfl rfl (one_of HT_.out (by kernel_rfl)) (by decide) (fun K hK => ?_)
      refine Kd.R_append_rows_step (Kd.int .i64) (w0 := w) w.heap.size (by rfl) (.tmp 64) (.tmp 65) 25 3 (.int .i64 0) 8 rfl Try.underlying25 info3 rfl (by decide) (by omega) v166 y165 (rd_L1 l0_1 x10_1) _ _ _ (fun _ => True) (fun _ => False) rfl rfl ?aO ?aR (fun _ _ h => h) (fun _ h => h.elim) ?aF ?aB ?aS ?aL ?_
      (case aR => exact mC (Kd.C_below HR164_0.out HB.out))
      (case aB => exact mG)
      (case aF => exact (fun _ _ => trivial))
      (case aO => exact (mR HO167.out))
      (case aS => exact (below_size mG))
      (case aL => have := LMc26.out; omega)
      intro v169 w34 ho hb hg hat
      rw [← Ny168.out] at ho
      have n0_ := Aside0.mk (Kd.S_after (ok := (fun _ => True)) (mS HO_163001.out) hg hat)
      have n1_ := Aside0.mk (blk_grown (g := gb160) (o := .cells #[.int .i64 a0_0, .slice (some ad164) l0_1.length c0_1] 28 (0, 0)) ((mK (BK160.out))) hg (Kd.R_ne HO167.out BK160.out (by decide)))
      have n2_ := Aside0.mk (blk_grown (g := gb161) (o := .cells #[.int .i64 0, .slice none 0 0] 28 (0, 0)) ((mK (BK161.out))) hg (Kd.R_ne HO167.out BK161.out (by decide)))
      have n3_ := Aside0.mk (blk_grown (g := gb162) (o := .cells #[.int .i64 a0_0, u163001] 28 (0, 0)) ((mK (BK162.out))) hg (Kd.R_ne HO167.out BK162.out (by decide)))
      have n4_ := Aside0.mk (hb)
      have n5_ := Aside0.mk (ho)
      clear HO_163001 BK160 BK161 BK162 HB HO167; have HO_163001 := n0_; have BK160 := n1_; have BK161 := n2_; have BK162 := n3_; have HB := n4_; have HO170 := n5_; clear n0_ n1_ n2_ n3_ n4_ n5_; clear ho hb hg hat
      obtain ⟨Ao36, co36, eo36⟩ := Kd.R_slice HO170.out
      (first | subst eo36 | (injection eo36 with f1_ f2_ f3_; have f4_ := f1_.symm; have f5_ := f3_.symm; clear f1_ f2_ f3_; subst f4_; subst f5_))
      refine hK.out _ _ ⟨(blk_cell BK162.out 0).trans rfl, (blk_cell BK162.out 1).trans rfl⟩ (fun hHeld => ?_)
      clear hK K
      refine norm_ (a' := ?_) ?_ ?_
      rotate_left
      ·
       show Act.put _ (some 66) _ = _
       simp only [Act.put, List.setIfInBounds_toArray, List.set_cons_zero, List.set_cons_succ, i64_w, i32_w]
       rfl
      refine one_ (i := 5) (N := some 67) (L_ 6 9) rfl rfl (one_of HT_.out (by kernel_rfl)) (by decide) (fun K hK => ?_)
      refine value_ (w1 := ?_) (v := ?_) (by rfl) rfl ?_ ?_
      rotate_left 2
      ·
       go_simp
       constructor
       ·
        rfl
       ·
        rfl
      refine hK.out _ _ ⟨(blk_cell (blk_alloc BK162.out _) 0).trans rfl, (blk_cell (blk_alloc BK162.out _) 1).trans rfl⟩ (fun hHeld => ?_)
      clear hK K
      refine norm_ (a' := ?_) ?_ ?_
      rotate_left
      ·
       show Act.put _ (some 67) _ = _
       simp only [Act.put, List.setIfInBounds_toArray, List.set_cons_zero, List.set_cons_succ, i64_w, i32_w]
       rfl
      refine one_ (i := 6) (N := some 68) (L_ 7 9) rfl rfl (one_of HT_.out (by kernel_rfl)) (by decide) (fun K hK => ?_)
      refine Kd.S_append_step (Kd.slice 3 (Kd.int .i64)) (w0 := w) w.heap.size (by rfl) (.tmp 63) (.tmp 67) 22 25 (.slice none 0 0) 24 rfl Try.underlying22 info25 rfl (by decide) (by omega) u163001 x163001_1 y168 [.slice Ao36 y168.length co36] (fun _ => True) (fun k_ => some k_ = (.slice Ao36 y168.length co36 : Value).ownBlock) rfl rfl ?aP (fun k_ hk_ => ((Kd.R_mono (ok' := fun k_ => ((fun _ => True)) k_ ∧ some k_ ≠ (u163001 : Value).ownBlock) (Kd.R_apart' (HO170.out) (Kd.S_typed HO_163001.out) (by decide)) (fun k_ hk => ⟨trivial, hk.2⟩))).1 k_ hk_.symm) ?aF ?aO ?aB ?aS ?aL ?_
      (case aP => exact Kd.M_row (Kd.R_mono (Kd.R_tight rfl (Kd.R_mono (ok' := fun k_ => ((fun _ => True)) k_ ∧ some k_ ≠ (u163001 : Value).ownBlock) (Kd.R_apart' (HO170.out) (Kd.S_typed HO_163001.out) (by decide)) (fun k_ hk => ⟨trivial, hk.2⟩))) (fun _ h_ => h_)))
      (case aB => exact mG)
      (case aF => exact (fun _ _ => trivial))
      (case aO => exact (mS (Kd.S_mono HO_163001.out (fun k_ hk => ⟨trivial, fun e_ => hk.2 e_⟩))))
      (case aS => exact (below_size mG))
      (case aL => have := LMc27.out; omega)
      intro v172 w35 ho hb hg hat
      rw [← Ny171.out] at ho
      have n0_ := Aside0.mk (blk_grown (g := gb160) (o := .cells #[.int .i64 a0_0, .slice (some ad164) l0_1.length c0_1] 28 (0, 0)) ((mK (BK160.out))) hg (Kd.S_ne HO_163001.out BK160.out (by decide)))
      have n1_ := Aside0.mk (blk_grown (g := gb161) (o := .cells #[.int .i64 0, .slice none 0 0] 28 (0, 0)) ((mK (BK161.out))) hg (Kd.S_ne HO_163001.out BK161.out (by decide)))
      have n2_ := Aside0.mk (blk_grown (g := gb162) (o := .cells #[.int .i64 a0_0, u163001] 28 (0, 0)) ((mK (BK162.out))) hg (Kd.S_ne HO_163001.out BK162.out (by decide)))
      have n3_ := Aside0.mk (hb)
      have n4_ := Aside0.mk (ho)
      clear BK160 BK161 BK162 HB HO_163001 HO170; have BK160 := n0_; have BK161 := n1_; have BK162 := n2_; have HB := n3_; have HO173 := n4_; clear n0_ n1_ n2_ n3_ n4_; clear ho hb hg hat
      obtain ⟨Ao37, co37, eo37⟩ := Kd.S_slice HO173.out
      (first | subst eo37 | (injection eo37 with f1_ f2_ f3_; have f4_ := f1_.symm; have f5_ := f3_.symm; clear f1_ f2_ f3_; subst f4_; subst f5_))
      refine hK.out _ _ ⟨(blk_cell BK162.out 0).trans rfl, (blk_cell BK162.out 1).trans rfl⟩ (fun hHeld => ?_)
      clear hK K
      refine norm_ (a' := ?_) ?_ ?_
      rotate_left
      ·
       show Act.put _ (some 68) _ = _
       simp only [Act.put, List.setIfInBounds_toArray, List.set_cons_zero, List.set_cons_succ, i64_w, i32_w]
       rfl
      refine ps 7 69 (L_ 8 9) HT_.out ?_
      refine last_ (i := 8) (N := none) (L_ 9 9) rfl rfl (one_of HT_.out (by kernel_rfl)) (by decide) (fun K hK => ?_)
      have hs38 : w35.cell? ⟨gb162, 1, none⟩ = some (u163001) := (blk_cell BK162.out 1).trans rfl
      have hfs38 := blk_frozen BK162.out 1
      have hns38_0 := NB160_162.out
      have hns38_1 := NB161_162.out
      have hms38_0 := NB162_160.out
      have hms38_1 := NB162_161.out
      refine skip_ (w1 := ?_) (by rfl) rfl ?_ ?_
      rotate_left
      ·
       go_simp
       rfl
      refine hK.out _ _ ?_
      clear hK K
      refine done_ (done_of HT_.out (by kernel_rfl)) ?_
      try go_wp2
      go_roundg kj11
      case measure => have := HK1.out; have := HJ11.out; omega
      case rel => exact ⟨(true), (wrap64 (x10_1 + 1)), (y171), (.slice Ao37 y171.length co37), mF, mF, H', ⟨by have := HK1.out; have := HJ11.out; omega⟩, ⟨by (with_reducible repeat (first | apply Kd.S_alloc | apply Kd.S_drewN | apply Kd.S_drew)); exact Kd.S_mono (Kd.S_far (p := ⟨gb162, 1, none⟩) (Kd.S_types HO173.out BK162.out (by decide)) (fun _ hk => hk.2) (.slice Ao37 y171.length co37)) (fun _ hk => trivial)⟩, ⟨by refine pK ?_; refine blk_far ?_ NB160_162.out _; refine pK ?_; exact BK160.out⟩, ⟨by refine pK ?_; refine blk_far ?_ NB161_162.out _; refine pK ?_; exact BK161.out⟩, ⟨by refine pK ?_; refine blk_put (cs := #[.int .i64 a0_0, u163001]) ?_ 1 _ rfl; refine pK ?_; exact BK162.out⟩, ⟨mG⟩⟩
     replace c25 := Bool.eq_false_iff.mpr c25
     subst c25
     rw [if_neg (show ¬ (false = true) by decide)] at H
     by_cases c39 : 0 < ((rd_L1 l0_1 x10_1).length : Int)
     rotate_left
     ·
      rw [if_neg c39] at H
      exact absurd H (by simp)
     rw [if_pos c39] at H
     have c39b0 : decide (0 < ((rd_L1 l0_1 x10_1).length : Int)) = true := decide_eq_true c39
     have c39b1 : decide (0 < (rd_L1 l0_1 x10_1).length) = true := decide_eq_true (by omega)
     clear c39
     by_cases c40 : (rd (rd_L1 l0_1 x10_1) 0) > a1
     ·
      rw [if_pos c40] at H
      have c40b0 : decide (a1 < (rd (rd_L1 l0_1 x10_1) 0)) = true := decide_eq_true c40
      clear c40
      obtain ⟨y175, hy175⟩ : ∃ y_ : List Int, y_ = (([a1, a2] : List Int)) := ⟨_, rfl⟩
      replace H : (if x163001_1.length < 5864062014805 then ((some (x163001_1 ++ [y175] : List (List Int))).bind fun y178 => ((some (([] : List Int) : List Int)).bind fun y181 => (if y181.length + (rd_L1 l0_1 x10_1).length < 17592186044416 then (if y178.length < 5864062014805 then (spec_AddAttack.l0 kj11 a1 a2 true (wrap64 (x10_1 + 1)) a0_0 l0_1 a0_0 (y178 ++ [(y181 ++ (rd_L1 l0_1 x10_1))])) else (none)) else (none)))) else (none)) = some (r1, r2, r3) := by first | (rw [hy175]; with_reducible exact H) | (have H2_ := (Option.bind_some _ _).symm.trans H; rw [hy175]; with_reducible exact H2_) | (have H2_ := (Option.bind_some _ _).symm.trans H; with_reducible exact H2_) | with_reducible exact H | (rw [hy175]; exact H) | exact H
      have Ny175 := Aside0.mk hy175
      clear hy175
      by_cases c41 : x163001_1.length < 5864062014805
      rotate_left
      ·
       rw [if_neg c41] at H
       exact absurd H (by simp)
      rw [if_pos c41] at H
      have LMc41 := Aside0.mk c41
      clear c41
      obtain ⟨y178, hy178⟩ : ∃ y_ : List (List Int), y_ = (x163001_1 ++ [y175]) := ⟨_, rfl⟩
      replace H : ((some (([] : List Int) : List Int)).bind fun y181 => (if y181.length + (rd_L1 l0_1 x10_1).length < 17592186044416 then (if y178.length < 5864062014805 then (spec_AddAttack.l0 kj11 a1 a2 true (wrap64 (x10_1 + 1)) a0_0 l0_1 a0_0 (y178 ++ [(y181 ++ (rd_L1 l0_1 x10_1))])) else (none)) else (none))) = some (r1, r2, r3) := by first | (rw [hy178]; with_reducible exact H) | (have H2_ := (Option.bind_some _ _).symm.trans H; rw [hy178]; with_reducible exact H2_) | (have H2_ := (Option.bind_some _ _).symm.trans H; with_reducible exact H2_) | with_reducible exact H | (rw [hy178]; exact H) | exact H
      have Ny178 := Aside0.mk hy178
      clear hy178
      obtain ⟨y181, hy181⟩ : ∃ y_ : List Int, y_ = (([] : List Int)) := ⟨_, rfl⟩
      replace H : (if y181.length + (rd_L1 l0_1 x10_1).length < 17592186044416 then (if y178.length < 5864062014805 then (spec_AddAttack.l0 kj11 a1 a2 true (wrap64 (x10_1 + 1)) a0_0 l0_1 a0_0 (y178 ++ [(y181 ++ (rd_L1 l0_1 x10_1))])) else (none)) else (none)) = some (r1, r2, r3) := by first | (rw [hy181]; with_reducible exact H) | (have H2_ := (Option.bind_some _ _).symm.trans H; rw [hy181]; with_reducible exact H2_) | (have H2_ := (Option.bind_some _ _).symm.trans H; with_reducible exact H2_) | with_reducible exact H | (rw [hy181]; exact H) | exact H
      have Ny181 := Aside0.mk hy181
      clear hy181
      by_cases c42 : y181.length + (rd_L1 l0_1 x10_1).length < 17592186044416
      rotate_left
      ·
       rw [if_neg c42] at H
       exact absurd H (by simp)
      rw [if_pos c42] at H
      have LMc42 := Aside0.mk c42
      clear c42
      obtain ⟨y184, hy184⟩ : ∃ y_ : List Int, y_ = (y181 ++ (rd_L1 l0_1 x10_1)) := ⟨_, rfl⟩
      replace H : (if y178.length < 5864062014805 then (spec_AddAttack.l0 kj11 a1 a2 true (wrap64 (x10_1 + 1)) a0_0 l0_1 a0_0 (y178 ++ [y184])) else (none)) = some (r1, r2, r3) := by first | (rw [hy184]; with_reducible exact H) | (have H2_ := (Option.bind_some _ _).symm.trans H; rw [hy184]; with_reducible exact H2_) | (have H2_ := (Option.bind_some _ _).symm.trans H; with_reducible exact H2_) | with_reducible exact H | (rw [hy184]; exact H) | exact H
      have Ny184 := Aside0.mk hy184
      clear hy184
      by_cases c43 : y178.length < 5864062014805
      rotate_left
      ·
       rw [if_neg c43] at H
       exact absurd H (by simp)
      rw [if_pos c43] at H
      have LMc43 := Aside0.mk c43
      clear c43
      obtain ⟨y187, hy187⟩ : ∃ y_ : List (List Int), y_ = (y178 ++ [y184]) := ⟨_, rfl⟩
      replace H : (spec_AddAttack.l0 kj11 a1 a2 true (wrap64 (x10_1 + 1)) a0_0 l0_1 a0_0 y187) = some (r1, r2, r3) := by first | (rw [hy187]; with_reducible exact H) | (have H2_ := (Option.bind_some _ _).symm.trans H; rw [hy187]; with_reducible exact H2_) | (have H2_ := (Option.bind_some _ _).symm.trans H; with_reducible exact H2_) | with_reducible exact H | (rw [hy187]; exact H) | exact H
      have Ny187 := Aside0.mk hy187
      clear hy187
      have H' := Aside0.mk H
      clear H
      have hnb44 := NB160_161.out
      have hnc44 := NB161_160.out
      have hnb45 := NB160_162.out
      have hnc45 := NB162_160.out
      have hcz46_0 : wc.cell? ⟨gb160, 0, none⟩ = some (.int .i64 a0_0) := (blk_cell BK160.out 0).trans rfl
      have hcz46_1 : wc.cell? ⟨gb160, 1, none⟩ = some (.slice A0_1 l0_1.length c0_1) := (blk_cell BK160.out 1).trans rfl
      have hfz46_0 := blk_frozen BK160.out 0
      have hfz46_1 := blk_frozen BK160.out 1
      have p164 : 0 ≤ (x10_1 : Int) := mD
      have q164 : x10_1 < (l0_1.length : Int) := mD
      obtain ⟨ad164, A164_0, c164_0, e164, hx164_0, hl164_0, hi164_0⟩ := at_L1 HR0_1.out x10_1 p164 q164
      cases e164
      replace hx164_0 := (HB.out.cell (World.block_lt_of_cell? w _ hx164_0)).trans hx164_0
      have HR164_0 := Aside0.mk hi164_0
      have HC164_0 := Aside0.mk hl164_0
      clear hi164_0 hl164_0
      replace p164 := eq_true p164
      replace q164 := eq_true q164
      have p174 : 0 ≤ (0 : Int) := (by omega)
      have q174 : 0 < ((rd_L1 l0_1 x10_1).length : Int) := mD
      obtain ⟨ad174, e174, hx174_0⟩ := Kd.at_int HR164_0.out 0 p174 q174
      cases e174
      have qi174 : (0 < (rd_L1 l0_1 x10_1).length) = True := eq_true (by omega)
      (try rw [show ((0 : Int)).toNat = 0 from rfl] at hx174_0)
      (try rw [Addr.add_zero'] at hx174_0)
      replace hx174_0 := (HB.out.cell (World.block_lt_of_cell? w _ hx174_0)).trans hx174_0
      replace p174 := eq_true p174
      replace q174 := eq_true q174
      have hnb47 := NB162_161.out
      have hnc47 := NB161_162.out
      have hcz48_0 : wc.cell? ⟨gb162, 0, none⟩ = some (.int .i64 a0_0) := (blk_cell BK162.out 0).trans rfl
      have hcz48_1 : wc.cell? ⟨gb162, 1, none⟩ = some (u163001) := (blk_cell BK162.out 1).trans rfl
      have hfz48_0 := blk_frozen BK162.out 0
      have hfz48_1 := blk_frozen BK162.out 1
      try go_wp2_with (first | ((with_reducible refine gate_dst (N := 58) rfl ?_); refine Kd.R_lit (Kd.int .i64) _ 3 ?hg (N := 58) ?hd (xs := ([a1, a2] : List Int)) (inner := [.int .i64 a1, .int .i64 a2]) (ok := fun _ => True) (okp := fun _ => True) ?hr ?hp (fun _ hk => hk) trivial (Below.refl _ _) (Nat.le_refl _) (by simp) ?_; (case hd => rfl); (case hg => rfl); (case hr => first | (go_simp; done) | (go_simp; rfl)); (case hp => exact (Reps.one (show Kd.M (Kd.int .i64) _ _ _ a1 [.int .i64 a1] from rfl) (Reps.one (show Kd.M (Kd.int .i64) _ _ _ a2 [.int .i64 a2] from rfl) (Reps.none _ _)))); intro v176 w49 ho50 hb hg_ hnew_; clear hg_ hnew_; (first | rw [← Ny175.out] at ho50 | (simp only [Int.reduceToNat] at ho50; rw [← Ny175.out] at ho50)); have n0_ := Aside0.mk (Kd.S_elder' (mS HO_163001.out) (Kd.R_base ho50) hb); have n1_ := Aside0.mk (Kd.R_lower ho50 (below_size mG)); have n2_ := Aside0.mk (blk_below (g := gb160) (o := .cells #[.int .i64 a0_0, .slice (some ad164) l0_1.length c0_1] 28 (0, 0)) ((mK (BK160.out))) hb); have n3_ := Aside0.mk (blk_below (g := gb161) (o := .cells #[.int .i64 0, .slice none 0 0] 28 (0, 0)) ((mK (BK161.out))) hb); have n4_ := Aside0.mk (blk_below (g := gb162) (o := .cells #[.int .i64 a0_0, u163001] 28 (0, 0)) ((mK (BK162.out))) hb); have n5_ := Aside0.mk (below_step mG hb); clear HO_163001 BK160 BK161 BK162 HB; have HO_163001 := n0_; have HO177 := n1_; have BK160 := n2_; have BK161 := n3_; have BK162 := n4_; have HB := n5_; clear n0_ n1_ n2_ n3_ n4_ n5_; clear hb ho50; obtain ⟨Ao52, co52, eo52⟩ := Kd.R_slice HO177.out; subst eo52) | ((with_reducible refine gate_builtin (b := .append) (xs := #[.tmp 55, .tmp 59]) rfl ?_); at_builtin; refine Kd.S_append (Kd.slice 3 (Kd.int .i64)) (w0 := w) w.heap.size rfl (.tmp 55) (.tmp 59) 22 25 (.slice none 0 0) 24 rfl Try.underlying22 info25 rfl (by decide) (by omega) u163001 x163001_1 y175 [.slice Ao52 y175.length co52] (fun _ => True) (fun k_ => some k_ = (.slice Ao52 y175.length co52 : Value).ownBlock) rfl rfl ?aP (fun k_ hk_ => ((Kd.R_mono (ok' := fun k_ => ((fun _ => True)) k_ ∧ some k_ ≠ (u163001 : Value).ownBlock) (Kd.R_apart' (HO177.out) (Kd.S_typed HO_163001.out) (by decide)) (fun k_ hk => ⟨trivial, hk.2⟩))).1 k_ hk_.symm) ?aF ?aO ?aB ?aS ?aL ?_; (case aP => exact Kd.M_row (Kd.R_mono (Kd.R_tight rfl (Kd.R_mono (ok' := fun k_ => ((fun _ => True)) k_ ∧ some k_ ≠ (u163001 : Value).ownBlock) (Kd.R_apart' (HO177.out) (Kd.S_typed HO_163001.out) (by decide)) (fun k_ hk => ⟨trivial, hk.2⟩))) (fun _ h_ => h_))); (case aB => exact mG); (case aF => exact (fun _ _ => trivial)); (case aO => exact (mS (Kd.S_mono HO_163001.out (fun k_ hk => ⟨trivial, fun e_ => hk.2 e_⟩)))); (case aS => exact (below_size mG)); (case aL => have := LMc41.out; omega); intro v179 w51 ho hb hg hat; rw [← Ny178.out] at ho; have n0_ := Aside0.mk (blk_grown (g := gb160) (o := .cells #[.int .i64 a0_0, .slice (some ad164) l0_1.length c0_1] 28 (0, 0)) ((mK (BK160.out))) hg (Kd.S_ne HO_163001.out BK160.out (by decide))); have n1_ := Aside0.mk (blk_grown (g := gb161) (o := .cells #[.int .i64 0, .slice none 0 0] 28 (0, 0)) ((mK (BK161.out))) hg (Kd.S_ne HO_163001.out BK161.out (by decide))); have n2_ := Aside0.mk (blk_grown (g := gb162) (o := .cells #[.int .i64 a0_0, u163001] 28 (0, 0)) ((mK (BK162.out))) hg (Kd.S_ne HO_163001.out BK162.out (by decide))); have n3_ := Aside0.mk (hb); have n4_ := Aside0.mk (ho); clear BK160 BK161 BK162 HB HO_163001 HO177; have BK160 := n0_; have BK161 := n1_; have BK162 := n2_; have HB := n3_; have HO180 := n4_; clear n0_ n1_ n2_ n3_ n4_; clear ho hb hg hat; obtain ⟨Ao53, co53, eo53⟩ := Kd.S_slice HO180.out; subst eo53; have hcz54_0 : w51.cell? ⟨gb162, 0, none⟩ = some (.int .i64 a0_0) := (blk_cell BK162.out 0).trans rfl; have hcz54_1 : w51.cell? ⟨gb162, 1, none⟩ = some (u163001) := (blk_cell BK162.out 1).trans rfl; have hfz54_0 := blk_frozen BK162.out 0; have hfz54_1 := blk_frozen BK162.out 1))
      have n0_ : Aside0 (Kd.S (Kd.slice 3 (Kd.int .i64)) 25 (w51.setCell ⟨gb162, 1, none⟩ (.slice Ao53 y178.length co53)) w.heap.size (fun _ => True) (.slice Ao53 y178.length co53) y178) := ⟨by (with_reducible repeat (first | apply Kd.S_alloc | apply Kd.S_drewN | apply Kd.S_drew)); exact Kd.S_mono (Kd.S_far (p := ⟨gb162, 1, none⟩) (Kd.S_types HO180.out BK162.out (by decide)) (fun _ hk => hk.2) (.slice Ao53 y178.length co53)) (fun _ hk => trivial)⟩
      have n1_ : Aside0 ((w51.setCell ⟨gb162, 1, none⟩ (.slice Ao53 y178.length co53)).heap[gb160]? = some (.cells #[.int .i64 a0_0, .slice (some ad164) l0_1.length c0_1] 28 (0, 0))) := ⟨by refine pK ?_; refine blk_far ?_ NB160_162.out _; refine pK ?_; exact BK160.out⟩
      have n2_ : Aside0 ((w51.setCell ⟨gb162, 1, none⟩ (.slice Ao53 y178.length co53)).heap[gb161]? = some (.cells #[.int .i64 0, .slice none 0 0] 28 (0, 0))) := ⟨by refine pK ?_; refine blk_far ?_ NB161_162.out _; refine pK ?_; exact BK161.out⟩
      have n3_ : Aside0 ((w51.setCell ⟨gb162, 1, none⟩ (.slice Ao53 y178.length co53)).heap[gb162]? = some (.cells #[.int .i64 a0_0, .slice Ao53 y178.length co53] 28 (0, 0))) := ⟨by refine pK ?_; refine blk_put (cs := #[.int .i64 a0_0, u163001]) ?_ 1 _ rfl; refine pK ?_; exact BK162.out⟩
      have n4_ : Aside0 (Below w.heap.size w (w51.setCell ⟨gb162, 1, none⟩ (.slice Ao53 y178.length co53))) := ⟨mG⟩
      (try clear HO180); (try clear BK160); (try clear BK161); (try clear BK162); (try clear HB)
      generalize (w51.setCell ⟨gb162, 1, none⟩ (.slice Ao53 y178.length co53)) = w55 at n0_ n1_ n2_ n3_ n4_ ⊢
      have HO180 := n0_; have BK160 := n1_; have BK161 := n2_; have BK162 := n3_; have HB := n4_; clear n0_ n1_ n2_ n3_ n4_
      have n0_ := Aside0.mk (Kd.S_drew HO180.out)
      have n1_ := Aside0.mk (blk_drew BK160.out)
      have n2_ := Aside0.mk (blk_drew BK161.out)
      have n3_ := Aside0.mk (blk_drew BK162.out)
      have n4_ := Aside0.mk (below_drew1 HB.out)
      clear HO180 BK160 BK161 BK162 HB; have HO180 := n0_; have BK160 := n1_; have BK161 := n2_; have BK162 := n3_; have HB := n4_; clear n0_ n1_ n2_ n3_ n4_
      refine start_ (n := 9) (S := fun w' => w'.cell? ⟨gb162, 0, none⟩ = some (.int .i64 a0_0) ∧ w'.cell? ⟨gb162, 1, none⟩ = some (.slice Ao53 y178.length co53)) (ds := [8]) (L_ 0 9) (by kernel_rfl) rfl rfl ⟨(blk_cell BK162.out 0).trans rfl, (blk_cell BK162.out 1).trans rfl⟩ (fun hHeld => ?_); refine with_tabW spec_AddAttack.tab10 spec_AddAttack.bits10 (fun HT_ HW_ => ?_)
      generalize w55.drew = w56 at HO180 BK160 BK161 BK162 HB hHeld ⊢
      refine ps 0 62 (L_ 1 9) HT_.out ?_
      refine ps 3 65 #[true, false, false, true, false, false, false, false, false] HT_.out ?_
      refine take_ (i := 1) (N := some 63) (v := ?_) (a' := ?_) #[true, true, false, true, false, false, false, false, false] rfl rfl (take_ofW HT_.out HW_.out (by kernel_rfl)) (fun _ _ _ h => h) (Or.inl ⟨by rfl, ?_⟩) hHeld ?_ ?_
      rotate_left
      ·
       rintro w' ⟨s0, s1⟩
       go_simp
       with_reducible rfl
      rotate_left
      ·
       simp only [Act.put, List.setIfInBounds_toArray, List.set_cons_zero, List.set_cons_succ, i64_w, i32_w]
       rfl
      refine one_ (i := 2) (N := some 64) (L_ 4 9) rfl rfl (one_of HT_.out (by kernel_rfl)) (by decide) (fun K hK => ?_)
      refine Kd.R_lit_step (Kd.int .i64) _ 3 ?hg (N := 64) ?hd (xs := ([] : List Int)) (inner := []) (ok := fun _ => True) (okp := fun _ => True) ?hr ?hp (fun _ hk => hk) trivial (Below.refl _ _) (Nat.le_refl _) (by simp) ?_; (case hd => rfl); (case hg => rfl); (case hr => first | (go_simp; done) | (go_simp; rfl)); (case hp => exact (Reps.none _ _))
      intro v182 w57 ho58 hb hg_ hnew_
      clear hg_ hnew_
      (first | rw [← Ny181.out] at ho58 | (simp only [Int.reduceToNat] at ho58; rw [← Ny181.out] at ho58))
      have n0_ := Aside0.mk (Kd.S_elder' (mS HO180.out) (Kd.R_base ho58) hb)
      have n1_ := Aside0.mk (Kd.R_lower ho58 (below_size mG))
      have n2_ := Aside0.mk (blk_below (g := gb160) (o := .cells #[.int .i64 a0_0, .slice (some ad164) l0_1.length c0_1] 28 (0, 0)) ((mK (BK160.out))) hb)
      have n3_ := Aside0.mk (blk_below (g := gb161) (o := .cells #[.int .i64 0, .slice none 0 0] 28 (0, 0)) ((mK (BK161.out))) hb)
      have n4_ := Aside0.mk (blk_below (g := gb162) (o := .cells #[.int .i64 a0_0, .slice Ao53 y178.length co53] 28 (0, 0)) ((mK (BK162.out))) hb)
      have n5_ := Aside0.mk (below_step mG hb)
      clear HO180 BK160 BK161 BK162 HB; have HO180 := n0_; have HO183 := n1_; have BK160 := n2_; have BK161 := n3_; have BK162 := n4_; have HB := n5_; clear n0_ n1_ n2_ n3_ n4_ n5_; clear hb ho58
      refine hK.out _ _ ⟨(blk_cell BK162.out 0).trans rfl, (blk_cell BK162.out 1).trans rfl⟩ (fun hHeld => ?_)
      clear hK K
      refine norm_ (a' := ?_) ?_ ?_
      rotate_left
      ·
       show Act.put _ (some 64) _ = _
       simp only [Act.put, List.setIfInBounds_toArray, List.set_cons_zero, List.set_cons_succ, i64_w, i32_w]
       rfl
      refine one_ (i := 4) (N := some 66) (L_ 5 9) rfl rfl (one_of HT_.out (by kernel_rfl)) (by decide) (fun K hK => ?_)
      refine Kd.R_append_rows_step (Kd.int .i64) (w0 := w) w.heap.size (by rfl) (.tmp 64) (.tmp 65) 25 3 (.int .i64 0) 8 rfl Try.underlying25 info3 rfl (by decide) (by omega) v182 y181 (rd_L1 l0_1 x10_1) _ _ _ (fun _ => True) (fun _ => False) rfl rfl ?aO ?aR (fun _ _ h => h) (fun _ h => h.elim) ?aF ?aB ?aS ?aL ?_
      (case aR => exact mC (Kd.C_below HR164_0.out HB.out))
      (case aB => exact mG)
      (case aF => exact (fun _ _ => trivial))
      (case aO => exact (mR HO183.out))
      (case aS => exact (below_size mG))
      (case aL => have := LMc42.out; omega)
      intro v185 w59 ho hb hg hat
      rw [← Ny184.out] at ho
      have n0_ := Aside0.mk (blk_grown (g := gb160) (o := .cells #[.int .i64 a0_0, .slice (some ad164) l0_1.length c0_1] 28 (0, 0)) ((mK (BK160.out))) hg (Kd.R_ne HO183.out BK160.out (by decide)))
      have n1_ := Aside0.mk (blk_grown (g := gb161) (o := .cells #[.int .i64 0, .slice none 0 0] 28 (0, 0)) ((mK (BK161.out))) hg (Kd.R_ne HO183.out BK161.out (by decide)))
      have n2_ := Aside0.mk (blk_grown (g := gb162) (o := .cells #[.int .i64 a0_0, .slice Ao53 y178.length co53] 28 (0, 0)) ((mK (BK162.out))) hg (Kd.R_ne HO183.out BK162.out (by decide)))
      have n3_ := Aside0.mk (Kd.S_after (ok := (fun _ => True)) (mS HO180.out) hg hat)
      have n4_ := Aside0.mk (hb)
      have n5_ := Aside0.mk (ho)
      clear BK160 BK161 BK162 HO180 HB HO183; have BK160 := n0_; have BK161 := n1_; have BK162 := n2_; have HO180 := n3_; have HB := n4_; have HO186 := n5_; clear n0_ n1_ n2_ n3_ n4_ n5_; clear ho hb hg hat
      obtain ⟨Ao61, co61, eo61⟩ := Kd.R_slice HO186.out
      (first | subst eo61 | (injection eo61 with f1_ f2_ f3_; have f4_ := f1_.symm; have f5_ := f3_.symm; clear f1_ f2_ f3_; subst f4_; subst f5_))
      refine hK.out _ _ ⟨(blk_cell BK162.out 0).trans rfl, (blk_cell BK162.out 1).trans rfl⟩ (fun hHeld => ?_)
      clear hK K
      refine norm_ (a' := ?_) ?_ ?_
      rotate_left
      ·
       show Act.put _ (some 66) _ = _
       simp only [Act.put, List.setIfInBounds_toArray, List.set_cons_zero, List.set_cons_succ, i64_w, i32_w]
       rfl
      refine one_ (i := 5) (N := some 67) (L_ 6 9) rfl rfl (one_of HT_.out (by kernel_rfl)) (by decide) (fun K hK => ?_)
      refine value_ (w1 := ?_) (v := ?_) (by rfl) rfl ?_ ?_
      rotate_left 2
      ·
       go_simp
       constructor
       ·
        rfl
       ·
        rfl
      refine hK.out _ _ ⟨(blk_cell (blk_alloc BK162.out _) 0).trans rfl, (blk_cell (blk_alloc BK162.out _) 1).trans rfl⟩ (fun hHeld => ?_)
      clear hK K
      refine norm_ (a' := ?_) ?_ ?_
      rotate_left
      ·
       show Act.put _ (some 67) _ = _
       simp only [Act.put, List.setIfInBounds_toArray, List.set_cons_zero, List.set_cons_succ, i64_w, i32_w]
       rfl
      refine one_ (i := 6) (N := some 68) (L_ 7 9) rfl rfl (one_of HT_.out (by kernel_rfl)) (by decide) (fun K hK => ?_)
      refine Kd.S_append_step (Kd.slice 3 (Kd.int .i64)) (w0 := w) w.heap.size (by rfl) (.tmp 63) (.tmp 67) 22 25 (.slice none 0 0) 24 rfl Try.underlying22 info25 rfl (by decide) (by omega) (.slice Ao53 y178.length co53) y178 y184 [.slice Ao61 y184.length co61] (fun _ => True) (fun k_ => some k_ = (.slice Ao61 y184.length co61 : Value).ownBlock) rfl rfl ?aP (fun k_ hk_ => ((Kd.R_mono (ok' := fun k_ => ((fun _ => True)) k_ ∧ some k_ ≠ (.slice Ao53 y178.length co53 : Value).ownBlock) (Kd.R_apart' (HO186.out) (Kd.S_typed HO180.out) (by decide)) (fun k_ hk => ⟨trivial, hk.2⟩))).1 k_ hk_.symm) ?aF ?aO ?aB ?aS ?aL ?_
      (case aP => exact Kd.M_row (Kd.R_mono (Kd.R_tight rfl (Kd.R_mono (ok' := fun k_ => ((fun _ => True)) k_ ∧ some k_ ≠ (.slice Ao53 y178.length co53 : Value).ownBlock) (Kd.R_apart' (HO186.out) (Kd.S_typed HO180.out) (by decide)) (fun k_ hk => ⟨trivial, hk.2⟩))) (fun _ h_ => h_)))
      (case aB => exact mG)
      (case aF => exact (fun _ _ => trivial))
      (case aO => exact (mS (Kd.S_mono HO180.out (fun k_ hk => ⟨trivial, fun e_ => hk.2 e_⟩))))
      (case aS => exact (below_size mG))
      (case aL => have := LMc43.out; omega)
      intro v188 w60 ho hb hg hat
      rw [← Ny187.out] at ho
      have n0_ := Aside0.mk (blk_grown (g := gb160) (o := .cells #[.int .i64 a0_0, .slice (some ad164) l0_1.length c0_1] 28 (0, 0)) ((mK (BK160.out))) hg (Kd.S_ne HO180.out BK160.out (by decide)))
      have n1_ := Aside0.mk (blk_grown (g := gb161) (o := .cells #[.int .i64 0, .slice none 0 0] 28 (0, 0)) ((mK (BK161.out))) hg (Kd.S_ne HO180.out BK161.out (by decide)))
      have n2_ := Aside0.mk (blk_grown (g := gb162) (o := .cells #[.int .i64 a0_0, .slice Ao53 y178.length co53] 28 (0, 0)) ((mK (BK162.out))) hg (Kd.S_ne HO180.out BK162.out (by decide)))
      have n3_ := Aside0.mk (hb)
      have n4_ := Aside0.mk (ho)
      clear BK160 BK161 BK162 HB HO180 HO186; have BK160 := n0_; have BK161 := n1_; have BK162 := n2_; have HB := n3_; have HO189 := n4_; clear n0_ n1_ n2_ n3_ n4_; clear ho hb hg hat
      obtain ⟨Ao62, co62, eo62⟩ := Kd.S_slice HO189.out
      (first | subst eo62 | (injection eo62 with f1_ f2_ f3_; have f4_ := f1_.symm; have f5_ := f3_.symm; clear f1_ f2_ f3_; subst f4_; subst f5_))
      refine hK.out _ _ ⟨(blk_cell BK162.out 0).trans rfl, (blk_cell BK162.out 1).trans rfl⟩ (fun hHeld => ?_)
      clear hK K
      refine norm_ (a' := ?_) ?_ ?_
      rotate_left
      ·
       show Act.put _ (some 68) _ = _
       simp only [Act.put, List.setIfInBounds_toArray, List.set_cons_zero, List.set_cons_succ, i64_w, i32_w]
       rfl
      refine ps 7 69 (L_ 8 9) HT_.out ?_
      refine last_ (i := 8) (N := none) (L_ 9 9) rfl rfl (one_of HT_.out (by kernel_rfl)) (by decide) (fun K hK => ?_)
      have hs63 : w60.cell? ⟨gb162, 1, none⟩ = some (.slice Ao53 y178.length co53) := (blk_cell BK162.out 1).trans rfl
      have hfs63 := blk_frozen BK162.out 1
      have hns63_0 := NB160_162.out
      have hns63_1 := NB161_162.out
      have hms63_0 := NB162_160.out
      have hms63_1 := NB162_161.out
      refine skip_ (w1 := ?_) (by rfl) rfl ?_ ?_
      rotate_left
      ·
       go_simp
       rfl
      refine hK.out _ _ ?_
      clear hK K
      refine done_ (done_of HT_.out (by kernel_rfl)) ?_
      try go_wp2
      go_roundg kj11
      case measure => have := HK1.out; have := HJ11.out; omega
      case rel => exact ⟨(true), (wrap64 (x10_1 + 1)), (y187), (.slice Ao62 y187.length co62), mF, mF, H', ⟨by have := HK1.out; have := HJ11.out; omega⟩, ⟨by (with_reducible repeat (first | apply Kd.S_alloc | apply Kd.S_drewN | apply Kd.S_drew)); exact Kd.S_mono (Kd.S_far (p := ⟨gb162, 1, none⟩) (Kd.S_types HO189.out BK162.out (by decide)) (fun _ hk => hk.2) (.slice Ao62 y187.length co62)) (fun _ hk => trivial)⟩, ⟨by refine pK ?_; refine blk_far ?_ NB160_162.out _; refine pK ?_; exact BK160.out⟩, ⟨by refine pK ?_; refine blk_far ?_ NB161_162.out _; refine pK ?_; exact BK161.out⟩, ⟨by refine pK ?_; refine blk_put (cs := #[.int .i64 a0_0, .slice Ao53 y178.length co53]) ?_ 1 _ rfl; refine pK ?_; exact BK162.out⟩, ⟨mG⟩⟩
     rw [if_neg c40] at H
     have c40b0 : decide (a1 < (rd (rd_L1 l0_1 x10_1) 0)) = false := decide_eq_false c40
     clear c40
     by_cases c64 : (rd (rd_L1 l0_1 x10_1) 0) = a1
     rotate_left
     ·
      rw [if_neg c64] at H
      have c64b0 : ((rd (rd_L1 l0_1 x10_1) 0) == a1) = false := beq_eq_false_iff_ne.mpr c64
      have c64b1 : ((rd (rd_L1 l0_1 x10_1) 0) != a1) = true := bne_iff_ne.mpr c64
      obtain ⟨y216, hy216⟩ : ∃ y_ : List Int, y_ = (([] : List Int)) := ⟨_, rfl⟩
      replace H : (if y216.length + (rd_L1 l0_1 x10_1).length < 17592186044416 then (if x163001_1.length < 5864062014805 then (spec_AddAttack.l0 kj11 a1 a2 false (wrap64 (x10_1 + 1)) a0_0 l0_1 a0_0 (x163001_1 ++ [(y216 ++ (rd_L1 l0_1 x10_1))])) else (none)) else (none)) = some (r1, r2, r3) := by first | (rw [hy216]; with_reducible exact H) | (have H2_ := (Option.bind_some _ _).symm.trans H; rw [hy216]; with_reducible exact H2_) | (have H2_ := (Option.bind_some _ _).symm.trans H; with_reducible exact H2_) | with_reducible exact H | (rw [hy216]; exact H) | exact H
      have Ny216 := Aside0.mk hy216
      clear hy216
      by_cases c103 : y216.length + (rd_L1 l0_1 x10_1).length < 17592186044416
      rotate_left
      ·
       rw [if_neg c103] at H
       exact absurd H (by simp)
      rw [if_pos c103] at H
      have LMc103 := Aside0.mk c103
      clear c103
      obtain ⟨y219, hy219⟩ : ∃ y_ : List Int, y_ = (y216 ++ (rd_L1 l0_1 x10_1)) := ⟨_, rfl⟩
      replace H : (if x163001_1.length < 5864062014805 then (spec_AddAttack.l0 kj11 a1 a2 false (wrap64 (x10_1 + 1)) a0_0 l0_1 a0_0 (x163001_1 ++ [y219])) else (none)) = some (r1, r2, r3) := by first | (rw [hy219]; with_reducible exact H) | (have H2_ := (Option.bind_some _ _).symm.trans H; rw [hy219]; with_reducible exact H2_) | (have H2_ := (Option.bind_some _ _).symm.trans H; with_reducible exact H2_) | with_reducible exact H | (rw [hy219]; exact H) | exact H
      have Ny219 := Aside0.mk hy219
      clear hy219
      by_cases c104 : x163001_1.length < 5864062014805
      rotate_left
      ·
       rw [if_neg c104] at H
       exact absurd H (by simp)
      rw [if_pos c104] at H
      have LMc104 := Aside0.mk c104
      clear c104
      obtain ⟨y222, hy222⟩ : ∃ y_ : List (List Int), y_ = (x163001_1 ++ [y219]) := ⟨_, rfl⟩
      replace H : (spec_AddAttack.l0 kj11 a1 a2 false (wrap64 (x10_1 + 1)) a0_0 l0_1 a0_0 y222) = some (r1, r2, r3) := by first | (rw [hy222]; with_reducible exact H) | (have H2_ := (Option.bind_some _ _).symm.trans H; rw [hy222]; with_reducible exact H2_) | (have H2_ := (Option.bind_some _ _).symm.trans H; with_reducible exact H2_) | with_reducible exact H | (rw [hy222]; exact H) | exact H
      have Ny222 := Aside0.mk hy222
      clear hy222
      have H' := Aside0.mk H
      clear H
      have hnb105 := NB160_161.out
      have hnc105 := NB161_160.out
      have hnb106 := NB160_162.out
      have hnc106 := NB162_160.out
      have hcz107_0 : wc.cell? ⟨gb160, 0, none⟩ = some (.int .i64 a0_0) := (blk_cell BK160.out 0).trans rfl
      have hcz107_1 : wc.cell? ⟨gb160, 1, none⟩ = some (.slice A0_1 l0_1.length c0_1) := (blk_cell BK160.out 1).trans rfl
      have hfz107_0 := blk_frozen BK160.out 0
      have hfz107_1 := blk_frozen BK160.out 1
      have p164 : 0 ≤ (x10_1 : Int) := mD
      have q164 : x10_1 < (l0_1.length : Int) := mD
      obtain ⟨ad164, A164_0, c164_0, e164, hx164_0, hl164_0, hi164_0⟩ := at_L1 HR0_1.out x10_1 p164 q164
      cases e164
      replace hx164_0 := (HB.out.cell (World.block_lt_of_cell? w _ hx164_0)).trans hx164_0
      have HR164_0 := Aside0.mk hi164_0
      have HC164_0 := Aside0.mk hl164_0
      clear hi164_0 hl164_0
      replace p164 := eq_true p164
      replace q164 := eq_true q164
      have p174 : 0 ≤ (0 : Int) := (by omega)
      have q174 : 0 < ((rd_L1 l0_1 x10_1).length : Int) := mD
      obtain ⟨ad174, e174, hx174_0⟩ := Kd.at_int HR164_0.out 0 p174 q174
      cases e174
      have qi174 : (0 < (rd_L1 l0_1 x10_1).length) = True := eq_true (by omega)
      (try rw [show ((0 : Int)).toNat = 0 from rfl] at hx174_0)
      (try rw [Addr.add_zero'] at hx174_0)
      replace hx174_0 := (HB.out.cell (World.block_lt_of_cell? w _ hx174_0)).trans hx174_0
      replace p174 := eq_true p174
      replace q174 := eq_true q174
      have p190 : 0 ≤ (0 : Int) := (by omega)
      have q190 : 0 < ((rd_L1 l0_1 x10_1).length : Int) := mD
      obtain ⟨ad190, e190, hx190_0⟩ := Kd.at_int HR164_0.out 0 p190 q190
      obtain rfl : ad174 = ad190 := (by injection e190)
      have qi190 : (0 < (rd_L1 l0_1 x10_1).length) = True := eq_true (by omega)
      (try rw [show ((0 : Int)).toNat = 0 from rfl] at hx190_0)
      (try rw [Addr.add_zero'] at hx190_0)
      replace hx190_0 := (HB.out.cell (World.block_lt_of_cell? w _ hx190_0)).trans hx190_0
      replace p190 := eq_true p190
      replace q190 := eq_true q190
      try go_wp2
      have n0_ := Aside0.mk (Kd.S_drew HO_163001.out)
      have n1_ := Aside0.mk (blk_drew BK160.out)
      have n2_ := Aside0.mk (blk_drew BK161.out)
      have n3_ := Aside0.mk (blk_drew BK162.out)
      have n4_ := Aside0.mk (below_drew1 HB.out)
      clear HO_163001 BK160 BK161 BK162 HB; have HO_163001 := n0_; have BK160 := n1_; have BK161 := n2_; have BK162 := n3_; have HB := n4_; clear n0_ n1_ n2_ n3_ n4_
      refine start_ (n := 9) (S := fun w' => w'.cell? ⟨gb162, 0, none⟩ = some (.int .i64 a0_0) ∧ w'.cell? ⟨gb162, 1, none⟩ = some (u163001)) (ds := [8]) (L_ 0 9) (by kernel_rfl) rfl rfl ⟨(blk_cell BK162.out 0).trans rfl, (blk_cell BK162.out 1).trans rfl⟩ (fun hHeld => ?_); refine with_tabW spec_AddAttack.tab10 spec_AddAttack.bits10 (fun HT_ HW_ => ?_)
      generalize wc.drew = w108 at HO_163001 BK160 BK161 BK162 HB hHeld ⊢
      refine ps 0 62 (L_ 1 9) HT_.out ?_
      refine ps 3 65 #[true, false, false, true, false, false, false, false, false] HT_.out ?_
      refine take_ (i := 1) (N := some 63) (v := ?_) (a' := ?_) #[true, true, false, true, false, false, false, false, false] rfl rfl (take_ofW HT_.out HW_.out (by kernel_rfl)) (fun _ _ _ h => h) (Or.inl ⟨by rfl, ?_⟩) hHeld ?_ ?_
      rotate_left
      ·
       rintro w' ⟨s0, s1⟩
       go_simp
       with_reducible rfl
      rotate_left
      ·
       simp only [Act.put, List.setIfInBounds_toArray, List.set_cons_zero, List.set_cons_succ, i64_w, i32_w]
       rfl
      refine one_ (i := 2) (N := some 64) (L_ 4 9) rfl rfl (one_of HT_.out (by kernel_rfl)) (by decide) (fun K hK => ?_)
      refine Kd.R_lit_step (Kd.int .i64) _ 3 ?hg (N := 64) ?hd (xs := ([] : List Int)) (inner := []) (ok := fun _ => True) (okp := fun _ => True) ?hr ?hp (fun _ hk => hk) trivial (Below.refl _ _) (Nat.le_refl _) (by simp) ?_; (case hd => rfl); (case hg => rfl); (case hr => first | (go_simp; done) | (go_simp; rfl)); (case hp => exact (Reps.none _ _))
      intro v217 w109 ho110 hb hg_ hnew_
      clear hg_ hnew_
      (first | rw [← Ny216.out] at ho110 | (simp only [Int.reduceToNat] at ho110; rw [← Ny216.out] at ho110))
      have n0_ := Aside0.mk (Kd.S_elder' (mS HO_163001.out) (Kd.R_base ho110) hb)
      have n1_ := Aside0.mk (Kd.R_lower ho110 (below_size mG))
      have n2_ := Aside0.mk (blk_below (g := gb160) (o := .cells #[.int .i64 a0_0, .slice (some ad164) l0_1.length c0_1] 28 (0, 0)) ((mK (BK160.out))) hb)
      have n3_ := Aside0.mk (blk_below (g := gb161) (o := .cells #[.int .i64 0, .slice none 0 0] 28 (0, 0)) ((mK (BK161.out))) hb)
      have n4_ := Aside0.mk (blk_below (g := gb162) (o := .cells #[.int .i64 a0_0, u163001] 28 (0, 0)) ((mK (BK162.out))) hb)
      have n5_ := Aside0.mk (below_step mG hb)
      clear HO_163001 BK160 BK161 BK162 HB; have HO_163001 := n0_; have HO218 := n1_; have BK160 := n2_; have BK161 := n3_; have BK162 := n4_; have HB := n5_; clear n0_ n1_ n2_ n3_ n4_ n5_; clear hb ho110
      refine hK.out _ _ ⟨(blk_cell BK162.out 0).trans rfl, (blk_cell BK162.out 1).trans rfl⟩ (fun hHeld => ?_)
      clear hK K
      refine norm_ (a' := ?_) ?_ ?_
      rotate_left
      ·
       show Act.put _ (some 64) _ = _
       simp only [Act.put, List.setIfInBounds_toArray, List.set_cons_zero, List.set_cons_succ, i64_w, i32_w]
       rfl
      refine one_ (i := 4) (N := some 66) (L_ 5 9) rfl rfl (one_of HT_.out (by kernel_rfl)) (by decide) (fun K hK => ?_)
      refine Kd.R_append_rows_step (Kd.int .i64) (w0 := w) w.heap.size (by rfl) (.tmp 64) (.tmp 65) 25 3 (.int .i64 0) 8 rfl Try.underlying25 info3 rfl (by decide) (by omega) v217 y216 (rd_L1 l0_1 x10_1) _ _ _ (fun _ => True) (fun _ => False) rfl rfl ?aO ?aR (fun _ _ h => h) (fun _ h => h.elim) ?aF ?aB ?aS ?aL ?_
      (case aR => exact mC (Kd.C_below HR164_0.out HB.out))
      (case aB => exact mG)
      (case aF => exact (fun _ _ => trivial))
      (case aO => exact (mR HO218.out))
      (case aS => exact (below_size mG))
      (case aL => have := LMc103.out; omega)
      intro v220 w111 ho hb hg hat
      rw [← Ny219.out] at ho
      have n0_ := Aside0.mk (Kd.S_after (ok := (fun _ => True)) (mS HO_163001.out) hg hat)
      have n1_ := Aside0.mk (blk_grown (g := gb160) (o := .cells #[.int .i64 a0_0, .slice (some ad164) l0_1.length c0_1] 28 (0, 0)) ((mK (BK160.out))) hg (Kd.R_ne HO218.out BK160.out (by decide)))
      have n2_ := Aside0.mk (blk_grown (g := gb161) (o := .cells #[.int .i64 0, .slice none 0 0] 28 (0, 0)) ((mK (BK161.out))) hg (Kd.R_ne HO218.out BK161.out (by decide)))
      have n3_ := Aside0.mk (blk_grown (g := gb162) (o := .cells #[.int .i64 a0_0, u163001] 28 (0, 0)) ((mK (BK162.out))) hg (Kd.R_ne HO218.out BK162.out (by decide)))
      have n4_ := Aside0.mk (hb)
      have n5_ := Aside0.mk (ho)
      clear HO_163001 BK160 BK161 BK162 HB HO218; have HO_163001 := n0_; have BK160 := n1_; have BK161 := n2_; have BK162 := n3_; have HB := n4_; have HO221 := n5_; clear n0_ n1_ n2_ n3_ n4_ n5_; clear ho hb hg hat
      obtain ⟨Ao113, co113, eo113⟩ := Kd.R_slice HO221.out
      (first | subst eo113 | (injection eo113 with f1_ f2_ f3_; have f4_ := f1_.symm; have f5_ := f3_.symm; clear f1_ f2_ f3_; subst f4_; subst f5_))
      refine hK.out _ _ ⟨(blk_cell BK162.out 0).trans rfl, (blk_cell BK162.out 1).trans rfl⟩ (fun hHeld => ?_)
      clear hK K
      refine norm_ (a' := ?_) ?_ ?_
      rotate_left
      ·
       show Act.put _ (some 66) _ = _
       simp only [Act.put, List.setIfInBounds_toArray, List.set_cons_zero, List.set_cons_succ, i64_w, i32_w]
       rfl
      refine one_ (i := 5) (N := some 67) (L_ 6 9) rfl rfl (one_of HT_.out (by kernel_rfl)) (by decide) (fun K hK => ?_)
      refine value_ (w1 := ?_) (v := ?_) (by rfl) rfl ?_ ?_
      rotate_left 2
      ·
       go_simp
       constructor
       ·
        rfl
       ·
        rfl
      refine hK.out _ _ ⟨(blk_cell (blk_alloc BK162.out _) 0).trans rfl, (blk_cell (blk_alloc BK162.out _) 1).trans rfl⟩ (fun hHeld => ?_)
      clear hK K
      refine norm_ (a' := ?_) ?_ ?_
      rotate_left
      ·
       show Act.put _ (some 67) _ = _
       simp only [Act.put, List.setIfInBounds_toArray, List.set_cons_zero, List.set_cons_succ, i64_w, i32_w]
       rfl
      refine one_ (i := 6) (N := some 68) (L_ 7 9) rfl rfl (one_of HT_.out (by kernel_rfl)) (by decide) (fun K hK => ?_)
      refine Kd.S_append_step (Kd.slice 3 (Kd.int .i64)) (w0 := w) w.heap.size (by rfl) (.tmp 63) (.tmp 67) 22 25 (.slice none 0 0) 24 rfl Try.underlying22 info25 rfl (by decide) (by omega) u163001 x163001_1 y219 [.slice Ao113 y219.length co113] (fun _ => True) (fun k_ => some k_ = (.slice Ao113 y219.length co113 : Value).ownBlock) rfl rfl ?aP (fun k_ hk_ => ((Kd.R_mono (ok' := fun k_ => ((fun _ => True)) k_ ∧ some k_ ≠ (u163001 : Value).ownBlock) (Kd.R_apart' (HO221.out) (Kd.S_typed HO_163001.out) (by decide)) (fun k_ hk => ⟨trivial, hk.2⟩))).1 k_ hk_.symm) ?aF ?aO ?aB ?aS ?aL ?_
      (case aP => exact Kd.M_row (Kd.R_mono (Kd.R_tight rfl (Kd.R_mono (ok' := fun k_ => ((fun _ => True)) k_ ∧ some k_ ≠ (u163001 : Value).ownBlock) (Kd.R_apart' (HO221.out) (Kd.S_typed HO_163001.out) (by decide)) (fun k_ hk => ⟨trivial, hk.2⟩))) (fun _ h_ => h_)))
      (case aB => exact mG)
      (case aF => exact (fun _ _ => trivial))
      (case aO => exact (mS (Kd.S_mono HO_163001.out (fun k_ hk => ⟨trivial, fun e_ => hk.2 e_⟩))))
      (case aS => exact (below_size mG))
      (case aL => have := LMc104.out; omega)
      intro v223 w112 ho hb hg hat
      rw [← Ny222.out] at ho
      have n0_ := Aside0.mk (blk_grown (g := gb160) (o := .cells #[.int .i64 a0_0, .slice (some ad164) l0_1.length c0_1] 28 (0, 0)) ((mK (BK160.out))) hg (Kd.S_ne HO_163001.out BK160.out (by decide)))
      have n1_ := Aside0.mk (blk_grown (g := gb161) (o := .cells #[.int .i64 0, .slice none 0 0] 28 (0, 0)) ((mK (BK161.out))) hg (Kd.S_ne HO_163001.out BK161.out (by decide)))
      have n2_ := Aside0.mk (blk_grown (g := gb162) (o := .cells #[.int .i64 a0_0, u163001] 28 (0, 0)) ((mK (BK162.out))) hg (Kd.S_ne HO_163001.out BK162.out (by decide)))
      have n3_ := Aside0.mk (hb)
      have n4_ := Aside0.mk (ho)
      clear BK160 BK161 BK162 HB HO_163001 HO221; have BK160 := n0_; have BK161 := n1_; have BK162 := n2_; have HB := n3_; have HO224 := n4_; clear n0_ n1_ n2_ n3_ n4_; clear ho hb hg hat
      obtain ⟨Ao114, co114, eo114⟩ := Kd.S_slice HO224.out
      (first | subst eo114 | (injection eo114 with f1_ f2_ f3_; have f4_ := f1_.symm; have f5_ := f3_.symm; clear f1_ f2_ f3_; subst f4_; subst f5_))
      refine hK.out _ _ ⟨(blk_cell BK162.out 0).trans rfl, (blk_cell BK162.out 1).trans rfl⟩ (fun hHeld => ?_)
      clear hK K
      refine norm_ (a' := ?_) ?_ ?_
      rotate_left
      ·
       show Act.put _ (some 68) _ = _
       simp only [Act.put, List.setIfInBounds_toArray, List.set_cons_zero, List.set_cons_succ, i64_w, i32_w]
       rfl
      refine ps 7 69 (L_ 8 9) HT_.out ?_
      refine last_ (i := 8) (N := none) (L_ 9 9) rfl rfl (one_of HT_.out (by kernel_rfl)) (by decide) (fun K hK => ?_)
      have hs115 : w112.cell? ⟨gb162, 1, none⟩ = some (u163001) := (blk_cell BK162.out 1).trans rfl
      have hfs115 := blk_frozen BK162.out 1
      have hns115_0 := NB160_162.out
      have hns115_1 := NB161_162.out
      have hms115_0 := NB162_160.out
      have hms115_1 := NB162_161.out
      refine skip_ (w1 := ?_) (by rfl) rfl ?_ ?_
      rotate_left
      ·
       go_simp
       rfl
      refine hK.out _ _ ?_
      clear hK K
      refine done_ (done_of HT_.out (by kernel_rfl)) ?_
      try go_wp2
      go_roundg kj11
      case measure => have := HK1.out; have := HJ11.out; omega
      case rel => exact ⟨(false), (wrap64 (x10_1 + 1)), (y222), (.slice Ao114 y222.length co114), mF, mF, H', ⟨by have := HK1.out; have := HJ11.out; omega⟩, ⟨by (with_reducible repeat (first | apply Kd.S_alloc | apply Kd.S_drewN | apply Kd.S_drew)); exact Kd.S_mono (Kd.S_far (p := ⟨gb162, 1, none⟩) (Kd.S_types HO224.out BK162.out (by decide)) (fun _ hk => hk.2) (.slice Ao114 y222.length co114)) (fun _ hk => trivial)⟩, ⟨by refine pK ?_; refine blk_far ?_ NB160_162.out _; refine pK ?_; exact BK160.out⟩, ⟨by refine pK ?_; refine blk_far ?_ NB161_162.out _; refine pK ?_; exact BK161.out⟩, ⟨by refine pK ?_; refine blk_put (cs := #[.int .i64 a0_0, u163001]) ?_ 1 _ rfl; refine pK ?_; exact BK162.out⟩, ⟨mG⟩⟩
     rw [if_pos c64] at H
     have c64b0 : ((rd (rd_L1 l0_1 x10_1) 0) == a1) = true := beq_iff_eq.mpr c64
     have c64b1 : ((rd (rd_L1 l0_1 x10_1) 0) != a1) = false := bne_eq_false_iff_eq.mpr c64
     clear c64
     by_cases c65 : 1 < ((rd_L1 l0_1 x10_1).length : Int)
     rotate_left
     ·
      rw [if_neg c65] at H
      exact absurd H (by simp)
     rw [if_pos c65] at H
     have c65b0 : decide (1 < ((rd_L1 l0_1 x10_1).length : Int)) = true := decide_eq_true c65
     have c65b1 : decide (1 < (rd_L1 l0_1 x10_1).length) = true := decide_eq_true (by omega)
     clear c65
     by_cases c66 : (rd (rd_L1 l0_1 x10_1) 1) > a2
     rotate_left
     ·
      rw [if_neg c66] at H
      have c66b0 : decide (a2 < (rd (rd_L1 l0_1 x10_1) 1)) = false := decide_eq_false c66
      clear c66
      obtain ⟨y207, hy207⟩ : ∃ y_ : List Int, y_ = (([] : List Int)) := ⟨_, rfl⟩
      replace H : (if y207.length + (rd_L1 l0_1 x10_1).length < 17592186044416 then (if x163001_1.length < 5864062014805 then (spec_AddAttack.l0 kj11 a1 a2 false (wrap64 (x10_1 + 1)) a0_0 l0_1 a0_0 (x163001_1 ++ [(y207 ++ (rd_L1 l0_1 x10_1))])) else (none)) else (none)) = some (r1, r2, r3) := by first | (rw [hy207]; with_reducible exact H) | (have H2_ := (Option.bind_some _ _).symm.trans H; rw [hy207]; with_reducible exact H2_) | (have H2_ := (Option.bind_some _ _).symm.trans H; with_reducible exact H2_) | with_reducible exact H | (rw [hy207]; exact H) | exact H
      have Ny207 := Aside0.mk hy207
      clear hy207
      by_cases c90 : y207.length + (rd_L1 l0_1 x10_1).length < 17592186044416
      rotate_left
      ·
       rw [if_neg c90] at H
       exact absurd H (by simp)
      rw [if_pos c90] at H
      have LMc90 := Aside0.mk c90
      clear c90
      obtain ⟨y210, hy210⟩ : ∃ y_ : List Int, y_ = (y207 ++ (rd_L1 l0_1 x10_1)) := ⟨_, rfl⟩
      replace H : (if x163001_1.length < 5864062014805 then (spec_AddAttack.l0 kj11 a1 a2 false (wrap64 (x10_1 + 1)) a0_0 l0_1 a0_0 (x163001_1 ++ [y210])) else (none)) = some (r1, r2, r3) := by first | (rw [hy210]; with_reducible exact H) | (have H2_ := (Option.bind_some _ _).symm.trans H; rw [hy210]; with_reducible exact H2_) | (have H2_ := (Option.bind_some _ _).symm.trans H; with_reducible exact H2_) | with_reducible exact H | (rw [hy210]; exact H) | exact H
      have Ny210 := Aside0.mk hy210
      clear hy210
      by_cases c91 : x163001_1.length < 5864062014805
      rotate_left
      ·
       rw [if_neg c91] at H
       exact absurd H (by simp)
      rw [if_pos c91] at H
      have LMc91 := Aside0.mk c91
      clear c91
      obtain ⟨y213, hy213⟩ : ∃ y_ : List (List Int), y_ = (x163001_1 ++ [y210]) := ⟨_, rfl⟩
      replace H : (spec_AddAttack.l0 kj11 a1 a2 false (wrap64 (x10_1 + 1)) a0_0 l0_1 a0_0 y213) = some (r1, r2, r3) := by first | (rw [hy213]; with_reducible exact H) | (have H2_ := (Option.bind_some _ _).symm.trans H; rw [hy213]; with_reducible exact H2_) | (have H2_ := (Option.bind_some _ _).symm.trans H; with_reducible exact H2_) | with_reducible exact H | (rw [hy213]; exact H) | exact H
      have Ny213 := Aside0.mk hy213
      clear hy213
      have H' := Aside0.mk H
      clear H
      have hnb92 := NB160_161.out
      have hnc92 := NB161_160.out
      have hnb93 := NB160_162.out
      have hnc93 := NB162_160.out
      have hcz94_0 : wc.cell? ⟨gb160, 0, none⟩ = some (.int .i64 a0_0) := (blk_cell BK160.out 0).trans rfl
      have hcz94_1 : wc.cell? ⟨gb160, 1, none⟩ = some (.slice A0_1 l0_1.length c0_1) := (blk_cell BK160.out 1).trans rfl
      have hfz94_0 := blk_frozen BK160.out 0
      have hfz94_1 := blk_frozen BK160.out 1
      have p164 : 0 ≤ (x10_1 : Int) := mD
      have q164 : x10_1 < (l0_1.length : Int) := mD
      obtain ⟨ad164, A164_0, c164_0, e164, hx164_0, hl164_0, hi164_0⟩ := at_L1 HR0_1.out x10_1 p164 q164
      cases e164
      replace hx164_0 := (HB.out.cell (World.block_lt_of_cell? w _ hx164_0)).trans hx164_0
      have HR164_0 := Aside0.mk hi164_0
      have HC164_0 := Aside0.mk hl164_0
      clear hi164_0 hl164_0
      replace p164 := eq_true p164
      replace q164 := eq_true q164
      have p174 : 0 ≤ (0 : Int) := (by omega)
      have q174 : 0 < ((rd_L1 l0_1 x10_1).length : Int) := mD
      obtain ⟨ad174, e174, hx174_0⟩ := Kd.at_int HR164_0.out 0 p174 q174
      cases e174
      have qi174 : (0 < (rd_L1 l0_1 x10_1).length) = True := eq_true (by omega)
      (try rw [show ((0 : Int)).toNat = 0 from rfl] at hx174_0)
      (try rw [Addr.add_zero'] at hx174_0)
      replace hx174_0 := (HB.out.cell (World.block_lt_of_cell? w _ hx174_0)).trans hx174_0
      replace p174 := eq_true p174
      replace q174 := eq_true q174
      have p190 : 0 ≤ (0 : Int) := (by omega)
      have q190 : 0 < ((rd_L1 l0_1 x10_1).length : Int) := mD
      obtain ⟨ad190, e190, hx190_0⟩ := Kd.at_int HR164_0.out 0 p190 q190
      obtain rfl : ad174 = ad190 := (by injection e190)
      have qi190 : (0 < (rd_L1 l0_1 x10_1).length) = True := eq_true (by omega)
      (try rw [show ((0 : Int)).toNat = 0 from rfl] at hx190_0)
      (try rw [Addr.add_zero'] at hx190_0)
      replace hx190_0 := (HB.out.cell (World.block_lt_of_cell? w _ hx190_0)).trans hx190_0
      replace p190 := eq_true p190
      replace q190 := eq_true q190
      have p191 : 0 ≤ (1 : Int) := (by omega)
      have q191 : 1 < ((rd_L1 l0_1 x10_1).length : Int) := mD
      obtain ⟨ad191, e191, hx191_0⟩ := Kd.at_int HR164_0.out 1 p191 q191
      obtain rfl : ad174 = ad191 := (by injection e191)
      (try simp only [show (1 : Int).toNat = 1 from rfl, Nat.reduceMul, Nat.reduceEqDiff, Go.Addr.add, ↓reduceIte] at hx191_0)
      have qi191 : (1 < (rd_L1 l0_1 x10_1).length) = True := eq_true (by omega)
      (try rw [show ((1 : Int)).toNat = 1 from rfl] at hx191_0)
      replace hx191_0 := (HB.out.cell (World.block_lt_of_cell? w _ hx191_0)).trans hx191_0
      replace p191 := eq_true p191
      replace q191 := eq_true q191
      try go_wp2
      have n0_ := Aside0.mk (Kd.S_drew HO_163001.out)
      have n1_ := Aside0.mk (blk_drew BK160.out)
      have n2_ := Aside0.mk (blk_drew BK161.out)
      have n3_ := Aside0.mk (blk_drew BK162.out)
      have n4_ := Aside0.mk (below_drew1 HB.out)
      clear HO_163001 BK160 BK161 BK162 HB; have HO_163001 := n0_; have BK160 := n1_; have BK161 := n2_; have BK162 := n3_; have HB := n4_; clear n0_ n1_ n2_ n3_ n4_
      refine start_ (n := 9) (S := fun w' => w'.cell? ⟨gb162, 0, none⟩ = some (.int .i64 a0_0) ∧ w'.cell? ⟨gb162, 1, none⟩ = some (u163001)) (ds := [8]) (L_ 0 9) (by kernel_rfl) rfl rfl ⟨(blk_cell BK162.out 0).trans rfl, (blk_cell BK162.out 1).trans rfl⟩ (fun hHeld => ?_); refine with_tabW spec_AddAttack.tab10 spec_AddAttack.bits10 (fun HT_ HW_ => ?_)
      generalize wc.drew = w95 at HO_163001 BK160 BK161 BK162 HB hHeld ⊢
      refine ps 0 62 (L_ 1 9) HT_.out ?_
      refine ps 3 65 #[true, false, false, true, false, false, false, false, false] HT_.out ?_
      refine take_ (i := 1) (N := some 63) (v := ?_) (a' := ?_) #[true, true, false, true, false, false, false, false, false] rfl rfl (take_ofW HT_.out HW_.out (by kernel_rfl)) (fun _ _ _ h => h) (Or.inl ⟨by rfl, ?_⟩) hHeld ?_ ?_
      rotate_left
      ·
       rintro w' ⟨s0, s1⟩
       go_simp
       with_reducible rfl
      rotate_left
      ·
       simp only [Act.put, List.setIfInBounds_toArray, List.set_cons_zero, List.set_cons_succ, i64_w, i32_w]
       rfl
      refine one_ (i := 2) (N := some 64) (L_ 4 9) rfl rfl (one_of HT_.out (by kernel_rfl)) (by decide) (fun K hK => ?_)
      refine Kd.R_lit_step (Kd.int .i64) _ 3 ?hg (N := 64) ?hd (xs := ([] : List Int)) (inner := []) (ok := fun _ => True) (okp := fun _ => True) ?hr ?hp (fun _ hk => hk) trivial (Below.refl _ _) (Nat.le_refl _) (by simp) ?_; (case hd => rfl); (case hg => rfl); (case hr => first | (go_simp; done) | (go_simp; rfl)); (case hp => exact (Reps.none _ _))
      intro v208 w96 ho97 hb hg_ hnew_
      clear hg_ hnew_
      (first | rw [← Ny207.out] at ho97 | (simp only [Int.reduceToNat] at ho97; rw [← Ny207.out] at ho97))
      have n0_ := Aside0.mk (Kd.S_elder' (mS HO_163001.out) (Kd.R_base ho97) hb)
      have n1_ := Aside0.mk (Kd.R_lower ho97 (below_size mG))
      have n2_ := Aside0.mk (blk_below (g := gb160) (o := .cells #[.int .i64 a0_0, .slice (some ad164) l0_1.length c0_1] 28 (0, 0)) ((mK (BK160.out))) hb)
      have n3_ := Aside0.mk (blk_below (g := gb161) (o := .cells #[.int .i64 0, .slice none 0 0] 28 (0, 0)) ((mK (BK161.out))) hb)
      have n4_ := Aside0.mk (blk_below (g := gb162) (o := .cells #[.int .i64 a0_0, u163001] 28 (0, 0)) ((mK (BK162.out))) hb)
      have n5_ := Aside0.mk (below_step mG hb)
      clear HO_163001 BK160 BK161 BK162 HB; have HO_163001 := n0_; have HO209 := n1_; have BK160 := n2_; have BK161 := n3_; have BK162 := n4_; have HB := n5_; clear n0_ n1_ n2_ n3_ n4_ n5_; clear hb ho97
      refine hK.out _ _ ⟨(blk_cell BK162.out 0).trans rfl, (blk_cell BK162.out 1).trans rfl⟩ (fun hHeld => ?_)
      clear hK K
      refine norm_ (a' := ?_) ?_ ?_
      rotate_left
      ·
       show Act.put _ (some 64) _ = _
       simp only [Act.put, List.setIfInBounds_toArray, List.set_cons_zero, List.set_cons_succ, i64_w, i32_w]
       rfl
      refine one_ (i := 4) (N := some 66) (L_ 5 9) rfl rfl (one_of HT_.out (by kernel_rfl)) (by decide) (fun K hK => ?_)
      refine Kd.R_append_rows_step (Kd.int .i64) (w0 := w) w.heap.size (by rfl) (.tmp 64) (.tmp 65) 25 3 (.int .i64 0) 8 rfl Try.underlying25 info3 rfl (by decide) (by omega) v208 y207 (rd_L1 l0_1 x10_1) _ _ _ (fun _ => True) (fun _ => False) rfl rfl ?aO ?aR (fun _ _ h => h) (fun _ h => h.elim) ?aF ?aB ?aS ?aL ?_
      (case aR => exact mC (Kd.C_below HR164_0.out HB.out))
      (case aB => exact mG)
      (case aF => exact (fun _ _ => trivial))
      (case aO => exact (mR HO209.out))
      (case aS => exact (below_size mG))
      (case aL => have := LMc90.out; omega)
      intro v211 w98 ho hb hg hat
      rw [← Ny210.out] at ho
      have n0_ := Aside0.mk (Kd.S_after (ok := (fun _ => True)) (mS HO_163001.out) hg hat)
      have n1_ := Aside0.mk (blk_grown (g := gb160) (o := .cells #[.int .i64 a0_0, .slice (some ad164) l0_1.length c0_1] 28 (0, 0)) ((mK (BK160.out))) hg (Kd.R_ne HO209.out BK160.out (by decide)))
      have n2_ := Aside0.mk (blk_grown (g := gb161) (o := .cells #[.int .i64 0, .slice none 0 0] 28 (0, 0)) ((mK (BK161.out))) hg (Kd.R_ne HO209.out BK161.out (by decide)))
      have n3_ := Aside0.mk (blk_grown (g := gb162) (o := .cells #[.int .i64 a0_0, u163001] 28 (0, 0)) ((mK (BK162.out))) hg (Kd.R_ne HO209.out BK162.out (by decide)))
      have n4_ := Aside0.mk (hb)
      have n5_ := Aside0.mk (ho)
      clear HO_163001 BK160 BK161 BK162 HB HO209; have HO_163001 := n0_; have BK160 := n1_; have BK161 := n2_; have BK162 := n3_; have HB := n4_; have HO212 := n5_; clear n0_ n1_ n2_ n3_ n4_ n5_; clear ho hb hg hat
      obtain ⟨Ao100, co100, eo100⟩ := Kd.R_slice HO212.out
      (first | subst eo100 | (injection eo100 with f1_ f2_ f3_; have f4_ := f1_.symm; have f5_ := f3_.symm; clear f1_ f2_ f3_; subst f4_; subst f5_))
      refine hK.out _ _ ⟨(blk_cell BK162.out 0).trans rfl, (blk_cell BK162.out 1).trans rfl⟩ (fun hHeld => ?_)
      clear hK K
      refine norm_ (a' := ?_) ?_ ?_
      rotate_left
      ·
       show Act.put _ (some 66) _ = _
       simp only [Act.put, List.setIfInBounds_toArray, List.set_cons_zero, List.set_cons_succ, i64_w, i32_w]
       rfl
      refine one_ (i := 5) (N := some 67) (L_ 6 9) rfl rfl (one_of HT_.out (by kernel_rfl)) (by decide) (fun K hK => ?_)
      refine value_ (w1 := ?_) (v := ?_) (by rfl) rfl ?_ ?_
      rotate_left 2
      ·
       go_simp
       constructor
       ·
        rfl
       ·
        rfl
      refine hK.out _ _ ⟨(blk_cell (blk_alloc BK162.out _) 0).trans rfl, (blk_cell (blk_alloc BK162.out _) 1).trans rfl⟩ (fun hHeld => ?_)
      clear hK K
      refine norm_ (a' := ?_) ?_ ?_
      rotate_left
      ·
       show Act.put _ (some 67) _ = _
       simp only [Act.put, List.setIfInBounds_toArray, List.set_cons_zero, List.set_cons_succ, i64_w, i32_w]
       rfl
      refine one_ (i := 6) (N := some 68) (L_ 7 9) rfl rfl (one_of HT_.out (by kernel_rfl)) (by decide) (fun K hK => ?_)
      refine Kd.S_append_step (Kd.slice 3 (Kd.int .i64)) (w0 := w) w.heap.size (by rfl) (.tmp 63) (.tmp 67) 22 25 (.slice none 0 0) 24 rfl Try.underlying22 info25 rfl (by decide) (by omega) u163001 x163001_1 y210 [.slice Ao100 y210.length co100] (fun _ => True) (fun k_ => some k_ = (.slice Ao100 y210.length co100 : Value).ownBlock) rfl rfl ?aP (fun k_ hk_ => ((Kd.R_mono (ok' := fun k_ => ((fun _ => True)) k_ ∧ some k_ ≠ (u163001 : Value).ownBlock) (Kd.R_apart' (HO212.out) (Kd.S_typed HO_163001.out) (by decide)) (fun k_ hk => ⟨trivial, hk.2⟩))).1 k_ hk_.symm) ?aF ?aO ?aB ?aS ?aL ?_
      (case aP => exact Kd.M_row (Kd.R_mono (Kd.R_tight rfl (Kd.R_mono (ok' := fun k_ => ((fun _ => True)) k_ ∧ some k_ ≠ (u163001 : Value).ownBlock) (Kd.R_apart' (HO212.out) (Kd.S_typed HO_163001.out) (by decide)) (fun k_ hk => ⟨trivial, hk.2⟩))) (fun _ h_ => h_)))
      (case aB => exact mG)
      (case aF => exact (fun _ _ => trivial))
      (case aO => exact (mS (Kd.S_mono HO_163001.out (fun k_ hk => ⟨trivial, fun e_ => hk.2 e_⟩))))
      (case aS => exact (below_size mG))
      (case aL => have := LMc91.out; omega)
      intro v214 w99 ho hb hg hat
      rw [← Ny213.out] at ho
      have n0_ := Aside0.mk (blk_grown (g := gb160) (o := .cells #[.int .i64 a0_0, .slice (some ad164) l0_1.length c0_1] 28 (0, 0)) ((mK (BK160.out))) hg (Kd.S_ne HO_163001.out BK160.out (by decide)))
      have n1_ := Aside0.mk (blk_grown (g := gb161) (o := .cells #[.int .i64 0, .slice none 0 0] 28 (0, 0)) ((mK (BK161.out))) hg (Kd.S_ne HO_163001.out BK161.out (by decide)))
      have n2_ := Aside0.mk (blk_grown (g := gb162) (o := .cells #[.int .i64 a0_0, u163001] 28 (0, 0)) ((mK (BK162.out))) hg (Kd.S_ne HO_163001.out BK162.out (by decide)))
      have n3_ := Aside0.mk (hb)
      have n4_ := Aside0.mk (ho)
      clear BK160 BK161 BK162 HB HO_163001 HO212; have BK160 := n0_; have BK161 := n1_; have BK162 := n2_; have HB := n3_; have HO215 := n4_; clear n0_ n1_ n2_ n3_ n4_; clear ho hb hg hat
      obtain ⟨Ao101, co101, eo101⟩ := Kd.S_slice HO215.out
      (first | subst eo101 | (injection eo101 with f1_ f2_ f3_; have f4_ := f1_.symm; have f5_ := f3_.symm; clear f1_ f2_ f3_; subst f4_; subst f5_))
      refine hK.out _ _ ⟨(blk_cell BK162.out 0).trans rfl, (blk_cell BK162.out 1).trans rfl⟩ (fun hHeld => ?_)
      clear hK K
      refine norm_ (a' := ?_) ?_ ?_
      rotate_left
      ·
       show Act.put _ (some 68) _ = _
       simp only [Act.put, List.setIfInBounds_toArray, List.set_cons_zero, List.set_cons_succ, i64_w, i32_w]
       rfl
      refine ps 7 69 (L_ 8 9) HT_.out ?_
      refine last_ (i := 8) (N := none) (L_ 9 9) rfl rfl (one_of HT_.out (by kernel_rfl)) (by decide) (fun K hK => ?_)
      have hs102 : w99.cell? ⟨gb162, 1, none⟩ = some (u163001) := (blk_cell BK162.out 1).trans rfl
      have hfs102 := blk_frozen BK162.out 1
      have hns102_0 := NB160_162.out
      have hns102_1 := NB161_162.out
      have hms102_0 := NB162_160.out
      have hms102_1 := NB162_161.out
      refine skip_ (w1 := ?_) (by rfl) rfl ?_ ?_
      rotate_left
      ·
       go_simp
       rfl
      refine hK.out _ _ ?_
      clear hK K
      refine done_ (done_of HT_.out (by kernel_rfl)) ?_
      try go_wp2
      go_roundg kj11
      case measure => have := HK1.out; have := HJ11.out; omega
      case rel => exact ⟨(false), (wrap64 (x10_1 + 1)), (y213), (.slice Ao101 y213.length co101), mF, mF, H', ⟨by have := HK1.out; have := HJ11.out; omega⟩, ⟨by (with_reducible repeat (first | apply Kd.S_alloc | apply Kd.S_drewN | apply Kd.S_drew)); exact Kd.S_mono (Kd.S_far (p := ⟨gb162, 1, none⟩) (Kd.S_types HO215.out BK162.out (by decide)) (fun _ hk => hk.2) (.slice Ao101 y213.length co101)) (fun _ hk => trivial)⟩, ⟨by refine pK ?_; refine blk_far ?_ NB160_162.out _; refine pK ?_; exact BK160.out⟩, ⟨by refine pK ?_; refine blk_far ?_ NB161_162.out _; refine pK ?_; exact BK161.out⟩, ⟨by refine pK ?_; refine blk_put (cs := #[.int .i64 a0_0, u163001]) ?_ 1 _ rfl; refine pK ?_; exact BK162.out⟩, ⟨mG⟩⟩
     rw [if_pos c66] at H
     have c66b0 : decide (a2 < (rd (rd_L1 l0_1 x10_1) 1)) = true := decide_eq_true c66
     clear c66
     obtain ⟨y192, hy192⟩ : ∃ y_ : List Int, y_ = (([a1, a2] : List Int)) := ⟨_, rfl⟩
     replace H : (if x163001_1.length < 5864062014805 then ((some (x163001_1 ++ [y192] : List (List Int))).bind fun y195 => ((some (([] : List Int) : List Int)).bind fun y198 => (if y198.length + (rd_L1 l0_1 x10_1).length < 17592186044416 then (if y195.length < 5864062014805 then (spec_AddAttack.l0 kj11 a1 a2 true (wrap64 (x10_1 + 1)) a0_0 l0_1 a0_0 (y195 ++ [(y198 ++ (rd_L1 l0_1 x10_1))])) else (none)) else (none)))) else (none)) = some (r1, r2, r3) := by first | (rw [hy192]; with_reducible exact H) | (have H2_ := (Option.bind_some _ _).symm.trans H; rw [hy192]; with_reducible exact H2_) | (have H2_ := (Option.bind_some _ _).symm.trans H; with_reducible exact H2_) | with_reducible exact H | (rw [hy192]; exact H) | exact H
     have Ny192 := Aside0.mk hy192
     clear hy192
     by_cases c67 : x163001_1.length < 5864062014805
     rotate_left
     ·
      rw [if_neg c67] at H
      exact absurd H (by simp)
     rw [if_pos c67] at H
     have LMc67 := Aside0.mk c67
     clear c67
     obtain ⟨y195, hy195⟩ : ∃ y_ : List (List Int), y_ = (x163001_1 ++ [y192]) := ⟨_, rfl⟩
     replace H : ((some (([] : List Int) : List Int)).bind fun y198 => (if y198.length + (rd_L1 l0_1 x10_1).length < 17592186044416 then (if y195.length < 5864062014805 then (spec_AddAttack.l0 kj11 a1 a2 true (wrap64 (x10_1 + 1)) a0_0 l0_1 a0_0 (y195 ++ [(y198 ++ (rd_L1 l0_1 x10_1))])) else (none)) else (none))) = some (r1, r2, r3) := by first | (rw [hy195]; with_reducible exact H) | (have H2_ := (Option.bind_some _ _).symm.trans H; rw [hy195]; with_reducible exact H2_) | (have H2_ := (Option.bind_some _ _).symm.trans H; with_reducible exact H2_) | with_reducible exact H | (rw [hy195]; exact H) | exact H
     have Ny195 := Aside0.mk hy195
     clear hy195
     obtain ⟨y198, hy198⟩ : ∃ y_ : List Int, y_ = (([] : List Int)) := ⟨_, rfl⟩
     replace H : (if y198.length + (rd_L1 l0_1 x10_1).length < 17592186044416 then (if y195.length < 5864062014805 then (spec_AddAttack.l0 kj11 a1 a2 true (wrap64 (x10_1 + 1)) a0_0 l0_1 a0_0 (y195 ++ [(y198 ++ (rd_L1 l0_1 x10_1))])) else (none)) else (none)) = some (r1, r2, r3) := by first | (rw [hy198]; with_reducible exact H) | (have H2_ := (Option.bind_some _ _).symm.trans H; rw [hy198]; with_reducible exact H2_) | (have H2_ := (Option.bind_some _ _).symm.trans H; with_reducible exact H2_) | with_reducible exact H | (rw [hy198]; exact H) | exact H
     have Ny198 := Aside0.mk hy198
     clear hy198
     by_cases c68 : y198.length + (rd_L1 l0_1 x10_1).length < 17592186044416
     rotate_left
     ·
      rw [if_neg c68] at H
      exact absurd H (by simp)
     rw [if_pos c68] at H
     have LMc68 := Aside0.mk c68
     clear c68
     obtain ⟨y201, hy201⟩ : ∃ y_ : List Int, y_ = (y198 ++ (rd_L1 l0_1 x10_1)) := ⟨_, rfl⟩
     replace H : (if y195.length < 5864062014805 then (spec_AddAttack.l0 kj11 a1 a2 true (wrap64 (x10_1 + 1)) a0_0 l0_1 a0_0 (y195 ++ [y201])) else (none)) = some (r1, r2, r3) := by first | (rw [hy201]; with_reducible exact H) | (have H2_ := (Option.bind_some _ _).symm.trans H; rw [hy201]; with_reducible exact H2_) | (have H2_ := (Option.bind_some _ _).symm.trans H; with_reducible exact H2_) | with_reducible exact H | (rw [hy201]; exact H) | exact H
     have Ny201 := Aside0.mk hy201
     clear hy201
     by_cases c69 : y195.length < 5864062014805
     rotate_left
     ·
      rw [if_neg c69] at H
      exact absurd H (by simp)
     rw [if_pos c69] at H
     have LMc69 := Aside0.mk c69
     clear c69
     obtain ⟨y204, hy204⟩ : ∃ y_ : List (List Int), y_ = (y195 ++ [y201]) := ⟨_, rfl⟩
     replace H : (spec_AddAttack.l0 kj11 a1 a2 true (wrap64 (x10_1 + 1)) a0_0 l0_1 a0_0 y204) = some (r1, r2, r3) := by first | (rw [hy204]; with_reducible exact H) | (have H2_ := (Option.bind_some _ _).symm.trans H; rw [hy204]; with_reducible exact H2_) | (have H2_ := (Option.bind_some _ _).symm.trans H; with_reducible exact H2_) | with_reducible exact H | (rw [hy204]; exact H) | exact H
     have Ny204 := Aside0.mk hy204
     clear hy204
     have H' := Aside0.mk H
     clear H
     have hnb70 := NB160_161.out
     have hnc70 := NB161_160.out
     have hnb71 := NB160_162.out
     have hnc71 := NB162_160.out
     have hcz72_0 : wc.cell? ⟨gb160, 0, none⟩ = some (.int .i64 a0_0) := (blk_cell BK160.out 0).trans rfl
     have hcz72_1 : wc.cell? ⟨gb160, 1, none⟩ = some (.slice A0_1 l0_1.length c0_1) := (blk_cell BK160.out 1).trans rfl
     have hfz72_0 := blk_frozen BK160.out 0
     have hfz72_1 := blk_frozen BK160.out 1
     have p164 : 0 ≤ (x10_1 : Int) := mD
     have q164 : x10_1 < (l0_1.length : Int) := mD
     obtain ⟨ad164, A164_0, c164_0, e164, hx164_0, hl164_0, hi164_0⟩ := at_L1 HR0_1.out x10_1 p164 q164
     cases e164
     replace hx164_0 := (HB.out.cell (World.block_lt_of_cell? w _ hx164_0)).trans hx164_0
     have HR164_0 := Aside0.mk hi164_0
     have HC164_0 := Aside0.mk hl164_0
     clear hi164_0 hl164_0
     replace p164 := eq_true p164
     replace q164 := eq_true q164
     have p174 : 0 ≤ (0 : Int) := (by omega)
     have q174 : 0 < ((rd_L1 l0_1 x10_1).length : Int) := mD
     obtain ⟨ad174, e174, hx174_0⟩ := Kd.at_int HR164_0.out 0 p174 q174
     cases e174
     have qi174 : (0 < (rd_L1 l0_1 x10_1).length) = True := eq_true (by omega)
     (try rw [show ((0 : Int)).toNat = 0 from rfl] at hx174_0)
     (try rw [Addr.add_zero'] at hx174_0)
     replace hx174_0 := (HB.out.cell (World.block_lt_of_cell? w _ hx174_0)).trans hx174_0
     replace p174 := eq_true p174
     replace q174 := eq_true q174
     have p190 : 0 ≤ (0 : Int) := (by omega)
     have q190 : 0 < ((rd_L1 l0_1 x10_1).length : Int) := mD
     obtain ⟨ad190, e190, hx190_0⟩ := Kd.at_int HR164_0.out 0 p190 q190
     obtain rfl : ad174 = ad190 := (by injection e190)
     have qi190 : (0 < (rd_L1 l0_1 x10_1).length) = True := eq_true (by omega)
     (try rw [show ((0 : Int)).toNat = 0 from rfl] at hx190_0)
     (try rw [Addr.add_zero'] at hx190_0)
     replace hx190_0 := (HB.out.cell (World.block_lt_of_cell? w _ hx190_0)).trans hx190_0
     replace p190 := eq_true p190
     replace q190 := eq_true q190
     have p191 : 0 ≤ (1 : Int) := (by omega)
     have q191 : 1 < ((rd_L1 l0_1 x10_1).length : Int) := mD
     obtain ⟨ad191, e191, hx191_0⟩ := Kd.at_int HR164_0.out 1 p191 q191
     obtain rfl : ad174 = ad191 := (by injection e191)
     (try simp only [show (1 : Int).toNat = 1 from rfl, Nat.reduceMul, Nat.reduceEqDiff, Go.Addr.add, ↓reduceIte] at hx191_0)
     have qi191 : (1 < (rd_L1 l0_1 x10_1).length) = True := eq_true (by omega)
     (try rw [show ((1 : Int)).toNat = 1 from rfl] at hx191_0)
     replace hx191_0 := (HB.out.cell (World.block_lt_of_cell? w _ hx191_0)).trans hx191_0
     replace p191 := eq_true p191
     replace q191 := eq_true q191
     have hnb73 := NB162_161.out
     have hnc73 := NB161_162.out
     have hcz74_0 : wc.cell? ⟨gb162, 0, none⟩ = some (.int .i64 a0_0) := (blk_cell BK162.out 0).trans rfl
     have hcz74_1 : wc.cell? ⟨gb162, 1, none⟩ = some (u163001) := (blk_cell BK162.out 1).trans rfl
     have hfz74_0 := blk_frozen BK162.out 0
     have hfz74_1 := blk_frozen BK162.out 1
     try go_wp2_with (first | ((with_reducible refine gate_dst (N := 58) rfl ?_); refine Kd.R_lit (Kd.int .i64) _ 3 ?hg (N := 58) ?hd (xs := ([a1, a2] : List Int)) (inner := [.int .i64 a1, .int .i64 a2]) (ok := fun _ => True) (okp := fun _ => True) ?hr ?hp (fun _ hk => hk) trivial (Below.refl _ _) (Nat.le_refl _) (by simp) ?_; (case hd => rfl); (case hg => rfl); (case hr => first | (go_simp; done) | (go_simp; rfl)); (case hp => exact (Reps.one (show Kd.M (Kd.int .i64) _ _ _ a1 [.int .i64 a1] from rfl) (Reps.one (show Kd.M (Kd.int .i64) _ _ _ a2 [.int .i64 a2] from rfl) (Reps.none _ _)))); intro v193 w75 ho76 hb hg_ hnew_; clear hg_ hnew_; (first | rw [← Ny192.out] at ho76 | (simp only [Int.reduceToNat] at ho76; rw [← Ny192.out] at ho76)); have n0_ := Aside0.mk (Kd.S_elder' (mS HO_163001.out) (Kd.R_base ho76) hb); have n1_ := Aside0.mk (Kd.R_lower ho76 (below_size mG)); have n2_ := Aside0.mk (blk_below (g := gb160) (o := .cells #[.int .i64 a0_0, .slice (some ad164) l0_1.length c0_1] 28 (0, 0)) ((mK (BK160.out))) hb); have n3_ := Aside0.mk (blk_below (g := gb161) (o := .cells #[.int .i64 0, .slice none 0 0] 28 (0, 0)) ((mK (BK161.out))) hb); have n4_ := Aside0.mk (blk_below (g := gb162) (o := .cells #[.int .i64 a0_0, u163001] 28 (0, 0)) ((mK (BK162.out))) hb); have n5_ := Aside0.mk (below_step mG hb); clear HO_163001 BK160 BK161 BK162 HB; have HO_163001 := n0_; have HO194 := n1_; have BK160 := n2_; have BK161 := n3_; have BK162 := n4_; have HB := n5_; clear n0_ n1_ n2_ n3_ n4_ n5_; clear hb ho76; obtain ⟨Ao78, co78, eo78⟩ := Kd.R_slice HO194.out; subst eo78) | ((with_reducible refine gate_builtin (b := .append) (xs := #[.tmp 55, .tmp 59]) rfl ?_); at_builtin; refine Kd.S_append (Kd.slice 3 (Kd.int .i64)) (w0 := w) w.heap.size rfl (.tmp 55) (.tmp 59) 22 25 (.slice none 0 0) 24 rfl Try.underlying22 info25 rfl (by decide) (by omega) u163001 x163001_1 y192 [.slice Ao78 y192.length co78] (fun _ => True) (fun k_ => some k_ = (.slice Ao78 y192.length co78 : Value).ownBlock) rfl rfl ?aP (fun k_ hk_ => ((Kd.R_mono (ok' := fun k_ => ((fun _ => True)) k_ ∧ some k_ ≠ (u163001 : Value).ownBlock) (Kd.R_apart' (HO194.out) (Kd.S_typed HO_163001.out) (by decide)) (fun k_ hk => ⟨trivial, hk.2⟩))).1 k_ hk_.symm) ?aF ?aO ?aB ?aS ?aL ?_; (case aP => exact Kd.M_row (Kd.R_mono (Kd.R_tight rfl (Kd.R_mono (ok' := fun k_ => ((fun _ => True)) k_ ∧ some k_ ≠ (u163001 : Value).ownBlock) (Kd.R_apart' (HO194.out) (Kd.S_typed HO_163001.out) (by decide)) (fun k_ hk => ⟨trivial, hk.2⟩))) (fun _ h_ => h_))); (case aB => exact mG); (case aF => exact (fun _ _ => trivial)); (case aO => exact (mS (Kd.S_mono HO_163001.out (fun k_ hk => ⟨trivial, fun e_ => hk.2 e_⟩)))); (case aS => exact (below_size mG)); (case aL => have := LMc67.out; omega); intro v196 w77 ho hb hg hat; rw [← Ny195.out] at ho; have n0_ := Aside0.mk (blk_grown (g := gb160) (o := .cells #[.int .i64 a0_0, .slice (some ad164) l0_1.length c0_1] 28 (0, 0)) ((mK (BK160.out))) hg (Kd.S_ne HO_163001.out BK160.out (by decide))); have n1_ := Aside0.mk (blk_grown (g := gb161) (o := .cells #[.int .i64 0, .slice none 0 0] 28 (0, 0)) ((mK (BK161.out))) hg (Kd.S_ne HO_163001.out BK161.out (by decide))); have n2_ := Aside0.mk (blk_grown (g := gb162) (o := .cells #[.int .i64 a0_0, u163001] 28 (0, 0)) ((mK (BK162.out))) hg (Kd.S_ne HO_163001.out BK162.out (by decide))); have n3_ := Aside0.mk (hb); have n4_ := Aside0.mk (ho); clear BK160 BK161 BK162 HB HO_163001 HO194; have BK160 := n0_; have BK161 := n1_; have BK162 := n2_; have HB := n3_; have HO197 := n4_; clear n0_ n1_ n2_ n3_ n4_; clear ho hb hg hat; obtain ⟨Ao79, co79, eo79⟩ := Kd.S_slice HO197.out; subst eo79; have hcz80_0 : w77.cell? ⟨gb162, 0, none⟩ = some (.int .i64 a0_0) := (blk_cell BK162.out 0).trans rfl; have hcz80_1 : w77.cell? ⟨gb162, 1, none⟩ = some (u163001) := (blk_cell BK162.out 1).trans rfl; have hfz80_0 := blk_frozen BK162.out 0; have hfz80_1 := blk_frozen BK162.out 1))
     have n0_ : Aside0 (Kd.S (Kd.slice 3 (Kd.int .i64)) 25 (w77.setCell ⟨gb162, 1, none⟩ (.slice Ao79 y195.length co79)) w.heap.size (fun _ => True) (.slice Ao79 y195.length co79) y195) := ⟨by (with_reducible repeat (first | apply Kd.S_alloc | apply Kd.S_drewN | apply Kd.S_drew)); exact Kd.S_mono (Kd.S_far (p := ⟨gb162, 1, none⟩) (Kd.S_types HO197.out BK162.out (by decide)) (fun _ hk => hk.2) (.slice Ao79 y195.length co79)) (fun _ hk => trivial)⟩
     have n1_ : Aside0 ((w77.setCell ⟨gb162, 1, none⟩ (.slice Ao79 y195.length co79)).heap[gb160]? = some (.cells #[.int .i64 a0_0, .slice (some ad164) l0_1.length c0_1] 28 (0, 0))) := ⟨by refine pK ?_; refine blk_far ?_ NB160_162.out _; refine pK ?_; exact BK160.out⟩
     have n2_ : Aside0 ((w77.setCell ⟨gb162, 1, none⟩ (.slice Ao79 y195.length co79)).heap[gb161]? = some (.cells #[.int .i64 0, .slice none 0 0] 28 (0, 0))) := ⟨by refine pK ?_; refine blk_far ?_ NB161_162.out _; refine pK ?_; exact BK161.out⟩
     have n3_ : Aside0 ((w77.setCell ⟨gb162, 1, none⟩ (.slice Ao79 y195.length co79)).heap[gb162]? = some (.cells #[.int .i64 a0_0, .slice Ao79 y195.length co79] 28 (0, 0))) := ⟨by refine pK ?_; refine blk_put (cs := #[.int .i64 a0_0, u163001]) ?_ 1 _ rfl; refine pK ?_; exact BK162.out⟩
     have n4_ : Aside0 (Below w.heap.size w (w77.setCell ⟨gb162, 1, none⟩ (.slice Ao79 y195.length co79))) := ⟨mG⟩
     (try clear HO197); (try clear BK160); (try clear BK161); (try clear BK162); (try clear HB)
     generalize (w77.setCell ⟨gb162, 1, none⟩ (.slice Ao79 y195.length co79)) = w81 at n0_ n1_ n2_ n3_ n4_ ⊢
     have HO197 := n0_; have BK160 := n1_; have BK161 := n2_; have BK162 := n3_; have HB := n4_; clear n0_ n1_ n2_ n3_ n4_
     have n0_ := Aside0.mk (Kd.S_drew HO197.out)
     have n1_ := Aside0.mk (blk_drew BK160.out)
     have n2_ := Aside0.mk (blk_drew BK161.out)
     have n3_ := Aside0.mk (blk_drew BK162.out)
     have n4_ := Aside0.mk (below_drew1 HB.out)
     clear HO197 BK160 BK161 BK162 HB; have HO197 := n0_; have BK160 := n1_; have BK161 := n2_; have BK162 := n3_; have HB := n4_; clear n0_ n1_ n2_ n3_ n4_
     refine start_ (n := 9) (S := fun w' => w'.cell? ⟨gb162, 0, none⟩ = some (.int .i64 a0_0) ∧ w'.cell? ⟨gb162, 1, none⟩ = some (.slice Ao79 y195.length co79)) (ds := [8]) (L_ 0 9) (by kernel_rfl) rfl rfl ⟨(blk_cell BK162.out 0).trans rfl, (blk_cell BK162.out 1).trans rfl⟩ (fun hHeld => ?_); refine with_tabW spec_AddAttack.tab10 spec_AddAttack.bits10 (fun HT_ HW_ => ?_)
     generalize w81.drew = w82 at HO197 BK160 BK161 BK162 HB hHeld ⊢
     refine ps 0 62 (L_ 1 9) HT_.out ?_
     refine ps 3 65 #[true, false, false, true, false, false, false, false, false] HT_.out ?_
     refine take_ (i := 1) (N := some 63) (v := ?_) (a' := ?_) #[true, true, false, true, false, false, false, false, false] rfl rfl (take_ofW HT_.out HW_.out (by kernel_rfl)) (fun _ _ _ h => h) (Or.inl ⟨by rfl, ?_⟩) hHeld ?_ ?_
     rotate_left
     ·
      rintro w' ⟨s0, s1⟩
      go_simp
      with_reducible rfl
     rotate_left
     ·
      simp only [Act.put, List.setIfInBounds_toArray, List.set_cons_zero, List.set_cons_succ, i64_w, i32_w]
      rfl
     refine one_ (i := 2) (N := some 64) (L_ 4 9) rfl rfl (one_of HT_.out (by kernel_rfl)) (by decide) (fun K hK => ?_)
     refine Kd.R_lit_step (Kd.int .i64) _ 3 ?hg (N := 64) ?hd (xs := ([] : List Int)) (inner := []) (ok := fun _ => True) (okp := fun _ => True) ?hr ?hp (fun _ hk => hk) trivial (Below.refl _ _) (Nat.le_refl _) (by simp) ?_; (case hd => rfl); (case hg => rfl); (case hr => first | (go_simp; done) | (go_simp; rfl)); (case hp => exact (Reps.none _ _))
     intro v199 w83 ho84 hb hg_ hnew_
     clear hg_ hnew_
     (first | rw [← Ny198.out] at ho84 | (simp only [Int.reduceToNat] at ho84; rw [← Ny198.out] at ho84))
     have n0_ := Aside0.mk (Kd.S_elder' (mS HO197.out) (Kd.R_base ho84) hb)
     have n1_ := Aside0.mk (Kd.R_lower ho84 (below_size mG))
     have n2_ := Aside0.mk (blk_below (g := gb160) (o := .cells #[.int .i64 a0_0, .slice (some ad164) l0_1.length c0_1] 28 (0, 0)) ((mK (BK160.out))) hb)
     have n3_ := Aside0.mk (blk_below (g := gb161) (o := .cells #[.int .i64 0, .slice none 0 0] 28 (0, 0)) ((mK (BK161.out))) hb)
     have n4_ := Aside0.mk (blk_below (g := gb162) (o := .cells #[.int .i64 a0_0, .slice Ao79 y195.length co79] 28 (0, 0)) ((mK (BK162.out))) hb)
     have n5_ := Aside0.mk (below_step mG hb)
     clear HO197 BK160 BK161 BK162 HB; have HO197 := n0_; have HO200 := n1_; have BK160 := n2_; have BK161 := n3_; have BK162 := n4_; have HB := n5_; clear n0_ n1_ n2_ n3_ n4_ n5_; clear hb ho84
     refine hK.out _ _ ⟨(blk_cell BK162.out 0).trans rfl, (blk_cell BK162.out 1).trans rfl⟩ (fun hHeld => ?_)
     clear hK K
     refine norm_ (a' := ?_) ?_ ?_
     rotate_left
     ·
      show Act.put _ (some 64) _ = _
      simp only [Act.put, List.setIfInBounds_toArray, List.set_cons_zero, List.set_cons_succ, i64_w, i32_w]
      rfl
     refine one_ (i := 4) (N := some 66) (L_ 5 9) rfl rfl (one_of HT_.out (by kernel_rfl)) (by decide) (fun K hK => ?_)
     refine Kd.R_append_rows_step (Kd.int .i64) (w0 := w) w.heap.size (by rfl) (.tmp 64) (.tmp 65) 25 3 (.int .i64 0) 8 rfl Try.underlying25 info3 rfl (by decide) (by omega) v199 y198 (rd_L1 l0_1 x10_1) _ _ _ (fun _ => True) (fun _ => False) rfl rfl ?aO ?aR (fun _ _ h => h) (fun _ h => h.elim) ?aF ?aB ?aS ?aL ?_
     (case aR => exact mC (Kd.C_below HR164_0.out HB.out))
     (case aB => exact mG)
     (case aF => exact (fun _ _ => trivial))
     (case aO => exact (mR HO200.out))
     (case aS => exact (below_size mG))
     (case aL => have := LMc68.out; omega)
     intro v202 w85 ho hb hg hat
     rw [← Ny201.out] at ho
     have n0_ := Aside0.mk (blk_grown (g := gb160) (o := .cells #[.int .i64 a0_0, .slice (some ad164) l0_1.length c0_1] 28 (0, 0)) ((mK (BK160.out))) hg (Kd.R_ne HO200.out BK160.out (by decide)))
     have n1_ := Aside0.mk (blk_grown (g := gb161) (o := .cells #[.int .i64 0, .slice none 0 0] 28 (0, 0)) ((mK (BK161.out))) hg (Kd.R_ne HO200.out BK161.out (by decide)))
     have n2_ := Aside0.mk (blk_grown (g := gb162) (o := .cells #[.int .i64 a0_0, .slice Ao79 y195.length co79] 28 (0, 0)) ((mK (BK162.out))) hg (Kd.R_ne HO200.out BK162.out (by decide)))
     have n3_ := Aside0.mk (Kd.S_after (ok := (fun _ => True)) (mS HO197.out) hg hat)
     have n4_ := Aside0.mk (hb)
     have n5_ := Aside0.mk (ho)
     clear BK160 BK161 BK162 HO197 HB HO200; have BK160 := n0_; have BK161 := n1_; have BK162 := n2_; have HO197 := n3_; have HB := n4_; have HO203 := n5_; clear n0_ n1_ n2_ n3_ n4_ n5_; clear ho hb hg hat
     obtain ⟨Ao87, co87, eo87⟩ := Kd.R_slice HO203.out
     (first | subst eo87 | (injection eo87 with f1_ f2_ f3_; have f4_ := f1_.symm; have f5_ := f3_.symm; clear f1_ f2_ f3_; subst f4_; subst f5_))
     refine hK.out _ _ ⟨(blk_cell BK162.out 0).trans rfl, (blk_cell BK162.out 1).trans rfl⟩ (fun hHeld => ?_)
     clear hK K
     refine norm_ (a' := ?_) ?_ ?_
     rotate_left
     ·
      show Act.put _ (some 66) _ = _
      simp only [Act.put, List.setIfInBounds_toArray, List.set_cons_zero, List.set_cons_succ, i64_w, i32_w]
      rfl
     refine one_ (i := 5) (N := some 67) (L_ 6 9) rfl rfl (one_of HT_.out (by kernel_rfl)) (by decide) (fun K hK => ?_)
     refine value_ (w1 := ?_) (v := ?_) (by rfl) rfl ?_ ?_
     rotate_left 2
     ·
      go_simp
      constructor
      ·
       rfl
      ·
       rfl
     refine hK.out _ _ ⟨(blk_cell (blk_alloc BK162.out _) 0).trans rfl, (blk_cell (blk_alloc BK162.out _) 1).trans rfl⟩ (fun hHeld => ?_)
     clear hK K
     refine norm_ (a' := ?_) ?_ ?_
     rotate_left
     ·
      show Act.put _ (some 67) _ = _
      simp only [Act.put, List.setIfInBounds_toArray, List.set_cons_zero, List.set_cons_succ, i64_w, i32_w]
      rfl
     refine one_ (i := 6) (N := some 68) (L_ 7 9) rfl rfl (one_of HT_.out (by kernel_rfl)) (by decide) (fun K hK => ?_)
     refine Kd.S_append_step (Kd.slice 3 (Kd.int .i64)) (w0 := w) w.heap.size (by rfl) (.tmp 63) (.tmp 67) 22 25 (.slice none 0 0) 24 rfl Try.underlying22 info25 rfl (by decide) (by omega) (.slice Ao79 y195.length co79) y195 y201 [.slice Ao87 y201.length co87] (fun _ => True) (fun k_ => some k_ = (.slice Ao87 y201.length co87 : Value).ownBlock) rfl rfl ?aP (fun k_ hk_ => ((Kd.R_mono (ok' := fun k_ => ((fun _ => True)) k_ ∧ some k_ ≠ (.slice Ao79 y195.length co79 : Value).ownBlock) (Kd.R_apart' (HO203.out) (Kd.S_typed HO197.out) (by decide)) (fun k_ hk => ⟨trivial, hk.2⟩))).1 k_ hk_.symm) ?aF ?aO ?aB ?aS ?aL ?_
     (case aP => exact Kd.M_row (Kd.R_mono (Kd.R_tight rfl (Kd.R_mono (ok' := fun k_ => ((fun _ => True)) k_ ∧ some k_ ≠ (.slice Ao79 y195.length co79 : Value).ownBlock) (Kd.R_apart' (HO203.out) (Kd.S_typed HO197.out) (by decide)) (fun k_ hk => ⟨trivial, hk.2⟩))) (fun _ h_ => h_)))
     (case aB => exact mG)
     (case aF => exact (fun _ _ => trivial))
     (case aO => exact (mS (Kd.S_mono HO197.out (fun k_ hk => ⟨trivial, fun e_ => hk.2 e_⟩))))
     (case aS => exact (below_size mG))
     (case aL => have := LMc69.out; omega)
     intro v205 w86 ho hb hg hat
     rw [← Ny204.out] at ho
     have n0_ := Aside0.mk (blk_grown (g := gb160) (o := .cells #[.int .i64 a0_0, .slice (some ad164) l0_1.length c0_1] 28 (0, 0)) ((mK (BK160.out))) hg (Kd.S_ne HO197.out BK160.out (by decide)))
     have n1_ := Aside0.mk (blk_grown (g := gb161) (o := .cells #[.int .i64 0, .slice none 0 0] 28 (0, 0)) ((mK (BK161.out))) hg (Kd.S_ne HO197.out BK161.out (by decide)))
     have n2_ := Aside0.mk (blk_grown (g := gb162) (o := .cells #[.int .i64 a0_0, .slice Ao79 y195.length co79] 28 (0, 0)) ((mK (BK162.out))) hg (Kd.S_ne HO197.out BK162.out (by decide)))
     have n3_ := Aside0.mk (hb)
     have n4_ := Aside0.mk (ho)
     clear BK160 BK161 BK162 HB HO197 HO203; have BK160 := n0_; have BK161 := n1_; have BK162 := n2_; have HB := n3_; have HO206 := n4_; clear n0_ n1_ n2_ n3_ n4_; clear ho hb hg hat
     obtain ⟨Ao88, co88, eo88⟩ := Kd.S_slice HO206.out
     (first | subst eo88 | (injection eo88 with f1_ f2_ f3_; have f4_ := f1_.symm; have f5_ := f3_.symm; clear f1_ f2_ f3_; subst f4_; subst f5_))
     refine hK.out _ _ ⟨(blk_cell BK162.out 0).trans rfl, (blk_cell BK162.out 1).trans rfl⟩ (fun hHeld => ?_)
     clear hK K
     refine norm_ (a' := ?_) ?_ ?_
     rotate_left
     ·
      show Act.put _ (some 68) _ = _
      simp only [Act.put, List.setIfInBounds_toArray, List.set_cons_zero, List.set_cons_succ, i64_w, i32_w]
      rfl
     refine ps 7 69 (L_ 8 9) HT_.out ?_
     refine last_ (i := 8) (N := none) (L_ 9 9) rfl rfl (one_of HT_.out (by kernel_rfl)) (by decide) (fun K hK => ?_)
     have hs89 : w86.cell? ⟨gb162, 1, none⟩ = some (.slice Ao79 y195.length co79) := (blk_cell BK162.out 1).trans rfl
     have hfs89 := blk_frozen BK162.out 1
     have hns89_0 := NB160_162.out
     have hns89_1 := NB161_162.out
     have hms89_0 := NB162_160.out
     have hms89_1 := NB162_161.out
     refine skip_ (w1 := ?_) (by rfl) rfl ?_ ?_
     rotate_left
     ·
      go_simp
      rfl
     refine hK.out _ _ ?_
     clear hK K
     refine done_ (done_of HT_.out (by kernel_rfl)) ?_
     try go_wp2
     go_roundg kj11
     case measure => have := HK1.out; have := HJ11.out; omega
     case rel => exact ⟨(true), (wrap64 (x10_1 + 1)), (y204), (.slice Ao88 y204.length co88), mF, mF, H', ⟨by have := HK1.out; have := HJ11.out; omega⟩, ⟨by (with_reducible repeat (first | apply Kd.S_alloc | apply Kd.S_drewN | apply Kd.S_drew)); exact Kd.S_mono (Kd.S_far (p := ⟨gb162, 1, none⟩) (Kd.S_types HO206.out BK162.out (by decide)) (fun _ hk => hk.2) (.slice Ao88 y204.length co88)) (fun _ hk => trivial)⟩, ⟨by refine pK ?_; refine blk_far ?_ NB160_162.out _; refine pK ?_; exact BK160.out⟩, ⟨by refine pK ?_; refine blk_far ?_ NB161_162.out _; refine pK ?_; exact BK161.out⟩, ⟨by refine pK ?_; refine blk_put (cs := #[.int .i64 a0_0, .slice Ao79 y195.length co79]) ?_ 1 _ rfl; refine pK ?_; exact BK162.out⟩, ⟨mG⟩⟩
end Go.Proofs.Ytpdpampmbdgofaa.GFnExactAddAttack
