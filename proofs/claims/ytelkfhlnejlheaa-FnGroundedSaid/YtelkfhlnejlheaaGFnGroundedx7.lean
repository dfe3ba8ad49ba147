-- Written by gprint.py, a program of this session, with the printer of the kit as its library. Lean checks it.
import Derived.Test.YtelkfhlnejlheaaGFnGroundedx0
import Derived.Test.YtelkfhlnejlheaaGFnGroundedx6
namespace Go.Proofs.Ytelkfhlnejlheaa.GFnGrounded
open Go.RowKit Go.Proofs.YtelkfhlnejlheaaW.PrintWords Go.Proofs.YtelkfhlnejlheaaW.PrintLast Go.Proofs.YtelkfhlnejlheaaW.PrintMore
attribute [local go_sem] max2_int min2_int max_two min_two max_three min_three max_four min_four   -- for this text's walks alone
set_option linter.unusedVariables false
set_option linter.unusedSimpArgs false

/-! ### spec_AddAttack: function 143 -/
mutual
def spec_AddAttack.l0 : Nat → Int → Int → Bool → Int → Int → List (List Int) → Int → List (List Int) → Option (Int × (List (List Int)) × Bool)
 | 0, _, _, _, _, _, _, _, _ => none
 | k + 1, x1, x2, x9, x10, x275000, x275001, x277000, x277001 => if x10 < (x275001.length : Int) then ((spec_IsGraph.f k x275000 x275001).bind fun t277 => (spec_AddAttack.j1 k x1 x2 x9 x10 t277 x275000 x275001 x277000 x277001)) else (spec_AddAttack.j1 k x1 x2 x9 x10 false x275000 x275001 x277000 x277001)
def spec_AddAttack.j1 : Nat → Int → Int → Bool → Int → Bool → Int → List (List Int) → Int → List (List Int) → Option (Int × (List (List Int)) × Bool)
 | 0, _, _, _, _, _, _, _, _, _ => none
 | k + 1, x1, x2, x9, x10, x23, x275000, x275001, x277000, x277001 => if x23 = true then (if 0 ≤ x10 then (if x10 < (x275001.length : Int) then (if x9 = true then ((some (([] : List Int) : List Int)).bind fun y279 => (if y279.length + (rd_L1 x275001 x10).length < 17592186044416 then (if x277001.length < 5864062014805 then (spec_AddAttack.l0 k x1 x2 x9 (wrap64 (x10 + 1)) x275000 x275001 x277000 (x277001 ++ [(y279 ++ (rd_L1 x275001 x10))])) else (none)) else (none))) else (if 0 < ((rd_L1 x275001 x10).length : Int) then (if (rd (rd_L1 x275001 x10) 0) > x1 then (if x277001.length < 5864062014805 then ((some (x277001 ++ [(([x1, x2] : List Int))] : List (List Int))).bind fun y292 => ((some (([] : List Int) : List Int)).bind fun y295 => (if y295.length + (rd_L1 x275001 x10).length < 17592186044416 then (if y292.length < 5864062014805 then (spec_AddAttack.l0 k x1 x2 true (wrap64 (x10 + 1)) x275000 x275001 x277000 (y292 ++ [(y295 ++ (rd_L1 x275001 x10))])) else (none)) else (none)))) else (none)) else (if (rd (rd_L1 x275001 x10) 0) = x1 then (if 1 < ((rd_L1 x275001 x10).length : Int) then (if (rd (rd_L1 x275001 x10) 1) > x2 then (if x277001.length < 5864062014805 then ((some (x277001 ++ [(([x1, x2] : List Int))] : List (List Int))).bind fun y309 => ((some (([] : List Int) : List Int)).bind fun y312 => (if y312.length + (rd_L1 x275001 x10).length < 17592186044416 then (if y309.length < 5864062014805 then (spec_AddAttack.l0 k x1 x2 true (wrap64 (x10 + 1)) x275000 x275001 x277000 (y309 ++ [(y312 ++ (rd_L1 x275001 x10))])) else (none)) else (none)))) else (none)) else ((some (([] : List Int) : List Int)).bind fun y321 => (if y321.length + (rd_L1 x275001 x10).length < 17592186044416 then (if x277001.length < 5864062014805 then (spec_AddAttack.l0 k x1 x2 x9 (wrap64 (x10 + 1)) x275000 x275001 x277000 (x277001 ++ [(y321 ++ (rd_L1 x275001 x10))])) else (none)) else (none)))) else (none)) else ((some (([] : List Int) : List Int)).bind fun y330 => (if y330.length + (rd_L1 x275001 x10).length < 17592186044416 then (if x277001.length < 5864062014805 then (spec_AddAttack.l0 k x1 x2 x9 (wrap64 (x10 + 1)) x275000 x275001 x277000 (x277001 ++ [(y330 ++ (rd_L1 x275001 x10))])) else (none)) else (none))))) else (none))) else (none)) else (none)) else (if x9 = true then (spec_AddAttack.j2 k x275000 x275001 x277000 x277001) else (if x277001.length < 5864062014805 then (spec_AddAttack.j2 k x275000 x275001 x277000 (x277001 ++ [(([x1, x2] : List Int))])) else (none)))
def spec_AddAttack.j2 : Nat → Int → List (List Int) → Int → List (List Int) → Option (Int × (List (List Int)) × Bool)
 | 0, _, _, _, _ => none
 | k + 1, x275000, x275001, x277000, x277001 => (spec_IsGraph.f k x275000 x275001).bind fun t345 => (if t345 = true then ((spec_IsGraph.f k x277000 x277001).bind fun t346 => (if t346 = true then (some (x277000, x277001, true)) else ((spec_l4Copy.f k x275000 x275001).bind fun bt347 => (some (bt347.1, bt347.2, false))))) else ((spec_l4Copy.f k x275000 x275001).bind fun bt351 => (some (bt351.1, bt351.2, false))))
end
def spec_AddAttack.f (k : Nat) (a0_0 : Int) (l0_1 : List (List Int)) (a1 : Int) (a2 : Int) : Option (Int × (List (List Int)) × Bool) := spec_AddAttack.l0 k a1 a2 false 0 a0_0 l0_1 a0_0 ([] : List (List Int))
theorem spec_AddAttack.mono_l : ∀ k, (∀ y0 y1 y2 y3 y4 y5 y6 y7, LeO (spec_AddAttack.l0 k y0 y1 y2 y3 y4 y5 y6 y7) (spec_AddAttack.l0 (k + 1) y0 y1 y2 y3 y4 y5 y6 y7)) ∧ (∀ y0 y1 y2 y3 y4 y5 y6 y7 y8, LeO (spec_AddAttack.j1 k y0 y1 y2 y3 y4 y5 y6 y7 y8) (spec_AddAttack.j1 (k + 1) y0 y1 y2 y3 y4 y5 y6 y7 y8)) ∧ (∀ y0 y1 y2 y3, LeO (spec_AddAttack.j2 k y0 y1 y2 y3) (spec_AddAttack.j2 (k + 1) y0 y1 y2 y3))
 | 0 => ⟨fun _ _ _ _ _ _ _ _ r h => by simp [spec_AddAttack.l0] at h, fun _ _ _ _ _ _ _ _ _ r h => by simp [spec_AddAttack.j1] at h, fun _ _ _ _ r h => by simp [spec_AddAttack.j2] at h⟩
 | k + 1 => by
  obtain ⟨ih0, ih1, ih2⟩ := spec_AddAttack.mono_l k
  refine ⟨?_, ?_, ?_⟩
  ·
   intro y0 y1 y2 y3 y4 y5 y6 y7
   unfold spec_AddAttack.l0
   repeat' with_reducible first | exact ih0 _ _ _ _ _ _ _ _ | exact ih1 _ _ _ _ _ _ _ _ _ | exact ih2 _ _ _ _ | exact spec_IsGraph.mono _ _ _ | exact spec_l4Copy.mono _ _ _ | exact LeO.refl _ | exact LeO.none _ | refine LeO.ite ?_ ?_ | refine LeO.bind ?_ (fun _ => ?_)
  ·
   intro y0 y1 y2 y3 y4 y5 y6 y7 y8
   unfold spec_AddAttack.j1
   repeat' with_reducible first | exact ih0 _ _ _ _ _ _ _ _ | exact ih1 _ _ _ _ _ _ _ _ _ | exact ih2 _ _ _ _ | exact spec_IsGraph.mono _ _ _ | exact spec_l4Copy.mono _ _ _ | exact LeO.refl _ | exact LeO.none _ | refine LeO.ite ?_ ?_ | refine LeO.bind ?_ (fun _ => ?_)
  ·
   intro y0 y1 y2 y3
   unfold spec_AddAttack.j2
   repeat' with_reducible first | exact ih0 _ _ _ _ _ _ _ _ | exact ih1 _ _ _ _ _ _ _ _ _ | exact ih2 _ _ _ _ | exact spec_IsGraph.mono _ _ _ | exact spec_l4Copy.mono _ _ _ | exact LeO.refl _ | exact LeO.none _ | refine LeO.ite ?_ ?_ | refine LeO.bind ?_ (fun _ => ?_)
theorem spec_AddAttack.mono : ∀ a0 a1 a2 a3 k, LeO (spec_AddAttack.f k a0 a1 a2 a3) (spec_AddAttack.f (k + 1) a0 a1 a2 a3) := by
 intro a0 a1 a2 a3 k
 obtain ⟨ih0, ih1, ih2⟩ := spec_AddAttack.mono_l k
 unfold spec_AddAttack.f
 repeat' with_reducible first | exact ih0 _ _ _ _ _ _ _ _ | exact ih1 _ _ _ _ _ _ _ _ _ | exact ih2 _ _ _ _ | exact spec_IsGraph.mono _ _ _ | exact spec_l4Copy.mono _ _ _ | exact LeO.refl _ | exact LeO.none _ | refine LeO.ite ?_ ?_ | refine LeO.bind ?_ (fun _ => ?_)
def spec_AddAttack.T10 : Bool × List (List Nat × List Nat) := (true, [([], []), ([0], [0]), ([], []), ([], []), ([2, 3], [2, 3]), ([4], [4]), ([1, 5, 4], [1, 5]), ([0, 1, 2, 3, 4, 5, 6], []), ([7, 6, 6, 0, 1, 2, 3, 4, 5, 6], [6, 7])])
def spec_AddAttack.B10 : List Nat := [0, 1, 0, 0, 12, 28, 63, 127, 255]
theorem spec_AddAttack.tab10 : rtab .any (opsOf Try.f143 10) = spec_AddAttack.T10 := by kernel_rfl
theorem spec_AddAttack.bits10 : waitsOk spec_AddAttack.T10.2 spec_AddAttack.B10 = true := by kernel_rfl
set_option maxHeartbeats 8000000 in
set_option maxRecDepth 100000 in
theorem spec_AddAttack.calls (k : Nat) (a0_0 : Int) (A0_1 : Option Addr) (c0_1 : Nat) (l0_1 : List (List Int)) (a1 : Int) (a2 : Int) (r1 : Int) (r2 : List (List Int)) (r3 : Bool) (w : World) (hr0_1 : Kd.C (Kd.slice 3 (Kd.int .i64)) w A0_1 l0_1.length l0_1) (hc0_1 : l0_1.length ≤ c0_1) (h : spec_AddAttack.f k a0_0 l0_1 a1 a2 = some (r1, r2, r3)) :
  Calls Try.prog 143 #[.agg #[.int .i64 a0_0, .slice A0_1 l0_1.length c0_1], .int .i64 a1, .int .i64 a2] w fun e w' => ∃ v1_ : Value, e = .returned (.tuple #[.agg #[.int .i64 r1, v1_], .bool r3]) ∧ Kd.S (Kd.slice 3 (Kd.int .i64)) 25 w' w.heap.size (fun _ => True) v1_ r2 ∧ Below w.heap.size w w' := by
 have hu28 := Try.underlying28
 have HR0_1 := Aside0.mk hr0_1
 have HC0_1 := Aside0.mk hc0_1
 clear hr0_1 hc0_1
 have HB := Aside0.mk (Below.refl w.heap.size w)
 have H : (spec_AddAttack.l0 k a1 a2 false 0 a0_0 l0_1 a0_0 ([] : List (List Int))) = some (r1, r2, r3) := h
 clear h
 have H' := Aside0.mk H
 clear H
 go_enter Try.func143, Try.ntmps143
 go_wp2_with (first | ((with_reducible refine gate_dst (N := 3) rfl ?_); refine box_event ?hg (N := 3) ?hd (cs := #[.int .i64 a0_0, .slice A0_1 l0_1.length c0_1]) (t := 28) ?hr ?_; (case hd => rfl); (case hg => rfl); (case hr => first | (go_simp; done) | (go_simp; rfl)); intro gb274 hg w4 hbox hb; have n0_ := Aside0.mk (below_step (mB HB.out) hb); have n1_ := Aside0.mk (hbox); have n2_ := Aside0.mk ((by rw [hg]; exact (below_size (mB HB.out)) : w.heap.size ≤ gb274)); have n3_ := Aside0.mk ((by rw [hg]; exact (below_size (mB HB.out)) : w.heap.size ≤ gb274)); clear HB; have HB := n0_; have BK274 := n1_; have GW274 := n2_; have GE274 := n3_; clear n0_ n1_ n2_ n3_; clear hb hbox hg) | ((with_reducible refine gate_dst (N := 6) rfl ?_); refine box_event ?hg (N := 6) ?hd (cs := #[.int .i64 0, .slice none 0 0]) (t := 28) ?hr ?_; (case hd => rfl); (case hg => rfl); (case hr => first | (go_simp; done) | (go_simp; rfl)); intro gb275 hg w5 hbox hb; have n0_ := Aside0.mk (blk_below (g := gb274) (o := .cells #[.int .i64 a0_0, .slice A0_1 l0_1.length c0_1] 28 (0, 0)) ((mK (BK274.out))) hb); have n1_ := Aside0.mk (below_step mG hb); have n2_ := Aside0.mk (hbox); have n3_ := Aside0.mk ((by rw [hg]; exact (below_size mG) : w.heap.size ≤ gb275)); have n4_ := Aside0.mk ((by rw [hg]; exact (below_size mG) : w.heap.size ≤ gb275)); have n5_ := Aside0.mk ((by rw [hg]; exact Nat.ne_of_lt (blk_lt (g := gb274) (o := .cells #[.int .i64 a0_0, .slice A0_1 l0_1.length c0_1] 28 (0, 0)) ((mK (BK274.out)))) : gb274 ≠ gb275)); have n6_ := Aside0.mk ((by rw [hg]; exact Nat.ne_of_gt (blk_lt (g := gb274) (o := .cells #[.int .i64 a0_0, .slice A0_1 l0_1.length c0_1] 28 (0, 0)) ((mK (BK274.out)))) : gb275 ≠ gb274)); clear BK274 HB; have BK274 := n0_; have HB := n1_; have BK275 := n2_; have GW275 := n3_; have GE275 := n4_; have NB274_275 := n5_; have NB275_274 := n6_; clear n0_ n1_ n2_ n3_ n4_ n5_ n6_; clear hb hbox hg; have hnb6 := NB274_275.out; have hnc6 := NB275_274.out; have hcz7_0 : w5.cell? ⟨gb274, 0, none⟩ = some (.int .i64 a0_0) := (blk_cell BK274.out 0).trans rfl; have hcz7_1 : w5.cell? ⟨gb274, 1, none⟩ = some (.slice A0_1 l0_1.length c0_1) := (blk_cell BK274.out 1).trans rfl; have hfz7_0 := blk_frozen BK274.out 0; have hfz7_1 := blk_frozen BK274.out 1) | ((with_reducible refine gate_dst (N := 8) rfl ?_); refine box_event ?hg (N := 8) ?hd (cs := #[.int .i64 0, .slice none 0 0]) (t := 28) ?hr ?_; (case hd => rfl); (case hg => rfl); (case hr => first | (go_simp; done) | (go_simp; rfl)); intro gb276 hg w8 hbox hb; have n0_ := Aside0.mk (blk_below (g := gb274) (o := .cells #[.int .i64 a0_0, .slice A0_1 l0_1.length c0_1] 28 (0, 0)) ((mK (BK274.out))) hb); have n1_ := Aside0.mk (blk_below (g := gb275) (o := .cells #[.int .i64 0, .slice none 0 0] 28 (0, 0)) ((mK (BK275.out))) hb); have n2_ := Aside0.mk (below_step mG hb); have n3_ := Aside0.mk (hbox); have n4_ := Aside0.mk ((by rw [hg]; exact (below_size mG) : w.heap.size ≤ gb276)); have n5_ := Aside0.mk ((by rw [hg]; exact (below_size mG) : w.heap.size ≤ gb276)); have n6_ := Aside0.mk ((by rw [hg]; exact Nat.ne_of_lt (blk_lt (g := gb274) (o := .cells #[.int .i64 a0_0, .slice A0_1 l0_1.length c0_1] 28 (0, 0)) ((mK (BK274.out)))) : gb274 ≠ gb276)); have n7_ := Aside0.mk ((by rw [hg]; exact Nat.ne_of_gt (blk_lt (g := gb274) (o := .cells #[.int .i64 a0_0, .slice A0_1 l0_1.length c0_1] 28 (0, 0)) ((mK (BK274.out)))) : gb276 ≠ gb274)); have n8_ := Aside0.mk ((by rw [hg]; exact Nat.ne_of_lt (blk_lt (g := gb275) (o := .cells #[.int .i64 0, .slice none 0 0] 28 (0, 0)) ((mK (BK275.out)))) : gb275 ≠ gb276)); have n9_ := Aside0.mk ((by rw [hg]; exact Nat.ne_of_gt (blk_lt (g := gb275) (o := .cells #[.int .i64 0, .slice none 0 0] 28 (0, 0)) ((mK (BK275.out)))) : gb276 ≠ gb275)); clear BK274 BK275 HB; have BK274 := n0_; have BK275 := n1_; have HB := n2_; have BK276 := n3_; have GW276 := n4_; have GE276 := n5_; have NB274_276 := n6_; have NB276_274 := n7_; have NB275_276 := n8_; have NB276_275 := n9_; clear n0_ n1_ n2_ n3_ n4_ n5_ n6_ n7_ n8_ n9_; clear hb hbox hg; have hnb9 := NB276_274.out; have hnc9 := NB274_276.out; have hnb10 := NB276_275.out; have hnc10 := NB275_276.out; have hcz11_0 : w8.cell? ⟨gb276, 0, none⟩ = some (.int .i64 0) := (blk_cell BK276.out 0).trans rfl; have hcz11_1 : w8.cell? ⟨gb276, 1, none⟩ = some (.slice none 0 0) := (blk_cell BK276.out 1).trans rfl; have hfz11_0 := blk_frozen BK276.out 0; have hfz11_1 := blk_frozen BK276.out 1))
 go_loopg [9, 10] k (fun kq v9 v10 w' => ∃ (x9_1 : Bool) (x10_1 : Int) (x277001_1 : List (List Int)) (u277001 : Value), v9 = .bool x9_1 ∧ v10 = .int .i64 x10_1 ∧ Aside0 (spec_AddAttack.l0 kq a1 a2 x9_1 x10_1 a0_0 l0_1 a0_0 x277001_1 = some (r1, r2, r3)) ∧ Aside0 (kq ≤ k) ∧ Aside0 (Kd.S (Kd.slice 3 (Kd.int .i64)) 25 w' w.heap.size (fun _ => True) u277001 x277001_1) ∧ Aside0 (w'.heap[gb274]? = some (.cells #[.int .i64 a0_0, (.slice A0_1 l0_1.length c0_1)] 28 (0, 0))) ∧ Aside0 (w'.heap[gb275]? = some (.cells #[.int .i64 0, (.slice none 0 0)] 28 (0, 0))) ∧ Aside0 (w'.heap[gb276]? = some (.cells #[.int .i64 a0_0, u277001] 28 (0, 0))) ∧ Aside0 (Below w.heap.size w w'))
 case atStart => exact ⟨(false), (0), (([] : List (List Int))), (.slice none 0 0), mF, mF, H', ⟨Nat.le_refl _⟩, ⟨by first | exact Kd.S_nil _ _ _ _ _ | exact Kd.N_nil _ _ _ _ _ | exact Kd.V_nil _ _ _ _ _ | exact Kd.Q_nil _ _ _ _ _ | exact Kd.R_nil _ _ _ _ _⟩, ⟨by refine pK ?_; refine blk_far ?_ NB274_276.out _; refine pK ?_; refine blk_far ?_ NB274_276.out _; refine pK ?_; exact BK274.out⟩, ⟨by refine pK ?_; refine blk_far ?_ NB275_276.out _; refine pK ?_; refine blk_far ?_ NB275_276.out _; refine pK ?_; exact BK275.out⟩, ⟨by refine pK ?_; refine blk_put (cs := #[.int .i64 a0_0, .slice none 0 0]) ?_ 1 _ rfl; refine pK ?_; refine blk_put (cs := #[.int .i64 0, .slice none 0 0]) ?_ 0 _ rfl; refine pK ?_; exact BK276.out⟩, ⟨mG⟩⟩
 case round =>
  clear H'
  (try clear hcz11_0); (try clear hcz11_1); (try clear hcz7_0); (try clear hcz7_1); (try clear hfz11_0); (try clear hfz11_1); (try clear hfz7_0); (try clear hfz7_1)
  obtain ⟨x9_1, x10_1, x277001_1, u277001, rfl, rfl, HA, HK1, HO_277001, BK274, BK275, BK276, HB⟩ := hrel
  cases gk with
  | zero => exact absurd HA.out (by simp [spec_AddAttack.l0])
  | succ k1 =>
   have H := HA.out
   clear HA
   simp only [spec_AddAttack.l0] at H
   have HC12 := Aside0.mk H
   clear H
   go_upto_region 4 with (fail)
   go_cut [23] (fun v23 wc => ∃ (kq : Nat) (x23_11 : Bool), v23 = .bool x23_11 ∧ Aside0 (spec_AddAttack.j1 kq a1 a2 x9_1 x10_1 x23_11 a0_0 l0_1 a0_0 x277001_1 = some (r1, r2, r3)) ∧ Aside0 (kq ≤ k1) ∧ Aside0 (Kd.S (Kd.slice 3 (Kd.int .i64)) 25 wc w.heap.size (fun _ => True) u277001 x277001_1) ∧ Aside0 (wc.heap[gb274]? = some (.cells #[.int .i64 a0_0, (.slice A0_1 l0_1.length c0_1)] 28 (0, 0))) ∧ Aside0 (wc.heap[gb275]? = some (.cells #[.int .i64 0, (.slice none 0 0)] 28 (0, 0))) ∧ Aside0 (wc.heap[gb276]? = some (.cells #[.int .i64 a0_0, u277001] 28 (0, 0))) ∧ Aside0 (Below w.heap.size w wc))
   case first =>
    have H := HC12.out
    clear HC12
    by_cases c13 : x10_1 < (l0_1.length : Int)
    rotate_left
    ·
     rw [if_neg c13] at H
     have c13b0 : decide (x10_1 < (l0_1.length : Int)) = false := decide_eq_false c13
     clear c13
     (first | rw [c13b0] | (simp only [i64_w, i32_w]; rw [c13b0]) | skip)
     have H' := Aside0.mk H
     clear H
     have hnb19 := NB274_275.out
     have hnc19 := NB275_274.out
     have hnb20 := NB274_276.out
     have hnc20 := NB276_274.out
     have hcz21_0 : wr.cell? ⟨gb274, 0, none⟩ = some (.int .i64 a0_0) := (blk_cell BK274.out 0).trans rfl
     have hcz21_1 : wr.cell? ⟨gb274, 1, none⟩ = some (.slice A0_1 l0_1.length c0_1) := (blk_cell BK274.out 1).trans rfl
     have hfz21_0 := blk_frozen BK274.out 0
     have hfz21_1 := blk_frozen BK274.out 1
     go_wp2
     go_meet
     case rel => exact ⟨_, (false), mF, H', ⟨by have := HK1.out; first | omega | exact Nat.le_refl _⟩, ⟨mS HO_277001.out⟩, ⟨(mK (BK274.out))⟩, ⟨(mK (BK275.out))⟩, ⟨(mK (BK276.out))⟩, ⟨mG⟩⟩
    rw [if_pos c13] at H
    have c13b0 : decide (x10_1 < (l0_1.length : Int)) = true := decide_eq_true c13
    clear c13
    (first | rw [c13b0] | (simp only [i64_w, i32_w]; rw [c13b0]) | skip)
    replace H := Option.bind_eq_some_iff.mp H
    obtain ⟨t277, A140, H⟩ := H
    have A14 := Aside0.mk A140
    clear A140
    have H' := Aside0.mk H
    clear H
    have hnb15 := NB274_275.out
    have hnc15 := NB275_274.out
    have hnb16 := NB274_276.out
    have hnc16 := NB276_274.out
    have hcz17_0 : wr.cell? ⟨gb274, 0, none⟩ = some (.int .i64 a0_0) := (blk_cell BK274.out 0).trans rfl
    have hcz17_1 : wr.cell? ⟨gb274, 1, none⟩ = some (.slice A0_1 l0_1.length c0_1) := (blk_cell BK274.out 1).trans rfl
    have hfz17_0 := blk_frozen BK274.out 0
    have hfz17_1 := blk_frozen BK274.out 1
    go_wp2_with (first | (go_at_call 67; (with_reducible refine (spec_IsGraph.calls k1 a0_0 _ _ l0_1 t277 _ ?side1 ?side2 A14.out).mono ?_); (case side1 => exact mC (Kd.C_below HR0_1.out HB.out)); (case side2 => exact HC0_1.out); rintro e w18 ⟨rfl, hb⟩; have n0_ := Aside0.mk (Kd.S_below (mS HO_277001.out) hb); have n1_ := Aside0.mk (blk_below (g := gb274) (o := .cells #[.int .i64 a0_0, .slice A0_1 l0_1.length c0_1] 28 (0, 0)) ((mK (BK274.out))) hb); have n2_ := Aside0.mk (blk_below (g := gb275) (o := .cells #[.int .i64 0, .slice none 0 0] 28 (0, 0)) ((mK (BK275.out))) hb); have n3_ := Aside0.mk (blk_below (g := gb276) (o := .cells #[.int .i64 a0_0, u277001] 28 (0, 0)) ((mK (BK276.out))) hb); have n4_ := Aside0.mk (below_step mG hb); clear HO_277001 BK274 BK275 BK276 HB; have HO_277001 := n0_; have BK274 := n1_; have BK275 := n2_; have BK276 := n3_; have HB := n4_; clear n0_ n1_ n2_ n3_ n4_; (try clear hb)))
    go_meet
    case rel => exact ⟨_, (t277), mF, H', ⟨by have := HK1.out; first | omega | exact Nat.le_refl _⟩, ⟨mS HO_277001.out⟩, ⟨(mK (BK274.out))⟩, ⟨(mK (BK275.out))⟩, ⟨(mK (BK276.out))⟩, ⟨mG⟩⟩
   case rest =>
    clear HC12; (try clear c13b0); (try clear hcz11_0); (try clear hcz11_1); (try clear hcz17_0); (try clear hcz17_1); (try clear hcz21_0); (try clear hcz21_1); (try clear hcz7_0); (try clear hcz7_1); (try clear hfz11_0); (try clear hfz11_1); (try clear hfz17_0); (try clear hfz17_1); (try clear hfz21_0); (try clear hfz21_1); (try clear hfz7_0); (try clear hfz7_1)
    obtain ⟨kq, x23_11, rfl, HA, HJ11, HO_277001, BK274, BK275, BK276, HB⟩ := hcut
    cases kq with
    | zero => exact absurd HA.out (by simp [spec_AddAttack.j1])
    | succ kj11 =>
     have H := HA.out
     clear HA
     simp only [spec_AddAttack.j1] at H
     by_cases c22 : x23_11 = true
     rotate_left
     ·
      replace c22 := Bool.eq_false_iff.mpr c22
      subst c22
      rw [if_neg (show ¬ (false = true) by decide)] at H
      have HC116 := Aside0.mk H
      clear H
      go_upto_if 71 with (fail)
      go_cut [] (fun wc => ∃ (kq : Nat) (x277001_115 : List (List Int)) (u277001 : Value), Aside0 (spec_AddAttack.j2 kq a0_0 l0_1 a0_0 x277001_115 = some (r1, r2, r3)) ∧ Aside0 (kq ≤ kj11) ∧ Aside0 (Kd.S (Kd.slice 3 (Kd.int .i64)) 25 wc w.heap.size (fun _ => True) u277001 x277001_115) ∧ Aside0 (wc.heap[gb274]? = some (.cells #[.int .i64 a0_0, (.slice A0_1 l0_1.length c0_1)] 28 (0, 0))) ∧ Aside0 (wc.heap[gb275]? = some (.cells #[.int .i64 0, (.slice none 0 0)] 28 (0, 0))) ∧ Aside0 (wc.heap[gb276]? = some (.cells #[.int .i64 a0_0, u277001] 28 (0, 0))) ∧ Aside0 (Below w.heap.size w wc))
      case first =>
       have H := HC116.out
       clear HC116
       by_cases c117 : x9_1 = true
       ·
        subst c117
        rw [if_pos rfl] at H
        have H' := Aside0.mk H
        clear H
        go_wp2
        go_meet
        case rel => exact ⟨_, (x277001_1), (u277001), H', ⟨by have := HK1.out; have := HJ11.out; first | omega | exact Nat.le_refl _⟩, ⟨mS HO_277001.out⟩, ⟨(mK (BK274.out))⟩, ⟨(mK (BK275.out))⟩, ⟨(mK (BK276.out))⟩, ⟨mG⟩⟩
       replace c117 := Bool.eq_false_iff.mpr c117
       subst c117
       rw [if_neg (show ¬ (false = true) by decide)] at H
       obtain ⟨y339, hy339⟩ : ∃ y_ : List Int, y_ = (([a1, a2] : List Int)) := ⟨_, rfl⟩
       replace H : (if x277001_1.length < 5864062014805 then (spec_AddAttack.j2 kj11 a0_0 l0_1 a0_0 (x277001_1 ++ [y339])) else (none)) = some (r1, r2, r3) := by first | (rw [hy339]; with_reducible exact H) | (have H2_ := (Option.bind_some _ _).symm.trans H; rw [hy339]; with_reducible exact H2_) | (have H2_ := (Option.bind_some _ _).symm.trans H; with_reducible exact H2_) | with_reducible exact H | (rw [hy339]; exact H) | exact H
       have Ny339 := Aside0.mk hy339
       clear hy339
       by_cases c118 : x277001_1.length < 5864062014805
       rotate_left
       ·
        rw [if_neg c118] at H
        exact absurd H (by simp)
       rw [if_pos c118] at H
       have LMc118 := Aside0.mk c118
       clear c118
       obtain ⟨y342, hy342⟩ : ∃ y_ : List (List Int), y_ = (x277001_1 ++ [y339]) := ⟨_, rfl⟩
       replace H : (spec_AddAttack.j2 kj11 a0_0 l0_1 a0_0 y342) = some (r1, r2, r3) := by first | (rw [hy342]; with_reducible exact H) | (have H2_ := (Option.bind_some _ _).symm.trans H; rw [hy342]; with_reducible exact H2_) | (have H2_ := (Option.bind_some _ _).symm.trans H; with_reducible exact H2_) | with_reducible exact H | (rw [hy342]; exact H) | exact H
       have Ny342 := Aside0.mk hy342
       clear hy342
       have H' := Aside0.mk H
       clear H
       have hnb119 := NB276_274.out
       have hnc119 := NB274_276.out
       have hnb120 := NB276_275.out
       have hnc120 := NB275_276.out
       have hcz121_0 : wc.cell? ⟨gb276, 0, none⟩ = some (.int .i64 a0_0) := (blk_cell BK276.out 0).trans rfl
       have hcz121_1 : wc.cell? ⟨gb276, 1, none⟩ = some (u277001) := (blk_cell BK276.out 1).trans rfl
       have hfz121_0 := blk_frozen BK276.out 0
       have hfz121_1 := blk_frozen BK276.out 1
       go_wp2_with (first | ((with_reducible refine gate_dst (N := 76) rfl ?_); refine Kd.R_lit (Kd.int .i64) _ 3 ?hg (N := 76) ?hd (xs := ([a1, a2] : List Int)) (inner := [.int .i64 a1, .int .i64 a2]) (ok := fun _ => True) (okp := fun _ => True) ?hr ?hp (fun _ hk => hk) trivial (Below.refl _ _) (Nat.le_refl _) (by simp) ?_; (case hd => rfl); (case hg => rfl); (case hr => first | (go_simp; done) | (go_simp; rfl)); (case hp => exact (Reps.one (show Kd.M (Kd.int .i64) _ _ _ a1 [.int .i64 a1] from rfl) (Reps.one (show Kd.M (Kd.int .i64) _ _ _ a2 [.int .i64 a2] from rfl) (Reps.none _ _)))); intro v340 w122 ho123 hb hg_ hnew_; clear hg_ hnew_; (first | rw [← Ny339.out] at ho123 | (simp only [Int.reduceToNat] at ho123; rw [← Ny339.out] at ho123)); have n0_ := Aside0.mk (Kd.S_elder' (mS HO_277001.out) (Kd.R_base ho123) hb); have n1_ := Aside0.mk (Kd.R_lower ho123 (below_size mG)); have n2_ := Aside0.mk (blk_below (g := gb274) (o := .cells #[.int .i64 a0_0, .slice A0_1 l0_1.length c0_1] 28 (0, 0)) ((mK (BK274.out))) hb); have n3_ := Aside0.mk (blk_below (g := gb275) (o := .cells #[.int .i64 0, .slice none 0 0] 28 (0, 0)) ((mK (BK275.out))) hb); have n4_ := Aside0.mk (blk_below (g := gb276) (o := .cells #[.int .i64 a0_0, u277001] 28 (0, 0)) ((mK (BK276.out))) hb); have n5_ := Aside0.mk (below_step mG hb); clear HO_277001 BK274 BK275 BK276 HB; have HO_277001 := n0_; have HO341 := n1_; have BK274 := n2_; have BK275 := n3_; have BK276 := n4_; have HB := n5_; clear n0_ n1_ n2_ n3_ n4_ n5_; clear hb ho123; obtain ⟨Ao125, co125, eo125⟩ := Kd.R_slice HO341.out; subst eo125) | ((with_reducible refine gate_builtin (b := .append) (xs := #[.tmp 73, .tmp 77]) rfl ?_); at_builtin; refine Kd.S_append (Kd.slice 3 (Kd.int .i64)) (w0 := w) w.heap.size rfl (.tmp 73) (.tmp 77) 22 25 (.slice none 0 0) 24 rfl Try.underlying22 info25 rfl (by decide) (by omega) u277001 x277001_1 y339 [.slice Ao125 y339.length co125] (fun _ => True) (fun k_ => some k_ = (.slice Ao125 y339.length co125 : Value).ownBlock) rfl rfl ?aP (fun k_ hk_ => ((Kd.R_mono (ok' := fun k_ => ((fun _ => True)) k_ ∧ some k_ ≠ (u277001 : Value).ownBlock) (Kd.R_apart' (HO341.out) (Kd.S_typed HO_277001.out) (by decide)) (fun k_ hk => ⟨trivial, hk.2⟩))).1 k_ hk_.symm) ?aF ?aO ?aB ?aS ?aL ?_; (case aP => exact Kd.M_row (Kd.R_mono (Kd.R_tight rfl (Kd.R_mono (ok' := fun k_ => ((fun _ => True)) k_ ∧ some k_ ≠ (u277001 : Value).ownBlock) (Kd.R_apart' (HO341.out) (Kd.S_typed HO_277001.out) (by decide)) (fun k_ hk => ⟨trivial, hk.2⟩))) (fun _ h_ => h_))); (case aB => exact mG); (case aF => exact (fun _ _ => trivial)); (case aO => exact (mS (Kd.S_mono HO_277001.out (fun k_ hk => ⟨trivial, fun e_ => hk.2 e_⟩)))); (case aS => exact (below_size mG)); (case aL => have := LMc118.out; omega); intro v343 w124 ho hb hg hat; rw [← Ny342.out] at ho; have n0_ := Aside0.mk (blk_grown (g := gb274) (o := .cells #[.int .i64 a0_0, .slice A0_1 l0_1.length c0_1] 28 (0, 0)) ((mK (BK274.out))) hg (Kd.S_ne HO_277001.out BK274.out (by decide))); have n1_ := Aside0.mk (blk_grown (g := gb275) (o := .cells #[.int .i64 0, .slice none 0 0] 28 (0, 0)) ((mK (BK275.out))) hg (Kd.S_ne HO_277001.out BK275.out (by decide))); have n2_ := Aside0.mk (blk_grown (g := gb276) (o := .cells #[.int .i64 a0_0, u277001] 28 (0, 0)) ((mK (BK276.out))) hg (Kd.S_ne HO_277001.out BK276.out (by decide))); have n3_ := Aside0.mk (hb); have n4_ := Aside0.mk (ho); clear BK274 BK275 BK276 HB HO_277001 HO341; have BK274 := n0_; have BK275 := n1_; have BK276 := n2_; have HB := n3_; have HO344 := n4_; clear n0_ n1_ n2_ n3_ n4_; clear ho hb hg hat; obtain ⟨Ao126, co126, eo126⟩ := Kd.S_slice HO344.out; subst eo126; have hcz127_0 : w124.cell? ⟨gb276, 0, none⟩ = some (.int .i64 a0_0) := (blk_cell BK276.out 0).trans rfl; have hcz127_1 : w124.cell? ⟨gb276, 1, none⟩ = some (u277001) := (blk_cell BK276.out 1).trans rfl; have hfz127_0 := blk_frozen BK276.out 0; have hfz127_1 := blk_frozen BK276.out 1))
       go_meet
       case rel => exact ⟨_, (y342), (.slice Ao126 y342.length co126), H', ⟨by have := HK1.out; have := HJ11.out; first | omega | exact Nat.le_refl _⟩, ⟨by (with_reducible repeat (first | apply Kd.S_alloc | apply Kd.S_drewN | apply Kd.S_drew)); exact Kd.S_mono (Kd.S_far (p := ⟨gb276, 1, none⟩) (Kd.S_types HO344.out BK276.out (by decide)) (fun _ hk => hk.2) (.slice Ao126 y342.length co126)) (fun _ hk => trivial)⟩, ⟨by refine pK ?_; refine blk_far ?_ NB274_276.out _; refine pK ?_; exact BK274.out⟩, ⟨by refine pK ?_; refine blk_far ?_ NB275_276.out _; refine pK ?_; exact BK275.out⟩, ⟨by refine pK ?_; refine blk_put (cs := #[.int .i64 a0_0, u277001]) ?_ 1 _ rfl; refine pK ?_; exact BK276.out⟩, ⟨mG⟩⟩
      case rest =>
       clear HC116; (try clear hx2); (try clear qi2); (try clear hx3); (try clear qi3); (try clear hx27); (try clear hx28); (try clear qi28); (try clear hx30); (try clear qi30); (try clear c64b0); (try clear c64b1); (try clear c66b0); (try clear hcz107_0); (try clear hcz107_1); (try clear hcz121_0); (try clear hcz121_1); (try clear hcz127_0); (try clear hcz127_1); (try clear hcz94_0); (try clear hcz94_1); (try clear hfz107_0); (try clear hfz107_1); (try clear hfz121_0); (try clear hfz121_1); (try clear hfz127_0); (try clear hfz127_1); (try clear hfz94_0); (try clear hfz94_1); (try clear hx278_0); (try clear hx288_0); (try clear hx304_0); (try clear hx305_0)
       obtain ⟨kq, x277001_115, u277001, HA, HJ115, HO_277001, BK274, BK275, BK276, HB⟩ := hcut
       cases kq with
       | zero => exact absurd HA.out (by simp [spec_AddAttack.j2])
       | succ kj115 =>
        have H := HA.out
        clear HA
        simp only [spec_AddAttack.j2] at H
        replace H := Option.bind_eq_some_iff.mp H
        obtain ⟨t345, A1280, H⟩ := H
        have A128 := Aside0.mk A1280
        clear A1280
        by_cases c129 : t345 = true
        rotate_left
        ·
         replace c129 := Bool.eq_false_iff.mpr c129
         subst c129
         rw [if_neg (show ¬ (false = true) by decide)] at H
         replace H := Option.bind_eq_some_iff.mp H
         obtain ⟨⟨t351, t352⟩, A1550, H⟩ := H
         try dsimp only at H
         have A155 := Aside0.mk A1550
         clear A1550
         simp only [Option.some.injEq, Prod.mk.injEq] at H
         obtain ⟨rfl, rfl, rfl⟩ := H
         have hnb156 := NB274_275.out
         have hnc156 := NB275_274.out
         have hnb157 := NB274_276.out
         have hnc157 := NB276_274.out
         have hcz158_0 : wc.cell? ⟨gb274, 0, none⟩ = some (.int .i64 a0_0) := (blk_cell BK274.out 0).trans rfl
         have hcz158_1 : wc.cell? ⟨gb274, 1, none⟩ = some (.slice A0_1 l0_1.length c0_1) := (blk_cell BK274.out 1).trans rfl
         have hfz158_0 := blk_frozen BK274.out 0
         have hfz158_1 := blk_frozen BK274.out 1
         go_wp2_with (first | ((with_reducible refine gate_callee (f := 67) rfl ?_); refine goesL_ (some 81) rfl rfl Try.func67 (by kernel_rfl) rfl #[.agg #[.int .i64 a0_0, .slice A0_1 l0_1.length c0_1]] rfl mA ?_; (with_reducible refine (spec_IsGraph.calls kj115 a0_0 _ _ l0_1 false _ ?side1 ?side2 A128.out).mono ?_); (case side1 => exact mC (Kd.C_below HR0_1.out HB.out)); (case side2 => exact HC0_1.out); rintro e w159 ⟨rfl, hb⟩; refine ⟨_, rfl, ?_⟩; have n0_ := Aside0.mk (Kd.S_below (mS HO_277001.out) hb); have n1_ := Aside0.mk (blk_below (g := gb274) (o := .cells #[.int .i64 a0_0, .slice A0_1 l0_1.length c0_1] 28 (0, 0)) ((mK (BK274.out))) hb); have n2_ := Aside0.mk (blk_below (g := gb275) (o := .cells #[.int .i64 0, .slice none 0 0] 28 (0, 0)) ((mK (BK275.out))) hb); have n3_ := Aside0.mk (blk_below (g := gb276) (o := .cells #[.int .i64 a0_0, u277001] 28 (0, 0)) ((mK (BK276.out))) hb); have n4_ := Aside0.mk (below_step mG hb); clear HO_277001 BK274 BK275 BK276 HB; have HO_277001 := n0_; have BK274 := n1_; have BK275 := n2_; have BK276 := n3_; have HB := n4_; clear n0_ n1_ n2_ n3_ n4_; (try clear hb); have hcz160_0 : w159.cell? ⟨gb274, 0, none⟩ = some (.int .i64 a0_0) := (blk_cell BK274.out 0).trans rfl; have hcz160_1 : w159.cell? ⟨gb274, 1, none⟩ = some (.slice A0_1 l0_1.length c0_1) := (blk_cell BK274.out 1).trans rfl; have hfz160_0 := blk_frozen BK274.out 0; have hfz160_1 := blk_frozen BK274.out 1) | ((with_reducible refine gate_callee (f := 158) rfl ?_); refine goesL_ (some 89) rfl rfl Try.func158 (by kernel_rfl) rfl #[.agg #[.int .i64 a0_0, .slice A0_1 l0_1.length c0_1]] rfl mA ?_; (with_reducible refine (spec_l4Copy.calls kj115 a0_0 _ _ l0_1 t351 t352 _ ?side1 ?side2 A155.out).mono ?_); (case side1 => exact mC (Kd.C_below HR0_1.out HB.out)); (case side2 => exact HC0_1.out); rintro e w161 ⟨v353, rfl, ho0, hb⟩; refine ⟨_, rfl, ?_⟩; have n0_ := Aside0.mk (Kd.S_elder' (mS HO_277001.out) (Kd.S_base ho0) hb); have n1_ := Aside0.mk (Kd.S_lower (Kd.S_new' ho0 (Kd.S_lt (mS HO_277001.out))) (below_size mG)); have n2_ := Aside0.mk (blk_below (g := gb274) (o := .cells #[.int .i64 a0_0, .slice A0_1 l0_1.length c0_1] 28 (0, 0)) ((mK (BK274.out))) hb); have n3_ := Aside0.mk (blk_below (g := gb275) (o := .cells #[.int .i64 0, .slice none 0 0] 28 (0, 0)) ((mK (BK275.out))) hb); have n4_ := Aside0.mk (blk_below (g := gb276) (o := .cells #[.int .i64 a0_0, u277001] 28 (0, 0)) ((mK (BK276.out))) hb); have n5_ := Aside0.mk (below_step mG hb); clear HO_277001 BK274 BK275 BK276 HB; have HO_277001 := n0_; have HO354 := n1_; have BK274 := n2_; have BK275 := n3_; have BK276 := n4_; have HB := n5_; clear n0_ n1_ n2_ n3_ n4_ n5_; (try clear hb); (try clear ho0); have hnb162 := NB275_276.out; have hnc162 := NB276_275.out; have hcz163_0 : w161.cell? ⟨gb275, 0, none⟩ = some (.int .i64 0) := (blk_cell BK275.out 0).trans rfl; have hcz163_1 : w161.cell? ⟨gb275, 1, none⟩ = some (.slice none 0 0) := (blk_cell BK275.out 1).trans rfl; have hfz163_0 := blk_frozen BK275.out 0; have hfz163_1 := blk_frozen BK275.out 1; obtain ⟨Ao164, co164, eo164⟩ := Kd.S_slice HO354.out; subst eo164))
         refine bodyPost_ret (results_ct rfl _ _ gb275 28 #[.int .i64 t351, .slice Ao164 t352.length co164] (0, 0) _ rfl (by refine pK ?_; refine blk_put (cs := #[.int .i64 t351, .slice none 0 0]) ?_ 1 _ rfl; refine pK ?_; refine blk_put (cs := #[.int .i64 0, .slice none 0 0]) ?_ 0 _ rfl; refine pK ?_; exact BK275.out) Try.underlying28 rfl (by kernel_rfl)) rfl ?_
         exact ⟨_, mE, by (with_reducible repeat (first | apply Kd.S_alloc | apply Kd.S_drewN | apply Kd.S_drew)); exact Kd.S_mono (Kd.S_far (p := ⟨gb275, 1, none⟩) (Kd.S_far (p := ⟨gb275, 0, none⟩) (Kd.S_types HO354.out BK275.out (by decide)) (fun _ hk => hk.2) (.int .i64 t351)) (fun _ hk => hk.2) (.slice Ao164 t352.length co164)) (fun _ hk => trivial), mG⟩
        subst c129
        rw [if_pos rfl] at H
        replace H := Option.bind_eq_some_iff.mp H
        obtain ⟨t346, A1300, H⟩ := H
        have A130 := Aside0.mk A1300
        clear A1300
        by_cases c131 : t346 = true
        ·
         subst c131
         rw [if_pos rfl] at H
         simp only [Option.some.injEq, Prod.mk.injEq] at H
         obtain ⟨rfl, rfl, rfl⟩ := H
         have hnb132 := NB274_275.out
         have hnc132 := NB275_274.out
         have hnb133 := NB274_276.out
         have hnc133 := NB276_274.out
         have hcz134_0 : wc.cell? ⟨gb274, 0, none⟩ = some (.int .i64 a0_0) := (blk_cell BK274.out 0).trans rfl
         have hcz134_1 : wc.cell? ⟨gb274, 1, none⟩ = some (.slice A0_1 l0_1.length c0_1) := (blk_cell BK274.out 1).trans rfl
         have hfz134_0 := blk_frozen BK274.out 0
         have hfz134_1 := blk_frozen BK274.out 1
         go_wp2_with (first | ((with_reducible refine gate_callee (f := 67) rfl ?_); refine goesL_ (some 81) rfl rfl Try.func67 (by kernel_rfl) rfl #[.agg #[.int .i64 a0_0, .slice A0_1 l0_1.length c0_1]] rfl mA ?_; (with_reducible refine (spec_IsGraph.calls kj115 a0_0 _ _ l0_1 true _ ?side1 ?side2 A128.out).mono ?_); (case side1 => exact mC (Kd.C_below HR0_1.out HB.out)); (case side2 => exact HC0_1.out); rintro e w135 ⟨rfl, hb⟩; refine ⟨_, rfl, ?_⟩; have n0_ := Aside0.mk (Kd.S_below (mS HO_277001.out) hb); have n1_ := Aside0.mk (blk_below (g := gb274) (o := .cells #[.int .i64 a0_0, .slice A0_1 l0_1.length c0_1] 28 (0, 0)) ((mK (BK274.out))) hb); have n2_ := Aside0.mk (blk_below (g := gb275) (o := .cells #[.int .i64 0, .slice none 0 0] 28 (0, 0)) ((mK (BK275.out))) hb); have n3_ := Aside0.mk (blk_below (g := gb276) (o := .cells #[.int .i64 a0_0, u277001] 28 (0, 0)) ((mK (BK276.out))) hb); have n4_ := Aside0.mk (below_step mG hb); clear HO_277001 BK274 BK275 BK276 HB; have HO_277001 := n0_; have BK274 := n1_; have BK275 := n2_; have BK276 := n3_; have HB := n4_; clear n0_ n1_ n2_ n3_ n4_; (try clear hb); have hnb136 := NB276_275.out; have hnc136 := NB275_276.out; have hcz137_0 : w135.cell? ⟨gb276, 0, none⟩ = some (.int .i64 a0_0) := (blk_cell BK276.out 0).trans rfl; have hcz137_1 : w135.cell? ⟨gb276, 1, none⟩ = some (u277001) := (blk_cell BK276.out 1).trans rfl; have hfz137_0 := blk_frozen BK276.out 0; have hfz137_1 := blk_frozen BK276.out 1; obtain ⟨Ao138, co138, eo138⟩ := Kd.S_slice HO_277001.out; subst eo138) | (go_at_call 67; (with_reducible refine (spec_IsGraph.calls kj115 a0_0 _ _ x277001_115 true _ ?side1 ?side2 A130.out).mono ?_); (case side1 => exact mC (Kd.S_reads' HO_277001.out).2.2); (case side2 => exact (Kd.S_reads' HO_277001.out).2.1); rintro e w139 ⟨rfl, hb⟩; have n0_ := Aside0.mk (Kd.S_below (mS HO_277001.out) hb); have n1_ := Aside0.mk (blk_below (g := gb274) (o := .cells #[.int .i64 a0_0, .slice A0_1 l0_1.length c0_1] 28 (0, 0)) ((mK (BK274.out))) hb); have n2_ := Aside0.mk (blk_below (g := gb275) (o := .cells #[.int .i64 0, .slice none 0 0] 28 (0, 0)) ((mK (BK275.out))) hb); have n3_ := Aside0.mk (blk_below (g := gb276) (o := .cells #[.int .i64 a0_0, .slice Ao138 x277001_115.length co138] 28 (0, 0)) ((mK (BK276.out))) hb); have n4_ := Aside0.mk (below_step mG hb); clear HO_277001 BK274 BK275 BK276 HB; have HO_277001 := n0_; have BK274 := n1_; have BK275 := n2_; have BK276 := n3_; have HB := n4_; clear n0_ n1_ n2_ n3_ n4_; (try clear hb); have hcz140_0 : w139.cell? ⟨gb276, 0, none⟩ = some (.int .i64 a0_0) := (blk_cell BK276.out 0).trans rfl; have hcz140_1 : w139.cell? ⟨gb276, 1, none⟩ = some (.slice Ao138 x277001_115.length co138) := (blk_cell BK276.out 1).trans rfl; have hfz140_0 := blk_frozen BK276.out 0; have hfz140_1 := blk_frozen BK276.out 1; have hcz141_0 : w139.cell? ⟨gb275, 0, none⟩ = some (.int .i64 0) := (blk_cell BK275.out 0).trans rfl; have hcz141_1 : w139.cell? ⟨gb275, 1, none⟩ = some (.slice none 0 0) := (blk_cell BK275.out 1).trans rfl; have hfz141_0 := blk_frozen BK275.out 0; have hfz141_1 := blk_frozen BK275.out 1))
         refine bodyPost_ret (results_ct rfl _ _ gb275 28 #[.int .i64 a0_0, .slice Ao138 x277001_115.length co138] (0, 0) _ rfl (by refine pK ?_; refine blk_put (cs := #[.int .i64 a0_0, .slice none 0 0]) ?_ 1 _ rfl; refine pK ?_; refine blk_put (cs := #[.int .i64 0, .slice none 0 0]) ?_ 0 _ rfl; refine pK ?_; exact BK275.out) Try.underlying28 rfl (by kernel_rfl)) rfl ?_
         exact ⟨_, mE, by (with_reducible repeat (first | apply Kd.S_alloc | apply Kd.S_drewN | apply Kd.S_drew)); exact Kd.S_mono (Kd.S_far (p := ⟨gb275, 1, none⟩) (Kd.S_far (p := ⟨gb275, 0, none⟩) (Kd.S_types HO_277001.out BK275.out (by decide)) (fun _ hk => hk.2) (.int .i64 a0_0)) (fun _ hk => hk.2) (.slice Ao138 x277001_115.length co138)) (fun _ hk => trivial), mG⟩
        replace c131 := Bool.eq_false_iff.mpr c131
        subst c131
        rw [if_neg (show ¬ (false = true) by decide)] at H
        replace H := Option.bind_eq_some_iff.mp H
        obtain ⟨⟨t347, t348⟩, A1420, H⟩ := H
        try dsimp only at H
        have A142 := Aside0.mk A1420
        clear A1420
        simp only [Option.some.injEq, Prod.mk.injEq] at H
        obtain ⟨rfl, rfl, rfl⟩ := H
        have hnb143 := NB274_275.out
        have hnc143 := NB275_274.out
        have hnb144 := NB274_276.out
        have hnc144 := NB276_274.out
        have hcz145_0 : wc.cell? ⟨gb274, 0, none⟩ = some (.int .i64 a0_0) := (blk_cell BK274.out 0).trans rfl
        have hcz145_1 : wc.cell? ⟨gb274, 1, none⟩ = some (.slice A0_1 l0_1.length c0_1) := (blk_cell BK274.out 1).trans rfl
        have hfz145_0 := blk_frozen BK274.out 0
        have hfz145_1 := blk_frozen BK274.out 1
        go_wp2_with (first | ((with_reducible refine gate_callee (f := 67) rfl ?_); refine goesL_ (some 81) rfl rfl Try.func67 (by kernel_rfl) rfl #[.agg #[.int .i64 a0_0, .slice A0_1 l0_1.length c0_1]] rfl mA ?_; (with_reducible refine (spec_IsGraph.calls kj115 a0_0 _ _ l0_1 true _ ?side1 ?side2 A128.out).mono ?_); (case side1 => exact mC (Kd.C_below HR0_1.out HB.out)); (case side2 => exact HC0_1.out); rintro e w146 ⟨rfl, hb⟩; refine ⟨_, rfl, ?_⟩; have n0_ := Aside0.mk (Kd.S_below (mS HO_277001.out) hb); have n1_ := Aside0.mk (blk_below (g := gb274) (o := .cells #[.int .i64 a0_0, .slice A0_1 l0_1.length c0_1] 28 (0, 0)) ((mK (BK274.out))) hb); have n2_ := Aside0.mk (blk_below (g := gb275) (o := .cells #[.int .i64 0, .slice none 0 0] 28 (0, 0)) ((mK (BK275.out))) hb); have n3_ := Aside0.mk (blk_below (g := gb276) (o := .cells #[.int .i64 a0_0, u277001] 28 (0, 0)) ((mK (BK276.out))) hb); have n4_ := Aside0.mk (below_step mG hb); clear HO_277001 BK274 BK275 BK276 HB; have HO_277001 := n0_; have BK274 := n1_; have BK275 := n2_; have BK276 := n3_; have HB := n4_; clear n0_ n1_ n2_ n3_ n4_; (try clear hb); have hnb147 := NB276_275.out; have hnc147 := NB275_276.out; have hcz148_0 : w146.cell? ⟨gb276, 0, none⟩ = some (.int .i64 a0_0) := (blk_cell BK276.out 0).trans rfl; have hcz148_1 : w146.cell? ⟨gb276, 1, none⟩ = some (u277001) := (blk_cell BK276.out 1).trans rfl; have hfz148_0 := blk_frozen BK276.out 0; have hfz148_1 := blk_frozen BK276.out 1; obtain ⟨Ao149, co149, eo149⟩ := Kd.S_slice HO_277001.out; subst eo149) | (go_at_call 67; (with_reducible refine (spec_IsGraph.calls kj115 a0_0 _ _ x277001_115 false _ ?side1 ?side2 A130.out).mono ?_); (case side1 => exact mC (Kd.S_reads' HO_277001.out).2.2); (case side2 => exact (Kd.S_reads' HO_277001.out).2.1); rintro e w150 ⟨rfl, hb⟩; have n0_ := Aside0.mk (Kd.S_below (mS HO_277001.out) hb); have n1_ := Aside0.mk (blk_below (g := gb274) (o := .cells #[.int .i64 a0_0, .slice A0_1 l0_1.length c0_1] 28 (0, 0)) ((mK (BK274.out))) hb); have n2_ := Aside0.mk (blk_below (g := gb275) (o := .cells #[.int .i64 0, .slice none 0 0] 28 (0, 0)) ((mK (BK275.out))) hb); have n3_ := Aside0.mk (blk_below (g := gb276) (o := .cells #[.int .i64 a0_0, .slice Ao149 x277001_115.length co149] 28 (0, 0)) ((mK (BK276.out))) hb); have n4_ := Aside0.mk (below_step mG hb); clear HO_277001 BK274 BK275 BK276 HB; have HO_277001 := n0_; have BK274 := n1_; have BK275 := n2_; have BK276 := n3_; have HB := n4_; clear n0_ n1_ n2_ n3_ n4_; (try clear hb); have hcz151_0 : w150.cell? ⟨gb274, 0, none⟩ = some (.int .i64 a0_0) := (blk_cell BK274.out 0).trans rfl; have hcz151_1 : w150.cell? ⟨gb274, 1, none⟩ = some (.slice A0_1 l0_1.length c0_1) := (blk_cell BK274.out 1).trans rfl; have hfz151_0 := blk_frozen BK274.out 0; have hfz151_1 := blk_frozen BK274.out 1) | ((with_reducible refine gate_callee (f := 158) rfl ?_); refine goesL_ (some 89) rfl rfl Try.func158 (by kernel_rfl) rfl #[.agg #[.int .i64 a0_0, .slice A0_1 l0_1.length c0_1]] rfl mA ?_; (with_reducible refine (spec_l4Copy.calls kj115 a0_0 _ _ l0_1 t347 t348 _ ?side1 ?side2 A142.out).mono ?_); (case side1 => exact mC (Kd.C_below HR0_1.out HB.out)); (case side2 => exact HC0_1.out); rintro e w152 ⟨v349, rfl, ho0, hb⟩; refine ⟨_, rfl, ?_⟩; have n0_ := Aside0.mk (Kd.S_elder' (mS HO_277001.out) (Kd.S_base ho0) hb); have n1_ := Aside0.mk (Kd.S_lower (Kd.S_new' ho0 (Kd.S_lt (mS HO_277001.out))) (below_size mG)); have n2_ := Aside0.mk (blk_below (g := gb274) (o := .cells #[.int .i64 a0_0, .slice A0_1 l0_1.length c0_1] 28 (0, 0)) ((mK (BK274.out))) hb); have n3_ := Aside0.mk (blk_below (g := gb275) (o := .cells #[.int .i64 0, .slice none 0 0] 28 (0, 0)) ((mK (BK275.out))) hb); have n4_ := Aside0.mk (blk_below (g := gb276) (o := .cells #[.int .i64 a0_0, .slice Ao149 x277001_115.length co149] 28 (0, 0)) ((mK (BK276.out))) hb); have n5_ := Aside0.mk (below_step mG hb); clear HO_277001 BK274 BK275 BK276 HB; have HO_277001 := n0_; have HO350 := n1_; have BK274 := n2_; have BK275 := n3_; have BK276 := n4_; have HB := n5_; clear n0_ n1_ n2_ n3_ n4_ n5_; (try clear hb); (try clear ho0); have hcz153_0 : w152.cell? ⟨gb275, 0, none⟩ = some (.int .i64 0) := (blk_cell BK275.out 0).trans rfl; have hcz153_1 : w152.cell? ⟨gb275, 1, none⟩ = some (.slice none 0 0) := (blk_cell BK275.out 1).trans rfl; have hfz153_0 := blk_frozen BK275.out 0; have hfz153_1 := blk_frozen BK275.out 1; obtain ⟨Ao154, co154, eo154⟩ := Kd.S_slice HO350.out; subst eo154))
        refine bodyPost_ret (results_ct rfl _ _ gb275 28 #[.int .i64 t347, .slice Ao154 t348.length co154] (0, 0) _ rfl (by refine pK ?_; refine blk_put (cs := #[.int .i64 t347, .slice none 0 0]) ?_ 1 _ rfl; refine pK ?_; refine blk_put (cs := #[.int .i64 0, .slice none 0 0]) ?_ 0 _ rfl; refine pK ?_; exact BK275.out) Try.underlying28 rfl (by kernel_rfl)) rfl ?_
        exact ⟨_, mE, by (with_reducible repeat (first | apply Kd.S_alloc | apply Kd.S_drewN | apply Kd.S_drew)); exact Kd.S_mono (Kd.S_far (p := ⟨gb275, 1, none⟩) (Kd.S_far (p := ⟨gb275, 0, none⟩) (Kd.S_types HO350.out BK275.out (by decide)) (fun _ hk => hk.2) (.int .i64 t347)) (fun _ hk => hk.2) (.slice Ao154 t348.length co154)) (fun _ hk => trivial), mG⟩
     subst c22
     rw [if_pos rfl] at H
     by_cases c23 : 0 ≤ x10_1
     rotate_left
     ·
      rw [if_neg c23] at H
      exact absurd H (by simp)
     rw [if_pos c23] at H
     have c23b0 : decide (0 ≤ x10_1) = true := decide_eq_true c23
     clear c23
     by_cases c24 : x10_1 < (l0_1.length : Int)
     rotate_left
     ·
      rw [if_neg c24] at H
      exact absurd H (by simp)
     rw [if_pos c24] at H
     have c24b0 : decide (x10_1 < (l0_1.length : Int)) = true := decide_eq_true c24
     clear c24
     by_cases c25 : x9_1 = true
     ·
      subst c25
      rw [if_pos rfl] at H
      obtain ⟨y279, hy279⟩ : ∃ y_ : List Int, y_ = (([] : List Int)) := ⟨_, rfl⟩
      replace H : (if y279.length + (rd_L1 l0_1 x10_1).length < 17592186044416 then (if x277001_1.length < 5864062014805 then (spec_AddAttack.l0 kj11 a1 a2 true (wrap64 (x10_1 + 1)) a0_0 l0_1 a0_0 (x277001_1 ++ [(y279 ++ (rd_L1 l0_1 x10_1))])) else (none)) else (none)) = some (r1, r2, r3) := by first | (rw [hy279]; with_reducible exact H) | (have H2_ := (Option.bind_some _ _).symm.trans H; rw [hy279]; with_reducible exact H2_) | (have H2_ := (Option.bind_some _ _).symm.trans H; with_reducible exact H2_) | with_reducible exact H | (rw [hy279]; exact H) | exact H
      have Ny279 := Aside0.mk hy279
      clear hy279
      by_cases c26 : y279.length + (rd_L1 l0_1 x10_1).length < 17592186044416
      rotate_left
      ·
       rw [if_neg c26] at H
       exact absurd H (by simp)
      rw [if_pos c26] at H
      have LMc26 := Aside0.mk c26
      clear c26
      obtain ⟨y282, hy282⟩ : ∃ y_ : List Int, y_ = (y279 ++ (rd_L1 l0_1 x10_1)) := ⟨_, rfl⟩
      replace H : (if x277001_1.length < 5864062014805 then (spec_AddAttack.l0 kj11 a1 a2 true (wrap64 (x10_1 + 1)) a0_0 l0_1 a0_0 (x277001_1 ++ [y282])) else (none)) = some (r1, r2, r3) := by first | (rw [hy282]; with_reducible exact H) | (have H2_ := (Option.bind_some _ _).symm.trans H; rw [hy282]; with_reducible exact H2_) | (have H2_ := (Option.bind_some _ _).symm.trans H; with_reducible exact H2_) | with_reducible exact H | (rw [hy282]; exact H) | exact H
      have Ny282 := Aside0.mk hy282
      clear hy282
      by_cases c27 : x277001_1.length < 5864062014805
      rotate_left
      ·
       rw [if_neg c27] at H
       exact absurd H (by simp)
      rw [if_pos c27] at H
      have LMc27 := Aside0.mk c27
      clear c27
      obtain ⟨y285, hy285⟩ : ∃ y_ : List (List Int), y_ = (x277001_1 ++ [y282]) := ⟨_, rfl⟩
      replace H : (spec_AddAttack.l0 kj11 a1 a2 true (wrap64 (x10_1 + 1)) a0_0 l0_1 a0_0 y285) = some (r1, r2, r3) := by first | (rw [hy285]; with_reducible exact H) | (have H2_ := (Option.bind_some _ _).symm.trans H; rw [hy285]; with_reducible exact H2_) | (have H2_ := (Option.bind_some _ _).symm.trans H; with_reducible exact H2_) | with_reducible exact H | (rw [hy285]; exact H) | exact H
      have Ny285 := Aside0.mk hy285
      clear hy285
      have H' := Aside0.mk H
      clear H
      have hnb28 := NB274_275.out
      have hnc28 := NB275_274.out
      have hnb29 := NB274_276.out
      have hnc29 := NB276_274.out
      have hcz30_0 : wc.cell? ⟨gb274, 0, none⟩ = some (.int .i64 a0_0) := (blk_cell BK274.out 0).trans rfl
      have hcz30_1 : wc.cell? ⟨gb274, 1, none⟩ = some (.slice A0_1 l0_1.length c0_1) := (blk_cell BK274.out 1).trans rfl
      have hfz30_0 := blk_frozen BK274.out 0
      have hfz30_1 := blk_frozen BK274.out 1
      have p278 : 0 ≤ (x10_1 : Int) := mD
      have q278 : x10_1 < (l0_1.length : Int) := mD
      obtain ⟨ad278, A278_0, c278_0, e278, hx278_0, hl278_0, hi278_0⟩ := at_L1 HR0_1.out x10_1 p278 q278
      cases e278
      replace hx278_0 := (HB.out.cell (World.block_lt_of_cell? w _ hx278_0)).trans hx278_0
      have HR278_0 := Aside0.mk hi278_0
      have HC278_0 := Aside0.mk hl278_0
      clear hi278_0 hl278_0
      replace p278 := eq_true p278
      replace q278 := eq_true q278
      try go_wp2
      have n0_ := Aside0.mk (Kd.S_drew HO_277001.out)
      have n1_ := Aside0.mk (blk_drew BK274.out)
      have n2_ := Aside0.mk (blk_drew BK275.out)
      have n3_ := Aside0.mk (blk_drew BK276.out)
      have n4_ := Aside0.mk (below_drew1 HB.out)
      clear HO_277001 BK274 BK275 BK276 HB; have HO_277001 := n0_; have BK274 := n1_; have BK275 := n2_; have BK276 := n3_; have HB := n4_; clear n0_ n1_ n2_ n3_ n4_
      refine start_ (n := 9) (S := fun w' => w'.cell? ⟨gb276, 0, none⟩ = some (.int .i64 a0_0) ∧ w'.cell? ⟨gb276, 1, none⟩ = some (u277001)) (ds := [8]) (L_ 0 9) (by kernel_rfl) rfl rfl ⟨(blk_cell BK276.out 0).trans rfl, (blk_cell BK276.out 1).trans rfl⟩ (fun hHeld => ?_); refine with_tabW spec_AddAttack.tab10 spec_AddAttack.bits10 (fun HT_ HW_ => ?_)
      generalize wc.drew = w31 at HO_277001 BK274 BK275 BK276 HB hHeld ⊢
      refine ps 0 62 (L_ 1 9) HT_.out ?_
      refine ps 3 65 #[true, false, false, true, false, false, false, false, false] HT_.out ?_
      refine take_ (i := 1) (N := some 63) (v := ?_) (a' := ?_) #[true, true, false, true, false, false, false, false, false] rfl rfl (take_ofW HT_.out HW_.out (by kernel_rfl)) (fun _ _ _ h => h) (Or.inl ⟨by rfl, ?_⟩) hHeld ?_ ?_
      rotate_left
      ·
       rintro w' ⟨s0, s1⟩
       go_simp
       with_reducible rfl
      rotate_left
      ·
       simp only [Act.put, List.setIfInBounds_toArray, List.set_cons_zero, List.set_cons_succ, i64_w, i32_w]
       rfl
      refine one_ (i := 2) (N := some 64) (L_ 4 9) rfl rfl (one_of HT_.out (by kernel_rfl)) (by decide) (fun K hK => ?_)
      refine Kd.R_lit_step (Kd.int .i64) _ 3 ?hg (N := 64) ?hd (xs := ([] : List Int)) (inner := []) (ok := fun _ => True) (okp := fun _ => True) ?hr ?hp (fun _ hk => hk) trivial (Below.refl _ _) (Nat.le_refl _) (by simp) ?_; (case hd => rfl); (case hg => rfl); (case hr => first | (go_simp; done) | (go_simp; rfl)); (case hp => exact (Reps.none _ _))
      intro v280 w32 ho33 hb hg_ hnew_
      clear hg_ hnew_
      (first | rw [← Ny279.out] at ho33 | (simp only [Int.reduceToNat] at ho33; rw [← Ny279.out] at ho33))
      have n0_ := Aside0.mk (Kd.S_elder' (mS HO_277001.out) (Kd.R_base ho33) hb)
      have n1_ := Aside0.mk (Kd.R_lower ho33 (below_size mG))
      have n2_ := Aside0.mk (blk_below (g := gb274) (o := .cells #[.int .i64 a0_0, .slice (some ad278) l0_1.length c0_1] 28 (0, 0)) ((mK (BK274.out))) hb)
      have n3_ := Aside0.mk (blk_below (g := gb275) (o := .cells #[.int .i64 0, .slice none 0 0] 28 (0, 0)) ((mK (BK275.out))) hb)
      have n4_ := Aside0.mk (blk_below (g := gb276) (o := .cells #[.int .i64 a0_0, u277001] 28 (0, 0)) ((mK (BK276.out))) hb)
      have n5_ := Aside0.mk (below_step mG hb)
      clear HO_277001 BK274 BK275 BK276 HB; have HO_277001 := n0_; have HO281 := n1_; have BK274 := n2_; have BK275 := n3_; have BK276 := n4_; have HB := n5_; clear n0_ n1_ n2_ n3_ n4_ n5_; clear hb ho33
      refine hK.out _ _ ⟨(blk_cell BK276.out 0).trans rfl, (blk_cell BK276.out 1).trans rfl⟩ (fun hHeld => ?_)
      clear hK K
      refine norm_ (a' := ?_) ?_ ?_
      rotate_left
      ·
       show Act.put _ (some 64) _ = _
       simp only [Act.put, List.setIfInBounds_toArray, List.set_cons_zero, List.set_cons_succ, i64_w, i32_w]
       rfl
      refine one_ (i := 4) (N := some 66) (L_ 5 9) rfl rfl (one_of HT_.out (by kernel_rfl)) (by decide) (fun K hK => ?_)
      refine Kd.R_append_rows_step (Kd.int .i64) (w0 := w) w.heap.size (by rfl) (.tmp 64) (.tmp 65) 25 3 (.int .i64 0) 8 rfl Try.underlying25 info3 rfl (by decide) (by omega) v280 y279 (rd_L1 l0_1 x10_1) _ _ _ (fun _ => True) (fun _ => False) rfl rfl ?aO ?aR (fun _ _ h => h) (fun _ h => h.elim) ?aF ?aB ?aS ?aL ?_
      (case aR => exact mC (Kd.C_below HR278_0.out HB.out))
      (case aB => exact mG)
      (case aF => exact (fun _ _ => trivial))
      (case aO => exact (mR HO281.out))
      (case aS => exact (below_size mG))
      (case aL => have := LMc26.out; omega)
      intro v283 w34 ho hb hg hat
      rw [← Ny282.out] at ho
      have n0_ := Aside0.mk (Kd.S_after (ok := (fun _ => True)) (mS HO_277001.out) hg hat)
      have n1_ := Aside0.mk (blk_grown (g := gb274) (o := .cells #[.int .i64 a0_0, .slice (some ad278) l0_1.length c0_1] 28 (0, 0)) ((mK (BK274.out))) hg (Kd.R_ne HO281.out BK274.out (by decide)))
      have n2_ := Aside0.mk (blk_grown (g := gb275) (o := .cells #[.int .i64 0, .slice none 0 0] 28 (0, 0)) ((mK (BK275.out))) hg (Kd.R_ne HO281.out BK275.out (by decide)))
      have n3_ := Aside0.mk (blk_grown (g := gb276) (o := .cells #[.int .i64 a0_0, u277001] 28 (0, 0)) ((mK (BK276.out))) hg (Kd.R_ne HO281.out BK276.out (by decide)))
      have n4_ := Aside0.mk (hb)
      have n5_ := Aside0.mk (ho)
      clear HO_277001 BK274 BK275 BK276 HB HO281; have HO_277001 := n0_; have BK274 := n1_; have BK275 := n2_; have BK276 := n3_; have HB := n4_; have HO284 := n5_; clear n0_ n1_ n2_ n3_ n4_ n5_; clear ho hb hg hat
      obtain ⟨Ao36, co36, eo36⟩ := Kd.R_slice HO284.out
      (first | subst eo36 | (injection eo36 with f1_ f2_ f3_; have f4_ := f1_.symm; have f5_ := f3_.symm; clear f1_ f2_ f3_; subst f4_; subst f5_))
      refine hK.out _ _ ⟨(blk_cell BK276.out 0).trans rfl, (blk_cell BK276.out 1).trans rfl⟩ (fun hHeld => ?_)
      clear hK K
      refine norm_ (a' := ?_) ?_ ?_
      rotate_left
      ·
       show Act.put _ (some 66) _ = _
       simp only [Act.put, List.setIfInBounds_toArray, List.set_cons_zero, List.set_cons_succ, i64_w, i32_w]
       rfl
      refine one_ (i := 5) (N := some 67) (L_ 6 9) rfl rfl (one_of HT_.out (by kernel_rfl)) (by decide) (fun K hK => ?_)
      refine value_ (w1 := ?_) (v := ?_) (by rfl) rfl ?_ ?_
      rotate_left 2
      ·
       go_simp
       constructor
       ·
        rfl
       ·
        rfl
      refine hK.out _ _ ⟨(blk_cell (blk_alloc BK276.out _) 0).trans rfl, (blk_cell (blk_alloc BK276.out _) 1).trans rfl⟩ (fun hHeld => ?_)
      clear hK K
      refine norm_ (a' := ?_) ?_ ?_
      rotate_left
      ·
       show Act.put _ (some 67) _ = _
       simp only [Act.put, List.setIfInBounds_toArray, List.set_cons_zero, List.set_cons_succ, i64_w, i32_w]
       rfl
      refine one_ (i := 6) (N := some 68) (L_ 7 9) rfl rfl (one_of HT_.out (by kernel_rfl)) (by decide) (fun K hK => ?_)
      refine Kd.S_append_step (Kd.slice 3 (Kd.int .i64)) (w0 := w) w.heap.size (by rfl) (.tmp 63) (.tmp 67) 22 25 (.slice none 0 0) 24 rfl Try.underlying22 info25 rfl (by decide) (by omega) u277001 x277001_1 y282 [.slice Ao36 y282.length co36] (fun _ => True) (fun k_ => some k_ = (.slice Ao36 y282.length co36 : Value).ownBlock) rfl rfl ?aP (fun k_ hk_ => ((Kd.R_mono (ok' := fun k_ => ((fun _ => True)) k_ ∧ some k_ ≠ (u277001 : Value).ownBlock) (Kd.R_apart' (HO284.out) (Kd.S_typed HO_277001.out) (by decide)) (fun k_ hk => ⟨trivial, hk.2⟩))).1 k_ hk_.symm) ?aF ?aO ?aB ?aS ?aL ?_
      (case aP => exact Kd.M_row (Kd.R_mono (Kd.R_tight rfl (Kd.R_mono (ok' := fun k_ => ((fun _ => True)) k_ ∧ some k_ ≠ (u277001 : Value).ownBlock) (Kd.R_apart' (HO284.out) (Kd.S_typed HO_277001.out) (by decide)) (fun k_ hk => ⟨trivial, hk.2⟩))) (fun _ h_ => h_)))
      (case aB => exact mG)
      (case aF => exact (fun _ _ => trivial))
      (case aO => exact (mS (Kd.S_mono HO_277001.out (fun k_ hk => ⟨trivial, fun e_ => hk.2 e_⟩))))
      (case aS => exact (below_size mG))
      (case aL => have := LMc27.out; omega)
      intro v286 w35 ho hb hg hat
      rw [← Ny285.out] at ho
      have n0_ := Aside0.mk (blk_grown (g := gb274) (o := .cells #[.int .i64 a0_0, .slice (some ad278) l0_1.length c0_1] 28 (0, 0)) ((mK (BK274.out))) hg (Kd.S_ne HO_277001.out BK274.out (by decide)))
      have n1_ := Aside0.mk (blk_grown (g := gb275) (o := .cells #[.int .i64 0, .slice none 0 0] 28 (0, 0)) ((mK (BK275.out))) hg (Kd.S_ne HO_277001.out BK275.out (by decide)))
      have n2_ := Aside0.mk (blk_grown (g := gb276) (o := .cells #[.int .i64 a0_0, u277001] 28 (0, 0)) ((mK (BK276.out))) hg (Kd.S_ne HO_277001.out BK276.out (by decide)))
      have n3_ := Aside0.mk (hb)
      have n4_ := Aside0.mk (ho)
      clear BK274 BK275 BK276 HB HO_277001 HO284; have BK274 := n0_; have BK275 := n1_; have BK276 := n2_; have HB := n3_; have HO287 := n4_; clear n0_ n1_ n2_ n3_ n4_; clear ho hb hg hat
      obtain ⟨Ao37, co37, eo37⟩ := Kd.S_slice HO287.out
      (first | subst eo37 | (injection eo37 with f1_ f2_ f3_; have f4_ := f1_.symm; have f5_ := f3_.symm; clear f1_ f2_ f3_; subst f4_; subst f5_))
      refine hK.out _ _ ⟨(blk_cell BK276.out 0).trans rfl, (blk_cell BK276.out 1).trans rfl⟩ (fun hHeld => ?_)
      clear hK K
      refine norm_ (a' := ?_) ?_ ?_
      rotate_left
      ·
       show Act.put _ (some 68) _ = _
       simp only [Act.put, List.setIfInBounds_toArray, List.set_cons_zero, List.set_cons_succ, i64_w, i32_w]
       rfl
      refine ps 7 69 (L_ 8 9) HT_.out ?_
      refine last_ (i := 8) (N := none) (L_ 9 9) rfl rfl (one_of HT_.out (by kernel_rfl)) (by decide) (fun K hK => ?_)
      have hs38 : w35.cell? ⟨gb276, 1, none⟩ = some (u277001) := (blk_cell BK276.out 1).trans rfl
      have hfs38 := blk_frozen BK276.out 1
      have hns38_0 := NB274_276.out
      have hns38_1 := NB275_276.out
      have hms38_0 := NB276_274.out
      have hms38_1 := NB276_275.out
      refine skip_ (w1 := ?_) (by rfl) rfl ?_ ?_
      rotate_left
      ·
       go_simp
       rfl
      refine hK.out _ _ ?_
      clear hK K
      refine done_ (done_of HT_.out (by kernel_rfl)) ?_
      try go_wp2
      go_roundg kj11
      case measure => have := HK1.out; have := HJ11.out; omega
      case rel => exact ⟨(true), (wrap64 (x10_1 + 1)), (y285), (.slice Ao37 y285.length co37), mF, mF, H', ⟨by have := HK1.out; have := HJ11.out; omega⟩, ⟨by (with_reducible repeat (first | apply Kd.S_alloc | apply Kd.S_drewN | apply Kd.S_drew)); exact Kd.S_mono (Kd.S_far (p := ⟨gb276, 1, none⟩) (Kd.S_types HO287.out BK276.out (by decide)) (fun _ hk => hk.2) (.slice Ao37 y285.length co37)) (fun _ hk => trivial)⟩, ⟨by refine pK ?_; refine blk_far ?_ NB274_276.out _; refine pK ?_; exact BK274.out⟩, ⟨by refine pK ?_; refine blk_far ?_ NB275_276.out _; refine pK ?_; exact BK275.out⟩, ⟨by refine pK ?_; refine blk_put (cs := #[.int .i64 a0_0, u277001]) ?_ 1 _ rfl; refine pK ?_; exact BK276.out⟩, ⟨mG⟩⟩
     replace c25 := Bool.eq_false_iff.mpr c25
     subst c25
     rw [if_neg (show ¬ (false = true) by decide)] at H
     by_cases c39 : 0 < ((rd_L1 l0_1 x10_1).length : Int)
     rotate_left
     ·
      rw [if_neg c39] at H
      exact absurd H (by simp)
     rw [if_pos c39] at H
     have c39b0 : decide (0 < ((rd_L1 l0_1 x10_1).length : Int)) = true := decide_eq_true c39
     have c39b1 : decide (0 < (rd_L1 l0_1 x10_1).length) = true := decide_eq_true (by omega)
     clear c39
     by_cases c40 : (rd (rd_L1 l0_1 x10_1) 0) > a1
     ·
      rw [if_pos c40] at H
      have c40b0 : decide (a1 < (rd (rd_L1 l0_1 x10_1) 0)) = true := decide_eq_true c40
      clear c40
      obtain ⟨y289, hy289⟩ : ∃ y_ : List Int, y_ = (([a1, a2] : List Int)) := ⟨_, rfl⟩
      replace H : (if x277001_1.length < 5864062014805 then ((some (x277001_1 ++ [y289] : List (List Int))).bind fun y292 => ((some (([] : List Int) : List Int)).bind fun y295 => (if y295.length + (rd_L1 l0_1 x10_1).length < 17592186044416 then (if y292.length < 5864062014805 then (spec_AddAttack.l0 kj11 a1 a2 true (wrap64 (x10_1 + 1)) a0_0 l0_1 a0_0 (y292 ++ [(y295 ++ (rd_L1 l0_1 x10_1))])) else (none)) else (none)))) else (none)) = some (r1, r2, r3) := by first | (rw [hy289]; with_reducible exact H) | (have H2_ := (Option.bind_some _ _).symm.trans H; rw [hy289]; with_reducible exact H2_) | (have H2_ := (Option.bind_some _ _).symm.trans H; with_reducible exact H2_) | with_reducible exact H | (rw [hy289]; exact H) | exact H
      have Ny289 := Aside0.mk hy289
      clear hy289
      by_cases c41 : x277001_1.length < 5864062014805
      rotate_left
      ·
       rw [if_neg c41] at H
       exact absurd H (by simp)
      rw [if_pos c41] at H
      have LMc41 := Aside0.mk c41
      clear c41
      obtain ⟨y292, hy292⟩ : ∃ y_ : List (List Int), y_ = (x277001_1 ++ [y289]) := ⟨_, rfl⟩
      replace H : ((some (([] : List Int) : List Int)).bind fun y295 => (if y295.length + (rd_L1 l0_1 x10_1).length < 17592186044416 then (if y292.length < 5864062014805 then (spec_AddAttack.l0 kj11 a1 a2 true (wrap64 (x10_1 + 1)) a0_0 l0_1 a0_0 (y292 ++ [(y295 ++ (rd_L1 l0_1 x10_1))])) else (none)) else (none))) = some (r1, r2, r3) := by first | (rw [hy292]; with_reducible exact H) | (have H2_ := (Option.bind_some _ _).symm.trans H; rw [hy292]; with_reducible exact H2_) | (have H2_ := (Option.bind_some _ _).symm.trans H; with_reducible exact H2_) | with_reducible exact H | (rw [hy292]; exact H) | exact H
      have Ny292 := Aside0.mk hy292
      clear hy292
      obtain ⟨y295, hy295⟩ : ∃ y_ : List Int, y_ = (([] : List Int)) := ⟨_, rfl⟩
      replace H : (if y295.length + (rd_L1 l0_1 x10_1).length < 17592186044416 then (if y292.length < 5864062014805 then (spec_AddAttack.l0 kj11 a1 a2 true (wrap64 (x10_1 + 1)) a0_0 l0_1 a0_0 (y292 ++ [(y295 ++ (rd_L1 l0_1 x10_1))])) else (none)) else (none)) = some (r1, r2, r3) := by first | (rw [hy295]; with_reducible exact H) | (have H2_ := (Option.bind_some _ _).symm.trans H; rw [hy295]; with_reducible exact H2_) | (have H2_ := (Option.bind_some _ _).symm.trans H; with_reducible exact H2_) | with_reducible exact H | (rw [hy295]; exact H) | exact H
      have Ny295 := Aside0.mk hy295
      clear hy295
      by_cases c42 : y295.length + (rd_L1 l0_1 x10_1).length < 17592186044416
      rotate_left
      ·
       rw [if_neg c42] at H
       exact absurd H (by simp)
      rw [if_pos c42] at H
      have LMc42 := Aside0.mk c42
      clear c42
      obtain ⟨y298, hy298⟩ : ∃ y_ : List Int, y_ = (y295 ++ (rd_L1 l0_1 x10_1)) := ⟨_, rfl⟩
      replace H : (if y292.length < 5864062014805 then (spec_AddAttack.l0 kj11 a1 a2 true (wrap64 (x10_1 + 1)) a0_0 l0_1 a0_0 (y292 ++ [y298])) else (none)) = some (r1, r2, r3) := by first | (rw [hy298]; with_reducible exact H) | (have H2_ := (Option.bind_some _ _).symm.trans H; rw [hy298]; with_reducible exact H2_) | (have H2_ := (Option.bind_some _ _).symm.trans H; with_reducible exact H2_) | with_reducible exact H | (rw [hy298]; exact H) | exact H
      have Ny298 := Aside0.mk hy298
      clear hy298
      by_cases c43 : y292.length < 5864062014805
      rotate_left
      ·
       rw [if_neg c43] at H
       exact absurd H (by simp)
      rw [if_pos c43] at H
      have LMc43 := Aside0.mk c43
      clear c43
      obtain ⟨y301, hy301⟩ : ∃ y_ : List (List Int), y_ = (y292 ++ [y298]) := ⟨_, rfl⟩
      replace H : (spec_AddAttack.l0 kj11 a1 a2 true (wrap64 (x10_1 + 1)) a0_0 l0_1 a0_0 y301) = some (r1, r2, r3) := by first | (rw [hy301]; with_reducible exact H) | (have H2_ := (Option.bind_some _ _).symm.trans H; rw [hy301]; with_reducible exact H2_) | (have H2_ := (Option.bind_some _ _).symm.trans H; with_reducible exact H2_) | with_reducible exact H | (rw [hy301]; exact H) | exact H
      have Ny301 := Aside0.mk hy301
      clear hy301
      have H' := Aside0.mk H
      clear H
      have hnb44 := NB274_275.out
      have hnc44 := NB275_274.out
      have hnb45 := NB274_276.out
      have hnc45 := NB276_274.out
      have hcz46_0 : wc.cell? ⟨gb274, 0, none⟩ = some (.int .i64 a0_0) := (blk_cell BK274.out 0).trans rfl
      have hcz46_1 : wc.cell? ⟨gb274, 1, none⟩ = some (.slice A0_1 l0_1.length c0_1) := (blk_cell BK274.out 1).trans rfl
      have hfz46_0 := blk_frozen BK274.out 0
      have hfz46_1 := blk_frozen BK274.out 1
      have p278 : 0 ≤ (x10_1 : Int) := mD
      have q278 : x10_1 < (l0_1.length : Int) := mD
      obtain ⟨ad278, A278_0, c278_0, e278, hx278_0, hl278_0, hi278_0⟩ := at_L1 HR0_1.out x10_1 p278 q278
      cases e278
      replace hx278_0 := (HB.out.cell (World.block_lt_of_cell? w _ hx278_0)).trans hx278_0
      have HR278_0 := Aside0.mk hi278_0
      have HC278_0 := Aside0.mk hl278_0
      clear hi278_0 hl278_0
      replace p278 := eq_true p278
      replace q278 := eq_true q278
      have p288 : 0 ≤ (0 : Int) := (by omega)
      have q288 : 0 < ((rd_L1 l0_1 x10_1).length : Int) := mD
      obtain ⟨ad288, e288, hx288_0⟩ := Kd.at_int HR278_0.out 0 p288 q288
      cases e288
      have qi288 : (0 < (rd_L1 l0_1 x10_1).length) = True := eq_true (by omega)
      (try rw [show ((0 : Int)).toNat = 0 from rfl] at hx288_0)
      (try rw [Addr.add_zero'] at hx288_0)
      replace hx288_0 := (HB.out.cell (World.block_lt_of_cell? w _ hx288_0)).trans hx288_0
      replace p288 := eq_true p288
      replace q288 := eq_true q288
      have hnb47 := NB276_275.out
      have hnc47 := NB275_276.out
      have hcz48_0 : wc.cell? ⟨gb276, 0, none⟩ = some (.int .i64 a0_0) := (blk_cell BK276.out 0).trans rfl
      have hcz48_1 : wc.cell? ⟨gb276, 1, none⟩ = some (u277001) := (blk_cell BK276.out 1).trans rfl
      have hfz48_0 := blk_frozen BK276.out 0
      have hfz48_1 := blk_frozen BK276.out 1
      try go_wp2_with (first | ((with_reducible refine gate_dst (N := 58) rfl ?_); refine Kd.R_lit (Kd.int .i64) _ 3 ?hg (N := 58) ?hd (xs := ([a1, a2] : List Int)) (inner := [.int .i64 a1, .int .i64 a2]) (ok := fun _ => True) (okp := fun _ => True) ?hr ?hp (fun _ hk => hk) trivial (Below.refl _ _) (Nat.le_refl _) (by simp) ?_; (case hd => rfl); (case hg => rfl); (case hr => first | (go_simp; done) | (go_simp; rfl)); (case hp => exact (Reps.one (show Kd.M (Kd.int .i64) _ _ _ a1 [.int .i64 a1] from rfl) (Reps.one (show Kd.M (Kd.int .i64) _ _ _ a2 [.int .i64 a2] from rfl) (Reps.none _ _)))); intro v290 w49 ho50 hb hg_ hnew_; clear hg_ hnew_; (first | rw [← Ny289.out] at ho50 | (simp only [Int.reduceToNat] at ho50; rw [← Ny289.out] at ho50)); have n0_ := Aside0.mk (Kd.S_elder' (mS HO_277001.out) (Kd.R_base ho50) hb); have n1_ := Aside0.mk (Kd.R_lower ho50 (below_size mG)); have n2_ := Aside0.mk (blk_below (g := gb274) (o := .cells #[.int .i64 a0_0, .slice (some ad278) l0_1.length c0_1] 28 (0, 0)) ((mK (BK274.out))) hb); have n3_ := Aside0.mk (blk_below (g := gb275) (o := .cells #[.int .i64 0, .slice none 0 0] 28 (0, 0)) ((mK (BK275.out))) hb); have n4_ := Aside0.mk (blk_below (g := gb276) (o := .cells #[.int .i64 a0_0, u277001] 28 (0, 0)) ((mK (BK276.out))) hb); have n5_ := Aside0.mk (below_step mG hb); clear HO_277001 BK274 BK275 BK276 HB; have HO_277001 := n0_; have HO291 := n1_; have BK274 := n2_; have BK275 := n3_; have BK276 := n4_; have HB := n5_; clear n0_ n1_ n2_ n3_ n4_ n5_; clear hb ho50; obtain ⟨Ao52, co52, eo52⟩ := Kd.R_slice HO291.out; subst eo52) | ((with_reducible refine gate_builtin (b := .append) (xs := #[.tmp 55, .tmp 59]) rfl ?_); at_builtin; refine Kd.S_append (Kd.slice 3 (Kd.int .i64)) (w0 := w) w.heap.size rfl (.tmp 55) (.tmp 59) 22 25 (.slice none 0 0) 24 rfl Try.underlying22 info25 rfl (by decide) (by omega) u277001 x277001_1 y289 [.slice Ao52 y289.length co52] (fun _ => True) (fun k_ => some k_ = (.slice Ao52 y289.length co52 : Value).ownBlock) rfl rfl ?aP (fun k_ hk_ => ((Kd.R_mono (ok' := fun k_ => ((fun _ => True)) k_ ∧ some k_ ≠ (u277001 : Value).ownBlock) (Kd.R_apart' (HO291.out) (Kd.S_typed HO_277001.out) (by decide)) (fun k_ hk => ⟨trivial, hk.2⟩))).1 k_ hk_.symm) ?aF ?aO ?aB ?aS ?aL ?_; (case aP => exact Kd.M_row (Kd.R_mono (Kd.R_tight rfl (Kd.R_mono (ok' := fun k_ => ((fun _ => True)) k_ ∧ some k_ ≠ (u277001 : Value).ownBlock) (Kd.R_apart' (HO291.out) (Kd.S_typed HO_277001.out) (by decide)) (fun k_ hk => ⟨trivial, hk.2⟩))) (fun _ h_ => h_))); (case aB => exact mG); (case aF => exact (fun _ _ => trivial)); (case aO => exact (mS (Kd.S_mono HO_277001.out (fun k_ hk => ⟨trivial, fun e_ => hk.2 e_⟩)))); (case aS => exact (below_size mG)); (case aL => have := LMc41.out; omega); intro v293 w51 ho hb hg hat; rw [← Ny292.out] at ho; have n0_ := Aside0.mk (blk_grown (g := gb274) (o := .cells #[.int .i64 a0_0, .slice (some ad278) l0_1.length c0_1] 28 (0, 0)) ((mK (BK274.out))) hg (Kd.S_ne HO_277001.out BK274.out (by decide))); have n1_ := Aside0.mk (blk_grown (g := gb275) (o := .cells #[.int .i64 0, .slice none 0 0] 28 (0, 0)) ((mK (BK275.out))) hg (Kd.S_ne HO_277001.out BK275.out (by decide))); have n2_ := Aside0.mk (blk_grown (g := gb276) (o := .cells #[.int .i64 a0_0, u277001] 28 (0, 0)) ((mK (BK276.out))) hg (Kd.S_ne HO_277001.out BK276.out (by decide))); have n3_ := Aside0.mk (hb); have n4_ := Aside0.mk (ho); clear BK274 BK275 BK276 HB HO_277001 HO291; have BK274 := n0_; have BK275 := n1_; have BK276 := n2_; have HB := n3_; have HO294 := n4_; clear n0_ n1_ n2_ n3_ n4_; clear ho hb hg hat; obtain ⟨Ao53, co53, eo53⟩ := Kd.S_slice HO294.out; subst eo53; have hcz54_0 : w51.cell? ⟨gb276, 0, none⟩ = some (.int .i64 a0_0) := (blk_cell BK276.out 0).trans rfl; have hcz54_1 : w51.cell? ⟨gb276, 1, none⟩ = some (u277001) := (blk_cell BK276.out 1).trans rfl; have hfz54_0 := blk_frozen BK276.out 0; have hfz54_1 := blk_frozen BK276.out 1))
      have n0_ : Aside0 (Kd.S (Kd.slice 3 (Kd.int .i64)) 25 (w51.setCell ⟨gb276, 1, none⟩ (.slice Ao53 y292.length co53)) w.heap.size (fun _ => True) (.slice Ao53 y292.length co53) y292) := ⟨by (with_reducible repeat (first | apply Kd.S_alloc | apply Kd.S_drewN | apply Kd.S_drew)); exact Kd.S_mono (Kd.S_far (p := ⟨gb276, 1, none⟩) (Kd.S_types HO294.out BK276.out (by decide)) (fun _ hk => hk.2) (.slice Ao53 y292.length co53)) (fun _ hk => trivial)⟩
      have n1_ : Aside0 ((w51.setCell ⟨gb276, 1, none⟩ (.slice Ao53 y292.length co53)).heap[gb274]? = some (.cells #[.int .i64 a0_0, .slice (some ad278) l0_1.length c0_1] 28 (0, 0))) := ⟨by refine pK ?_; refine blk_far ?_ NB274_276.out _; refine pK ?_; exact BK274.out⟩
      have n2_ : Aside0 ((w51.setCell ⟨gb276, 1, none⟩ (.slice Ao53 y292.length co53)).heap[gb275]? = some (.cells #[.int .i64 0, .slice none 0 0] 28 (0, 0))) := ⟨by refine pK ?_; refine blk_far ?_ NB275_276.out _; refine pK ?_; exact BK275.out⟩
      have n3_ : Aside0 ((w51.setCell ⟨gb276, 1, none⟩ (.slice Ao53 y292.length co53)).heap[gb276]? = some (.cells #[.int .i64 a0_0, .slice Ao53 y292.length co53] 28 (0, 0))) := ⟨by refine pK ?_; refine blk_put (cs := #[.int .i64 a0_0, u277001]) ?_ 1 _ rfl; refine pK ?_; exact BK276.out⟩
      have n4_ : Aside0 (Below w.heap.size w (w51.setCell ⟨gb276, 1, none⟩ (.slice Ao53 y292.length co53))) := ⟨mG⟩
      (try clear HO294); (try clear BK274); (try clear BK275); (try clear BK276); (try clear HB)
      generalize (w51.setCell ⟨gb276, 1, none⟩ (.slice Ao53 y292.length co53)) = w55 at n0_ n1_ n2_ n3_ n4_ ⊢
      have HO294 := n0_; have BK274 := n1_; have BK275 := n2_; have BK276 := n3_; have HB := n4_; clear n0_ n1_ n2_ n3_ n4_
      have n0_ := Aside0.mk (Kd.S_drew HO294.out)
      have n1_ := Aside0.mk (blk_drew BK274.out)
      have n2_ := Aside0.mk (blk_drew BK275.out)
      have n3_ := Aside0.mk (blk_drew BK276.out)
      have n4_ := Aside0.mk (below_drew1 HB.out)
      clear HO294 BK274 BK275 BK276 HB; have HO294 := n0_; have BK274 := n1_; have BK275 := n2_; have BK276 := n3_; have HB := n4_; clear n0_ n1_ n2_ n3_ n4_
      refine start_ (n := 9) (S := fun w' => w'.cell? ⟨gb276, 0, none⟩ = some (.int .i64 a0_0) ∧ w'.cell? ⟨gb276, 1, none⟩ = some (.slice Ao53 y292.length co53)) (ds := [8]) (L_ 0 9) (by kernel_rfl) rfl rfl ⟨(blk_cell BK276.out 0).trans rfl, (blk_cell BK276.out 1).trans rfl⟩ (fun hHeld => ?_); refine with_tabW spec_AddAttack.tab10 spec_AddAttack.bits10 (fun HT_ HW_ => ?_)
      generalize w55.drew = w56 at HO294 BK274 BK275 BK276 HB hHeld ⊢
      refine ps 0 62 (L_ 1 9) HT_.out ?_
      refine ps 3 65 #[true, false, false, true, false, false, false, false, false] HT_.out ?_
      refine take_ (i := 1) (N := some 63) (v := ?_) (a' := ?_) #[true, true, false, true, false, false, false, false, false] rfl rfl (take_ofW HT_.out HW_.out (by kernel_rfl)) (fun _ _ _ h => h) (Or.inl ⟨by rfl, ?_⟩) hHeld ?_ ?_
      rotate_left
      ·
       rintro w' ⟨s0, s1⟩
       go_simp
       with_reducible rfl
      rotate_left
      ·
       simp only [Act.put, List.setIfInBounds_toArray, List.set_cons_zero, List.set_cons_succ, i64_w, i32_w]
       rfl
      refine one_ (i := 2) (N := some 64) (L_ 4 9) rfl rfl (one_of HT_.out (by kernel_rfl)) (by decide) (fun K hK => ?_)
      refine Kd.R_lit_step (Kd.int .i64) _ 3 ?hg (N := 64) ?hd (xs := ([] : List Int)) (inner := []) (ok := fun _ => True) (okp := fun _ => True) ?hr ?hp (fun _ hk => hk) trivial (Below.refl _ _) (Nat.le_refl _) (by simp) ?_; (case hd => rfl); (case hg => rfl); (case hr => first | (go_simp; done) | (go_simp; rfl)); (case hp => exact (Reps.none _ _))
      intro v296 w57 ho58 hb hg_ hnew_
      clear hg_ hnew_
      (first | rw [← Ny295.out] at ho58 | (simp only [Int.reduceToNat] at ho58; rw [← Ny295.out] at ho58))
      have n0_ := Aside0.mk (Kd.S_elder' (mS HO294.out) (Kd.R_base ho58) hb)
      have n1_ := Aside0.mk (Kd.R_lower ho58 (below_size mG))
      have n2_ := Aside0.mk (blk_below (g := gb274) (o := .cells #[.int .i64 a0_0, .slice (some ad278) l0_1.length c0_1] 28 (0, 0)) ((mK (BK274.out))) hb)
      have n3_ := Aside0.mk (blk_below (g := gb275) (o := .cells #[.int .i64 0, .slice none 0 0] 28 (0, 0)) ((mK (BK275.out))) hb)
      have n4_ := Aside0.mk (blk_below (g := gb276) (o := .cells #[.int .i64 a0_0, .slice Ao53 y292.length co53] 28 (0, 0)) ((mK (BK276.out))) hb)
      have n5_ := Aside0.mk (below_step mG hb)
      clear HO294 BK274 BK275 BK276 HB; have HO294 := n0_; have HO297 := n1_; have BK274 := n2_; have BK275 := n3_; have BK276 := n4_; have HB := n5_; clear n0_ n1_ n2_ n3_ n4_ n5_; clear hb ho58
      refine hK.out _ _ ⟨(blk_cell BK276.out 0).trans rfl, (blk_cell BK276.out 1).trans rfl⟩ (fun hHeld => ?_)
      clear hK K
      refine norm_ (a' := ?_) ?_ ?_
      rotate_left
      ·
       show Act.put _ (some 64) _ = _
       simp only [Act.put, List.setIfInBounds_toArray, List.set_cons_zero, List.set_cons_succ, i64_w, i32_w]
       rfl
      refine one_ (i := 4) (N := some 66) (L_ 5 9) rfl rfl (one_of HT_.out (by kernel_rfl)) (by decide) (fun K hK => ?_)
      refine Kd.R_append_rows_step (Kd.int .i64) (w0 := w) w.heap.size (by rfl) (.tmp 64) (.tmp 65) 25 3 (.int .i64 0) 8 rfl Try.underlying25 info3 rfl (by decide) (by omega) v296 y295 (rd_L1 l0_1 x10_1) _ _ _ (fun _ => True) (fun _ => False) rfl rfl ?aO ?aR (fun _ _ h => h) (fun _ h => h.elim) ?aF ?aB ?aS ?aL ?_
      (case aR => exact mC (Kd.C_below HR278_0.out HB.out))
      (case aB => exact mG)
      (case aF => exact (fun _ _ => trivial))
      (case aO => exact (mR HO297.out))
      (case aS => exact (below_size mG))
      (case aL => have := LMc42.out; omega)
      intro v299 w59 ho hb hg hat
      rw [← Ny298.out] at ho
      have n0_ := Aside0.mk (blk_grown (g := gb274) (o := .cells #[.int .i64 a0_0, .slice (some ad278) l0_1.length c0_1] 28 (0, 0)) ((mK (BK274.out))) hg (Kd.R_ne HO297.out BK274.out (by decide)))
      have n1_ := Aside0.mk (blk_grown (g := gb275) (o := .cells #[.int .i64 0, .slice none 0 0] 28 (0, 0)) ((mK (BK275.out))) hg (Kd.R_ne HO297.out BK275.out (by decide)))
      have n2_ := Aside0.mk (blk_grown (g := gb276) (o := .cells #[.int .i64 a0_0, .slice Ao53 y292.length co53] 28 (0, 0)) ((mK (BK276.out))) hg (Kd.R_ne HO297.out BK276.out (by decide)))
      have n3_ := Aside0.mk (Kd.S_after (ok := (fun _ => True)) (mS HO294.out) hg hat)
      have n4_ := Aside0.mk (hb)
      have n5_ := Aside0.mk (ho)
      clear BK274 BK275 BK276 HO294 HB HO297; have BK274 := n0_; have BK275 := n1_; have BK276 := n2_; have HO294 := n3_; have HB := n4_; have HO300 := n5_; clear n0_ n1_ n2_ n3_ n4_ n5_; clear ho hb hg hat
      obtain ⟨Ao61, co61, eo61⟩ := Kd.R_slice HO300.out
      (first | subst eo61 | (injection eo61 with f1_ f2_ f3_; have f4_ := f1_.symm; have f5_ := f3_.symm; clear f1_ f2_ f3_; subst f4_; subst f5_))
      refine hK.out _ _ ⟨(blk_cell BK276.out 0).trans rfl, (blk_cell BK276.out 1).trans rfl⟩ (fun hHeld => ?_)
      clear hK K
      refine norm_ (a' := ?_) ?_ ?_
      rotate_left
      ·
       show Act.put _ (some 66) _ = _
       simp only [Act.put, List.setIfInBounds_toArray, List.set_cons_zero, List.set_cons_succ, i64_w, i32_w]
       rfl
      refine one_ (i := 5) (N := some 67) (L_ 6 9) rfl rfl (one_of HT_.out (by kernel_rfl)) (by decide) (fun K hK => ?_)
      refine value_ (w1 := ?_) (v := ?_) (by rfl) rfl ?_ ?_
      rotate_left 2
      ·
       go_simp
       constructor
       ·
        rfl
       ·
        rfl
      refine hK.out _ _ ⟨(blk_cell (blk_alloc BK276.out _) 0).trans rfl, (blk_cell (blk_alloc BK276.out _) 1).trans rfl⟩ (fun hHeld => ?_)
      clear hK K
      refine norm_ (a' := ?_) ?_ ?_
      rotate_left
      ·
       show Act.put _ (some 67) _ = _
       simp only [Act.put, List.setIfInBounds_toArray, List.set_cons_zero, List.set_cons_succ, i64_w, i32_w]
       rfl
      refine one_ (i := 6) (N := some 68) (L_ 7 9) rfl rfl (one_of HT_.out (by kernel_rfl)) (by decide) (fun K hK => ?_)
      refine Kd.S_append_step (Kd.slice 3 (Kd.int .i64)) (w0 := w) w.heap.size (by rfl) (.tmp 63) (.tmp 67) 22 25 (.slice none 0 0) 24 rfl Try.underlying22 info25 rfl (by decide) (by omega) (.slice Ao53 y292.length co53) y292 y298 [.slice Ao61 y298.length co61] (fun _ => True) (fun k_ => some k_ = (.slice Ao61 y298.length co61 : Value).ownBlock) rfl rfl ?aP (fun k_ hk_ => ((Kd.R_mono (ok' := fun k_ => ((fun _ => True)) k_ ∧ some k_ ≠ (.slice Ao53 y292.length co53 : Value).ownBlock) (Kd.R_apart' (HO300.out) (Kd.S_typed HO294.out) (by decide)) (fun k_ hk => ⟨trivial, hk.2⟩))).1 k_ hk_.symm) ?aF ?aO ?aB ?aS ?aL ?_
      (case aP => exact Kd.M_row (Kd.R_mono (Kd.R_tight rfl (Kd.R_mono (ok' := fun k_ => ((fun _ => True)) k_ ∧ some k_ ≠ (.slice Ao53 y292.length co53 : Value).ownBlock) (Kd.R_apart' (HO300.out) (Kd.S_typed HO294.out) (by decide)) (fun k_ hk => ⟨trivial, hk.2⟩))) (fun _ h_ => h_)))
      (case aB => exact mG)
      (case aF => exact (fun _ _ => trivial))
      (case aO => exact (mS (Kd.S_mono HO294.out (fun k_ hk => ⟨trivial, fun e_ => hk.2 e_⟩))))
      (case aS => exact (below_size mG))
      (case aL => have := LMc43.out; omega)
      intro v302 w60 ho hb hg hat
      rw [← Ny301.out] at ho
      have n0_ := Aside0.mk (blk_grown (g := gb274) (o := .cells #[.int .i64 a0_0, .slice (some ad278) l0_1.length c0_1] 28 (0, 0)) ((mK (BK274.out))) hg (Kd.S_ne HO294.out BK274.out (by decide)))
      have n1_ := Aside0.mk (blk_grown (g := gb275) (o := .cells #[.int .i64 0, .slice none 0 0] 28 (0, 0)) ((mK (BK275.out))) hg (Kd.S_ne HO294.out BK275.out (by decide)))
      have n2_ := Aside0.mk (blk_grown (g := gb276) (o := .cells #[.int .i64 a0_0, .slice Ao53 y292.length co53] 28 (0, 0)) ((mK (BK276.out))) hg (Kd.S_ne HO294.out BK276.out (by decide)))
      have n3_ := Aside0.mk (hb)
      have n4_ := Aside0.mk (ho)
      clear BK274 BK275 BK276 HB HO294 HO300; have BK274 := n0_; have BK275 := n1_; have BK276 := n2_; have HB := n3_; have HO303 := n4_; clear n0_ n1_ n2_ n3_ n4_; clear ho hb hg hat
      obtain ⟨Ao62, co62, eo62⟩ := Kd.S_slice HO303.out
      (first | subst eo62 | (injection eo62 with f1_ f2_ f3_; have f4_ := f1_.symm; have f5_ := f3_.symm; clear f1_ f2_ f3_; subst f4_; subst f5_))
      refine hK.out _ _ ⟨(blk_cell BK276.out 0).trans rfl, (blk_cell BK276.out 1).trans rfl⟩ (fun hHeld => ?_)
      clear hK K
      refine norm_ (a' := ?_) ?_ ?_
      rotate_left
      ·
       show Act.put _ (some 68) _ = _
       simp only [Act.put, List.setIfInBounds_toArray, List.set_cons_zero, List.set_cons_succ, i64_w, i32_w]
       rfl
      refine ps 7 69 (L_ 8 9) HT_.out ?_
      refine last_ (i := 8) (N := none) (L_ 9 9) rfl rfl (one_of HT_.out (by kernel_rfl)) (by decide) (fun K hK => ?_)
      have hs63 : w60.cell? ⟨gb276, 1, none⟩ = some (.slice Ao53 y292.length co53) := (blk_cell BK276.out 1).trans rfl
      have hfs63 := blk_frozen BK276.out 1
      have hns63_0 := NB274_276.out
      have hns63_1 := NB275_276.out
      have hms63_0 := NB276_274.out
      have hms63_1 := NB276_275.out
      refine skip_ (w1 := ?_) (by rfl) rfl ?_ ?_
      rotate_left
      ·
       go_simp
       rfl
      refine hK.out _ _ ?_
      clear hK K
      refine done_ (done_of HT_.out (by kernel_rfl)) ?_
      try go_wp2
      go_roundg kj11
      case measure => have := HK1.out; have := HJ11.out; omega
      case rel => exact ⟨(true), (wrap64 (x10_1 + 1)), (y301), (.slice Ao62 y301.length co62), mF, mF, H', ⟨by have := HK1.out; have := HJ11.out; omega⟩, ⟨by (with_reducible repeat (first | apply Kd.S_alloc | apply Kd.S_drewN | apply Kd.S_drew)); exact Kd.S_mono (Kd.S_far (p := ⟨gb276, 1, none⟩) (Kd.S_types HO303.out BK276.out (by decide)) (fun _ hk => hk.2) (.slice Ao62 y301.length co62)) (fun _ hk => trivial)⟩, ⟨by refine pK ?_; refine blk_far ?_ NB274_276.out _; refine pK ?_; exact BK274.out⟩, ⟨by refine pK ?_; refine blk_far ?_ NB275_276.out _; refine pK ?_; exact BK275.out⟩, ⟨by refine pK ?_; refine blk_put (cs := #[.int .i64 a0_0, .slice Ao53 y292.length co53]) ?_ 1 _ rfl; refine pK ?_; exact BK276.out⟩, ⟨mG⟩⟩
     rw [if_neg c40] at H
     have c40b0 : decide (a1 < (rd (rd_L1 l0_1 x10_1) 0)) = false := decide_eq_false c40
     clear c40
     by_cases c64 : (rd (rd_L1 l0_1 x10_1) 0) = a1
     rotate_left
     ·
      rw [if_neg c64] at H
      have c64b0 : ((rd (rd_L1 l0_1 x10_1) 0) == a1) = false := beq_eq_false_iff_ne.mpr c64
      have c64b1 : ((rd (rd_L1 l0_1 x10_1) 0) != a1) = true := bne_iff_ne.mpr c64
      obtain ⟨y330, hy330⟩ : ∃ y_ : List Int, y_ = (([] : List Int)) := ⟨_, rfl⟩
      replace H : (if y330.length + (rd_L1 l0_1 x10_1).length < 17592186044416 then (if x277001_1.length < 5864062014805 then (spec_AddAttack.l0 kj11 a1 a2 false (wrap64 (x10_1 + 1)) a0_0 l0_1 a0_0 (x277001_1 ++ [(y330 ++ (rd_L1 l0_1 x10_1))])) else (none)) else (none)) = some (r1, r2, r3) := by first | (rw [hy330]; with_reducible exact H) | (have H2_ := (Option.bind_some _ _).symm.trans H; rw [hy330]; with_reducible exact H2_) | (have H2_ := (Option.bind_some _ _).symm.trans H; with_reducible exact H2_) | with_reducible exact H | (rw [hy330]; exact H) | exact H
      have Ny330 := Aside0.mk hy330
      clear hy330
      by_cases c103 : y330.length + (rd_L1 l0_1 x10_1).length < 17592186044416
      rotate_left
      ·
       rw [if_neg c103] at H
       exact absurd H (by simp)
      rw [if_pos c103] at H
      have LMc103 := Aside0.mk c103
      clear c103
      obtain ⟨y333, hy333⟩ : ∃ y_ : List Int, y_ = (y330 ++ (rd_L1 l0_1 x10_1)) := ⟨_, rfl⟩
      replace H : (if x277001_1.length < 5864062014805 then (spec_AddAttack.l0 kj11 a1 a2 false (wrap64 (x10_1 + 1)) a0_0 l0_1 a0_0 (x277001_1 ++ [y333])) else (none)) = some (r1, r2, r3) := by first | (rw [hy333]; with_reducible exact H) | (have H2_ := (Option.bind_some _ _).symm.trans H; rw [hy333]; with_reducible exact H2_) | (have H2_ := (Option.bind_some _ _).symm.trans H; with_reducible exact H2_) | with_reducible exact H | (rw [hy333]; exact H) | exact H
      have Ny333 := Aside0.mk hy333
      clear hy333
      by_cases c104 : x277001_1.length < 5864062014805
      rotate_left
      ·
       rw [if_neg c104] at H
       exact absurd H (by simp)
      rw [if_pos c104] at H
      have LMc104 := Aside0.mk c104
      clear c104
      obtain ⟨y336, hy336⟩ : ∃ y_ : List (List Int), y_ = (x277001_1 ++ [y333]) := ⟨_, rfl⟩
      replace H : (spec_AddAttack.l0 kj11 a1 a2 false (wrap64 (x10_1 + 1)) a0_0 l0_1 a0_0 y336) = some (r1, r2, r3) := by first | (rw [hy336]; with_reducible exact H) | (have H2_ := (Option.bind_some _ _).symm.trans H; rw [hy336]; with_reducible exact H2_) | (have H2_ := (Option.bind_some _ _).symm.trans H; with_reducible exact H2_) | with_reducible exact H | (rw [hy336]; exact H) | exact H
      have Ny336 := Aside0.mk hy336
      clear hy336
      have H' := Aside0.mk H
      clear H
      have hnb105 := NB274_275.out
      have hnc105 := NB275_274.out
      have hnb106 := NB274_276.out
      have hnc106 := NB276_274.out
      have hcz107_0 : wc.cell? ⟨gb274, 0, none⟩ = some (.int .i64 a0_0) := (blk_cell BK274.out 0).trans rfl
      have hcz107_1 : wc.cell? ⟨gb274, 1, none⟩ = some (.slice A0_1 l0_1.length c0_1) := (blk_cell BK274.out 1).trans rfl
      have hfz107_0 := blk_frozen BK274.out 0
      have hfz107_1 := blk_frozen BK274.out 1
      have p278 : 0 ≤ (x10_1 : Int) := mD
      have q278 : x10_1 < (l0_1.length : Int) := mD
      obtain ⟨ad278, A278_0, c278_0, e278, hx278_0, hl278_0, hi278_0⟩ := at_L1 HR0_1.out x10_1 p278 q278
      cases e278
      replace hx278_0 := (HB.out.cell (World.block_lt_of_cell? w _ hx278_0)).trans hx278_0
      have HR278_0 := Aside0.mk hi278_0
      have HC278_0 := Aside0.mk hl278_0
      clear hi278_0 hl278_0
      replace p278 := eq_true p278
      replace q278 := eq_true q278
      have p288 : 0 ≤ (0 : Int) := (by omega)
      have q288 : 0 < ((rd_L1 l0_1 x10_1).length : Int) := mD
      obtain ⟨ad288, e288, hx288_0⟩ := Kd.at_int HR278_0.out 0 p288 q288
      cases e288
      have qi288 : (0 < (rd_L1 l0_1 x10_1).length) = True := eq_true (by omega)
      (try rw [show ((0 : Int)).toNat = 0 from rfl] at hx288_0)
      (try rw [Addr.add_zero'] at hx288_0)
      replace hx288_0 := (HB.out.cell (World.block_lt_of_cell? w _ hx288_0)).trans hx288_0
      replace p288 := eq_true p288
      replace q288 := eq_true q288
      have p304 : 0 ≤ (0 : Int) := (by omega)
      have q304 : 0 < ((rd_L1 l0_1 x10_1).length : Int) := mD
      obtain ⟨ad304, e304, hx304_0⟩ := Kd.at_int HR278_0.out 0 p304 q304
      obtain rfl : ad288 = ad304 := (by injection e304)
      have qi304 : (0 < (rd_L1 l0_1 x10_1).length) = True := eq_true (by omega)
      (try rw [show ((0 : Int)).toNat = 0 from rfl] at hx304_0)
      (try rw [Addr.add_zero'] at hx304_0)
      replace hx304_0 := (HB.out.cell (World.block_lt_of_cell? w _ hx304_0)).trans hx304_0
      replace p304 := eq_true p304
      replace q304 := eq_true q304
      try go_wp2
      have n0_ := Aside0.mk (Kd.S_drew HO_277001.out)
      have n1_ := Aside0.mk (blk_drew BK274.out)
      have n2_ := Aside0.mk (blk_drew BK275.out)
      have n3_ := Aside0.mk (blk_drew BK276.out)
      have n4_ := Aside0.mk (below_drew1 HB.out)
      clear HO_277001 BK274 BK275 BK276 HB; have HO_277001 := n0_; have BK274 := n1_; have BK275 := n2_; have BK276 := n3_; have HB := n4_; clear n0_ n1_ n2_ n3_ n4_
      refine start_ (n := 9) (S := fun w' => w'.cell? ⟨gb276, 0, none⟩ = some (.int .i64 a0_0) ∧ w'.cell? ⟨gb276, 1, none⟩ = some (u277001)) (ds := [8]) (L_ 0 9) (by kernel_rfl) rfl rfl ⟨(blk_cell BK276.out 0).trans rfl, (blk_cell BK276.out 1).trans rfl⟩ (fun hHeld => ?_); refine with_tabW spec_AddAttack.tab10 spec_AddAttack.bits10 (fun HT_ HW_ => ?_)
      generalize wc.drew = w108 at HO_277001 BK274 BK275 BK276 HB hHeld ⊢
      refine ps 0 62 (L_ 1 9) HT_.out ?_
      refine ps 3 65 #[true, false, false, true, false, false, false, false, false] HT_.out ?_
      refine take_ (i := 1) (N := some 63) (v := ?_) (a' := ?_) #[true, true, false, true, false, false, false, false, false] rfl rfl (take_ofW HT_.out HW_.out (by kernel_rfl)) (fun _ _ _ h => h) (Or.inl ⟨by rfl, ?_⟩) hHeld ?_ ?_
      rotate_left
      ·
       rintro w' ⟨s0, s1⟩
       go_simp
       with_reducible rfl
      rotate_left
      ·
       simp only [Act.put, List.setIfInBounds_toArray, List.set_cons_zero, List.set_cons_succ, i64_w, i32_w]
       rfl
      refine one_ (i := 2) (N := some 64) (L_ 4 9) rfl rfl (one_of HT_.out (by kernel_rfl)) (by decide) (fun K hK => ?_)
      refine Kd.R_lit_step (Kd.int .i64) _ 3 ?hg (N := 64) ?hd (xs := ([] : List Int)) (inner := []) (ok := fun _ => True) (okp := fun _ => True) ?hr ?hp (fun _ hk => hk) trivial (Below.refl _ _) (Nat.le_refl _) (by simp) ?_; (case hd => rfl); (case hg => rfl); (case hr => first | (go_simp; done) | (go_simp; rfl)); (case hp => exact (Reps.none _ _))
      intro v331 w109 ho110 hb hg_ hnew_
      clear hg_ hnew_
      (first | rw [← Ny330.out] at ho110 | (simp only [Int.reduceToNat] at ho110; rw [← Ny330.out] at ho110))
      have n0_ := Aside0.mk (Kd.S_elder' (mS HO_277001.out) (Kd.R_base ho110) hb)
      have n1_ := Aside0.mk (Kd.R_lower ho110 (below_size mG))
      have n2_ := Aside0.mk (blk_below (g := gb274) (o := .cells #[.int .i64 a0_0, .slice (some ad278) l0_1.length c0_1] 28 (0, 0)) ((mK (BK274.out))) hb)
      have n3_ := Aside0.mk (blk_below (g := gb275) (o := .cells #[.int .i64 0, .slice none 0 0] 28 (0, 0)) ((mK (BK275.out))) hb)
      have n4_ := Aside0.mk (blk_below (g := gb276) (o := .cells #[.int .i64 a0_0, u277001] 28 (0, 0)) ((mK (BK276.out))) hb)
      have n5_ := Aside0.mk (below_step mG hb)
      clear HO_277001 BK274 BK275 BK276 HB; have HO_277001 := n0_; have HO332 := n1_; have BK274 := n2_; have BK275 := n3_; have BK276 := n4_; have HB := n5_; clear n0_ n1_ n2_ n3_ n4_ n5_; clear hb ho110
      refine hK.out _ _ ⟨(blk_cell BK276.out 0).trans rfl, (blk_cell BK276.out 1).trans rfl⟩ (fun hHeld => ?_)
      clear hK K
      refine norm_ (a' := ?_) ?_ ?_
      rotate_left
      ·
       show Act.put _ (some 64) _ = _
       simp only [Act.put, List.setIfInBounds_toArray, List.set_cons_zero, List.set_cons_succ, i64_w, i32_w]
       rfl
      refine one_ (i := 4) (N := some 66) (L_ 5 9) rfl rfl (one_of HT_.out (by kernel_rfl)) (by decide) (fun K hK => ?_)
      refine Kd.R_append_rows_step (Kd.int .i64) (w0 := w) w.heap.size (by rfl) (.tmp 64) (.tmp 65) 25 3 (.int .i64 0) 8 rfl Try.underlying25 info3 rfl (by decide) (by omega) v331 y330 (rd_L1 l0_1 x10_1) _ _ _ (fun _ => True) (fun _ => False) rfl rfl ?aO ?aR (fun _ _ h => h) (fun _ h => h.elim) ?aF ?aB ?aS ?aL ?_
      (case aR => exact mC (Kd.C_below HR278_0.out HB.out))
      (case aB => exact mG)
      (case aF => exact (fun _ _ => trivial))
      (case aO => exact (mR HO332.out))
      (case aS => exact (below_size mG))
      (case aL => have := LMc103.out; omega)
      intro v334 w111 ho hb hg hat
      rw [← Ny333.out] at ho
      have n0_ := Aside0.mk (Kd.S_after (ok := (fun _ => True)) (mS HO_277001.out) hg hat)
      have n1_ := Aside0.mk (blk_grown (g := gb274) (o := .cells #[.int .i64 a0_0, .slice (some ad278) l0_1.length c0_1] 28 (0, 0)) ((mK (BK274.out))) hg (Kd.R_ne HO332.out BK274.out (by decide)))
      have n2_ := Aside0.mk (blk_grown (g := gb275) (o := .cells #[.int .i64 0, .slice none 0 0] 28 (0, 0)) ((mK (BK275.out))) hg (Kd.R_ne HO332.out BK275.out (by decide)))
      have n3_ := Aside0.mk (blk_grown (g := gb276) (o := .cells #[.int .i64 a0_0, u277001] 28 (0, 0)) ((mK (BK276.out))) hg (Kd.R_ne HO332.out BK276.out (by decide)))
      have n4_ := Aside0.mk (hb)
      have n5_ := Aside0.mk (ho)
      clear HO_277001 BK274 BK275 BK276 HB HO332; have HO_277001 := n0_; have BK274 := n1_; have BK275 := n2_; have BK276 := n3_; have HB := n4_; have HO335 := n5_; clear n0_ n1_ n2_ n3_ n4_ n5_; clear ho hb hg hat
      obtain ⟨Ao113, co113, eo113⟩ := Kd.R_slice HO335.out
      (first | subst eo113 | (injection eo113 with f1_ f2_ f3_; have f4_ := f1_.symm; have f5_ := f3_.symm; clear f1_ f2_ f3_; subst f4_; subst f5_))
      refine hK.out _ _ ⟨(blk_cell BK276.out 0).trans rfl, (blk_cell BK276.out 1).trans rfl⟩ (fun hHeld => ?_)
      clear hK K
      refine norm_ (a' := ?_) ?_ ?_
      rotate_left
      ·
       show Act.put _ (some 66) _ = _
       simp only [Act.put, List.setIfInBounds_toArray, List.set_cons_zero, List.set_cons_succ, i64_w, i32_w]
       rfl
      refine one_ (i := 5) (N := some 67) (L_ 6 9) rfl rfl (one_of HT_.out (by kernel_rfl)) (by decide) (fun K hK => ?_)
      refine value_ (w1 := ?_) (v := ?_) (by rfl) rfl ?_ ?_
      rotate_left 2
      ·
       go_simp
       constructor
       ·
        rfl
       ·
        rfl
      refine hK.out _ _ ⟨(blk_cell (blk_alloc BK276.out _) 0).trans rfl, (blk_cell (blk_alloc BK276.out _) 1).trans rfl⟩ (fun hHeld => ?_)
      clear hK K
      refine norm_ (a' := ?_) ?_ ?_
      rotate_left
      ·
       show Act.put _ (some 67) _ = _
       simp only [Act.put, List.setIfInBounds_toArray, List.set_cons_zero, List.set_cons_succ, i64_w, i32_w]
       rfl
      refine one_ (i := 6) (N := some 68) (L_ 7 9) rfl rfl (one_of HT_.out (by kernel_rfl)) (by decide) (fun K hK => ?_)
      refine Kd.S_append_step (Kd.slice 3 (Kd.int .i64)) (w0 := w) w.heap.size (by rfl) (.tmp 63) (.tmp 67) 22 25 (.slice none 0 0) 24 rfl Try.underlying22 info25 rfl (by decide) (by omega) u277001 x277001_1 y333 [.slice Ao113 y333.length co113] (fun _ => True) (fun k_ => some k_ = (.slice Ao113 y333.length co113 : Value).ownBlock) rfl rfl ?aP (fun k_ hk_ => ((Kd.R_mono (ok' := fun k_ => ((fun _ => True)) k_ ∧ some k_ ≠ (u277001 : Value).ownBlock) (Kd.R_apart' (HO335.out) (Kd.S_typed HO_277001.out) (by decide)) (fun k_ hk => ⟨trivial, hk.2⟩))).1 k_ hk_.symm) ?aF ?aO ?aB ?aS ?aL ?_
      (case aP => exact Kd.M_row (Kd.R_mono (Kd.R_tight rfl (Kd.R_mono (ok' := fun k_ => ((fun _ => True)) k_ ∧ some k_ ≠ (u277001 : Value).ownBlock) (Kd.R_apart' (HO335.out) (Kd.S_typed HO_277001.out) (by decide)) (fun k_ hk => ⟨trivial, hk.2⟩))) (fun _ h_ => h_)))
      (case aB => exact mG)
      (case aF => exact (fun _ _ => trivial))
      (case aO => exact (mS (Kd.S_mono HO_277001.out (fun k_ hk => ⟨trivial, fun e_ => hk.2 e_⟩))))
      (case aS => exact (below_size mG))
      (case aL => have := LMc104.out; omega)
      intro v337 w112 ho hb hg hat
      rw [← Ny336.out] at ho
      have n0_ := Aside0.mk (blk_grown (g := gb274) (o := .cells #[.int .i64 a0_0, .slice (some ad278) l0_1.length c0_1] 28 (0, 0)) ((mK (BK274.out))) hg (Kd.S_ne HO_277001.out BK274.out (by decide)))
      have n1_ := Aside0.mk (blk_grown (g := gb275) (o := .cells #[.int .i64 0, .slice none 0 0] 28 (0, 0)) ((mK (BK275.out))) hg (Kd.S_ne HO_277001.out BK275.out (by decide)))
      have n2_ := Aside0.mk (blk_grown (g := gb276) (o := .cells #[.int .i64 a0_0, u277001] 28 (0, 0)) ((mK (BK276.out))) hg (Kd.S_ne HO_277001.out BK276.out (by decide)))
      have n3_ := Aside0.mk (hb)
      have n4_ := Aside0.mk (ho)
      clear BK274 BK275 BK276 HB HO_277001 HO335; have BK274 := n0_; have BK275 := n1_; have BK276 := n2_; have HB := n3_; have HO338 := n4_; clear n0_ n1_ n2_ n3_ n4_; clear ho hb hg hat
      obtain ⟨Ao114, co114, eo114⟩ := Kd.S_slice HO338.out
      (first | subst eo114 | (injection eo114 with f1_ f2_ f3_; have f4_ := f1_.symm; have f5_ := f3_.symm; clear f1_ f2_ f3_; subst f4_; subst f5_))
      refine hK.out _ _ ⟨(blk_cell BK276.out 0).trans rfl, (blk_cell BK276.out 1).trans rfl⟩ (fun hHeld => ?_)
      clear hK K
      refine norm_ (a' := ?_) ?_ ?_
      rotate_left
      ·
       show Act.put _ (some 68) _ = _
       simp only [Act.put, List.setIfInBounds_toArray, List.set_cons_zero, List.set_cons_succ, i64_w, i32_w]
       rfl
      refine ps 7 69 (L_ 8 9) HT_.out ?_
      refine last_ (i := 8) (N := none) (L_ 9 9) rfl rfl (one_of HT_.out (by kernel_rfl)) (by decide) (fun K hK => ?_)
      have hs115 : w112.cell? ⟨gb276, 1, none⟩ = some (u277001) := (blk_cell BK276.out 1).trans rfl
      have hfs115 := blk_frozen BK276.out 1
      have hns115_0 := NB274_276.out
      have hns115_1 := NB275_276.out
      have hms115_0 := NB276_274.out
      have hms115_1 := NB276_275.out
      refine skip_ (w1 := ?_) (by rfl) rfl ?_ ?_
      rotate_left
      ·
       go_simp
       rfl
      refine hK.out _ _ ?_
      clear hK K
      refine done_ (done_of HT_.out (by kernel_rfl)) ?_
      try go_wp2
      go_roundg kj11
      case measure => have := HK1.out; have := HJ11.out; omega
      case rel => exact ⟨(false), (wrap64 (x10_1 + 1)), (y336), (.slice Ao114 y336.length co114), mF, mF, H', ⟨by have := HK1.out; have := HJ11.out; omega⟩, ⟨by (with_reducible repeat (first | apply Kd.S_alloc | apply Kd.S_drewN | apply Kd.S_drew)); exact Kd.S_mono (Kd.S_far (p := ⟨gb276, 1, none⟩) (Kd.S_types HO338.out BK276.out (by decide)) (fun _ hk => hk.2) (.slice Ao114 y336.length co114)) (fun _ hk => trivial)⟩, ⟨by refine pK ?_; refine blk_far ?_ NB274_276.out _; refine pK ?_; exact BK274.out⟩, ⟨by refine pK ?_; refine blk_far ?_ NB275_276.out _; refine pK ?_; exact BK275.out⟩, ⟨by refine pK ?_; refine blk_put (cs := #[.int .i64 a0_0, u277001]) ?_ 1 _ rfl; refine pK ?_; exact BK276.out⟩, ⟨mG⟩⟩
     rw [if_pos c64] at H
     have c64b0 : ((rd (rd_L1 l0_1 x10_1) 0) == a1) = true := beq_iff_eq.mpr c64
     have c64b1 : ((rd (rd_L1 l0_1 x10_1) 0) != a1) = false := bne_eq_false_iff_eq.mpr c64
     clear c64
     by_cases c65 : 1 < ((rd_L1 l0_1 x10_1).length : Int)
     rotate_left
     ·
      rw [if_neg c65] at H
      exact absurd H (by simp)
     rw [if_pos c65] at H
     have c65b0 : decide (1 < ((rd_L1 l0_1 x10_1).length : Int)) = true := decide_eq_true c65
     have c65b1 : decide (1 < (rd_L1 l0_1 x10_1).length) = true := decide_eq_true (by omega)
     clear c65
     by_cases c66 : (rd (rd_L1 l0_1 x10_1) 1) > a2
     rotate_left
     ·
      rw [if_neg c66] at H
      have c66b0 : decide (a2 < (rd (rd_L1 l0_1 x10_1) 1)) = false := decide_eq_false c66
      clear c66
      obtain ⟨y321, hy321⟩ : ∃ y_ : List Int, y_ = (([] : List Int)) := ⟨_, rfl⟩
      replace H : (if y321.length + (rd_L1 l0_1 x10_1).length < 17592186044416 then (if x277001_1.length < 5864062014805 then (spec_AddAttack.l0 kj11 a1 a2 false (wrap64 (x10_1 + 1)) a0_0 l0_1 a0_0 (x277001_1 ++ [(y321 ++ (rd_L1 l0_1 x10_1))])) else (none)) else (none)) = some (r1, r2, r3) := by first | (rw [hy321]; with_reducible exact H) | (have H2_ := (Option.bind_some _ _).symm.trans H; rw [hy321]; with_reducible exact H2_) | (have H2_ := (Option.bind_some _ _).symm.trans H; with_reducible exact H2_) | with_reducible exact H | (rw [hy321]; exact H) | exact H
      have Ny321 := Aside0.mk hy321
      clear hy321
      by_cases c90 : y321.length + (rd_L1 l0_1 x10_1).length < 17592186044416
      rotate_left
      ·
       rw [if_neg c90] at H
       exact absurd H (by simp)
      rw [if_pos c90] at H
      have LMc90 := Aside0.mk c90
      clear c90
      obtain ⟨y324, hy324⟩ : ∃ y_ : List Int, y_ = (y321 ++ (rd_L1 l0_1 x10_1)) := ⟨_, rfl⟩
      replace H : (if x277001_1.length < 5864062014805 then (spec_AddAttack.l0 kj11 a1 a2 false (wrap64 (x10_1 + 1)) a0_0 l0_1 a0_0 (x277001_1 ++ [y324])) else (none)) = some (r1, r2, r3) := by first | (rw [hy324]; with_reducible exact H) | (have H2_ := (Option.bind_some _ _).symm.trans H; rw [hy324]; with_reducible exact H2_) | (have H2_ := (Option.bind_some _ _).symm.trans H; with_reducible exact H2_) | with_reducible exact H | (rw [hy324]; exact H) | exact H
      have Ny324 := Aside0.mk hy324
      clear hy324
      by_cases c91 : x277001_1.length < 5864062014805
      rotate_left
      ·
       rw [if_neg c91] at H
       exact absurd H (by simp)
      rw [if_pos c91] at H
      have LMc91 := Aside0.mk c91
      clear c91
      obtain ⟨y327, hy327⟩ : ∃ y_ : List (List Int), y_ = (x277001_1 ++ [y324]) := ⟨_, rfl⟩
      replace H : (spec_AddAttack.l0 kj11 a1 a2 false (wrap64 (x10_1 + 1)) a0_0 l0_1 a0_0 y327) = some (r1, r2, r3) := by first | (rw [hy327]; with_reducible exact H) | (have H2_ := (Option.bind_some _ _).symm.trans H; rw [hy327]; with_reducible exact H2_) | (have H2_ := (Option.bind_some _ _).symm.trans H; with_reducible exact H2_) | with_reducible exact H | (rw [hy327]; exact H) | exact H
      have Ny327 := Aside0.mk hy327
      clear hy327
      have H' := Aside0.mk H
      clear H
      have hnb92 := NB274_275.out
      have hnc92 := NB275_274.out
      have hnb93 := NB274_276.out
      have hnc93 := NB276_274.out
      have hcz94_0 : wc.cell? ⟨gb274, 0, none⟩ = some (.int .i64 a0_0) := (blk_cell BK274.out 0).trans rfl
      have hcz94_1 : wc.cell? ⟨gb274, 1, none⟩ = some (.slice A0_1 l0_1.length c0_1) := (blk_cell BK274.out 1).trans rfl
      have hfz94_0 := blk_frozen BK274.out 0
      have hfz94_1 := blk_frozen BK274.out 1
      have p278 : 0 ≤ (x10_1 : Int) := mD
      have q278 : x10_1 < (l0_1.length : Int) := mD
      obtain ⟨ad278, A278_0, c278_0, e278, hx278_0, hl278_0, hi278_0⟩ := at_L1 HR0_1.out x10_1 p278 q278
      cases e278
      replace hx278_0 := (HB.out.cell (World.block_lt_of_cell? w _ hx278_0)).trans hx278_0
      have HR278_0 := Aside0.mk hi278_0
      have HC278_0 := Aside0.mk hl278_0
      clear hi278_0 hl278_0
      replace p278 := eq_true p278
      replace q278 := eq_true q278
      have p288 : 0 ≤ (0 : Int) := (by omega)
      have q288 : 0 < ((rd_L1 l0_1 x10_1).length : Int) := mD
      obtain ⟨ad288, e288, hx288_0⟩ := Kd.at_int HR278_0.out 0 p288 q288
      cases e288
      have qi288 : (0 < (rd_L1 l0_1 x10_1).length) = True := eq_true (by omega)
      (try rw [show ((0 : Int)).toNat = 0 from rfl] at hx288_0)
      (try rw [Addr.add_zero'] at hx288_0)
      replace hx288_0 := (HB.out.cell (World.block_lt_of_cell? w _ hx288_0)).trans hx288_0
      replace p288 := eq_true p288
      replace q288 := eq_true q288
      have p304 : 0 ≤ (0 : Int) := (by omega)
      have q304 : 0 < ((rd_L1 l0_1 x10_1).length : Int) := mD
      obtain ⟨ad304, e304, hx304_0⟩ := Kd.at_int HR278_0.out 0 p304 q304
      obtain rfl : ad288 = ad304 := (by injection e304)
      have qi304 : (0 < (rd_L1 l0_1 x10_1).length) = True := eq_true (by omega)
      (try rw [show ((0 : Int)).toNat = 0 from rfl] at hx304_0)
      (try rw [Addr.add_zero'] at hx304_0)
      replace hx304_0 := (HB.out.cell (World.block_lt_of_cell? w _ hx304_0)).trans hx304_0
      replace p304 := eq_true p304
      replace q304 := eq_true q304
      have p305 : 0 ≤ (1 : Int) := (by omega)
      have q305 : 1 < ((rd_L1 l0_1 x10_1).length : Int) := mD
      obtain ⟨ad305, e305, hx305_0⟩ := Kd.at_int HR278_0.out 1 p305 q305
      obtain rfl : ad288 = ad305 := (by injection e305)
      (try simp only [show (1 : Int).toNat = 1 from rfl, Nat.reduceMul, Nat.reduceEqDiff, Go.Addr.add, ↓reduceIte] at hx305_0)
      have qi305 : (1 < (rd_L1 l0_1 x10_1).length) = True := eq_true (by omega)
      (try rw [show ((1 : Int)).toNat = 1 from rfl] at hx305_0)
      replace hx305_0 := (HB.out.cell (World.block_lt_of_cell? w _ hx305_0)).trans hx305_0
      replace p305 := eq_true p305
      replace q305 := eq_true q305
      try go_wp2
      have n0_ := Aside0.mk (Kd.S_drew HO_277001.out)
      have n1_ := Aside0.mk (blk_drew BK274.out)
      have n2_ := Aside0.mk (blk_drew BK275.out)
      have n3_ := Aside0.mk (blk_drew BK276.out)
      have n4_ := Aside0.mk (below_drew1 HB.out)
      clear HO_277001 BK274 BK275 BK276 HB; have HO_277001 := n0_; have BK274 := n1_; have BK275 := n2_; have BK276 := n3_; have HB := n4_; clear n0_ n1_ n2_ n3_ n4_
      refine start_ (n := 9) (S := fun w' => w'.cell? ⟨gb276, 0, none⟩ = some (.int .i64 a0_0) ∧ w'.cell? ⟨gb276, 1, none⟩ = some (u277001)) (ds := [8]) (L_ 0 9) (by kernel_rfl) rfl rfl ⟨(blk_cell BK276.out 0).trans rfl, (blk_cell BK276.out 1).trans rfl⟩ (fun hHeld => ?_); refine with_tabW spec_AddAttack.tab10 spec_AddAttack.bits10 (fun HT_ HW_ => ?_)
      generalize wc.drew = w95 at HO_277001 BK274 BK275 BK276 HB hHeld ⊢
      refine ps 0 62 (L_ 1 9) HT_.out ?_
      refine ps 3 65 #[true, false, false, true, false, false, false, false, false] HT_.out ?_
      refine take_ (i := 1) (N := some 63) (v := ?_) (a' := ?_) #[true, true, false, true, false, false, false, false, false] rfl rfl (take_ofW HT_.out HW_.out (by kernel_rfl)) (fun _ _ _ h => h) (Or.inl ⟨by rfl, ?_⟩) hHeld ?_ ?_
      rotate_left
      ·
       rintro w' ⟨s0, s1⟩
       go_simp
       with_reducible rfl
      rotate_left
      ·
       simp only [Act.put, List.setIfInBounds_toArray, List.set_cons_zero, List.set_cons_succ, i64_w, i32_w]
       rfl
      refine one_ (i := 2) (N := some 64) (L_ 4 9) rfl rfl (one_of HT_.out (by kernel_rfl)) (by decide) (fun K hK => ?_)
      refine Kd.R_lit_step (Kd.int .i64) _ 3 ?hg (N := 64) ?hd (xs := ([] : List Int)) (inner := []) (ok := fun _ => True) (okp := fun _ => True) ?hr ?hp (fun _ hk => hk) trivial (Below.refl _ _) (Nat.le_refl _) (by simp) ?_; (case hd => rfl); (case hg => rfl); (case hr => first | (go_simp; done) | (go_simp; rfl)); (case hp => exact (Reps.none _ _))
      intro v322 w96 ho97 hb hg_ hnew_
      clear hg_ hnew_
      (first | rw [← Ny321.out] at ho97 | (simp only [Int.reduceToNat] at ho97; rw [← Ny321.out] at ho97))
      have n0_ := Aside0.mk (Kd.S_elder' (mS HO_277001.out) (Kd.R_base ho97) hb)
      have n1_ := Aside0.mk (Kd.R_lower ho97 (below_size mG))
      have n2_ := Aside0.mk (blk_below (g := gb274) (o := .cells #[.int .i64 a0_0, .slice (some ad278) l0_1.length c0_1] 28 (0, 0)) ((mK (BK274.out))) hb)
      have n3_ := Aside0.mk (blk_below (g := gb275) (o := .cells #[.int .i64 0, .slice none 0 0] 28 (0, 0)) ((mK (BK275.out))) hb)
      have n4_ := Aside0.mk (blk_below (g := gb276) (o := .cells #[.int .i64 a0_0, u277001] 28 (0, 0)) ((mK (BK276.out))) hb)
      have n5_ := Aside0.mk (below_step mG hb)
      clear HO_277001 BK274 BK275 BK276 HB; have HO_277001 := n0_; have HO323 := n1_; have BK274 := n2_; have BK275 := n3_; have BK276 := n4_; have HB := n5_; clear n0_ n1_ n2_ n3_ n4_ n5_; clear hb ho97
      refine hK.out _ _ ⟨(blk_cell BK276.out 0).trans rfl, (blk_cell BK276.out 1).trans rfl⟩ (fun hHeld => ?_)
      clear hK K
      refine norm_ (a' := ?_) ?_ ?_
      rotate_left
      ·
       show Act.put _ (some 64) _ = _
       simp only [Act.put, List.setIfInBounds_toArray, List.set_cons_zero, List.set_cons_succ, i64_w, i32_w]
       rfl
      refine one_ (i := 4) (N := some 66) (L_ 5 9) rfl rfl (one_of HT_.out (by kernel_rfl)) (by decide) (fun K hK => ?_)
      refine Kd.R_append_rows_step (Kd.int .i64) (w0 := w) w.heap.size (by rfl) (.tmp 64) (.tmp 65) 25 3 (.int .i64 0) 8 rfl Try.underlying25 info3 rfl (by decide) (by omega) v322 y321 (rd_L1 l0_1 x10_1) _ _ _ (fun _ => True) (fun _ => False) rfl rfl ?aO ?aR (fun _ _ h => h) (fun _ h => h.elim) ?aF ?aB ?aS ?aL ?_
      (case aR => exact mC (Kd.C_below HR278_0.out HB.out))
      (case aB => exact mG)
      (case aF => exact (fun _ _ => trivial))
      (case aO => exact (mR HO323.out))
      (case aS => exact (below_size mG))
      (case aL => have := LMc90.out; omega)
      intro v325 w98 ho hb hg hat
      rw [← Ny324.out] at ho
      have n0_ := Aside0.mk (Kd.S_after (ok := (fun _ => True)) (mS HO_277001.out) hg hat)
      have n1_ := Aside0.mk (blk_grown (g := gb274) (o := .cells #[.int .i64 a0_0, .slice (some ad278) l0_1.length c0_1] 28 (0, 0)) ((mK (BK274.out))) hg (Kd.R_ne HO323.out BK274.out (by decide)))
      have n2_ := Aside0.mk (blk_grown (g := gb275) (o := .cells #[.int .i64 0, .slice none 0 0] 28 (0, 0)) ((mK (BK275.out))) hg (Kd.R_ne HO323.out BK275.out (by decide)))
      have n3_ := Aside0.mk (blk_grown (g := gb276) (o := .cells #[.int .i64 a0_0, u277001] 28 (0, 0)) ((mK (BK276.out))) hg (Kd.R_ne HO323.out BK276.out (by decide)))
      have n4_ := Aside0.mk (hb)
      have n5_ := Aside0.mk (ho)
      clear HO_277001 BK274 BK275 BK276 HB HO323; have HO_277001 := n0_; have BK274 := n1_; have BK275 := n2_; have BK276 := n3_; have HB := n4_; have HO326 := n5_; clear n0_ n1_ n2_ n3_ n4_ n5_; clear ho hb hg hat
      obtain ⟨Ao100, co100, eo100⟩ := Kd.R_slice HO326.out
      (first | subst eo100 | (injection eo100 with f1_ f2_ f3_; have f4_ := f1_.symm; have f5_ := f3_.symm; clear f1_ f2_ f3_; subst f4_; subst f5_))
      refine hK.out _ _ ⟨(blk_cell BK276.out 0).trans rfl, (blk_cell BK276.out 1).trans rfl⟩ (fun hHeld => ?_)
      clear hK K
      refine norm_ (a' := ?_) ?_ ?_
      rotate_left
      ·
       show Act.put _ (some 66) _ = _
       simp only [Act.put, List.setIfInBounds_toArray, List.set_cons_zero, List.set_cons_succ, i64_w, i32_w]
       rfl
      refine one_ (i := 5) (N := some 67) (L_ 6 9) rfl rfl (one_of HT_.out (by kernel_rfl)) (by decide) (fun K hK => ?_)
      refine value_ (w1 := ?_) (v := ?_) (by rfl) rfl ?_ ?_
      rotate_left 2
      ·
       go_simp
       constructor
       ·
        rfl
       ·
        rfl
      refine hK.out _ _ ⟨(blk_cell (blk_alloc BK276.out _) 0).trans rfl, (blk_cell (blk_alloc BK276.out _) 1).trans rfl⟩ (fun hHeld => ?_)
      clear hK K
      refine norm_ (a' := ?_) ?_ ?_
      rotate_left
      ·
       show Act.put _ (some 67) _ = _
       simp only [Act.put, List.setIfInBounds_toArray, List.set_cons_zero, List.set_cons_succ, i64_w, i32_w]
       rfl
      refine one_ (i := 6) (N := some 68) (L_ 7 9) rfl rfl (one_of HT_.out (by kernel_rfl)) (by decide) (fun K hK => ?_)
      refine Kd.S_append_step (Kd.slice 3 (Kd.int .i64)) (w0 := w) w.heap.size (by rfl) (.tmp 63) (.tmp 67) 22 25 (.slice none 0 0) 24 rfl Try.underlying22 info25 rfl (by decide) (by omega) u277001 x277001_1 y324 [.slice Ao100 y324.length co100] (fun _ => True) (fun k_ => some k_ = (.slice Ao100 y324.length co100 : Value).ownBlock) rfl rfl ?aP (fun k_ hk_ => ((Kd.R_mono (ok' := fun k_ => ((fun _ => True)) k_ ∧ some k_ ≠ (u277001 : Value).ownBlock) (Kd.R_apart' (HO326.out) (Kd.S_typed HO_277001.out) (by decide)) (fun k_ hk => ⟨trivial, hk.2⟩))).1 k_ hk_.symm) ?aF ?aO ?aB ?aS ?aL ?_
      (case aP => exact Kd.M_row (Kd.R_mono (Kd.R_tight rfl (Kd.R_mono (ok' := fun k_ => ((fun _ => True)) k_ ∧ some k_ ≠ (u277001 : Value).ownBlock) (Kd.R_apart' (HO326.out) (Kd.S_typed HO_277001.out) (by decide)) (fun k_ hk => ⟨trivial, hk.2⟩))) (fun _ h_ => h_)))
      (case aB => exact mG)
      (case aF => exact (fun _ _ => trivial))
      (case aO => exact (mS (Kd.S_mono HO_277001.out (fun k_ hk => ⟨trivial, fun e_ => hk.2 e_⟩))))
      (case aS => exact (below_size mG))
      (case aL => have := LMc91.out; omega)
      intro v328 w99 ho hb hg hat
      rw [← Ny327.out] at ho
      have n0_ := Aside0.mk (blk_grown (g := gb274) (o := .cells #[.int .i64 a0_0, .slice (some ad278) l0_1.length c0_1] 28 (0, 0)) ((mK (BK274.out))) hg (Kd.S_ne HO_277001.out BK274.out (by decide)))
      have n1_ := Aside0.mk (blk_grown (g := gb275) (o := .cells #[.int .i64 0, .slice none 0 0] 28 (0, 0)) ((mK (BK275.out))) hg (Kd.S_ne HO_277001.out BK275.out (by decide)))
      have n2_ := Aside0.mk (blk_grown (g := gb276) (o := .cells #[.int .i64 a0_0, u277001] 28 (0, 0)) ((mK (BK276.out))) hg (Kd.S_ne HO_277001.out BK276.out (by decide)))
      have n3_ := Aside0.mk (hb)
      have n4_ := Aside0.mk (ho)
      clear BK274 BK275 BK276 HB HO_277001 HO326; have BK274 := n0_; have BK275 := n1_; have BK276 := n2_; have HB := n3_; have HO329 := n4_; clear n0_ n1_ n2_ n3_ n4_; clear ho hb hg hat
      obtain ⟨Ao101, co101, eo101⟩ := Kd.S_slice HO329.out
      (first | subst eo101 | (injection eo101 with f1_ f2_ f3_; have f4_ := f1_.symm; have f5_ := f3_.symm; clear f1_ f2_ f3_; subst f4_; subst f5_))
      refine hK.out _ _ ⟨(blk_cell BK276.out 0).trans rfl, (blk_cell BK276.out 1).trans rfl⟩ (fun hHeld => ?_)
      clear hK K
      refine norm_ (a' := ?_) ?_ ?_
      rotate_left
      ·
       show Act.put _ (some 68) _ = _
       simp only [Act.put, List.setIfInBounds_toArray, List.set_cons_zero, List.set_cons_succ, i64_w, i32_w]
       rfl
      refine ps 7 69 (L_ 8 9) HT_.out ?_
      refine last_ (i := 8) (N := none) (L_ 9 9) rfl rfl (one_of HT_.out (by kernel_rfl)) (by decide) (fun K hK => ?_)
      have hs102 : w99.cell? ⟨gb276, 1, none⟩ = some (u277001) := (blk_cell BK276.out 1).trans rfl
      have hfs102 := blk_frozen BK276.out 1
      have hns102_0 := NB274_276.out
      have hns102_1 := NB275_276.out
      have hms102_0 := NB276_274.out
      have hms102_1 := NB276_275.out
      refine skip_ (w1 := ?_) (by rfl) rfl ?_ ?_
      rotate_left
      ·
       go_simp
       rfl
      refine hK.out _ _ ?_
      clear hK K
      refine done_ (done_of HT_.out (by kernel_rfl)) ?_
      try go_wp2
      go_roundg kj11
      case measure => have := HK1.out; have := HJ11.out; omega
      case rel => exact ⟨(false), (wrap64 (x10_1 + 1)), (y327), (.slice Ao101 y327.length co101), mF, mF, H', ⟨by have := HK1.out; have := HJ11.out; omega⟩, ⟨by (with_reducible repeat (first | apply Kd.S_alloc | apply Kd.S_drewN | apply Kd.S_drew)); exact Kd.S_mono (Kd.S_far (p := ⟨gb276, 1, none⟩) (Kd.S_types HO329.out BK276.out (by decide)) (fun _ hk => hk.2) (.slice Ao101 y327.length co101)) (fun _ hk => trivial)⟩, ⟨by refine pK ?_; refine blk_far ?_ NB274_276.out _; refine pK ?_; exact BK274.out⟩, ⟨by refine pK ?_; refine blk_far ?_ NB275_276.out _; refine pK ?_; exact BK275.out⟩, ⟨by refine pK ?_; refine blk_put (cs := #[.int .i64 a0_0, u277001]) ?_ 1 _ rfl; refine pK ?_; exact BK276.out⟩, ⟨mG⟩⟩
     rw [if_pos c66] at H
     have c66b0 : decide (a2 < (rd (rd_L1 l0_1 x10_1) 1)) = true := decide_eq_true c66
     clear c66
     obtain ⟨y306, hy306⟩ : ∃ y_ : List Int, y_ = (([a1, a2] : List Int)) := ⟨_, rfl⟩
     replace H : (if x277001_1.length < 5864062014805 then ((some (x277001_1 ++ [y306] : List (List Int))).bind fun y309 => ((some (([] : List Int) : List Int)).bind fun y312 => (if y312.length + (rd_L1 l0_1 x10_1).length < 17592186044416 then (if y309.length < 5864062014805 then (spec_AddAttack.l0 kj11 a1 a2 true (wrap64 (x10_1 + 1)) a0_0 l0_1 a0_0 (y309 ++ [(y312 ++ (rd_L1 l0_1 x10_1))])) else (none)) else (none)))) else (none)) = some (r1, r2, r3) := by first | (rw [hy306]; with_reducible exact H) | (have H2_ := (Option.bind_some _ _).symm.trans H; rw [hy306]; with_reducible exact H2_) | (have H2_ := (Option.bind_some _ _).symm.trans H; with_reducible exact H2_) | with_reducible exact H | (rw [hy306]; exact H) | exact H
     have Ny306 := Aside0.mk hy306
     clear hy306
     by_cases c67 : x277001_1.length < 5864062014805
     rotate_left
     ·
      rw [if_neg c67] at H
      exact absurd H (by simp)
     rw [if_pos c67] at H
     have LMc67 := Aside0.mk c67
     clear c67
     obtain ⟨y309, hy309⟩ : ∃ y_ : List (List Int), y_ = (x277001_1 ++ [y306]) := ⟨_, rfl⟩
     replace H : ((some (([] : List Int) : List Int)).bind fun y312 => (if y312.length + (rd_L1 l0_1 x10_1).length < 17592186044416 then (if y309.length < 5864062014805 then (spec_AddAttack.l0 kj11 a1 a2 true (wrap64 (x10_1 + 1)) a0_0 l0_1 a0_0 (y309 ++ [(y312 ++ (rd_L1 l0_1 x10_1))])) else (none)) else (none))) = some (r1, r2, r3) := by first | (rw [hy309]; with_reducible exact H) | (have H2_ := (Option.bind_some _ _).symm.trans H; rw [hy309]; with_reducible exact H2_) | (have H2_ := (Option.bind_some _ _).symm.trans H; with_reducible exact H2_) | with_reducible exact H | (rw [hy309]; exact H) | exact H
     have Ny309 := Aside0.mk hy309
     clear hy309
     obtain ⟨y312, hy312⟩ : ∃ y_ : List Int, y_ = (([] : List Int)) := ⟨_, rfl⟩
     replace H : (if y312.length + (rd_L1 l0_1 x10_1).length < 17592186044416 then (if y309.length < 5864062014805 then (spec_AddAttack.l0 kj11 a1 a2 true (wrap64 (x10_1 + 1)) a0_0 l0_1 a0_0 (y309 ++ [(y312 ++ (rd_L1 l0_1 x10_1))])) else (none)) else (none)) = some (r1, r2, r3) := by first | (rw [hy312]; with_reducible exact H) | (have H2_ := (Option.bind_some _ _).symm.trans H; rw [hy312]; with_reducible exact H2_) | (have H2_ := (Option.bind_some _ _).symm.trans H; with_reducible exact H2_) | with_reducible exact H | (rw [hy312]; exact H) | exact H
     have Ny312 := Aside0.mk hy312
     clear hy312
     by_cases c68 : y312.length + (rd_L1 l0_1 x10_1).length < 17592186044416
     rotate_left
     ·
      rw [if_neg c68] at H
      exact absurd H (by simp)
     rw [if_pos c68] at H
     have LMc68 := Aside0.mk c68
     clear c68
     obtain ⟨y315, hy315⟩ : ∃ y_ : List Int, y_ = (y312 ++ (rd_L1 l0_1 x10_1)) := ⟨_, rfl⟩
     replace H : (if y309.length < 5864062014805 then (spec_AddAttack.l0 kj11 a1 a2 true (wrap64 (x10_1 + 1)) a0_0 l0_1 a0_0 (y309 ++ [y315])) else (none)) = some (r1, r2, r3) := by first | (rw [hy315]; with_reducible exact H) | (have H2_ := (Option.bind_some _ _).symm.trans H; rw [hy315]; with_reducible exact H2_) | (have H2_ := (Option.bind_some _ _).symm.trans H; with_reducible exact H2_) | with_reducible exact H | (rw [hy315]; exact H) | exact H
     have Ny315 := Aside0.mk hy315
     clear hy315
     by_cases c69 : y309.length < 5864062014805
     rotate_left
     ·
      rw [if_neg c69] at H
      exact absurd H (by simp)
     rw [if_pos c69] at H
     have LMc69 := Aside0.mk c69
     clear c69
     obtain ⟨y318, hy318⟩ : ∃ y_ : List (List Int), y_ = (y309 ++ [y315]) := ⟨_, rfl⟩
     replace H : (spec_AddAttack.l0 kj11 a1 a2 true (wrap64 (x10_1 + 1)) a0_0 l0_1 a0_0 y318) = some (r1, r2, r3) := by first | (rw [hy318]; with_reducible exact H) | (have H2_ := (Option.bind_some _ _).symm.trans H; rw [hy318]; with_reducible exact H2_) | (have H2_ := (Option.bind_some _ _).symm.trans H; with_reducible exact H2_) | with_reducible exact H | (rw [hy318]; exact H) | exact H
     have Ny318 := Aside0.mk hy318
     clear hy318
     have H' := Aside0.mk H
     clear H
     have hnb70 := NB274_275.out
     have hnc70 := NB275_274.out
     have hnb71 := NB274_276.out
     have hnc71 := NB276_274.out
     have hcz72_0 : wc.cell? ⟨gb274, 0, none⟩ = some (.int .i64 a0_0) := (blk_cell BK274.out 0).trans rfl
     have hcz72_1 : wc.cell? ⟨gb274, 1, none⟩ = some (.slice A0_1 l0_1.length c0_1) := (blk_cell BK274.out 1).trans rfl
     have hfz72_0 := blk_frozen BK274.out 0
     have hfz72_1 := blk_frozen BK274.out 1
     have p278 : 0 ≤ (x10_1 : Int) := mD
     have q278 : x10_1 < (l0_1.length : Int) := mD
     obtain ⟨ad278, A278_0, c278_0, e278, hx278_0, hl278_0, hi278_0⟩ := at_L1 HR0_1.out x10_1 p278 q278
     cases e278
     replace hx278_0 := (HB.out.cell (World.block_lt_of_cell? w _ hx278_0)).trans hx278_0
     have HR278_0 := Aside0.mk hi278_0
     have HC278_0 := Aside0.mk hl278_0
     clear hi278_0 hl278_0
     replace p278 := eq_true p278
     replace q278 := eq_true q278
     have p288 : 0 ≤ (0 : Int) := (by omega)
     have q288 : 0 < ((rd_L1 l0_1 x10_1).length : Int) := mD
     obtain ⟨ad288, e288, hx288_0⟩ := Kd.at_int HR278_0.out 0 p288 q288
     cases e288
     have qi288 : (0 < (rd_L1 l0_1 x10_1).length) = True := eq_true (by omega)
     (try rw [show ((0 : Int)).toNat = 0 from rfl] at hx288_0)
     (try rw [Addr.add_zero'] at hx288_0)
     replace hx288_0 := (HB.out.cell (World.block_lt_of_cell? w _ hx288_0)).trans hx288_0
     replace p288 := eq_true p288
     replace q288 := eq_true q288
     have p304 : 0 ≤ (0 : Int) := (by omega)
     have q304 : 0 < ((rd_L1 l0_1 x10_1).length : Int) := mD
     obtain ⟨ad304, e304, hx304_0⟩ := Kd.at_int HR278_0.out 0 p304 q304
     obtain rfl : ad288 = ad304 := (by injection e304)
     have qi304 : (0 < (rd_L1 l0_1 x10_1).length) = True := eq_true (by omega)
     (try rw [show ((0 : Int)).toNat = 0 from rfl] at hx304_0)
     (try rw [Addr.add_zero'] at hx304_0)
     replace hx304_0 := (HB.out.cell (World.block_lt_of_cell? w _ hx304_0)).trans hx304_0
     replace p304 := eq_true p304
     replace q304 := eq_true q304
     have p305 : 0 ≤ (1 : Int) := (by omega)
     have q305 : 1 < ((rd_L1 l0_1 x10_1).length : Int) := mD
     obtain ⟨ad305, e305, hx305_0⟩ := Kd.at_int HR278_0.out 1 p305 q305
     obtain rfl : ad288 = ad305 := (by injection e305)
     (try simp only [show (1 : Int).toNat = 1 from rfl, Nat.reduceMul, Nat.reduceEqDiff, Go.Addr.add, ↓reduceIte] at hx305_0)
     have qi305 : (1 < (rd_L1 l0_1 x10_1).length) = True := eq_true (by omega)
     (try rw [show ((1 : Int)).toNat = 1 from rfl] at hx305_0)
     replace hx305_0 := (HB.out.cell (World.block_lt_of_cell? w _ hx305_0)).trans hx305_0
     replace p305 := eq_true p305
     replace q305 := eq_true q305
     have hnb73 := NB276_275.out
     have hnc73 := NB275_276.out
     have hcz74_0 : wc.cell? ⟨gb276, 0, none⟩ = some (.int .i64 a0_0) := (blk_cell BK276.out 0).trans rfl
     have hcz74_1 : wc.cell? ⟨gb276, 1, none⟩ = some (u277001) := (blk_cell BK276.out 1).trans rfl
     have hfz74_0 := blk_frozen BK276.out 0
     have hfz74_1 := blk_frozen BK276.out 1
     try go_wp2_with (first | ((with_reducible refine gate_dst (N := 58) rfl ?_); refine Kd.R_lit (Kd.int .i64) _ 3 ?hg (N := 58) ?hd (xs := ([a1, a2] : List Int)) (inner := [.int .i64 a1, .int .i64 a2]) (ok := fun _ => True) (okp := fun _ => True) ?hr ?hp (fun _ hk => hk) trivial (Below.refl _ _) (Nat.le_refl _) (by simp) ?_; (case hd => rfl); (case hg => rfl); (case hr => first | (go_simp; done) | (go_simp; rfl)); (case hp => exact (Reps.one (show Kd.M (Kd.int .i64) _ _ _ a1 [.int .i64 a1] from rfl) (Reps.one (show Kd.M (Kd.int .i64) _ _ _ a2 [.int .i64 a2] from rfl) (Reps.none _ _)))); intro v307 w75 ho76 hb hg_ hnew_; clear hg_ hnew_; (first | rw [← Ny306.out] at ho76 | (simp only [Int.reduceToNat] at ho76; rw [← Ny306.out] at ho76)); have n0_ := Aside0.mk (Kd.S_elder' (mS HO_277001.out) (Kd.R_base ho76) hb); have n1_ := Aside0.mk (Kd.R_lower ho76 (below_size mG)); have n2_ := Aside0.mk (blk_below (g := gb274) (o := .cells #[.int .i64 a0_0, .slice (some ad278) l0_1.length c0_1] 28 (0, 0)) ((mK (BK274.out))) hb); have n3_ := Aside0.mk (blk_below (g := gb275) (o := .cells #[.int .i64 0, .slice none 0 0] 28 (0, 0)) ((mK (BK275.out))) hb); have n4_ := Aside0.mk (blk_below (g := gb276) (o := .cells #[.int .i64 a0_0, u277001] 28 (0, 0)) ((mK (BK276.out))) hb); have n5_ := Aside0.mk (below_step mG hb); clear HO_277001 BK274 BK275 BK276 HB; have HO_277001 := n0_; have HO308 := n1_; have BK274 := n2_; have BK275 := n3_; have BK276 := n4_; have HB := n5_; clear n0_ n1_ n2_ n3_ n4_ n5_; clear hb ho76; obtain ⟨Ao78, co78, eo78⟩ := Kd.R_slice HO308.out; subst eo78) | ((with_reducible refine gate_builtin (b := .append) (xs := #[.tmp 55, .tmp 59]) rfl ?_); at_builtin; refine Kd.S_append (Kd.slice 3 (Kd.int .i64)) (w0 := w) w.heap.size rfl (.tmp 55) (.tmp 59) 22 25 (.slice none 0 0) 24 rfl Try.underlying22 info25 rfl (by decide) (by omega) u277001 x277001_1 y306 [.slice Ao78 y306.length co78] (fun _ => True) (fun k_ => some k_ = (.slice Ao78 y306.length co78 : Value).ownBlock) rfl rfl ?aP (fun k_ hk_ => ((Kd.R_mono (ok' := fun k_ => ((fun _ => True)) k_ ∧ some k_ ≠ (u277001 : Value).ownBlock) (Kd.R_apart' (HO308.out) (Kd.S_typed HO_277001.out) (by decide)) (fun k_ hk => ⟨trivial, hk.2⟩))).1 k_ hk_.symm) ?aF ?aO ?aB ?aS ?aL ?_; (case aP => exact Kd.M_row (Kd.R_mono (Kd.R_tight rfl (Kd.R_mono (ok' := fun k_ => ((fun _ => True)) k_ ∧ some k_ ≠ (u277001 : Value).ownBlock) (Kd.R_apart' (HO308.out) (Kd.S_typed HO_277001.out) (by decide)) (fun k_ hk => ⟨trivial, hk.2⟩))) (fun _ h_ => h_))); (case aB => exact mG); (case aF => exact (fun _ _ => trivial)); (case aO => exact (mS (Kd.S_mono HO_277001.out (fun k_ hk => ⟨trivial, fun e_ => hk.2 e_⟩)))); (case aS => exact (below_size mG)); (case aL => have := LMc67.out; omega); intro v310 w77 ho hb hg hat; rw [← Ny309.out] at ho; have n0_ := Aside0.mk (blk_grown (g := gb274) (o := .cells #[.int .i64 a0_0, .slice (some ad278) l0_1.length c0_1] 28 (0, 0)) ((mK (BK274.out))) hg (Kd.S_ne HO_277001.out BK274.out (by decide))); have n1_ := Aside0.mk (blk_grown (g := gb275) (o := .cells #[.int .i64 0, .slice none 0 0] 28 (0, 0)) ((mK (BK275.out))) hg (Kd.S_ne HO_277001.out BK275.out (by decide))); have n2_ := Aside0.mk (blk_grown (g := gb276) (o := .cells #[.int .i64 a0_0, u277001] 28 (0, 0)) ((mK (BK276.out))) hg (Kd.S_ne HO_277001.out BK276.out (by decide))); have n3_ := Aside0.mk (hb); have n4_ := Aside0.mk (ho); clear BK274 BK275 BK276 HB HO_277001 HO308; have BK274 := n0_; have BK275 := n1_; have BK276 := n2_; have HB := n3_; have HO311 := n4_; clear n0_ n1_ n2_ n3_ n4_; clear ho hb hg hat; obtain ⟨Ao79, co79, eo79⟩ := Kd.S_slice HO311.out; subst eo79; have hcz80_0 : w77.cell? ⟨gb276, 0, none⟩ = some (.int .i64 a0_0) := (blk_cell BK276.out 0).trans rfl; have hcz80_1 : w77.cell? ⟨gb276, 1, none⟩ = some (u277001) := (blk_cell BK276.out 1).trans rfl; have hfz80_0 := blk_frozen BK276.out 0; have hfz80_1 := blk_frozen BK276.out 1))
     have n0_ : Aside0 (Kd.S (Kd.slice 3 (Kd.int .i64)) 25 (w77.setCell ⟨gb276, 1, none⟩ (.slice Ao79 y309.length co79)) w.heap.size (fun _ => True) (.slice Ao79 y309.length co79) y309) := ⟨by (with_reducible repeat (first | apply Kd.S_alloc | apply Kd.S_drewN | apply Kd.S_drew)); exact Kd.S_mono (Kd.S_far (p := ⟨gb276, 1, none⟩) (Kd.S_types HO311.out BK276.out (by decide)) (fun _ hk => hk.2) (.slice Ao79 y309.length co79)) (fun _ hk => trivial)⟩
     have n1_ : Aside0 ((w77.setCell ⟨gb276, 1, none⟩ (.slice Ao79 y309.length co79)).heap[gb274]? = some (.cells #[.int .i64 a0_0, .slice (some ad278) l0_1.length c0_1] 28 (0, 0))) := ⟨by refine pK ?_; refine blk_far ?_ NB274_276.out _; refine pK ?_; exact BK274.out⟩
     have n2_ : Aside0 ((w77.setCell ⟨gb276, 1, none⟩ (.slice Ao79 y309.length co79)).heap[gb275]? = some (.cells #[.int .i64 0, .slice none 0 0] 28 (0, 0))) := ⟨by refine pK ?_; refine blk_far ?_ NB275_276.out _; refine pK ?_; exact BK275.out⟩
     have n3_ : Aside0 ((w77.setCell ⟨gb276, 1, none⟩ (.slice Ao79 y309.length co79)).heap[gb276]? = some (.cells #[.int .i64 a0_0, .slice Ao79 y309.length co79] 28 (0, 0))) := ⟨by refine pK ?_; refine blk_put (cs := #[.int .i64 a0_0, u277001]) ?_ 1 _ rfl; refine pK ?_; exact BK276.out⟩
     have n4_ : Aside0 (Below w.heap.size w (w77.setCell ⟨gb276, 1, none⟩ (.slice Ao79 y309.length co79))) := ⟨mG⟩
     (try clear HO311); (try clear BK274); (try clear BK275); (try clear BK276); (try clear HB)
     generalize (w77.setCell ⟨gb276, 1, none⟩ (.slice Ao79 y309.length co79)) = w81 at n0_ n1_ n2_ n3_ n4_ ⊢
     have HO311 := n0_; have BK274 := n1_; have BK275 := n2_; have BK276 := n3_; have HB := n4_; clear n0_ n1_ n2_ n3_ n4_
     have n0_ := Aside0.mk (Kd.S_drew HO311.out)
     have n1_ := Aside0.mk (blk_drew BK274.out)
     have n2_ := Aside0.mk (blk_drew BK275.out)
     have n3_ := Aside0.mk (blk_drew BK276.out)
     have n4_ := Aside0.mk (below_drew1 HB.out)
     clear HO311 BK274 BK275 BK276 HB; have HO311 := n0_; have BK274 := n1_; have BK275 := n2_; have BK276 := n3_; have HB := n4_; clear n0_ n1_ n2_ n3_ n4_
     refine start_ (n := 9) (S := fun w' => w'.cell? ⟨gb276, 0, none⟩ = some (.int .i64 a0_0) ∧ w'.cell? ⟨gb276, 1, none⟩ = some (.slice Ao79 y309.length co79)) (ds := [8]) (L_ 0 9) (by kernel_rfl) rfl rfl ⟨(blk_cell BK276.out 0).trans rfl, (blk_cell BK276.out 1).trans rfl⟩ (fun hHeld => ?_); refine with_tabW spec_AddAttack.tab10 spec_AddAttack.bits10 (fun HT_ HW_ => ?_)
     generalize w81.drew = w82 at HO311 BK274 BK275 BK276 HB hHeld ⊢
     refine ps 0 62 (L_ 1 9) HT_.out ?_
     refine ps 3 65 #[true, false, false, true, false, false, false, false, false] HT_.out ?_
     refine take_ (i := 1) (N := some 63) (v := ?_) (a' := ?_) #[true, true, false, true, false, false, false, false, false] rfl rfl (take_ofW HT_.out HW_.out (by kernel_rfl)) (fun _ _ _ h => h) (Or.inl ⟨by rfl, ?_⟩) hHeld ?_ ?_
     rotate_left
     ·
      rintro w' ⟨s0, s1⟩
      go_simp
      with_reducible rfl
     rotate_left
     ·
      simp only [Act.put, List.setIfInBounds_toArray, List.set_cons_zero, List.set_cons_succ, i64_w, i32_w]
      rfl
     refine one_ (i := 2) (N := some 64) (L_ 4 9) rfl rfl (one_of HT_.out (by kernel_rfl)) (by decide) (fun K hK => ?_)
     refine Kd.R_lit_step (Kd.int .i64) _ 3 ?hg (N := 64) ?hd (xs := ([] : List Int)) (inner := []) (ok := fun _ => True) (okp := fun _ => True) ?hr ?hp (fun _ hk => hk) trivial (Below.refl _ _) (Nat.le_refl _) (by simp) ?_; (case hd => rfl); (case hg => rfl); (case hr => first | (go_simp; done) | (go_simp; rfl)); (case hp => exact (Reps.none _ _))
     intro v313 w83 ho84 hb hg_ hnew_
     clear hg_ hnew_
     (first | rw [← Ny312.out] at ho84 | (simp only [Int.reduceToNat] at ho84; rw [← Ny312.out] at ho84))
     have n0_ := Aside0.mk (Kd.S_elder' (mS HO311.out) (Kd.R_base ho84) hb)
     have n1_ := Aside0.mk (Kd.R_lower ho84 (below_size mG))
     have n2_ := Aside0.mk (blk_below (g := gb274) (o := .cells #[.int .i64 a0_0, .slice (some ad278) l0_1.length c0_1] 28 (0, 0)) ((mK (BK274.out))) hb)
     have n3_ := Aside0.mk (blk_below (g := gb275) (o := .cells #[.int .i64 0, .slice none 0 0] 28 (0, 0)) ((mK (BK275.out))) hb)
     have n4_ := Aside0.mk (blk_below (g := gb276) (o := .cells #[.int .i64 a0_0, .slice Ao79 y309.length co79] 28 (0, 0)) ((mK (BK276.out))) hb)
     have n5_ := Aside0.mk (below_step mG hb)
     clear HO311 BK274 BK275 BK276 HB; have HO311 := n0_; have HO314 := n1_; have BK274 := n2_; have BK275 := n3_; have BK276 := n4_; have HB := n5_; clear n0_ n1_ n2_ n3_ n4_ n5_; clear hb ho84
     refine hK.out _ _ ⟨(blk_cell BK276.out 0).trans rfl, (blk_cell BK276.out 1).trans rfl⟩ (fun hHeld => ?_)
     clear hK K
     refine norm_ (a' := ?_) ?_ ?_
     rotate_left
     ·
      show Act.put _ (some 64) _ = _
      simp only [Act.put, List.setIfInBounds_toArray, List.set_cons_zero, List.set_cons_succ, i64_w, i32_w]
      rfl
     refine one_ (i := 4) (N := some 66) (L_ 5 9) rfl rfl (one_of HT_.out (by kernel_rfl)) (by decide) (fun K hK => ?_)
     refine Kd.R_append_rows_step (Kd.int .i64) (w0 := w) w.heap.size (by rfl) (.tmp 64) (.tmp 65) 25 3 (.int .i64 0) 8 rfl Try.underlying25 info3 rfl (by decide) (by omega) v313 y312 (rd_L1 l0_1 x10_1) _ _ _ (fun _ => True) (fun _ => False) rfl rfl ?aO ?aR (fun _ _ h => h) (fun _ h => h.elim) ?aF ?aB ?aS ?aL ?_
     (case aR => exact mC (Kd.C_below HR278_0.out HB.out))
     (case aB => exact mG)
     (case aF => exact (fun _ _ => trivial))
     (case aO => exact (mR HO314.out))
     (case aS => exact (below_size mG))
     (case aL => have := LMc68.out; omega)
     intro v316 w85 ho hb hg hat
     rw [← Ny315.out] at ho
     have n0_ := Aside0.mk (blk_grown (g := gb274) (o := .cells #[.int .i64 a0_0, .slice (some ad278) l0_1.length c0_1] 28 (0, 0)) ((mK (BK274.out))) hg (Kd.R_ne HO314.out BK274.out (by decide)))
     have n1_ := Aside0.mk (blk_grown (g := gb275) (o := .cells #[.int .i64 0, .slice none 0 0] 28 (0, 0)) ((mK (BK275.out))) hg (Kd.R_ne HO314.out BK275.out (by decide)))
     have n2_ := Aside0.mk (blk_grown (g := gb276) (o := .cells #[.int .i64 a0_0, .slice Ao79 y309.length co79] 28 (0, 0)) ((mK (BK276.out))) hg (Kd.R_ne HO314.out BK276.out (by decide)))
     have n3_ := Aside0.mk (Kd.S_after (ok := (fun _ => True)) (mS HO311.out) hg hat)
     have n4_ := Aside0.mk (hb)
     have n5_ := Aside0.mk (ho)
     clear BK274 BK275 BK276 HO311 HB HO314; have BK274 := n0_; have BK275 := n1_; have BK276 := n2_; have HO311 := n3_; have HB := n4_; have HO317 := n5_; clear n0_ n1_ n2_ n3_ n4_ n5_; clear ho hb hg hat
     obtain ⟨Ao87, co87, eo87⟩ := Kd.R_slice HO317.out
     (first | subst eo87 | (injection eo87 with f1_ f2_ f3_; have f4_ := f1_.symm; have f5_ := f3_.symm; clear f1_ f2_ f3_; subst f4_; subst f5_))
     refine hK.out _ _ ⟨(blk_cell BK276.out 0).trans rfl, (blk_cell BK276.out 1).trans rfl⟩ (fun hHeld => ?_)
     clear hK K
     refine norm_ (a' := ?_) ?_ ?_
     rotate_left
     ·
      show Act.put _ (some 66) _ = _
      simp only [Act.put, List.setIfInBounds_toArray, List.set_cons_zero, List.set_cons_succ, i64_w, i32_w]
      rfl
     refine one_ (i := 5) (N := some 67) (L_ 6 9) rfl rfl (one_of HT_.out (by kernel_rfl)) (by decide) (fun K hK => ?_)
     refine value_ (w1 := ?_) (v := ?_) (by rfl) rfl ?_ ?_
     rotate_left 2
     ·
      go_simp
      constructor
      ·
       rfl
      ·
       rfl
     refine hK.out _ _ ⟨(blk_cell (blk_alloc BK276.out _) 0).trans rfl, (blk_cell (blk_alloc BK276.out _) 1).trans rfl⟩ (fun hHeld => ?_)
     clear hK K
     refine norm_ (a' := ?_) ?_ ?_
     rotate_left
     ·
      show Act.put _ (some 67) _ = _
      simp only [Act.put, List.setIfInBounds_toArray, List.set_cons_zero, List.set_cons_succ, i64_w, i32_w]
      rfl
     refine one_ (i := 6) (N := some 68) (L_ 7 9) rfl rfl (one_of HT_.out (by kernel_rfl)) (by decide) (fun K hK => ?_)
     refine Kd.S_append_step (Kd.slice 3 (Kd.int .i64)) (w0 := w) w.heap.size (by rfl) (.tmp 63) (.tmp 67) 22 25 (.slice none 0 0) 24 rfl Try.underlying22 info25 rfl (by decide) (by omega) (.slice Ao79 y309.length co79) y309 y315 [.slice Ao87 y315.length co87] (fun _ => True) (fun k_ => some k_ = (.slice Ao87 y315.length co87 : Value).ownBlock) rfl rfl ?aP (fun k_ hk_ => ((Kd.R_mono (ok' := fun k_ => ((fun _ => True)) k_ ∧ some k_ ≠ (.slice Ao79 y309.length co79 : Value).ownBlock) (Kd.R_apart' (HO317.out) (Kd.S_typed HO311.out) (by decide)) (fun k_ hk => ⟨trivial, hk.2⟩))).1 k_ hk_.symm) ?aF ?aO ?aB ?aS ?aL ?_
     (case aP => exact Kd.M_row (Kd.R_mono (Kd.R_tight rfl (Kd.R_mono (ok' := fun k_ => ((fun _ => True)) k_ ∧ some k_ ≠ (.slice Ao79 y309.length co79 : Value).ownBlock) (Kd.R_apart' (HO317.out) (Kd.S_typed HO311.out) (by decide)) (fun k_ hk => ⟨trivial, hk.2⟩))) (fun _ h_ => h_)))
     (case aB => exact mG)
     (case aF => exact (fun _ _ => trivial))
     (case aO => exact (mS (Kd.S_mono HO311.out (fun k_ hk => ⟨trivial, fun e_ => hk.2 e_⟩))))
     (case aS => exact (below_size mG))
     (case aL => have := LMc69.out; omega)
     intro v319 w86 ho hb hg hat
     rw [← Ny318.out] at ho
     have n0_ := Aside0.mk (blk_grown (g := gb274) (o := .cells #[.int .i64 a0_0, .slice (some ad278) l0_1.length c0_1] 28 (0, 0)) ((mK (BK274.out))) hg (Kd.S_ne HO311.out BK274.out (by decide)))
     have n1_ := Aside0.mk (blk_grown (g := gb275) (o := .cells #[.int .i64 0, .slice none 0 0] 28 (0, 0)) ((mK (BK275.out))) hg (Kd.S_ne HO311.out BK275.out (by decide)))
     have n2_ := Aside0.mk (blk_grown (g := gb276) (o := .cells #[.int .i64 a0_0, .slice Ao79 y309.length co79] 28 (0, 0)) ((mK (BK276.out))) hg (Kd.S_ne HO311.out BK276.out (by decide)))
     have n3_ := Aside0.mk (hb)
     have n4_ := Aside0.mk (ho)
     clear BK274 BK275 BK276 HB HO311 HO317; have BK274 := n0_; have BK275 := n1_; have BK276 := n2_; have HB := n3_; have HO320 := n4_; clear n0_ n1_ n2_ n3_ n4_; clear ho hb hg hat
     obtain ⟨Ao88, co88, eo88⟩ := Kd.S_slice HO320.out
     (first | subst eo88 | (injection eo88 with f1_ f2_ f3_; have f4_ := f1_.symm; have f5_ := f3_.symm; clear f1_ f2_ f3_; subst f4_; subst f5_))
     refine hK.out _ _ ⟨(blk_cell BK276.out 0).trans rfl, (blk_cell BK276.out 1).trans rfl⟩ (fun hHeld => ?_)
     clear hK K
     refine norm_ (a' := ?_) ?_ ?_
     rotate_left
     ·
      show Act.put _ (some 68) _ = _
      simp only [Act.put, List.setIfInBounds_toArray, List.set_cons_zero, List.set_cons_succ, i64_w, i32_w]
      rfl
     refine ps 7 69 (L_ 8 9) HT_.out ?_
     refine last_ (i := 8) (N := none) (L_ 9 9) rfl rfl (one_of HT_.out (by kernel_rfl)) (by decide) (fun K hK => ?_)
     have hs89 : w86.cell? ⟨gb276, 1, none⟩ = some (.slice Ao79 y309.length co79) := (blk_cell BK276.out 1).trans rfl
     have hfs89 := blk_frozen BK276.out 1
     have hns89_0 := NB274_276.out
     have hns89_1 := NB275_276.out
     have hms89_0 := NB276_274.out
     have hms89_1 := NB276_275.out
     refine skip_ (w1 := ?_) (by rfl) rfl ?_ ?_
     rotate_left
     ·
      go_simp
      rfl
     refine hK.out _ _ ?_
     clear hK K
     refine done_ (done_of HT_.out (by kernel_rfl)) ?_
     try go_wp2
     go_roundg kj11
     case measure => have := HK1.out; have := HJ11.out; omega
     case rel => exact ⟨(true), (wrap64 (x10_1 + 1)), (y318), (.slice Ao88 y318.length co88), mF, mF, H', ⟨by have := HK1.out; have := HJ11.out; omega⟩, ⟨by (with_reducible repeat (first | apply Kd.S_alloc | apply Kd.S_drewN | apply Kd.S_drew)); exact Kd.S_mono (Kd.S_far (p := ⟨gb276, 1, none⟩) (Kd.S_types HO320.out BK276.out (by decide)) (fun _ hk => hk.2) (.slice Ao88 y318.length co88)) (fun _ hk => trivial)⟩, ⟨by refine pK ?_; refine blk_far ?_ NB274_276.out _; refine pK ?_; exact BK274.out⟩, ⟨by refine pK ?_; refine blk_far ?_ NB275_276.out _; refine pK ?_; exact BK275.out⟩, ⟨by refine pK ?_; refine blk_put (cs := #[.int .i64 a0_0, .slice Ao79 y309.length co79]) ?_ 1 _ rfl; refine pK ?_; exact BK276.out⟩, ⟨mG⟩⟩
end Go.Proofs.Ytelkfhlnejlheaa.GFnGrounded
