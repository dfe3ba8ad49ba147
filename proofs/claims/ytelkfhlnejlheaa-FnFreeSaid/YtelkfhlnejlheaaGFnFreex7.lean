-- Written by gprint.py, a program of this session, with the printer of the kit as its library. Lean checks it.
import Derived.Test.YtelkfhlnejlheaaGFnFreex0
import Derived.Test.YtelkfhlnejlheaaGFnFreex3
import Derived.Test.YtelkfhlnejlheaaGFnFreex4
import Derived.Test.YtelkfhlnejlheaaGFnFreex5
import Derived.Test.YtelkfhlnejlheaaGFnFreex6
namespace Go.Proofs.Ytelkfhlnejlheaa.GFnFree
open Go.RowKit Go.Proofs.YtelkfhlnejlheaaW.PrintWords Go.Proofs.YtelkfhlnejlheaaW.PrintLast Go.Proofs.YtelkfhlnejlheaaW.PrintMore
attribute [local go_sem] max2_int min2_int max_two min_two max_three min_three max_four min_four   -- for this text's walks alone
set_option linter.unusedVariables false
set_option linter.unusedSimpArgs false

/-! ### spec_AttackersOf: function 86 -/
mutual
def spec_AttackersOf.l0 : Nat → Int → List Int → Int → Int → List (List Int) → Option (List Int)
 | 0, _, _, _, _, _ => none
 | k + 1, x1, x5, x6, x227000, x227001 => if x6 < (x227001.length : Int) then ((spec_IsGraph.f k x227000 x227001).bind fun t230 => (spec_AttackersOf.j1 k x1 x5 x6 t230 x227000 x227001)) else (spec_AttackersOf.j1 k x1 x5 x6 false x227000 x227001)
def spec_AttackersOf.j1 : Nat → Int → List Int → Int → Bool → Int → List (List Int) → Option (List Int)
 | 0, _, _, _, _, _, _ => none
 | k + 1, x1, x5, x6, x16, x227000, x227001 => if x16 = true then (if 0 ≤ x6 then (if x6 < (x227001.length : Int) then (if 1 < ((rd_L1 x227001 x6).length : Int) then (if (rd (rd_L1 x227001 x6) 1) = x1 then (if 0 < ((rd_L1 x227001 x6).length : Int) then (if x5.length < 17592186044416 then (spec_AttackersOf.l0 k x1 (x5 ++ [rd (rd_L1 x227001 x6) 0]) (wrap64 (x6 + 1)) x227000 x227001) else (none)) else (none)) else (spec_AttackersOf.l0 k x1 x5 (wrap64 (x6 + 1)) x227000 x227001)) else (none)) else (none)) else (none)) else (some x5)
end
def spec_AttackersOf.f (k : Nat) (a0_0 : Int) (l0_1 : List (List Int)) (a1 : Int) : Option (List Int) := spec_AttackersOf.l0 k a1 (([] : List Int)) 0 a0_0 l0_1
theorem spec_AttackersOf.mono_l : ∀ k, (∀ y0 y1 y2 y3 y4, LeO (spec_AttackersOf.l0 k y0 y1 y2 y3 y4) (spec_AttackersOf.l0 (k + 1) y0 y1 y2 y3 y4)) ∧ (∀ y0 y1 y2 y3 y4 y5, LeO (spec_AttackersOf.j1 k y0 y1 y2 y3 y4 y5) (spec_AttackersOf.j1 (k + 1) y0 y1 y2 y3 y4 y5))
 | 0 => ⟨fun _ _ _ _ _ r h => by simp [spec_AttackersOf.l0] at h, fun _ _ _ _ _ _ r h => by simp [spec_AttackersOf.j1] at h⟩
 | k + 1 => by
  obtain ⟨ih0, ih1⟩ := spec_AttackersOf.mono_l k
  refine ⟨?_, ?_⟩
  ·
   intro y0 y1 y2 y3 y4
   unfold spec_AttackersOf.l0
   repeat' with_reducible first | exact ih0 _ _ _ _ _ | exact ih1 _ _ _ _ _ _ | exact spec_IsGraph.mono _ _ _ | exact LeO.refl _ | exact LeO.none _ | refine LeO.ite ?_ ?_ | refine LeO.bind ?_ (fun _ => ?_)
  ·
   intro y0 y1 y2 y3 y4 y5
   unfold spec_AttackersOf.j1
   repeat' with_reducible first | exact ih0 _ _ _ _ _ | exact ih1 _ _ _ _ _ _ | exact spec_IsGraph.mono _ _ _ | exact LeO.refl _ | exact LeO.none _ | refine LeO.ite ?_ ?_ | refine LeO.bind ?_ (fun _ => ?_)
theorem spec_AttackersOf.mono : ∀ a0 a1 a2 k, LeO (spec_AttackersOf.f k a0 a1 a2) (spec_AttackersOf.f (k + 1) a0 a1 a2) := by
 intro a0 a1 a2 k
 obtain ⟨ih0, ih1⟩ := spec_AttackersOf.mono_l k
 unfold spec_AttackersOf.f
 repeat' with_reducible first | exact ih0 _ _ _ _ _ | exact ih1 _ _ _ _ _ _ | exact spec_IsGraph.mono _ _ _ | exact LeO.refl _ | exact LeO.none _ | refine LeO.ite ?_ ?_ | refine LeO.bind ?_ (fun _ => ?_)
set_option maxHeartbeats 8000000 in
set_option maxRecDepth 100000 in
theorem spec_AttackersOf.calls (k : Nat) (a0_0 : Int) (A0_1 : Option Addr) (c0_1 : Nat) (l0_1 : List (List Int)) (a1 : Int) (r : List Int) (w : World) (hr0_1 : Kd.C (Kd.slice 3 (Kd.int .i64)) w A0_1 l0_1.length l0_1) (hc0_1 : l0_1.length ≤ c0_1) (h : spec_AttackersOf.f k a0_0 l0_1 a1 = some r) :
  Calls Try.prog 86 #[.agg #[.int .i64 a0_0, .slice A0_1 l0_1.length c0_1], .int .i64 a1] w fun e w' => ∃ v0_ : Value, e = .returned (v0_) ∧ Kd.R (Kd.int .i64) 3 w' w.heap.size (fun _ => True) v0_ r ∧ Below w.heap.size w w' := by
 have hu28 := Try.underlying28
 have HR0_1 := Aside0.mk hr0_1
 have HC0_1 := Aside0.mk hc0_1
 clear hr0_1 hc0_1
 have HB := Aside0.mk (Below.refl w.heap.size w)
 have H : (spec_AttackersOf.l0 k a1 (([] : List Int)) 0 a0_0 l0_1) = some r := h
 clear h
 obtain ⟨y227, hy227⟩ : ∃ y_ : List Int, y_ = (([] : List Int)) := ⟨_, rfl⟩
 replace H : (spec_AttackersOf.l0 k a1 y227 0 a0_0 l0_1) = some r := by first | (rw [hy227]; with_reducible exact H) | (have H2_ := (Option.bind_some _ _).symm.trans H; rw [hy227]; with_reducible exact H2_) | (have H2_ := (Option.bind_some _ _).symm.trans H; with_reducible exact H2_) | with_reducible exact H | (rw [hy227]; exact H) | exact H
 have Ny227 := Aside0.mk hy227
 clear hy227
 have H' := Aside0.mk H
 clear H
 go_enter Try.func86, Try.ntmps86
 go_wp2_with (first | ((with_reducible refine gate_dst (N := 2) rfl ?_); refine box_event ?hg (N := 2) ?hd (cs := #[.int .i64 a0_0, .slice A0_1 l0_1.length c0_1]) (t := 28) ?hr ?_; (case hd => rfl); (case hg => rfl); (case hr => first | (go_simp; done) | (go_simp; rfl)); intro gb226 hg w3 hbox hb; have n0_ := Aside0.mk (below_step (mB HB.out) hb); have n1_ := Aside0.mk (hbox); have n2_ := Aside0.mk ((by rw [hg]; exact (below_size (mB HB.out)) : w.heap.size ≤ gb226)); have n3_ := Aside0.mk ((by rw [hg]; exact (below_size (mB HB.out)) : w.heap.size ≤ gb226)); clear HB; have HB := n0_; have BK226 := n1_; have GW226 := n2_; have GE226 := n3_; clear n0_ n1_ n2_ n3_; clear hb hbox hg) | ((with_reducible refine gate_dst (N := 7) rfl ?_); refine Kd.R_lit (Kd.int .i64) _ 3 ?hg (N := 7) ?hd (xs := ([] : List Int)) (inner := []) (ok := fun _ => True) (okp := fun _ => True) ?hr ?hp (fun _ hk => hk) trivial (Below.refl _ _) (Nat.le_refl _) (by simp) ?_; (case hd => rfl); (case hg => rfl); (case hr => first | (go_simp; done) | (go_simp; rfl)); (case hp => exact (Reps.none _ _)); intro v228 w4 ho5 hb hg_ hnew_; clear hg_ hnew_; (first | rw [← Ny227.out] at ho5 | (simp only [Int.reduceToNat] at ho5; rw [← Ny227.out] at ho5)); have n0_ := Aside0.mk (Kd.R_lower ho5 (below_size mG)); have n1_ := Aside0.mk (blk_below (g := gb226) (o := .cells #[.int .i64 a0_0, .slice A0_1 l0_1.length c0_1] 28 (0, 0)) ((mK (BK226.out))) hb); have n2_ := Aside0.mk (below_step mG hb); clear BK226 HB; have HO229 := n0_; have BK226 := n1_; have HB := n2_; clear n0_ n1_ n2_; clear hb ho5))
 go_loopg [5, 6] k (fun kq v5 v6 w' => ∃ (x5_1 : List Int) (x6_1 : Int), v6 = .int .i64 x6_1 ∧ Aside0 (spec_AttackersOf.l0 kq a1 x5_1 x6_1 a0_0 l0_1 = some r) ∧ Aside0 (kq ≤ k) ∧ Aside0 (Kd.R (Kd.int .i64) 3 w' w.heap.size (fun _ => True) v5 x5_1) ∧ Aside0 (w'.heap[gb226]? = some (.cells #[.int .i64 a0_0, (.slice A0_1 l0_1.length c0_1)] 28 (0, 0))) ∧ Aside0 (Below w.heap.size w w'))
 case atStart => exact ⟨(y227), (0), mF, H', ⟨Nat.le_refl _⟩, ⟨mR HO229.out⟩, ⟨(mK (BK226.out))⟩, ⟨mG⟩⟩
 case round =>
  clear H'
  obtain ⟨x5_1, x6_1, rfl, HA, HK1, HO_5, BK226, HB⟩ := hrel
  cases gk with
  | zero => exact absurd HA.out (by simp [spec_AttackersOf.l0])
  | succ k1 =>
   have H := HA.out
   clear HA
   simp only [spec_AttackersOf.l0] at H
   have HC6 := Aside0.mk H
   clear H
   go_upto_region 3 with (fail)
   go_cut [16] (fun v16 wc => ∃ (kq : Nat) (x16_5 : Bool), v16 = .bool x16_5 ∧ Aside0 (spec_AttackersOf.j1 kq a1 x5_1 x6_1 x16_5 a0_0 l0_1 = some r) ∧ Aside0 (kq ≤ k1) ∧ Aside0 (Kd.R (Kd.int .i64) 3 wc w.heap.size (fun _ => True) u5 x5_1) ∧ Aside0 (wc.heap[gb226]? = some (.cells #[.int .i64 a0_0, (.slice A0_1 l0_1.length c0_1)] 28 (0, 0))) ∧ Aside0 (Below w.heap.size w wc))
   case first =>
    have H := HC6.out
    clear HC6
    by_cases c7 : x6_1 < (l0_1.length : Int)
    rotate_left
    ·
     rw [if_neg c7] at H
     have c7b0 : decide (x6_1 < (l0_1.length : Int)) = false := decide_eq_false c7
     clear c7
     (first | rw [c7b0] | (simp only [i64_w, i32_w]; rw [c7b0]) | skip)
     have H' := Aside0.mk H
     clear H
     have hcz11_0 : wr.cell? ⟨gb226, 0, none⟩ = some (.int .i64 a0_0) := (blk_cell BK226.out 0).trans rfl
     have hcz11_1 : wr.cell? ⟨gb226, 1, none⟩ = some (.slice A0_1 l0_1.length c0_1) := (blk_cell BK226.out 1).trans rfl
     have hfz11_0 := blk_frozen BK226.out 0
     have hfz11_1 := blk_frozen BK226.out 1
     go_wp2
     go_meet
     case rel => exact ⟨_, (false), mF, H', ⟨by have := HK1.out; first | omega | exact Nat.le_refl _⟩, ⟨mR HO_5.out⟩, ⟨(mK (BK226.out))⟩, ⟨mG⟩⟩
    rw [if_pos c7] at H
    have c7b0 : decide (x6_1 < (l0_1.length : Int)) = true := decide_eq_true c7
    clear c7
    (first | rw [c7b0] | (simp only [i64_w, i32_w]; rw [c7b0]) | skip)
    replace H := Option.bind_eq_some_iff.mp H
    obtain ⟨t230, A80, H⟩ := H
    have A8 := Aside0.mk A80
    clear A80
    have H' := Aside0.mk H
    clear H
    have hcz9_0 : wr.cell? ⟨gb226, 0, none⟩ = some (.int .i64 a0_0) := (blk_cell BK226.out 0).trans rfl
    have hcz9_1 : wr.cell? ⟨gb226, 1, none⟩ = some (.slice A0_1 l0_1.length c0_1) := (blk_cell BK226.out 1).trans rfl
    have hfz9_0 := blk_frozen BK226.out 0
    have hfz9_1 := blk_frozen BK226.out 1
    go_wp2_with (first | (go_at_call 67; (with_reducible refine (spec_IsGraph.calls k1 a0_0 _ _ l0_1 t230 _ ?side1 ?side2 A8.out).mono ?_); (case side1 => exact mC (Kd.C_below HR0_1.out HB.out)); (case side2 => exact HC0_1.out); rintro e w10 ⟨rfl, hb⟩; have n0_ := Aside0.mk (Kd.R_below (mR HO_5.out) hb); have n1_ := Aside0.mk (blk_below (g := gb226) (o := .cells #[.int .i64 a0_0, .slice A0_1 l0_1.length c0_1] 28 (0, 0)) ((mK (BK226.out))) hb); have n2_ := Aside0.mk (below_step mG hb); clear HO_5 BK226 HB; have HO_5 := n0_; have BK226 := n1_; have HB := n2_; clear n0_ n1_ n2_; (try clear hb)))
    go_meet
    case rel => exact ⟨_, (t230), mF, H', ⟨by have := HK1.out; first | omega | exact Nat.le_refl _⟩, ⟨mR HO_5.out⟩, ⟨(mK (BK226.out))⟩, ⟨mG⟩⟩
   case rest =>
    clear HC6; (try clear c7b0); (try clear hcz11_0); (try clear hcz11_1); (try clear hcz9_0); (try clear hcz9_1); (try clear hfz11_0); (try clear hfz11_1); (try clear hfz9_0); (try clear hfz9_1)
    obtain ⟨kq, x16_5, rfl, HA, HJ5, HO_5, BK226, HB⟩ := hcut
    cases kq with
    | zero => exact absurd HA.out (by simp [spec_AttackersOf.j1])
    | succ kj5 =>
     have H := HA.out
     clear HA
     simp only [spec_AttackersOf.j1] at H
     by_cases c12 : x16_5 = true
     rotate_left
     ·
      replace c12 := Bool.eq_false_iff.mpr c12
      subst c12
      rw [if_neg (show ¬ (false = true) by decide)] at H
      obtain rfl := Option.some.inj H
      go_wp2
      go_ret
      exact ⟨_, mE, by (with_reducible repeat (first | apply Kd.R_alloc | apply Kd.R_drewN | apply Kd.R_drew)); exact HO_5.out, mG⟩
     subst c12
     rw [if_pos rfl] at H
     by_cases c13 : 0 ≤ x6_1
     rotate_left
     ·
      rw [if_neg c13] at H
      exact absurd H (by simp)
     rw [if_pos c13] at H
     have c13b0 : decide (0 ≤ x6_1) = true := decide_eq_true c13
     clear c13
     by_cases c14 : x6_1 < (l0_1.length : Int)
     rotate_left
     ·
      rw [if_neg c14] at H
      exact absurd H (by simp)
     rw [if_pos c14] at H
     have c14b0 : decide (x6_1 < (l0_1.length : Int)) = true := decide_eq_true c14
     clear c14
     by_cases c15 : 1 < ((rd_L1 l0_1 x6_1).length : Int)
     rotate_left
     ·
      rw [if_neg c15] at H
      exact absurd H (by simp)
     rw [if_pos c15] at H
     have c15b0 : decide (1 < ((rd_L1 l0_1 x6_1).length : Int)) = true := decide_eq_true c15
     have c15b1 : decide (1 < (rd_L1 l0_1 x6_1).length) = true := decide_eq_true (by omega)
     clear c15
     by_cases c16 : (rd (rd_L1 l0_1 x6_1) 1) = a1
     rotate_left
     ·
      rw [if_neg c16] at H
      have c16b0 : ((rd (rd_L1 l0_1 x6_1) 1) == a1) = false := beq_eq_false_iff_ne.mpr c16
      have c16b1 : ((rd (rd_L1 l0_1 x6_1) 1) != a1) = true := bne_iff_ne.mpr c16
      have H' := Aside0.mk H
      clear H
      have hcz21_0 : wc.cell? ⟨gb226, 0, none⟩ = some (.int .i64 a0_0) := (blk_cell BK226.out 0).trans rfl
      have hcz21_1 : wc.cell? ⟨gb226, 1, none⟩ = some (.slice A0_1 l0_1.length c0_1) := (blk_cell BK226.out 1).trans rfl
      have hfz21_0 := blk_frozen BK226.out 0
      have hfz21_1 := blk_frozen BK226.out 1
      have p231 : 0 ≤ (x6_1 : Int) := mD
      have q231 : x6_1 < (l0_1.length : Int) := mD
      obtain ⟨ad231, A231_0, c231_0, e231, hx231_0, hl231_0, hi231_0⟩ := at_L1 HR0_1.out x6_1 p231 q231
      cases e231
      replace hx231_0 := (HB.out.cell (World.block_lt_of_cell? w _ hx231_0)).trans hx231_0
      have HR231_0 := Aside0.mk hi231_0
      have HC231_0 := Aside0.mk hl231_0
      clear hi231_0 hl231_0
      replace p231 := eq_true p231
      replace q231 := eq_true q231
      have p232 : 0 ≤ (1 : Int) := (by omega)
      have q232 : 1 < ((rd_L1 l0_1 x6_1).length : Int) := mD
      obtain ⟨ad232, e232, hx232_0⟩ := Kd.at_int HR231_0.out 1 p232 q232
      cases e232
      (try simp only [show (1 : Int).toNat = 1 from rfl, Nat.reduceMul, Nat.reduceEqDiff, Go.Addr.add, ↓reduceIte] at hx232_0)
      have qi232 : (1 < (rd_L1 l0_1 x6_1).length) = True := eq_true (by omega)
      (try rw [show ((1 : Int)).toNat = 1 from rfl] at hx232_0)
      replace hx232_0 := (HB.out.cell (World.block_lt_of_cell? w _ hx232_0)).trans hx232_0
      replace p232 := eq_true p232
      replace q232 := eq_true q232
      go_wp2
      go_roundg kj5
      case measure => have := HK1.out; have := HJ5.out; omega
      case rel => exact ⟨(x5_1), (wrap64 (x6_1 + 1)), mF, H', ⟨by have := HK1.out; have := HJ5.out; omega⟩, ⟨mR HO_5.out⟩, ⟨(mK (BK226.out))⟩, ⟨mG⟩⟩
     rw [if_pos c16] at H
     have c16b0 : ((rd (rd_L1 l0_1 x6_1) 1) == a1) = true := beq_iff_eq.mpr c16
     have c16b1 : ((rd (rd_L1 l0_1 x6_1) 1) != a1) = false := bne_eq_false_iff_eq.mpr c16
     clear c16
     by_cases c17 : 0 < ((rd_L1 l0_1 x6_1).length : Int)
     rotate_left
     ·
      rw [if_neg c17] at H
      exact absurd H (by simp)
     rw [if_pos c17] at H
     have c17b0 : decide (0 < ((rd_L1 l0_1 x6_1).length : Int)) = true := decide_eq_true c17
     have c17b1 : decide (0 < (rd_L1 l0_1 x6_1).length) = true := decide_eq_true (by omega)
     clear c17
     by_cases c18 : x5_1.length < 17592186044416
     rotate_left
     ·
      rw [if_neg c18] at H
      exact absurd H (by simp)
     rw [if_pos c18] at H
     have LMc18 := Aside0.mk c18
     clear c18
     obtain ⟨y235, hy235⟩ : ∃ y_ : List Int, y_ = (x5_1 ++ [rd (rd_L1 l0_1 x6_1) 0]) := ⟨_, rfl⟩
     replace H : (spec_AttackersOf.l0 kj5 a1 y235 (wrap64 (x6_1 + 1)) a0_0 l0_1) = some r := by first | (rw [hy235]; with_reducible exact H) | (have H2_ := (Option.bind_some _ _).symm.trans H; rw [hy235]; with_reducible exact H2_) | (have H2_ := (Option.bind_some _ _).symm.trans H; with_reducible exact H2_) | with_reducible exact H | (rw [hy235]; exact H) | exact H
     have Ny235 := Aside0.mk hy235
     clear hy235
     have H' := Aside0.mk H
     clear H
     have hcz19_0 : wc.cell? ⟨gb226, 0, none⟩ = some (.int .i64 a0_0) := (blk_cell BK226.out 0).trans rfl
     have hcz19_1 : wc.cell? ⟨gb226, 1, none⟩ = some (.slice A0_1 l0_1.length c0_1) := (blk_cell BK226.out 1).trans rfl
     have hfz19_0 := blk_frozen BK226.out 0
     have hfz19_1 := blk_frozen BK226.out 1
     have p231 : 0 ≤ (x6_1 : Int) := mD
     have q231 : x6_1 < (l0_1.length : Int) := mD
     obtain ⟨ad231, A231_0, c231_0, e231, hx231_0, hl231_0, hi231_0⟩ := at_L1 HR0_1.out x6_1 p231 q231
     cases e231
     replace hx231_0 := (HB.out.cell (World.block_lt_of_cell? w _ hx231_0)).trans hx231_0
     have HR231_0 := Aside0.mk hi231_0
     have HC231_0 := Aside0.mk hl231_0
     clear hi231_0 hl231_0
     replace p231 := eq_true p231
     replace q231 := eq_true q231
     have p232 : 0 ≤ (1 : Int) := (by omega)
     have q232 : 1 < ((rd_L1 l0_1 x6_1).length : Int) := mD
     obtain ⟨ad232, e232, hx232_0⟩ := Kd.at_int HR231_0.out 1 p232 q232
     cases e232
     (try simp only [show (1 : Int).toNat = 1 from rfl, Nat.reduceMul, Nat.reduceEqDiff, Go.Addr.add, ↓reduceIte] at hx232_0)
     have qi232 : (1 < (rd_L1 l0_1 x6_1).length) = True := eq_true (by omega)
     (try rw [show ((1 : Int)).toNat = 1 from rfl] at hx232_0)
     replace hx232_0 := (HB.out.cell (World.block_lt_of_cell? w _ hx232_0)).trans hx232_0
     replace p232 := eq_true p232
     replace q232 := eq_true q232
     have p233 : 0 ≤ (x6_1 : Int) := mD
     have q233 : x6_1 < (l0_1.length : Int) := mD
     obtain ⟨ad233, A233_0, c233_0, e233, hx233_0, hl233_0, hi233_0⟩ := at_L1 HR0_1.out x6_1 p233 q233
     obtain rfl : ad231 = ad233 := (by injection e233)
     replace hx233_0 := (HB.out.cell (World.block_lt_of_cell? w _ hx233_0)).trans hx233_0
     have HR233_0 := Aside0.mk hi233_0
     have HC233_0 := Aside0.mk hl233_0
     clear hi233_0 hl233_0
     replace p233 := eq_true p233
     replace q233 := eq_true q233
     have ea_ := Option.some.inj (hx231_0.symm.trans hx233_0)
     injection ea_ with ea_ en_ ec_
     subst ea_
     subst ec_
     clear en_
     have p234 : 0 ≤ (0 : Int) := (by omega)
     have q234 : 0 < ((rd_L1 l0_1 x6_1).length : Int) := mD
     obtain ⟨ad234, e234, hx234_0⟩ := Kd.at_int HR233_0.out 0 p234 q234
     cases e234
     have qi234 : (0 < (rd_L1 l0_1 x6_1).length) = True := eq_true (by omega)
     (try rw [show ((0 : Int)).toNat = 0 from rfl] at hx234_0)
     (try rw [Addr.add_zero'] at hx234_0)
     replace hx234_0 := (HB.out.cell (World.block_lt_of_cell? w _ hx234_0)).trans hx234_0
     replace p234 := eq_true p234
     replace q234 := eq_true q234
     go_wp2_with (first | ((with_reducible refine gate_builtin (b := .append) (xs := #[.tmp 28, .tmp 36]) rfl ?_); at_builtin; refine Kd.R_append (Kd.int .i64) (w0 := w) w.heap.size rfl (.tmp 28) (.tmp 36) 25 3 (.int .i64 0) 8 rfl Try.underlying25 info3 rfl (by decide) (by omega) u5 x5_1 (rd (rd_L1 l0_1 x6_1) 0) [.int .i64 (rd (rd_L1 l0_1 x6_1) 0)] (fun _ => True) (fun _ => False) rfl rfl ?aP (fun _ hk => hk.elim) ?aF ?aO ?aB ?aS ?aL ?_; (case aP => exact rfl); (case aB => exact mG); (case aF => exact (fun _ _ => trivial)); (case aO => exact (mR HO_5.out)); (case aS => exact (below_size mG)); (case aL => have := LMc18.out; omega); intro v236 w20 ho hb hg hat; rw [← Ny235.out] at ho; have n0_ := Aside0.mk (blk_grown (g := gb226) (o := .cells #[.int .i64 a0_0, .slice (some ad231) l0_1.length c0_1] 28 (0, 0)) ((mK (BK226.out))) hg (Kd.R_ne HO_5.out BK226.out (by decide))); have n1_ := Aside0.mk (hb); have n2_ := Aside0.mk (ho); clear BK226 HB HO_5; have BK226 := n0_; have HB := n1_; have HO237 := n2_; clear n0_ n1_ n2_; clear ho hb hg hat))
     go_roundg kj5
     case measure => have := HK1.out; have := HJ5.out; omega
     case rel => exact ⟨(y235), (wrap64 (x6_1 + 1)), mF, H', ⟨by have := HK1.out; have := HJ5.out; omega⟩, ⟨mR HO237.out⟩, ⟨(mK (BK226.out))⟩, ⟨mG⟩⟩
/-! ### spec_Defends: function 34 -/
mutual
def spec_Defends.j0 : Nat → List Int → Int → Bool → Int → List (List Int) → Option (Bool)
 | 0, _, _, _, _, _ => none
 | k + 1, x1, x2, x21, x239000, x239001 => if x21 = true then (some false) else ((spec_HitBy.f k x239000 x239001 x1).bind fun t241 => ((spec_AttackersOf.f k x239000 x239001 x2).bind fun t244 => (spec_Defends.l0 k t241 t244 0)))
def spec_Defends.l0 : Nat → List Int → List Int → Int → Option (Bool)
 | 0, _, _, _ => none
 | k + 1, x7, x8, x9 => if x9 < (x8.length : Int) then (if 0 ≤ x9 then ((spec_l4Has.f k x7 (rd x8 x9)).bind fun t248 => (if t248 = true then (spec_Defends.l0 k x7 x8 (wrap64 (x9 + 1))) else (some false))) else (none)) else (some true)
end
def spec_Defends.f (k : Nat) (a0_0 : Int) (l0_1 : List (List Int)) (l1 : List Int) (a2 : Int) : Option (Bool) := (spec_IsSet.f k a0_0 l0_1 l1).bind fun t239 => (if t239 = true then ((spec_l1In.f a2 0 (wrap64 (a0_0 - 1))).bind fun t240 => (spec_Defends.j0 k l1 a2 (!t240) a0_0 l0_1)) else (spec_Defends.j0 k l1 a2 true a0_0 l0_1))
theorem spec_Defends.mono_l : ∀ k, (∀ y0 y1 y2 y3 y4, LeO (spec_Defends.j0 k y0 y1 y2 y3 y4) (spec_Defends.j0 (k + 1) y0 y1 y2 y3 y4)) ∧ (∀ y0 y1 y2, LeO (spec_Defends.l0 k y0 y1 y2) (spec_Defends.l0 (k + 1) y0 y1 y2))
 | 0 => ⟨fun _ _ _ _ _ r h => by simp [spec_Defends.j0] at h, fun _ _ _ r h => by simp [spec_Defends.l0] at h⟩
 | k + 1 => by
  obtain ⟨ih0, ih1⟩ := spec_Defends.mono_l k
  refine ⟨?_, ?_⟩
  ·
   intro y0 y1 y2 y3 y4
   unfold spec_Defends.j0
   repeat' with_reducible first | exact ih0 _ _ _ _ _ | exact ih1 _ _ _ | exact spec_AttackersOf.mono _ _ _ _ | exact spec_HitBy.mono _ _ _ _ | exact spec_IsSet.mono _ _ _ _ | exact spec_l4Has.mono _ _ _ | exact LeO.refl _ | exact LeO.none _ | refine LeO.ite ?_ ?_ | refine LeO.bind ?_ (fun _ => ?_)
  ·
   intro y0 y1 y2
   unfold spec_Defends.l0
   repeat' with_reducible first | exact ih0 _ _ _ _ _ | exact ih1 _ _ _ | exact spec_AttackersOf.mono _ _ _ _ | exact spec_HitBy.mono _ _ _ _ | exact spec_IsSet.mono _ _ _ _ | exact spec_l4Has.mono _ _ _ | exact LeO.refl _ | exact LeO.none _ | refine LeO.ite ?_ ?_ | refine LeO.bind ?_ (fun _ => ?_)
theorem spec_Defends.mono : ∀ a0 a1 a2 a3 k, LeO (spec_Defends.f k a0 a1 a2 a3) (spec_Defends.f (k + 1) a0 a1 a2 a3) := by
 intro a0 a1 a2 a3 k
 obtain ⟨ih0, ih1⟩ := spec_Defends.mono_l k
 unfold spec_Defends.f
 repeat' with_reducible first | exact ih0 _ _ _ _ _ | exact ih1 _ _ _ | exact spec_AttackersOf.mono _ _ _ _ | exact spec_HitBy.mono _ _ _ _ | exact spec_IsSet.mono _ _ _ _ | exact spec_l4Has.mono _ _ _ | exact LeO.refl _ | exact LeO.none _ | refine LeO.ite ?_ ?_ | refine LeO.bind ?_ (fun _ => ?_)
set_option maxHeartbeats 8000000 in
set_option maxRecDepth 100000 in
theorem spec_Defends.calls (k : Nat) (a0_0 : Int) (A0_1 : Option Addr) (c0_1 : Nat) (l0_1 : List (List Int)) (A1 : Option Addr) (c1 : Nat) (l1 : List Int) (a2 : Int) (r : Bool) (w : World) (hr0_1 : Kd.C (Kd.slice 3 (Kd.int .i64)) w A0_1 l0_1.length l0_1) (hc0_1 : l0_1.length ≤ c0_1) (hr1 : Kd.C (Kd.int .i64) w A1 l1.length l1) (hc1 : l1.length ≤ c1) (h : spec_Defends.f k a0_0 l0_1 l1 a2 = some r) :
  Calls Try.prog 34 #[.agg #[.int .i64 a0_0, .slice A0_1 l0_1.length c0_1], .slice A1 l1.length c1, .int .i64 a2] w fun e w' => e = .returned (.bool r) ∧ Below w.heap.size w w' := by
 have hu28 := Try.underlying28
 have HR0_1 := Aside0.mk hr0_1
 have HC0_1 := Aside0.mk hc0_1
 clear hr0_1 hc0_1
 have HR1 := Aside0.mk hr1
 have HC1 := Aside0.mk hc1
 clear hr1 hc1
 have HB := Aside0.mk (Below.refl w.heap.size w)
 have H : ((spec_IsSet.f k a0_0 l0_1 l1).bind fun t239 => (if t239 = true then ((spec_l1In.f a2 0 (wrap64 (a0_0 - 1))).bind fun t240 => (spec_Defends.j0 k l1 a2 (!t240) a0_0 l0_1)) else (spec_Defends.j0 k l1 a2 true a0_0 l0_1))) = some r := h
 clear h
 have HC4 := Aside0.mk H
 clear H
 go_enter Try.func34, Try.ntmps34
 go_upto_region 1 with (first | ((with_reducible refine gate_dst (N := 3) rfl ?_); refine box_event ?hg (N := 3) ?hd (cs := #[.int .i64 a0_0, .slice A0_1 l0_1.length c0_1]) (t := 28) ?hr ?_; (case hd => rfl); (case hg => rfl); (case hr => first | (go_simp; done) | (go_simp; rfl)); intro gb238 hg w5 hbox hb; have n0_ := Aside0.mk (below_step (mB HB.out) hb); have n1_ := Aside0.mk (hbox); have n2_ := Aside0.mk ((by rw [hg]; exact (below_size (mB HB.out)) : w.heap.size ≤ gb238)); have n3_ := Aside0.mk ((by rw [hg]; exact (below_size (mB HB.out)) : w.heap.size ≤ gb238)); clear HB; have HB := n0_; have BK238 := n1_; have GW238 := n2_; have GE238 := n3_; clear n0_ n1_ n2_ n3_; clear hb hbox hg))
 (try simp only [Act.put, List.setIfInBounds_toArray, List.set_cons_zero, List.set_cons_succ])
 go_cut [21] (fun v21 wc => ∃ (kq : Nat) (x21_3 : Bool), v21 = .bool x21_3 ∧ Aside0 (spec_Defends.j0 kq l1 a2 x21_3 a0_0 l0_1 = some r) ∧ Aside0 (kq ≤ k) ∧ Aside0 (wc.heap[gb238]? = some (.cells #[.int .i64 a0_0, (.slice A0_1 l0_1.length c0_1)] 28 (0, 0))) ∧ Aside0 (Below w.heap.size w wc))
 case first =>
  have H := HC4.out
  clear HC4
  replace H := Option.bind_eq_some_iff.mp H
  obtain ⟨t239, A60, H⟩ := H
  have A6 := Aside0.mk A60
  clear A60
  by_cases c7 : t239 = true
  rotate_left
  ·
   replace c7 := Bool.eq_false_iff.mpr c7
   subst c7
   rw [if_neg (show ¬ (false = true) by decide)] at H
   have H' := Aside0.mk H
   clear H
   have hcz12_0 : w5.cell? ⟨gb238, 0, none⟩ = some (.int .i64 a0_0) := (blk_cell BK238.out 0).trans rfl
   have hcz12_1 : w5.cell? ⟨gb238, 1, none⟩ = some (.slice A0_1 l0_1.length c0_1) := (blk_cell BK238.out 1).trans rfl
   have hfz12_0 := blk_frozen BK238.out 0
   have hfz12_1 := blk_frozen BK238.out 1
   go_wp2_with (first | ((with_reducible refine gate_callee (f := 83) rfl ?_); refine goesL_ (some 12) rfl rfl Try.func83 (by kernel_rfl) rfl #[.agg #[.int .i64 a0_0, .slice A0_1 l0_1.length c0_1], .slice A1 l1.length c1] rfl mA ?_; (with_reducible refine (spec_IsSet.calls k a0_0 _ _ l0_1 _ _ l1 false _ ?side1 ?side2 ?side3 ?side4 A6.out).mono ?_); (case side1 => exact mC (Kd.C_below HR0_1.out HB.out)); (case side2 => exact HC0_1.out); (case side3 => exact mC (Kd.C_below HR1.out HB.out)); (case side4 => exact HC1.out); rintro e w13 ⟨rfl, hb⟩; refine ⟨_, rfl, ?_⟩; have n0_ := Aside0.mk (blk_below (g := gb238) (o := .cells #[.int .i64 a0_0, .slice A0_1 l0_1.length c0_1] 28 (0, 0)) ((mK (BK238.out))) hb); have n1_ := Aside0.mk (below_step mG hb); clear BK238 HB; have BK238 := n0_; have HB := n1_; clear n0_ n1_; (try clear hb)))
   go_meet
   case rel => exact ⟨_, (true), mF, H', ⟨by first | omega | exact Nat.le_refl _⟩, ⟨(mK (BK238.out))⟩, ⟨mG⟩⟩
  subst c7
  rw [if_pos rfl] at H
  replace H := Option.bind_eq_some_iff.mp H
  obtain ⟨t240, A80, H⟩ := H
  have A8 := Aside0.mk A80
  clear A80
  have H' := Aside0.mk H
  clear H
  have hcz9_0 : w5.cell? ⟨gb238, 0, none⟩ = some (.int .i64 a0_0) := (blk_cell BK238.out 0).trans rfl
  have hcz9_1 : w5.cell? ⟨gb238, 1, none⟩ = some (.slice A0_1 l0_1.length c0_1) := (blk_cell BK238.out 1).trans rfl
  have hfz9_0 := blk_frozen BK238.out 0
  have hfz9_1 := blk_frozen BK238.out 1
  go_wp2_with (first | ((with_reducible refine gate_callee (f := 83) rfl ?_); refine goesL_ (some 12) rfl rfl Try.func83 (by kernel_rfl) rfl #[.agg #[.int .i64 a0_0, .slice A0_1 l0_1.length c0_1], .slice A1 l1.length c1] rfl mA ?_; (with_reducible refine (spec_IsSet.calls k a0_0 _ _ l0_1 _ _ l1 true _ ?side1 ?side2 ?side3 ?side4 A6.out).mono ?_); (case side1 => exact mC (Kd.C_below HR0_1.out HB.out)); (case side2 => exact HC0_1.out); (case side3 => exact mC (Kd.C_below HR1.out HB.out)); (case side4 => exact HC1.out); rintro e w10 ⟨rfl, hb⟩; refine ⟨_, rfl, ?_⟩; have n0_ := Aside0.mk (blk_below (g := gb238) (o := .cells #[.int .i64 a0_0, .slice A0_1 l0_1.length c0_1] 28 (0, 0)) ((mK (BK238.out))) hb); have n1_ := Aside0.mk (below_step mG hb); clear BK238 HB; have BK238 := n0_; have HB := n1_; clear n0_ n1_; (try clear hb); have hcz11_0 : w10.cell? ⟨gb238, 0, none⟩ = some (.int .i64 a0_0) := (blk_cell BK238.out 0).trans rfl; have hcz11_1 : w10.cell? ⟨gb238, 1, none⟩ = some (.slice A0_1 l0_1.length c0_1) := (blk_cell BK238.out 1).trans rfl; have hfz11_0 := blk_frozen BK238.out 0; have hfz11_1 := blk_frozen BK238.out 1) | (go_at_call 85; (with_reducible refine (spec_l1In.calls a2 0 (wrap64 (a0_0 - 1)) t240 _ A8.out).mono ?_); rintro e w' ⟨rfl, ⟨nd, rfl⟩⟩))
  go_meet
  case rel => exact ⟨_, (!t240), mF, H', ⟨by first | omega | exact Nat.le_refl _⟩, ⟨(mK (BK238.out))⟩, ⟨mG⟩⟩
 case rest =>
  clear HC4; (try clear hcz11_0); (try clear hcz11_1); (try clear hcz12_0); (try clear hcz12_1); (try clear hcz9_0); (try clear hcz9_1); (try clear hfz11_0); (try clear hfz11_1); (try clear hfz12_0); (try clear hfz12_1); (try clear hfz9_0); (try clear hfz9_1)
  obtain ⟨kq, x21_3, rfl, HA, HJ3, BK238, HB⟩ := hcut
  cases kq with
  | zero => exact absurd HA.out (by simp [spec_Defends.j0])
  | succ kj3 =>
   have H := HA.out
   clear HA
   simp only [spec_Defends.j0] at H
   by_cases c14 : x21_3 = true
   ·
    subst c14
    rw [if_pos rfl] at H
    obtain rfl := Option.some.inj H
    go_wp2
    go_ret
    exact ⟨mE, mG⟩
   replace c14 := Bool.eq_false_iff.mpr c14
   subst c14
   rw [if_neg (show ¬ (false = true) by decide)] at H
   replace H := Option.bind_eq_some_iff.mp H
   obtain ⟨t241, A150, H⟩ := H
   have A15 := Aside0.mk A150
   clear A150
   replace H := Option.bind_eq_some_iff.mp H
   obtain ⟨t244, A160, H⟩ := H
   have A16 := Aside0.mk A160
   clear A160
   have H' := Aside0.mk H
   clear H
   have hcz17_0 : wc.cell? ⟨gb238, 0, none⟩ = some (.int .i64 a0_0) := (blk_cell BK238.out 0).trans rfl
   have hcz17_1 : wc.cell? ⟨gb238, 1, none⟩ = some (.slice A0_1 l0_1.length c0_1) := (blk_cell BK238.out 1).trans rfl
   have hfz17_0 := blk_frozen BK238.out 0
   have hfz17_1 := blk_frozen BK238.out 1
   go_wp2_with (first | ((with_reducible refine gate_callee (f := 21) rfl ?_); refine goesL_ (some 24) rfl rfl Try.func21 (by kernel_rfl) rfl #[.agg #[.int .i64 a0_0, .slice A0_1 l0_1.length c0_1], .slice A1 l1.length c1] rfl mA ?_; (with_reducible refine (spec_HitBy.calls kj3 a0_0 _ _ l0_1 _ _ l1 t241 _ ?side1 ?side2 ?side3 ?side4 A15.out).mono ?_); (case side1 => exact mC (Kd.C_below HR0_1.out HB.out)); (case side2 => exact HC0_1.out); (case side3 => exact mC (Kd.C_below HR1.out HB.out)); (case side4 => exact HC1.out); rintro e w18 ⟨v242, rfl, ho0, hb⟩; refine ⟨_, rfl, ?_⟩; have n0_ := Aside0.mk (Kd.R_lower ho0 (below_size mG)); have n1_ := Aside0.mk (blk_below (g := gb238) (o := .cells #[.int .i64 a0_0, .slice A0_1 l0_1.length c0_1] 28 (0, 0)) ((mK (BK238.out))) hb); have n2_ := Aside0.mk (below_step mG hb); clear BK238 HB; have HO243 := n0_; have BK238 := n1_; have HB := n2_; clear n0_ n1_ n2_; (try clear hb); (try clear ho0); have hcz19_0 : w18.cell? ⟨gb238, 0, none⟩ = some (.int .i64 a0_0) := (blk_cell BK238.out 0).trans rfl; have hcz19_1 : w18.cell? ⟨gb238, 1, none⟩ = some (.slice A0_1 l0_1.length c0_1) := (blk_cell BK238.out 1).trans rfl; have hfz19_0 := blk_frozen BK238.out 0; have hfz19_1 := blk_frozen BK238.out 1) | ((with_reducible refine gate_callee (f := 86) rfl ?_); refine goesL_ (some 27) rfl rfl Try.func86 (by kernel_rfl) rfl #[.agg #[.int .i64 a0_0, .slice A0_1 l0_1.length c0_1], .int .i64 a2] rfl mA ?_; (with_reducible refine (spec_AttackersOf.calls kj3 a0_0 _ _ l0_1 a2 t244 _ ?side1 ?side2 A16.out).mono ?_); (case side1 => exact mC (Kd.C_below HR0_1.out HB.out)); (case side2 => exact HC0_1.out); rintro e w20 ⟨v245, rfl, ho0, hb⟩; refine ⟨_, rfl, ?_⟩; have n0_ := Aside0.mk (Kd.R_elder' (mR HO243.out) (Kd.R_base ho0) hb); have n1_ := Aside0.mk (Kd.R_lower (Kd.R_new' ho0 (Kd.R_lt (mR HO243.out))) (below_size mG)); have n2_ := Aside0.mk (blk_below (g := gb238) (o := .cells #[.int .i64 a0_0, .slice A0_1 l0_1.length c0_1] 28 (0, 0)) ((mK (BK238.out))) hb); have n3_ := Aside0.mk (below_step mG hb); clear HO243 BK238 HB; have HO243 := n0_; have HO246 := n1_; have BK238 := n2_; have HB := n3_; clear n0_ n1_ n2_ n3_; (try clear hb); (try clear ho0)))
   go_loopg [9] kj3 (fun kq v9 w' => ∃ (x9_2 : Int), v9 = .int .i64 x9_2 ∧ Aside0 (spec_Defends.l0 kq t241 t244 x9_2 = some r) ∧ Aside0 (kq ≤ kj3) ∧ Aside0 (Kd.R (Kd.int .i64) 3 w' w.heap.size (fun k_ => some k_ ≠ (v245 : Value).ownBlock) v242 t241) ∧ Aside0 (Kd.R (Kd.int .i64) 3 w' w.heap.size (fun k_ => some k_ ≠ (v242 : Value).ownBlock) v245 t244) ∧ Aside0 (w'.heap[gb238]? = some (.cells #[.int .i64 a0_0, (.slice A0_1 l0_1.length c0_1)] 28 (0, 0))) ∧ Aside0 (Below w.heap.size w w'))
   case atStart => exact ⟨(0), mF, H', ⟨Nat.le_refl _⟩, ⟨by (with_reducible repeat (first | apply Kd.R_alloc | apply Kd.R_drewN | apply Kd.R_drew)); exact Kd.R_mono HO243.out (fun _ hk => hk.2)⟩, ⟨by (with_reducible repeat (first | apply Kd.R_alloc | apply Kd.R_drewN | apply Kd.R_drew)); exact Kd.R_mono HO246.out (fun _ hk => hk.2)⟩, ⟨(mK (BK238.out))⟩, ⟨mG⟩⟩
   case round =>
    clear H'
    (try clear hcz11_0); (try clear hcz11_1); (try clear hcz12_0); (try clear hcz12_1); (try clear hcz17_0); (try clear hcz17_1); (try clear hcz19_0); (try clear hcz19_1); (try clear hcz9_0); (try clear hcz9_1); (try clear hfz11_0); (try clear hfz11_1); (try clear hfz12_0); (try clear hfz12_1); (try clear hfz17_0); (try clear hfz17_1); (try clear hfz19_0); (try clear hfz19_1); (try clear hfz9_0); (try clear hfz9_1)
    obtain ⟨x9_2, rfl, HA, HK2, HO_7, HO_8, BK238, HB⟩ := hrel
    cases gk with
    | zero => exact absurd HA.out (by simp [spec_Defends.l0])
    | succ k2 =>
     have H := HA.out
     clear HA
     simp only [spec_Defends.l0] at H
     by_cases c21 : x9_2 < (t244.length : Int)
     rotate_left
     ·
      rw [if_neg c21] at H
      have c21b0 : decide (x9_2 < (t244.length : Int)) = false := decide_eq_false c21
      clear c21
      obtain rfl := Option.some.inj H
      obtain ⟨Ao29, co29, eo29⟩ := Kd.R_slice HO_8.out
      subst eo29
      go_wp2
      go_ret
      exact ⟨mE, mG⟩
     rw [if_pos c21] at H
     have c21b0 : decide (x9_2 < (t244.length : Int)) = true := decide_eq_true c21
     clear c21
     by_cases c22 : 0 ≤ x9_2
     rotate_left
     ·
      rw [if_neg c22] at H
      exact absurd H (by simp)
     rw [if_pos c22] at H
     have c22b0 : decide (0 ≤ x9_2) = true := decide_eq_true c22
     clear c22
     replace H := Option.bind_eq_some_iff.mp H
     obtain ⟨t248, A230, H⟩ := H
     have A23 := Aside0.mk A230
     clear A230
     by_cases c24 : t248 = true
     rotate_left
     ·
      replace c24 := Bool.eq_false_iff.mpr c24
      subst c24
      rw [if_neg (show ¬ (false = true) by decide)] at H
      obtain rfl := Option.some.inj H
      obtain ⟨Ao27, co27, eo27⟩ := Kd.R_slice HO_8.out
      subst eo27
      have p247 : 0 ≤ (x9_2 : Int) := mD
      have q247 : x9_2 < (t244.length : Int) := mD
      obtain ⟨ad247, e247, hx247_0⟩ := Kd.at_int (Kd.R_reads' HO_8.out).2.2 x9_2 p247 q247
      cases e247
      replace p247 := eq_true p247
      replace q247 := eq_true q247
      obtain ⟨Ao28, co28, eo28⟩ := Kd.R_slice HO_7.out
      subst eo28
      go_wp2_with (first | ((with_reducible refine gate_callee (f := 79) rfl ?_); refine goesL_ (some 39) rfl rfl Try.func79 (by kernel_rfl) rfl #[.slice Ao28 t241.length co28, .int .i64 (rd t244 x9_2)] rfl mA ?_; (with_reducible refine (spec_l4Has.calls k2 _ _ t241 (rd t244 x9_2) false _ ?side1 ?side2 A23.out).mono ?_); (case side1 => exact mC (Kd.R_reads' HO_7.out).2.2); (case side2 => exact (Kd.R_reads' HO_7.out).2.1); rintro e w' ⟨rfl, ⟨nd, rfl⟩⟩; refine ⟨_, rfl, ?_⟩))
      go_ret
      exact ⟨mE, mG⟩
     subst c24
     rw [if_pos rfl] at H
     have H' := Aside0.mk H
     clear H
     obtain ⟨Ao25, co25, eo25⟩ := Kd.R_slice HO_8.out
     subst eo25
     have p247 : 0 ≤ (x9_2 : Int) := mD
     have q247 : x9_2 < (t244.length : Int) := mD
     obtain ⟨ad247, e247, hx247_0⟩ := Kd.at_int (Kd.R_reads' HO_8.out).2.2 x9_2 p247 q247
     cases e247
     replace p247 := eq_true p247
     replace q247 := eq_true q247
     obtain ⟨Ao26, co26, eo26⟩ := Kd.R_slice HO_7.out
     subst eo26
     go_wp2_with (first | ((with_reducible refine gate_callee (f := 79) rfl ?_); refine goesL_ (some 39) rfl rfl Try.func79 (by kernel_rfl) rfl #[.slice Ao26 t241.length co26, .int .i64 (rd t244 x9_2)] rfl mA ?_; (with_reducible refine (spec_l4Has.calls k2 _ _ t241 (rd t244 x9_2) true _ ?side1 ?side2 A23.out).mono ?_); (case side1 => exact mC (Kd.R_reads' HO_7.out).2.2); (case side2 => exact (Kd.R_reads' HO_7.out).2.1); rintro e w' ⟨rfl, ⟨nd, rfl⟩⟩; refine ⟨_, rfl, ?_⟩))
     go_roundg k2
     case measure => have := HJ3.out; have := HK2.out; omega
     case rel => exact ⟨(wrap64 (x9_2 + 1)), mF, H', ⟨by have := HJ3.out; have := HK2.out; omega⟩, ⟨mR HO_7.out⟩, ⟨mR HO_8.out⟩, ⟨(mK (BK238.out))⟩, ⟨mG⟩⟩
/-! ### spec_IsAdmissible: function 36 -/
def spec_IsAdmissible.l0 : Nat → List Int → Int → Int → List (List Int) → Option (Bool)
 | 0, _, _, _, _ => none
 | k + 1, x1, x5, x250000, x250001 => if x5 < (x1.length : Int) then (if 0 ≤ x5 then ((spec_Defends.f k x250000 x250001 x1 (rd x1 x5)).bind fun t251 => (if t251 = true then (spec_IsAdmissible.l0 k x1 (wrap64 (x5 + 1)) x250000 x250001) else (some false))) else (none)) else ((spec_IsFree.f k x250000 x250001 x1).bind fun t252 => (some t252))
def spec_IsAdmissible.f (k : Nat) (a0_0 : Int) (l0_1 : List (List Int)) (l1 : List Int) : Option (Bool) := spec_IsAdmissible.l0 k l1 0 a0_0 l0_1
theorem spec_IsAdmissible.mono_l : ∀ k, (∀ y0 y1 y2 y3, LeO (spec_IsAdmissible.l0 k y0 y1 y2 y3) (spec_IsAdmissible.l0 (k + 1) y0 y1 y2 y3))
 | 0 => fun _ _ _ _ r h => by simp [spec_IsAdmissible.l0] at h
 | k + 1 => by
  have ih0 := spec_IsAdmissible.mono_l k
  ·
   intro y0 y1 y2 y3
   unfold spec_IsAdmissible.l0
   repeat' with_reducible first | exact ih0 _ _ _ _ | exact spec_Defends.mono _ _ _ _ _ | exact spec_IsFree.mono _ _ _ _ | exact LeO.refl _ | exact LeO.none _ | refine LeO.ite ?_ ?_ | refine LeO.bind ?_ (fun _ => ?_)
theorem spec_IsAdmissible.mono : ∀ a0 a1 a2 k, LeO (spec_IsAdmissible.f k a0 a1 a2) (spec_IsAdmissible.f (k + 1) a0 a1 a2) := by
 intro a0 a1 a2 k
 have ih0 := spec_IsAdmissible.mono_l k
 unfold spec_IsAdmissible.f
 repeat' with_reducible first | exact ih0 _ _ _ _ | exact spec_Defends.mono _ _ _ _ _ | exact spec_IsFree.mono _ _ _ _ | exact LeO.refl _ | exact LeO.none _ | refine LeO.ite ?_ ?_ | refine LeO.bind ?_ (fun _ => ?_)
def spec_IsAdmissible.T4 : Bool × List (List Nat × List Nat) := (true, [([], []), ([], []), ([], []), ([], []), ([2, 3], [2, 3]), ([4], [4]), ([0, 1, 5], [0, 1, 5]), ([6], [6])])
def spec_IsAdmissible.B4 : List Nat := [0, 0, 0, 0, 12, 28, 63, 127]
theorem spec_IsAdmissible.tab4 : rtab .any (opsOf Try.f36 4) = spec_IsAdmissible.T4 := by kernel_rfl
theorem spec_IsAdmissible.bits4 : waitsOk spec_IsAdmissible.T4.2 spec_IsAdmissible.B4 = true := by kernel_rfl
set_option maxHeartbeats 8000000 in
set_option maxRecDepth 100000 in
theorem spec_IsAdmissible.calls (k : Nat) (a0_0 : Int) (A0_1 : Option Addr) (c0_1 : Nat) (l0_1 : List (List Int)) (A1 : Option Addr) (c1 : Nat) (l1 : List Int) (r : Bool) (w : World) (hr0_1 : Kd.C (Kd.slice 3 (Kd.int .i64)) w A0_1 l0_1.length l0_1) (hc0_1 : l0_1.length ≤ c0_1) (hr1 : Kd.C (Kd.int .i64) w A1 l1.length l1) (hc1 : l1.length ≤ c1) (h : spec_IsAdmissible.f k a0_0 l0_1 l1 = some r) :
  Calls Try.prog 36 #[.agg #[.int .i64 a0_0, .slice A0_1 l0_1.length c0_1], .slice A1 l1.length c1] w fun e w' => e = .returned (.bool r) ∧ Below w.heap.size w w' := by
 have hu28 := Try.underlying28
 have HR0_1 := Aside0.mk hr0_1
 have HC0_1 := Aside0.mk hc0_1
 clear hr0_1 hc0_1
 have HR1 := Aside0.mk hr1
 have HC1 := Aside0.mk hc1
 clear hr1 hc1
 have HB := Aside0.mk (Below.refl w.heap.size w)
 have H : (spec_IsAdmissible.l0 k l1 0 a0_0 l0_1) = some r := h
 clear h
 have H' := Aside0.mk H
 clear H
 go_enter Try.func36, Try.ntmps36
 go_wp2_with (first | ((with_reducible refine gate_dst (N := 2) rfl ?_); refine box_event ?hg (N := 2) ?hd (cs := #[.int .i64 a0_0, .slice A0_1 l0_1.length c0_1]) (t := 28) ?hr ?_; (case hd => rfl); (case hg => rfl); (case hr => first | (go_simp; done) | (go_simp; rfl)); intro gb249 hg w3 hbox hb; have n0_ := Aside0.mk (below_step (mB HB.out) hb); have n1_ := Aside0.mk (hbox); have n2_ := Aside0.mk ((by rw [hg]; exact (below_size (mB HB.out)) : w.heap.size ≤ gb249)); have n3_ := Aside0.mk ((by rw [hg]; exact (below_size (mB HB.out)) : w.heap.size ≤ gb249)); clear HB; have HB := n0_; have BK249 := n1_; have GW249 := n2_; have GE249 := n3_; clear n0_ n1_ n2_ n3_; clear hb hbox hg))
 go_loopg [5] k (fun kq v5 w' => ∃ (x5_1 : Int), v5 = .int .i64 x5_1 ∧ Aside0 (spec_IsAdmissible.l0 kq l1 x5_1 a0_0 l0_1 = some r) ∧ Aside0 (kq ≤ k) ∧ Aside0 (w'.heap[gb249]? = some (.cells #[.int .i64 a0_0, (.slice A0_1 l0_1.length c0_1)] 28 (0, 0))) ∧ Aside0 (Below w.heap.size w w'))
 case atStart => exact ⟨(0), mF, H', ⟨Nat.le_refl _⟩, ⟨(mK (BK249.out))⟩, ⟨mG⟩⟩
 case round =>
  clear H'
  obtain ⟨x5_1, rfl, HA, HK1, BK249, HB⟩ := hrel
  cases gk with
  | zero => exact absurd HA.out (by simp [spec_IsAdmissible.l0])
  | succ k1 =>
   have H := HA.out
   clear HA
   simp only [spec_IsAdmissible.l0] at H
   by_cases c4 : x5_1 < (l1.length : Int)
   rotate_left
   ·
    rw [if_neg c4] at H
    have c4b0 : decide (x5_1 < (l1.length : Int)) = false := decide_eq_false c4
    clear c4
    replace H := Option.bind_eq_some_iff.mp H
    obtain ⟨t252, A120, H⟩ := H
    have A12 := Aside0.mk A120
    clear A120
    obtain rfl := Option.some.inj H
    have hcz13_0 : wr.cell? ⟨gb249, 0, none⟩ = some (.int .i64 a0_0) := (blk_cell BK249.out 0).trans rfl
    have hcz13_1 : wr.cell? ⟨gb249, 1, none⟩ = some (.slice A0_1 l0_1.length c0_1) := (blk_cell BK249.out 1).trans rfl
    have hfz13_0 := blk_frozen BK249.out 0
    have hfz13_1 := blk_frozen BK249.out 1
    go_wp2_with (first | ((with_reducible refine gate_callee (f := 30) rfl ?_); refine goesL_ (some 22) rfl rfl Try.func30 (by kernel_rfl) rfl #[.agg #[.int .i64 a0_0, .slice A0_1 l0_1.length c0_1], .slice A1 l1.length c1] rfl mA ?_; (with_reducible refine (spec_IsFree.calls k1 a0_0 _ _ l0_1 _ _ l1 t252 _ ?side1 ?side2 ?side3 ?side4 A12.out).mono ?_); (case side1 => exact mC (Kd.C_below HR0_1.out HB.out)); (case side2 => exact HC0_1.out); (case side3 => exact mC (Kd.C_below HR1.out HB.out)); (case side4 => exact HC1.out); rintro e w14 ⟨rfl, hb⟩; refine ⟨_, rfl, ?_⟩; have n0_ := Aside0.mk (blk_below (g := gb249) (o := .cells #[.int .i64 a0_0, .slice A0_1 l0_1.length c0_1] 28 (0, 0)) ((mK (BK249.out))) hb); have n1_ := Aside0.mk (below_step mG hb); clear BK249 HB; have BK249 := n0_; have HB := n1_; clear n0_ n1_; (try clear hb)))
    go_ret
    exact ⟨mE, mG⟩
   rw [if_pos c4] at H
   have c4b0 : decide (x5_1 < (l1.length : Int)) = true := decide_eq_true c4
   clear c4
   by_cases c5 : 0 ≤ x5_1
   rotate_left
   ·
    rw [if_neg c5] at H
    exact absurd H (by simp)
   rw [if_pos c5] at H
   have c5b0 : decide (0 ≤ x5_1) = true := decide_eq_true c5
   clear c5
   replace H := Option.bind_eq_some_iff.mp H
   obtain ⟨t251, A60, H⟩ := H
   have A6 := Aside0.mk A60
   clear A60
   by_cases c7 : t251 = true
   rotate_left
   ·
    replace c7 := Bool.eq_false_iff.mpr c7
    subst c7
    rw [if_neg (show ¬ (false = true) by decide)] at H
    obtain rfl := Option.some.inj H
    try go_wp2
    have n0_ := Aside0.mk (blk_drew BK249.out)
    have n1_ := Aside0.mk (below_drew1 HB.out)
    clear BK249 HB; have BK249 := n0_; have HB := n1_; clear n0_ n1_
    have p250 : 0 ≤ (x5_1 : Int) := mD
    have q250 : x5_1 < (l1.length : Int) := mD
    obtain ⟨ad250, e250, hx250_0⟩ := Kd.at_int HR1.out x5_1 p250 q250
    have hw250_0 := hx250_0
    cases e250
    replace hx250_0 := (HB.out.cell (World.block_lt_of_cell? w _ hx250_0)).trans hx250_0
    replace p250 := eq_true p250
    replace q250 := eq_true q250
    refine start_ (n := 8) (S := fun w' => w'.cell? ⟨gb249, 0, none⟩ = some (.int .i64 a0_0) ∧ w'.cell? ⟨gb249, 1, none⟩ = some (.slice A0_1 l0_1.length c0_1) ∧ w'.cell? (ad250.add (x5_1).toNat) = some (.int .i64 (rd l1 x5_1))) (ds := []) (L_ 0 8) (by kernel_rfl) rfl rfl ⟨(blk_cell BK249.out 0).trans rfl, (blk_cell BK249.out 1).trans rfl, ((HB.out.cell (World.block_lt_of_cell? w _ hw250_0)).trans hw250_0)⟩ (fun hHeld => ?_); refine with_tabW spec_IsAdmissible.tab4 spec_IsAdmissible.bits4 (fun HT_ HW_ => ?_)
    generalize wr.drew = w10 at BK249 HB hx250_0 hHeld ⊢
    refine ps 1 13 #[false, true, false, false, false, false, false, false] HT_.out ?_
    refine ps 2 14 #[false, true, true, false, false, false, false, false] HT_.out ?_
    refine ps 3 15 #[false, true, true, true, false, false, false, false] HT_.out ?_
    refine ps 4 16 #[false, true, true, true, true, false, false, false] HT_.out ?_
    refine take_ (i := 0) (N := some 12) (v := ?_) (a' := ?_) (L_ 5 8) rfl rfl (take_ofW HT_.out HW_.out (by kernel_rfl)) (fun _ _ _ h => h) (Or.inl ⟨by rfl, ?_⟩) hHeld ?_ ?_
    rotate_left
    ·
     rintro w' ⟨s0, s1, s2⟩
     go_simp
     with_reducible rfl
    rotate_left
    ·
     simp only [Act.put, List.setIfInBounds_toArray, List.set_cons_zero, List.set_cons_succ, i64_w, i32_w]
     rfl
    refine take_ (i := 5) (N := some 17) (v := ?_) (a' := ?_) (L_ 6 8) rfl rfl (take_ofW HT_.out HW_.out (by kernel_rfl)) (fun _ _ _ h => h) (Or.inl ⟨by rfl, ?_⟩) hHeld ?_ ?_
    rotate_left
    ·
     rintro w' ⟨s0, s1, s2⟩
     go_simp
     with_reducible rfl
    rotate_left
    ·
     simp only [Act.put, List.setIfInBounds_toArray, List.set_cons_zero, List.set_cons_succ, i64_w, i32_w]
     rfl
    refine one_ (i := 6) (N := some 18) (L_ 7 8) rfl rfl (one_of HT_.out (by kernel_rfl)) (by decide) (fun K hK => ?_)
    refine goes_ Try.func34 (by kernel_rfl) rfl #[.agg #[.int .i64 a0_0, .slice A0_1 l0_1.length c0_1], .slice (some ad250) l1.length c1, .int .i64 (rd l1 x5_1)] (by rfl) rfl rfl mA ?_
    with_reducible refine (spec_Defends.calls k1 a0_0 _ _ l0_1 _ _ l1 (rd l1 x5_1) false _ ?side1 ?side2 ?side3 ?side4 A6.out).mono ?_
    (case side1 => exact mC (Kd.C_below HR0_1.out HB.out))
    (case side2 => exact HC0_1.out)
    (case side3 => exact mC (Kd.C_below HR1.out HB.out))
    (case side4 => exact HC1.out)
    rintro e w11 ⟨rfl, hb⟩
    refine ⟨_, rfl, ?_⟩
    have n0_ := Aside0.mk (blk_below (g := gb249) (o := .cells #[.int .i64 a0_0, .slice A0_1 l0_1.length c0_1] 28 (0, 0)) ((mK (BK249.out))) hb)
    have n1_ := Aside0.mk (below_step mG hb)
    clear BK249 HB; have BK249 := n0_; have HB := n1_; clear n0_ n1_; (try clear hb)
    refine hK.out _ _ ⟨(blk_cell BK249.out 0).trans rfl, (blk_cell BK249.out 1).trans rfl, ((HB.out.cell (World.block_lt_of_cell? w _ hw250_0)).trans hw250_0)⟩ (fun hHeld => ?_)
    clear hK K
    refine norm_ (a' := ?_) ?_ ?_
    rotate_left
    ·
     show Act.put _ (some 18) _ = _
     simp only [Act.put, List.setIfInBounds_toArray, List.set_cons_zero, List.set_cons_succ, i64_w, i32_w]
     rfl
    refine ps 7 19 (L_ 8 8) HT_.out ?_
    refine done_ (done_of HT_.out (by kernel_rfl)) ?_
    try go_wp2
    go_ret
    exact ⟨mE, mG⟩
   subst c7
   rw [if_pos rfl] at H
   have H' := Aside0.mk H
   clear H
   try go_wp2
   have n0_ := Aside0.mk (blk_drew BK249.out)
   have n1_ := Aside0.mk (below_drew1 HB.out)
   clear BK249 HB; have BK249 := n0_; have HB := n1_; clear n0_ n1_
   have p250 : 0 ≤ (x5_1 : Int) := mD
   have q250 : x5_1 < (l1.length : Int) := mD
   obtain ⟨ad250, e250, hx250_0⟩ := Kd.at_int HR1.out x5_1 p250 q250
   have hw250_0 := hx250_0
   cases e250
   replace hx250_0 := (HB.out.cell (World.block_lt_of_cell? w _ hx250_0)).trans hx250_0
   replace p250 := eq_true p250
   replace q250 := eq_true q250
   refine start_ (n := 8) (S := fun w' => w'.cell? ⟨gb249, 0, none⟩ = some (.int .i64 a0_0) ∧ w'.cell? ⟨gb249, 1, none⟩ = some (.slice A0_1 l0_1.length c0_1) ∧ w'.cell? (ad250.add (x5_1).toNat) = some (.int .i64 (rd l1 x5_1))) (ds := []) (L_ 0 8) (by kernel_rfl) rfl rfl ⟨(blk_cell BK249.out 0).trans rfl, (blk_cell BK249.out 1).trans rfl, ((HB.out.cell (World.block_lt_of_cell? w _ hw250_0)).trans hw250_0)⟩ (fun hHeld => ?_); refine with_tabW spec_IsAdmissible.tab4 spec_IsAdmissible.bits4 (fun HT_ HW_ => ?_)
   generalize wr.drew = w8 at BK249 HB hx250_0 hHeld ⊢
   refine ps 1 13 #[false, true, false, false, false, false, false, false] HT_.out ?_
   refine ps 2 14 #[false, true, true, false, false, false, false, false] HT_.out ?_
   refine ps 3 15 #[false, true, true, true, false, false, false, false] HT_.out ?_
   refine ps 4 16 #[false, true, true, true, true, false, false, false] HT_.out ?_
   refine take_ (i := 0) (N := some 12) (v := ?_) (a' := ?_) (L_ 5 8) rfl rfl (take_ofW HT_.out HW_.out (by kernel_rfl)) (fun _ _ _ h => h) (Or.inl ⟨by rfl, ?_⟩) hHeld ?_ ?_
   rotate_left
   ·
    rintro w' ⟨s0, s1, s2⟩
    go_simp
    with_reducible rfl
   rotate_left
   ·
    simp only [Act.put, List.setIfInBounds_toArray, List.set_cons_zero, List.set_cons_succ, i64_w, i32_w]
    rfl
   refine take_ (i := 5) (N := some 17) (v := ?_) (a' := ?_) (L_ 6 8) rfl rfl (take_ofW HT_.out HW_.out (by kernel_rfl)) (fun _ _ _ h => h) (Or.inl ⟨by rfl, ?_⟩) hHeld ?_ ?_
   rotate_left
   ·
    rintro w' ⟨s0, s1, s2⟩
    go_simp
    with_reducible rfl
   rotate_left
   ·
    simp only [Act.put, List.setIfInBounds_toArray, List.set_cons_zero, List.set_cons_succ, i64_w, i32_w]
    rfl
   refine one_ (i := 6) (N := some 18) (L_ 7 8) rfl rfl (one_of HT_.out (by kernel_rfl)) (by decide) (fun K hK => ?_)
   refine goes_ Try.func34 (by kernel_rfl) rfl #[.agg #[.int .i64 a0_0, .slice A0_1 l0_1.length c0_1], .slice (some ad250) l1.length c1, .int .i64 (rd l1 x5_1)] (by rfl) rfl rfl mA ?_
   with_reducible refine (spec_Defends.calls k1 a0_0 _ _ l0_1 _ _ l1 (rd l1 x5_1) true _ ?side1 ?side2 ?side3 ?side4 A6.out).mono ?_
   (case side1 => exact mC (Kd.C_below HR0_1.out HB.out))
   (case side2 => exact HC0_1.out)
   (case side3 => exact mC (Kd.C_below HR1.out HB.out))
   (case side4 => exact HC1.out)
   rintro e w9 ⟨rfl, hb⟩
   refine ⟨_, rfl, ?_⟩
   have n0_ := Aside0.mk (blk_below (g := gb249) (o := .cells #[.int .i64 a0_0, .slice A0_1 l0_1.length c0_1] 28 (0, 0)) ((mK (BK249.out))) hb)
   have n1_ := Aside0.mk (below_step mG hb)
   clear BK249 HB; have BK249 := n0_; have HB := n1_; clear n0_ n1_; (try clear hb)
   refine hK.out _ _ ⟨(blk_cell BK249.out 0).trans rfl, (blk_cell BK249.out 1).trans rfl, ((HB.out.cell (World.block_lt_of_cell? w _ hw250_0)).trans hw250_0)⟩ (fun hHeld => ?_)
   clear hK K
   refine norm_ (a' := ?_) ?_ ?_
   rotate_left
   ·
    show Act.put _ (some 18) _ = _
    simp only [Act.put, List.setIfInBounds_toArray, List.set_cons_zero, List.set_cons_succ, i64_w, i32_w]
    rfl
   refine ps 7 19 (L_ 8 8) HT_.out ?_
   refine done_ (done_of HT_.out (by kernel_rfl)) ?_
   try go_wp2
   go_roundg k1
   case measure => have := HK1.out; omega
   case rel => exact ⟨(wrap64 (x5_1 + 1)), mF, H', ⟨by have := HK1.out; omega⟩, ⟨(mK (BK249.out))⟩, ⟨mG⟩⟩
/-! ### impl_IsAdmissible: function 37 -/
def impl_IsAdmissible.l0 : Nat → List Int → List Int → Int → Int → Int → List (List Int) → Option (Bool)
 | 0, _, _, _, _, _, _ => none
 | k + 1, x1, x11, x12, x13, x254000, x254001 => if x13 < x12 then (if 0 ≤ x13 then (if x13 < (x11.length : Int) then ((impl_Defends.f k x254000 x254001 x1 (rd x11 x13)).bind fun t256 => (if t256 = true then (impl_IsAdmissible.l0 k x1 x11 x12 (wrap64 (x13 + 1)) x254000 x254001) else (some false))) else (none)) else (none)) else (some true)
def impl_IsAdmissible.f (k : Nat) (a0_0 : Int) (l0_1 : List (List Int)) (l1 : List Int) : Option (Bool) := (impl_IsFree.f k a0_0 l0_1 l1).bind fun t254 => (if t254 = true then (impl_IsAdmissible.l0 k l1 l1 (l1.length : Int) 0 a0_0 l0_1) else (some false))
theorem impl_IsAdmissible.mono_l : ∀ k, (∀ y0 y1 y2 y3 y4 y5, LeO (impl_IsAdmissible.l0 k y0 y1 y2 y3 y4 y5) (impl_IsAdmissible.l0 (k + 1) y0 y1 y2 y3 y4 y5))
 | 0 => fun _ _ _ _ _ _ r h => by simp [impl_IsAdmissible.l0] at h
 | k + 1 => by
  have ih0 := impl_IsAdmissible.mono_l k
  ·
   intro y0 y1 y2 y3 y4 y5
   unfold impl_IsAdmissible.l0
   repeat' with_reducible first | exact ih0 _ _ _ _ _ _ | exact impl_Defends.mono _ _ _ _ _ | exact impl_IsFree.mono _ _ _ _ | exact LeO.refl _ | exact LeO.none _ | refine LeO.ite ?_ ?_ | refine LeO.bind ?_ (fun _ => ?_)
theorem impl_IsAdmissible.mono : ∀ a0 a1 a2 k, LeO (impl_IsAdmissible.f k a0 a1 a2) (impl_IsAdmissible.f (k + 1) a0 a1 a2) := by
 intro a0 a1 a2 k
 have ih0 := impl_IsAdmissible.mono_l k
 unfold impl_IsAdmissible.f
 repeat' with_reducible first | exact ih0 _ _ _ _ _ _ | exact impl_Defends.mono _ _ _ _ _ | exact impl_IsFree.mono _ _ _ _ | exact LeO.refl _ | exact LeO.none _ | refine LeO.ite ?_ ?_ | refine LeO.bind ?_ (fun _ => ?_)
set_option maxHeartbeats 8000000 in
set_option maxRecDepth 100000 in
theorem impl_IsAdmissible.calls (k : Nat) (a0_0 : Int) (A0_1 : Option Addr) (c0_1 : Nat) (l0_1 : List (List Int)) (A1 : Option Addr) (c1 : Nat) (l1 : List Int) (r : Bool) (w : World) (hr0_1 : Kd.C (Kd.slice 3 (Kd.int .i64)) w A0_1 l0_1.length l0_1) (hc0_1 : l0_1.length ≤ c0_1) (hr1 : Kd.C (Kd.int .i64) w A1 l1.length l1) (hc1 : l1.length ≤ c1) (h : impl_IsAdmissible.f k a0_0 l0_1 l1 = some r) :
  Calls Try.prog 37 #[.agg #[.int .i64 a0_0, .slice A0_1 l0_1.length c0_1], .slice A1 l1.length c1] w fun e w' => e = .returned (.bool r) ∧ Below w.heap.size w w' := by
 have hu28 := Try.underlying28
 have HR0_1 := Aside0.mk hr0_1
 have HC0_1 := Aside0.mk hc0_1
 clear hr0_1 hc0_1
 have HR1 := Aside0.mk hr1
 have HC1 := Aside0.mk hc1
 clear hr1 hc1
 have HB := Aside0.mk (Below.refl w.heap.size w)
 have H : ((impl_IsFree.f k a0_0 l0_1 l1).bind fun t254 => (if t254 = true then (impl_IsAdmissible.l0 k l1 l1 (l1.length : Int) 0 a0_0 l0_1) else (some false))) = some r := h
 clear h
 replace H := Option.bind_eq_some_iff.mp H
 obtain ⟨t254, A30, H⟩ := H
 have A3 := Aside0.mk A30
 clear A30
 by_cases c4 : t254 = true
 rotate_left
 ·
  replace c4 := Bool.eq_false_iff.mpr c4
  subst c4
  rw [if_neg (show ¬ (false = true) by decide)] at H
  obtain rfl := Option.some.inj H
  go_enter Try.func37, Try.ntmps37
  go_wp2_with (first | ((with_reducible refine gate_dst (N := 2) rfl ?_); refine box_event ?hg (N := 2) ?hd (cs := #[.int .i64 a0_0, .slice A0_1 l0_1.length c0_1]) (t := 28) ?hr ?_; (case hd => rfl); (case hg => rfl); (case hr => first | (go_simp; done) | (go_simp; rfl)); intro gb253 hg w17 hbox hb; have n0_ := Aside0.mk (below_step (mB HB.out) hb); have n1_ := Aside0.mk (hbox); have n2_ := Aside0.mk ((by rw [hg]; exact (below_size (mB HB.out)) : w.heap.size ≤ gb253)); have n3_ := Aside0.mk ((by rw [hg]; exact (below_size (mB HB.out)) : w.heap.size ≤ gb253)); clear HB; have HB := n0_; have BK253 := n1_; have GW253 := n2_; have GE253 := n3_; clear n0_ n1_ n2_ n3_; clear hb hbox hg; have hcz18_0 : w17.cell? ⟨gb253, 0, none⟩ = some (.int .i64 a0_0) := (blk_cell BK253.out 0).trans rfl; have hcz18_1 : w17.cell? ⟨gb253, 1, none⟩ = some (.slice A0_1 l0_1.length c0_1) := (blk_cell BK253.out 1).trans rfl; have hfz18_0 := blk_frozen BK253.out 0; have hfz18_1 := blk_frozen BK253.out 1) | ((with_reducible refine gate_callee (f := 31) rfl ?_); refine goesL_ (some 9) rfl rfl Try.func31 (by kernel_rfl) rfl #[.agg #[.int .i64 a0_0, .slice A0_1 l0_1.length c0_1], .slice A1 l1.length c1] rfl mA ?_; (with_reducible refine (impl_IsFree.calls k a0_0 _ _ l0_1 _ _ l1 false _ ?side1 ?side2 ?side3 ?side4 A3.out).mono ?_); (case side1 => exact mC (Kd.C_below HR0_1.out HB.out)); (case side2 => exact HC0_1.out); (case side3 => exact mC (Kd.C_below HR1.out HB.out)); (case side4 => exact HC1.out); rintro e w19 ⟨rfl, hb⟩; refine ⟨_, rfl, ?_⟩; have n0_ := Aside0.mk (blk_below (g := gb253) (o := .cells #[.int .i64 a0_0, .slice A0_1 l0_1.length c0_1] 28 (0, 0)) ((mK (BK253.out))) hb); have n1_ := Aside0.mk (below_step mG hb); clear BK253 HB; have BK253 := n0_; have HB := n1_; clear n0_ n1_; (try clear hb)))
  go_ret
  exact ⟨mE, mG⟩
 subst c4
 rw [if_pos rfl] at H
 have H' := Aside0.mk H
 clear H
 go_enter Try.func37, Try.ntmps37
 go_wp2_with (first | ((with_reducible refine gate_dst (N := 2) rfl ?_); refine box_event ?hg (N := 2) ?hd (cs := #[.int .i64 a0_0, .slice A0_1 l0_1.length c0_1]) (t := 28) ?hr ?_; (case hd => rfl); (case hg => rfl); (case hr => first | (go_simp; done) | (go_simp; rfl)); intro gb253 hg w5 hbox hb; have n0_ := Aside0.mk (below_step (mB HB.out) hb); have n1_ := Aside0.mk (hbox); have n2_ := Aside0.mk ((by rw [hg]; exact (below_size (mB HB.out)) : w.heap.size ≤ gb253)); have n3_ := Aside0.mk ((by rw [hg]; exact (below_size (mB HB.out)) : w.heap.size ≤ gb253)); clear HB; have HB := n0_; have BK253 := n1_; have GW253 := n2_; have GE253 := n3_; clear n0_ n1_ n2_ n3_; clear hb hbox hg; have hcz6_0 : w5.cell? ⟨gb253, 0, none⟩ = some (.int .i64 a0_0) := (blk_cell BK253.out 0).trans rfl; have hcz6_1 : w5.cell? ⟨gb253, 1, none⟩ = some (.slice A0_1 l0_1.length c0_1) := (blk_cell BK253.out 1).trans rfl; have hfz6_0 := blk_frozen BK253.out 0; have hfz6_1 := blk_frozen BK253.out 1) | ((with_reducible refine gate_callee (f := 31) rfl ?_); refine goesL_ (some 9) rfl rfl Try.func31 (by kernel_rfl) rfl #[.agg #[.int .i64 a0_0, .slice A0_1 l0_1.length c0_1], .slice A1 l1.length c1] rfl mA ?_; (with_reducible refine (impl_IsFree.calls k a0_0 _ _ l0_1 _ _ l1 true _ ?side1 ?side2 ?side3 ?side4 A3.out).mono ?_); (case side1 => exact mC (Kd.C_below HR0_1.out HB.out)); (case side2 => exact HC0_1.out); (case side3 => exact mC (Kd.C_below HR1.out HB.out)); (case side4 => exact HC1.out); rintro e w7 ⟨rfl, hb⟩; refine ⟨_, rfl, ?_⟩; have n0_ := Aside0.mk (blk_below (g := gb253) (o := .cells #[.int .i64 a0_0, .slice A0_1 l0_1.length c0_1] 28 (0, 0)) ((mK (BK253.out))) hb); have n1_ := Aside0.mk (below_step mG hb); clear BK253 HB; have BK253 := n0_; have HB := n1_; clear n0_ n1_; (try clear hb)))
 go_loopg [13] k (fun kq v13 w' => ∃ (x13_1 : Int), v13 = .int .i64 x13_1 ∧ Aside0 (impl_IsAdmissible.l0 kq l1 l1 (l1.length : Int) x13_1 a0_0 l0_1 = some r) ∧ Aside0 (kq ≤ k) ∧ Aside0 (w'.heap[gb253]? = some (.cells #[.int .i64 a0_0, (.slice A0_1 l0_1.length c0_1)] 28 (0, 0))) ∧ Aside0 (Below w.heap.size w w'))
 case atStart => exact ⟨(0), mF, H', ⟨Nat.le_refl _⟩, ⟨(mK (BK253.out))⟩, ⟨mG⟩⟩
 case round =>
  clear H'
  (try clear hcz6_0); (try clear hcz6_1); (try clear hfz6_0); (try clear hfz6_1)
  obtain ⟨x13_1, rfl, HA, HK1, BK253, HB⟩ := hrel
  cases gk with
  | zero => exact absurd HA.out (by simp [impl_IsAdmissible.l0])
  | succ k1 =>
   have H := HA.out
   clear HA
   simp only [impl_IsAdmissible.l0] at H
   by_cases c8 : x13_1 < (l1.length : Int)
   rotate_left
   ·
    rw [if_neg c8] at H
    have c8b0 : decide (x13_1 < (l1.length : Int)) = false := decide_eq_false c8
    clear c8
    obtain rfl := Option.some.inj H
    go_wp2
    go_ret
    exact ⟨mE, mG⟩
   rw [if_pos c8] at H
   have c8b0 : decide (x13_1 < (l1.length : Int)) = true := decide_eq_true c8
   clear c8
   by_cases c9 : 0 ≤ x13_1
   rotate_left
   ·
    rw [if_neg c9] at H
    exact absurd H (by simp)
   rw [if_pos c9] at H
   have c9b0 : decide (0 ≤ x13_1) = true := decide_eq_true c9
   clear c9
   by_cases c10 : x13_1 < (l1.length : Int)
   rotate_left
   ·
    rw [if_neg c10] at H
    exact absurd H (by simp)
   rw [if_pos c10] at H
   have c10b0 : decide (x13_1 < (l1.length : Int)) = true := decide_eq_true c10
   clear c10
   replace H := Option.bind_eq_some_iff.mp H
   obtain ⟨t256, A110, H⟩ := H
   have A11 := Aside0.mk A110
   clear A110
   by_cases c12 : t256 = true
   rotate_left
   ·
    replace c12 := Bool.eq_false_iff.mpr c12
    subst c12
    rw [if_neg (show ¬ (false = true) by decide)] at H
    obtain rfl := Option.some.inj H
    have p255 : 0 ≤ (x13_1 : Int) := mD
    have q255 : x13_1 < (l1.length : Int) := mD
    obtain ⟨ad255, e255, hx255_0⟩ := Kd.at_int HR1.out x13_1 p255 q255
    cases e255
    replace hx255_0 := (HB.out.cell (World.block_lt_of_cell? w _ hx255_0)).trans hx255_0
    replace p255 := eq_true p255
    replace q255 := eq_true q255
    have hcz15_0 : wr.cell? ⟨gb253, 0, none⟩ = some (.int .i64 a0_0) := (blk_cell BK253.out 0).trans rfl
    have hcz15_1 : wr.cell? ⟨gb253, 1, none⟩ = some (.slice A0_1 l0_1.length c0_1) := (blk_cell BK253.out 1).trans rfl
    have hfz15_0 := blk_frozen BK253.out 0
    have hfz15_1 := blk_frozen BK253.out 1
    go_wp2_with (first | ((with_reducible refine gate_callee (f := 35) rfl ?_); refine goesL_ (some 20) rfl rfl Try.func35 (by kernel_rfl) rfl #[.agg #[.int .i64 a0_0, .slice A0_1 l0_1.length c0_1], .slice (some ad255) l1.length c1, .int .i64 (rd l1 x13_1)] rfl mA ?_; (with_reducible refine (impl_Defends.calls k1 a0_0 _ _ l0_1 _ _ l1 (rd l1 x13_1) false _ ?side1 ?side2 ?side3 ?side4 A11.out).mono ?_); (case side1 => exact mC (Kd.C_below HR0_1.out HB.out)); (case side2 => exact HC0_1.out); (case side3 => exact mC (Kd.C_below HR1.out HB.out)); (case side4 => exact HC1.out); rintro e w16 ⟨rfl, hb⟩; refine ⟨_, rfl, ?_⟩; have n0_ := Aside0.mk (blk_below (g := gb253) (o := .cells #[.int .i64 a0_0, .slice A0_1 l0_1.length c0_1] 28 (0, 0)) ((mK (BK253.out))) hb); have n1_ := Aside0.mk (below_step mG hb); clear BK253 HB; have BK253 := n0_; have HB := n1_; clear n0_ n1_; (try clear hb)))
    go_ret
    exact ⟨mE, mG⟩
   subst c12
   rw [if_pos rfl] at H
   have H' := Aside0.mk H
   clear H
   have p255 : 0 ≤ (x13_1 : Int) := mD
   have q255 : x13_1 < (l1.length : Int) := mD
   obtain ⟨ad255, e255, hx255_0⟩ := Kd.at_int HR1.out x13_1 p255 q255
   cases e255
   replace hx255_0 := (HB.out.cell (World.block_lt_of_cell? w _ hx255_0)).trans hx255_0
   replace p255 := eq_true p255
   replace q255 := eq_true q255
   have hcz13_0 : wr.cell? ⟨gb253, 0, none⟩ = some (.int .i64 a0_0) := (blk_cell BK253.out 0).trans rfl
   have hcz13_1 : wr.cell? ⟨gb253, 1, none⟩ = some (.slice A0_1 l0_1.length c0_1) := (blk_cell BK253.out 1).trans rfl
   have hfz13_0 := blk_frozen BK253.out 0
   have hfz13_1 := blk_frozen BK253.out 1
   go_wp2_with (first | ((with_reducible refine gate_callee (f := 35) rfl ?_); refine goesL_ (some 20) rfl rfl Try.func35 (by kernel_rfl) rfl #[.agg #[.int .i64 a0_0, .slice A0_1 l0_1.length c0_1], .slice (some ad255) l1.length c1, .int .i64 (rd l1 x13_1)] rfl mA ?_; (with_reducible refine (impl_Defends.calls k1 a0_0 _ _ l0_1 _ _ l1 (rd l1 x13_1) true _ ?side1 ?side2 ?side3 ?side4 A11.out).mono ?_); (case side1 => exact mC (Kd.C_below HR0_1.out HB.out)); (case side2 => exact HC0_1.out); (case side3 => exact mC (Kd.C_below HR1.out HB.out)); (case side4 => exact HC1.out); rintro e w14 ⟨rfl, hb⟩; refine ⟨_, rfl, ?_⟩; have n0_ := Aside0.mk (blk_below (g := gb253) (o := .cells #[.int .i64 a0_0, .slice A0_1 l0_1.length c0_1] 28 (0, 0)) ((mK (BK253.out))) hb); have n1_ := Aside0.mk (below_step mG hb); clear BK253 HB; have BK253 := n0_; have HB := n1_; clear n0_ n1_; (try clear hb)))
   go_roundg k1
   case measure => have := HK1.out; omega
   case rel => exact ⟨(wrap64 (x13_1 + 1)), mF, H', ⟨by have := HK1.out; omega⟩, ⟨(mK (BK253.out))⟩, ⟨mG⟩⟩
end Go.Proofs.Ytelkfhlnejlheaa.GFnFree
