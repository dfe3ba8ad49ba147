-- Written by gprint.py, a program of this session, with the printer of the kit as its library. Lean checks it.
import Derived.Test.YtpdpampmbdgofaaGFnExactAddAttackx0
import Derived.Test.YtpdpampmbdgofaaGFnExactAddAttackx1
import Derived.Test.YtpdpampmbdgofaaGFnExactAddAttackx2
import Derived.Test.YtpdpampmbdgofaaGFnExactAddAttackx4
import Derived.Test.YtpdpampmbdgofaaGFnExactAddAttackx5
import Derived.Test.YtpdpampmbdgofaaGFnExactAddAttackx6
namespace Go.Proofs.Ytpdpampmbdgofaa.GFnExactAddAttack
open Go.RowKit Go.Proofs.YtpdpampmbdgofaaW.PrintWords Go.Proofs.YtpdpampmbdgofaaW.PrintLast Go.Proofs.YtpdpampmbdgofaaW.PrintMore
attribute [local go_sem] max2_int min2_int max_two min_two max_three min_three max_four min_four   -- for this text's walks alone
set_option linter.unusedVariables false
set_option linter.unusedSimpArgs false


/-! ### slices_Clone_int_int: function 44 -/
def slices_Clone_int_int.f (l0 : List Int) : Option (List Int) := if l0.length ≤ 17592186044416 then some l0 else none
set_option maxHeartbeats 4000000 in
theorem slices_Clone_int_int.calls (A0 : Option Addr) (c0 : Nat) (l0 : List Int) (r : List Int) (w : World) (hr0 : Kd.C (Kd.int .i64) w A0 l0.length l0) (hc0 : l0.length ≤ c0) (h : slices_Clone_int_int.f l0 = some r) :
  Calls Try.prog 44 #[.slice A0 l0.length c0] w fun e w' => ∃ v0_ : Value, e = .returned (v0_) ∧ Kd.R (Kd.int .i64) 3 w' w.heap.size (fun _ => True) v0_ r ∧ Below w.heap.size w w' := by
 unfold slices_Clone_int_int.f at h
 by_cases hl : l0.length ≤ 17592186044416
 ·
  rw [if_pos hl] at h
  obtain rfl := Option.some.inj h
  cases A0 with
  | none =>
   have h0 : l0 = [] := by
    cases l0 with
    | nil => rfl
    | cons x xs => obtain ⟨_, hA, _⟩ := hr0.2.2 (by simp); cases hA
   subst h0
   refine (Try.slices_Clone_int_nil 0 c0 w).mono ?_
   rintro e w' ⟨rfl, rfl⟩
   exact ⟨_, rfl, Kd.R_nil _ _ _ _ _, Below.refl _ _⟩
  | some a =>
   by_cases hz : l0.length = 0
   ·
    have h0 : l0 = [] := List.length_eq_zero_iff.1 hz
    subst h0
    refine (Try.slices_Clone_int_zero a c0 w).mono ?_
    rintro e w' ⟨v, rfl, ho, _, hb⟩
    exact ⟨v, rfl, Kd.R_of_own ho (fun _ _ => trivial), hb⟩
   ·
    obtain ⟨b, off, p⟩ := a
    have hc : ∀ j : Nat, j < l0.length → w.cell? ((⟨b, off, p⟩ : Addr).add j) = some (.int .i64 (l0.getD j 0)) := fun j hj => by
     obtain ⟨ad, hA, h1⟩ := Kd.at_int hr0 (j : Int) (by omega) (by omega)
     injection hA with hA
     subst hA
     exact h1
    have hp : p = none := by
     have := hc 0 (by omega)
     cases p with
     | none => rfl
     | some q =>
      unfold World.cell? at this
      simp only [Addr.add, if_true] at this
      split at this
      ·
       simp at this
      ·
       cases this
    subst hp
    refine (Try.slices_Clone_int b off l0.length c0 l0 w (Nat.le_refl _) (by omega) (fun j hj => by have := hc j hj; rwa [Addr.add_lit] at this)).mono ?_
    rintro e w' ⟨v, rfl, ho, _, hb⟩
    rw [List.take_length] at ho
    exact ⟨v, rfl, Kd.R_of_own ho (fun _ _ => trivial), hb⟩
 ·
  rw [if_neg hl] at h; cases h

/-! ### impl_cloneGraph: function 37 -/
def impl_cloneGraph.l0 : Nat → List (List Int) → Int → Int → Int → List (List Int) → Option (Int × (List (List Int)))
 | 0, _, _, _, _, _ => none
 | k + 1, x11, x12, x13, x263000, x263001 => if x13 < x12 then (if 0 ≤ x13 then (if x13 < (x11.length : Int) then ((slices_Clone_int_int.f (rd_L1 x11 x13)).bind fun t264 => (if x263001.length < 5864062014805 then (impl_cloneGraph.l0 k x11 x12 (wrap64 (x13 + 1)) x263000 (x263001 ++ [t264])) else (none))) else (none)) else (none)) else (some (x263000, x263001))
def impl_cloneGraph.f (k : Nat) (a0_0 : Int) (l0_1 : List (List Int)) : Option (Int × (List (List Int))) := impl_cloneGraph.l0 k l0_1 (l0_1.length : Int) 0 a0_0 (([] : List (List Int)))
theorem impl_cloneGraph.mono_l : ∀ k, (∀ y0 y1 y2 y3 y4, LeO (impl_cloneGraph.l0 k y0 y1 y2 y3 y4) (impl_cloneGraph.l0 (k + 1) y0 y1 y2 y3 y4))
 | 0 => fun _ _ _ _ _ r h => by simp [impl_cloneGraph.l0] at h
 | k + 1 => by
  have ih0 := impl_cloneGraph.mono_l k
  ·
   intro y0 y1 y2 y3 y4
   unfold impl_cloneGraph.l0
   repeat' with_reducible first | exact ih0 _ _ _ _ _ | exact LeO.refl _ | exact LeO.none _ | refine LeO.ite ?_ ?_ | refine LeO.bind ?_ (fun _ => ?_)
theorem impl_cloneGraph.mono : ∀ a0 a1 k, LeO (impl_cloneGraph.f k a0 a1) (impl_cloneGraph.f (k + 1) a0 a1) := by
 intro a0 a1 k
 have ih0 := impl_cloneGraph.mono_l k
 unfold impl_cloneGraph.f
 repeat' with_reducible first | exact ih0 _ _ _ _ _ | exact LeO.refl _ | exact LeO.none _ | refine LeO.ite ?_ ?_ | refine LeO.bind ?_ (fun _ => ?_)
def impl_cloneGraph.T5 : Bool × List (List Nat × List Nat) := (true, [([], []), ([0], [0]), ([], []), ([2], [2]), ([3], [3]), ([1, 4, 3], [1, 4]), ([0, 1, 2, 3, 4, 5], []), ([6, 5, 5, 0, 1, 2, 3, 4, 5], [5, 6])])
def impl_cloneGraph.B5 : List Nat := [0, 1, 0, 4, 12, 31, 63, 127]
theorem impl_cloneGraph.tab5 : rtab .any (opsOf Try.f37 5) = impl_cloneGraph.T5 := by kernel_rfl
theorem impl_cloneGraph.bits5 : waitsOk impl_cloneGraph.T5.2 impl_cloneGraph.B5 = true := by kernel_rfl
set_option maxHeartbeats 8000000 in
set_option maxRecDepth 100000 in
theorem impl_cloneGraph.calls (k : Nat) (a0_0 : Int) (A0_1 : Option Addr) (c0_1 : Nat) (l0_1 : List (List Int)) (r1 : Int) (r2 : List (List Int)) (w : World) (hr0_1 : Kd.C (Kd.slice 3 (Kd.int .i64)) w A0_1 l0_1.length l0_1) (hc0_1 : l0_1.length ≤ c0_1) (h : impl_cloneGraph.f k a0_0 l0_1 = some (r1, r2)) :
  Calls Try.prog 37 #[.agg #[.int .i64 a0_0, .slice A0_1 l0_1.length c0_1]] w fun e w' => ∃ v1_ : Value, e = .returned (.agg #[.int .i64 r1, v1_]) ∧ Kd.S (Kd.slice 3 (Kd.int .i64)) 25 w' w.heap.size (fun _ => True) v1_ r2 ∧ Below w.heap.size w w' := by
 have hu28 := Try.underlying28
 have HR0_1 := Aside0.mk hr0_1
 have HC0_1 := Aside0.mk hc0_1
 clear hr0_1 hc0_1
 have HB := Aside0.mk (Below.refl w.heap.size w)
 have H : (impl_cloneGraph.l0 k l0_1 (l0_1.length : Int) 0 a0_0 (([] : List (List Int)))) = some (r1, r2) := h
 clear h
 obtain ⟨y259, hy259⟩ : ∃ y_ : List (List Int), y_ = (([] : List (List Int))) := ⟨_, rfl⟩
 replace H : (impl_cloneGraph.l0 k l0_1 (l0_1.length : Int) 0 a0_0 y259) = some (r1, r2) := by first | (rw [hy259]; with_reducible exact H) | (have H2_ := (Option.bind_some _ _).symm.trans H; rw [hy259]; with_reducible exact H2_) | (have H2_ := (Option.bind_some _ _).symm.trans H; with_reducible exact H2_) | with_reducible exact H | (rw [hy259]; exact H) | exact H
 have Ny259 := Aside0.mk hy259
 clear hy259
 have H' := Aside0.mk H
 clear H
 go_enter Try.func37, Try.ntmps37
 go_wp2_with (first | ((with_reducible refine gate_dst (N := 1) rfl ?_); refine box_event ?hg (N := 1) ?hd (cs := #[.int .i64 a0_0, .slice A0_1 l0_1.length c0_1]) (t := 28) ?hr ?_; (case hd => rfl); (case hg => rfl); (case hr => first | (go_simp; done) | (go_simp; rfl)); intro gb257 hg w2 hbox hb; have n0_ := Aside0.mk (below_step (mB HB.out) hb); have n1_ := Aside0.mk (hbox); have n2_ := Aside0.mk ((by rw [hg]; exact (below_size (mB HB.out)) : w.heap.size ≤ gb257)); have n3_ := Aside0.mk ((by rw [hg]; exact (below_size (mB HB.out)) : w.heap.size ≤ gb257)); clear HB; have HB := n0_; have BK257 := n1_; have GW257 := n2_; have GE257 := n3_; clear n0_ n1_ n2_ n3_; clear hb hbox hg) | ((with_reducible refine gate_dst (N := 2) rfl ?_); refine box_event ?hg (N := 2) ?hd (cs := #[.int .i64 0, .slice none 0 0]) (t := 28) ?hr ?_; (case hd => rfl); (case hg => rfl); (case hr => first | (go_simp; done) | (go_simp; rfl)); intro gb258 hg w3 hbox hb; have n0_ := Aside0.mk (blk_below (g := gb257) (o := .cells #[.int .i64 a0_0, .slice A0_1 l0_1.length c0_1] 28 (0, 0)) ((mK (BK257.out))) hb); have n1_ := Aside0.mk (below_step mG hb); have n2_ := Aside0.mk (hbox); have n3_ := Aside0.mk ((by rw [hg]; exact (below_size mG) : w.heap.size ≤ gb258)); have n4_ := Aside0.mk ((by rw [hg]; exact (below_size mG) : w.heap.size ≤ gb258)); have n5_ := Aside0.mk ((by rw [hg]; exact Nat.ne_of_lt (blk_lt (g := gb257) (o := .cells #[.int .i64 a0_0, .slice A0_1 l0_1.length c0_1] 28 (0, 0)) ((mK (BK257.out)))) : gb257 ≠ gb258)); have n6_ := Aside0.mk ((by rw [hg]; exact Nat.ne_of_gt (blk_lt (g := gb257) (o := .cells #[.int .i64 a0_0, .slice A0_1 l0_1.length c0_1] 28 (0, 0)) ((mK (BK257.out)))) : gb258 ≠ gb257)); clear BK257 HB; have BK257 := n0_; have HB := n1_; have BK258 := n2_; have GW258 := n3_; have GE258 := n4_; have NB257_258 := n5_; have NB258_257 := n6_; clear n0_ n1_ n2_ n3_ n4_ n5_ n6_; clear hb hbox hg; have hnb4 := NB257_258.out; have hnc4 := NB258_257.out; have hcz5_0 : w3.cell? ⟨gb257, 0, none⟩ = some (.int .i64 a0_0) := (blk_cell BK257.out 0).trans rfl; have hcz5_1 : w3.cell? ⟨gb257, 1, none⟩ = some (.slice A0_1 l0_1.length c0_1) := (blk_cell BK257.out 1).trans rfl; have hfz5_0 := blk_frozen BK257.out 0; have hfz5_1 := blk_frozen BK257.out 1) | ((with_reducible refine gate_dst (N := 8) rfl ?_); refine Kd.S_lit (Kd.slice 3 (Kd.int .i64)) _ 25 ?hg (N := 8) ?hd (xs := ([] : List (List Int))) (inner := []) (ok := fun _ => True) (okp := fun _ => True) ?hr ?hp (fun _ hk => hk) trivial (Below.refl _ _) (Nat.le_refl _) (by simp) ?_; (case hd => rfl); (case hg => rfl); (case hr => first | (go_simp; done) | (go_simp; rfl)); (case hp => exact (Reps.none _ _)); intro v260 w6 ho7 hb hg_ hnew_; clear hg_ hnew_; (first | rw [← Ny259.out] at ho7 | (simp only [Int.reduceToNat] at ho7; rw [← Ny259.out] at ho7)); have n0_ := Aside0.mk (Kd.S_lower ho7 (below_size mG)); have n1_ := Aside0.mk (blk_below (g := gb257) (o := .cells #[.int .i64 a0_0, .slice A0_1 l0_1.length c0_1] 28 (0, 0)) ((mK (BK257.out))) hb); have n2_ := Aside0.mk (blk_below (g := gb258) (o := .cells #[.int .i64 0, .slice none 0 0] 28 (0, 0)) ((mK (BK258.out))) hb); have n3_ := Aside0.mk (below_step mG hb); clear BK257 BK258 HB; have HO261 := n0_; have BK257 := n1_; have BK258 := n2_; have HB := n3_; clear n0_ n1_ n2_ n3_; clear hb ho7; obtain ⟨Ao8, co8, eo8⟩ := Kd.S_slice HO261.out; subst eo8) | ((with_reducible refine gate_dst (N := 3) rfl ?_); refine box_event ?hg (N := 3) ?hd (cs := #[.int .i64 0, .slice none 0 0]) (t := 28) ?hr ?_; (case hd => rfl); (case hg => rfl); (case hr => first | (go_simp; done) | (go_simp; rfl)); intro gb262 hg w9 hbox hb; have n0_ := Aside0.mk (Kd.S_below (mS HO261.out) hb); have n1_ := Aside0.mk (blk_below (g := gb257) (o := .cells #[.int .i64 a0_0, .slice A0_1 l0_1.length c0_1] 28 (0, 0)) ((mK (BK257.out))) hb); have n2_ := Aside0.mk (blk_below (g := gb258) (o := .cells #[.int .i64 0, .slice none 0 0] 28 (0, 0)) ((mK (BK258.out))) hb); have n3_ := Aside0.mk (below_step mG hb); have n4_ := Aside0.mk (hbox); have n5_ := Aside0.mk ((by rw [hg]; exact (below_size mG) : w.heap.size ≤ gb262)); have n6_ := Aside0.mk ((by rw [hg]; exact (below_size mG) : w.heap.size ≤ gb262)); have n7_ := Aside0.mk ((by rw [hg]; exact Nat.ne_of_lt (blk_lt (g := gb257) (o := .cells #[.int .i64 a0_0, .slice A0_1 l0_1.length c0_1] 28 (0, 0)) ((mK (BK257.out)))) : gb257 ≠ gb262)); have n8_ := Aside0.mk ((by rw [hg]; exact Nat.ne_of_gt (blk_lt (g := gb257) (o := .cells #[.int .i64 a0_0, .slice A0_1 l0_1.length c0_1] 28 (0, 0)) ((mK (BK257.out)))) : gb262 ≠ gb257)); have n9_ := Aside0.mk ((by rw [hg]; exact Nat.ne_of_lt (blk_lt (g := gb258) (o := .cells #[.int .i64 0, .slice none 0 0] 28 (0, 0)) ((mK (BK258.out)))) : gb258 ≠ gb262)); have n10_ := Aside0.mk ((by rw [hg]; exact Nat.ne_of_gt (blk_lt (g := gb258) (o := .cells #[.int .i64 0, .slice none 0 0] 28 (0, 0)) ((mK (BK258.out)))) : gb262 ≠ gb258)); clear HO261 BK257 BK258 HB; have HO261 := n0_; have BK257 := n1_; have BK258 := n2_; have HB := n3_; have BK262 := n4_; have GW262 := n5_; have GE262 := n6_; have NB257_262 := n7_; have NB262_257 := n8_; have NB258_262 := n9_; have NB262_258 := n10_; clear n0_ n1_ n2_ n3_ n4_ n5_ n6_ n7_ n8_ n9_ n10_; clear hb hbox hg; have hnb10 := NB262_257.out; have hnc10 := NB257_262.out; have hnb11 := NB262_258.out; have hnc11 := NB258_262.out; have hcz12_0 : w9.cell? ⟨gb262, 0, none⟩ = some (.int .i64 0) := (blk_cell BK262.out 0).trans rfl; have hcz12_1 : w9.cell? ⟨gb262, 1, none⟩ = some (.slice none 0 0) := (blk_cell BK262.out 1).trans rfl; have hfz12_0 := blk_frozen BK262.out 0; have hfz12_1 := blk_frozen BK262.out 1; have hcz13_0 : w9.cell? ⟨gb257, 0, none⟩ = some (.int .i64 a0_0) := (blk_cell BK257.out 0).trans rfl; have hcz13_1 : w9.cell? ⟨gb257, 1, none⟩ = some (.slice A0_1 l0_1.length c0_1) := (blk_cell BK257.out 1).trans rfl; have hfz13_0 := blk_frozen BK257.out 0; have hfz13_1 := blk_frozen BK257.out 1))
 go_loopg [13] k (fun kq v13 w' => ∃ (x13_1 : Int) (x263001_1 : List (List Int)) (u263001 : Value), v13 = .int .i64 x13_1 ∧ Aside0 (impl_cloneGraph.l0 kq l0_1 (l0_1.length : Int) x13_1 a0_0 x263001_1 = some (r1, r2)) ∧ Aside0 (kq ≤ k) ∧ Aside0 (Kd.S (Kd.slice 3 (Kd.int .i64)) 25 w' w.heap.size (fun _ => True) u263001 x263001_1) ∧ Aside0 (w'.heap[gb257]? = some (.cells #[.int .i64 a0_0, (.slice A0_1 l0_1.length c0_1)] 28 (0, 0))) ∧ Aside0 (w'.heap[gb258]? = some (.cells #[.int .i64 0, (.slice none 0 0)] 28 (0, 0))) ∧ Aside0 (w'.heap[gb262]? = some (.cells #[.int .i64 a0_0, u263001] 28 (0, 0))) ∧ Aside0 (Below w.heap.size w w'))
 case atStart => exact ⟨(0), (y259), (.slice Ao8 y259.length co8), mF, H', ⟨Nat.le_refl _⟩, ⟨by (with_reducible repeat (first | apply Kd.S_alloc | apply Kd.S_drewN | apply Kd.S_drew)); exact Kd.S_mono (Kd.S_far (p := ⟨gb262, 1, none⟩) (Kd.S_far (p := ⟨gb262, 0, none⟩) (Kd.S_types HO261.out BK262.out (by decide)) (fun _ hk => hk.2) (.int .i64 a0_0)) (fun _ hk => hk.2) (.slice Ao8 y259.length co8)) (fun _ hk => trivial)⟩, ⟨by refine pK ?_; refine blk_far ?_ NB257_262.out _; refine pK ?_; refine blk_far ?_ NB257_262.out _; refine pK ?_; exact BK257.out⟩, ⟨by refine pK ?_; refine blk_far ?_ NB258_262.out _; refine pK ?_; refine blk_far ?_ NB258_262.out _; refine pK ?_; exact BK258.out⟩, ⟨by refine pK ?_; refine blk_put (cs := #[.int .i64 a0_0, .slice none 0 0]) ?_ 1 _ rfl; refine pK ?_; refine blk_put (cs := #[.int .i64 0, .slice none 0 0]) ?_ 0 _ rfl; refine pK ?_; exact BK262.out⟩, ⟨mG⟩⟩
 case round =>
  clear H'
  (try clear hcz12_0); (try clear hcz12_1); (try clear hcz13_0); (try clear hcz13_1); (try clear hcz5_0); (try clear hcz5_1); (try clear hfz12_0); (try clear hfz12_1); (try clear hfz13_0); (try clear hfz13_1); (try clear hfz5_0); (try clear hfz5_1)
  obtain ⟨x13_1, x263001_1, u263001, rfl, HA, HK1, HO_263001, BK257, BK258, BK262, HB⟩ := hrel
  cases gk with
  | zero => exact absurd HA.out (by simp [impl_cloneGraph.l0])
  | succ k1 =>
   have H := HA.out
   clear HA
   simp only [impl_cloneGraph.l0] at H
   by_cases c14 : x13_1 < (l0_1.length : Int)
   rotate_left
   ·
    rw [if_neg c14] at H
    have c14b0 : decide (x13_1 < (l0_1.length : Int)) = false := decide_eq_false c14
    clear c14
    simp only [Option.some.injEq, Prod.mk.injEq] at H
    obtain ⟨rfl, rfl⟩ := H
    have hnb25 := NB262_257.out
    have hnc25 := NB257_262.out
    have hnb26 := NB262_258.out
    have hnc26 := NB258_262.out
    have hcz27_0 : wr.cell? ⟨gb262, 0, none⟩ = some (.int .i64 a0_0) := (blk_cell BK262.out 0).trans rfl
    have hcz27_1 : wr.cell? ⟨gb262, 1, none⟩ = some (u263001) := (blk_cell BK262.out 1).trans rfl
    have hfz27_0 := blk_frozen BK262.out 0
    have hfz27_1 := blk_frozen BK262.out 1
    have hnb28 := NB258_257.out
    have hnc28 := NB257_258.out
    have hcz29_0 : wr.cell? ⟨gb258, 0, none⟩ = some (.int .i64 0) := (blk_cell BK258.out 0).trans rfl
    have hcz29_1 : wr.cell? ⟨gb258, 1, none⟩ = some (.slice none 0 0) := (blk_cell BK258.out 1).trans rfl
    have hfz29_0 := blk_frozen BK258.out 0
    have hfz29_1 := blk_frozen BK258.out 1
    obtain ⟨Ao30, co30, eo30⟩ := Kd.S_slice HO_263001.out
    subst eo30
    go_wp2
    refine bodyPost_ret (results_cell_row rfl _ _ gb258 28 #[.int .i64 a0_0, .slice Ao30 x263001_1.length co30] (0, 0) _ rfl (by refine pK ?_; refine blk_put (cs := #[.int .i64 a0_0, .slice none 0 0]) ?_ 1 _ rfl; refine pK ?_; refine blk_put (cs := #[.int .i64 0, .slice none 0 0]) ?_ 0 _ rfl; refine pK ?_; exact BK258.out) Try.underlying28 rfl (by kernel_rfl)) rfl ?_
    exact ⟨_, mE, by (with_reducible repeat (first | apply Kd.S_alloc | apply Kd.S_drewN | apply Kd.S_drew)); exact Kd.S_mono (Kd.S_far (p := ⟨gb258, 1, none⟩) (Kd.S_far (p := ⟨gb258, 0, none⟩) (Kd.S_types HO_263001.out BK258.out (by decide)) (fun _ hk => hk.2) (.int .i64 a0_0)) (fun _ hk => hk.2) (.slice Ao30 x263001_1.length co30)) (fun _ hk => trivial), mG⟩
   rw [if_pos c14] at H
   have c14b0 : decide (x13_1 < (l0_1.length : Int)) = true := decide_eq_true c14
   clear c14
   by_cases c15 : 0 ≤ x13_1
   rotate_left
   ·
    rw [if_neg c15] at H
    exact absurd H (by simp)
   rw [if_pos c15] at H
   have c15b0 : decide (0 ≤ x13_1) = true := decide_eq_true c15
   clear c15
   by_cases c16 : x13_1 < (l0_1.length : Int)
   rotate_left
   ·
    rw [if_neg c16] at H
    exact absurd H (by simp)
   rw [if_pos c16] at H
   have c16b0 : decide (x13_1 < (l0_1.length : Int)) = true := decide_eq_true c16
   clear c16
   replace H := Option.bind_eq_some_iff.mp H
   obtain ⟨t264, A170, H⟩ := H
   have A17 := Aside0.mk A170
   clear A170
   by_cases c18 : x263001_1.length < 5864062014805
   rotate_left
   ·
    rw [if_neg c18] at H
    exact absurd H (by simp)
   rw [if_pos c18] at H
   have LMc18 := Aside0.mk c18
   clear c18
   obtain ⟨y267, hy267⟩ : ∃ y_ : List (List Int), y_ = (x263001_1 ++ [t264]) := ⟨_, rfl⟩
   replace H : (impl_cloneGraph.l0 k1 l0_1 (l0_1.length : Int) (wrap64 (x13_1 + 1)) a0_0 y267) = some (r1, r2) := by first | (rw [hy267]; with_reducible exact H) | (have H2_ := (Option.bind_some _ _).symm.trans H; rw [hy267]; with_reducible exact H2_) | (have H2_ := (Option.bind_some _ _).symm.trans H; with_reducible exact H2_) | with_reducible exact H | (rw [hy267]; exact H) | exact H
   have Ny267 := Aside0.mk hy267
   clear hy267
   have H' := Aside0.mk H
   clear H
   have p263 : 0 ≤ (x13_1 : Int) := mD
   have q263 : x13_1 < (l0_1.length : Int) := mD
   obtain ⟨ad263, A263_0, c263_0, e263, hx263_0, hl263_0, hi263_0⟩ := at_L1 HR0_1.out x13_1 p263 q263
   cases e263
   replace hx263_0 := (HB.out.cell (World.block_lt_of_cell? w _ hx263_0)).trans hx263_0
   have HR263_0 := Aside0.mk hi263_0
   have HC263_0 := Aside0.mk hl263_0
   clear hi263_0 hl263_0
   replace p263 := eq_true p263
   replace q263 := eq_true q263
   try go_wp2
   have n0_ := Aside0.mk (Kd.S_drew HO_263001.out)
   have n1_ := Aside0.mk (blk_drew BK257.out)
   have n2_ := Aside0.mk (blk_drew BK258.out)
   have n3_ := Aside0.mk (blk_drew BK262.out)
   have n4_ := Aside0.mk (below_drew1 HB.out)
   clear HO_263001 BK257 BK258 BK262 HB; have HO_263001 := n0_; have BK257 := n1_; have BK258 := n2_; have BK262 := n3_; have HB := n4_; clear n0_ n1_ n2_ n3_ n4_
   refine start_ (n := 8) (S := fun w' => w'.cell? ⟨gb262, 0, none⟩ = some (.int .i64 a0_0) ∧ w'.cell? ⟨gb262, 1, none⟩ = some (u263001)) (ds := [7]) (L_ 0 8) (by kernel_rfl) rfl rfl ⟨(blk_cell BK262.out 0).trans rfl, (blk_cell BK262.out 1).trans rfl⟩ (fun hHeld => ?_); refine with_tabW impl_cloneGraph.tab5 impl_cloneGraph.bits5 (fun HT_ HW_ => ?_)
   generalize wr.drew = w19 at HO_263001 BK257 BK258 BK262 HB hHeld ⊢
   refine ps 0 17 (L_ 1 8) HT_.out ?_
   refine ps 2 19 #[true, false, true, false, false, false, false, false] HT_.out ?_
   refine take_ (i := 1) (N := some 18) (v := ?_) (a' := ?_) (L_ 3 8) rfl rfl (take_ofW HT_.out HW_.out (by kernel_rfl)) (fun _ _ _ h => h) (Or.inl ⟨by rfl, ?_⟩) hHeld ?_ ?_
   rotate_left
   ·
    rintro w' ⟨s0, s1⟩
    go_simp
    with_reducible rfl
   rotate_left
   ·
    simp only [Act.put, List.setIfInBounds_toArray, List.set_cons_zero, List.set_cons_succ, i64_w, i32_w]
    rfl
   refine one_ (i := 3) (N := some 20) (L_ 4 8) rfl rfl (one_of HT_.out (by kernel_rfl)) (by decide) (fun K hK => ?_)
   refine goes_ Try.func44 (by kernel_rfl) rfl #[.slice A263_0 (rd_L1 l0_1 x13_1).length c263_0] (by rfl) rfl rfl mA ?_
   with_reducible refine (slices_Clone_int_int.calls _ _ (rd_L1 l0_1 x13_1) t264 _ ?side1 ?side2 A17.out).mono ?_
   (case side1 => exact mC (Kd.C_below HR263_0.out HB.out))
   (case side2 => exact HC263_0.out)
   rintro e w20 ⟨v265, rfl, ho0, hb⟩
   refine ⟨_, rfl, ?_⟩
   have n0_ := Aside0.mk (Kd.S_elder' (mS HO_263001.out) (Kd.R_base ho0) hb)
   have n1_ := Aside0.mk (Kd.R_lower ho0 (below_size mG))
   have n2_ := Aside0.mk (blk_below (g := gb257) (o := .cells #[.int .i64 a0_0, .slice (some ad263) l0_1.length c0_1] 28 (0, 0)) ((mK (BK257.out))) hb)
   have n3_ := Aside0.mk (blk_below (g := gb258) (o := .cells #[.int .i64 0, .slice none 0 0] 28 (0, 0)) ((mK (BK258.out))) hb)
   have n4_ := Aside0.mk (blk_below (g := gb262) (o := .cells #[.int .i64 a0_0, u263001] 28 (0, 0)) ((mK (BK262.out))) hb)
   have n5_ := Aside0.mk (below_step mG hb)
   clear HO_263001 BK257 BK258 BK262 HB; have HO_263001 := n0_; have HO266 := n1_; have BK257 := n2_; have BK258 := n3_; have BK262 := n4_; have HB := n5_; clear n0_ n1_ n2_ n3_ n4_ n5_; (try clear hb); (try clear ho0)
   obtain ⟨Ao22, co22, eo22⟩ := Kd.R_slice HO266.out
   (first | subst eo22 | (injection eo22 with f1_ f2_ f3_; have f4_ := f1_.symm; have f5_ := f3_.symm; clear f1_ f2_ f3_; subst f4_; subst f5_))
   refine hK.out _ _ ⟨(blk_cell BK262.out 0).trans rfl, (blk_cell BK262.out 1).trans rfl⟩ (fun hHeld => ?_)
   clear hK K
   refine norm_ (a' := ?_) ?_ ?_
   rotate_left
   ·
    show Act.put _ (some 20) _ = _
    simp only [Act.put, List.setIfInBounds_toArray, List.set_cons_zero, List.set_cons_succ, i64_w, i32_w]
    rfl
   refine one_ (i := 4) (N := some 21) (L_ 5 8) rfl rfl (one_of HT_.out (by kernel_rfl)) (by decide) (fun K hK => ?_)
   refine value_ (w1 := ?_) (v := ?_) (by rfl) rfl ?_ ?_
   rotate_left 2
   ·
    go_simp
    constructor
    ·
     rfl
    ·
     rfl
   refine hK.out _ _ ⟨(blk_cell (blk_alloc BK262.out _) 0).trans rfl, (blk_cell (blk_alloc BK262.out _) 1).trans rfl⟩ (fun hHeld => ?_)
   clear hK K
   refine norm_ (a' := ?_) ?_ ?_
   rotate_left
   ·
    show Act.put _ (some 21) _ = _
    simp only [Act.put, List.setIfInBounds_toArray, List.set_cons_zero, List.set_cons_succ, i64_w, i32_w]
    rfl
   refine one_ (i := 5) (N := some 22) (L_ 6 8) rfl rfl (one_of HT_.out (by kernel_rfl)) (by decide) (fun K hK => ?_)
   refine Kd.S_append_step (Kd.slice 3 (Kd.int .i64)) (w0 := w) w.heap.size (by rfl) (.tmp 18) (.tmp 21) 22 25 (.slice none 0 0) 24 rfl Try.underlying22 info25 rfl (by decide) (by omega) u263001 x263001_1 t264 [.slice Ao22 t264.length co22] (fun _ => True) (fun k_ => some k_ = (.slice Ao22 t264.length co22 : Value).ownBlock) rfl rfl ?aP (fun k_ hk_ => ((Kd.R_mono (ok' := fun k_ => ((fun _ => True)) k_ ∧ some k_ ≠ (u263001 : Value).ownBlock) (Kd.R_apart' (HO266.out) (Kd.S_typed HO_263001.out) (by decide)) (fun k_ hk => ⟨trivial, hk.2⟩))).1 k_ hk_.symm) ?aF ?aO ?aB ?aS ?aL ?_
   (case aP => exact Kd.M_row (Kd.R_mono (Kd.R_tight rfl (Kd.R_mono (ok' := fun k_ => ((fun _ => True)) k_ ∧ some k_ ≠ (u263001 : Value).ownBlock) (Kd.R_apart' (HO266.out) (Kd.S_typed HO_263001.out) (by decide)) (fun k_ hk => ⟨trivial, hk.2⟩))) (fun _ h_ => h_)))
   (case aB => exact mG)
   (case aF => exact (fun _ _ => trivial))
   (case aO => exact (mS (Kd.S_mono HO_263001.out (fun k_ hk => ⟨trivial, fun e_ => hk.2 e_⟩))))
   (case aS => exact (below_size mG))
   (case aL => have := LMc18.out; omega)
   intro v268 w21 ho hb hg hat
   rw [← Ny267.out] at ho
   have n0_ := Aside0.mk (blk_grown (g := gb257) (o := .cells #[.int .i64 a0_0, .slice (some ad263) l0_1.length c0_1] 28 (0, 0)) ((mK (BK257.out))) hg (Kd.S_ne HO_263001.out BK257.out (by decide)))
   have n1_ := Aside0.mk (blk_grown (g := gb258) (o := .cells #[.int .i64 0, .slice none 0 0] 28 (0, 0)) ((mK (BK258.out))) hg (Kd.S_ne HO_263001.out BK258.out (by decide)))
   have n2_ := Aside0.mk (blk_grown (g := gb262) (o := .cells #[.int .i64 a0_0, u263001] 28 (0, 0)) ((mK (BK262.out))) hg (Kd.S_ne HO_263001.out BK262.out (by decide)))
   have n3_ := Aside0.mk (hb)
   have n4_ := Aside0.mk (ho)
   clear BK257 BK258 BK262 HB HO_263001 HO266; have BK257 := n0_; have BK258 := n1_; have BK262 := n2_; have HB := n3_; have HO269 := n4_; clear n0_ n1_ n2_ n3_ n4_; clear ho hb hg hat
   obtain ⟨Ao23, co23, eo23⟩ := Kd.S_slice HO269.out
   (first | subst eo23 | (injection eo23 with f1_ f2_ f3_; have f4_ := f1_.symm; have f5_ := f3_.symm; clear f1_ f2_ f3_; subst f4_; subst f5_))
   refine hK.out _ _ ⟨(blk_cell BK262.out 0).trans rfl, (blk_cell BK262.out 1).trans rfl⟩ (fun hHeld => ?_)
   clear hK K
   refine norm_ (a' := ?_) ?_ ?_
   rotate_left
   ·
    show Act.put _ (some 22) _ = _
    simp only [Act.put, List.setIfInBounds_toArray, List.set_cons_zero, List.set_cons_succ, i64_w, i32_w]
    rfl
   refine ps 6 23 (L_ 7 8) HT_.out ?_
   refine last_ (i := 7) (N := none) (L_ 8 8) rfl rfl (one_of HT_.out (by kernel_rfl)) (by decide) (fun K hK => ?_)
   have hs24 : w21.cell? ⟨gb262, 1, none⟩ = some (u263001) := (blk_cell BK262.out 1).trans rfl
   have hfs24 := blk_frozen BK262.out 1
   have hns24_0 := NB257_262.out
   have hns24_1 := NB258_262.out
   have hms24_0 := NB262_257.out
   have hms24_1 := NB262_258.out
   refine skip_ (w1 := ?_) (by rfl) rfl ?_ ?_
   rotate_left
   ·
    go_simp
    rfl
   refine hK.out _ _ ?_
   clear hK K
   refine done_ (done_of HT_.out (by kernel_rfl)) ?_
   try go_wp2
   go_roundg k1
   case measure => have := HK1.out; omega
   case rel => exact ⟨(wrap64 (x13_1 + 1)), (y267), (.slice Ao23 y267.length co23), mF, H', ⟨by have := HK1.out; omega⟩, ⟨by (with_reducible repeat (first | apply Kd.S_alloc | apply Kd.S_drewN | apply Kd.S_drew)); exact Kd.S_mono (Kd.S_far (p := ⟨gb262, 1, none⟩) (Kd.S_types HO269.out BK262.out (by decide)) (fun _ hk => hk.2) (.slice Ao23 y267.length co23)) (fun _ hk => trivial)⟩, ⟨by refine pK ?_; refine blk_far ?_ NB257_262.out _; refine pK ?_; exact BK257.out⟩, ⟨by refine pK ?_; refine blk_far ?_ NB258_262.out _; refine pK ?_; exact BK258.out⟩, ⟨by refine pK ?_; refine blk_put (cs := #[.int .i64 a0_0, u263001]) ?_ 1 _ rfl; refine pK ?_; exact BK262.out⟩, ⟨mG⟩⟩
-- NOT PRINTED: function 46 (slices_overlaps_int)

-- NOT PRINTED: function 50 (slices_Reverse_int_int)

-- NOT PRINTED: function 49 (slices_rotateLeft_int)

-- NOT PRINTED: function 47 (slices_rotateRight_int)

-- NOT PRINTED: function 39 (slices_Insert_int_int)


/-! ### impl_AddAttack: function 25 -/
def impl_AddAttack.ins (l : List (List Int)) (i : Int) (p : List Int) : Option (List (List Int)) := if 0 ≤ i ∧ i ≤ (l.length : Int) ∧ l.length < 5000000000000 then some (l.take i.toNat ++ p :: l.drop i.toNat) else none
mutual
def impl_AddAttack.j1 : Nat → List Int → Int → Int → List (List Int) → Int → List (List Int) → Option (Int × (List (List Int)) × Bool)
 | 0, _, _, _, _, _, _ => none
 | k + 1, x9, x10, x0, x1, y0, y1 => (impl_AddAttack.ins y1 x10 x9).bind fun t409 => ((impl_IsGraph.f k y0 t409).bind fun t412 => (if t412 = true then (some (y0, t409, true)) else ((impl_cloneGraph.f k x0 x1).bind fun bt413 => (some (bt413.1, bt413.2, false)))))
def impl_AddAttack.l0 : Nat → List Int → Int → Int → List (List Int) → Int → List (List Int) → Option (Int × (List (List Int)) × Bool)
 | 0, _, _, _, _, _, _ => none
 | k + 1, x9, x10, x0, x1, y0, y1 => if x10 < (y1.length : Int) then (if 0 ≤ x10 then ((slices_Compare_int_int.f k (rd_L1 y1 x10) x9).bind fun t405 => (if t405 < 0 then (impl_AddAttack.l0 k x9 (wrap64 (x10 + 1)) x0 x1 y0 y1) else (impl_AddAttack.j1 k x9 x10 x0 x1 y0 y1))) else (none)) else (impl_AddAttack.j1 k x9 x10 x0 x1 y0 y1)
end
def impl_AddAttack.f (k : Nat) (a0_0 : Int) (l0_1 : List (List Int)) (a1 : Int) (a2 : Int) : Option (Int × (List (List Int)) × Bool) := (impl_cloneGraph.f k a0_0 l0_1).bind fun bt396 => (impl_AddAttack.l0 k (([a1, a2] : List Int)) 0 a0_0 l0_1 bt396.1 bt396.2)
theorem impl_AddAttack.mono_l : ∀ k, (∀ y0 y1 y2 y3 y4 y5, LeO (impl_AddAttack.j1 k y0 y1 y2 y3 y4 y5) (impl_AddAttack.j1 (k + 1) y0 y1 y2 y3 y4 y5)) ∧ (∀ y0 y1 y2 y3 y4 y5, LeO (impl_AddAttack.l0 k y0 y1 y2 y3 y4 y5) (impl_AddAttack.l0 (k + 1) y0 y1 y2 y3 y4 y5))
 | 0 => ⟨fun _ _ _ _ _ _ r h => by simp [impl_AddAttack.j1] at h, fun _ _ _ _ _ _ r h => by simp [impl_AddAttack.l0] at h⟩
 | k + 1 => by
  obtain ⟨ih0, ih1⟩ := impl_AddAttack.mono_l k
  refine ⟨?_, ?_⟩
  ·
   intro y0 y1 y2 y3 y4 y5
   unfold impl_AddAttack.j1
   repeat' with_reducible first | exact ih0 _ _ _ _ _ _ | exact ih1 _ _ _ _ _ _ | exact impl_IsGraph.mono _ _ _ | exact impl_cloneGraph.mono _ _ _ | exact LeO.refl _ | exact LeO.none _ | refine LeO.ite ?_ ?_ | refine LeO.bind ?_ (fun _ => ?_)
  ·
   intro y0 y1 y2 y3 y4 y5
   unfold impl_AddAttack.l0
   repeat' with_reducible first | exact ih0 _ _ _ _ _ _ | exact ih1 _ _ _ _ _ _ | exact slices_Compare_int_int.mono _ _ _ | exact LeO.refl _ | exact LeO.none _ | refine LeO.ite ?_ ?_ | refine LeO.bind ?_ (fun _ => ?_)
theorem impl_AddAttack.mono : ∀ a0 a1 a2 a3 k, LeO (impl_AddAttack.f k a0 a1 a2 a3) (impl_AddAttack.f (k + 1) a0 a1 a2 a3) := by
 intro a0 a1 a2 a3 k
 unfold impl_AddAttack.f
 exact LeO.bind (impl_cloneGraph.mono _ _ _) (fun _ => (impl_AddAttack.mono_l k).2 _ _ _ _ _ _)
set_option maxHeartbeats 8000000 in
set_option maxRecDepth 100000 in
theorem impl_AddAttack.calls (k : Nat) (a0_0 : Int) (A0_1 : Option Addr) (c0_1 : Nat) (l0_1 : List (List Int)) (a1 : Int) (a2 : Int) (r1 : Int) (r2 : List (List Int)) (r3 : Bool) (w : World) (hr0_1 : Kd.C (Kd.slice 3 (Kd.int .i64)) w A0_1 l0_1.length l0_1) (hc0_1 : l0_1.length ≤ c0_1) (h : impl_AddAttack.f k a0_0 l0_1 a1 a2 = some (r1, r2, r3)) :
  Calls Try.prog 25 #[.agg #[.int .i64 a0_0, .slice A0_1 l0_1.length c0_1], .int .i64 a1, .int .i64 a2] w fun e w' => ∃ v1_ : Value, e = .returned (.tuple #[.agg #[.int .i64 r1, v1_], .bool r3]) ∧ Kd.S (Kd.slice 3 (Kd.int .i64)) 25 w' w.heap.size (fun _ => True) v1_ r2 ∧ Below w.heap.size w w' := by
 have hu28 := Try.underlying28
 have HR0_1 := Aside0.mk hr0_1
 have HC0_1 := Aside0.mk hc0_1
 clear hr0_1 hc0_1
 have HB := Aside0.mk (Below.refl w.heap.size w)
 obtain ⟨⟨t396, t397⟩, A40, H⟩ := Option.bind_eq_some_iff.mp (show ((impl_cloneGraph.f k a0_0 l0_1).bind fun bt396 => (impl_AddAttack.l0 k (([a1, a2] : List Int)) 0 a0_0 l0_1 bt396.1 bt396.2)) = some (r1, r2, r3) from h)
 try dsimp only at H
 have A4 := Aside0.mk A40
 clear A40 h
 obtain ⟨y401, hy401⟩ : ∃ y_ : List Int, y_ = (([a1, a2] : List Int)) := ⟨_, rfl⟩
 rw [← hy401] at H
 have Ny401 := Aside0.mk hy401
 clear hy401
 have HC5 := Aside0.mk H
 clear H
 go_enter Try.func25, Try.ntmps25
 go_upto_block 0 with (first
  | ((with_reducible refine gate_dst (N := 3) rfl ?_); refine box_event ?hg (N := 3) ?hd (cs := #[.int .i64 a0_0, .slice A0_1 l0_1.length c0_1]) (t := 28) ?hr ?_; (case hd => rfl); (case hg => rfl); (case hr => first | (go_simp; done) | (go_simp; rfl)); intro gb394 hg w6 hbox hb; have n0_ := Aside0.mk (below_step (mB HB.out) hb); have n1_ := Aside0.mk (hbox); have GE394 := Aside0.mk ((by rw [hg]; exact (below_size (mB HB.out)) : w.heap.size ≤ gb394)); clear HB; have HB := n0_; have BK394 := n1_; clear n0_ n1_; clear hb hbox hg)
  | ((with_reducible refine gate_dst (N := 6) rfl ?_); refine box_event ?hg (N := 6) ?hd (cs := #[.int .i64 0, .slice none 0 0]) (t := 28) ?hr ?_; (case hd => rfl); (case hg => rfl); (case hr => first | (go_simp; done) | (go_simp; rfl)); intro gb395 hg w7 hbox hb; have n0_ := Aside0.mk (blk_below (g := gb394) (o := .cells #[.int .i64 a0_0, .slice A0_1 l0_1.length c0_1] 28 (0, 0)) (mK BK394.out) hb); have n1_ := Aside0.mk (below_step mG hb); have GE395 := Aside0.mk ((by rw [hg]; exact (below_size mG) : w.heap.size ≤ gb395)); have NB394_395 := Aside0.mk ((by rw [hg]; exact Nat.ne_of_lt (blk_lt (g := gb394) (o := .cells #[.int .i64 a0_0, .slice A0_1 l0_1.length c0_1] 28 (0, 0)) (mK BK394.out)) : gb394 ≠ gb395)); clear BK394 HB; have BK394 := n0_; have HB := n1_; have BK395 := Aside0.mk hbox; have NB395_394 := Aside0.mk (Ne.symm NB394_395.out); clear n0_ n1_; clear hb hbox hg; have hnb8 := NB394_395.out; have hnc8 := NB395_394.out; have hcz9_0 : w7.cell? ⟨gb394, 0, none⟩ = some (.int .i64 a0_0) := (blk_cell BK394.out 0).trans rfl; have hcz9_1 : w7.cell? ⟨gb394, 1, none⟩ = some (.slice A0_1 l0_1.length c0_1) := (blk_cell BK394.out 1).trans rfl; have hfz9_0 := blk_frozen BK394.out 0; have hfz9_1 := blk_frozen BK394.out 1)
  | ((with_reducible refine gate_callee (f := 37) rfl ?_); refine goesL_ (some 12) rfl rfl Try.func37 (by kernel_rfl) rfl #[.agg #[.int .i64 a0_0, .slice A0_1 l0_1.length c0_1]] rfl mA ?_; (with_reducible refine (impl_cloneGraph.calls k a0_0 _ _ l0_1 t396 t397 _ ?side1 ?side2 A4.out).mono ?_); (case side1 => exact mC (Kd.C_below HR0_1.out HB.out)); (case side2 => exact HC0_1.out); rintro e w10 ⟨v398, rfl, ho0, hb⟩; refine ⟨_, rfl, ?_⟩; have n0_ := Aside0.mk (Kd.S_lower ho0 (below_size mG)); have n1_ := Aside0.mk (blk_below (g := gb394) (o := .cells #[.int .i64 a0_0, .slice A0_1 l0_1.length c0_1] 28 (0, 0)) (mK BK394.out) hb); have n2_ := Aside0.mk (blk_below (g := gb395) (o := .cells #[.int .i64 0, .slice none 0 0] 28 (0, 0)) (mK BK395.out) hb); have n3_ := Aside0.mk (below_step mG hb); clear BK394 BK395 HB; have HO399 := n0_; have BK394 := n1_; have BK395 := n2_; have HB := n3_; clear n0_ n1_ n2_ n3_; (try clear hb); (try clear ho0))
  | ((with_reducible refine gate_dst (N := 8) rfl ?_); refine box_event ?hg (N := 8) ?hd (cs := #[.int .i64 0, .slice none 0 0]) (t := 28) ?hr ?_; (case hd => rfl); (case hg => rfl); (case hr => first | (go_simp; done) | (go_simp; rfl)); intro gb400 hg w11 hbox hb; have n0_ := Aside0.mk (Kd.S_below (mS HO399.out) hb); have n1_ := Aside0.mk (blk_below (g := gb394) (o := .cells #[.int .i64 a0_0, .slice A0_1 l0_1.length c0_1] 28 (0, 0)) (mK BK394.out) hb); have n2_ := Aside0.mk (blk_below (g := gb395) (o := .cells #[.int .i64 0, .slice none 0 0] 28 (0, 0)) (mK BK395.out) hb); have n3_ := Aside0.mk (below_step mG hb); have GE400 := Aside0.mk ((by rw [hg]; exact (below_size mG) : w.heap.size ≤ gb400)); have NB394_400 := Aside0.mk ((by rw [hg]; exact Nat.ne_of_lt (blk_lt (g := gb394) (o := .cells #[.int .i64 a0_0, .slice A0_1 l0_1.length c0_1] 28 (0, 0)) (mK BK394.out)) : gb394 ≠ gb400)); have NB395_400 := Aside0.mk ((by rw [hg]; exact Nat.ne_of_lt (blk_lt (g := gb395) (o := .cells #[.int .i64 0, .slice none 0 0] 28 (0, 0)) (mK BK395.out)) : gb395 ≠ gb400)); have NB400_394 := Aside0.mk (Ne.symm NB394_400.out); have NB400_395 := Aside0.mk (Ne.symm NB395_400.out); clear HO399 BK394 BK395 HB; have HO399 := n0_; have BK394 := n1_; have BK395 := n2_; have HB := n3_; have BK400 := Aside0.mk hbox; clear n0_ n1_ n2_ n3_; clear hb hbox hg; have hnb12 := NB400_394.out; have hnc12 := NB394_400.out; have hnb13 := NB400_395.out; have hnc13 := NB395_400.out; have hcz14_0 : w11.cell? ⟨gb400, 0, none⟩ = some (.int .i64 0) := (blk_cell BK400.out 0).trans rfl; have hcz14_1 : w11.cell? ⟨gb400, 1, none⟩ = some (.slice none 0 0) := (blk_cell BK400.out 1).trans rfl; have hfz14_0 := blk_frozen BK400.out 0; have hfz14_1 := blk_frozen BK400.out 1; obtain ⟨Ao15, co15, eo15⟩ := Kd.S_slice HO399.out; subst eo15)
  | ((with_reducible refine gate_dst (N := 15) rfl ?_); refine Kd.R_lit (Kd.int .i64) _ 3 ?hg (N := 15) ?hd (xs := ([a1, a2] : List Int)) (inner := [.int .i64 a1, .int .i64 a2]) (ok := fun _ => True) (okp := fun _ => True) ?hr ?hp (fun _ hk => hk) trivial (Below.refl _ _) (Nat.le_refl _) (by simp) ?_; (case hd => rfl); (case hg => rfl); (case hr => first | (go_simp; done) | (go_simp; rfl)); (case hp => exact (Reps.one (show Kd.M (Kd.int .i64) _ _ _ a1 [.int .i64 a1] from rfl) (Reps.one (show Kd.M (Kd.int .i64) _ _ _ a2 [.int .i64 a2] from rfl) (Reps.none _ _)))); intro v402 w16 ho17 hb hg_ hnew_; clear hg_ hnew_; (first | rw [← Ny401.out] at ho17 | (simp only [Int.reduceToNat] at ho17; rw [← Ny401.out] at ho17)); have n0_ := Aside0.mk (Kd.S_elder' (d := Kd.slice 3 (Kd.int .i64)) (e := 25) (base := w.heap.size) (ok := fun _ => True) (u := .slice Ao15 t397.length co15) (xs := t397) (by refine pS ?_; refine Kd.S_mono (ok := fun k_ => True ∧ k_ ≠ gb400) (Kd.S_far (p := ⟨gb400, 1, none⟩) ?_ (fun _ hk => hk.2) _) (fun _ h_ => h_.1); refine pS ?_; refine Kd.S_far (p := ⟨gb400, 0, none⟩) ?_ (fun _ hk => hk.2) _; refine pS ?_; exact Kd.S_types HO399.out BK400.out (by decide)) (Kd.R_base ho17) hb); have n1_ := Aside0.mk (Kd.R_lower ho17 (below_size mG)); have n2_ := Aside0.mk (blk_below (g := gb394) (o := .cells #[.int .i64 a0_0, .slice A0_1 l0_1.length c0_1] 28 (0, 0)) (by refine pK ?_; refine blk_far ?_ NB394_400.out _; refine pK ?_; refine blk_far ?_ NB394_400.out _; refine pK ?_; exact BK394.out) hb); have n3_ := Aside0.mk (blk_below (g := gb395) (o := .cells #[.int .i64 0, .slice none 0 0] 28 (0, 0)) (by refine pK ?_; refine blk_far ?_ NB395_400.out _; refine pK ?_; refine blk_far ?_ NB395_400.out _; refine pK ?_; exact BK395.out) hb); have n4_ := Aside0.mk (blk_below (g := gb400) (o := .cells #[.int .i64 t396, .slice Ao15 t397.length co15] 28 (0, 0)) (by refine pK ?_; refine blk_put (cs := #[.int .i64 t396, .slice none 0 0]) ?_ 1 _ rfl; refine pK ?_; refine blk_put (cs := #[.int .i64 0, .slice none 0 0]) ?_ 0 _ rfl; refine pK ?_; exact BK400.out) hb); have n5_ := Aside0.mk (below_step mG hb); clear HO399 BK394 BK395 BK400 HB; have HO399 := n0_; have HO403 := n1_; have BK394 := n2_; have BK395 := n3_; have BK400 := n4_; have HB := n5_; clear n0_ n1_ n2_ n3_ n4_ n5_; clear hb ho17))
 (try simp only [Act.put, List.setIfInBounds_toArray, List.set_cons_zero, List.set_cons_succ])
 go_cut [10] (fun v10 wc => ∃ (kq : Nat) (x10_4 : Int), v10 = .int .i64 x10_4 ∧ Aside0 (impl_AddAttack.j1 kq y401 x10_4 a0_0 l0_1 t396 t397 = some (r1, r2, r3)) ∧ Aside0 (kq ≤ k) ∧ Aside0 (Kd.R (Kd.int .i64) 3 wc w.heap.size (fun _ => True) v402 y401) ∧ Aside0 (Kd.S (Kd.slice 3 (Kd.int .i64)) 25 wc w.heap.size (fun k_ => True ∧ some k_ ≠ (v402 : Value).ownBlock) (.slice Ao15 t397.length co15) t397) ∧ Aside0 (wc.heap[gb394]? = some (.cells #[.int .i64 a0_0, .slice A0_1 l0_1.length c0_1] 28 (0, 0))) ∧ Aside0 (wc.heap[gb395]? = some (.cells #[.int .i64 0, .slice none 0 0] 28 (0, 0))) ∧ Aside0 (wc.heap[gb400]? = some (.cells #[.int .i64 t396, (.slice Ao15 t397.length co15)] 28 (0, 0))) ∧ Aside0 (Below w.heap.size w wc))
 case first =>
  have H' := Aside0.mk HC5.out
  clear HC5
  go_wp2
  go_loopg [10] k (fun kq v10 w' => ∃ (x10_1 : Int), v10 = .int .i64 x10_1 ∧ Aside0 (impl_AddAttack.l0 kq y401 x10_1 a0_0 l0_1 t396 t397 = some (r1, r2, r3)) ∧ Aside0 (kq ≤ k) ∧ Aside0 (Kd.R (Kd.int .i64) 3 w' w.heap.size (fun _ => True) v402 y401) ∧ Aside0 (Kd.S (Kd.slice 3 (Kd.int .i64)) 25 w' w.heap.size (fun k_ => True ∧ some k_ ≠ (v402 : Value).ownBlock) (.slice Ao15 t397.length co15) t397) ∧ Aside0 (w'.heap[gb394]? = some (.cells #[.int .i64 a0_0, .slice A0_1 l0_1.length c0_1] 28 (0, 0))) ∧ Aside0 (w'.heap[gb395]? = some (.cells #[.int .i64 0, .slice none 0 0] 28 (0, 0))) ∧ Aside0 (w'.heap[gb400]? = some (.cells #[.int .i64 t396, (.slice Ao15 t397.length co15)] 28 (0, 0))) ∧ Aside0 (Below w.heap.size w w'))
  case atStart => exact ⟨(0), mF, H', ⟨Nat.le_refl _⟩, ⟨mR HO403.out⟩, ⟨mS HO399.out⟩, ⟨mK BK394.out⟩, ⟨mK BK395.out⟩, ⟨mK BK400.out⟩, ⟨mG⟩⟩
  case round =>
   clear H'
   (try clear hcz14_0); (try clear hcz14_1); (try clear hcz9_0); (try clear hcz9_1); (try clear hfz14_0); (try clear hfz14_1); (try clear hfz9_0); (try clear hfz9_1)
   obtain ⟨x10_1, rfl, HA, HK1, HO_9, HO_S, BK394, BK395, BK400, HB⟩ := hrel
   cases gk with
   | zero => exact absurd HA.out (by simp [impl_AddAttack.l0])
   | succ k1 =>
    have H := HA.out
    clear HA
    simp only [impl_AddAttack.l0] at H
    have hcz24_0 : wr.cell? ⟨gb400, 0, none⟩ = some (.int .i64 t396) := (blk_cell BK400.out 0).trans rfl
    have hcz24_1 : wr.cell? ⟨gb400, 1, none⟩ = some (.slice Ao15 t397.length co15) := (blk_cell BK400.out 1).trans rfl
    have hfz24_0 := blk_frozen BK400.out 0
    have hfz24_1 := blk_frozen BK400.out 1
    by_cases c18 : x10_1 < (t397.length : Int)
    rotate_left
    ·
     rw [if_neg c18] at H
     have c18b0 : decide (x10_1 < (t397.length : Int)) = false := decide_eq_false c18
     clear c18
     (first | rw [c18b0] | (simp only [i64_w, i32_w]; rw [c18b0]) | skip)
     have H' := Aside0.mk H
     clear H
     go_wp2
     go_meet
     case rel => exact ⟨_, (x10_1), mF, H', ⟨by have := HK1.out; first | omega | exact Nat.le_refl _⟩, ⟨mR HO_9.out⟩, ⟨mS HO_S.out⟩, ⟨mK BK394.out⟩, ⟨mK BK395.out⟩, ⟨mK BK400.out⟩, ⟨mG⟩⟩
    rw [if_pos c18] at H
    have c18b0 : decide (x10_1 < (t397.length : Int)) = true := decide_eq_true c18
    clear c18
    (first | rw [c18b0] | (simp only [i64_w, i32_w]; rw [c18b0]) | skip)
    by_cases c19 : 0 ≤ x10_1
    rotate_left
    ·
     rw [if_neg c19] at H
     exact absurd H (by simp)
    rw [if_pos c19] at H
    have c19b0 : decide (0 ≤ x10_1) = true := decide_eq_true c19
    clear c19
    obtain ⟨t405, A200, H⟩ := Option.bind_eq_some_iff.mp H
    have A20 := Aside0.mk A200
    clear A200
    have p404 : 0 ≤ (x10_1 : Int) := mD
    have q404 : x10_1 < (t397.length : Int) := mD
    obtain ⟨ad404, A404_0, c404_0, e404, hx404_0, hl404_0, hi404_0⟩ := at_L1 (Kd.S_reads' HO_S.out).2.2 x10_1 p404 q404
    cases e404
    have HR404_0 := Aside0.mk hi404_0
    have HC404_0 := Aside0.mk hl404_0
    clear hi404_0 hl404_0
    replace p404 := eq_true p404
    replace q404 := eq_true q404
    obtain ⟨Ao25, co25, eo25⟩ := Kd.R_slice HO_9.out
    subst eo25
    by_cases c21 : t405 < 0
    rotate_left
    ·
     rw [if_neg c21] at H
     have c21b0 : decide (t405 < 0) = false := decide_eq_false c21
     clear c21
     have H' := Aside0.mk H
     clear H
     go_wp2_with (go_at_call 38; (with_reducible refine (slices_Compare_int_int.calls k1 _ _ (rd_L1 t397 x10_1) _ _ y401 t405 _ ?side1 ?side2 ?side3 ?side4 A20.out).mono ?_); (case side1 => exact (mC HR404_0.out)); (case side2 => exact HC404_0.out); (case side3 => exact mC (Kd.R_reads' HO_9.out).2.2); (case side4 => exact (Kd.R_reads' HO_9.out).2.1); rintro e w' ⟨rfl, ⟨nd, rfl⟩⟩)
     go_meet
     case rel => exact ⟨_, (x10_1), mF, H', ⟨by have := HK1.out; first | omega | exact Nat.le_refl _⟩, ⟨mR HO_9.out⟩, ⟨mS HO_S.out⟩, ⟨mK BK394.out⟩, ⟨mK BK395.out⟩, ⟨mK BK400.out⟩, ⟨mG⟩⟩
    rw [if_pos c21] at H
    have c21b0 : decide (t405 < 0) = true := decide_eq_true c21
    clear c21
    have H' := Aside0.mk H
    clear H
    go_wp2_with (go_at_call 38; (with_reducible refine (slices_Compare_int_int.calls k1 _ _ (rd_L1 t397 x10_1) _ _ y401 t405 _ ?side1 ?side2 ?side3 ?side4 A20.out).mono ?_); (case side1 => exact (mC HR404_0.out)); (case side2 => exact HC404_0.out); (case side3 => exact mC (Kd.R_reads' HO_9.out).2.2); (case side4 => exact (Kd.R_reads' HO_9.out).2.1); rintro e w' ⟨rfl, ⟨nd, rfl⟩⟩)
    go_roundg k1
    case measure => have := HK1.out; omega
    case rel => exact ⟨(wrap64 (x10_1 + 1)), mF, H', ⟨by have := HK1.out; omega⟩, ⟨mR HO_9.out⟩, ⟨mS HO_S.out⟩, ⟨mK BK394.out⟩, ⟨mK BK395.out⟩, ⟨mK BK400.out⟩, ⟨mG⟩⟩
 case rest =>
  clear HC5; (try clear hcz14_0); (try clear hcz14_1); (try clear hfz14_0); (try clear hfz14_1); (try clear hcz9_0); (try clear hcz9_1); (try clear hfz9_0); (try clear hfz9_1)
  obtain ⟨kq, x10_4, rfl, HA, HJ4, HO_9, HO_S, BK394, BK395, BK400, HB⟩ := hcut
  cases kq with
  | zero => exact absurd HA.out (by simp [impl_AddAttack.j1])
  | succ kj4 =>
   have H := HA.out
   clear HA
   simp only [impl_AddAttack.j1] at H
   obtain ⟨t409, A330, H⟩ := Option.bind_eq_some_iff.mp H
   obtain ⟨t412, A340, H⟩ := Option.bind_eq_some_iff.mp H
   have A34 := Aside0.mk A340
   clear A340
   unfold impl_AddAttack.ins at A330
   by_cases ci : 0 ≤ x10_4 ∧ x10_4 ≤ (t397.length : Int) ∧ t397.length < 5000000000000
   rotate_left
   ·
    rw [if_neg ci] at A330; cases A330
   rw [if_pos ci] at A330
   obtain ⟨ci0, ci1, ci2⟩ := ci
   obtain ⟨i, rfl⟩ : ∃ i : Nat, x10_4 = (i : Int) := ⟨x10_4.toNat, by omega⟩
   rw [Int.toNat_natCast] at A330
   have NI := Aside0.mk (Option.some.inj A330)
   clear A330
   have CI := Aside0.mk (show i ≤ t397.length by omega)
   have CL := Aside0.mk (show (t397.length + 1) * 24 ≤ 140737488355328 by omega)
   clear ci0 ci1 ci2
   have hnb36 := NB400_394.out
   have hnc36 := NB394_400.out
   have hnb37 := NB400_395.out
   have hnc37 := NB395_400.out
   have hcz38_0 : wc.cell? ⟨gb400, 0, none⟩ = some (.int .i64 t396) := (blk_cell BK400.out 0).trans rfl
   have hcz38_1 : wc.cell? ⟨gb400, 1, none⟩ = some (.slice Ao15 t397.length co15) := (blk_cell BK400.out 1).trans rfl
   have hfz38_0 := blk_frozen BK400.out 0
   have hfz38_1 := blk_frozen BK400.out 1
   obtain ⟨Ao39, co39, eo39⟩ := Kd.R_slice HO_9.out
   subst eo39
   by_cases c35 : t412 = true
   ·
    subst c35
    rw [if_pos rfl] at H
    simp only [Option.some.injEq, Prod.mk.injEq] at H
    obtain ⟨rfl, rfl, rfl⟩ := H
    go_wp2_with (first | ((with_reducible refine gate_callee (f := 39) rfl ?_); refine goesL_ (some 38) rfl rfl Try.func39 (by kernel_rfl) rfl #[.slice Ao15 t397.length co15, .int .i64 (i : Int), .slice (some ⟨wc.heap.size, 0, none⟩) 1 1] rfl mA ?_; (refine (Go.Proofs.YtpdpampmbdgofaaW.Insert.ins_S (d := Kd.slice 3 (Kd.int .i64)) (w0 := w) (B := w.heap.size) (ok := fun _ => True) (okp := fun k_ => some k_ = (.slice Ao39 y401.length co39 : Value).ownBlock) (p := y401) rfl (mS HO_S.out) (.slice Ao39 y401.length co39) ⟨_, rfl, Kd.R_tight rfl (mR HO_9.out)⟩ (fun k_ hk_ => ⟨trivial, fun e_ => by obtain ⟨_, h1_⟩ := Kd.R_typed HO_9.out k_ hk_.symm; obtain ⟨_, h2_⟩ := Kd.S_typed HO_S.out k_ e_.symm; rw [h1_] at h2_; cases h2_⟩) (fun _ _ => trivial) wc.heap.size (heap_alloc_new wc _) (fun e_ => Nat.lt_irrefl _ (Kd.S_lt HO_S.out _ e_.symm)) mG (below_size mG) i CI.out CL.out).mono ?_); rintro e w2 ⟨v1, rfl, hS_, hb, hg_⟩; refine ⟨_, rfl, ?_⟩; rw [NI.out] at hS_; have HO411 := Aside0.mk hS_; have n1_ := Aside0.mk (blk_grown (mK BK394.out) hg_ (Kd.S_ne HO_S.out BK394.out (by decide))); have n2_ := Aside0.mk (blk_grown (mK BK395.out) hg_ (Kd.S_ne HO_S.out BK395.out (by decide))); have n3_ := Aside0.mk (blk_grown (mK BK400.out) hg_ (Kd.S_ne HO_S.out BK400.out (by decide))); clear BK394 BK395 BK400 HB HO_S HO_9; have BK394 := n1_; have BK395 := n2_; have BK400 := n3_; have HB := Aside0.mk hb; clear n1_ n2_ n3_ hb hg_ hS_; have hcz44_0 : w2.cell? ⟨gb400, 0, none⟩ = some (.int .i64 t396) := (blk_cell BK400.out 0).trans rfl; have hcz44_1 : w2.cell? ⟨gb400, 1, none⟩ = some (.slice Ao15 t397.length co15) := (blk_cell BK400.out 1).trans rfl; have hfz44_0 := blk_frozen BK400.out 0; have hfz44_1 := blk_frozen BK400.out 1; obtain ⟨Ao44, co44, eo44⟩ := Kd.S_slice HO411.out; subst eo44) | ((with_reducible refine gate_callee (f := 31) rfl ?_); refine goesL_ (some 41) rfl rfl Try.func31 (by kernel_rfl) rfl #[.agg #[.int .i64 t396, .slice Ao44 t409.length co44]] rfl mA ?_; (with_reducible refine (impl_IsGraph.calls kj4 t396 _ _ t409 true _ ?side1 ?side2 A34.out).mono ?_); (case side1 => refine (Kd.S_reads' (e := 25) (base := w.heap.size) (ok := fun _ => True) (n := t409.length) (c := co44) ?_).2.2; exact (by refine pS ?_; refine Kd.S_mono (ok := fun k_ => True ∧ k_ ≠ gb400) (Kd.S_far (p := ⟨gb400, 1, none⟩) ?_ (fun _ hk => hk.2) _) (fun _ h_ => h_.1); refine pS ?_; exact Kd.S_types HO411.out BK400.out (by decide))); (case side2 => exact (Kd.S_reads' HO411.out).2.1); rintro e w46 ⟨rfl, hb⟩; refine ⟨_, rfl, ?_⟩; have n0_ := Aside0.mk (Kd.S_below (d := Kd.slice 3 (Kd.int .i64)) (e := 25) (base := w.heap.size) (ok := fun _ => True) (v := .slice Ao44 t409.length co44) (xs := t409) (by refine pS ?_; refine Kd.S_mono (ok := fun k_ => True ∧ k_ ≠ gb400) (Kd.S_far (p := ⟨gb400, 1, none⟩) ?_ (fun _ hk => hk.2) _) (fun _ h_ => h_.1); refine pS ?_; exact Kd.S_types HO411.out BK400.out (by decide)) hb); have n1_ := Aside0.mk (blk_below (g := gb394) (o := .cells #[.int .i64 a0_0, .slice A0_1 l0_1.length c0_1] 28 (0, 0)) (by refine pK ?_; refine blk_far ?_ NB394_400.out _; refine pK ?_; exact BK394.out) hb); have n2_ := Aside0.mk (blk_below (g := gb395) (o := .cells #[.int .i64 0, .slice none 0 0] 28 (0, 0)) (by refine pK ?_; refine blk_far ?_ NB395_400.out _; refine pK ?_; exact BK395.out) hb); have n3_ := Aside0.mk (blk_below (g := gb400) (o := (.cells #[.int .i64 t396, .slice Ao44 t409.length co44] 28 (0, 0))) (by refine pK ?_; refine blk_put (cs := #[.int .i64 t396, .slice Ao15 t397.length co15]) ?_ 1 _ rfl; refine pK ?_; exact BK400.out) hb); have n4_ := Aside0.mk (below_step mG hb); clear HO411 BK394 BK395 BK400 HB; have HO411 := n0_; have BK394 := n1_; have BK395 := n2_; have BK400 := n3_; have HB := n4_; clear n0_ n1_ n2_ n3_ n4_; (try clear hb); have hcz47_0 : w46.cell? ⟨gb400, 0, none⟩ = some (.int .i64 t396) := (blk_cell BK400.out 0).trans rfl; have hcz47_1 : w46.cell? ⟨gb400, 1, none⟩ = some (.slice Ao44 t409.length co44) := (blk_cell BK400.out 1).trans rfl; have hfz47_0 := blk_frozen BK400.out 0; have hfz47_1 := blk_frozen BK400.out 1; have hnb48 := NB395_394.out; have hnc48 := NB394_395.out; have hcz49_0 : w46.cell? ⟨gb395, 0, none⟩ = some (.int .i64 0) := (blk_cell BK395.out 0).trans rfl; have hcz49_1 : w46.cell? ⟨gb395, 1, none⟩ = some (.slice none 0 0) := (blk_cell BK395.out 1).trans rfl; have hfz49_0 := blk_frozen BK395.out 0; have hfz49_1 := blk_frozen BK395.out 1; have hcz50_0 : w46.cell? ⟨gb394, 0, none⟩ = some (.int .i64 a0_0) := (blk_cell BK394.out 0).trans rfl; have hcz50_1 : w46.cell? ⟨gb394, 1, none⟩ = some (.slice A0_1 l0_1.length c0_1) := (blk_cell BK394.out 1).trans rfl; have hfz50_0 := blk_frozen BK394.out 0; have hfz50_1 := blk_frozen BK394.out 1))
    refine bodyPost_ret (results_ct rfl _ _ gb395 28 #[.int .i64 t396, .slice Ao44 t409.length co44] (0, 0) _ rfl (by refine pK ?_; refine blk_put (cs := #[.int .i64 t396, .slice none 0 0]) ?_ 1 _ rfl; refine pK ?_; refine blk_put (cs := #[.int .i64 0, .slice none 0 0]) ?_ 0 _ rfl; refine pK ?_; exact BK395.out) Try.underlying28 rfl (by kernel_rfl)) rfl ?_
    exact ⟨_, mE, (by refine pS ?_; refine Kd.S_mono (ok := fun k_ => True ∧ k_ ≠ gb395) (Kd.S_far (p := ⟨gb395, 1, none⟩) ?_ (fun _ hk => hk.2) _) (fun _ h_ => h_.1); refine pS ?_; refine Kd.S_far (p := ⟨gb395, 0, none⟩) ?_ (fun _ hk => hk.2) _; refine pS ?_; exact Kd.S_types HO411.out BK395.out (by decide)), mG⟩
   replace c35 := Bool.eq_false_iff.mpr c35
   subst c35
   rw [if_neg (show ¬ (false = true) by decide)] at H
   obtain ⟨⟨t413, t414⟩, A500, H⟩ := Option.bind_eq_some_iff.mp H
   try dsimp only at H
   have A50 := Aside0.mk A500
   clear A500
   simp only [Option.some.injEq, Prod.mk.injEq] at H
   obtain ⟨rfl, rfl, rfl⟩ := H
   go_wp2_with (first | ((with_reducible refine gate_callee (f := 39) rfl ?_); refine goesL_ (some 38) rfl rfl Try.func39 (by kernel_rfl) rfl #[.slice Ao15 t397.length co15, .int .i64 (i : Int), .slice (some ⟨wc.heap.size, 0, none⟩) 1 1] rfl mA ?_; (refine (Go.Proofs.YtpdpampmbdgofaaW.Insert.ins_S (d := Kd.slice 3 (Kd.int .i64)) (w0 := w) (B := w.heap.size) (ok := fun _ => True) (okp := fun k_ => some k_ = (.slice Ao39 y401.length co39 : Value).ownBlock) (p := y401) rfl (mS HO_S.out) (.slice Ao39 y401.length co39) ⟨_, rfl, Kd.R_tight rfl (mR HO_9.out)⟩ (fun k_ hk_ => ⟨trivial, fun e_ => by obtain ⟨_, h1_⟩ := Kd.R_typed HO_9.out k_ hk_.symm; obtain ⟨_, h2_⟩ := Kd.S_typed HO_S.out k_ e_.symm; rw [h1_] at h2_; cases h2_⟩) (fun _ _ => trivial) wc.heap.size (heap_alloc_new wc _) (fun e_ => Nat.lt_irrefl _ (Kd.S_lt HO_S.out _ e_.symm)) mG (below_size mG) i CI.out CL.out).mono ?_); rintro e w2 ⟨v1, rfl, hS_, hb, hg_⟩; refine ⟨_, rfl, ?_⟩; rw [NI.out] at hS_; have HO411 := Aside0.mk hS_; have n1_ := Aside0.mk (blk_grown (mK BK394.out) hg_ (Kd.S_ne HO_S.out BK394.out (by decide))); have n2_ := Aside0.mk (blk_grown (mK BK395.out) hg_ (Kd.S_ne HO_S.out BK395.out (by decide))); have n3_ := Aside0.mk (blk_grown (mK BK400.out) hg_ (Kd.S_ne HO_S.out BK400.out (by decide))); clear BK394 BK395 BK400 HB HO_S HO_9; have BK394 := n1_; have BK395 := n2_; have BK400 := n3_; have HB := Aside0.mk hb; clear n1_ n2_ n3_ hb hg_ hS_; have hcz44_0 : w2.cell? ⟨gb400, 0, none⟩ = some (.int .i64 t396) := (blk_cell BK400.out 0).trans rfl; have hcz44_1 : w2.cell? ⟨gb400, 1, none⟩ = some (.slice Ao15 t397.length co15) := (blk_cell BK400.out 1).trans rfl; have hfz44_0 := blk_frozen BK400.out 0; have hfz44_1 := blk_frozen BK400.out 1; obtain ⟨Ao44, co44, eo44⟩ := Kd.S_slice HO411.out; subst eo44) | ((with_reducible refine gate_callee (f := 31) rfl ?_); refine goesL_ (some 41) rfl rfl Try.func31 (by kernel_rfl) rfl #[.agg #[.int .i64 t396, .slice Ao44 t409.length co44]] rfl mA ?_; (with_reducible refine (impl_IsGraph.calls kj4 t396 _ _ t409 false _ ?side1 ?side2 A34.out).mono ?_); (case side1 => refine (Kd.S_reads' (e := 25) (base := w.heap.size) (ok := fun _ => True) (n := t409.length) (c := co44) ?_).2.2; exact (by refine pS ?_; refine Kd.S_mono (ok := fun k_ => True ∧ k_ ≠ gb400) (Kd.S_far (p := ⟨gb400, 1, none⟩) ?_ (fun _ hk => hk.2) _) (fun _ h_ => h_.1); refine pS ?_; exact Kd.S_types HO411.out BK400.out (by decide))); (case side2 => exact (Kd.S_reads' HO411.out).2.1); rintro e w46 ⟨rfl, hb⟩; refine ⟨_, rfl, ?_⟩; have n0_ := Aside0.mk (Kd.S_below (d := Kd.slice 3 (Kd.int .i64)) (e := 25) (base := w.heap.size) (ok := fun _ => True) (v := .slice Ao44 t409.length co44) (xs := t409) (by refine pS ?_; refine Kd.S_mono (ok := fun k_ => True ∧ k_ ≠ gb400) (Kd.S_far (p := ⟨gb400, 1, none⟩) ?_ (fun _ hk => hk.2) _) (fun _ h_ => h_.1); refine pS ?_; exact Kd.S_types HO411.out BK400.out (by decide)) hb); have n1_ := Aside0.mk (blk_below (g := gb394) (o := .cells #[.int .i64 a0_0, .slice A0_1 l0_1.length c0_1] 28 (0, 0)) (by refine pK ?_; refine blk_far ?_ NB394_400.out _; refine pK ?_; exact BK394.out) hb); have n2_ := Aside0.mk (blk_below (g := gb395) (o := .cells #[.int .i64 0, .slice none 0 0] 28 (0, 0)) (by refine pK ?_; refine blk_far ?_ NB395_400.out _; refine pK ?_; exact BK395.out) hb); have n3_ := Aside0.mk (blk_below (g := gb400) (o := (.cells #[.int .i64 t396, .slice Ao44 t409.length co44] 28 (0, 0))) (by refine pK ?_; refine blk_put (cs := #[.int .i64 t396, .slice Ao15 t397.length co15]) ?_ 1 _ rfl; refine pK ?_; exact BK400.out) hb); have n4_ := Aside0.mk (below_step mG hb); clear HO411 BK394 BK395 BK400 HB; have HO411 := n0_; have BK394 := n1_; have BK395 := n2_; have BK400 := n3_; have HB := n4_; clear n0_ n1_ n2_ n3_ n4_; (try clear hb); have hcz47_0 : w46.cell? ⟨gb400, 0, none⟩ = some (.int .i64 t396) := (blk_cell BK400.out 0).trans rfl; have hcz47_1 : w46.cell? ⟨gb400, 1, none⟩ = some (.slice Ao44 t409.length co44) := (blk_cell BK400.out 1).trans rfl; have hfz47_0 := blk_frozen BK400.out 0; have hfz47_1 := blk_frozen BK400.out 1; have hnb48 := NB395_394.out; have hnc48 := NB394_395.out; have hcz49_0 : w46.cell? ⟨gb395, 0, none⟩ = some (.int .i64 0) := (blk_cell BK395.out 0).trans rfl; have hcz49_1 : w46.cell? ⟨gb395, 1, none⟩ = some (.slice none 0 0) := (blk_cell BK395.out 1).trans rfl; have hfz49_0 := blk_frozen BK395.out 0; have hfz49_1 := blk_frozen BK395.out 1; have hcz50_0 : w46.cell? ⟨gb394, 0, none⟩ = some (.int .i64 a0_0) := (blk_cell BK394.out 0).trans rfl; have hcz50_1 : w46.cell? ⟨gb394, 1, none⟩ = some (.slice A0_1 l0_1.length c0_1) := (blk_cell BK394.out 1).trans rfl; have hfz50_0 := blk_frozen BK394.out 0; have hfz50_1 := blk_frozen BK394.out 1) | ((with_reducible refine gate_callee (f := 37) rfl ?_); refine goesL_ (some 44) rfl rfl Try.func37 (by kernel_rfl) rfl #[.agg #[.int .i64 a0_0, .slice A0_1 l0_1.length c0_1]] rfl mA ?_; (with_reducible refine (impl_cloneGraph.calls kj4 a0_0 _ _ l0_1 t413 t414 _ ?side1 ?side2 A50.out).mono ?_); (case side1 => exact mC (Kd.C_below HR0_1.out HB.out)); (case side2 => exact HC0_1.out); rintro e w64 ⟨v415, rfl, ho0, hb⟩; refine ⟨_, rfl, ?_⟩; have HO416 := Aside0.mk (Kd.S_lower ho0 (below_size mG)); have n2_ := Aside0.mk (blk_below (g := gb395) (o := .cells #[.int .i64 0, .slice none 0 0] 28 (0, 0)) (mK BK395.out) hb); have n4_ := Aside0.mk (below_step mG hb); clear BK395 HB; have BK395 := n2_; have HB := n4_; clear n2_ n4_; (try clear hb); (try clear ho0); have hcz65_0 : w64.cell? ⟨gb395, 0, none⟩ = some (.int .i64 0) := (blk_cell BK395.out 0).trans rfl; have hcz65_1 : w64.cell? ⟨gb395, 1, none⟩ = some (.slice none 0 0) := (blk_cell BK395.out 1).trans rfl; have hfz65_0 := blk_frozen BK395.out 0; have hfz65_1 := blk_frozen BK395.out 1; obtain ⟨Ao66, co66, eo66⟩ := Kd.S_slice HO416.out; subst eo66))
   refine bodyPost_ret (results_ct rfl _ _ gb395 28 #[.int .i64 t413, .slice Ao66 t414.length co66] (0, 0) _ rfl (by refine pK ?_; refine blk_put (cs := #[.int .i64 t413, .slice none 0 0]) ?_ 1 _ rfl; refine pK ?_; refine blk_put (cs := #[.int .i64 0, .slice none 0 0]) ?_ 0 _ rfl; refine pK ?_; exact BK395.out) Try.underlying28 rfl (by kernel_rfl)) rfl ?_
   exact ⟨_, mE, (by refine pS ?_; refine Kd.S_mono (ok := fun k_ => True ∧ k_ ≠ gb395) (Kd.S_far (p := ⟨gb395, 1, none⟩) ?_ (fun _ hk => hk.2) _) (fun _ h_ => h_.1); refine pS ?_; refine Kd.S_far (p := ⟨gb395, 0, none⟩) ?_ (fun _ hk => hk.2) _; refine pS ?_; exact Kd.S_types HO416.out BK395.out (by decide)), mG⟩
/-! ### laws_heldIntS: function 21 -/
def laws_heldIntS.l0 : Nat → List Int → Int → Int → Option (Int)
 | 0, _, _, _ => none
 | k + 1, x0, x1, x5 => if x5 < (x0.length : Int) then (if 0 ≤ x5 then (if (rd x0 x5) = x1 then (laws_heldIntS.l0 k x0 (wrap64 (x1 + 1)) (wrap64 (x5 + 1))) else (some (-1))) else (none)) else (some x1)
def laws_heldIntS.f (k : Nat) (l0 : List Int) (a1 : Int) : Option (Int) := laws_heldIntS.l0 k l0 a1 0
theorem laws_heldIntS.mono_l : ∀ k, (∀ y0 y1 y2, LeO (laws_heldIntS.l0 k y0 y1 y2) (laws_heldIntS.l0 (k + 1) y0 y1 y2))
 | 0 => fun _ _ _ r h => by simp [laws_heldIntS.l0] at h
 | k + 1 => by
  have ih0 := laws_heldIntS.mono_l k
  ·
   intro y0 y1 y2
   unfold laws_heldIntS.l0
   repeat' with_reducible first | exact ih0 _ _ _ | exact LeO.refl _ | exact LeO.none _ | refine LeO.ite ?_ ?_ | refine LeO.bind ?_ (fun _ => ?_)
theorem laws_heldIntS.mono : ∀ a0 a1 k, LeO (laws_heldIntS.f k a0 a1) (laws_heldIntS.f (k + 1) a0 a1) := by
 intro a0 a1 k
 have ih0 := laws_heldIntS.mono_l k
 unfold laws_heldIntS.f
 repeat' with_reducible first | exact ih0 _ _ _ | exact LeO.refl _ | exact LeO.none _ | refine LeO.ite ?_ ?_ | refine LeO.bind ?_ (fun _ => ?_)
set_option maxHeartbeats 8000000 in
set_option maxRecDepth 100000 in
theorem laws_heldIntS.calls (k : Nat) (A0 : Option Addr) (c0 : Nat) (l0 : List Int) (a1 : Int) (r : Int) (w : World) (hr0 : Kd.C (Kd.int .i64) w A0 l0.length l0) (hc0 : l0.length ≤ c0) (h : laws_heldIntS.f k l0 a1 = some r) :
  Calls Try.prog 21 #[.slice A0 l0.length c0, .int .i64 a1] w fun e w' => e = .returned (.int .i64 r) ∧ Drawn0 w w' := by
 have HR0 := Aside0.mk hr0
 have HC0 := Aside0.mk hc0
 clear hr0 hc0
 have H : (laws_heldIntS.l0 k l0 a1 0) = some r := h
 clear h
 have H' := Aside0.mk H
 clear H
 go_enter Try.func21, Try.ntmps21
 go_wp2
 go_loopg [1, 5] k (fun kq v1 v5 w' => ∃ (x1_1 : Int) (x5_1 : Int), v1 = .int .i64 x1_1 ∧ v5 = .int .i64 x5_1 ∧ Aside0 (laws_heldIntS.l0 kq l0 x1_1 x5_1 = some r) ∧ Aside0 (kq ≤ k) ∧ Drawn0 w w')
 case atStart => exact ⟨(a1), (0), mF, mF, H', ⟨Nat.le_refl _⟩, by repeat (first | exact Drawn0.refl _ | apply Drawn0.step)⟩
 case round =>
  clear H'
  obtain ⟨x1_1, x5_1, rfl, rfl, HA, HK1, ⟨m1, rfl⟩⟩ := hrel
  cases gk with
  | zero => exact absurd HA.out (by simp [laws_heldIntS.l0])
  | succ k1 =>
   have H := HA.out
   clear HA
   simp only [laws_heldIntS.l0] at H
   by_cases c3 : x5_1 < (l0.length : Int)
   rotate_left
   ·
    rw [if_neg c3] at H
    have c3b0 : decide (x5_1 < (l0.length : Int)) = false := decide_eq_false c3
    clear c3
    obtain rfl := Option.some.inj H
    go_wp2
    go_ret
    exact ⟨mF, by repeat (first | exact Drawn0.refl _ | apply Drawn0.step)⟩
   rw [if_pos c3] at H
   have c3b0 : decide (x5_1 < (l0.length : Int)) = true := decide_eq_true c3
   clear c3
   by_cases c4 : 0 ≤ x5_1
   rotate_left
   ·
    rw [if_neg c4] at H
    exact absurd H (by simp)
   rw [if_pos c4] at H
   have c4b0 : decide (0 ≤ x5_1) = true := decide_eq_true c4
   clear c4
   by_cases c5 : (rd l0 x5_1) = x1_1
   rotate_left
   ·
    rw [if_neg c5] at H
    have c5b0 : ((rd l0 x5_1) == x1_1) = false := beq_eq_false_iff_ne.mpr c5
    have c5b1 : ((rd l0 x5_1) != x1_1) = true := bne_iff_ne.mpr c5
    obtain rfl := Option.some.inj H
    have p280 : 0 ≤ (x5_1 : Int) := mD
    have q280 : x5_1 < (l0.length : Int) := mD
    obtain ⟨ad280, e280, hx280_0⟩ := Kd.at_int HR0.out x5_1 p280 q280
    cases e280
    replace p280 := eq_true p280
    replace q280 := eq_true q280
    go_wp2
    go_ret
    exact ⟨mF, by repeat (first | exact Drawn0.refl _ | apply Drawn0.step)⟩
   rw [if_pos c5] at H
   have c5b0 : ((rd l0 x5_1) == x1_1) = true := beq_iff_eq.mpr c5
   have c5b1 : ((rd l0 x5_1) != x1_1) = false := bne_eq_false_iff_eq.mpr c5
   clear c5
   have H' := Aside0.mk H
   clear H
   have p280 : 0 ≤ (x5_1 : Int) := mD
   have q280 : x5_1 < (l0.length : Int) := mD
   obtain ⟨ad280, e280, hx280_0⟩ := Kd.at_int HR0.out x5_1 p280 q280
   cases e280
   replace p280 := eq_true p280
   replace q280 := eq_true q280
   go_wp2
   go_roundg k1
   case measure => have := HK1.out; omega
   case rel => exact ⟨(wrap64 (x1_1 + 1)), (wrap64 (x5_1 + 1)), mF, mF, H', ⟨by have := HK1.out; omega⟩, by repeat (first | exact Drawn0.refl _ | apply Drawn0.step)⟩
/-! ### laws_heldIntSS: function 40 -/
def laws_heldIntSS.l0 : Nat → List (List Int) → Int → Int → Option (Int)
 | 0, _, _, _ => none
 | k + 1, x0, x1, x5 => if x5 < (x0.length : Int) then (if 0 ≤ x5 then ((laws_heldIntS.f k (rd_L1 x0 x5) x1).bind fun t282 => (if t282 < 0 then (some (-1)) else (laws_heldIntSS.l0 k x0 t282 (wrap64 (x5 + 1))))) else (none)) else (some x1)
def laws_heldIntSS.f (k : Nat) (l0 : List (List Int)) (a1 : Int) : Option (Int) := laws_heldIntSS.l0 k l0 a1 0
theorem laws_heldIntSS.mono_l : ∀ k, (∀ y0 y1 y2, LeO (laws_heldIntSS.l0 k y0 y1 y2) (laws_heldIntSS.l0 (k + 1) y0 y1 y2))
 | 0 => fun _ _ _ r h => by simp [laws_heldIntSS.l0] at h
 | k + 1 => by
  have ih0 := laws_heldIntSS.mono_l k
  ·
   intro y0 y1 y2
   unfold laws_heldIntSS.l0
   repeat' with_reducible first | exact ih0 _ _ _ | exact laws_heldIntS.mono _ _ _ | exact LeO.refl _ | exact LeO.none _ | refine LeO.ite ?_ ?_ | refine LeO.bind ?_ (fun _ => ?_)
theorem laws_heldIntSS.mono : ∀ a0 a1 k, LeO (laws_heldIntSS.f k a0 a1) (laws_heldIntSS.f (k + 1) a0 a1) := by
 intro a0 a1 k
 have ih0 := laws_heldIntSS.mono_l k
 unfold laws_heldIntSS.f
 repeat' with_reducible first | exact ih0 _ _ _ | exact laws_heldIntS.mono _ _ _ | exact LeO.refl _ | exact LeO.none _ | refine LeO.ite ?_ ?_ | refine LeO.bind ?_ (fun _ => ?_)
set_option maxHeartbeats 8000000 in
set_option maxRecDepth 100000 in
theorem laws_heldIntSS.calls (k : Nat) (A0 : Option Addr) (c0 : Nat) (l0 : List (List Int)) (a1 : Int) (r : Int) (w : World) (hr0 : Kd.C (Kd.slice 3 (Kd.int .i64)) w A0 l0.length l0) (hc0 : l0.length ≤ c0) (h : laws_heldIntSS.f k l0 a1 = some r) :
  Calls Try.prog 40 #[.slice A0 l0.length c0, .int .i64 a1] w fun e w' => e = .returned (.int .i64 r) ∧ Drawn0 w w' := by
 have HR0 := Aside0.mk hr0
 have HC0 := Aside0.mk hc0
 clear hr0 hc0
 have H : (laws_heldIntSS.l0 k l0 a1 0) = some r := h
 clear h
 have H' := Aside0.mk H
 clear H
 go_enter Try.func40, Try.ntmps40
 go_wp2
 go_loopg [1, 5] k (fun kq v1 v5 w' => ∃ (x1_1 : Int) (x5_1 : Int), v1 = .int .i64 x1_1 ∧ v5 = .int .i64 x5_1 ∧ Aside0 (laws_heldIntSS.l0 kq l0 x1_1 x5_1 = some r) ∧ Aside0 (kq ≤ k) ∧ Drawn0 w w')
 case atStart => exact ⟨(a1), (0), mF, mF, H', ⟨Nat.le_refl _⟩, by repeat (first | exact Drawn0.refl _ | apply Drawn0.step)⟩
 case round =>
  clear H'
  obtain ⟨x1_1, x5_1, rfl, rfl, HA, HK1, ⟨m1, rfl⟩⟩ := hrel
  cases gk with
  | zero => exact absurd HA.out (by simp [laws_heldIntSS.l0])
  | succ k1 =>
   have H := HA.out
   clear HA
   simp only [laws_heldIntSS.l0] at H
   by_cases c3 : x5_1 < (l0.length : Int)
   rotate_left
   ·
    rw [if_neg c3] at H
    have c3b0 : decide (x5_1 < (l0.length : Int)) = false := decide_eq_false c3
    clear c3
    obtain rfl := Option.some.inj H
    go_wp2
    go_ret
    exact ⟨mF, by repeat (first | exact Drawn0.refl _ | apply Drawn0.step)⟩
   rw [if_pos c3] at H
   have c3b0 : decide (x5_1 < (l0.length : Int)) = true := decide_eq_true c3
   clear c3
   by_cases c4 : 0 ≤ x5_1
   rotate_left
   ·
    rw [if_neg c4] at H
    exact absurd H (by simp)
   rw [if_pos c4] at H
   have c4b0 : decide (0 ≤ x5_1) = true := decide_eq_true c4
   clear c4
   replace H := Option.bind_eq_some_iff.mp H
   obtain ⟨t282, A50, H⟩ := H
   have A5 := Aside0.mk A50
   clear A50
   by_cases c6 : t282 < 0
   ·
    rw [if_pos c6] at H
    have c6b0 : decide (t282 < 0) = true := decide_eq_true c6
    clear c6
    obtain rfl := Option.some.inj H
    have p281 : 0 ≤ (x5_1 : Int) := mD
    have q281 : x5_1 < (l0.length : Int) := mD
    obtain ⟨ad281, A281_0, c281_0, e281, hx281_0, hl281_0, hi281_0⟩ := at_L1 HR0.out x5_1 p281 q281
    cases e281
    have HR281_0 := Aside0.mk hi281_0
    have HC281_0 := Aside0.mk hl281_0
    clear hi281_0 hl281_0
    replace p281 := eq_true p281
    replace q281 := eq_true q281
    go_wp2_with (first | ((with_reducible refine gate_callee (f := 21) rfl ?_); refine goesL_ (some 17) rfl rfl Try.func21 (by kernel_rfl) rfl #[.slice A281_0 (rd_L1 l0 x5_1).length c281_0, .int .i64 x1_1] rfl mA ?_; (with_reducible refine (laws_heldIntS.calls k1 _ _ (rd_L1 l0 x5_1) x1_1 t282 _ ?side1 ?side2 A5.out).mono ?_); (case side1 => exact mC HR281_0.out); (case side2 => exact HC281_0.out); rintro e w' ⟨rfl, ⟨nd, rfl⟩⟩; refine ⟨_, rfl, ?_⟩))
    go_ret
    exact ⟨mF, by repeat (first | exact Drawn0.refl _ | apply Drawn0.step)⟩
   rw [if_neg c6] at H
   have c6b0 : decide (t282 < 0) = false := decide_eq_false c6
   clear c6
   have H' := Aside0.mk H
   clear H
   have p281 : 0 ≤ (x5_1 : Int) := mD
   have q281 : x5_1 < (l0.length : Int) := mD
   obtain ⟨ad281, A281_0, c281_0, e281, hx281_0, hl281_0, hi281_0⟩ := at_L1 HR0.out x5_1 p281 q281
   cases e281
   have HR281_0 := Aside0.mk hi281_0
   have HC281_0 := Aside0.mk hl281_0
   clear hi281_0 hl281_0
   replace p281 := eq_true p281
   replace q281 := eq_true q281
   go_wp2_with (first | ((with_reducible refine gate_callee (f := 21) rfl ?_); refine goesL_ (some 17) rfl rfl Try.func21 (by kernel_rfl) rfl #[.slice A281_0 (rd_L1 l0 x5_1).length c281_0, .int .i64 x1_1] rfl mA ?_; (with_reducible refine (laws_heldIntS.calls k1 _ _ (rd_L1 l0 x5_1) x1_1 t282 _ ?side1 ?side2 A5.out).mono ?_); (case side1 => exact mC HR281_0.out); (case side2 => exact HC281_0.out); rintro e w' ⟨rfl, ⟨nd, rfl⟩⟩; refine ⟨_, rfl, ?_⟩))
   go_roundg k1
   case measure => have := HK1.out; omega
   case rel => exact ⟨(t282), (wrap64 (x5_1 + 1)), mF, mF, H', ⟨by have := HK1.out; omega⟩, by repeat (first | exact Drawn0.refl _ | apply Drawn0.step)⟩
/-! ### laws_heldGraph: function 26 -/
def laws_heldGraph.f (k : Nat) (a0_0 : Int) (l0_1 : List (List Int)) (a1 : Int) : Option (Int) := (laws_heldIntSS.f k l0_1 a1).bind fun t284 => (if t284 < 0 then (some (-1)) else (some t284))
theorem laws_heldGraph.mono : ∀ a0 a1 a2 k, LeO (laws_heldGraph.f k a0 a1 a2) (laws_heldGraph.f (k + 1) a0 a1 a2) := by
 intro a0 a1 a2 k
 unfold laws_heldGraph.f
 repeat' with_reducible first | exact laws_heldIntSS.mono _ _ _ | exact LeO.refl _ | exact LeO.none _ | refine LeO.ite ?_ ?_ | refine LeO.bind ?_ (fun _ => ?_)
set_option maxHeartbeats 8000000 in
set_option maxRecDepth 100000 in
theorem laws_heldGraph.calls (k : Nat) (a0_0 : Int) (A0_1 : Option Addr) (c0_1 : Nat) (l0_1 : List (List Int)) (a1 : Int) (r : Int) (w : World) (hr0_1 : Kd.C (Kd.slice 3 (Kd.int .i64)) w A0_1 l0_1.length l0_1) (hc0_1 : l0_1.length ≤ c0_1) (h : laws_heldGraph.f k a0_0 l0_1 a1 = some r) :
  Calls Try.prog 26 #[.agg #[.int .i64 a0_0, .slice A0_1 l0_1.length c0_1], .int .i64 a1] w fun e w' => e = .returned (.int .i64 r) ∧ Below w.heap.size w w' := by
 have hu28 := Try.underlying28
 have HR0_1 := Aside0.mk hr0_1
 have HC0_1 := Aside0.mk hc0_1
 clear hr0_1 hc0_1
 have HB := Aside0.mk (Below.refl w.heap.size w)
 have H : ((laws_heldIntSS.f k l0_1 a1).bind fun t284 => (if t284 < 0 then (some (-1)) else (some t284))) = some r := h
 clear h
 replace H := Option.bind_eq_some_iff.mp H
 obtain ⟨t284, A30, H⟩ := H
 have A3 := Aside0.mk A30
 clear A30
 by_cases c4 : t284 < 0
 ·
  rw [if_pos c4] at H
  have c4b0 : decide (t284 < 0) = true := decide_eq_true c4
  clear c4
  obtain rfl := Option.some.inj H
  go_enter Try.func26, Try.ntmps26
  go_wp2_with (first | ((with_reducible refine gate_dst (N := 2) rfl ?_); refine box_event ?hg (N := 2) ?hd (cs := #[.int .i64 a0_0, .slice A0_1 l0_1.length c0_1]) (t := 28) ?hr ?_; (case hd => rfl); (case hg => rfl); (case hr => first | (go_simp; done) | (go_simp; rfl)); intro gb283 hg w5 hbox hb; have n0_ := Aside0.mk (below_step (mB HB.out) hb); have n1_ := Aside0.mk (hbox); have n2_ := Aside0.mk ((by rw [hg]; exact (below_size (mB HB.out)) : w.heap.size ≤ gb283)); have n3_ := Aside0.mk ((by rw [hg]; exact (below_size (mB HB.out)) : w.heap.size ≤ gb283)); clear HB; have HB := n0_; have BK283 := n1_; have GW283 := n2_; have GE283 := n3_; clear n0_ n1_ n2_ n3_; clear hb hbox hg; have hcz6_0 : w5.cell? ⟨gb283, 0, none⟩ = some (.int .i64 a0_0) := (blk_cell BK283.out 0).trans rfl; have hcz6_1 : w5.cell? ⟨gb283, 1, none⟩ = some (.slice A0_1 l0_1.length c0_1) := (blk_cell BK283.out 1).trans rfl; have hfz6_0 := blk_frozen BK283.out 0; have hfz6_1 := blk_frozen BK283.out 1) | ((with_reducible refine gate_callee (f := 40) rfl ?_); refine goesL_ (some 8) rfl rfl Try.func40 (by kernel_rfl) rfl #[.slice A0_1 l0_1.length c0_1, .int .i64 a1] rfl mA ?_; (with_reducible refine (laws_heldIntSS.calls k _ _ l0_1 a1 t284 _ ?side1 ?side2 A3.out).mono ?_); (case side1 => exact mC (Kd.C_below HR0_1.out HB.out)); (case side2 => exact HC0_1.out); rintro e w' ⟨rfl, ⟨nd, rfl⟩⟩; refine ⟨_, rfl, ?_⟩))
  go_ret
  exact ⟨mE, mG⟩
 rw [if_neg c4] at H
 have c4b0 : decide (t284 < 0) = false := decide_eq_false c4
 clear c4
 obtain rfl := Option.some.inj H
 go_enter Try.func26, Try.ntmps26
 go_wp2_with (first | ((with_reducible refine gate_dst (N := 2) rfl ?_); refine box_event ?hg (N := 2) ?hd (cs := #[.int .i64 a0_0, .slice A0_1 l0_1.length c0_1]) (t := 28) ?hr ?_; (case hd => rfl); (case hg => rfl); (case hr => first | (go_simp; done) | (go_simp; rfl)); intro gb283 hg w7 hbox hb; have n0_ := Aside0.mk (below_step (mB HB.out) hb); have n1_ := Aside0.mk (hbox); have n2_ := Aside0.mk ((by rw [hg]; exact (below_size (mB HB.out)) : w.heap.size ≤ gb283)); have n3_ := Aside0.mk ((by rw [hg]; exact (below_size (mB HB.out)) : w.heap.size ≤ gb283)); clear HB; have HB := n0_; have BK283 := n1_; have GW283 := n2_; have GE283 := n3_; clear n0_ n1_ n2_ n3_; clear hb hbox hg; have hcz8_0 : w7.cell? ⟨gb283, 0, none⟩ = some (.int .i64 a0_0) := (blk_cell BK283.out 0).trans rfl; have hcz8_1 : w7.cell? ⟨gb283, 1, none⟩ = some (.slice A0_1 l0_1.length c0_1) := (blk_cell BK283.out 1).trans rfl; have hfz8_0 := blk_frozen BK283.out 0; have hfz8_1 := blk_frozen BK283.out 1) | ((with_reducible refine gate_callee (f := 40) rfl ?_); refine goesL_ (some 8) rfl rfl Try.func40 (by kernel_rfl) rfl #[.slice A0_1 l0_1.length c0_1, .int .i64 a1] rfl mA ?_; (with_reducible refine (laws_heldIntSS.calls k _ _ l0_1 a1 t284 _ ?side1 ?side2 A3.out).mono ?_); (case side1 => exact mC (Kd.C_below HR0_1.out HB.out)); (case side2 => exact HC0_1.out); rintro e w' ⟨rfl, ⟨nd, rfl⟩⟩; refine ⟨_, rfl, ?_⟩))
 go_ret
 exact ⟨mE, mG⟩

/-! ### laws_FnExactAddAttack: function 7: the way on which it answers true -/
def laws_FnExactAddAttack.f (k : Nat) (a0_0 : Int) (l0_1 : List (List Int)) (a1 : Int) (a2 : Int) : Option Bool := (laws_szGraph.f k a0_0 l0_1 1048576).bind fun t0 => if t0 < 0 then some true else (laws_toGraph.f k a0_0 l0_1).bind fun g => (spec_AddAttack.f k g.1 g.2 a1 a2).bind fun sp => (impl_AddAttack.f k g.1 g.2 a1 a2).bind fun im => (laws_eqGraph.f k im.1 im.2.1 sp.1 sp.2.1).bind fun b1 => (laws_eqGraph.f k g.1 g.2 g.1 g.2).bind fun b2 => (laws_markGraph.f k g.1 g.2 1).bind fun m0 => (laws_markIntSS.f k im.2.1 1).bind fun mg => (laws_heldGraph.f k im.1 mg.2 1).bind fun q => if b1 = true ∧ b2 = true ∧ im.2.2 = sp.2.2 ∧ ¬ m0 < 0 ∧ ¬ q < 0 ∧ q = mg.1 then some true else none
set_option maxHeartbeats 32000000 in
set_option maxRecDepth 100000 in
theorem laws_FnExactAddAttack.calls (k : Nat) (a0_0 : Int) (A0_1 : Option Addr) (c0_1 : Nat) (l0_1 : List (List Int)) (a1 : Int) (a2 : Int) (r : Bool) (w : World) (hr0_1 : Kd.C (Kd.slice 3 (Kd.int .i64)) w A0_1 l0_1.length l0_1) (hc0_1 : l0_1.length ≤ c0_1) (h : laws_FnExactAddAttack.f k a0_0 l0_1 a1 a2 = some r) :
  Calls Try.prog 7 #[.agg #[.int .i64 a0_0, .slice A0_1 l0_1.length c0_1], .int .i64 a1, .int .i64 a2] w fun e w' => e = .returned (.bool r) ∧ Below w.heap.size w w' := by
 have hu24 := Try.underlying24
 have hu28 := Try.underlying28
 have HR0_1 := Aside0.mk hr0_1
 have HC0_1 := Aside0.mk hc0_1
 clear hr0_1 hc0_1
 obtain ⟨t0, A00, H⟩ := Option.bind_eq_some_iff.mp (show (laws_szGraph.f k a0_0 l0_1 1048576).bind _ = some r from h)
 have A0 := Aside0.mk A00
 clear A00 h
 by_cases c0 : t0 < 0
 ·
  rw [if_pos c0] at H
  obtain rfl := Option.some.inj H
  have c0b : decide (t0 < 0) = true := decide_eq_true c0
  clear c0 H
  go_enter Try.func7, Try.ntmps7
  go_wp2_with (first
  | ((with_reducible refine gate_dst (N := 3) rfl ?_); refine box_event ?hg (N := 3) ?hd (cs := #[.int .i64 a0_0, .slice A0_1 l0_1.length c0_1]) (t := 24) ?hr ?_; (case hd => rfl); (case hg => rfl); (case hr => first | (go_simp; done) | (go_simp; rfl)); intro gb1 hg w1 hbox hb; have F := Aside0.mk (Go.Proofs.YtpdpampmbdgofaaW.Pick.Fb.start (Kd.slice 3 (Kd.int .i64)) 25 hb hbox (by rw [hg]; exact Nat.le_refl _)); clear hb hbox hg; have hcz1_0 : w1.cell? ⟨gb1, 0, none⟩ = some (.int .i64 a0_0) := (blk_cell (F.out.bx _ List.mem_cons_self) 0).trans rfl; have hcz1_1 : w1.cell? ⟨gb1, 1, none⟩ = some (.slice A0_1 l0_1.length c0_1) := (blk_cell (F.out.bx _ List.mem_cons_self) 1).trans rfl; have hfz1_0 : w1.frozen? ⟨gb1, 0, none⟩ = false := blk_frozen (F.out.bx _ List.mem_cons_self) 0; have hfz1_1 : w1.frozen? ⟨gb1, 1, none⟩ = false := blk_frozen (F.out.bx _ List.mem_cons_self) 1)
  | ((with_reducible refine gate_callee (f := 8) rfl ?_); refine goesL_ (some 20) rfl rfl Try.func8 (by kernel_rfl) rfl #[.agg #[.int .i64 a0_0, .slice A0_1 l0_1.length c0_1], .int .i64 1048576] rfl mA ?_; (with_reducible refine (laws_szGraph.calls k a0_0 _ _ l0_1 1048576 t0 _ ?side1 ?side2 A0.out).mono ?_); (case side1 => exact (mC (Kd.C_below HR0_1.out F.out.B))); (case side2 => exact HC0_1.out); rintro e w2 ⟨rfl, hb⟩; refine ⟨_, rfl, ?_⟩; have F0 := Aside0.mk (Go.Proofs.YtpdpampmbdgofaaW.Pick.Fb.below (Go.Proofs.YtpdpampmbdgofaaW.Pick.Fb.below F.out Mv.out) hb); clear F; have F := F0; clear F0 hb; have hcz2_0 : w2.cell? ⟨gb1, 0, none⟩ = some (.int .i64 a0_0) := (blk_cell (F.out.bx _ List.mem_cons_self) 0).trans rfl; have hcz2_1 : w2.cell? ⟨gb1, 1, none⟩ = some (.slice A0_1 l0_1.length c0_1) := (blk_cell (F.out.bx _ List.mem_cons_self) 1).trans rfl; have hfz2_0 : w2.frozen? ⟨gb1, 0, none⟩ = false := blk_frozen (F.out.bx _ List.mem_cons_self) 0; have hfz2_1 : w2.frozen? ⟨gb1, 1, none⟩ = false := blk_frozen (F.out.bx _ List.mem_cons_self) 1))
  go_ret
  exact ⟨rfl, (Go.Proofs.YtpdpampmbdgofaaW.Pick.Fb.below F.out Mv.out).B⟩
 rw [if_neg c0] at H
 have c0b : decide (t0 < 0) = false := decide_eq_false c0
 clear c0
 obtain ⟨⟨xN, xl⟩, A10, H⟩ := Option.bind_eq_some_iff.mp H
 obtain ⟨⟨wN, lW, wb⟩, A20, H⟩ := Option.bind_eq_some_iff.mp H
 obtain ⟨⟨gN, lG, gb⟩, A30, H⟩ := Option.bind_eq_some_iff.mp H
 obtain ⟨b1, A40, H⟩ := Option.bind_eq_some_iff.mp H
 obtain ⟨b2, A50, H⟩ := Option.bind_eq_some_iff.mp H
 obtain ⟨m0, A60, H⟩ := Option.bind_eq_some_iff.mp H
 obtain ⟨⟨mg, lM⟩, A70, H⟩ := Option.bind_eq_some_iff.mp H
 obtain ⟨q, A80, H⟩ := Option.bind_eq_some_iff.mp H
 by_cases cc : b1 = true ∧ b2 = true ∧ gb = wb ∧ ¬ m0 < 0 ∧ ¬ q < 0 ∧ q = mg
 case neg => rw [if_neg cc] at H; cases H
 rw [if_pos cc] at H
 obtain rfl := Option.some.inj H
 obtain ⟨rfl, rfl, rfl, c1, c2, rfl⟩ := cc
 have c1b : decide (m0 < 0) = false := decide_eq_false c1
 have c2b : decide (q < 0) = false := decide_eq_false c2
 have A1 := Aside0.mk A10
 have A2 := Aside0.mk A20
 have A3 := Aside0.mk A30
 have A4 := Aside0.mk A40
 have A5 := Aside0.mk A50
 have A6 := Aside0.mk A60
 have A7 := Aside0.mk A70
 have A8 := Aside0.mk A80
 clear A10 A20 A30 A40 A50 A60 A70 A80 H c1 c2
 try dsimp only at A2 A3 A4 A5 A6 A7 A8
 go_enter Try.func7, Try.ntmps7
 try go_wp2_with (first
 | ((with_reducible refine gate_dst (N := 3) rfl ?_); refine box_event ?hg (N := 3) ?hd (cs := #[.int .i64 a0_0, .slice A0_1 l0_1.length c0_1]) (t := 24) ?hr ?_; (case hd => rfl); (case hg => rfl); (case hr => first | (go_simp; done) | (go_simp; rfl)); intro gb1 hg w1 hbox hb; have F := Aside0.mk (Go.Proofs.YtpdpampmbdgofaaW.Pick.Fb.start (Kd.slice 3 (Kd.int .i64)) 25 hb hbox (by rw [hg]; exact Nat.le_refl _)); clear hb hbox hg; have hcz1_0 : w1.cell? ⟨gb1, 0, none⟩ = some (.int .i64 a0_0) := (blk_cell (F.out.bx _ List.mem_cons_self) 0).trans rfl; have hcz1_1 : w1.cell? ⟨gb1, 1, none⟩ = some (.slice A0_1 l0_1.length c0_1) := (blk_cell (F.out.bx _ List.mem_cons_self) 1).trans rfl; have hfz1_0 : w1.frozen? ⟨gb1, 0, none⟩ = false := blk_frozen (F.out.bx _ List.mem_cons_self) 0; have hfz1_1 : w1.frozen? ⟨gb1, 1, none⟩ = false := blk_frozen (F.out.bx _ List.mem_cons_self) 1)
 | ((with_reducible refine gate_callee (f := 8) rfl ?_); refine goesL_ (some 20) rfl rfl Try.func8 (by kernel_rfl) rfl #[.agg #[.int .i64 a0_0, .slice A0_1 l0_1.length c0_1], .int .i64 1048576] rfl mA ?_; (with_reducible refine (laws_szGraph.calls k a0_0 _ _ l0_1 1048576 t0 _ ?side1 ?side2 A0.out).mono ?_); (case side1 => exact (mC (Kd.C_below HR0_1.out F.out.B))); (case side2 => exact HC0_1.out); rintro e w2 ⟨rfl, hb⟩; refine ⟨_, rfl, ?_⟩; have F0 := Aside0.mk (Go.Proofs.YtpdpampmbdgofaaW.Pick.Fb.below (Go.Proofs.YtpdpampmbdgofaaW.Pick.Fb.below F.out Mv.out) hb); clear F; have F := F0; clear F0 hb; have hcz2_0 : w2.cell? ⟨gb1, 0, none⟩ = some (.int .i64 a0_0) := (blk_cell (F.out.bx _ List.mem_cons_self) 0).trans rfl; have hcz2_1 : w2.cell? ⟨gb1, 1, none⟩ = some (.slice A0_1 l0_1.length c0_1) := (blk_cell (F.out.bx _ List.mem_cons_self) 1).trans rfl; have hfz2_0 : w2.frozen? ⟨gb1, 0, none⟩ = false := blk_frozen (F.out.bx _ List.mem_cons_self) 0; have hfz2_1 : w2.frozen? ⟨gb1, 1, none⟩ = false := blk_frozen (F.out.bx _ List.mem_cons_self) 1)
 | ((with_reducible refine gate_callee (f := 10) rfl ?_); refine goesL_ (some 25) rfl rfl Try.func10 (by kernel_rfl) rfl #[.agg #[.int .i64 a0_0, .slice A0_1 l0_1.length c0_1]] rfl mA ?_; (with_reducible refine (laws_toGraph.calls k a0_0 _ _ l0_1 xN xl _ ?side1 ?side2 A1.out).mono ?_); (case side1 => exact (mC (Kd.C_below HR0_1.out F.out.B))); (case side2 => exact HC0_1.out); rintro e w3 ⟨vt, rfl, ho0, hb⟩; refine ⟨_, rfl, ?_⟩; obtain ⟨At, ct, et_⟩ := Kd.S_slice ho0; subst et_; have HT := Aside0.mk ho0; have F0 := Aside0.mk (Go.Proofs.YtpdpampmbdgofaaW.Pick.Fb.below (Go.Proofs.YtpdpampmbdgofaaW.Pick.Fb.below F.out Mv.out) hb); clear F; have F := F0; clear F0; clear hb ho0)
 | ((with_reducible refine gate_callee (f := 24) rfl ?_); refine goesL_ (some 28) rfl rfl Try.func24 (by kernel_rfl) rfl #[.agg #[.int .i64 xN, .slice At xl.length ct], .int .i64 a1, .int .i64 a2] rfl mA ?_; (with_reducible refine (spec_AddAttack.calls k xN _ _ xl a1 a2 wN lW gb _ ?side1 ?side2 A2.out).mono ?_); (case side1 => exact (Kd.S_reads' (mS HT.out)).2.2); (case side2 => exact (Kd.S_reads' HT.out).2.1); rintro e w4 ⟨vw, rfl, ho0, hb⟩; refine ⟨_, rfl, ?_⟩; obtain ⟨okW, F0⟩ := Go.Proofs.YtpdpampmbdgofaaW.Pick.Fb.newW (Go.Proofs.YtpdpampmbdgofaaW.Pick.Fb.below F.out Mv.out) (Go.Proofs.YtpdpampmbdgofaaW.Pick.V_of_S ho0) hb; clear F; have F := Aside0.mk F0; clear F0; clear HT hb ho0; obtain ⟨Aw, cw, ew_⟩ := Kd.V_slice F.out.fW; subst ew_; have hcz3_0 : w4.cell? ⟨gb1, 0, none⟩ = some (.int .i64 a0_0) := (blk_cell (F.out.bx _ List.mem_cons_self) 0).trans rfl; have hcz3_1 : w4.cell? ⟨gb1, 1, none⟩ = some (.slice A0_1 l0_1.length c0_1) := (blk_cell (F.out.bx _ List.mem_cons_self) 1).trans rfl; have hfz3_0 : w4.frozen? ⟨gb1, 0, none⟩ = false := blk_frozen (F.out.bx _ List.mem_cons_self) 0; have hfz3_1 : w4.frozen? ⟨gb1, 1, none⟩ = false := blk_frozen (F.out.bx _ List.mem_cons_self) 1)
 | ((with_reducible refine gate_dst (N := 8) rfl ?_); refine box_event ?hg (N := 8) ?hd (cs := #[.int .i64 0, .slice none 0 0]) (t := 28) ?hr ?_; (case hd => rfl); (case hg => rfl); (case hr => first | (go_simp; done) | (go_simp; rfl)); intro gbW hg w5 hbox hb; have F1 := Aside0.mk (Go.Proofs.YtpdpampmbdgofaaW.Pick.Fb.box (Go.Proofs.YtpdpampmbdgofaaW.Pick.Fb.below F.out Mv.out) (hg.trans rfl) hbox hb); obtain ⟨hnb_gbW_gb1, hnc_gbW_gb1⟩ := Go.Proofs.YtpdpampmbdgofaaW.Pick.Fb.ne F.out List.mem_cons_self F1.out; clear F; have F := F1; clear F1 hb hbox hg; have hcz4_0 : w5.cell? ⟨gb1, 0, none⟩ = some (.int .i64 a0_0) := (blk_cell (F.out.bx _ (List.mem_cons_of_mem _ List.mem_cons_self)) 0).trans rfl; have hcz4_1 : w5.cell? ⟨gb1, 1, none⟩ = some (.slice A0_1 l0_1.length c0_1) := (blk_cell (F.out.bx _ (List.mem_cons_of_mem _ List.mem_cons_self)) 1).trans rfl; have hfz4_0 : w5.frozen? ⟨gb1, 0, none⟩ = false := blk_frozen (F.out.bx _ (List.mem_cons_of_mem _ List.mem_cons_self)) 0; have hfz4_1 : w5.frozen? ⟨gb1, 1, none⟩ = false := blk_frozen (F.out.bx _ (List.mem_cons_of_mem _ List.mem_cons_self)) 1; have hcz5_0 : w5.cell? ⟨gbW, 0, none⟩ = some (.int .i64 0) := (blk_cell (F.out.bx _ List.mem_cons_self) 0).trans rfl; have hcz5_1 : w5.cell? ⟨gbW, 1, none⟩ = some (.slice none 0 0) := (blk_cell (F.out.bx _ List.mem_cons_self) 1).trans rfl; have hfz5_0 : w5.frozen? ⟨gbW, 0, none⟩ = false := blk_frozen (F.out.bx _ List.mem_cons_self) 0; have hfz5_1 : w5.frozen? ⟨gbW, 1, none⟩ = false := blk_frozen (F.out.bx _ List.mem_cons_self) 1)
 | ((with_reducible refine gate_callee (f := 10) rfl ?_); refine goesL_ (some 32) rfl rfl Try.func10 (by kernel_rfl) rfl #[.agg #[.int .i64 a0_0, .slice A0_1 l0_1.length c0_1]] rfl mA ?_; (with_reducible refine (laws_toGraph.calls k a0_0 _ _ l0_1 xN xl _ ?side1 ?side2 A1.out).mono ?_); (case side1 => exact (mC (Kd.C_below HR0_1.out (Go.Proofs.YtpdpampmbdgofaaW.Pick.Fb.stored (Go.Proofs.YtpdpampmbdgofaaW.Pick.Fb.stored F.out 0 (.int .i64 wN)) 1 (.slice Aw lW.length cw)).B))); (case side2 => exact HC0_1.out); rintro e w6 ⟨vx, rfl, ho0, hb⟩; refine ⟨_, rfl, ?_⟩; obtain ⟨okX, F0⟩ := Go.Proofs.YtpdpampmbdgofaaW.Pick.Fb.newX (Go.Proofs.YtpdpampmbdgofaaW.Pick.Fb.stored (Go.Proofs.YtpdpampmbdgofaaW.Pick.Fb.stored F.out 0 (.int .i64 wN)) 1 (.slice Aw lW.length cw)) ho0 hb; clear F; have F := Aside0.mk F0; clear F0; clear hb ho0; obtain ⟨Ax, cx, ex_⟩ := Kd.S_slice F.out.fX; subst ex_; have hcz6_0 : w6.cell? ⟨gb1, 0, none⟩ = some (.int .i64 a0_0) := (blk_cell (F.out.bx _ (List.mem_cons_of_mem _ List.mem_cons_self)) 0).trans rfl; have hcz6_1 : w6.cell? ⟨gb1, 1, none⟩ = some (.slice A0_1 l0_1.length c0_1) := (blk_cell (F.out.bx _ (List.mem_cons_of_mem _ List.mem_cons_self)) 1).trans rfl; have hfz6_0 : w6.frozen? ⟨gb1, 0, none⟩ = false := blk_frozen (F.out.bx _ (List.mem_cons_of_mem _ List.mem_cons_self)) 0; have hfz6_1 : w6.frozen? ⟨gb1, 1, none⟩ = false := blk_frozen (F.out.bx _ (List.mem_cons_of_mem _ List.mem_cons_self)) 1; have hcz7_0 : w6.cell? ⟨gbW, 0, none⟩ = some (.int .i64 wN) := (blk_cell (F.out.bx _ List.mem_cons_self) 0).trans rfl; have hcz7_1 : w6.cell? ⟨gbW, 1, none⟩ = some (.slice Aw lW.length cw) := (blk_cell (F.out.bx _ List.mem_cons_self) 1).trans rfl; have hfz7_0 : w6.frozen? ⟨gbW, 0, none⟩ = false := blk_frozen (F.out.bx _ List.mem_cons_self) 0; have hfz7_1 : w6.frozen? ⟨gbW, 1, none⟩ = false := blk_frozen (F.out.bx _ List.mem_cons_self) 1)
 | ((with_reducible refine gate_dst (N := 10) rfl ?_); refine box_event ?hg (N := 10) ?hd (cs := #[.int .i64 0, .slice none 0 0]) (t := 28) ?hr ?_; (case hd => rfl); (case hg => rfl); (case hr => first | (go_simp; done) | (go_simp; rfl)); intro gbX hg w7 hbox hb; have F1 := Aside0.mk (Go.Proofs.YtpdpampmbdgofaaW.Pick.Fb.box (Go.Proofs.YtpdpampmbdgofaaW.Pick.Fb.below F.out Mv.out) (hg.trans rfl) hbox hb); obtain ⟨hnb_gbX_gb1, hnc_gbX_gb1⟩ := Go.Proofs.YtpdpampmbdgofaaW.Pick.Fb.ne F.out (List.mem_cons_of_mem _ List.mem_cons_self) F1.out; obtain ⟨hnb_gbX_gbW, hnc_gbX_gbW⟩ := Go.Proofs.YtpdpampmbdgofaaW.Pick.Fb.ne F.out List.mem_cons_self F1.out; clear F; have F := F1; clear F1 hb hbox hg; have hcz8_0 : w7.cell? ⟨gb1, 0, none⟩ = some (.int .i64 a0_0) := (blk_cell (F.out.bx _ (List.mem_cons_of_mem _ (List.mem_cons_of_mem _ List.mem_cons_self))) 0).trans rfl; have hcz8_1 : w7.cell? ⟨gb1, 1, none⟩ = some (.slice A0_1 l0_1.length c0_1) := (blk_cell (F.out.bx _ (List.mem_cons_of_mem _ (List.mem_cons_of_mem _ List.mem_cons_self))) 1).trans rfl; have hfz8_0 : w7.frozen? ⟨gb1, 0, none⟩ = false := blk_frozen (F.out.bx _ (List.mem_cons_of_mem _ (List.mem_cons_of_mem _ List.mem_cons_self))) 0; have hfz8_1 : w7.frozen? ⟨gb1, 1, none⟩ = false := blk_frozen (F.out.bx _ (List.mem_cons_of_mem _ (List.mem_cons_of_mem _ List.mem_cons_self))) 1; have hcz9_0 : w7.cell? ⟨gbW, 0, none⟩ = some (.int .i64 wN) := (blk_cell (F.out.bx _ (List.mem_cons_of_mem _ List.mem_cons_self)) 0).trans rfl; have hcz9_1 : w7.cell? ⟨gbW, 1, none⟩ = some (.slice Aw lW.length cw) := (blk_cell (F.out.bx _ (List.mem_cons_of_mem _ List.mem_cons_self)) 1).trans rfl; have hfz9_0 : w7.frozen? ⟨gbW, 0, none⟩ = false := blk_frozen (F.out.bx _ (List.mem_cons_of_mem _ List.mem_cons_self)) 0; have hfz9_1 : w7.frozen? ⟨gbW, 1, none⟩ = false := blk_frozen (F.out.bx _ (List.mem_cons_of_mem _ List.mem_cons_self)) 1; have hcz10_0 : w7.cell? ⟨gbX, 0, none⟩ = some (.int .i64 0) := (blk_cell (F.out.bx _ List.mem_cons_self) 0).trans rfl; have hcz10_1 : w7.cell? ⟨gbX, 1, none⟩ = some (.slice none 0 0) := (blk_cell (F.out.bx _ List.mem_cons_self) 1).trans rfl; have hfz10_0 : w7.frozen? ⟨gbX, 0, none⟩ = false := blk_frozen (F.out.bx _ List.mem_cons_self) 0; have hfz10_1 : w7.frozen? ⟨gbX, 1, none⟩ = false := blk_frozen (F.out.bx _ List.mem_cons_self) 1)
 | ((with_reducible refine gate_callee (f := 25) rfl ?_); refine goesL_ (some 37) rfl rfl Try.func25 (by kernel_rfl) rfl #[.agg #[.int .i64 xN, .slice Ax xl.length cx], .int .i64 a1, .int .i64 a2] rfl mA ?_; (with_reducible refine (impl_AddAttack.calls k xN _ _ xl a1 a2 gN lG gb _ ?side1 ?side2 A3.out).mono ?_); (case side1 => exact (Kd.S_reads' (Go.Proofs.YtpdpampmbdgofaaW.Pick.Fb.stored (Go.Proofs.YtpdpampmbdgofaaW.Pick.Fb.stored F.out 0 (.int .i64 xN)) 1 (.slice Ax xl.length cx)).fX).2.2); (case side2 => exact (Kd.S_reads' F.out.fX).2.1); rintro e w8 ⟨vg, rfl, ho0, hb⟩; refine ⟨_, rfl, ?_⟩; obtain ⟨okG, F0⟩ := Go.Proofs.YtpdpampmbdgofaaW.Pick.Fb.newG (Go.Proofs.YtpdpampmbdgofaaW.Pick.Fb.stored (Go.Proofs.YtpdpampmbdgofaaW.Pick.Fb.stored F.out 0 (.int .i64 xN)) 1 (.slice Ax xl.length cx)) ho0 hb; clear F; have F := Aside0.mk F0; clear F0; clear hb ho0; obtain ⟨Ag, cg, eg_⟩ := Kd.S_slice F.out.fG; subst eg_; have hcz11_0 : w8.cell? ⟨gb1, 0, none⟩ = some (.int .i64 a0_0) := (blk_cell (F.out.bx _ (List.mem_cons_of_mem _ (List.mem_cons_of_mem _ List.mem_cons_self))) 0).trans rfl; have hcz11_1 : w8.cell? ⟨gb1, 1, none⟩ = some (.slice A0_1 l0_1.length c0_1) := (blk_cell (F.out.bx _ (List.mem_cons_of_mem _ (List.mem_cons_of_mem _ List.mem_cons_self))) 1).trans rfl; have hfz11_0 : w8.frozen? ⟨gb1, 0, none⟩ = false := blk_frozen (F.out.bx _ (List.mem_cons_of_mem _ (List.mem_cons_of_mem _ List.mem_cons_self))) 0; have hfz11_1 : w8.frozen? ⟨gb1, 1, none⟩ = false := blk_frozen (F.out.bx _ (List.mem_cons_of_mem _ (List.mem_cons_of_mem _ List.mem_cons_self))) 1; have hcz12_0 : w8.cell? ⟨gbW, 0, none⟩ = some (.int .i64 wN) := (blk_cell (F.out.bx _ (List.mem_cons_of_mem _ List.mem_cons_self)) 0).trans rfl; have hcz12_1 : w8.cell? ⟨gbW, 1, none⟩ = some (.slice Aw lW.length cw) := (blk_cell (F.out.bx _ (List.mem_cons_of_mem _ List.mem_cons_self)) 1).trans rfl; have hfz12_0 : w8.frozen? ⟨gbW, 0, none⟩ = false := blk_frozen (F.out.bx _ (List.mem_cons_of_mem _ List.mem_cons_self)) 0; have hfz12_1 : w8.frozen? ⟨gbW, 1, none⟩ = false := blk_frozen (F.out.bx _ (List.mem_cons_of_mem _ List.mem_cons_self)) 1; have hcz13_0 : w8.cell? ⟨gbX, 0, none⟩ = some (.int .i64 xN) := (blk_cell (F.out.bx _ List.mem_cons_self) 0).trans rfl; have hcz13_1 : w8.cell? ⟨gbX, 1, none⟩ = some (.slice Ax xl.length cx) := (blk_cell (F.out.bx _ List.mem_cons_self) 1).trans rfl; have hfz13_0 : w8.frozen? ⟨gbX, 0, none⟩ = false := blk_frozen (F.out.bx _ List.mem_cons_self) 0; have hfz13_1 : w8.frozen? ⟨gbX, 1, none⟩ = false := blk_frozen (F.out.bx _ List.mem_cons_self) 1)
 | ((with_reducible refine gate_dst (N := 11) rfl ?_); refine box_event ?hg (N := 11) ?hd (cs := #[.int .i64 0, .slice none 0 0]) (t := 28) ?hr ?_; (case hd => rfl); (case hg => rfl); (case hr => first | (go_simp; done) | (go_simp; rfl)); intro gbG hg w9 hbox hb; have F1 := Aside0.mk (Go.Proofs.YtpdpampmbdgofaaW.Pick.Fb.box (Go.Proofs.YtpdpampmbdgofaaW.Pick.Fb.below F.out Mv.out) (hg.trans rfl) hbox hb); obtain ⟨hnb_gbG_gb1, hnc_gbG_gb1⟩ := Go.Proofs.YtpdpampmbdgofaaW.Pick.Fb.ne F.out (List.mem_cons_of_mem _ (List.mem_cons_of_mem _ List.mem_cons_self)) F1.out; obtain ⟨hnb_gbG_gbW, hnc_gbG_gbW⟩ := Go.Proofs.YtpdpampmbdgofaaW.Pick.Fb.ne F.out (List.mem_cons_of_mem _ List.mem_cons_self) F1.out; obtain ⟨hnb_gbG_gbX, hnc_gbG_gbX⟩ := Go.Proofs.YtpdpampmbdgofaaW.Pick.Fb.ne F.out List.mem_cons_self F1.out; clear F; have F := F1; clear F1 hb hbox hg; have hcz14_0 : w9.cell? ⟨gb1, 0, none⟩ = some (.int .i64 a0_0) := (blk_cell (F.out.bx _ (List.mem_cons_of_mem _ (List.mem_cons_of_mem _ (List.mem_cons_of_mem _ List.mem_cons_self)))) 0).trans rfl; have hcz14_1 : w9.cell? ⟨gb1, 1, none⟩ = some (.slice A0_1 l0_1.length c0_1) := (blk_cell (F.out.bx _ (List.mem_cons_of_mem _ (List.mem_cons_of_mem _ (List.mem_cons_of_mem _ List.mem_cons_self)))) 1).trans rfl; have hfz14_0 : w9.frozen? ⟨gb1, 0, none⟩ = false := blk_frozen (F.out.bx _ (List.mem_cons_of_mem _ (List.mem_cons_of_mem _ (List.mem_cons_of_mem _ List.mem_cons_self)))) 0; have hfz14_1 : w9.frozen? ⟨gb1, 1, none⟩ = false := blk_frozen (F.out.bx _ (List.mem_cons_of_mem _ (List.mem_cons_of_mem _ (List.mem_cons_of_mem _ List.mem_cons_self)))) 1; have hcz15_0 : w9.cell? ⟨gbW, 0, none⟩ = some (.int .i64 wN) := (blk_cell (F.out.bx _ (List.mem_cons_of_mem _ (List.mem_cons_of_mem _ List.mem_cons_self))) 0).trans rfl; have hcz15_1 : w9.cell? ⟨gbW, 1, none⟩ = some (.slice Aw lW.length cw) := (blk_cell (F.out.bx _ (List.mem_cons_of_mem _ (List.mem_cons_of_mem _ List.mem_cons_self))) 1).trans rfl; have hfz15_0 : w9.frozen? ⟨gbW, 0, none⟩ = false := blk_frozen (F.out.bx _ (List.mem_cons_of_mem _ (List.mem_cons_of_mem _ List.mem_cons_self))) 0; have hfz15_1 : w9.frozen? ⟨gbW, 1, none⟩ = false := blk_frozen (F.out.bx _ (List.mem_cons_of_mem _ (List.mem_cons_of_mem _ List.mem_cons_self))) 1; have hcz16_0 : w9.cell? ⟨gbX, 0, none⟩ = some (.int .i64 xN) := (blk_cell (F.out.bx _ (List.mem_cons_of_mem _ List.mem_cons_self)) 0).trans rfl; have hcz16_1 : w9.cell? ⟨gbX, 1, none⟩ = some (.slice Ax xl.length cx) := (blk_cell (F.out.bx _ (List.mem_cons_of_mem _ List.mem_cons_self)) 1).trans rfl; have hfz16_0 : w9.frozen? ⟨gbX, 0, none⟩ = false := blk_frozen (F.out.bx _ (List.mem_cons_of_mem _ List.mem_cons_self)) 0; have hfz16_1 : w9.frozen? ⟨gbX, 1, none⟩ = false := blk_frozen (F.out.bx _ (List.mem_cons_of_mem _ List.mem_cons_self)) 1; have hcz17_0 : w9.cell? ⟨gbG, 0, none⟩ = some (.int .i64 0) := (blk_cell (F.out.bx _ List.mem_cons_self) 0).trans rfl; have hcz17_1 : w9.cell? ⟨gbG, 1, none⟩ = some (.slice none 0 0) := (blk_cell (F.out.bx _ List.mem_cons_self) 1).trans rfl; have hfz17_0 : w9.frozen? ⟨gbG, 0, none⟩ = false := blk_frozen (F.out.bx _ List.mem_cons_self) 0; have hfz17_1 : w9.frozen? ⟨gbG, 1, none⟩ = false := blk_frozen (F.out.bx _ List.mem_cons_self) 1)
 | ((with_reducible refine gate_callee (f := 13) rfl ?_); refine goesL_ (some 42) rfl rfl Try.func13 (by kernel_rfl) rfl #[.agg #[.int .i64 gN, .slice Ag lG.length cg], .agg #[.int .i64 wN, .slice Aw lW.length cw]] rfl mA ?_; (with_reducible refine (laws_eqGraph.calls k gN _ _ lG wN _ _ lW true _ ?side1 ?side2 ?side3 ?side4 A4.out).mono ?_); (case side1 => exact (Kd.S_reads' (Go.Proofs.YtpdpampmbdgofaaW.Pick.Fb.stored (Go.Proofs.YtpdpampmbdgofaaW.Pick.Fb.stored F.out 0 (.int .i64 gN)) 1 (.slice Ag lG.length cg)).fG).2.2); (case side2 => exact (Kd.S_reads' F.out.fG).2.1); (case side3 => exact (Kd.V_reads' (Go.Proofs.YtpdpampmbdgofaaW.Pick.Fb.stored (Go.Proofs.YtpdpampmbdgofaaW.Pick.Fb.stored F.out 0 (.int .i64 gN)) 1 (.slice Ag lG.length cg)).fW).2.2); (case side4 => exact (Kd.V_reads' F.out.fW).2.1); rintro e w10 ⟨rfl, hb⟩; refine ⟨_, rfl, ?_⟩; have F0 := Aside0.mk (Go.Proofs.YtpdpampmbdgofaaW.Pick.Fb.below (Go.Proofs.YtpdpampmbdgofaaW.Pick.Fb.stored (Go.Proofs.YtpdpampmbdgofaaW.Pick.Fb.stored F.out 0 (.int .i64 gN)) 1 (.slice Ag lG.length cg)) hb); clear F; have F := F0; clear F0 hb; have hcz18_0 : w10.cell? ⟨gb1, 0, none⟩ = some (.int .i64 a0_0) := (blk_cell (F.out.bx _ (List.mem_cons_of_mem _ (List.mem_cons_of_mem _ (List.mem_cons_of_mem _ List.mem_cons_self)))) 0).trans rfl; have hcz18_1 : w10.cell? ⟨gb1, 1, none⟩ = some (.slice A0_1 l0_1.length c0_1) := (blk_cell (F.out.bx _ (List.mem_cons_of_mem _ (List.mem_cons_of_mem _ (List.mem_cons_of_mem _ List.mem_cons_self)))) 1).trans rfl; have hfz18_0 : w10.frozen? ⟨gb1, 0, none⟩ = false := blk_frozen (F.out.bx _ (List.mem_cons_of_mem _ (List.mem_cons_of_mem _ (List.mem_cons_of_mem _ List.mem_cons_self)))) 0; have hfz18_1 : w10.frozen? ⟨gb1, 1, none⟩ = false := blk_frozen (F.out.bx _ (List.mem_cons_of_mem _ (List.mem_cons_of_mem _ (List.mem_cons_of_mem _ List.mem_cons_self)))) 1; have hcz19_0 : w10.cell? ⟨gbW, 0, none⟩ = some (.int .i64 wN) := (blk_cell (F.out.bx _ (List.mem_cons_of_mem _ (List.mem_cons_of_mem _ List.mem_cons_self))) 0).trans rfl; have hcz19_1 : w10.cell? ⟨gbW, 1, none⟩ = some (.slice Aw lW.length cw) := (blk_cell (F.out.bx _ (List.mem_cons_of_mem _ (List.mem_cons_of_mem _ List.mem_cons_self))) 1).trans rfl; have hfz19_0 : w10.frozen? ⟨gbW, 0, none⟩ = false := blk_frozen (F.out.bx _ (List.mem_cons_of_mem _ (List.mem_cons_of_mem _ List.mem_cons_self))) 0; have hfz19_1 : w10.frozen? ⟨gbW, 1, none⟩ = false := blk_frozen (F.out.bx _ (List.mem_cons_of_mem _ (List.mem_cons_of_mem _ List.mem_cons_self))) 1; have hcz20_0 : w10.cell? ⟨gbX, 0, none⟩ = some (.int .i64 xN) := (blk_cell (F.out.bx _ (List.mem_cons_of_mem _ List.mem_cons_self)) 0).trans rfl; have hcz20_1 : w10.cell? ⟨gbX, 1, none⟩ = some (.slice Ax xl.length cx) := (blk_cell (F.out.bx _ (List.mem_cons_of_mem _ List.mem_cons_self)) 1).trans rfl; have hfz20_0 : w10.frozen? ⟨gbX, 0, none⟩ = false := blk_frozen (F.out.bx _ (List.mem_cons_of_mem _ List.mem_cons_self)) 0; have hfz20_1 : w10.frozen? ⟨gbX, 1, none⟩ = false := blk_frozen (F.out.bx _ (List.mem_cons_of_mem _ List.mem_cons_self)) 1; have hcz21_0 : w10.cell? ⟨gbG, 0, none⟩ = some (.int .i64 gN) := (blk_cell (F.out.bx _ List.mem_cons_self) 0).trans rfl; have hcz21_1 : w10.cell? ⟨gbG, 1, none⟩ = some (.slice Ag lG.length cg) := (blk_cell (F.out.bx _ List.mem_cons_self) 1).trans rfl; have hfz21_0 : w10.frozen? ⟨gbG, 0, none⟩ = false := blk_frozen (F.out.bx _ List.mem_cons_self) 0; have hfz21_1 : w10.frozen? ⟨gbG, 1, none⟩ = false := blk_frozen (F.out.bx _ List.mem_cons_self) 1))
 have F0 := Aside0.mk (Go.Proofs.YtpdpampmbdgofaaW.Pick.Fb.below F.out (Mv.out : Below w10.heap.size w10 w10.drew))
 clear F
 have F := F0
 clear F0
 refine start_ (n := 5) (S := fun w' => w'.cell? ⟨gbX, 0, none⟩ = some (.int .i64 xN) ∧ w'.cell? ⟨gbX, 1, none⟩ = some (.slice Ax xl.length cx) ∧ w'.cell? ⟨gb1, 0, none⟩ = some (.int .i64 a0_0) ∧ w'.cell? ⟨gb1, 1, none⟩ = some (.slice A0_1 l0_1.length c0_1)) (ds := []) (L_ 0 5) (by kernel_rfl) rfl rfl ⟨(blk_cell (F.out.bx _ (List.mem_cons_of_mem _ List.mem_cons_self)) 0).trans rfl, (blk_cell (F.out.bx _ (List.mem_cons_of_mem _ List.mem_cons_self)) 1).trans rfl, (blk_cell (F.out.bx _ (List.mem_cons_of_mem _ (List.mem_cons_of_mem _ (List.mem_cons_of_mem _ List.mem_cons_self)))) 0).trans rfl, (blk_cell (F.out.bx _ (List.mem_cons_of_mem _ (List.mem_cons_of_mem _ (List.mem_cons_of_mem _ List.mem_cons_self)))) 1).trans rfl⟩ (fun hHeld => ?_)
 generalize w10.drew = w11 at F hHeld ⊢
 refine take_ (i := 0) (N := some 49) (v := ?_) (a' := ?_) (L_ 1 5) rfl rfl (by kernel_rfl) (fun _ _ _ h => h) (Or.inl ⟨by rfl, ?_⟩) hHeld ?_ ?_
 rotate_left
 ·
  rintro w' ⟨s0, s1, s2, s3⟩
  go_simp
  with_reducible rfl
 rotate_left
 ·
  simp only [Act.put, List.setIfInBounds_toArray, List.set_cons_zero, List.set_cons_succ, i64_w, i32_w]
  rfl
 refine take_ (i := 1) (N := some 50) (v := ?_) (a' := ?_) (L_ 2 5) rfl rfl (by kernel_rfl) (fun _ _ _ h => h) (Or.inl ⟨by rfl, ?_⟩) hHeld ?_ ?_
 rotate_left
 ·
  rintro w' ⟨s0, s1, s2, s3⟩
  go_simp
  with_reducible rfl
 rotate_left
 ·
  simp only [Act.put, List.setIfInBounds_toArray, List.set_cons_zero, List.set_cons_succ, i64_w, i32_w]
  rfl
 refine one_ (i := 2) (N := some 51) (L_ 3 5) rfl rfl (by kernel_rfl) (by decide) (fun K hK => ?_)
 refine goes_ Try.func10 (by kernel_rfl) rfl #[.agg #[.int .i64 a0_0, .slice A0_1 l0_1.length c0_1]] (by rfl) rfl rfl mA ?_
 with_reducible refine (laws_toGraph.calls k a0_0 _ _ l0_1 xN xl _ ?side1 ?side2 A1.out).mono ?_
 (case side1 => exact (mC (Kd.C_below HR0_1.out F.out.B)))
 (case side2 => exact HC0_1.out)
 rintro e w12 ⟨vs, rfl, ho0, hb⟩
 refine ⟨_, rfl, ?_⟩
 obtain ⟨As, cs_, et_⟩ := Kd.S_slice ho0
 subst et_
 have HT := Aside0.mk ho0
 have F0 := Aside0.mk (Go.Proofs.YtpdpampmbdgofaaW.Pick.Fb.below (Go.Proofs.YtpdpampmbdgofaaW.Pick.Fb.below F.out Mv.out) hb)
 clear F
 have F := F0
 clear F0 hb ho0
 refine hK.out _ _ ⟨(blk_cell (F.out.bx _ (List.mem_cons_of_mem _ List.mem_cons_self)) 0).trans rfl, (blk_cell (F.out.bx _ (List.mem_cons_of_mem _ List.mem_cons_self)) 1).trans rfl, (blk_cell (F.out.bx _ (List.mem_cons_of_mem _ (List.mem_cons_of_mem _ (List.mem_cons_of_mem _ List.mem_cons_self)))) 0).trans rfl, (blk_cell (F.out.bx _ (List.mem_cons_of_mem _ (List.mem_cons_of_mem _ (List.mem_cons_of_mem _ List.mem_cons_self)))) 1).trans rfl⟩ (fun hHeld => ?_)
 clear hK K
 refine norm_ (a' := ?_) ?_ ?_
 rotate_left
 ·
  show Act.put _ (some 51) _ = _
  simp only [Act.put, List.setIfInBounds_toArray, List.set_cons_zero, List.set_cons_succ, i64_w, i32_w]
  rfl
 refine one_ (i := 3) (N := some 52) (L_ 4 5) rfl rfl (by kernel_rfl) (by decide) (fun K hK => ?_)
 refine goes_ Try.func13 (by kernel_rfl) rfl #[.agg #[.int .i64 xN, .slice Ax xl.length cx], .agg #[.int .i64 xN, .slice As xl.length cs_]] (by rfl) rfl rfl mA ?_
 with_reducible refine (laws_eqGraph.calls k xN _ _ xl xN _ _ xl true _ ?side1 ?side2 ?side3 ?side4 A5.out).mono ?_
 (case side1 => exact (mC (Kd.S_reads' F.out.fX).2.2))
 (case side2 => exact (Kd.S_reads' F.out.fX).2.1)
 (case side3 => exact (Kd.S_reads' (mS HT.out)).2.2)
 (case side4 => exact (Kd.S_reads' HT.out).2.1)
 rintro e w13 ⟨rfl, hb⟩
 refine ⟨_, rfl, ?_⟩
 have F0 := Aside0.mk (Go.Proofs.YtpdpampmbdgofaaW.Pick.Fb.below (Go.Proofs.YtpdpampmbdgofaaW.Pick.Fb.below F.out Mv.out) hb)
 clear F HT
 have F := F0
 clear F0 hb
 refine hK.out _ _ ⟨(blk_cell (F.out.bx _ (List.mem_cons_of_mem _ List.mem_cons_self)) 0).trans rfl, (blk_cell (F.out.bx _ (List.mem_cons_of_mem _ List.mem_cons_self)) 1).trans rfl, (blk_cell (F.out.bx _ (List.mem_cons_of_mem _ (List.mem_cons_of_mem _ (List.mem_cons_of_mem _ List.mem_cons_self)))) 0).trans rfl, (blk_cell (F.out.bx _ (List.mem_cons_of_mem _ (List.mem_cons_of_mem _ (List.mem_cons_of_mem _ List.mem_cons_self)))) 1).trans rfl⟩ (fun hHeld => ?_)
 clear hK K
 refine norm_ (a' := ?_) ?_ ?_
 rotate_left
 ·
  show Act.put _ (some 52) _ = _
  simp only [Act.put, List.setIfInBounds_toArray, List.set_cons_zero, List.set_cons_succ, i64_w, i32_w]
  rfl
 refine pq 4 53 (L_ 5 5) ?_
 refine done_ (by kernel_rfl) ?_
 have hcz48_0 : w13.cell? ⟨gb1, 0, none⟩ = some (.int .i64 a0_0) := (blk_cell (F.out.bx _ (List.mem_cons_of_mem _ (List.mem_cons_of_mem _ (List.mem_cons_of_mem _ List.mem_cons_self)))) 0).trans rfl
 have hcz48_1 : w13.cell? ⟨gb1, 1, none⟩ = some (.slice A0_1 l0_1.length c0_1) := (blk_cell (F.out.bx _ (List.mem_cons_of_mem _ (List.mem_cons_of_mem _ (List.mem_cons_of_mem _ List.mem_cons_self)))) 1).trans rfl
 have hfz48_0 : w13.frozen? ⟨gb1, 0, none⟩ = false := blk_frozen (F.out.bx _ (List.mem_cons_of_mem _ (List.mem_cons_of_mem _ (List.mem_cons_of_mem _ List.mem_cons_self)))) 0
 have hfz48_1 : w13.frozen? ⟨gb1, 1, none⟩ = false := blk_frozen (F.out.bx _ (List.mem_cons_of_mem _ (List.mem_cons_of_mem _ (List.mem_cons_of_mem _ List.mem_cons_self)))) 1
 have hcz49_0 : w13.cell? ⟨gbW, 0, none⟩ = some (.int .i64 wN) := (blk_cell (F.out.bx _ (List.mem_cons_of_mem _ (List.mem_cons_of_mem _ List.mem_cons_self))) 0).trans rfl
 have hcz49_1 : w13.cell? ⟨gbW, 1, none⟩ = some (.slice Aw lW.length cw) := (blk_cell (F.out.bx _ (List.mem_cons_of_mem _ (List.mem_cons_of_mem _ List.mem_cons_self))) 1).trans rfl
 have hfz49_0 : w13.frozen? ⟨gbW, 0, none⟩ = false := blk_frozen (F.out.bx _ (List.mem_cons_of_mem _ (List.mem_cons_of_mem _ List.mem_cons_self))) 0
 have hfz49_1 : w13.frozen? ⟨gbW, 1, none⟩ = false := blk_frozen (F.out.bx _ (List.mem_cons_of_mem _ (List.mem_cons_of_mem _ List.mem_cons_self))) 1
 have hcz50_0 : w13.cell? ⟨gbX, 0, none⟩ = some (.int .i64 xN) := (blk_cell (F.out.bx _ (List.mem_cons_of_mem _ List.mem_cons_self)) 0).trans rfl
 have hcz50_1 : w13.cell? ⟨gbX, 1, none⟩ = some (.slice Ax xl.length cx) := (blk_cell (F.out.bx _ (List.mem_cons_of_mem _ List.mem_cons_self)) 1).trans rfl
 have hfz50_0 : w13.frozen? ⟨gbX, 0, none⟩ = false := blk_frozen (F.out.bx _ (List.mem_cons_of_mem _ List.mem_cons_self)) 0
 have hfz50_1 : w13.frozen? ⟨gbX, 1, none⟩ = false := blk_frozen (F.out.bx _ (List.mem_cons_of_mem _ List.mem_cons_self)) 1
 have hcz51_0 : w13.cell? ⟨gbG, 0, none⟩ = some (.int .i64 gN) := (blk_cell (F.out.bx _ List.mem_cons_self) 0).trans rfl
 have hcz51_1 : w13.cell? ⟨gbG, 1, none⟩ = some (.slice Ag lG.length cg) := (blk_cell (F.out.bx _ List.mem_cons_self) 1).trans rfl
 have hfz51_0 : w13.frozen? ⟨gbG, 0, none⟩ = false := blk_frozen (F.out.bx _ List.mem_cons_self) 0
 have hfz51_1 : w13.frozen? ⟨gbG, 1, none⟩ = false := blk_frozen (F.out.bx _ List.mem_cons_self) 1
 go_wp2_with (first
 | ((with_reducible refine gate_callee (f := 19) rfl ?_); refine goesL_ (some 56) rfl rfl Try.func19 (by kernel_rfl) rfl #[.agg #[.int .i64 xN, .slice Ax xl.length cx], .int .i64 1] rfl mA ?_; (with_reducible refine (laws_markGraph.calls k xN okX (.slice Ax xl.length cx) xl 1 m0 w _ ?side1 ?side2 A6.out).mono ?_); (case side1 => exact (Go.Proofs.YtpdpampmbdgofaaW.Pick.Fb.below F.out Mv.out).B); (case side2 => exact (Go.Proofs.YtpdpampmbdgofaaW.Pick.Fb.below F.out Mv.out).fX); rintro e w14 ⟨rfl, hb, hkp⟩; refine ⟨_, rfl, ?_⟩; have F0 := Aside0.mk (Go.Proofs.YtpdpampmbdgofaaW.Pick.Fb.markX (Go.Proofs.YtpdpampmbdgofaaW.Pick.Fb.below F.out Mv.out) hb hkp); clear F; have F := F0; clear F0; clear hb hkp; have hcz22_0 : w14.cell? ⟨gb1, 0, none⟩ = some (.int .i64 a0_0) := (blk_cell (F.out.bx _ (List.mem_cons_of_mem _ (List.mem_cons_of_mem _ (List.mem_cons_of_mem _ List.mem_cons_self)))) 0).trans rfl; have hcz22_1 : w14.cell? ⟨gb1, 1, none⟩ = some (.slice A0_1 l0_1.length c0_1) := (blk_cell (F.out.bx _ (List.mem_cons_of_mem _ (List.mem_cons_of_mem _ (List.mem_cons_of_mem _ List.mem_cons_self)))) 1).trans rfl; have hfz22_0 : w14.frozen? ⟨gb1, 0, none⟩ = false := blk_frozen (F.out.bx _ (List.mem_cons_of_mem _ (List.mem_cons_of_mem _ (List.mem_cons_of_mem _ List.mem_cons_self)))) 0; have hfz22_1 : w14.frozen? ⟨gb1, 1, none⟩ = false := blk_frozen (F.out.bx _ (List.mem_cons_of_mem _ (List.mem_cons_of_mem _ (List.mem_cons_of_mem _ List.mem_cons_self)))) 1; have hcz23_0 : w14.cell? ⟨gbW, 0, none⟩ = some (.int .i64 wN) := (blk_cell (F.out.bx _ (List.mem_cons_of_mem _ (List.mem_cons_of_mem _ List.mem_cons_self))) 0).trans rfl; have hcz23_1 : w14.cell? ⟨gbW, 1, none⟩ = some (.slice Aw lW.length cw) := (blk_cell (F.out.bx _ (List.mem_cons_of_mem _ (List.mem_cons_of_mem _ List.mem_cons_self))) 1).trans rfl; have hfz23_0 : w14.frozen? ⟨gbW, 0, none⟩ = false := blk_frozen (F.out.bx _ (List.mem_cons_of_mem _ (List.mem_cons_of_mem _ List.mem_cons_self))) 0; have hfz23_1 : w14.frozen? ⟨gbW, 1, none⟩ = false := blk_frozen (F.out.bx _ (List.mem_cons_of_mem _ (List.mem_cons_of_mem _ List.mem_cons_self))) 1; have hcz24_0 : w14.cell? ⟨gbX, 0, none⟩ = some (.int .i64 xN) := (blk_cell (F.out.bx _ (List.mem_cons_of_mem _ List.mem_cons_self)) 0).trans rfl; have hcz24_1 : w14.cell? ⟨gbX, 1, none⟩ = some (.slice Ax xl.length cx) := (blk_cell (F.out.bx _ (List.mem_cons_of_mem _ List.mem_cons_self)) 1).trans rfl; have hfz24_0 : w14.frozen? ⟨gbX, 0, none⟩ = false := blk_frozen (F.out.bx _ (List.mem_cons_of_mem _ List.mem_cons_self)) 0; have hfz24_1 : w14.frozen? ⟨gbX, 1, none⟩ = false := blk_frozen (F.out.bx _ (List.mem_cons_of_mem _ List.mem_cons_self)) 1; have hcz25_0 : w14.cell? ⟨gbG, 0, none⟩ = some (.int .i64 gN) := (blk_cell (F.out.bx _ List.mem_cons_self) 0).trans rfl; have hcz25_1 : w14.cell? ⟨gbG, 1, none⟩ = some (.slice Ag lG.length cg) := (blk_cell (F.out.bx _ List.mem_cons_self) 1).trans rfl; have hfz25_0 : w14.frozen? ⟨gbG, 0, none⟩ = false := blk_frozen (F.out.bx _ List.mem_cons_self) 0; have hfz25_1 : w14.frozen? ⟨gbG, 1, none⟩ = false := blk_frozen (F.out.bx _ List.mem_cons_self) 1)
 | (go_at_call 13; (with_reducible refine (laws_eqGraph.calls k gN _ _ lG wN _ _ lW true _ ?side1 ?side2 ?side3 ?side4 A4.out).mono ?_); (case side1 => exact (mC (Kd.S_reads' F.out.fG).2.2)); (case side2 => exact (Kd.S_reads' F.out.fG).2.1); (case side3 => exact (mC (Kd.V_reads' F.out.fW).2.2)); (case side4 => exact (Kd.V_reads' F.out.fW).2.1); rintro e w15 ⟨rfl, hb⟩; have F0 := Aside0.mk (Go.Proofs.YtpdpampmbdgofaaW.Pick.Fb.below (Go.Proofs.YtpdpampmbdgofaaW.Pick.Fb.below F.out Mv.out) hb); clear F; have F := F0; clear F0 hb; have hcz26_0 : w15.cell? ⟨gb1, 0, none⟩ = some (.int .i64 a0_0) := (blk_cell (F.out.bx _ (List.mem_cons_of_mem _ (List.mem_cons_of_mem _ (List.mem_cons_of_mem _ List.mem_cons_self)))) 0).trans rfl; have hcz26_1 : w15.cell? ⟨gb1, 1, none⟩ = some (.slice A0_1 l0_1.length c0_1) := (blk_cell (F.out.bx _ (List.mem_cons_of_mem _ (List.mem_cons_of_mem _ (List.mem_cons_of_mem _ List.mem_cons_self)))) 1).trans rfl; have hfz26_0 : w15.frozen? ⟨gb1, 0, none⟩ = false := blk_frozen (F.out.bx _ (List.mem_cons_of_mem _ (List.mem_cons_of_mem _ (List.mem_cons_of_mem _ List.mem_cons_self)))) 0; have hfz26_1 : w15.frozen? ⟨gb1, 1, none⟩ = false := blk_frozen (F.out.bx _ (List.mem_cons_of_mem _ (List.mem_cons_of_mem _ (List.mem_cons_of_mem _ List.mem_cons_self)))) 1; have hcz27_0 : w15.cell? ⟨gbW, 0, none⟩ = some (.int .i64 wN) := (blk_cell (F.out.bx _ (List.mem_cons_of_mem _ (List.mem_cons_of_mem _ List.mem_cons_self))) 0).trans rfl; have hcz27_1 : w15.cell? ⟨gbW, 1, none⟩ = some (.slice Aw lW.length cw) := (blk_cell (F.out.bx _ (List.mem_cons_of_mem _ (List.mem_cons_of_mem _ List.mem_cons_self))) 1).trans rfl; have hfz27_0 : w15.frozen? ⟨gbW, 0, none⟩ = false := blk_frozen (F.out.bx _ (List.mem_cons_of_mem _ (List.mem_cons_of_mem _ List.mem_cons_self))) 0; have hfz27_1 : w15.frozen? ⟨gbW, 1, none⟩ = false := blk_frozen (F.out.bx _ (List.mem_cons_of_mem _ (List.mem_cons_of_mem _ List.mem_cons_self))) 1; have hcz28_0 : w15.cell? ⟨gbX, 0, none⟩ = some (.int .i64 xN) := (blk_cell (F.out.bx _ (List.mem_cons_of_mem _ List.mem_cons_self)) 0).trans rfl; have hcz28_1 : w15.cell? ⟨gbX, 1, none⟩ = some (.slice Ax xl.length cx) := (blk_cell (F.out.bx _ (List.mem_cons_of_mem _ List.mem_cons_self)) 1).trans rfl; have hfz28_0 : w15.frozen? ⟨gbX, 0, none⟩ = false := blk_frozen (F.out.bx _ (List.mem_cons_of_mem _ List.mem_cons_self)) 0; have hfz28_1 : w15.frozen? ⟨gbX, 1, none⟩ = false := blk_frozen (F.out.bx _ (List.mem_cons_of_mem _ List.mem_cons_self)) 1; have hcz29_0 : w15.cell? ⟨gbG, 0, none⟩ = some (.int .i64 gN) := (blk_cell (F.out.bx _ List.mem_cons_self) 0).trans rfl; have hcz29_1 : w15.cell? ⟨gbG, 1, none⟩ = some (.slice Ag lG.length cg) := (blk_cell (F.out.bx _ List.mem_cons_self) 1).trans rfl; have hfz29_0 : w15.frozen? ⟨gbG, 0, none⟩ = false := blk_frozen (F.out.bx _ List.mem_cons_self) 0; have hfz29_1 : w15.frozen? ⟨gbG, 1, none⟩ = false := blk_frozen (F.out.bx _ List.mem_cons_self) 1)
 | ((with_reducible refine gate_callee (f := 19) rfl ?_); refine goesL_ (some 72) rfl rfl Try.func19 (by kernel_rfl) rfl #[.agg #[.int .i64 gN, .slice Ag lG.length cg], .int .i64 1] rfl mA ?_; (with_reducible refine (laws_markGraph.callsS k gN okG (.slice Ag lG.length cg) lG 1 q lM w _ ?side1 ?side2 A7.out).mono ?_); (case side1 => exact (Go.Proofs.YtpdpampmbdgofaaW.Pick.Fb.below F.out Mv.out).B); (case side2 => exact (Go.Proofs.YtpdpampmbdgofaaW.Pick.Fb.below F.out Mv.out).fG); rintro e w16 ⟨rfl, hS, hb, hkp⟩; refine ⟨_, rfl, ?_⟩; obtain ⟨okH, F0⟩ := Go.Proofs.YtpdpampmbdgofaaW.Pick.Fb.markG (Go.Proofs.YtpdpampmbdgofaaW.Pick.Fb.below F.out Mv.out) hb hkp hS; clear F; have F := Aside0.mk F0; clear F0; clear hb hkp hS; have hl_ := (Kd.S_reads' F.out.fG).1; rw [hl_]; rw [hl_] at F; clear hl_; have hcz30_0 : w16.cell? ⟨gb1, 0, none⟩ = some (.int .i64 a0_0) := (blk_cell (F.out.bx _ (List.mem_cons_of_mem _ (List.mem_cons_of_mem _ (List.mem_cons_of_mem _ List.mem_cons_self)))) 0).trans rfl; have hcz30_1 : w16.cell? ⟨gb1, 1, none⟩ = some (.slice A0_1 l0_1.length c0_1) := (blk_cell (F.out.bx _ (List.mem_cons_of_mem _ (List.mem_cons_of_mem _ (List.mem_cons_of_mem _ List.mem_cons_self)))) 1).trans rfl; have hfz30_0 : w16.frozen? ⟨gb1, 0, none⟩ = false := blk_frozen (F.out.bx _ (List.mem_cons_of_mem _ (List.mem_cons_of_mem _ (List.mem_cons_of_mem _ List.mem_cons_self)))) 0; have hfz30_1 : w16.frozen? ⟨gb1, 1, none⟩ = false := blk_frozen (F.out.bx _ (List.mem_cons_of_mem _ (List.mem_cons_of_mem _ (List.mem_cons_of_mem _ List.mem_cons_self)))) 1; have hcz31_0 : w16.cell? ⟨gbW, 0, none⟩ = some (.int .i64 wN) := (blk_cell (F.out.bx _ (List.mem_cons_of_mem _ (List.mem_cons_of_mem _ List.mem_cons_self))) 0).trans rfl; have hcz31_1 : w16.cell? ⟨gbW, 1, none⟩ = some (.slice Aw lW.length cw) := (blk_cell (F.out.bx _ (List.mem_cons_of_mem _ (List.mem_cons_of_mem _ List.mem_cons_self))) 1).trans rfl; have hfz31_0 : w16.frozen? ⟨gbW, 0, none⟩ = false := blk_frozen (F.out.bx _ (List.mem_cons_of_mem _ (List.mem_cons_of_mem _ List.mem_cons_self))) 0; have hfz31_1 : w16.frozen? ⟨gbW, 1, none⟩ = false := blk_frozen (F.out.bx _ (List.mem_cons_of_mem _ (List.mem_cons_of_mem _ List.mem_cons_self))) 1; have hcz32_0 : w16.cell? ⟨gbX, 0, none⟩ = some (.int .i64 xN) := (blk_cell (F.out.bx _ (List.mem_cons_of_mem _ List.mem_cons_self)) 0).trans rfl; have hcz32_1 : w16.cell? ⟨gbX, 1, none⟩ = some (.slice Ax xl.length cx) := (blk_cell (F.out.bx _ (List.mem_cons_of_mem _ List.mem_cons_self)) 1).trans rfl; have hfz32_0 : w16.frozen? ⟨gbX, 0, none⟩ = false := blk_frozen (F.out.bx _ (List.mem_cons_of_mem _ List.mem_cons_self)) 0; have hfz32_1 : w16.frozen? ⟨gbX, 1, none⟩ = false := blk_frozen (F.out.bx _ (List.mem_cons_of_mem _ List.mem_cons_self)) 1; have hcz33_0 : w16.cell? ⟨gbG, 0, none⟩ = some (.int .i64 gN) := (blk_cell (F.out.bx _ List.mem_cons_self) 0).trans rfl; have hcz33_1 : w16.cell? ⟨gbG, 1, none⟩ = some (.slice Ag lM.length cg) := (blk_cell (F.out.bx _ List.mem_cons_self) 1).trans rfl; have hfz33_0 : w16.frozen? ⟨gbG, 0, none⟩ = false := blk_frozen (F.out.bx _ List.mem_cons_self) 0; have hfz33_1 : w16.frozen? ⟨gbG, 1, none⟩ = false := blk_frozen (F.out.bx _ List.mem_cons_self) 1)
 | ((with_reducible refine gate_callee (f := 26) rfl ?_); refine goesL_ (some 75) rfl rfl Try.func26 (by kernel_rfl) rfl #[.agg #[.int .i64 gN, .slice Ag lM.length cg], .int .i64 1] rfl mA ?_; (with_reducible refine (laws_heldGraph.calls k gN _ _ lM 1 q _ ?side1 ?side2 A8.out).mono ?_); (case side1 => exact (mC (Kd.S_reads' F.out.fG).2.2)); (case side2 => exact (Kd.S_reads' F.out.fG).2.1); rintro e w17 ⟨rfl, hb⟩; refine ⟨_, rfl, ?_⟩; have F0 := Aside0.mk (Go.Proofs.YtpdpampmbdgofaaW.Pick.Fb.below (Go.Proofs.YtpdpampmbdgofaaW.Pick.Fb.below F.out Mv.out) hb); clear F; have F := F0; clear F0 hb; have hcz52_0 : w17.cell? ⟨gb1, 0, none⟩ = some (.int .i64 a0_0) := (blk_cell (F.out.bx _ (List.mem_cons_of_mem _ (List.mem_cons_of_mem _ (List.mem_cons_of_mem _ List.mem_cons_self)))) 0).trans rfl; have hcz52_1 : w17.cell? ⟨gb1, 1, none⟩ = some (.slice A0_1 l0_1.length c0_1) := (blk_cell (F.out.bx _ (List.mem_cons_of_mem _ (List.mem_cons_of_mem _ (List.mem_cons_of_mem _ List.mem_cons_self)))) 1).trans rfl; have hfz52_0 : w17.frozen? ⟨gb1, 0, none⟩ = false := blk_frozen (F.out.bx _ (List.mem_cons_of_mem _ (List.mem_cons_of_mem _ (List.mem_cons_of_mem _ List.mem_cons_self)))) 0; have hfz52_1 : w17.frozen? ⟨gb1, 1, none⟩ = false := blk_frozen (F.out.bx _ (List.mem_cons_of_mem _ (List.mem_cons_of_mem _ (List.mem_cons_of_mem _ List.mem_cons_self)))) 1; have hcz53_0 : w17.cell? ⟨gbW, 0, none⟩ = some (.int .i64 wN) := (blk_cell (F.out.bx _ (List.mem_cons_of_mem _ (List.mem_cons_of_mem _ List.mem_cons_self))) 0).trans rfl; have hcz53_1 : w17.cell? ⟨gbW, 1, none⟩ = some (.slice Aw lW.length cw) := (blk_cell (F.out.bx _ (List.mem_cons_of_mem _ (List.mem_cons_of_mem _ List.mem_cons_self))) 1).trans rfl; have hfz53_0 : w17.frozen? ⟨gbW, 0, none⟩ = false := blk_frozen (F.out.bx _ (List.mem_cons_of_mem _ (List.mem_cons_of_mem _ List.mem_cons_self))) 0; have hfz53_1 : w17.frozen? ⟨gbW, 1, none⟩ = false := blk_frozen (F.out.bx _ (List.mem_cons_of_mem _ (List.mem_cons_of_mem _ List.mem_cons_self))) 1; have hcz54_0 : w17.cell? ⟨gbX, 0, none⟩ = some (.int .i64 xN) := (blk_cell (F.out.bx _ (List.mem_cons_of_mem _ List.mem_cons_self)) 0).trans rfl; have hcz54_1 : w17.cell? ⟨gbX, 1, none⟩ = some (.slice Ax xl.length cx) := (blk_cell (F.out.bx _ (List.mem_cons_of_mem _ List.mem_cons_self)) 1).trans rfl; have hfz54_0 : w17.frozen? ⟨gbX, 0, none⟩ = false := blk_frozen (F.out.bx _ (List.mem_cons_of_mem _ List.mem_cons_self)) 0; have hfz54_1 : w17.frozen? ⟨gbX, 1, none⟩ = false := blk_frozen (F.out.bx _ (List.mem_cons_of_mem _ List.mem_cons_self)) 1; have hcz55_0 : w17.cell? ⟨gbG, 0, none⟩ = some (.int .i64 gN) := (blk_cell (F.out.bx _ List.mem_cons_self) 0).trans rfl; have hcz55_1 : w17.cell? ⟨gbG, 1, none⟩ = some (.slice Ag lM.length cg) := (blk_cell (F.out.bx _ List.mem_cons_self) 1).trans rfl; have hfz55_0 : w17.frozen? ⟨gbG, 0, none⟩ = false := blk_frozen (F.out.bx _ List.mem_cons_self) 0; have hfz55_1 : w17.frozen? ⟨gbG, 1, none⟩ = false := blk_frozen (F.out.bx _ List.mem_cons_self) 1)
 | ((with_reducible refine gate_callee (f := 10) rfl ?_); refine goesL_ (some 83) rfl rfl Try.func10 (by kernel_rfl) rfl #[.agg #[.int .i64 a0_0, .slice A0_1 l0_1.length c0_1]] rfl mA ?_; (with_reducible refine (laws_toGraph.calls k a0_0 _ _ l0_1 xN xl _ ?side1 ?side2 A1.out).mono ?_); (case side1 => exact (mC (Kd.C_below HR0_1.out F.out.B))); (case side2 => exact HC0_1.out); rintro e w18 ⟨vu, rfl, ho0, hb⟩; refine ⟨_, rfl, ?_⟩; obtain ⟨Au, cu, et_⟩ := Kd.S_slice ho0; subst et_; have HT := Aside0.mk ho0; have F0 := Aside0.mk (Go.Proofs.YtpdpampmbdgofaaW.Pick.Fb.below (Go.Proofs.YtpdpampmbdgofaaW.Pick.Fb.below F.out Mv.out) hb); clear F; have F := F0; clear F0; clear hb ho0)
 | ((with_reducible refine gate_callee (f := 25) rfl ?_); refine goesL_ (some 86) rfl rfl Try.func25 (by kernel_rfl) rfl #[.agg #[.int .i64 xN, .slice Au xl.length cu], .int .i64 a1, .int .i64 a2] rfl mA ?_; (with_reducible refine (impl_AddAttack.calls k xN _ _ xl a1 a2 gN lG gb _ ?side1 ?side2 A3.out).mono ?_); (case side1 => exact (Kd.S_reads' (mS HT.out)).2.2); (case side2 => exact (Kd.S_reads' HT.out).2.1); rintro e w19 ⟨vh, rfl, ho0, hb⟩; refine ⟨_, rfl, ?_⟩; obtain ⟨okY, F0⟩ := Go.Proofs.YtpdpampmbdgofaaW.Pick.Fb.newX (Go.Proofs.YtpdpampmbdgofaaW.Pick.Fb.below F.out Mv.out) ho0 hb; clear F; have F := Aside0.mk F0; clear F0; clear HT hb ho0; obtain ⟨Ah, ch, eh_⟩ := Kd.S_slice F.out.fX; subst eh_; have hcz34_0 : w19.cell? ⟨gb1, 0, none⟩ = some (.int .i64 a0_0) := (blk_cell (F.out.bx _ (List.mem_cons_of_mem _ (List.mem_cons_of_mem _ (List.mem_cons_of_mem _ List.mem_cons_self)))) 0).trans rfl; have hcz34_1 : w19.cell? ⟨gb1, 1, none⟩ = some (.slice A0_1 l0_1.length c0_1) := (blk_cell (F.out.bx _ (List.mem_cons_of_mem _ (List.mem_cons_of_mem _ (List.mem_cons_of_mem _ List.mem_cons_self)))) 1).trans rfl; have hfz34_0 : w19.frozen? ⟨gb1, 0, none⟩ = false := blk_frozen (F.out.bx _ (List.mem_cons_of_mem _ (List.mem_cons_of_mem _ (List.mem_cons_of_mem _ List.mem_cons_self)))) 0; have hfz34_1 : w19.frozen? ⟨gb1, 1, none⟩ = false := blk_frozen (F.out.bx _ (List.mem_cons_of_mem _ (List.mem_cons_of_mem _ (List.mem_cons_of_mem _ List.mem_cons_self)))) 1; have hcz35_0 : w19.cell? ⟨gbW, 0, none⟩ = some (.int .i64 wN) := (blk_cell (F.out.bx _ (List.mem_cons_of_mem _ (List.mem_cons_of_mem _ List.mem_cons_self))) 0).trans rfl; have hcz35_1 : w19.cell? ⟨gbW, 1, none⟩ = some (.slice Aw lW.length cw) := (blk_cell (F.out.bx _ (List.mem_cons_of_mem _ (List.mem_cons_of_mem _ List.mem_cons_self))) 1).trans rfl; have hfz35_0 : w19.frozen? ⟨gbW, 0, none⟩ = false := blk_frozen (F.out.bx _ (List.mem_cons_of_mem _ (List.mem_cons_of_mem _ List.mem_cons_self))) 0; have hfz35_1 : w19.frozen? ⟨gbW, 1, none⟩ = false := blk_frozen (F.out.bx _ (List.mem_cons_of_mem _ (List.mem_cons_of_mem _ List.mem_cons_self))) 1; have hcz36_0 : w19.cell? ⟨gbX, 0, none⟩ = some (.int .i64 xN) := (blk_cell (F.out.bx _ (List.mem_cons_of_mem _ List.mem_cons_self)) 0).trans rfl; have hcz36_1 : w19.cell? ⟨gbX, 1, none⟩ = some (.slice Ax xl.length cx) := (blk_cell (F.out.bx _ (List.mem_cons_of_mem _ List.mem_cons_self)) 1).trans rfl; have hfz36_0 : w19.frozen? ⟨gbX, 0, none⟩ = false := blk_frozen (F.out.bx _ (List.mem_cons_of_mem _ List.mem_cons_self)) 0; have hfz36_1 : w19.frozen? ⟨gbX, 1, none⟩ = false := blk_frozen (F.out.bx _ (List.mem_cons_of_mem _ List.mem_cons_self)) 1; have hcz37_0 : w19.cell? ⟨gbG, 0, none⟩ = some (.int .i64 gN) := (blk_cell (F.out.bx _ List.mem_cons_self) 0).trans rfl; have hcz37_1 : w19.cell? ⟨gbG, 1, none⟩ = some (.slice Ag lM.length cg) := (blk_cell (F.out.bx _ List.mem_cons_self) 1).trans rfl; have hfz37_0 : w19.frozen? ⟨gbG, 0, none⟩ = false := blk_frozen (F.out.bx _ List.mem_cons_self) 0; have hfz37_1 : w19.frozen? ⟨gbG, 1, none⟩ = false := blk_frozen (F.out.bx _ List.mem_cons_self) 1)
 | ((with_reducible refine gate_dst (N := 16) rfl ?_); refine box_event ?hg (N := 16) ?hd (cs := #[.int .i64 0, .slice none 0 0]) (t := 28) ?hr ?_; (case hd => rfl); (case hg => rfl); (case hr => first | (go_simp; done) | (go_simp; rfl)); intro gbH hg w20 hbox hb; have F1 := Aside0.mk (Go.Proofs.YtpdpampmbdgofaaW.Pick.Fb.box (Go.Proofs.YtpdpampmbdgofaaW.Pick.Fb.below F.out Mv.out) (hg.trans rfl) hbox hb); obtain ⟨hnb_gbH_gb1, hnc_gbH_gb1⟩ := Go.Proofs.YtpdpampmbdgofaaW.Pick.Fb.ne F.out (List.mem_cons_of_mem _ (List.mem_cons_of_mem _ (List.mem_cons_of_mem _ List.mem_cons_self))) F1.out; obtain ⟨hnb_gbH_gbW, hnc_gbH_gbW⟩ := Go.Proofs.YtpdpampmbdgofaaW.Pick.Fb.ne F.out (List.mem_cons_of_mem _ (List.mem_cons_of_mem _ List.mem_cons_self)) F1.out; obtain ⟨hnb_gbH_gbX, hnc_gbH_gbX⟩ := Go.Proofs.YtpdpampmbdgofaaW.Pick.Fb.ne F.out (List.mem_cons_of_mem _ List.mem_cons_self) F1.out; obtain ⟨hnb_gbH_gbG, hnc_gbH_gbG⟩ := Go.Proofs.YtpdpampmbdgofaaW.Pick.Fb.ne F.out List.mem_cons_self F1.out; clear F; have F := F1; clear F1 hb hbox hg; have hcz38_0 : w20.cell? ⟨gb1, 0, none⟩ = some (.int .i64 a0_0) := (blk_cell (F.out.bx _ (List.mem_cons_of_mem _ (List.mem_cons_of_mem _ (List.mem_cons_of_mem _ (List.mem_cons_of_mem _ List.mem_cons_self))))) 0).trans rfl; have hcz38_1 : w20.cell? ⟨gb1, 1, none⟩ = some (.slice A0_1 l0_1.length c0_1) := (blk_cell (F.out.bx _ (List.mem_cons_of_mem _ (List.mem_cons_of_mem _ (List.mem_cons_of_mem _ (List.mem_cons_of_mem _ List.mem_cons_self))))) 1).trans rfl; have hfz38_0 : w20.frozen? ⟨gb1, 0, none⟩ = false := blk_frozen (F.out.bx _ (List.mem_cons_of_mem _ (List.mem_cons_of_mem _ (List.mem_cons_of_mem _ (List.mem_cons_of_mem _ List.mem_cons_self))))) 0; have hfz38_1 : w20.frozen? ⟨gb1, 1, none⟩ = false := blk_frozen (F.out.bx _ (List.mem_cons_of_mem _ (List.mem_cons_of_mem _ (List.mem_cons_of_mem _ (List.mem_cons_of_mem _ List.mem_cons_self))))) 1; have hcz39_0 : w20.cell? ⟨gbW, 0, none⟩ = some (.int .i64 wN) := (blk_cell (F.out.bx _ (List.mem_cons_of_mem _ (List.mem_cons_of_mem _ (List.mem_cons_of_mem _ List.mem_cons_self)))) 0).trans rfl; have hcz39_1 : w20.cell? ⟨gbW, 1, none⟩ = some (.slice Aw lW.length cw) := (blk_cell (F.out.bx _ (List.mem_cons_of_mem _ (List.mem_cons_of_mem _ (List.mem_cons_of_mem _ List.mem_cons_self)))) 1).trans rfl; have hfz39_0 : w20.frozen? ⟨gbW, 0, none⟩ = false := blk_frozen (F.out.bx _ (List.mem_cons_of_mem _ (List.mem_cons_of_mem _ (List.mem_cons_of_mem _ List.mem_cons_self)))) 0; have hfz39_1 : w20.frozen? ⟨gbW, 1, none⟩ = false := blk_frozen (F.out.bx _ (List.mem_cons_of_mem _ (List.mem_cons_of_mem _ (List.mem_cons_of_mem _ List.mem_cons_self)))) 1; have hcz40_0 : w20.cell? ⟨gbX, 0, none⟩ = some (.int .i64 xN) := (blk_cell (F.out.bx _ (List.mem_cons_of_mem _ (List.mem_cons_of_mem _ List.mem_cons_self))) 0).trans rfl; have hcz40_1 : w20.cell? ⟨gbX, 1, none⟩ = some (.slice Ax xl.length cx) := (blk_cell (F.out.bx _ (List.mem_cons_of_mem _ (List.mem_cons_of_mem _ List.mem_cons_self))) 1).trans rfl; have hfz40_0 : w20.frozen? ⟨gbX, 0, none⟩ = false := blk_frozen (F.out.bx _ (List.mem_cons_of_mem _ (List.mem_cons_of_mem _ List.mem_cons_self))) 0; have hfz40_1 : w20.frozen? ⟨gbX, 1, none⟩ = false := blk_frozen (F.out.bx _ (List.mem_cons_of_mem _ (List.mem_cons_of_mem _ List.mem_cons_self))) 1; have hcz41_0 : w20.cell? ⟨gbG, 0, none⟩ = some (.int .i64 gN) := (blk_cell (F.out.bx _ (List.mem_cons_of_mem _ List.mem_cons_self)) 0).trans rfl; have hcz41_1 : w20.cell? ⟨gbG, 1, none⟩ = some (.slice Ag lM.length cg) := (blk_cell (F.out.bx _ (List.mem_cons_of_mem _ List.mem_cons_self)) 1).trans rfl; have hfz41_0 : w20.frozen? ⟨gbG, 0, none⟩ = false := blk_frozen (F.out.bx _ (List.mem_cons_of_mem _ List.mem_cons_self)) 0; have hfz41_1 : w20.frozen? ⟨gbG, 1, none⟩ = false := blk_frozen (F.out.bx _ (List.mem_cons_of_mem _ List.mem_cons_self)) 1; have hcz42_0 : w20.cell? ⟨gbH, 0, none⟩ = some (.int .i64 0) := (blk_cell (F.out.bx _ List.mem_cons_self) 0).trans rfl; have hcz42_1 : w20.cell? ⟨gbH, 1, none⟩ = some (.slice none 0 0) := (blk_cell (F.out.bx _ List.mem_cons_self) 1).trans rfl; have hfz42_0 : w20.frozen? ⟨gbH, 0, none⟩ = false := blk_frozen (F.out.bx _ List.mem_cons_self) 0; have hfz42_1 : w20.frozen? ⟨gbH, 1, none⟩ = false := blk_frozen (F.out.bx _ List.mem_cons_self) 1)
 | ((with_reducible refine gate_callee (f := 13) rfl ?_); refine goesL_ (some 91) rfl rfl Try.func13 (by kernel_rfl) rfl #[.agg #[.int .i64 gN, .slice Ah lG.length ch], .agg #[.int .i64 wN, .slice Aw lW.length cw]] rfl mA ?_; (with_reducible refine (laws_eqGraph.calls k gN _ _ lG wN _ _ lW true _ ?side1 ?side2 ?side3 ?side4 A4.out).mono ?_); (case side1 => exact (Kd.S_reads' (Go.Proofs.YtpdpampmbdgofaaW.Pick.Fb.stored (Go.Proofs.YtpdpampmbdgofaaW.Pick.Fb.stored F.out 0 (.int .i64 gN)) 1 (.slice Ah lG.length ch)).fX).2.2); (case side2 => exact (Kd.S_reads' F.out.fX).2.1); (case side3 => exact (Kd.V_reads' (Go.Proofs.YtpdpampmbdgofaaW.Pick.Fb.stored (Go.Proofs.YtpdpampmbdgofaaW.Pick.Fb.stored F.out 0 (.int .i64 gN)) 1 (.slice Ah lG.length ch)).fW).2.2); (case side4 => exact (Kd.V_reads' F.out.fW).2.1); rintro e w21 ⟨rfl, hb⟩; refine ⟨_, rfl, ?_⟩; have F0 := Aside0.mk (Go.Proofs.YtpdpampmbdgofaaW.Pick.Fb.below (Go.Proofs.YtpdpampmbdgofaaW.Pick.Fb.stored (Go.Proofs.YtpdpampmbdgofaaW.Pick.Fb.stored F.out 0 (.int .i64 gN)) 1 (.slice Ah lG.length ch)) hb); clear F; have F := F0; clear F0 hb; have hcz43_0 : w21.cell? ⟨gb1, 0, none⟩ = some (.int .i64 a0_0) := (blk_cell (F.out.bx _ (List.mem_cons_of_mem _ (List.mem_cons_of_mem _ (List.mem_cons_of_mem _ (List.mem_cons_of_mem _ List.mem_cons_self))))) 0).trans rfl; have hcz43_1 : w21.cell? ⟨gb1, 1, none⟩ = some (.slice A0_1 l0_1.length c0_1) := (blk_cell (F.out.bx _ (List.mem_cons_of_mem _ (List.mem_cons_of_mem _ (List.mem_cons_of_mem _ (List.mem_cons_of_mem _ List.mem_cons_self))))) 1).trans rfl; have hfz43_0 : w21.frozen? ⟨gb1, 0, none⟩ = false := blk_frozen (F.out.bx _ (List.mem_cons_of_mem _ (List.mem_cons_of_mem _ (List.mem_cons_of_mem _ (List.mem_cons_of_mem _ List.mem_cons_self))))) 0; have hfz43_1 : w21.frozen? ⟨gb1, 1, none⟩ = false := blk_frozen (F.out.bx _ (List.mem_cons_of_mem _ (List.mem_cons_of_mem _ (List.mem_cons_of_mem _ (List.mem_cons_of_mem _ List.mem_cons_self))))) 1; have hcz44_0 : w21.cell? ⟨gbW, 0, none⟩ = some (.int .i64 wN) := (blk_cell (F.out.bx _ (List.mem_cons_of_mem _ (List.mem_cons_of_mem _ (List.mem_cons_of_mem _ List.mem_cons_self)))) 0).trans rfl; have hcz44_1 : w21.cell? ⟨gbW, 1, none⟩ = some (.slice Aw lW.length cw) := (blk_cell (F.out.bx _ (List.mem_cons_of_mem _ (List.mem_cons_of_mem _ (List.mem_cons_of_mem _ List.mem_cons_self)))) 1).trans rfl; have hfz44_0 : w21.frozen? ⟨gbW, 0, none⟩ = false := blk_frozen (F.out.bx _ (List.mem_cons_of_mem _ (List.mem_cons_of_mem _ (List.mem_cons_of_mem _ List.mem_cons_self)))) 0; have hfz44_1 : w21.frozen? ⟨gbW, 1, none⟩ = false := blk_frozen (F.out.bx _ (List.mem_cons_of_mem _ (List.mem_cons_of_mem _ (List.mem_cons_of_mem _ List.mem_cons_self)))) 1; have hcz45_0 : w21.cell? ⟨gbX, 0, none⟩ = some (.int .i64 xN) := (blk_cell (F.out.bx _ (List.mem_cons_of_mem _ (List.mem_cons_of_mem _ List.mem_cons_self))) 0).trans rfl; have hcz45_1 : w21.cell? ⟨gbX, 1, none⟩ = some (.slice Ax xl.length cx) := (blk_cell (F.out.bx _ (List.mem_cons_of_mem _ (List.mem_cons_of_mem _ List.mem_cons_self))) 1).trans rfl; have hfz45_0 : w21.frozen? ⟨gbX, 0, none⟩ = false := blk_frozen (F.out.bx _ (List.mem_cons_of_mem _ (List.mem_cons_of_mem _ List.mem_cons_self))) 0; have hfz45_1 : w21.frozen? ⟨gbX, 1, none⟩ = false := blk_frozen (F.out.bx _ (List.mem_cons_of_mem _ (List.mem_cons_of_mem _ List.mem_cons_self))) 1; have hcz46_0 : w21.cell? ⟨gbG, 0, none⟩ = some (.int .i64 gN) := (blk_cell (F.out.bx _ (List.mem_cons_of_mem _ List.mem_cons_self)) 0).trans rfl; have hcz46_1 : w21.cell? ⟨gbG, 1, none⟩ = some (.slice Ag lM.length cg) := (blk_cell (F.out.bx _ (List.mem_cons_of_mem _ List.mem_cons_self)) 1).trans rfl; have hfz46_0 : w21.frozen? ⟨gbG, 0, none⟩ = false := blk_frozen (F.out.bx _ (List.mem_cons_of_mem _ List.mem_cons_self)) 0; have hfz46_1 : w21.frozen? ⟨gbG, 1, none⟩ = false := blk_frozen (F.out.bx _ (List.mem_cons_of_mem _ List.mem_cons_self)) 1; have hcz47_0 : w21.cell? ⟨gbH, 0, none⟩ = some (.int .i64 gN) := (blk_cell (F.out.bx _ List.mem_cons_self) 0).trans rfl; have hcz47_1 : w21.cell? ⟨gbH, 1, none⟩ = some (.slice Ah lG.length ch) := (blk_cell (F.out.bx _ List.mem_cons_self) 1).trans rfl; have hfz47_0 : w21.frozen? ⟨gbH, 0, none⟩ = false := blk_frozen (F.out.bx _ List.mem_cons_self) 0; have hfz47_1 : w21.frozen? ⟨gbH, 1, none⟩ = false := blk_frozen (F.out.bx _ List.mem_cons_self) 1)
 | ((with_reducible refine gate_callee (f := 26) rfl ?_); refine goesL_ (some 100) rfl rfl Try.func26 (by kernel_rfl) rfl #[.agg #[.int .i64 gN, .slice Ag lM.length cg], .int .i64 1] rfl mA ?_; (with_reducible refine (laws_heldGraph.calls k gN _ _ lM 1 q _ ?side1 ?side2 A8.out).mono ?_); (case side1 => exact (mC (Kd.S_reads' F.out.fG).2.2)); (case side2 => exact (Kd.S_reads' F.out.fG).2.1); rintro e w22 ⟨rfl, hb⟩; refine ⟨_, rfl, ?_⟩; have F0 := Aside0.mk (Go.Proofs.YtpdpampmbdgofaaW.Pick.Fb.below (Go.Proofs.YtpdpampmbdgofaaW.Pick.Fb.below F.out Mv.out) hb); clear F; have F := F0; clear F0 hb; have hcz56_0 : w22.cell? ⟨gb1, 0, none⟩ = some (.int .i64 a0_0) := (blk_cell (F.out.bx _ (List.mem_cons_of_mem _ (List.mem_cons_of_mem _ (List.mem_cons_of_mem _ (List.mem_cons_of_mem _ List.mem_cons_self))))) 0).trans rfl; have hcz56_1 : w22.cell? ⟨gb1, 1, none⟩ = some (.slice A0_1 l0_1.length c0_1) := (blk_cell (F.out.bx _ (List.mem_cons_of_mem _ (List.mem_cons_of_mem _ (List.mem_cons_of_mem _ (List.mem_cons_of_mem _ List.mem_cons_self))))) 1).trans rfl; have hfz56_0 : w22.frozen? ⟨gb1, 0, none⟩ = false := blk_frozen (F.out.bx _ (List.mem_cons_of_mem _ (List.mem_cons_of_mem _ (List.mem_cons_of_mem _ (List.mem_cons_of_mem _ List.mem_cons_self))))) 0; have hfz56_1 : w22.frozen? ⟨gb1, 1, none⟩ = false := blk_frozen (F.out.bx _ (List.mem_cons_of_mem _ (List.mem_cons_of_mem _ (List.mem_cons_of_mem _ (List.mem_cons_of_mem _ List.mem_cons_self))))) 1; have hcz57_0 : w22.cell? ⟨gbW, 0, none⟩ = some (.int .i64 wN) := (blk_cell (F.out.bx _ (List.mem_cons_of_mem _ (List.mem_cons_of_mem _ (List.mem_cons_of_mem _ List.mem_cons_self)))) 0).trans rfl; have hcz57_1 : w22.cell? ⟨gbW, 1, none⟩ = some (.slice Aw lW.length cw) := (blk_cell (F.out.bx _ (List.mem_cons_of_mem _ (List.mem_cons_of_mem _ (List.mem_cons_of_mem _ List.mem_cons_self)))) 1).trans rfl; have hfz57_0 : w22.frozen? ⟨gbW, 0, none⟩ = false := blk_frozen (F.out.bx _ (List.mem_cons_of_mem _ (List.mem_cons_of_mem _ (List.mem_cons_of_mem _ List.mem_cons_self)))) 0; have hfz57_1 : w22.frozen? ⟨gbW, 1, none⟩ = false := blk_frozen (F.out.bx _ (List.mem_cons_of_mem _ (List.mem_cons_of_mem _ (List.mem_cons_of_mem _ List.mem_cons_self)))) 1; have hcz58_0 : w22.cell? ⟨gbX, 0, none⟩ = some (.int .i64 xN) := (blk_cell (F.out.bx _ (List.mem_cons_of_mem _ (List.mem_cons_of_mem _ List.mem_cons_self))) 0).trans rfl; have hcz58_1 : w22.cell? ⟨gbX, 1, none⟩ = some (.slice Ax xl.length cx) := (blk_cell (F.out.bx _ (List.mem_cons_of_mem _ (List.mem_cons_of_mem _ List.mem_cons_self))) 1).trans rfl; have hfz58_0 : w22.frozen? ⟨gbX, 0, none⟩ = false := blk_frozen (F.out.bx _ (List.mem_cons_of_mem _ (List.mem_cons_of_mem _ List.mem_cons_self))) 0; have hfz58_1 : w22.frozen? ⟨gbX, 1, none⟩ = false := blk_frozen (F.out.bx _ (List.mem_cons_of_mem _ (List.mem_cons_of_mem _ List.mem_cons_self))) 1; have hcz59_0 : w22.cell? ⟨gbG, 0, none⟩ = some (.int .i64 gN) := (blk_cell (F.out.bx _ (List.mem_cons_of_mem _ List.mem_cons_self)) 0).trans rfl; have hcz59_1 : w22.cell? ⟨gbG, 1, none⟩ = some (.slice Ag lM.length cg) := (blk_cell (F.out.bx _ (List.mem_cons_of_mem _ List.mem_cons_self)) 1).trans rfl; have hfz59_0 : w22.frozen? ⟨gbG, 0, none⟩ = false := blk_frozen (F.out.bx _ (List.mem_cons_of_mem _ List.mem_cons_self)) 0; have hfz59_1 : w22.frozen? ⟨gbG, 1, none⟩ = false := blk_frozen (F.out.bx _ (List.mem_cons_of_mem _ List.mem_cons_self)) 1; have hcz60_0 : w22.cell? ⟨gbH, 0, none⟩ = some (.int .i64 gN) := (blk_cell (F.out.bx _ List.mem_cons_self) 0).trans rfl; have hcz60_1 : w22.cell? ⟨gbH, 1, none⟩ = some (.slice Ah lG.length ch) := (blk_cell (F.out.bx _ List.mem_cons_self) 1).trans rfl; have hfz60_0 : w22.frozen? ⟨gbH, 0, none⟩ = false := blk_frozen (F.out.bx _ List.mem_cons_self) 0; have hfz60_1 : w22.frozen? ⟨gbH, 1, none⟩ = false := blk_frozen (F.out.bx _ List.mem_cons_self) 1))
 go_ret
 exact ⟨rfl, (Go.Proofs.YtpdpampmbdgofaaW.Pick.Fb.below F.out Mv.out).B⟩
end Go.Proofs.Ytpdpampmbdgofaa.GFnExactAddAttack
