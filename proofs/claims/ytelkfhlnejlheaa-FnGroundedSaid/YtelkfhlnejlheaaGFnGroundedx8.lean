-- Written by gprint.py, a program of this session, with the printer of the kit as its library. Lean checks it.
import Derived.Test.YtelkfhlnejlheaaGFnGroundedx0
import Derived.Test.YtelkfhlnejlheaaGFnGroundedx5
import Derived.Test.YtelkfhlnejlheaaGFnGroundedx7
namespace Go.Proofs.Ytelkfhlnejlheaa.GFnGrounded
open Go.RowKit Go.Proofs.YtelkfhlnejlheaaW.PrintWords Go.Proofs.YtelkfhlnejlheaaW.PrintLast Go.Proofs.YtelkfhlnejlheaaW.PrintMore
attribute [local go_sem] max2_int min2_int max_two min_two max_three min_three max_four min_four   -- for this text's walks alone
set_option linter.unusedVariables false
set_option linter.unusedSimpArgs false

/-! ### spec_l4Draw: function 121 -/
def spec_l4Draw.l0 : Nat → Int → List Int → Int → Int → Int → List (List Int) → Option (Int × (List (List Int)) × Int × Int)
 | 0, _, _, _, _, _, _ => none
 | k + 1, x4, x1000, x1001, x1002, x360000, x360001 => if x4 > 0 then ((spec_l1Below.f x1000 x1001 x1002 x360000).bind fun bt363 => ((spec_l1Below.f x1000 bt363.2.1 bt363.2.2 x360000).bind fun bt366 => ((spec_AddAttack.f k x360000 x360001 bt363.1 bt366.1).bind fun bt369 => (spec_l4Draw.l0 k (wrap64 (x4 - 1)) x1000 bt366.2.1 bt366.2.2 bt369.1 bt369.2.1)))) else (some (x360000, x360001, x1001, x1002))
def spec_l4Draw.f (k : Nat) (s0_0 : List Int) (s0_1 : Int) (s0_2 : Int) : Option (Int × (List (List Int)) × Int × Int) := (spec_l1Below.f s0_0 s0_1 s0_2 6).bind fun bt356 => ((spec_l1Below.f s0_0 bt356.2.1 bt356.2.2 10).bind fun bt360 => (spec_l4Draw.l0 k bt360.1 s0_0 bt360.2.1 bt360.2.2 (wrap64 (1 + bt356.1)) ([] : List (List Int))))
theorem spec_l4Draw.mono_l : ∀ k, (∀ y0 y1 y2 y3 y4 y5, LeO (spec_l4Draw.l0 k y0 y1 y2 y3 y4 y5) (spec_l4Draw.l0 (k + 1) y0 y1 y2 y3 y4 y5))
 | 0 => fun _ _ _ _ _ _ r h => by simp [spec_l4Draw.l0] at h
 | k + 1 => by
  have ih0 := spec_l4Draw.mono_l k
  ·
   intro y0 y1 y2 y3 y4 y5
   unfold spec_l4Draw.l0
   repeat' with_reducible first | exact ih0 _ _ _ _ _ _ | exact spec_AddAttack.mono _ _ _ _ _ | exact LeO.refl _ | exact LeO.none _ | refine LeO.ite ?_ ?_ | refine LeO.bind ?_ (fun _ => ?_)
theorem spec_l4Draw.mono : ∀ a0 a1 a2 k, LeO (spec_l4Draw.f k a0 a1 a2) (spec_l4Draw.f (k + 1) a0 a1 a2) := by
 intro a0 a1 a2 k
 have ih0 := spec_l4Draw.mono_l k
 unfold spec_l4Draw.f
 repeat' with_reducible first | exact ih0 _ _ _ _ _ _ | exact spec_AddAttack.mono _ _ _ _ _ | exact LeO.refl _ | exact LeO.none _ | refine LeO.ite ?_ ?_ | refine LeO.bind ?_ (fun _ => ?_)
def spec_l4Draw.T5 : Bool × List (List Nat × List Nat) := (true, [([], []), ([], []), ([], []), ([2], [2]), ([1, 3], [1, 3]), ([], []), ([], []), ([6], [6]), ([5, 7, 4], [5, 7]), ([0, 4, 8, 8], [0, 4, 8]), ([9], [9]), ([10], [10]), ([10], [10]), ([11, 9, 0, 1, 2, 3, 4, 5, 6, 7, 8, 9, 10, 11], [11])])
def spec_l4Draw.B5 : List Nat := [0, 0, 0, 4, 14, 0, 0, 64, 254, 511, 1023, 2047, 2047, 4095]
theorem spec_l4Draw.tab5 : rtab .any (opsOf Try.f121 5) = spec_l4Draw.T5 := by kernel_rfl
theorem spec_l4Draw.bits5 : waitsOk spec_l4Draw.T5.2 spec_l4Draw.B5 = true := by kernel_rfl
set_option maxHeartbeats 8000000 in
set_option maxRecDepth 100000 in
theorem spec_l4Draw.calls (k : Nat) (g : Nat) (s0_0 : List Int) (s0_1 : Int) (s0_2 : Int) (r1 : Int) (r2 : List (List Int)) (r3 : Int) (r4 : Int) (w0 w : World) (hI : IsS88 w0 w g s0_0 s0_1 s0_2) (hB : Below w0.heap.size w0 w) (h : spec_l4Draw.f k s0_0 s0_1 s0_2 = some (r1, r2, r3, r4)) :
  Calls Try.prog 121 #[.pointer (some ⟨g, 0, none⟩)] w fun e w' => ∃ v1_ : Value, e = .returned (.agg #[.int .i64 r1, v1_]) ∧ Kd.S (Kd.slice 3 (Kd.int .i64)) 25 w' w.heap.size (fun _ => True) v1_ r2 ∧ IsS88 w0 w' g s0_0 r3 r4 ∧ Below w0.heap.size w0 w' ∧ KeepBut w w' g none := by
 have hu28 := Try.underlying28
 have HI0 := Aside0.mk hI
 have HK := Aside0.mk (KeepBut.refl w g none)
 have HL := Aside0.mk hB.size
 clear hI
 have HW0 := Aside0.mk hB.size
 have HB := Aside0.mk hB
 clear hB
 have H : ((spec_l1Below.f s0_0 s0_1 s0_2 6).bind fun bt356 => ((spec_l1Below.f s0_0 bt356.2.1 bt356.2.2 10).bind fun bt360 => (spec_l4Draw.l0 k bt360.1 s0_0 bt360.2.1 bt360.2.2 (wrap64 (1 + bt356.1)) ([] : List (List Int))))) = some (r1, r2, r3, r4) := h
 clear h
 replace H := Option.bind_eq_some_iff.mp H
 obtain ⟨⟨t356, t357, t358⟩, A20, H⟩ := H
 try dsimp only at H
 have A2 := Aside0.mk A20
 clear A20
 replace H := Option.bind_eq_some_iff.mp H
 obtain ⟨⟨t360, t361, t362⟩, A30, H⟩ := H
 try dsimp only at H
 have A3 := Aside0.mk A30
 clear A30
 have H' := Aside0.mk H
 clear H
 go_enter Try.func121, Try.ntmps121
 go_wp2_with (first | ((with_reducible refine gate_dst (N := 2) rfl ?_); refine box_event ?hg (N := 2) ?hd (cs := #[.int .i64 0, .slice none 0 0]) (t := 28) ?hr ?_; (case hd => rfl); (case hg => rfl); (case hr => first | (go_simp; done) | (go_simp; rfl)); intro gb355 hg w4 hbox hb; have n0_ := Aside0.mk (IsS88.below (mI) hb); have n1_ := Aside0.mk (KeepBut.trans (mq HK.out) (KeepBut.of_below hb g none) (.inl rfl)); have n2_ := Aside0.mk (below_step (mJ) hb); have n3_ := Aside0.mk (hbox); have n4_ := Aside0.mk ((by rw [hg]; exact (keep_size (w := w) (g := g) (row := none) (mQ)) : w.heap.size ≤ gb355)); have n5_ := Aside0.mk ((Nat.le_trans HW0.out (by rw [hg]; exact (keep_size (w := w) (g := g) (row := none) (mQ)) : w.heap.size ≤ gb355) : w0.heap.size ≤ gb355)); have n6_ := Aside0.mk ((by rw [hg]; exact Nat.ne_of_lt (IsS88.lt (show IsS88 w0 _ g s0_0 s0_1 s0_2 from mI)) : g ≠ gb355)); have n7_ := Aside0.mk ((by rw [hg]; exact Nat.ne_of_gt (IsS88.lt (show IsS88 w0 _ g s0_0 s0_1 s0_2 from mI)) : gb355 ≠ g)); clear HI0 HK HB; have HI0 := n0_; have HK := n1_; have HB := n2_; have BK355 := n3_; have GW355 := n4_; have GE355 := n5_; have NB0_355 := n6_; have NB355_0 := n7_; clear n0_ n1_ n2_ n3_ n4_ n5_ n6_ n7_; clear hb hbox hg) | ((with_reducible refine gate_callee (f := 116) rfl ?_); refine goesL_ (some 6) rfl rfl Try.func116 (by kernel_rfl) rfl #[.pointer (some ⟨g, 0, none⟩), .int .i64 6] rfl mA ?_; (with_reducible refine (spec_l1Below.calls g s0_0 s0_1 s0_2 6 t356 t357 t358 w0 _ ?side1 ?side2 A2.out).mono ?_); (case side1 => repeat (first | (with_reducible first | exact HI0.out | apply IsS88.alloc | apply IsS88.drewN | apply IsS88.drew | apply IsS88.set_1 | apply IsS88.set_2 | refine IsS88.far ?_ NB0_355.out _) | exact HI0.out)); (case side2 => repeat (first | (with_reducible first | exact HB.out | apply below_alloc | apply pw_below_drewN | apply below_drew1 | refine below_set ?_ (IsS88.ge HI0.out) | refine below_set ?_ GE355.out) | exact HB.out)); rintro e w5 ⟨rfl, hi, hb, hk⟩; refine ⟨_, rfl, ?_⟩; have n0_ := Aside0.mk (KeepBut.blk hk (g' := gb355) (o := .cells #[.int .i64 0, .slice none 0 0] 28 (0, 0)) ((mK (BK355.out))) NB355_0.out (by simp)); have n1_ := Aside0.mk (KeepBut.trans (mq HK.out) hk (.inl rfl)); have n2_ := Aside0.mk (hb); have n3_ := Aside0.mk (hi); clear BK355 HK HB HI0; have BK355 := n0_; have HK := n1_; have HB := n2_; have HI0 := n3_; clear n0_ n1_ n2_ n3_; (try clear hb)) | ((with_reducible refine gate_dst (N := 3) rfl ?_); refine box_event ?hg (N := 3) ?hd (cs := #[.int .i64 0, .slice none 0 0]) (t := 28) ?hr ?_; (case hd => rfl); (case hg => rfl); (case hr => first | (go_simp; done) | (go_simp; rfl)); intro gb359 hg w6 hbox hb; have n0_ := Aside0.mk (IsS88.below (mI) hb); have n1_ := Aside0.mk (blk_below (g := gb355) (o := .cells #[.int .i64 0, .slice none 0 0] 28 (0, 0)) ((mK (BK355.out))) hb); have n2_ := Aside0.mk (KeepBut.trans (mq HK.out) (KeepBut.of_below hb g none) (.inl rfl)); have n3_ := Aside0.mk (below_step (mJ) hb); have n4_ := Aside0.mk (hbox); have n5_ := Aside0.mk ((by rw [hg]; exact (keep_size (w := w) (g := g) (row := none) (mQ)) : w.heap.size ≤ gb359)); have n6_ := Aside0.mk ((Nat.le_trans HW0.out (by rw [hg]; exact (keep_size (w := w) (g := g) (row := none) (mQ)) : w.heap.size ≤ gb359) : w0.heap.size ≤ gb359)); have n7_ := Aside0.mk ((by rw [hg]; exact Nat.ne_of_lt (blk_lt (g := gb355) (o := .cells #[.int .i64 0, .slice none 0 0] 28 (0, 0)) ((mK (BK355.out)))) : gb355 ≠ gb359)); have n8_ := Aside0.mk ((by rw [hg]; exact Nat.ne_of_gt (blk_lt (g := gb355) (o := .cells #[.int .i64 0, .slice none 0 0] 28 (0, 0)) ((mK (BK355.out)))) : gb359 ≠ gb355)); have n9_ := Aside0.mk ((by rw [hg]; exact Nat.ne_of_lt (IsS88.lt (show IsS88 w0 _ g s0_0 t357 t358 from mI)) : g ≠ gb359)); have n10_ := Aside0.mk ((by rw [hg]; exact Nat.ne_of_gt (IsS88.lt (show IsS88 w0 _ g s0_0 t357 t358 from mI)) : gb359 ≠ g)); clear HI0 BK355 HK HB; have HI0 := n0_; have BK355 := n1_; have HK := n2_; have HB := n3_; have BK359 := n4_; have GW359 := n5_; have GE359 := n6_; have NB355_359 := n7_; have NB359_355 := n8_; have NB0_359 := n9_; have NB359_0 := n10_; clear n0_ n1_ n2_ n3_ n4_ n5_ n6_ n7_ n8_ n9_ n10_; clear hb hbox hg; have hnb7 := NB359_355.out; have hnc7 := NB355_359.out; have hnb8 := NB359_0.out; have hnc8 := NB0_359.out; have hcz9_0 : w6.cell? ⟨gb359, 0, none⟩ = some (.int .i64 0) := (blk_cell BK359.out 0).trans rfl; have hcz9_1 : w6.cell? ⟨gb359, 1, none⟩ = some (.slice none 0 0) := (blk_cell BK359.out 1).trans rfl; have hfz9_0 := blk_frozen BK359.out 0; have hfz9_1 := blk_frozen BK359.out 1) | ((with_reducible refine gate_callee (f := 116) rfl ?_); refine goesL_ (some 10) rfl rfl Try.func116 (by kernel_rfl) rfl #[.pointer (some ⟨g, 0, none⟩), .int .i64 10] rfl mA ?_; (with_reducible refine (spec_l1Below.calls g s0_0 t357 t358 10 t360 t361 t362 w0 _ ?side1 ?side2 A3.out).mono ?_); (case side1 => repeat (first | (with_reducible first | exact HI0.out | apply IsS88.alloc | apply IsS88.drewN | apply IsS88.drew | apply IsS88.set_1 | apply IsS88.set_2 | refine IsS88.far ?_ NB0_355.out _ | refine IsS88.far ?_ NB0_359.out _) | exact HI0.out)); (case side2 => repeat (first | (with_reducible first | exact HB.out | apply below_alloc | apply pw_below_drewN | apply below_drew1 | refine below_set ?_ (IsS88.ge HI0.out) | refine below_set ?_ GE355.out | refine below_set ?_ GE359.out) | exact HB.out)); rintro e w10 ⟨rfl, hi, hb, hk⟩; refine ⟨_, rfl, ?_⟩; have n0_ := Aside0.mk (KeepBut.blk hk (g' := gb355) (o := .cells #[.int .i64 0, .slice none 0 0] 28 (0, 0)) (by refine pK ?_; refine blk_far ?_ NB355_359.out _; refine pK ?_; refine blk_far ?_ NB355_359.out _; refine pK ?_; exact BK355.out) NB355_0.out (by simp)); have n1_ := Aside0.mk (KeepBut.blk hk (g' := gb359) (o := .cells #[.int .i64 (wrap64 (1 + t356)), .slice none 0 0] 28 (0, 0)) (by refine pK ?_; refine blk_put (cs := #[.int .i64 (wrap64 (1 + t356)), .slice none 0 0]) ?_ 1 _ rfl; refine pK ?_; refine blk_put (cs := #[.int .i64 0, .slice none 0 0]) ?_ 0 _ rfl; refine pK ?_; exact BK359.out) NB359_0.out (by simp)); have n2_ := Aside0.mk (KeepBut.trans (mq HK.out) hk (.inl rfl)); have n3_ := Aside0.mk (hb); have n4_ := Aside0.mk (hi); clear BK355 BK359 HK HB HI0; have BK355 := n0_; have BK359 := n1_; have HK := n2_; have HB := n3_; have HI0 := n4_; clear n0_ n1_ n2_ n3_ n4_; (try clear hb)))
 go_loopg [4] k (fun kq v4 w' => ∃ (x4_1 : Int) (x1001_1 : Int) (x1002_1 : Int) (x360000_1 : Int) (x360001_1 : List (List Int)) (u360001 : Value), v4 = .int .i64 x4_1 ∧ Aside0 (spec_l4Draw.l0 kq x4_1 s0_0 x1001_1 x1002_1 x360000_1 x360001_1 = some (r1, r2, r3, r4)) ∧ Aside0 (kq ≤ k) ∧ Aside0 (Kd.S (Kd.slice 3 (Kd.int .i64)) 25 w' w.heap.size (fun _ => True) u360001 x360001_1) ∧ Aside0 (w'.heap[gb355]? = some (.cells #[.int .i64 0, (.slice none 0 0)] 28 (0, 0))) ∧ Aside0 (w'.heap[gb359]? = some (.cells #[.int .i64 x360000_1, u360001] 28 (0, 0))) ∧ Aside0 (IsS88 w0 w' g s0_0 x1001_1 x1002_1) ∧ Aside0 (KeepBut w w' g none) ∧ Aside0 (Below w0.heap.size w0 w'))
 case atStart => exact ⟨(t360), (t361), (t362), (wrap64 (1 + t356)), (([] : List (List Int))), (.slice none 0 0), mF, H', ⟨Nat.le_refl _⟩, ⟨by first | exact Kd.S_nil _ _ _ _ _ | exact Kd.N_nil _ _ _ _ _ | exact Kd.V_nil _ _ _ _ _ | exact Kd.Q_nil _ _ _ _ _ | exact Kd.R_nil _ _ _ _ _⟩, ⟨(mK (BK355.out))⟩, ⟨(mK (BK359.out))⟩, ⟨mI⟩, ⟨mQ⟩, ⟨mJ⟩⟩
 case round =>
  clear H'
  (try clear hcz9_0); (try clear hcz9_1); (try clear hfz9_0); (try clear hfz9_1)
  obtain ⟨x4_1, x1001_1, x1002_1, x360000_1, x360001_1, u360001, rfl, HA, HK1, HO_360001, BK355, BK359, HI0, HK, HB⟩ := hrel
  cases gk with
  | zero => exact absurd HA.out (by simp [spec_l4Draw.l0])
  | succ k1 =>
   have H := HA.out
   clear HA
   simp only [spec_l4Draw.l0] at H
   by_cases c11 : x4_1 > 0
   rotate_left
   ·
    rw [if_neg c11] at H
    have c11b0 : decide (0 < x4_1) = false := decide_eq_false c11
    clear c11
    simp only [Option.some.injEq, Prod.mk.injEq] at H
    obtain ⟨rfl, rfl, rfl, rfl⟩ := H
    have hnb23 := NB359_355.out
    have hnc23 := NB355_359.out
    have hnb24 := NB359_0.out
    have hnc24 := NB0_359.out
    have hcz25_0 : wr.cell? ⟨gb359, 0, none⟩ = some (.int .i64 x360000_1) := (blk_cell BK359.out 0).trans rfl
    have hcz25_1 : wr.cell? ⟨gb359, 1, none⟩ = some (u360001) := (blk_cell BK359.out 1).trans rfl
    have hfz25_0 := blk_frozen BK359.out 0
    have hfz25_1 := blk_frozen BK359.out 1
    have hnb26 := NB355_0.out
    have hnc26 := NB0_355.out
    have hcz27_0 : wr.cell? ⟨gb355, 0, none⟩ = some (.int .i64 0) := (blk_cell BK355.out 0).trans rfl
    have hcz27_1 : wr.cell? ⟨gb355, 1, none⟩ = some (.slice none 0 0) := (blk_cell BK355.out 1).trans rfl
    have hfz27_0 := blk_frozen BK355.out 0
    have hfz27_1 := blk_frozen BK355.out 1
    obtain ⟨Ao28, co28, eo28⟩ := Kd.S_slice HO_360001.out
    subst eo28
    go_wp2
    refine bodyPost_ret (results_cell_row rfl _ _ gb355 28 #[.int .i64 x360000_1, .slice Ao28 x360001_1.length co28] (0, 0) _ rfl (by refine pK ?_; refine blk_put (cs := #[.int .i64 x360000_1, .slice none 0 0]) ?_ 1 _ rfl; refine pK ?_; refine blk_put (cs := #[.int .i64 0, .slice none 0 0]) ?_ 0 _ rfl; refine pK ?_; exact BK355.out) Try.underlying28 rfl (by kernel_rfl)) rfl ?_
    exact ⟨_, mE, by (with_reducible repeat (first | apply Kd.S_alloc | apply Kd.S_drewN | apply Kd.S_drew)); exact Kd.S_mono (Kd.S_far (p := ⟨gb355, 1, none⟩) (Kd.S_far (p := ⟨gb355, 0, none⟩) (Kd.S_types HO_360001.out BK355.out (by decide)) (fun _ hk => hk.2) (.int .i64 x360000_1)) (fun _ hk => hk.2) (.slice Ao28 x360001_1.length co28)) (fun _ hk => trivial), mI, mJ, mQ⟩
   rw [if_pos c11] at H
   have c11b0 : decide (0 < x4_1) = true := decide_eq_true c11
   clear c11
   replace H := Option.bind_eq_some_iff.mp H
   obtain ⟨⟨t363, t364, t365⟩, A120, H⟩ := H
   try dsimp only at H
   have A12 := Aside0.mk A120
   clear A120
   replace H := Option.bind_eq_some_iff.mp H
   obtain ⟨⟨t366, t367, t368⟩, A130, H⟩ := H
   try dsimp only at H
   have A13 := Aside0.mk A130
   clear A130
   replace H := Option.bind_eq_some_iff.mp H
   obtain ⟨⟨t369, t370, t373⟩, A140, H⟩ := H
   try dsimp only at H
   have A14 := Aside0.mk A140
   clear A140
   have H' := Aside0.mk H
   clear H
   try go_wp2
   have n0_ := Aside0.mk (Kd.S_drew HO_360001.out)
   have n1_ := Aside0.mk (blk_drew BK355.out)
   have n2_ := Aside0.mk (blk_drew BK359.out)
   have n3_ := Aside0.mk (IsS88.drew HI0.out)
   have n4_ := Aside0.mk (keep_drew HK.out)
   have n5_ := Aside0.mk (below_drew1 HB.out)
   clear HO_360001 BK355 BK359 HI0 HK HB; have HO_360001 := n0_; have BK355 := n1_; have BK359 := n2_; have HI0 := n3_; have HK := n4_; have HB := n5_; clear n0_ n1_ n2_ n3_ n4_ n5_
   refine start_ (n := 14) (S := fun w' => w'.cell? ⟨gb359, 0, none⟩ = some (.int .i64 x360000_1) ∧ w'.cell? ⟨gb359, 1, none⟩ = some (u360001)) (ds := [13]) (L_ 0 14) (by kernel_rfl) rfl rfl ⟨(blk_cell BK359.out 0).trans rfl, (blk_cell BK359.out 1).trans rfl⟩ (fun hHeld => ?_); refine with_tabW spec_l4Draw.tab5 spec_l4Draw.bits5 (fun HT_ HW_ => ?_)
   generalize wr.drew = w15 at HO_360001 BK355 BK359 HI0 HK HB hHeld ⊢
   refine ps 1 17 #[false, true, false, false, false, false, false, false, false, false, false, false, false, false] HT_.out ?_
   refine ps 2 18 #[false, true, true, false, false, false, false, false, false, false, false, false, false, false] HT_.out ?_
   refine ps 5 21 #[false, true, true, false, false, true, false, false, false, false, false, false, false, false] HT_.out ?_
   refine ps 6 22 #[false, true, true, false, false, true, true, false, false, false, false, false, false, false] HT_.out ?_
   refine take_ (i := 0) (N := some 16) (v := ?_) (a' := ?_) #[true, true, true, false, false, true, true, false, false, false, false, false, false, false] rfl rfl (take_ofW HT_.out HW_.out (by kernel_rfl)) (fun _ _ _ h => h) (Or.inl ⟨by rfl, ?_⟩) hHeld ?_ ?_
   rotate_left
   ·
    rintro w' ⟨s0, s1⟩
    go_simp
    with_reducible rfl
   rotate_left
   ·
    simp only [Act.put, List.setIfInBounds_toArray, List.set_cons_zero, List.set_cons_succ, i64_w, i32_w]
    rfl
   refine take_ (i := 3) (N := some 19) (v := ?_) (a' := ?_) #[true, true, true, true, false, true, true, false, false, false, false, false, false, false] rfl rfl (take_ofW HT_.out HW_.out (by kernel_rfl)) (fun _ _ _ h => h) (Or.inl ⟨by rfl, ?_⟩) hHeld ?_ ?_
   rotate_left
   ·
    rintro w' ⟨s0, s1⟩
    go_simp
    with_reducible rfl
   rotate_left
   ·
    simp only [Act.put, List.setIfInBounds_toArray, List.set_cons_zero, List.set_cons_succ, i64_w, i32_w]
    rfl
   refine take_ (i := 7) (N := some 23) (v := ?_) (a' := ?_) #[true, true, true, true, false, true, true, true, false, false, false, false, false, false] rfl rfl (take_ofW HT_.out HW_.out (by kernel_rfl)) (fun _ _ _ h => h) (Or.inl ⟨by rfl, ?_⟩) hHeld ?_ ?_
   rotate_left
   ·
    rintro w' ⟨s0, s1⟩
    go_simp
    with_reducible rfl
   rotate_left
   ·
    simp only [Act.put, List.setIfInBounds_toArray, List.set_cons_zero, List.set_cons_succ, i64_w, i32_w]
    rfl
   refine one_ (i := 4) (N := some 20) (L_ 8 14) rfl rfl (one_of HT_.out (by kernel_rfl)) (by decide) (fun K hK => ?_)
   refine goes_ Try.func116 (by kernel_rfl) rfl #[.pointer (some ⟨g, 0, none⟩), .int .i64 x360000_1] (by rfl) rfl rfl mA ?_
   with_reducible refine (spec_l1Below.calls g s0_0 x1001_1 x1002_1 x360000_1 t363 t364 t365 w0 _ ?side1 ?side2 A12.out).mono ?_
   (case side1 => repeat (first | (with_reducible first | exact HI0.out | apply IsS88.alloc | apply IsS88.drewN | apply IsS88.drew | apply IsS88.set_1 | apply IsS88.set_2 | refine IsS88.far ?_ NB0_355.out _ | refine IsS88.far ?_ NB0_359.out _) | exact HI0.out))
   (case side2 => repeat (first | (with_reducible first | exact HB.out | apply below_alloc | apply pw_below_drewN | apply below_drew1 | refine below_set ?_ (IsS88.ge HI0.out) | refine below_set ?_ GE355.out | refine below_set ?_ GE359.out) | exact HB.out))
   rintro e w16 ⟨rfl, hi, hb, hk⟩
   refine ⟨_, rfl, ?_⟩
   have n0_ := Aside0.mk (Kd.S_mono (Kd.S_keep (IsS88.apartS (show IsS88 w0 _ g s0_0 x1001_1 x1002_1 from mI) (mS HO_360001.out) (by decide)) hk (fun _ h => h.2)) (fun _ h => h.1))
   have n1_ := Aside0.mk (KeepBut.blk hk (g' := gb355) (o := .cells #[.int .i64 0, .slice none 0 0] 28 (0, 0)) ((mK (BK355.out))) NB355_0.out (by simp))
   have n2_ := Aside0.mk (KeepBut.blk hk (g' := gb359) (o := .cells #[.int .i64 x360000_1, u360001] 28 (0, 0)) ((mK (BK359.out))) NB359_0.out (by simp))
   have n3_ := Aside0.mk (KeepBut.trans (mq HK.out) hk (.inl rfl))
   have n4_ := Aside0.mk (hb)
   have n5_ := Aside0.mk (hi)
   clear HO_360001 BK355 BK359 HK HB HI0; have HO_360001 := n0_; have BK355 := n1_; have BK359 := n2_; have HK := n3_; have HB := n4_; have HI0 := n5_; clear n0_ n1_ n2_ n3_ n4_ n5_; (try clear hb)
   refine hK.out _ _ ⟨(blk_cell BK359.out 0).trans rfl, (blk_cell BK359.out 1).trans rfl⟩ (fun hHeld => ?_)
   clear hK K
   refine norm_ (a' := ?_) ?_ ?_
   rotate_left
   ·
    show Act.put _ (some 20) _ = _
    simp only [Act.put, List.setIfInBounds_toArray, List.set_cons_zero, List.set_cons_succ, i64_w, i32_w]
    rfl
   refine one_ (i := 8) (N := some 24) (L_ 9 14) rfl rfl (one_of HT_.out (by kernel_rfl)) (by decide) (fun K hK => ?_)
   refine goes_ Try.func116 (by kernel_rfl) rfl #[.pointer (some ⟨g, 0, none⟩), .int .i64 x360000_1] (by rfl) rfl rfl mA ?_
   with_reducible refine (spec_l1Below.calls g s0_0 t364 t365 x360000_1 t366 t367 t368 w0 _ ?side1 ?side2 A13.out).mono ?_
   (case side1 => repeat (first | (with_reducible first | exact HI0.out | apply IsS88.alloc | apply IsS88.drewN | apply IsS88.drew | apply IsS88.set_1 | apply IsS88.set_2 | refine IsS88.far ?_ NB0_355.out _ | refine IsS88.far ?_ NB0_359.out _) | exact HI0.out))
   (case side2 => repeat (first | (with_reducible first | exact HB.out | apply below_alloc | apply pw_below_drewN | apply below_drew1 | refine below_set ?_ (IsS88.ge HI0.out) | refine below_set ?_ GE355.out | refine below_set ?_ GE359.out) | exact HB.out))
   rintro e w17 ⟨rfl, hi, hb, hk⟩
   refine ⟨_, rfl, ?_⟩
   have n0_ := Aside0.mk (Kd.S_mono (Kd.S_keep (IsS88.apartS (show IsS88 w0 _ g s0_0 t364 t365 from mI) (mS HO_360001.out) (by decide)) hk (fun _ h => h.2)) (fun _ h => h.1))
   have n1_ := Aside0.mk (KeepBut.blk hk (g' := gb355) (o := .cells #[.int .i64 0, .slice none 0 0] 28 (0, 0)) ((mK (BK355.out))) NB355_0.out (by simp))
   have n2_ := Aside0.mk (KeepBut.blk hk (g' := gb359) (o := .cells #[.int .i64 x360000_1, u360001] 28 (0, 0)) ((mK (BK359.out))) NB359_0.out (by simp))
   have n3_ := Aside0.mk (KeepBut.trans (mq HK.out) hk (.inl rfl))
   have n4_ := Aside0.mk (hb)
   have n5_ := Aside0.mk (hi)
   clear HO_360001 BK355 BK359 HK HB HI0; have HO_360001 := n0_; have BK355 := n1_; have BK359 := n2_; have HK := n3_; have HB := n4_; have HI0 := n5_; clear n0_ n1_ n2_ n3_ n4_ n5_; (try clear hb)
   obtain ⟨Ao18, co18, eo18⟩ := Kd.S_slice HO_360001.out
   (first | subst eo18 | (injection eo18 with f1_ f2_ f3_; have f4_ := f1_.symm; have f5_ := f3_.symm; clear f1_ f2_ f3_; subst f4_; subst f5_))
   refine hK.out _ _ ⟨(blk_cell BK359.out 0).trans rfl, (blk_cell BK359.out 1).trans rfl⟩ (fun hHeld => ?_)
   clear hK K
   refine norm_ (a' := ?_) ?_ ?_
   rotate_left
   ·
    show Act.put _ (some 24) _ = _
    simp only [Act.put, List.setIfInBounds_toArray, List.set_cons_zero, List.set_cons_succ, i64_w, i32_w]
    rfl
   refine one_ (i := 9) (N := some 25) (L_ 10 14) rfl rfl (one_of HT_.out (by kernel_rfl)) (by decide) (fun K hK => ?_)
   refine goes_ Try.func143 (by kernel_rfl) rfl #[.agg #[.int .i64 x360000_1, .slice Ao18 x360001_1.length co18], .int .i64 t363, .int .i64 t366] (by rfl) rfl rfl mA ?_
   with_reducible refine (spec_AddAttack.calls k1 x360000_1 _ _ x360001_1 t363 t366 t369 t370 t373 _ ?side1 ?side2 A14.out).mono ?_
   (case side1 => exact mC (Kd.S_reads' HO_360001.out).2.2)
   (case side2 => exact (Kd.S_reads' HO_360001.out).2.1)
   rintro e w19 ⟨v371, rfl, ho0, hb⟩
   refine ⟨_, rfl, ?_⟩
   have n0_ := Aside0.mk (Kd.S_elder' (mS HO_360001.out) (Kd.S_base ho0) hb)
   have n1_ := Aside0.mk (Kd.S_lower (Kd.S_new' ho0 (Kd.S_lt (mS HO_360001.out))) (keep_size (w := w) (g := g) (row := none) (mQ)))
   have n2_ := Aside0.mk (blk_below (g := gb355) (o := .cells #[.int .i64 0, .slice none 0 0] 28 (0, 0)) ((mK (BK355.out))) hb)
   have n3_ := Aside0.mk (blk_below (g := gb359) (o := .cells #[.int .i64 x360000_1, .slice Ao18 x360001_1.length co18] 28 (0, 0)) ((mK (BK359.out))) hb)
   have n4_ := Aside0.mk (IsS88.below (mI) hb)
   have n5_ := Aside0.mk (KeepBut.trans (mq HK.out) (KeepBut.of_below hb g none) (.inl rfl))
   have n6_ := Aside0.mk (below_step (mJ) hb)
   clear HO_360001 BK355 BK359 HI0 HK HB; have HO_360001 := n0_; have HO372 := n1_; have BK355 := n2_; have BK359 := n3_; have HI0 := n4_; have HK := n5_; have HB := n6_; clear n0_ n1_ n2_ n3_ n4_ n5_ n6_; (try clear hb); (try clear ho0)
   obtain ⟨Ao21, co21, eo21⟩ := Kd.S_slice HO372.out
   (first | subst eo21 | (injection eo21 with f1_ f2_ f3_; have f4_ := f1_.symm; have f5_ := f3_.symm; clear f1_ f2_ f3_; subst f4_; subst f5_))
   refine hK.out _ _ ⟨(blk_cell BK359.out 0).trans rfl, (blk_cell BK359.out 1).trans rfl⟩ (fun hHeld => ?_)
   clear hK K
   refine norm_ (a' := ?_) ?_ ?_
   rotate_left
   ·
    show Act.put _ (some 25) _ = _
    simp only [Act.put, List.setIfInBounds_toArray, List.set_cons_zero, List.set_cons_succ, i64_w, i32_w]
    rfl
   refine ps 10 15 (L_ 11 14) HT_.out ?_
   refine ps 11 26 (L_ 12 14) HT_.out ?_
   refine ps 12 27 (L_ 13 14) HT_.out ?_
   refine last_ (i := 13) (N := none) (L_ 14 14) rfl rfl (one_of HT_.out (by kernel_rfl)) (by decide) (fun K hK => ?_)
   have hs20 : w19.cell? ⟨gb359, 0, none⟩ = some (.int .i64 x360000_1) := (blk_cell BK359.out 0).trans rfl
   have hfs20 := blk_frozen BK359.out 0
   have hns20_0 := NB355_359.out
   have hms20_0 := NB359_355.out
   have hs22 : w19.cell? ⟨gb359, 1, none⟩ = some (.slice Ao18 x360001_1.length co18) := (blk_cell BK359.out 1).trans rfl
   have hfs22 := blk_frozen BK359.out 1
   have hns22_0 := NB355_359.out
   have hms22_0 := NB359_355.out
   refine skip_ (w1 := ?_) (by rfl) rfl ?_ ?_
   rotate_left
   ·
    go_simp
    rfl
   refine hK.out _ _ ?_
   clear hK K
   refine done_ (done_of HT_.out (by kernel_rfl)) ?_
   try go_wp2
   go_roundg k1
   case measure => have := HK1.out; omega
   case rel => exact ⟨(wrap64 (x4_1 - 1)), (t367), (t368), (t369), (t370), (.slice Ao21 t370.length co21), mF, H', ⟨by have := HK1.out; omega⟩, ⟨by (with_reducible repeat (first | apply Kd.S_alloc | apply Kd.S_drewN | apply Kd.S_drew)); exact Kd.S_mono (Kd.S_far (p := ⟨gb359, 1, none⟩) (Kd.S_far (p := ⟨gb359, 0, none⟩) (Kd.S_types HO372.out BK359.out (by decide)) (fun _ hk => hk.2) (.int .i64 t369)) (fun _ hk => hk.2) (.slice Ao21 t370.length co21)) (fun _ hk => trivial)⟩, ⟨by refine pK ?_; refine blk_far ?_ NB355_359.out _; refine pK ?_; refine blk_far ?_ NB355_359.out _; refine pK ?_; exact BK355.out⟩, ⟨by refine pK ?_; refine blk_put (cs := #[.int .i64 t369, .slice Ao18 x360001_1.length co18]) ?_ 1 _ rfl; refine pK ?_; refine blk_put (cs := #[.int .i64 x360000_1, .slice Ao18 x360001_1.length co18]) ?_ 0 _ rfl; refine pK ?_; exact BK359.out⟩, ⟨mI⟩, ⟨mQ⟩, ⟨mJ⟩⟩
/-! ### spec_l1Int: function 139 -/
def spec_l1Int.f (s0_0 : List Int) (s0_1 : Int) (s0_2 : Int) (l1 : List Int) : Option (Int × Int × Int) := (spec_l1Below.f s0_0 s0_1 s0_2 (l1.length : Int)).bind fun bt374 => (if 0 ≤ bt374.1 then (if bt374.1 < (l1.length : Int) then (some (rd l1 bt374.1, bt374.2.1, bt374.2.2)) else (none)) else (none))
set_option maxHeartbeats 8000000 in
set_option maxRecDepth 100000 in
theorem spec_l1Int.calls (g : Nat) (s0_0 : List Int) (s0_1 : Int) (s0_2 : Int) (A1 : Option Addr) (c1 : Nat) (l1 : List Int) (r1 : Int) (r2 : Int) (r3 : Int) (w0 w : World) (hI : IsS88 w0 w g s0_0 s0_1 s0_2) (hB : Below w0.heap.size w0 w) (hr1 : Kd.C (Kd.int .i64) w A1 l1.length l1) (hc1 : l1.length ≤ c1) (hf1 : ∀ ad, A1 = some ad → 0 < l1.length → ad.block ≠ g) (h : spec_l1Int.f s0_0 s0_1 s0_2 l1 = some (r1, r2, r3)) :
  Calls Try.prog 139 #[.pointer (some ⟨g, 0, none⟩), .slice A1 l1.length c1] w fun e w' => e = .returned (.int .i64 r1) ∧ IsS88 w0 w' g s0_0 r2 r3 ∧ Below w0.heap.size w0 w' ∧ KeepBut w w' g none := by
 have HR1 := Aside0.mk hr1
 have HC1 := Aside0.mk hc1
 clear hr1 hc1
 have HI0 := Aside0.mk hI
 have HK := Aside0.mk (KeepBut.refl w g none)
 have HL := Aside0.mk hB.size
 clear hI
 have HW0 := Aside0.mk hB.size
 have HB := Aside0.mk hB
 clear hB
 have H : ((spec_l1Below.f s0_0 s0_1 s0_2 (l1.length : Int)).bind fun bt374 => (if 0 ≤ bt374.1 then (if bt374.1 < (l1.length : Int) then (some (rd l1 bt374.1, bt374.2.1, bt374.2.2)) else (none)) else (none))) = some (r1, r2, r3) := h
 clear h
 replace H := Option.bind_eq_some_iff.mp H
 obtain ⟨⟨t374, t375, t376⟩, A30, H⟩ := H
 try dsimp only at H
 have A3 := Aside0.mk A30
 clear A30
 by_cases c4 : 0 ≤ t374
 rotate_left
 ·
  rw [if_neg c4] at H
  exact absurd H (by simp)
 rw [if_pos c4] at H
 have c4b0 : decide (0 ≤ t374) = true := decide_eq_true c4
 clear c4
 by_cases c5 : t374 < (l1.length : Int)
 rotate_left
 ·
  rw [if_neg c5] at H
  exact absurd H (by simp)
 rw [if_pos c5] at H
 have c5b0 : decide (t374 < (l1.length : Int)) = true := decide_eq_true c5
 clear c5
 simp only [Option.some.injEq, Prod.mk.injEq] at H
 obtain ⟨rfl, rfl, rfl⟩ := H
 go_enter Try.func139, Try.ntmps139
 go_wp2_with (first | ((with_reducible refine gate_callee (f := 116) rfl ?_); refine goesL_ (some 9) rfl rfl Try.func116 (by kernel_rfl) rfl #[.pointer (some ⟨g, 0, none⟩), .int .i64 (l1.length : Int)] rfl mA ?_; (with_reducible refine (spec_l1Below.calls g s0_0 s0_1 s0_2 (l1.length : Int) t374 t375 t376 w0 _ ?side1 ?side2 A3.out).mono ?_); (case side1 => repeat (first | (with_reducible first | exact HI0.out | apply IsS88.alloc | apply IsS88.drewN | apply IsS88.drew | apply IsS88.set_1 | apply IsS88.set_2) | exact HI0.out)); (case side2 => repeat (first | (with_reducible first | exact HB.out | apply below_alloc | apply pw_below_drewN | apply below_drew1 | refine below_set ?_ (IsS88.ge HI0.out)) | exact HB.out)); rintro e w6 ⟨rfl, hi, hb, hk⟩; refine ⟨_, rfl, ?_⟩; have n0_ := Aside0.mk (KeepBut.trans (mq HK.out) hk (.inl rfl)); have n1_ := Aside0.mk (hb); have n2_ := Aside0.mk (hi); clear HK HB HI0; have HK := n0_; have HB := n1_; have HI0 := n2_; clear n0_ n1_ n2_; (try clear hb); have p377 : 0 ≤ (t374 : Int) := mD; have q377 : t374 < (l1.length : Int) := mD; obtain ⟨ad377, e377, hx377_0⟩ := Kd.at_int HR1.out t374 p377 q377; cases e377; replace hx377_0 := keep_cell HK.out hx377_0 (by first | (rw [add_block]; exact hf1 _ rfl (by omega)) | exact hf1 _ rfl (by omega) | exact hf1 ad377 rfl (by omega)); replace p377 := eq_true p377; replace q377 := eq_true q377))
 go_ret
 exact ⟨mE, mI, mJ, mQ⟩
/-! ### spec_l4Raw: function 122 -/
def spec_l4Raw.f (s0_0 : List Int) (s0_1 : Int) (s0_2 : Int) : Option (Int × Int × Int) := (spec_l1Int.f s0_0 s0_1 s0_2 (([(-1), 0, 5, 10, 11, 9223372036854775807, (-9223372036854775808)] : List Int))).bind fun bt381 => (some (bt381.1, bt381.2.1, bt381.2.2))
set_option maxHeartbeats 8000000 in
set_option maxRecDepth 100000 in
theorem spec_l4Raw.calls (g : Nat) (s0_0 : List Int) (s0_1 : Int) (s0_2 : Int) (r1 : Int) (r2 : Int) (r3 : Int) (w0 w : World) (hI : IsS88 w0 w g s0_0 s0_1 s0_2) (hB : Below w0.heap.size w0 w) (h : spec_l4Raw.f s0_0 s0_1 s0_2 = some (r1, r2, r3)) :
  Calls Try.prog 122 #[.pointer (some ⟨g, 0, none⟩)] w fun e w' => e = .returned (.int .i64 r1) ∧ IsS88 w0 w' g s0_0 r2 r3 ∧ Below w0.heap.size w0 w' ∧ KeepBut w w' g none := by
 have HI0 := Aside0.mk hI
 have HK := Aside0.mk (KeepBut.refl w g none)
 have HL := Aside0.mk hB.size
 clear hI
 have HW0 := Aside0.mk hB.size
 have HB := Aside0.mk hB
 clear hB
 have H : ((spec_l1Int.f s0_0 s0_1 s0_2 (([(-1), 0, 5, 10, 11, 9223372036854775807, (-9223372036854775808)] : List Int))).bind fun bt381 => (some (bt381.1, bt381.2.1, bt381.2.2))) = some (r1, r2, r3) := h
 clear h
 obtain ⟨y378, hy378⟩ : ∃ y_ : List Int, y_ = (([(-1), 0, 5, 10, 11, 9223372036854775807, (-9223372036854775808)] : List Int)) := ⟨_, rfl⟩
 replace H : ((spec_l1Int.f s0_0 s0_1 s0_2 y378).bind fun bt381 => (some (bt381.1, bt381.2.1, bt381.2.2))) = some (r1, r2, r3) := by first | (rw [hy378]; with_reducible exact H) | (have H2_ := (Option.bind_some _ _).symm.trans H; rw [hy378]; with_reducible exact H2_) | (have H2_ := (Option.bind_some _ _).symm.trans H; with_reducible exact H2_) | with_reducible exact H | (rw [hy378]; exact H) | exact H
 have Ny378 := Aside0.mk hy378
 clear hy378
 replace H := Option.bind_eq_some_iff.mp H
 obtain ⟨⟨t381, t382, t383⟩, A20, H⟩ := H
 try dsimp only at H
 have A2 := Aside0.mk A20
 clear A20
 simp only [Option.some.injEq, Prod.mk.injEq] at H
 obtain ⟨rfl, rfl, rfl⟩ := H
 go_enter Try.func122, Try.ntmps122
 go_wp2_with (first | ((with_reducible refine gate_dst (N := 4) rfl ?_); refine Kd.R_lit (Kd.int .i64) _ 3 ?hg (N := 4) ?hd (xs := ([(-1), 0, 5, 10, 11, 9223372036854775807, (-9223372036854775808)] : List Int)) (inner := [.int .i64 (-1), .int .i64 0, .int .i64 5, .int .i64 10, .int .i64 11, .int .i64 9223372036854775807, .int .i64 (-9223372036854775808)]) (ok := fun _ => True) (okp := fun _ => True) ?hr ?hp (fun _ hk => hk) trivial (Below.refl _ _) (Nat.le_refl _) (by simp) ?_; (case hd => rfl); (case hg => rfl); (case hr => first | (go_simp; done) | (go_simp; rfl)); (case hp => exact (Reps.one (show Kd.M (Kd.int .i64) _ _ _ (-1) [.int .i64 (-1)] from rfl) (Reps.one (show Kd.M (Kd.int .i64) _ _ _ 0 [.int .i64 0] from rfl) (Reps.one (show Kd.M (Kd.int .i64) _ _ _ 5 [.int .i64 5] from rfl) (Reps.one (show Kd.M (Kd.int .i64) _ _ _ 10 [.int .i64 10] from rfl) (Reps.one (show Kd.M (Kd.int .i64) _ _ _ 11 [.int .i64 11] from rfl) (Reps.one (show Kd.M (Kd.int .i64) _ _ _ 9223372036854775807 [.int .i64 9223372036854775807] from rfl) (Reps.one (show Kd.M (Kd.int .i64) _ _ _ (-9223372036854775808) [.int .i64 (-9223372036854775808)] from rfl) (Reps.none _ _))))))))); intro v379 w3 ho4 hb hg_ hnew_; clear hg_ hnew_; (first | rw [← Ny378.out] at ho4 | (simp only [Int.reduceToNat] at ho4; rw [← Ny378.out] at ho4)); have n0_ := Aside0.mk (Kd.R_lower ho4 (keep_size (w := w) (g := g) (row := none) (mQ))); have n1_ := Aside0.mk (IsS88.below (mI) hb); have n2_ := Aside0.mk (KeepBut.trans (mq HK.out) (KeepBut.of_below hb g none) (.inl rfl)); have n3_ := Aside0.mk (below_step (mJ) hb); clear HI0 HK HB; have HO380 := n0_; have HI0 := n1_; have HK := n2_; have HB := n3_; clear n0_ n1_ n2_ n3_; clear hb ho4; obtain ⟨Ao5, co5, eo5⟩ := Kd.R_slice HO380.out; subst eo5) | ((with_reducible refine gate_callee (f := 139) rfl ?_); refine goesL_ (some 5) rfl rfl Try.func139 (by kernel_rfl) rfl #[.pointer (some ⟨g, 0, none⟩), .slice Ao5 y378.length co5] rfl mA ?_; (with_reducible refine (spec_l1Int.calls g s0_0 s0_1 s0_2 _ _ y378 t381 t382 t383 w0 _ ?side1 ?side2 ?side3 ?side4 ?side5 A2.out).mono ?_); (case side1 => repeat (first | (with_reducible first | exact HI0.out | apply IsS88.alloc | apply IsS88.drewN | apply IsS88.drew | apply IsS88.set_1 | apply IsS88.set_2) | exact HI0.out)); (case side2 => repeat (first | (with_reducible first | exact HB.out | apply below_alloc | apply pw_below_drewN | apply below_drew1 | refine below_set ?_ (IsS88.ge HI0.out)) | exact HB.out)); (case side3 => exact mC (Kd.R_reads' HO380.out).2.2); (case side4 => exact (Kd.R_reads' HO380.out).2.1); (case side5 => exact far_slice (IsS88.own_ne HI0.out HO380.out (by decide))); rintro e w6 ⟨rfl, hi, hb, hk⟩; refine ⟨_, rfl, ?_⟩; have n0_ := Aside0.mk (Kd.R_mono (Kd.R_keep (IsS88.apart (show IsS88 w0 _ g s0_0 s0_1 s0_2 from mI) (mR HO380.out) (by decide)) hk (fun _ h => h.2)) (fun _ h => h.1)); have n1_ := Aside0.mk (KeepBut.trans (mq HK.out) hk (.inl rfl)); have n2_ := Aside0.mk (hb); have n3_ := Aside0.mk (hi); clear HO380 HK HB HI0; have HO380 := n0_; have HK := n1_; have HB := n2_; have HI0 := n3_; clear n0_ n1_ n2_ n3_; (try clear hb)))
 go_ret
 exact ⟨mE, mI, mJ, mQ⟩

/-! ### spec_l4Any: function 99 -/
def spec_l4Any.f (k : Nat) (s0_0 : List Int) (s0_1 : Int) (s0_2 : Int) : Option (Int × (List (List Int)) × Int × Int) := (spec_l4Draw.f k s0_0 s0_1 s0_2).bind fun bt385 => ((spec_l1Below.f s0_0 bt385.2.2.1 bt385.2.2.2 14).bind fun bt392 => (if bt392.1 = 0 then ((spec_l4Raw.f s0_0 bt392.2.1 bt392.2.2).bind fun bt395 => (some (bt395.1, bt385.2.1, bt395.2.1, bt395.2.2))) else (if bt392.1 = 1 then (if bt385.2.1.length < 5864062014805 then (some (bt385.1, (bt385.2.1 ++ [(([0] : List Int))]), bt392.2.1, bt392.2.2)) else (none)) else (if bt392.1 = 2 then ((spec_l1Below.f s0_0 bt392.2.1 bt392.2.2 7).bind fun bt404 => ((spec_l1Below.f s0_0 bt404.2.1 bt404.2.2 7).bind fun bt407 => (if bt385.2.1.length < 5864062014805 then (some (bt385.1, (bt385.2.1 ++ [(([bt404.1, bt407.1] : List Int))]), bt407.2.1, bt407.2.2)) else (none)))) else (some (bt385.1, bt385.2.1, bt392.2.1, bt392.2.2))))))
theorem spec_l4Any.mono : ∀ a0 a1 a2 k, LeO (spec_l4Any.f k a0 a1 a2) (spec_l4Any.f (k + 1) a0 a1 a2) := by
 intro a0 a1 a2 k
 unfold spec_l4Any.f
 repeat' with_reducible first | exact spec_l4Draw.mono _ _ _ _ | exact LeO.refl _ | exact LeO.none _ | refine LeO.ite ?_ ?_ | refine LeO.bind ?_ (fun _ => ?_)
def spec_l4Any.T8 : Bool × List (List Nat × List Nat) := (true, [([], []), ([0], [0]), ([], []), ([2], [2]), ([], []), ([4, 3], [4]), ([3, 5], [3, 5]), ([6], [6]), ([1, 7, 5], [1, 7]), ([0, 1, 2, 3, 4, 5, 6, 7, 8], []), ([9, 8, 8, 0, 1, 2, 3, 4, 5, 6, 7, 8], [8, 9])])
def spec_l4Any.B8 : List Nat := [0, 1, 0, 4, 0, 28, 60, 124, 255, 511, 1023]
theorem spec_l4Any.tab8 : rtab .any (opsOf Try.f99 8) = spec_l4Any.T8 := by kernel_rfl
theorem spec_l4Any.bits8 : waitsOk spec_l4Any.T8.2 spec_l4Any.B8 = true := by kernel_rfl
set_option maxHeartbeats 8000000 in
set_option maxRecDepth 100000 in
theorem spec_l4Any.calls (k : Nat) (g : Nat) (s0_0 : List Int) (s0_1 : Int) (s0_2 : Int) (r1 : Int) (r2 : List (List Int)) (r3 : Int) (r4 : Int) (w0 w : World) (hI : IsS88 w0 w g s0_0 s0_1 s0_2) (hB : Below w0.heap.size w0 w) (h : spec_l4Any.f k s0_0 s0_1 s0_2 = some (r1, r2, r3, r4)) :
  Calls Try.prog 99 #[.pointer (some ⟨g, 0, none⟩)] w fun e w' => ∃ v1_ : Value, e = .returned (.agg #[.int .i64 r1, v1_]) ∧ Kd.S (Kd.slice 3 (Kd.int .i64)) 25 w' w.heap.size (fun _ => True) v1_ r2 ∧ IsS88 w0 w' g s0_0 r3 r4 ∧ Below w0.heap.size w0 w' ∧ KeepBut w w' g none := by
 have hu28 := Try.underlying28
 have HI0 := Aside0.mk hI
 have HK := Aside0.mk (KeepBut.refl w g none)
 have HL := Aside0.mk hB.size
 clear hI
 have HW0 := Aside0.mk hB.size
 have HB := Aside0.mk hB
 clear hB
 have H : ((spec_l4Draw.f k s0_0 s0_1 s0_2).bind fun bt385 => ((spec_l1Below.f s0_0 bt385.2.2.1 bt385.2.2.2 14).bind fun bt392 => (if bt392.1 = 0 then ((spec_l4Raw.f s0_0 bt392.2.1 bt392.2.2).bind fun bt395 => (some (bt395.1, bt385.2.1, bt395.2.1, bt395.2.2))) else (if bt392.1 = 1 then (if bt385.2.1.length < 5864062014805 then (some (bt385.1, (bt385.2.1 ++ [(([0] : List Int))]), bt392.2.1, bt392.2.2)) else (none)) else (if bt392.1 = 2 then ((spec_l1Below.f s0_0 bt392.2.1 bt392.2.2 7).bind fun bt404 => ((spec_l1Below.f s0_0 bt404.2.1 bt404.2.2 7).bind fun bt407 => (if bt385.2.1.length < 5864062014805 then (some (bt385.1, (bt385.2.1 ++ [(([bt404.1, bt407.1] : List Int))]), bt407.2.1, bt407.2.2)) else (none)))) else (some (bt385.1, bt385.2.1, bt392.2.1, bt392.2.2))))))) = some (r1, r2, r3, r4) := h
 clear h
 replace H := Option.bind_eq_some_iff.mp H
 obtain ⟨⟨t385, t386, t389, t390⟩, A20, H⟩ := H
 try dsimp only at H
 have A2 := Aside0.mk A20
 clear A20
 replace H := Option.bind_eq_some_iff.mp H
 obtain ⟨⟨t392, t393, t394⟩, A30, H⟩ := H
 try dsimp only at H
 have A3 := Aside0.mk A30
 clear A30
 by_cases c4 : t392 = 0
 ·
  rw [if_pos c4] at H
  have c4b0 : (t392 == 0) = true := beq_iff_eq.mpr c4
  have c4b1 : (t392 != 0) = false := bne_eq_false_iff_eq.mpr c4
  clear c4
  replace H := Option.bind_eq_some_iff.mp H
  obtain ⟨⟨t395, t396, t397⟩, A50, H⟩ := H
  try dsimp only at H
  have A5 := Aside0.mk A50
  clear A50
  simp only [Option.some.injEq, Prod.mk.injEq] at H
  obtain ⟨rfl, rfl, rfl, rfl⟩ := H
  go_enter Try.func99, Try.ntmps99
  go_wp2_with (first | ((with_reducible refine gate_dst (N := 2) rfl ?_); refine box_event ?hg (N := 2) ?hd (cs := #[.int .i64 0, .slice none 0 0]) (t := 28) ?hr ?_; (case hd => rfl); (case hg => rfl); (case hr => first | (go_simp; done) | (go_simp; rfl)); intro gb384 hg w6 hbox hb; have n0_ := Aside0.mk (IsS88.below (mI) hb); have n1_ := Aside0.mk (KeepBut.trans (mq HK.out) (KeepBut.of_below hb g none) (.inl rfl)); have n2_ := Aside0.mk (below_step (mJ) hb); have n3_ := Aside0.mk (hbox); have n4_ := Aside0.mk ((by rw [hg]; exact (keep_size (w := w) (g := g) (row := none) (mQ)) : w.heap.size ≤ gb384)); have n5_ := Aside0.mk ((Nat.le_trans HW0.out (by rw [hg]; exact (keep_size (w := w) (g := g) (row := none) (mQ)) : w.heap.size ≤ gb384) : w0.heap.size ≤ gb384)); have n6_ := Aside0.mk ((by rw [hg]; exact Nat.ne_of_lt (IsS88.lt (show IsS88 w0 _ g s0_0 s0_1 s0_2 from mI)) : g ≠ gb384)); have n7_ := Aside0.mk ((by rw [hg]; exact Nat.ne_of_gt (IsS88.lt (show IsS88 w0 _ g s0_0 s0_1 s0_2 from mI)) : gb384 ≠ g)); clear HI0 HK HB; have HI0 := n0_; have HK := n1_; have HB := n2_; have BK384 := n3_; have GW384 := n4_; have GE384 := n5_; have NB0_384 := n6_; have NB384_0 := n7_; clear n0_ n1_ n2_ n3_ n4_ n5_ n6_ n7_; clear hb hbox hg) | ((with_reducible refine gate_callee (f := 121) rfl ?_); refine goesL_ (some 5) rfl rfl Try.func121 (by kernel_rfl) rfl #[.pointer (some ⟨g, 0, none⟩)] rfl mA ?_; (with_reducible refine (spec_l4Draw.calls k g s0_0 s0_1 s0_2 t385 t386 t389 t390 w0 _ ?side1 ?side2 A2.out).mono ?_); (case side1 => repeat (first | (with_reducible first | exact HI0.out | apply IsS88.alloc | apply IsS88.drewN | apply IsS88.drew | apply IsS88.set_1 | apply IsS88.set_2 | refine IsS88.far ?_ NB0_384.out _) | exact HI0.out)); (case side2 => repeat (first | (with_reducible first | exact HB.out | apply below_alloc | apply pw_below_drewN | apply below_drew1 | refine below_set ?_ (IsS88.ge HI0.out) | refine below_set ?_ GE384.out) | exact HB.out)); rintro e w7 ⟨v387, rfl, ho0, hi, hb, hk⟩; refine ⟨_, rfl, ?_⟩; have n0_ := Aside0.mk (KeepBut.blk hk (g' := gb384) (o := .cells #[.int .i64 0, .slice none 0 0] 28 (0, 0)) ((mK (BK384.out))) NB384_0.out (by simp)); have n1_ := Aside0.mk (Kd.S_lower ho0 (keep_size (w := w) (g := g) (row := none) (mQ))); have n2_ := Aside0.mk (KeepBut.trans (mq HK.out) hk (.inl rfl)); have n3_ := Aside0.mk (hb); have n4_ := Aside0.mk (hi); clear BK384 HK HB HI0; have BK384 := n0_; have HO388 := n1_; have HK := n2_; have HB := n3_; have HI0 := n4_; clear n0_ n1_ n2_ n3_ n4_; (try clear hb); (try clear ho0)) | ((with_reducible refine gate_dst (N := 3) rfl ?_); refine box_event ?hg (N := 3) ?hd (cs := #[.int .i64 0, .slice none 0 0]) (t := 28) ?hr ?_; (case hd => rfl); (case hg => rfl); (case hr => first | (go_simp; done) | (go_simp; rfl)); intro gb391 hg w8 hbox hb; have n0_ := Aside0.mk (Kd.S_below (mS HO388.out) hb); have n1_ := Aside0.mk (IsS88.below (mI) hb); have n2_ := Aside0.mk (blk_below (g := gb384) (o := .cells #[.int .i64 0, .slice none 0 0] 28 (0, 0)) ((mK (BK384.out))) hb); have n3_ := Aside0.mk (KeepBut.trans (mq HK.out) (KeepBut.of_below hb g none) (.inl rfl)); have n4_ := Aside0.mk (below_step (mJ) hb); have n5_ := Aside0.mk (hbox); have n6_ := Aside0.mk ((by rw [hg]; exact (keep_size (w := w) (g := g) (row := none) (mQ)) : w.heap.size ≤ gb391)); have n7_ := Aside0.mk ((Nat.le_trans HW0.out (by rw [hg]; exact (keep_size (w := w) (g := g) (row := none) (mQ)) : w.heap.size ≤ gb391) : w0.heap.size ≤ gb391)); have n8_ := Aside0.mk ((by rw [hg]; exact Nat.ne_of_lt (blk_lt (g := gb384) (o := .cells #[.int .i64 0, .slice none 0 0] 28 (0, 0)) ((mK (BK384.out)))) : gb384 ≠ gb391)); have n9_ := Aside0.mk ((by rw [hg]; exact Nat.ne_of_gt (blk_lt (g := gb384) (o := .cells #[.int .i64 0, .slice none 0 0] 28 (0, 0)) ((mK (BK384.out)))) : gb391 ≠ gb384)); have n10_ := Aside0.mk ((by rw [hg]; exact Nat.ne_of_lt (IsS88.lt (show IsS88 w0 _ g s0_0 t389 t390 from mI)) : g ≠ gb391)); have n11_ := Aside0.mk ((by rw [hg]; exact Nat.ne_of_gt (IsS88.lt (show IsS88 w0 _ g s0_0 t389 t390 from mI)) : gb391 ≠ g)); clear HO388 HI0 BK384 HK HB; have HO388 := n0_; have HI0 := n1_; have BK384 := n2_; have HK := n3_; have HB := n4_; have BK391 := n5_; have GW391 := n6_; have GE391 := n7_; have NB384_391 := n8_; have NB391_384 := n9_; have NB0_391 := n10_; have NB391_0 := n11_; clear n0_ n1_ n2_ n3_ n4_ n5_ n6_ n7_ n8_ n9_ n10_ n11_; clear hb hbox hg; have hnb9 := NB391_384.out; have hnc9 := NB384_391.out; have hnb10 := NB391_0.out; have hnc10 := NB0_391.out; have hcz11_0 : w8.cell? ⟨gb391, 0, none⟩ = some (.int .i64 0) := (blk_cell BK391.out 0).trans rfl; have hcz11_1 : w8.cell? ⟨gb391, 1, none⟩ = some (.slice none 0 0) := (blk_cell BK391.out 1).trans rfl; have hfz11_0 := blk_frozen BK391.out 0; have hfz11_1 := blk_frozen BK391.out 1; obtain ⟨Ao12, co12, eo12⟩ := Kd.S_slice HO388.out; subst eo12) | ((with_reducible refine gate_callee (f := 116) rfl ?_); refine goesL_ (some 7) rfl rfl Try.func116 (by kernel_rfl) rfl #[.pointer (some ⟨g, 0, none⟩), .int .i64 14] rfl mA ?_; (with_reducible refine (spec_l1Below.calls g s0_0 t389 t390 14 t392 t393 t394 w0 _ ?side1 ?side2 A3.out).mono ?_); (case side1 => repeat (first | (with_reducible first | exact HI0.out | apply IsS88.alloc | apply IsS88.drewN | apply IsS88.drew | apply IsS88.set_1 | apply IsS88.set_2 | refine IsS88.far ?_ NB0_384.out _ | refine IsS88.far ?_ NB0_391.out _) | exact HI0.out)); (case side2 => repeat (first | (with_reducible first | exact HB.out | apply below_alloc | apply pw_below_drewN | apply below_drew1 | refine below_set ?_ (IsS88.ge HI0.out) | refine below_set ?_ GE384.out | refine below_set ?_ GE391.out) | exact HB.out)); rintro e w13 ⟨rfl, hi, hb, hk⟩; refine ⟨_, rfl, ?_⟩; have n0_ := Aside0.mk (KeepBut.blk hk (g' := gb384) (o := .cells #[.int .i64 0, .slice none 0 0] 28 (0, 0)) (by refine pK ?_; refine blk_far ?_ NB384_391.out _; refine pK ?_; refine blk_far ?_ NB384_391.out _; refine pK ?_; exact BK384.out) NB384_0.out (by simp)); have n1_ := Aside0.mk (Kd.S_mono (Kd.S_keep (IsS88.apartS (show IsS88 w0 _ g s0_0 t389 t390 from mI) (mS ((Kd.S_mono (Kd.S_far (p := ⟨gb391, 1, none⟩) (Kd.S_far (p := ⟨gb391, 0, none⟩) (Kd.S_types HO388.out BK391.out (by decide)) (fun _ hk => hk.2) (.int .i64 t385)) (fun _ hk => hk.2) (.slice Ao12 t386.length co12)) (fun _ h_ => h_.1)))) (by decide)) hk (fun _ h => h.2)) (fun _ h => h.1)); have n2_ := Aside0.mk (KeepBut.blk hk (g' := gb391) (o := .cells #[.int .i64 t385, .slice Ao12 t386.length co12] 28 (0, 0)) (by refine pK ?_; refine blk_put (cs := #[.int .i64 t385, .slice none 0 0]) ?_ 1 _ rfl; refine pK ?_; refine blk_put (cs := #[.int .i64 0, .slice none 0 0]) ?_ 0 _ rfl; refine pK ?_; exact BK391.out) NB391_0.out (by simp)); have n3_ := Aside0.mk (KeepBut.trans (mq HK.out) hk (.inl rfl)); have n4_ := Aside0.mk (hb); have n5_ := Aside0.mk (hi); clear BK384 HO388 BK391 HK HB HI0; have BK384 := n0_; have HO388 := n1_; have BK391 := n2_; have HK := n3_; have HB := n4_; have HI0 := n5_; clear n0_ n1_ n2_ n3_ n4_ n5_; (try clear hb)) | ((with_reducible refine gate_callee (f := 122) rfl ?_); refine goesL_ (some 11) rfl rfl Try.func122 (by kernel_rfl) rfl #[.pointer (some ⟨g, 0, none⟩)] rfl mA ?_; (with_reducible refine (spec_l4Raw.calls g s0_0 t393 t394 t395 t396 t397 w0 _ ?side1 ?side2 A5.out).mono ?_); (case side1 => repeat (first | (with_reducible first | exact HI0.out | apply IsS88.alloc | apply IsS88.drewN | apply IsS88.drew | apply IsS88.set_1 | apply IsS88.set_2 | refine IsS88.far ?_ NB0_384.out _ | refine IsS88.far ?_ NB0_391.out _) | exact HI0.out)); (case side2 => repeat (first | (with_reducible first | exact HB.out | apply below_alloc | apply pw_below_drewN | apply below_drew1 | refine below_set ?_ (IsS88.ge HI0.out) | refine below_set ?_ GE384.out | refine below_set ?_ GE391.out) | exact HB.out)); rintro e w14 ⟨rfl, hi, hb, hk⟩; refine ⟨_, rfl, ?_⟩; have n0_ := Aside0.mk (KeepBut.blk hk (g' := gb384) (o := .cells #[.int .i64 0, .slice none 0 0] 28 (0, 0)) ((mK (BK384.out))) NB384_0.out (by simp)); have n1_ := Aside0.mk (Kd.S_mono (Kd.S_keep (IsS88.apartS (show IsS88 w0 _ g s0_0 t393 t394 from mI) (mS HO388.out) (by decide)) hk (fun _ h => h.2)) (fun _ h => h.1)); have n2_ := Aside0.mk (KeepBut.blk hk (g' := gb391) (o := .cells #[.int .i64 t385, .slice Ao12 t386.length co12] 28 (0, 0)) ((mK (BK391.out))) NB391_0.out (by simp)); have n3_ := Aside0.mk (KeepBut.trans (mq HK.out) hk (.inl rfl)); have n4_ := Aside0.mk (hb); have n5_ := Aside0.mk (hi); clear BK384 HO388 BK391 HK HB HI0; have BK384 := n0_; have HO388 := n1_; have BK391 := n2_; have HK := n3_; have HB := n4_; have HI0 := n5_; clear n0_ n1_ n2_ n3_ n4_ n5_; (try clear hb); have hcz15_0 : w14.cell? ⟨gb391, 0, none⟩ = some (.int .i64 t385) := (blk_cell BK391.out 0).trans rfl; have hcz15_1 : w14.cell? ⟨gb391, 1, none⟩ = some (.slice Ao12 t386.length co12) := (blk_cell BK391.out 1).trans rfl; have hfz15_0 := blk_frozen BK391.out 0; have hfz15_1 := blk_frozen BK391.out 1; have hnb16 := NB384_0.out; have hnc16 := NB0_384.out; have hcz17_0 : w14.cell? ⟨gb384, 0, none⟩ = some (.int .i64 0) := (blk_cell BK384.out 0).trans rfl; have hcz17_1 : w14.cell? ⟨gb384, 1, none⟩ = some (.slice none 0 0) := (blk_cell BK384.out 1).trans rfl; have hfz17_0 := blk_frozen BK384.out 0; have hfz17_1 := blk_frozen BK384.out 1))
  refine bodyPost_ret (results_cell_row rfl _ _ gb384 28 #[.int .i64 t395, .slice Ao12 t386.length co12] (0, 0) _ rfl (by refine pK ?_; refine blk_put (cs := #[.int .i64 t395, .slice none 0 0]) ?_ 1 _ rfl; refine pK ?_; refine blk_put (cs := #[.int .i64 0, .slice none 0 0]) ?_ 0 _ rfl; refine pK ?_; refine blk_far ?_ NB384_391.out _; refine pK ?_; exact BK384.out) Try.underlying28 rfl (by kernel_rfl)) rfl ?_
  exact ⟨_, mE, by (with_reducible repeat (first | apply Kd.S_alloc | apply Kd.S_drewN | apply Kd.S_drew)); exact Kd.S_mono (Kd.S_far (p := ⟨gb384, 1, none⟩) (Kd.S_far (p := ⟨gb384, 0, none⟩) (Kd.S_far (p := ⟨gb391, 0, none⟩) (Kd.S_types (Kd.S_types HO388.out BK391.out (by decide)) BK384.out (by decide)) (fun _ hk => hk.1.2) (.int .i64 t395)) (fun _ hk => hk.2) (.int .i64 t395)) (fun _ hk => hk.2) (.slice Ao12 t386.length co12)) (fun _ hk => trivial), mI, mJ, mQ⟩
 rw [if_neg c4] at H
 have c4b0 : (t392 == 0) = false := beq_eq_false_iff_ne.mpr c4
 have c4b1 : (t392 != 0) = true := bne_iff_ne.mpr c4
 by_cases c18 : t392 = 1
 ·
  rw [if_pos c18] at H
  have c18b0 : (t392 == 1) = true := beq_iff_eq.mpr c18
  have c18b1 : (t392 != 1) = false := bne_eq_false_iff_eq.mpr c18
  clear c18
  obtain ⟨y398, hy398⟩ : ∃ y_ : List Int, y_ = (([0] : List Int)) := ⟨_, rfl⟩
  replace H : (if t386.length < 5864062014805 then (some (t385, (t386 ++ [y398]), t393, t394)) else (none)) = some (r1, r2, r3, r4) := by first | (rw [hy398]; with_reducible exact H) | (have H2_ := (Option.bind_some _ _).symm.trans H; rw [hy398]; with_reducible exact H2_) | (have H2_ := (Option.bind_some _ _).symm.trans H; with_reducible exact H2_) | with_reducible exact H | (rw [hy398]; exact H) | exact H
  have Ny398 := Aside0.mk hy398
  clear hy398
  by_cases c19 : t386.length < 5864062014805
  rotate_left
  ·
   rw [if_neg c19] at H
   exact absurd H (by simp)
  rw [if_pos c19] at H
  have LMc19 := Aside0.mk c19
  clear c19
  obtain ⟨y401, hy401⟩ : ∃ y_ : List (List Int), y_ = (t386 ++ [y398]) := ⟨_, rfl⟩
  replace H : (some (t385, y401, t393, t394)) = some (r1, r2, r3, r4) := by first | (rw [hy401]; with_reducible exact H) | (have H2_ := (Option.bind_some _ _).symm.trans H; rw [hy401]; with_reducible exact H2_) | (have H2_ := (Option.bind_some _ _).symm.trans H; with_reducible exact H2_) | with_reducible exact H | (rw [hy401]; exact H) | exact H
  have Ny401 := Aside0.mk hy401
  clear hy401
  simp only [Option.some.injEq, Prod.mk.injEq] at H
  obtain ⟨rfl, rfl, rfl, rfl⟩ := H
  go_enter Try.func99, Try.ntmps99
  go_wp2_with (first | ((with_reducible refine gate_dst (N := 2) rfl ?_); refine box_event ?hg (N := 2) ?hd (cs := #[.int .i64 0, .slice none 0 0]) (t := 28) ?hr ?_; (case hd => rfl); (case hg => rfl); (case hr => first | (go_simp; done) | (go_simp; rfl)); intro gb384 hg w20 hbox hb; have n0_ := Aside0.mk (IsS88.below (mI) hb); have n1_ := Aside0.mk (KeepBut.trans (mq HK.out) (KeepBut.of_below hb g none) (.inl rfl)); have n2_ := Aside0.mk (below_step (mJ) hb); have n3_ := Aside0.mk (hbox); have n4_ := Aside0.mk ((by rw [hg]; exact (keep_size (w := w) (g := g) (row := none) (mQ)) : w.heap.size ≤ gb384)); have n5_ := Aside0.mk ((Nat.le_trans HW0.out (by rw [hg]; exact (keep_size (w := w) (g := g) (row := none) (mQ)) : w.heap.size ≤ gb384) : w0.heap.size ≤ gb384)); have n6_ := Aside0.mk ((by rw [hg]; exact Nat.ne_of_lt (IsS88.lt (show IsS88 w0 _ g s0_0 s0_1 s0_2 from mI)) : g ≠ gb384)); have n7_ := Aside0.mk ((by rw [hg]; exact Nat.ne_of_gt (IsS88.lt (show IsS88 w0 _ g s0_0 s0_1 s0_2 from mI)) : gb384 ≠ g)); clear HI0 HK HB; have HI0 := n0_; have HK := n1_; have HB := n2_; have BK384 := n3_; have GW384 := n4_; have GE384 := n5_; have NB0_384 := n6_; have NB384_0 := n7_; clear n0_ n1_ n2_ n3_ n4_ n5_ n6_ n7_; clear hb hbox hg) | ((with_reducible refine gate_callee (f := 121) rfl ?_); refine goesL_ (some 5) rfl rfl Try.func121 (by kernel_rfl) rfl #[.pointer (some ⟨g, 0, none⟩)] rfl mA ?_; (with_reducible refine (spec_l4Draw.calls k g s0_0 s0_1 s0_2 t385 t386 t389 t390 w0 _ ?side1 ?side2 A2.out).mono ?_); (case side1 => repeat (first | (with_reducible first | exact HI0.out | apply IsS88.alloc | apply IsS88.drewN | apply IsS88.drew | apply IsS88.set_1 | apply IsS88.set_2 | refine IsS88.far ?_ NB0_384.out _) | exact HI0.out)); (case side2 => repeat (first | (with_reducible first | exact HB.out | apply below_alloc | apply pw_below_drewN | apply below_drew1 | refine below_set ?_ (IsS88.ge HI0.out) | refine below_set ?_ GE384.out) | exact HB.out)); rintro e w21 ⟨v387, rfl, ho0, hi, hb, hk⟩; refine ⟨_, rfl, ?_⟩; have n0_ := Aside0.mk (KeepBut.blk hk (g' := gb384) (o := .cells #[.int .i64 0, .slice none 0 0] 28 (0, 0)) ((mK (BK384.out))) NB384_0.out (by simp)); have n1_ := Aside0.mk (Kd.S_lower ho0 (keep_size (w := w) (g := g) (row := none) (mQ))); have n2_ := Aside0.mk (KeepBut.trans (mq HK.out) hk (.inl rfl)); have n3_ := Aside0.mk (hb); have n4_ := Aside0.mk (hi); clear BK384 HK HB HI0; have BK384 := n0_; have HO388 := n1_; have HK := n2_; have HB := n3_; have HI0 := n4_; clear n0_ n1_ n2_ n3_ n4_; (try clear hb); (try clear ho0)) | ((with_reducible refine gate_dst (N := 3) rfl ?_); refine box_event ?hg (N := 3) ?hd (cs := #[.int .i64 0, .slice none 0 0]) (t := 28) ?hr ?_; (case hd => rfl); (case hg => rfl); (case hr => first | (go_simp; done) | (go_simp; rfl)); intro gb391 hg w22 hbox hb; have n0_ := Aside0.mk (Kd.S_below (mS HO388.out) hb); have n1_ := Aside0.mk (IsS88.below (mI) hb); have n2_ := Aside0.mk (blk_below (g := gb384) (o := .cells #[.int .i64 0, .slice none 0 0] 28 (0, 0)) ((mK (BK384.out))) hb); have n3_ := Aside0.mk (KeepBut.trans (mq HK.out) (KeepBut.of_below hb g none) (.inl rfl)); have n4_ := Aside0.mk (below_step (mJ) hb); have n5_ := Aside0.mk (hbox); have n6_ := Aside0.mk ((by rw [hg]; exact (keep_size (w := w) (g := g) (row := none) (mQ)) : w.heap.size ≤ gb391)); have n7_ := Aside0.mk ((Nat.le_trans HW0.out (by rw [hg]; exact (keep_size (w := w) (g := g) (row := none) (mQ)) : w.heap.size ≤ gb391) : w0.heap.size ≤ gb391)); have n8_ := Aside0.mk ((by rw [hg]; exact Nat.ne_of_lt (blk_lt (g := gb384) (o := .cells #[.int .i64 0, .slice none 0 0] 28 (0, 0)) ((mK (BK384.out)))) : gb384 ≠ gb391)); have n9_ := Aside0.mk ((by rw [hg]; exact Nat.ne_of_gt (blk_lt (g := gb384) (o := .cells #[.int .i64 0, .slice none 0 0] 28 (0, 0)) ((mK (BK384.out)))) : gb391 ≠ gb384)); have n10_ := Aside0.mk ((by rw [hg]; exact Nat.ne_of_lt (IsS88.lt (show IsS88 w0 _ g s0_0 t389 t390 from mI)) : g ≠ gb391)); have n11_ := Aside0.mk ((by rw [hg]; exact Nat.ne_of_gt (IsS88.lt (show IsS88 w0 _ g s0_0 t389 t390 from mI)) : gb391 ≠ g)); clear HO388 HI0 BK384 HK HB; have HO388 := n0_; have HI0 := n1_; have BK384 := n2_; have HK := n3_; have HB := n4_; have BK391 := n5_; have GW391 := n6_; have GE391 := n7_; have NB384_391 := n8_; have NB391_384 := n9_; have NB0_391 := n10_; have NB391_0 := n11_; clear n0_ n1_ n2_ n3_ n4_ n5_ n6_ n7_ n8_ n9_ n10_ n11_; clear hb hbox hg; have hnb23 := NB391_384.out; have hnc23 := NB384_391.out; have hnb24 := NB391_0.out; have hnc24 := NB0_391.out; have hcz25_0 : w22.cell? ⟨gb391, 0, none⟩ = some (.int .i64 0) := (blk_cell BK391.out 0).trans rfl; have hcz25_1 : w22.cell? ⟨gb391, 1, none⟩ = some (.slice none 0 0) := (blk_cell BK391.out 1).trans rfl; have hfz25_0 := blk_frozen BK391.out 0; have hfz25_1 := blk_frozen BK391.out 1; obtain ⟨Ao26, co26, eo26⟩ := Kd.S_slice HO388.out; subst eo26) | ((with_reducible refine gate_callee (f := 116) rfl ?_); refine goesL_ (some 7) rfl rfl Try.func116 (by kernel_rfl) rfl #[.pointer (some ⟨g, 0, none⟩), .int .i64 14] rfl mA ?_; (with_reducible refine (spec_l1Below.calls g s0_0 t389 t390 14 t392 t393 t394 w0 _ ?side1 ?side2 A3.out).mono ?_); (case side1 => repeat (first | (with_reducible first | exact HI0.out | apply IsS88.alloc | apply IsS88.drewN | apply IsS88.drew | apply IsS88.set_1 | apply IsS88.set_2 | refine IsS88.far ?_ NB0_384.out _ | refine IsS88.far ?_ NB0_391.out _) | exact HI0.out)); (case side2 => repeat (first | (with_reducible first | exact HB.out | apply below_alloc | apply pw_below_drewN | apply below_drew1 | refine below_set ?_ (IsS88.ge HI0.out) | refine below_set ?_ GE384.out | refine below_set ?_ GE391.out) | exact HB.out)); rintro e w27 ⟨rfl, hi, hb, hk⟩; refine ⟨_, rfl, ?_⟩; have n0_ := Aside0.mk (KeepBut.blk hk (g' := gb384) (o := .cells #[.int .i64 0, .slice none 0 0] 28 (0, 0)) (by refine pK ?_; refine blk_far ?_ NB384_391.out _; refine pK ?_; refine blk_far ?_ NB384_391.out _; refine pK ?_; exact BK384.out) NB384_0.out (by simp)); have n1_ := Aside0.mk (Kd.S_mono (Kd.S_keep (IsS88.apartS (show IsS88 w0 _ g s0_0 t389 t390 from mI) (mS ((Kd.S_mono (Kd.S_far (p := ⟨gb391, 1, none⟩) (Kd.S_far (p := ⟨gb391, 0, none⟩) (Kd.S_types HO388.out BK391.out (by decide)) (fun _ hk => hk.2) (.int .i64 t385)) (fun _ hk => hk.2) (.slice Ao26 t386.length co26)) (fun _ h_ => h_.1)))) (by decide)) hk (fun _ h => h.2)) (fun _ h => h.1)); have n2_ := Aside0.mk (KeepBut.blk hk (g' := gb391) (o := .cells #[.int .i64 t385, .slice Ao26 t386.length co26] 28 (0, 0)) (by refine pK ?_; refine blk_put (cs := #[.int .i64 t385, .slice none 0 0]) ?_ 1 _ rfl; refine pK ?_; refine blk_put (cs := #[.int .i64 0, .slice none 0 0]) ?_ 0 _ rfl; refine pK ?_; exact BK391.out) NB391_0.out (by simp)); have n3_ := Aside0.mk (KeepBut.trans (mq HK.out) hk (.inl rfl)); have n4_ := Aside0.mk (hb); have n5_ := Aside0.mk (hi); clear BK384 HO388 BK391 HK HB HI0; have BK384 := n0_; have HO388 := n1_; have BK391 := n2_; have HK := n3_; have HB := n4_; have HI0 := n5_; clear n0_ n1_ n2_ n3_ n4_ n5_; (try clear hb); have hcz28_0 : w27.cell? ⟨gb391, 0, none⟩ = some (.int .i64 t385) := (blk_cell BK391.out 0).trans rfl; have hcz28_1 : w27.cell? ⟨gb391, 1, none⟩ = some (.slice Ao26 t386.length co26) := (blk_cell BK391.out 1).trans rfl; have hfz28_0 := blk_frozen BK391.out 0; have hfz28_1 := blk_frozen BK391.out 1) | ((with_reducible refine gate_dst (N := 17) rfl ?_); refine Kd.R_lit (Kd.int .i64) _ 3 ?hg (N := 17) ?hd (xs := ([0] : List Int)) (inner := [.int .i64 0]) (ok := fun _ => True) (okp := fun _ => True) ?hr ?hp (fun _ hk => hk) trivial (Below.refl _ _) (Nat.le_refl _) (by simp) ?_; (case hd => rfl); (case hg => rfl); (case hr => first | (go_simp; done) | (go_simp; rfl)); (case hp => exact (Reps.one (show Kd.M (Kd.int .i64) _ _ _ 0 [.int .i64 0] from rfl) (Reps.none _ _))); intro v399 w29 ho30 hb hg_ hnew_; clear hg_ hnew_; (first | rw [← Ny398.out] at ho30 | (simp only [Int.reduceToNat] at ho30; rw [← Ny398.out] at ho30)); have n0_ := Aside0.mk (Kd.S_elder' (mS HO388.out) (Kd.R_base ho30) hb); have n1_ := Aside0.mk (Kd.R_lower ho30 (keep_size (w := w) (g := g) (row := none) (mQ))); have n2_ := Aside0.mk (IsS88.below (mI) hb); have n3_ := Aside0.mk (blk_below (g := gb384) (o := .cells #[.int .i64 0, .slice none 0 0] 28 (0, 0)) ((mK (BK384.out))) hb); have n4_ := Aside0.mk (blk_below (g := gb391) (o := .cells #[.int .i64 t385, .slice Ao26 t386.length co26] 28 (0, 0)) ((mK (BK391.out))) hb); have n5_ := Aside0.mk (KeepBut.trans (mq HK.out) (KeepBut.of_below hb g none) (.inl rfl)); have n6_ := Aside0.mk (below_step (mJ) hb); clear HO388 HI0 BK384 BK391 HK HB; have HO388 := n0_; have HO400 := n1_; have HI0 := n2_; have BK384 := n3_; have BK391 := n4_; have HK := n5_; have HB := n6_; clear n0_ n1_ n2_ n3_ n4_ n5_ n6_; clear hb ho30; obtain ⟨Ao32, co32, eo32⟩ := Kd.R_slice HO400.out; subst eo32) | ((with_reducible refine gate_builtin (b := .append) (xs := #[.tmp 16, .tmp 18]) rfl ?_); at_builtin; refine Kd.S_append (Kd.slice 3 (Kd.int .i64)) w.heap.size rfl (.tmp 16) (.tmp 18) 22 25 (.slice none 0 0) 24 rfl Try.underlying22 info25 rfl (by decide) (by omega) (.slice Ao26 t386.length co26) t386 y398 [.slice Ao32 y398.length co32] (fun _ => True) (fun k_ => some k_ = (.slice Ao32 y398.length co32 : Value).ownBlock) rfl rfl ?aP (fun k_ hk_ => ((Kd.R_mono (ok' := fun k_ => ((fun _ => True)) k_ ∧ some k_ ≠ (.slice Ao26 t386.length co26 : Value).ownBlock) (Kd.R_apart' (HO400.out) (Kd.S_typed HO388.out) (by decide)) (fun k_ hk => ⟨trivial, hk.2⟩))).1 k_ hk_.symm) ?aF ?aO (Below.refl _ _) ?aS ?aL ?_; (case aP => exact Kd.M_row (Kd.R_mono (Kd.R_tight rfl (Kd.R_mono (ok' := fun k_ => ((fun _ => True)) k_ ∧ some k_ ≠ (.slice Ao26 t386.length co26 : Value).ownBlock) (Kd.R_apart' (HO400.out) (Kd.S_typed HO388.out) (by decide)) (fun k_ hk => ⟨trivial, hk.2⟩))) (fun _ h_ => h_))); (case aF => exact (fun _ _ => trivial)); (case aO => exact (mS (Kd.S_mono HO388.out (fun k_ hk => ⟨trivial, fun e_ => hk.2 e_⟩)))); (case aS => exact (keep_size (w := w) (g := g) (row := none) (mQ))); (case aL => have := LMc19.out; omega); intro v402 w31 ho hb hg hat; rw [← Ny401.out] at ho; have n0_ := Aside0.mk (IsS88.grown (mI) hg (IsS88.own_neS HI0.out HO388.out (by decide))); have n1_ := Aside0.mk (blk_grown (g := gb384) (o := .cells #[.int .i64 0, .slice none 0 0] 28 (0, 0)) ((mK (BK384.out))) hg (Kd.S_ne HO388.out BK384.out (by decide))); have n2_ := Aside0.mk (blk_grown (g := gb391) (o := .cells #[.int .i64 t385, .slice Ao26 t386.length co26] 28 (0, 0)) ((mK (BK391.out))) hg (Kd.S_ne HO388.out BK391.out (by decide))); have n3_ := Aside0.mk (below_weaken (mJ) HL.out hb); have n4_ := Aside0.mk (KeepBut.trans (mq HK.out) (KeepBut.of_grown hg g) (Kd.S_base2 HO388.out)); have n5_ := Aside0.mk (ho); clear HI0 BK384 BK391 HB HK HO388 HO400; have HI0 := n0_; have BK384 := n1_; have BK391 := n2_; have HB := n3_; have HK := n4_; have HO403 := n5_; clear n0_ n1_ n2_ n3_ n4_ n5_; clear ho hb hg hat; obtain ⟨Ao33, co33, eo33⟩ := Kd.S_slice HO403.out; subst eo33; have hcz34_0 : w31.cell? ⟨gb391, 0, none⟩ = some (.int .i64 t385) := (blk_cell BK391.out 0).trans rfl; have hcz34_1 : w31.cell? ⟨gb391, 1, none⟩ = some (.slice Ao26 t386.length co26) := (blk_cell BK391.out 1).trans rfl; have hfz34_0 := blk_frozen BK391.out 0; have hfz34_1 := blk_frozen BK391.out 1; have hnb35 := NB384_0.out; have hnc35 := NB0_384.out; have hcz36_0 : w31.cell? ⟨gb384, 0, none⟩ = some (.int .i64 0) := (blk_cell BK384.out 0).trans rfl; have hcz36_1 : w31.cell? ⟨gb384, 1, none⟩ = some (.slice none 0 0) := (blk_cell BK384.out 1).trans rfl; have hfz36_0 := blk_frozen BK384.out 0; have hfz36_1 := blk_frozen BK384.out 1))
  refine bodyPost_ret (results_cell_row rfl _ _ gb384 28 #[.int .i64 t385, .slice Ao33 y401.length co33] (0, 0) _ rfl (by refine pK ?_; refine blk_put (cs := #[.int .i64 t385, .slice none 0 0]) ?_ 1 _ rfl; refine pK ?_; refine blk_put (cs := #[.int .i64 0, .slice none 0 0]) ?_ 0 _ rfl; refine pK ?_; refine blk_far ?_ NB384_391.out _; refine pK ?_; exact BK384.out) Try.underlying28 rfl (by kernel_rfl)) rfl ?_
  exact ⟨_, mE, by (with_reducible repeat (first | apply Kd.S_alloc | apply Kd.S_drewN | apply Kd.S_drew)); exact Kd.S_mono (Kd.S_far (p := ⟨gb384, 1, none⟩) (Kd.S_far (p := ⟨gb384, 0, none⟩) (Kd.S_far (p := ⟨gb391, 1, none⟩) (Kd.S_types (Kd.S_types HO403.out BK391.out (by decide)) BK384.out (by decide)) (fun _ hk => hk.1.2) (.slice Ao33 y401.length co33)) (fun _ hk => hk.2) (.int .i64 t385)) (fun _ hk => hk.2) (.slice Ao33 y401.length co33)) (fun _ hk => trivial), mI, mJ, mQ⟩
 rw [if_neg c18] at H
 have c18b0 : (t392 == 1) = false := beq_eq_false_iff_ne.mpr c18
 have c18b1 : (t392 != 1) = true := bne_iff_ne.mpr c18
 by_cases c37 : t392 = 2
 rotate_left
 ·
  rw [if_neg c37] at H
  have c37b0 : (t392 == 2) = false := beq_eq_false_iff_ne.mpr c37
  have c37b1 : (t392 != 2) = true := bne_iff_ne.mpr c37
  simp only [Option.some.injEq, Prod.mk.injEq] at H
  obtain ⟨rfl, rfl, rfl, rfl⟩ := H
  go_enter Try.func99, Try.ntmps99
  go_wp2_with (first | ((with_reducible refine gate_dst (N := 2) rfl ?_); refine box_event ?hg (N := 2) ?hd (cs := #[.int .i64 0, .slice none 0 0]) (t := 28) ?hr ?_; (case hd => rfl); (case hg => rfl); (case hr => first | (go_simp; done) | (go_simp; rfl)); intro gb384 hg w61 hbox hb; have n0_ := Aside0.mk (IsS88.below (mI) hb); have n1_ := Aside0.mk (KeepBut.trans (mq HK.out) (KeepBut.of_below hb g none) (.inl rfl)); have n2_ := Aside0.mk (below_step (mJ) hb); have n3_ := Aside0.mk (hbox); have n4_ := Aside0.mk ((by rw [hg]; exact (keep_size (w := w) (g := g) (row := none) (mQ)) : w.heap.size ≤ gb384)); have n5_ := Aside0.mk ((Nat.le_trans HW0.out (by rw [hg]; exact (keep_size (w := w) (g := g) (row := none) (mQ)) : w.heap.size ≤ gb384) : w0.heap.size ≤ gb384)); have n6_ := Aside0.mk ((by rw [hg]; exact Nat.ne_of_lt (IsS88.lt (show IsS88 w0 _ g s0_0 s0_1 s0_2 from mI)) : g ≠ gb384)); have n7_ := Aside0.mk ((by rw [hg]; exact Nat.ne_of_gt (IsS88.lt (show IsS88 w0 _ g s0_0 s0_1 s0_2 from mI)) : gb384 ≠ g)); clear HI0 HK HB; have HI0 := n0_; have HK := n1_; have HB := n2_; have BK384 := n3_; have GW384 := n4_; have GE384 := n5_; have NB0_384 := n6_; have NB384_0 := n7_; clear n0_ n1_ n2_ n3_ n4_ n5_ n6_ n7_; clear hb hbox hg) | ((with_reducible refine gate_callee (f := 121) rfl ?_); refine goesL_ (some 5) rfl rfl Try.func121 (by kernel_rfl) rfl #[.pointer (some ⟨g, 0, none⟩)] rfl mA ?_; (with_reducible refine (spec_l4Draw.calls k g s0_0 s0_1 s0_2 t385 t386 t389 t390 w0 _ ?side1 ?side2 A2.out).mono ?_); (case side1 => repeat (first | (with_reducible first | exact HI0.out | apply IsS88.alloc | apply IsS88.drewN | apply IsS88.drew | apply IsS88.set_1 | apply IsS88.set_2 | refine IsS88.far ?_ NB0_384.out _) | exact HI0.out)); (case side2 => repeat (first | (with_reducible first | exact HB.out | apply below_alloc | apply pw_below_drewN | apply below_drew1 | refine below_set ?_ (IsS88.ge HI0.out) | refine below_set ?_ GE384.out) | exact HB.out)); rintro e w62 ⟨v387, rfl, ho0, hi, hb, hk⟩; refine ⟨_, rfl, ?_⟩; have n0_ := Aside0.mk (KeepBut.blk hk (g' := gb384) (o := .cells #[.int .i64 0, .slice none 0 0] 28 (0, 0)) ((mK (BK384.out))) NB384_0.out (by simp)); have n1_ := Aside0.mk (Kd.S_lower ho0 (keep_size (w := w) (g := g) (row := none) (mQ))); have n2_ := Aside0.mk (KeepBut.trans (mq HK.out) hk (.inl rfl)); have n3_ := Aside0.mk (hb); have n4_ := Aside0.mk (hi); clear BK384 HK HB HI0; have BK384 := n0_; have HO388 := n1_; have HK := n2_; have HB := n3_; have HI0 := n4_; clear n0_ n1_ n2_ n3_ n4_; (try clear hb); (try clear ho0)) | ((with_reducible refine gate_dst (N := 3) rfl ?_); refine box_event ?hg (N := 3) ?hd (cs := #[.int .i64 0, .slice none 0 0]) (t := 28) ?hr ?_; (case hd => rfl); (case hg => rfl); (case hr => first | (go_simp; done) | (go_simp; rfl)); intro gb391 hg w63 hbox hb; have n0_ := Aside0.mk (Kd.S_below (mS HO388.out) hb); have n1_ := Aside0.mk (IsS88.below (mI) hb); have n2_ := Aside0.mk (blk_below (g := gb384) (o := .cells #[.int .i64 0, .slice none 0 0] 28 (0, 0)) ((mK (BK384.out))) hb); have n3_ := Aside0.mk (KeepBut.trans (mq HK.out) (KeepBut.of_below hb g none) (.inl rfl)); have n4_ := Aside0.mk (below_step (mJ) hb); have n5_ := Aside0.mk (hbox); have n6_ := Aside0.mk ((by rw [hg]; exact (keep_size (w := w) (g := g) (row := none) (mQ)) : w.heap.size ≤ gb391)); have n7_ := Aside0.mk ((Nat.le_trans HW0.out (by rw [hg]; exact (keep_size (w := w) (g := g) (row := none) (mQ)) : w.heap.size ≤ gb391) : w0.heap.size ≤ gb391)); have n8_ := Aside0.mk ((by rw [hg]; exact Nat.ne_of_lt (blk_lt (g := gb384) (o := .cells #[.int .i64 0, .slice none 0 0] 28 (0, 0)) ((mK (BK384.out)))) : gb384 ≠ gb391)); have n9_ := Aside0.mk ((by rw [hg]; exact Nat.ne_of_gt (blk_lt (g := gb384) (o := .cells #[.int .i64 0, .slice none 0 0] 28 (0, 0)) ((mK (BK384.out)))) : gb391 ≠ gb384)); have n10_ := Aside0.mk ((by rw [hg]; exact Nat.ne_of_lt (IsS88.lt (show IsS88 w0 _ g s0_0 t389 t390 from mI)) : g ≠ gb391)); have n11_ := Aside0.mk ((by rw [hg]; exact Nat.ne_of_gt (IsS88.lt (show IsS88 w0 _ g s0_0 t389 t390 from mI)) : gb391 ≠ g)); clear HO388 HI0 BK384 HK HB; have HO388 := n0_; have HI0 := n1_; have BK384 := n2_; have HK := n3_; have HB := n4_; have BK391 := n5_; have GW391 := n6_; have GE391 := n7_; have NB384_391 := n8_; have NB391_384 := n9_; have NB0_391 := n10_; have NB391_0 := n11_; clear n0_ n1_ n2_ n3_ n4_ n5_ n6_ n7_ n8_ n9_ n10_ n11_; clear hb hbox hg; have hnb64 := NB391_384.out; have hnc64 := NB384_391.out; have hnb65 := NB391_0.out; have hnc65 := NB0_391.out; have hcz66_0 : w63.cell? ⟨gb391, 0, none⟩ = some (.int .i64 0) := (blk_cell BK391.out 0).trans rfl; have hcz66_1 : w63.cell? ⟨gb391, 1, none⟩ = some (.slice none 0 0) := (blk_cell BK391.out 1).trans rfl; have hfz66_0 := blk_frozen BK391.out 0; have hfz66_1 := blk_frozen BK391.out 1; obtain ⟨Ao67, co67, eo67⟩ := Kd.S_slice HO388.out; subst eo67) | ((with_reducible refine gate_callee (f := 116) rfl ?_); refine goesL_ (some 7) rfl rfl Try.func116 (by kernel_rfl) rfl #[.pointer (some ⟨g, 0, none⟩), .int .i64 14] rfl mA ?_; (with_reducible refine (spec_l1Below.calls g s0_0 t389 t390 14 t392 t393 t394 w0 _ ?side1 ?side2 A3.out).mono ?_); (case side1 => repeat (first | (with_reducible first | exact HI0.out | apply IsS88.alloc | apply IsS88.drewN | apply IsS88.drew | apply IsS88.set_1 | apply IsS88.set_2 | refine IsS88.far ?_ NB0_384.out _ | refine IsS88.far ?_ NB0_391.out _) | exact HI0.out)); (case side2 => repeat (first | (with_reducible first | exact HB.out | apply below_alloc | apply pw_below_drewN | apply below_drew1 | refine below_set ?_ (IsS88.ge HI0.out) | refine below_set ?_ GE384.out | refine below_set ?_ GE391.out) | exact HB.out)); rintro e w68 ⟨rfl, hi, hb, hk⟩; refine ⟨_, rfl, ?_⟩; have n0_ := Aside0.mk (KeepBut.blk hk (g' := gb384) (o := .cells #[.int .i64 0, .slice none 0 0] 28 (0, 0)) (by refine pK ?_; refine blk_far ?_ NB384_391.out _; refine pK ?_; refine blk_far ?_ NB384_391.out _; refine pK ?_; exact BK384.out) NB384_0.out (by simp)); have n1_ := Aside0.mk (Kd.S_mono (Kd.S_keep (IsS88.apartS (show IsS88 w0 _ g s0_0 t389 t390 from mI) (mS ((Kd.S_mono (Kd.S_far (p := ⟨gb391, 1, none⟩) (Kd.S_far (p := ⟨gb391, 0, none⟩) (Kd.S_types HO388.out BK391.out (by decide)) (fun _ hk => hk.2) (.int .i64 t385)) (fun _ hk => hk.2) (.slice Ao67 t386.length co67)) (fun _ h_ => h_.1)))) (by decide)) hk (fun _ h => h.2)) (fun _ h => h.1)); have n2_ := Aside0.mk (KeepBut.blk hk (g' := gb391) (o := .cells #[.int .i64 t385, .slice Ao67 t386.length co67] 28 (0, 0)) (by refine pK ?_; refine blk_put (cs := #[.int .i64 t385, .slice none 0 0]) ?_ 1 _ rfl; refine pK ?_; refine blk_put (cs := #[.int .i64 0, .slice none 0 0]) ?_ 0 _ rfl; refine pK ?_; exact BK391.out) NB391_0.out (by simp)); have n3_ := Aside0.mk (KeepBut.trans (mq HK.out) hk (.inl rfl)); have n4_ := Aside0.mk (hb); have n5_ := Aside0.mk (hi); clear BK384 HO388 BK391 HK HB HI0; have BK384 := n0_; have HO388 := n1_; have BK391 := n2_; have HK := n3_; have HB := n4_; have HI0 := n5_; clear n0_ n1_ n2_ n3_ n4_ n5_; (try clear hb); have hcz69_0 : w68.cell? ⟨gb391, 0, none⟩ = some (.int .i64 t385) := (blk_cell BK391.out 0).trans rfl; have hcz69_1 : w68.cell? ⟨gb391, 1, none⟩ = some (.slice Ao67 t386.length co67) := (blk_cell BK391.out 1).trans rfl; have hfz69_0 := blk_frozen BK391.out 0; have hfz69_1 := blk_frozen BK391.out 1; have hnb70 := NB384_0.out; have hnc70 := NB0_384.out; have hcz71_0 : w68.cell? ⟨gb384, 0, none⟩ = some (.int .i64 0) := (blk_cell BK384.out 0).trans rfl; have hcz71_1 : w68.cell? ⟨gb384, 1, none⟩ = some (.slice none 0 0) := (blk_cell BK384.out 1).trans rfl; have hfz71_0 := blk_frozen BK384.out 0; have hfz71_1 := blk_frozen BK384.out 1))
  refine bodyPost_ret (results_cell_row rfl _ _ gb384 28 #[.int .i64 t385, .slice Ao67 t386.length co67] (0, 0) _ rfl (by refine pK ?_; refine blk_put (cs := #[.int .i64 t385, .slice none 0 0]) ?_ 1 _ rfl; refine pK ?_; refine blk_put (cs := #[.int .i64 0, .slice none 0 0]) ?_ 0 _ rfl; refine pK ?_; exact BK384.out) Try.underlying28 rfl (by kernel_rfl)) rfl ?_
  exact ⟨_, mE, by (with_reducible repeat (first | apply Kd.S_alloc | apply Kd.S_drewN | apply Kd.S_drew)); exact Kd.S_mono (Kd.S_far (p := ⟨gb384, 1, none⟩) (Kd.S_far (p := ⟨gb384, 0, none⟩) (Kd.S_types HO388.out BK384.out (by decide)) (fun _ hk => hk.2) (.int .i64 t385)) (fun _ hk => hk.2) (.slice Ao67 t386.length co67)) (fun _ hk => trivial), mI, mJ, mQ⟩
 rw [if_pos c37] at H
 have c37b0 : (t392 == 2) = true := beq_iff_eq.mpr c37
 have c37b1 : (t392 != 2) = false := bne_eq_false_iff_eq.mpr c37
 clear c37
 replace H := Option.bind_eq_some_iff.mp H
 obtain ⟨⟨t404, t405, t406⟩, A380, H⟩ := H
 try dsimp only at H
 have A38 := Aside0.mk A380
 clear A380
 replace H := Option.bind_eq_some_iff.mp H
 obtain ⟨⟨t407, t408, t409⟩, A390, H⟩ := H
 try dsimp only at H
 have A39 := Aside0.mk A390
 clear A390
 obtain ⟨y410, hy410⟩ : ∃ y_ : List Int, y_ = (([t404, t407] : List Int)) := ⟨_, rfl⟩
 replace H : (if t386.length < 5864062014805 then (some (t385, (t386 ++ [y410]), t408, t409)) else (none)) = some (r1, r2, r3, r4) := by first | (rw [hy410]; with_reducible exact H) | (have H2_ := (Option.bind_some _ _).symm.trans H; rw [hy410]; with_reducible exact H2_) | (have H2_ := (Option.bind_some _ _).symm.trans H; with_reducible exact H2_) | with_reducible exact H | (rw [hy410]; exact H) | exact H
 have Ny410 := Aside0.mk hy410
 clear hy410
 by_cases c40 : t386.length < 5864062014805
 rotate_left
 ·
  rw [if_neg c40] at H
  exact absurd H (by simp)
 rw [if_pos c40] at H
 have LMc40 := Aside0.mk c40
 clear c40
 obtain ⟨y413, hy413⟩ : ∃ y_ : List (List Int), y_ = (t386 ++ [y410]) := ⟨_, rfl⟩
 replace H : (some (t385, y413, t408, t409)) = some (r1, r2, r3, r4) := by first | (rw [hy413]; with_reducible exact H) | (have H2_ := (Option.bind_some _ _).symm.trans H; rw [hy413]; with_reducible exact H2_) | (have H2_ := (Option.bind_some _ _).symm.trans H; with_reducible exact H2_) | with_reducible exact H | (rw [hy413]; exact H) | exact H
 have Ny413 := Aside0.mk hy413
 clear hy413
 simp only [Option.some.injEq, Prod.mk.injEq] at H
 obtain ⟨rfl, rfl, rfl, rfl⟩ := H
 go_enter Try.func99, Try.ntmps99
 try go_wp2_with (first | ((with_reducible refine gate_dst (N := 2) rfl ?_); refine box_event ?hg (N := 2) ?hd (cs := #[.int .i64 0, .slice none 0 0]) (t := 28) ?hr ?_; (case hd => rfl); (case hg => rfl); (case hr => first | (go_simp; done) | (go_simp; rfl)); intro gb384 hg w41 hbox hb; have n0_ := Aside0.mk (IsS88.below (mI) hb); have n1_ := Aside0.mk (KeepBut.trans (mq HK.out) (KeepBut.of_below hb g none) (.inl rfl)); have n2_ := Aside0.mk (below_step (mJ) hb); have n3_ := Aside0.mk (hbox); have n4_ := Aside0.mk ((by rw [hg]; exact (keep_size (w := w) (g := g) (row := none) (mQ)) : w.heap.size ≤ gb384)); have n5_ := Aside0.mk ((Nat.le_trans HW0.out (by rw [hg]; exact (keep_size (w := w) (g := g) (row := none) (mQ)) : w.heap.size ≤ gb384) : w0.heap.size ≤ gb384)); have n6_ := Aside0.mk ((by rw [hg]; exact Nat.ne_of_lt (IsS88.lt (show IsS88 w0 _ g s0_0 s0_1 s0_2 from mI)) : g ≠ gb384)); have n7_ := Aside0.mk ((by rw [hg]; exact Nat.ne_of_gt (IsS88.lt (show IsS88 w0 _ g s0_0 s0_1 s0_2 from mI)) : gb384 ≠ g)); clear HI0 HK HB; have HI0 := n0_; have HK := n1_; have HB := n2_; have BK384 := n3_; have GW384 := n4_; have GE384 := n5_; have NB0_384 := n6_; have NB384_0 := n7_; clear n0_ n1_ n2_ n3_ n4_ n5_ n6_ n7_; clear hb hbox hg) | ((with_reducible refine gate_callee (f := 121) rfl ?_); refine goesL_ (some 5) rfl rfl Try.func121 (by kernel_rfl) rfl #[.pointer (some ⟨g, 0, none⟩)] rfl mA ?_; (with_reducible refine (spec_l4Draw.calls k g s0_0 s0_1 s0_2 t385 t386 t389 t390 w0 _ ?side1 ?side2 A2.out).mono ?_); (case side1 => repeat (first | (with_reducible first | exact HI0.out | apply IsS88.alloc | apply IsS88.drewN | apply IsS88.drew | apply IsS88.set_1 | apply IsS88.set_2 | refine IsS88.far ?_ NB0_384.out _) | exact HI0.out)); (case side2 => repeat (first | (with_reducible first | exact HB.out | apply below_alloc | apply pw_below_drewN | apply below_drew1 | refine below_set ?_ (IsS88.ge HI0.out) | refine below_set ?_ GE384.out) | exact HB.out)); rintro e w42 ⟨v387, rfl, ho0, hi, hb, hk⟩; refine ⟨_, rfl, ?_⟩; have n0_ := Aside0.mk (KeepBut.blk hk (g' := gb384) (o := .cells #[.int .i64 0, .slice none 0 0] 28 (0, 0)) ((mK (BK384.out))) NB384_0.out (by simp)); have n1_ := Aside0.mk (Kd.S_lower ho0 (keep_size (w := w) (g := g) (row := none) (mQ))); have n2_ := Aside0.mk (KeepBut.trans (mq HK.out) hk (.inl rfl)); have n3_ := Aside0.mk (hb); have n4_ := Aside0.mk (hi); clear BK384 HK HB HI0; have BK384 := n0_; have HO388 := n1_; have HK := n2_; have HB := n3_; have HI0 := n4_; clear n0_ n1_ n2_ n3_ n4_; (try clear hb); (try clear ho0)) | ((with_reducible refine gate_dst (N := 3) rfl ?_); refine box_event ?hg (N := 3) ?hd (cs := #[.int .i64 0, .slice none 0 0]) (t := 28) ?hr ?_; (case hd => rfl); (case hg => rfl); (case hr => first | (go_simp; done) | (go_simp; rfl)); intro gb391 hg w43 hbox hb; have n0_ := Aside0.mk (Kd.S_below (mS HO388.out) hb); have n1_ := Aside0.mk (IsS88.below (mI) hb); have n2_ := Aside0.mk (blk_below (g := gb384) (o := .cells #[.int .i64 0, .slice none 0 0] 28 (0, 0)) ((mK (BK384.out))) hb); have n3_ := Aside0.mk (KeepBut.trans (mq HK.out) (KeepBut.of_below hb g none) (.inl rfl)); have n4_ := Aside0.mk (below_step (mJ) hb); have n5_ := Aside0.mk (hbox); have n6_ := Aside0.mk ((by rw [hg]; exact (keep_size (w := w) (g := g) (row := none) (mQ)) : w.heap.size ≤ gb391)); have n7_ := Aside0.mk ((Nat.le_trans HW0.out (by rw [hg]; exact (keep_size (w := w) (g := g) (row := none) (mQ)) : w.heap.size ≤ gb391) : w0.heap.size ≤ gb391)); have n8_ := Aside0.mk ((by rw [hg]; exact Nat.ne_of_lt (blk_lt (g := gb384) (o := .cells #[.int .i64 0, .slice none 0 0] 28 (0, 0)) ((mK (BK384.out)))) : gb384 ≠ gb391)); have n9_ := Aside0.mk ((by rw [hg]; exact Nat.ne_of_gt (blk_lt (g := gb384) (o := .cells #[.int .i64 0, .slice none 0 0] 28 (0, 0)) ((mK (BK384.out)))) : gb391 ≠ gb384)); have n10_ := Aside0.mk ((by rw [hg]; exact Nat.ne_of_lt (IsS88.lt (show IsS88 w0 _ g s0_0 t389 t390 from mI)) : g ≠ gb391)); have n11_ := Aside0.mk ((by rw [hg]; exact Nat.ne_of_gt (IsS88.lt (show IsS88 w0 _ g s0_0 t389 t390 from mI)) : gb391 ≠ g)); clear HO388 HI0 BK384 HK HB; have HO388 := n0_; have HI0 := n1_; have BK384 := n2_; have HK := n3_; have HB := n4_; have BK391 := n5_; have GW391 := n6_; have GE391 := n7_; have NB384_391 := n8_; have NB391_384 := n9_; have NB0_391 := n10_; have NB391_0 := n11_; clear n0_ n1_ n2_ n3_ n4_ n5_ n6_ n7_ n8_ n9_ n10_ n11_; clear hb hbox hg; have hnb44 := NB391_384.out; have hnc44 := NB384_391.out; have hnb45 := NB391_0.out; have hnc45 := NB0_391.out; have hcz46_0 : w43.cell? ⟨gb391, 0, none⟩ = some (.int .i64 0) := (blk_cell BK391.out 0).trans rfl; have hcz46_1 : w43.cell? ⟨gb391, 1, none⟩ = some (.slice none 0 0) := (blk_cell BK391.out 1).trans rfl; have hfz46_0 := blk_frozen BK391.out 0; have hfz46_1 := blk_frozen BK391.out 1; obtain ⟨Ao47, co47, eo47⟩ := Kd.S_slice HO388.out; subst eo47) | ((with_reducible refine gate_callee (f := 116) rfl ?_); refine goesL_ (some 7) rfl rfl Try.func116 (by kernel_rfl) rfl #[.pointer (some ⟨g, 0, none⟩), .int .i64 14] rfl mA ?_; (with_reducible refine (spec_l1Below.calls g s0_0 t389 t390 14 t392 t393 t394 w0 _ ?side1 ?side2 A3.out).mono ?_); (case side1 => repeat (first | (with_reducible first | exact HI0.out | apply IsS88.alloc | apply IsS88.drewN | apply IsS88.drew | apply IsS88.set_1 | apply IsS88.set_2 | refine IsS88.far ?_ NB0_384.out _ | refine IsS88.far ?_ NB0_391.out _) | exact HI0.out)); (case side2 => repeat (first | (with_reducible first | exact HB.out | apply below_alloc | apply pw_below_drewN | apply below_drew1 | refine below_set ?_ (IsS88.ge HI0.out) | refine below_set ?_ GE384.out | refine below_set ?_ GE391.out) | exact HB.out)); rintro e w48 ⟨rfl, hi, hb, hk⟩; refine ⟨_, rfl, ?_⟩; have n0_ := Aside0.mk (KeepBut.blk hk (g' := gb384) (o := .cells #[.int .i64 0, .slice none 0 0] 28 (0, 0)) (by refine pK ?_; refine blk_far ?_ NB384_391.out _; refine pK ?_; refine blk_far ?_ NB384_391.out _; refine pK ?_; exact BK384.out) NB384_0.out (by simp)); have n1_ := Aside0.mk (Kd.S_mono (Kd.S_keep (IsS88.apartS (show IsS88 w0 _ g s0_0 t389 t390 from mI) (mS ((Kd.S_mono (Kd.S_far (p := ⟨gb391, 1, none⟩) (Kd.S_far (p := ⟨gb391, 0, none⟩) (Kd.S_types HO388.out BK391.out (by decide)) (fun _ hk => hk.2) (.int .i64 t385)) (fun _ hk => hk.2) (.slice Ao47 t386.length co47)) (fun _ h_ => h_.1)))) (by decide)) hk (fun _ h => h.2)) (fun _ h => h.1)); have n2_ := Aside0.mk (KeepBut.blk hk (g' := gb391) (o := .cells #[.int .i64 t385, .slice Ao47 t386.length co47] 28 (0, 0)) (by refine pK ?_; refine blk_put (cs := #[.int .i64 t385, .slice none 0 0]) ?_ 1 _ rfl; refine pK ?_; refine blk_put (cs := #[.int .i64 0, .slice none 0 0]) ?_ 0 _ rfl; refine pK ?_; exact BK391.out) NB391_0.out (by simp)); have n3_ := Aside0.mk (KeepBut.trans (mq HK.out) hk (.inl rfl)); have n4_ := Aside0.mk (hb); have n5_ := Aside0.mk (hi); clear BK384 HO388 BK391 HK HB HI0; have BK384 := n0_; have HO388 := n1_; have BK391 := n2_; have HK := n3_; have HB := n4_; have HI0 := n5_; clear n0_ n1_ n2_ n3_ n4_ n5_; (try clear hb)))
 have n0_ := Aside0.mk (Kd.S_drew HO388.out)
 have n1_ := Aside0.mk (blk_drew BK384.out)
 have n2_ := Aside0.mk (blk_drew BK391.out)
 have n3_ := Aside0.mk (IsS88.drew HI0.out)
 have n4_ := Aside0.mk (keep_drew HK.out)
 have n5_ := Aside0.mk (below_drew1 HB.out)
 clear HO388 BK384 BK391 HI0 HK HB; have HO388 := n0_; have BK384 := n1_; have BK391 := n2_; have HI0 := n3_; have HK := n4_; have HB := n5_; clear n0_ n1_ n2_ n3_ n4_ n5_
 refine start_ (n := 11) (S := fun w' => w'.cell? ⟨gb391, 0, none⟩ = some (.int .i64 t385) ∧ w'.cell? ⟨gb391, 1, none⟩ = some (.slice Ao47 t386.length co47)) (ds := [10]) (L_ 0 11) (by kernel_rfl) rfl rfl ⟨(blk_cell BK391.out 0).trans rfl, (blk_cell BK391.out 1).trans rfl⟩ (fun hHeld => ?_); refine with_tabW spec_l4Any.tab8 spec_l4Any.bits8 (fun HT_ HW_ => ?_)
 generalize w48.drew = w49 at HO388 BK384 BK391 HI0 HK HB hHeld ⊢
 refine ps 0 23 (L_ 1 11) HT_.out ?_
 refine ps 2 25 #[true, false, true, false, false, false, false, false, false, false, false] HT_.out ?_
 refine ps 4 27 #[true, false, true, false, true, false, false, false, false, false, false] HT_.out ?_
 refine take_ (i := 1) (N := some 24) (v := ?_) (a' := ?_) #[true, true, true, false, true, false, false, false, false, false, false] rfl rfl (take_ofW HT_.out HW_.out (by kernel_rfl)) (fun _ _ _ h => h) (Or.inl ⟨by rfl, ?_⟩) hHeld ?_ ?_
 rotate_left
 ·
  rintro w' ⟨s0, s1⟩
  go_simp
  with_reducible rfl
 rotate_left
 ·
  simp only [Act.put, List.setIfInBounds_toArray, List.set_cons_zero, List.set_cons_succ, i64_w, i32_w]
  rfl
 refine one_ (i := 3) (N := some 26) (L_ 5 11) rfl rfl (one_of HT_.out (by kernel_rfl)) (by decide) (fun K hK => ?_)
 refine goes_ Try.func116 (by kernel_rfl) rfl #[.pointer (some ⟨g, 0, none⟩), .int .i64 7] (by rfl) rfl rfl mA ?_
 with_reducible refine (spec_l1Below.calls g s0_0 t393 t394 7 t404 t405 t406 w0 _ ?side1 ?side2 A38.out).mono ?_
 (case side1 => repeat (first | (with_reducible first | exact HI0.out | apply IsS88.alloc | apply IsS88.drewN | apply IsS88.drew | apply IsS88.set_1 | apply IsS88.set_2 | refine IsS88.far ?_ NB0_384.out _ | refine IsS88.far ?_ NB0_391.out _) | exact HI0.out))
 (case side2 => repeat (first | (with_reducible first | exact HB.out | apply below_alloc | apply pw_below_drewN | apply below_drew1 | refine below_set ?_ (IsS88.ge HI0.out) | refine below_set ?_ GE384.out | refine below_set ?_ GE391.out) | exact HB.out))
 rintro e w50 ⟨rfl, hi, hb, hk⟩
 refine ⟨_, rfl, ?_⟩
 have n0_ := Aside0.mk (KeepBut.blk hk (g' := gb384) (o := .cells #[.int .i64 0, .slice none 0 0] 28 (0, 0)) ((mK (BK384.out))) NB384_0.out (by simp))
 have n1_ := Aside0.mk (Kd.S_mono (Kd.S_keep (IsS88.apartS (show IsS88 w0 _ g s0_0 t393 t394 from mI) (mS HO388.out) (by decide)) hk (fun _ h => h.2)) (fun _ h => h.1))
 have n2_ := Aside0.mk (KeepBut.blk hk (g' := gb391) (o := .cells #[.int .i64 t385, .slice Ao47 t386.length co47] 28 (0, 0)) ((mK (BK391.out))) NB391_0.out (by simp))
 have n3_ := Aside0.mk (KeepBut.trans (mq HK.out) hk (.inl rfl))
 have n4_ := Aside0.mk (hb)
 have n5_ := Aside0.mk (hi)
 clear BK384 HO388 BK391 HK HB HI0; have BK384 := n0_; have HO388 := n1_; have BK391 := n2_; have HK := n3_; have HB := n4_; have HI0 := n5_; clear n0_ n1_ n2_ n3_ n4_ n5_; (try clear hb)
 refine hK.out _ _ ⟨(blk_cell BK391.out 0).trans rfl, (blk_cell BK391.out 1).trans rfl⟩ (fun hHeld => ?_)
 clear hK K
 refine norm_ (a' := ?_) ?_ ?_
 rotate_left
 ·
  show Act.put _ (some 26) _ = _
  simp only [Act.put, List.setIfInBounds_toArray, List.set_cons_zero, List.set_cons_succ, i64_w, i32_w]
  rfl
 refine one_ (i := 5) (N := some 28) (L_ 6 11) rfl rfl (one_of HT_.out (by kernel_rfl)) (by decide) (fun K hK => ?_)
 refine goes_ Try.func116 (by kernel_rfl) rfl #[.pointer (some ⟨g, 0, none⟩), .int .i64 7] (by rfl) rfl rfl mA ?_
 with_reducible refine (spec_l1Below.calls g s0_0 t405 t406 7 t407 t408 t409 w0 _ ?side1 ?side2 A39.out).mono ?_
 (case side1 => repeat (first | (with_reducible first | exact HI0.out | apply IsS88.alloc | apply IsS88.drewN | apply IsS88.drew | apply IsS88.set_1 | apply IsS88.set_2 | refine IsS88.far ?_ NB0_384.out _ | refine IsS88.far ?_ NB0_391.out _) | exact HI0.out))
 (case side2 => repeat (first | (with_reducible first | exact HB.out | apply below_alloc | apply pw_below_drewN | apply below_drew1 | refine below_set ?_ (IsS88.ge HI0.out) | refine below_set ?_ GE384.out | refine below_set ?_ GE391.out) | exact HB.out))
 rintro e w51 ⟨rfl, hi, hb, hk⟩
 refine ⟨_, rfl, ?_⟩
 have n0_ := Aside0.mk (KeepBut.blk hk (g' := gb384) (o := .cells #[.int .i64 0, .slice none 0 0] 28 (0, 0)) ((mK (BK384.out))) NB384_0.out (by simp))
 have n1_ := Aside0.mk (Kd.S_mono (Kd.S_keep (IsS88.apartS (show IsS88 w0 _ g s0_0 t405 t406 from mI) (mS HO388.out) (by decide)) hk (fun _ h => h.2)) (fun _ h => h.1))
 have n2_ := Aside0.mk (KeepBut.blk hk (g' := gb391) (o := .cells #[.int .i64 t385, .slice Ao47 t386.length co47] 28 (0, 0)) ((mK (BK391.out))) NB391_0.out (by simp))
 have n3_ := Aside0.mk (KeepBut.trans (mq HK.out) hk (.inl rfl))
 have n4_ := Aside0.mk (hb)
 have n5_ := Aside0.mk (hi)
 clear BK384 HO388 BK391 HK HB HI0; have BK384 := n0_; have HO388 := n1_; have BK391 := n2_; have HK := n3_; have HB := n4_; have HI0 := n5_; clear n0_ n1_ n2_ n3_ n4_ n5_; (try clear hb)
 refine hK.out _ _ ⟨(blk_cell BK391.out 0).trans rfl, (blk_cell BK391.out 1).trans rfl⟩ (fun hHeld => ?_)
 clear hK K
 refine norm_ (a' := ?_) ?_ ?_
 rotate_left
 ·
  show Act.put _ (some 28) _ = _
  simp only [Act.put, List.setIfInBounds_toArray, List.set_cons_zero, List.set_cons_succ, i64_w, i32_w]
  rfl
 refine one_ (i := 6) (N := some 29) (L_ 7 11) rfl rfl (one_of HT_.out (by kernel_rfl)) (by decide) (fun K hK => ?_)
 refine Kd.R_lit_step (Kd.int .i64) _ 3 ?hg (N := 29) ?hd (xs := ([t404, t407] : List Int)) (inner := [.int .i64 t404, .int .i64 t407]) (ok := fun _ => True) (okp := fun _ => True) ?hr ?hp (fun _ hk => hk) trivial (Below.refl _ _) (Nat.le_refl _) (by simp) ?_; (case hd => rfl); (case hg => rfl); (case hr => first | (go_simp; done) | (go_simp; rfl)); (case hp => exact (Reps.one (show Kd.M (Kd.int .i64) _ _ _ t404 [.int .i64 t404] from rfl) (Reps.one (show Kd.M (Kd.int .i64) _ _ _ t407 [.int .i64 t407] from rfl) (Reps.none _ _))))
 intro v411 w52 ho53 hb hg_ hnew_
 clear hg_ hnew_
 (first | rw [← Ny410.out] at ho53 | (simp only [Int.reduceToNat] at ho53; rw [← Ny410.out] at ho53))
 have n0_ := Aside0.mk (Kd.S_elder' (mS HO388.out) (Kd.R_base ho53) hb)
 have n1_ := Aside0.mk (Kd.R_lower ho53 (keep_size (w := w) (g := g) (row := none) (mQ)))
 have n2_ := Aside0.mk (IsS88.below (mI) hb)
 have n3_ := Aside0.mk (blk_below (g := gb384) (o := .cells #[.int .i64 0, .slice none 0 0] 28 (0, 0)) ((mK (BK384.out))) hb)
 have n4_ := Aside0.mk (blk_below (g := gb391) (o := .cells #[.int .i64 t385, .slice Ao47 t386.length co47] 28 (0, 0)) ((mK (BK391.out))) hb)
 have n5_ := Aside0.mk (KeepBut.trans (mq HK.out) (KeepBut.of_below hb g none) (.inl rfl))
 have n6_ := Aside0.mk (below_step (mJ) hb)
 clear HO388 HI0 BK384 BK391 HK HB; have HO388 := n0_; have HO412 := n1_; have HI0 := n2_; have BK384 := n3_; have BK391 := n4_; have HK := n5_; have HB := n6_; clear n0_ n1_ n2_ n3_ n4_ n5_ n6_; clear hb ho53
 obtain ⟨Ao55, co55, eo55⟩ := Kd.R_slice HO412.out
 (first | subst eo55 | (injection eo55 with f1_ f2_ f3_; have f4_ := f1_.symm; have f5_ := f3_.symm; clear f1_ f2_ f3_; subst f4_; subst f5_))
 refine hK.out _ _ ⟨(blk_cell BK391.out 0).trans rfl, (blk_cell BK391.out 1).trans rfl⟩ (fun hHeld => ?_)
 clear hK K
 refine norm_ (a' := ?_) ?_ ?_
 rotate_left
 ·
  show Act.put _ (some 29) _ = _
  simp only [Act.put, List.setIfInBounds_toArray, List.set_cons_zero, List.set_cons_succ, i64_w, i32_w]
  rfl
 refine one_ (i := 7) (N := some 30) (L_ 8 11) rfl rfl (one_of HT_.out (by kernel_rfl)) (by decide) (fun K hK => ?_)
 refine value_ (w1 := ?_) (v := ?_) (by rfl) rfl ?_ ?_
 rotate_left 2
 ·
  go_simp
  constructor
  ·
   rfl
  ·
   rfl
 refine hK.out _ _ ⟨(blk_cell (blk_alloc BK391.out _) 0).trans rfl, (blk_cell (blk_alloc BK391.out _) 1).trans rfl⟩ (fun hHeld => ?_)
 clear hK K
 refine norm_ (a' := ?_) ?_ ?_
 rotate_left
 ·
  show Act.put _ (some 30) _ = _
  simp only [Act.put, List.setIfInBounds_toArray, List.set_cons_zero, List.set_cons_succ, i64_w, i32_w]
  rfl
 refine one_ (i := 8) (N := some 31) (L_ 9 11) rfl rfl (one_of HT_.out (by kernel_rfl)) (by decide) (fun K hK => ?_)
 refine Kd.S_append_step (Kd.slice 3 (Kd.int .i64)) w.heap.size (by rfl) (.tmp 24) (.tmp 30) 22 25 (.slice none 0 0) 24 rfl Try.underlying22 info25 rfl (by decide) (by omega) (.slice Ao47 t386.length co47) t386 y410 [.slice Ao55 y410.length co55] (fun _ => True) (fun k_ => some k_ = (.slice Ao55 y410.length co55 : Value).ownBlock) rfl rfl ?aP (fun k_ hk_ => ((Kd.R_mono (ok' := fun k_ => ((fun _ => True)) k_ ∧ some k_ ≠ (.slice Ao47 t386.length co47 : Value).ownBlock) (Kd.R_apart' (HO412.out) (Kd.S_typed HO388.out) (by decide)) (fun k_ hk => ⟨trivial, hk.2⟩))).1 k_ hk_.symm) ?aF ?aO (Below.refl _ _) ?aS ?aL ?_
 (case aP => exact Kd.M_row (Kd.R_mono (Kd.R_tight rfl (Kd.R_mono (ok' := fun k_ => ((fun _ => True)) k_ ∧ some k_ ≠ (.slice Ao47 t386.length co47 : Value).ownBlock) (Kd.R_apart' (HO412.out) (Kd.S_typed HO388.out) (by decide)) (fun k_ hk => ⟨trivial, hk.2⟩))) (fun _ h_ => h_)))
 (case aF => exact (fun _ _ => trivial))
 (case aO => exact (mS (Kd.S_mono HO388.out (fun k_ hk => ⟨trivial, fun e_ => hk.2 e_⟩))))
 (case aS => exact (keep_size (w := w) (g := g) (row := none) (mQ)))
 (case aL => have := LMc40.out; omega)
 intro v414 w54 ho hb hg hat
 rw [← Ny413.out] at ho
 have n0_ := Aside0.mk (IsS88.grown (mI) hg (IsS88.own_neS HI0.out HO388.out (by decide)))
 have n1_ := Aside0.mk (blk_grown (g := gb384) (o := .cells #[.int .i64 0, .slice none 0 0] 28 (0, 0)) ((mK (BK384.out))) hg (Kd.S_ne HO388.out BK384.out (by decide)))
 have n2_ := Aside0.mk (blk_grown (g := gb391) (o := .cells #[.int .i64 t385, .slice Ao47 t386.length co47] 28 (0, 0)) ((mK (BK391.out))) hg (Kd.S_ne HO388.out BK391.out (by decide)))
 have n3_ := Aside0.mk (below_weaken (mJ) HL.out hb)
 have n4_ := Aside0.mk (KeepBut.trans (mq HK.out) (KeepBut.of_grown hg g) (Kd.S_base2 HO388.out))
 have n5_ := Aside0.mk (ho)
 clear HI0 BK384 BK391 HB HK HO388 HO412; have HI0 := n0_; have BK384 := n1_; have BK391 := n2_; have HB := n3_; have HK := n4_; have HO415 := n5_; clear n0_ n1_ n2_ n3_ n4_ n5_; clear ho hb hg hat
 obtain ⟨Ao56, co56, eo56⟩ := Kd.S_slice HO415.out
 (first | subst eo56 | (injection eo56 with f1_ f2_ f3_; have f4_ := f1_.symm; have f5_ := f3_.symm; clear f1_ f2_ f3_; subst f4_; subst f5_))
 refine hK.out _ _ ⟨(blk_cell BK391.out 0).trans rfl, (blk_cell BK391.out 1).trans rfl⟩ (fun hHeld => ?_)
 clear hK K
 refine norm_ (a' := ?_) ?_ ?_
 rotate_left
 ·
  show Act.put _ (some 31) _ = _
  simp only [Act.put, List.setIfInBounds_toArray, List.set_cons_zero, List.set_cons_succ, i64_w, i32_w]
  rfl
 refine ps 9 32 (L_ 10 11) HT_.out ?_
 refine last_ (i := 10) (N := none) (L_ 11 11) rfl rfl (one_of HT_.out (by kernel_rfl)) (by decide) (fun K hK => ?_)
 have hs57 : w54.cell? ⟨gb391, 1, none⟩ = some (.slice Ao47 t386.length co47) := (blk_cell BK391.out 1).trans rfl
 have hfs57 := blk_frozen BK391.out 1
 have hns57_0 := NB384_391.out
 have hms57_0 := NB391_384.out
 refine skip_ (w1 := ?_) (by rfl) rfl ?_ ?_
 rotate_left
 ·
  go_simp
  rfl
 refine hK.out _ _ ?_
 clear hK K
 refine done_ (done_of HT_.out (by kernel_rfl)) ?_
 have hcz58_0 : w54.cell? ⟨gb391, 0, none⟩ = some (.int .i64 t385) := (blk_cell BK391.out 0).trans rfl
 have hcz58_1 : w54.cell? ⟨gb391, 1, none⟩ = some (.slice Ao47 t386.length co47) := (blk_cell BK391.out 1).trans rfl
 have hfz58_0 := blk_frozen BK391.out 0
 have hfz58_1 := blk_frozen BK391.out 1
 have hnb59 := NB384_0.out
 have hnc59 := NB0_384.out
 have hcz60_0 : w54.cell? ⟨gb384, 0, none⟩ = some (.int .i64 0) := (blk_cell BK384.out 0).trans rfl
 have hcz60_1 : w54.cell? ⟨gb384, 1, none⟩ = some (.slice none 0 0) := (blk_cell BK384.out 1).trans rfl
 have hfz60_0 := blk_frozen BK384.out 0
 have hfz60_1 := blk_frozen BK384.out 1
 try go_wp2
 refine bodyPost_ret (results_cell_row rfl _ _ gb384 28 #[.int .i64 t385, .slice Ao56 y413.length co56] (0, 0) _ rfl (by refine pK ?_; refine blk_put (cs := #[.int .i64 t385, .slice none 0 0]) ?_ 1 _ rfl; refine pK ?_; refine blk_put (cs := #[.int .i64 0, .slice none 0 0]) ?_ 0 _ rfl; refine pK ?_; refine blk_far ?_ NB384_391.out _; refine pK ?_; exact BK384.out) Try.underlying28 rfl (by kernel_rfl)) rfl ?_
 exact ⟨_, mE, by (with_reducible repeat (first | apply Kd.S_alloc | apply Kd.S_drewN | apply Kd.S_drew)); exact Kd.S_mono (Kd.S_far (p := ⟨gb384, 1, none⟩) (Kd.S_far (p := ⟨gb384, 0, none⟩) (Kd.S_far (p := ⟨gb391, 1, none⟩) (Kd.S_types (Kd.S_types HO415.out BK391.out (by decide)) BK384.out (by decide)) (fun _ hk => hk.1.2) (.slice Ao56 y413.length co56)) (fun _ hk => hk.2) (.int .i64 t385)) (fun _ hk => hk.2) (.slice Ao56 y413.length co56)) (fun _ hk => trivial), mI, mJ, mQ⟩
/-! ### spec_DrawIsGraph: function 103 -/
def spec_DrawIsGraph.f (k : Nat) (l0 : List Int) : Option (Int × (List (List Int))) := (spec_l1New.f k l0).bind fun bt417 => ((spec_l4Any.f k bt417.1 bt417.2.1 bt417.2.2).bind fun bt421 => (some (bt421.1, bt421.2.1)))
theorem spec_DrawIsGraph.mono : ∀ a0 k, LeO (spec_DrawIsGraph.f k a0) (spec_DrawIsGraph.f (k + 1) a0) := by
 intro a0 k
 unfold spec_DrawIsGraph.f
 repeat' with_reducible first | exact spec_l1New.mono _ _ | exact spec_l4Any.mono _ _ _ _ | exact LeO.refl _ | exact LeO.none _ | refine LeO.ite ?_ ?_ | refine LeO.bind ?_ (fun _ => ?_)
set_option maxHeartbeats 8000000 in
set_option maxRecDepth 100000 in
theorem spec_DrawIsGraph.calls (k : Nat) (A0 : Option Addr) (c0 : Nat) (l0 : List Int) (r1 : Int) (r2 : List (List Int)) (w : World) (hr0 : Kd.C (Kd.int .u8) w A0 l0.length l0) (hc0 : l0.length ≤ c0) (h : spec_DrawIsGraph.f k l0 = some (r1, r2)) :
  Calls Try.prog 103 #[.slice A0 l0.length c0] w fun e w' => ∃ v1_ : Value, e = .returned (.agg #[.int .i64 r1, v1_]) ∧ Kd.S (Kd.slice 3 (Kd.int .i64)) 25 w' w.heap.size (fun _ => True) v1_ r2 ∧ Below w.heap.size w w' := by
 have hu28 := Try.underlying28
 have HR0 := Aside0.mk hr0
 have HC0 := Aside0.mk hc0
 clear hr0 hc0
 have HB := Aside0.mk (Below.refl w.heap.size w)
 have H : ((spec_l1New.f k l0).bind fun bt417 => ((spec_l4Any.f k bt417.1 bt417.2.1 bt417.2.2).bind fun bt421 => (some (bt421.1, bt421.2.1)))) = some (r1, r2) := h
 clear h
 replace H := Option.bind_eq_some_iff.mp H
 obtain ⟨⟨t417, t418, t419⟩, A20, H⟩ := H
 try dsimp only at H
 have A2 := Aside0.mk A20
 clear A20
 replace H := Option.bind_eq_some_iff.mp H
 obtain ⟨⟨t421, t422, t425, t426⟩, A30, H⟩ := H
 try dsimp only at H
 have A3 := Aside0.mk A30
 clear A30
 simp only [Option.some.injEq, Prod.mk.injEq] at H
 obtain ⟨rfl, rfl⟩ := H
 go_enter Try.func103, Try.ntmps103
 go_wp2_with (first | ((with_reducible refine gate_dst (N := 2) rfl ?_); refine box_event ?hg (N := 2) ?hd (cs := #[.int .i64 0, .slice none 0 0]) (t := 28) ?hr ?_; (case hd => rfl); (case hg => rfl); (case hr => first | (go_simp; done) | (go_simp; rfl)); intro gb416 hg w4 hbox hb; have n0_ := Aside0.mk (below_step (mB HB.out) hb); have n1_ := Aside0.mk (hbox); have n2_ := Aside0.mk ((by rw [hg]; exact (below_size (mB HB.out)) : w.heap.size ≤ gb416)); have n3_ := Aside0.mk ((by rw [hg]; exact (below_size (mB HB.out)) : w.heap.size ≤ gb416)); clear HB; have HB := n0_; have BK416 := n1_; have GW416 := n2_; have GE416 := n3_; clear n0_ n1_ n2_ n3_; clear hb hbox hg) | ((with_reducible refine gate_callee (f := 98) rfl ?_); refine goesL_ (some 5) rfl rfl Try.func98 (by kernel_rfl) rfl #[.slice A0 l0.length c0] rfl mA ?_; (with_reducible refine (spec_l1New.calls k _ _ l0 t417 t418 t419 w _ ?side1 ?side2 ?side3 A2.out).mono ?_); (case side1 => repeat (first | (with_reducible first | exact HB.out | apply below_alloc | apply pw_below_drewN | apply below_drew1 | refine below_set ?_ GE416.out) | exact HB.out)); (case side2 => exact HR0.out); (case side3 => exact HC0.out); rintro e w5 ⟨g420, rfl, hi, hb, hb2⟩; refine ⟨_, rfl, ?_⟩; have n0_ := Aside0.mk (blk_below (g := gb416) (o := .cells #[.int .i64 0, .slice none 0 0] 28 (0, 0)) ((mK (BK416.out))) hb2); have n1_ := Aside0.mk (hb); have n2_ := Aside0.mk (hi); have n3_ := Aside0.mk (IsS88.ne_blk hi (blk_below (g := gb416) (o := .cells #[.int .i64 0, .slice none 0 0] 28 (0, 0)) ((mK (BK416.out))) hb2) (by decide)); have n4_ := Aside0.mk (Ne.symm (IsS88.ne_blk hi (blk_below (g := gb416) (o := .cells #[.int .i64 0, .slice none 0 0] 28 (0, 0)) ((mK (BK416.out))) hb2) (by decide))); clear BK416 HB; have BK416 := n0_; have HB := n1_; have HI420 := n2_; have NB420_416 := n3_; have NB416_420 := n4_; clear n0_ n1_ n2_ n3_ n4_; (try clear hb)) | ((with_reducible refine gate_callee (f := 99) rfl ?_); refine goesL_ (some 7) rfl rfl Try.func99 (by kernel_rfl) rfl #[.pointer (some ⟨g420, 0, none⟩)] rfl mA ?_; (with_reducible refine (spec_l4Any.calls k g420 t417 t418 t419 t421 t422 t425 t426 w _ ?side1 ?side2 A3.out).mono ?_); (case side1 => repeat (first | (with_reducible first | exact HI420.out | apply IsS88.alloc | apply IsS88.drewN | apply IsS88.drew | apply IsS88.set_1 | apply IsS88.set_2 | refine IsS88.far ?_ NB420_416.out _) | exact HI420.out)); (case side2 => repeat (first | (with_reducible first | exact HB.out | apply below_alloc | apply pw_below_drewN | apply below_drew1 | refine below_set ?_ (IsS88.ge HI420.out) | refine below_set ?_ GE416.out) | exact HB.out)); rintro e w6 ⟨v423, rfl, ho0, hi, hb, hk⟩; refine ⟨_, rfl, ?_⟩; have n0_ := Aside0.mk (KeepBut.blk hk (g' := gb416) (o := .cells #[.int .i64 0, .slice none 0 0] 28 (0, 0)) ((mK (BK416.out))) NB416_420.out (by simp)); have n1_ := Aside0.mk (Kd.S_lower ho0 (below_size (mJ))); have n2_ := Aside0.mk (hb); have n3_ := Aside0.mk (hi); clear BK416 HB HI420; have BK416 := n0_; have HO424 := n1_; have HB := n2_; have HI420 := n3_; clear n0_ n1_ n2_ n3_; (try clear hb); (try clear ho0); have hnb7 := NB416_420.out; have hnc7 := NB420_416.out; have hcz8_0 : w6.cell? ⟨gb416, 0, none⟩ = some (.int .i64 0) := (blk_cell BK416.out 0).trans rfl; have hcz8_1 : w6.cell? ⟨gb416, 1, none⟩ = some (.slice none 0 0) := (blk_cell BK416.out 1).trans rfl; have hfz8_0 := blk_frozen BK416.out 0; have hfz8_1 := blk_frozen BK416.out 1; obtain ⟨Ao9, co9, eo9⟩ := Kd.S_slice HO424.out; subst eo9))
 refine bodyPost_ret (results_cell_row rfl _ _ gb416 28 #[.int .i64 t421, .slice Ao9 t422.length co9] (0, 0) _ rfl (by refine pK ?_; refine blk_put (cs := #[.int .i64 t421, .slice none 0 0]) ?_ 1 _ rfl; refine pK ?_; refine blk_put (cs := #[.int .i64 0, .slice none 0 0]) ?_ 0 _ rfl; refine pK ?_; exact BK416.out) Try.underlying28 rfl (by kernel_rfl)) rfl ?_
 exact ⟨_, mE, by (with_reducible repeat (first | apply Kd.S_alloc | apply Kd.S_drewN | apply Kd.S_drew)); exact Kd.S_mono (Kd.S_far (p := ⟨gb416, 1, none⟩) (Kd.S_far (p := ⟨gb416, 0, none⟩) (Kd.S_types HO424.out BK416.out (by decide)) (fun _ hk => hk.2) (.int .i64 t421)) (fun _ hk => hk.2) (.slice Ao9 t422.length co9)) (fun _ hk => trivial), mJ⟩

/-! ### spec_DrawGrounded: function 66 -/
def spec_DrawGrounded.f (k : Nat) (l0 : List Int) : Option (Int × (List (List Int))) := (spec_DrawIsGraph.f k l0).bind fun bt428 => (some (bt428.1, bt428.2))
theorem spec_DrawGrounded.mono : ∀ a0 k, LeO (spec_DrawGrounded.f k a0) (spec_DrawGrounded.f (k + 1) a0) := by
 intro a0 k
 unfold spec_DrawGrounded.f
 repeat' with_reducible first | exact spec_DrawIsGraph.mono _ _ | exact LeO.refl _ | exact LeO.none _ | refine LeO.ite ?_ ?_ | refine LeO.bind ?_ (fun _ => ?_)
set_option maxHeartbeats 8000000 in
set_option maxRecDepth 100000 in
theorem spec_DrawGrounded.calls (k : Nat) (A0 : Option Addr) (c0 : Nat) (l0 : List Int) (r1 : Int) (r2 : List (List Int)) (w : World) (hr0 : Kd.C (Kd.int .u8) w A0 l0.length l0) (hc0 : l0.length ≤ c0) (h : spec_DrawGrounded.f k l0 = some (r1, r2)) :
  Calls Try.prog 66 #[.slice A0 l0.length c0] w fun e w' => ∃ v1_ : Value, e = .returned (.agg #[.int .i64 r1, v1_]) ∧ Kd.S (Kd.slice 3 (Kd.int .i64)) 25 w' w.heap.size (fun _ => True) v1_ r2 ∧ Below w.heap.size w w' := by
 have hu28 := Try.underlying28
 have HR0 := Aside0.mk hr0
 have HC0 := Aside0.mk hc0
 clear hr0 hc0
 have HB := Aside0.mk (Below.refl w.heap.size w)
 have H : ((spec_DrawIsGraph.f k l0).bind fun bt428 => (some (bt428.1, bt428.2))) = some (r1, r2) := h
 clear h
 replace H := Option.bind_eq_some_iff.mp H
 obtain ⟨⟨t428, t429⟩, A20, H⟩ := H
 try dsimp only at H
 have A2 := Aside0.mk A20
 clear A20
 simp only [Option.some.injEq, Prod.mk.injEq] at H
 obtain ⟨rfl, rfl⟩ := H
 go_enter Try.func66, Try.ntmps66
 go_wp2_with (first | ((with_reducible refine gate_dst (N := 2) rfl ?_); refine box_event ?hg (N := 2) ?hd (cs := #[.int .i64 0, .slice none 0 0]) (t := 28) ?hr ?_; (case hd => rfl); (case hg => rfl); (case hr => first | (go_simp; done) | (go_simp; rfl)); intro gb427 hg w3 hbox hb; have n0_ := Aside0.mk (below_step (mB HB.out) hb); have n1_ := Aside0.mk (hbox); have n2_ := Aside0.mk ((by rw [hg]; exact (below_size (mB HB.out)) : w.heap.size ≤ gb427)); have n3_ := Aside0.mk ((by rw [hg]; exact (below_size (mB HB.out)) : w.heap.size ≤ gb427)); clear HB; have HB := n0_; have BK427 := n1_; have GW427 := n2_; have GE427 := n3_; clear n0_ n1_ n2_ n3_; clear hb hbox hg) | ((with_reducible refine gate_callee (f := 103) rfl ?_); refine goesL_ (some 4) rfl rfl Try.func103 (by kernel_rfl) rfl #[.slice A0 l0.length c0] rfl mA ?_; (with_reducible refine (spec_DrawIsGraph.calls k _ _ l0 t428 t429 _ ?side1 ?side2 A2.out).mono ?_); (case side1 => exact mC (Kd.C_below HR0.out HB.out)); (case side2 => exact HC0.out); rintro e w4 ⟨v430, rfl, ho0, hb⟩; refine ⟨_, rfl, ?_⟩; have n0_ := Aside0.mk (Kd.S_lower ho0 (below_size mG)); have n1_ := Aside0.mk (blk_below (g := gb427) (o := .cells #[.int .i64 0, .slice none 0 0] 28 (0, 0)) ((mK (BK427.out))) hb); have n2_ := Aside0.mk (below_step mG hb); clear BK427 HB; have HO431 := n0_; have BK427 := n1_; have HB := n2_; clear n0_ n1_ n2_; (try clear hb); (try clear ho0); have hcz5_0 : w4.cell? ⟨gb427, 0, none⟩ = some (.int .i64 0) := (blk_cell BK427.out 0).trans rfl; have hcz5_1 : w4.cell? ⟨gb427, 1, none⟩ = some (.slice none 0 0) := (blk_cell BK427.out 1).trans rfl; have hfz5_0 := blk_frozen BK427.out 0; have hfz5_1 := blk_frozen BK427.out 1; obtain ⟨Ao6, co6, eo6⟩ := Kd.S_slice HO431.out; subst eo6))
 refine bodyPost_ret (results_cell_row rfl _ _ gb427 28 #[.int .i64 t428, .slice Ao6 t429.length co6] (0, 0) _ rfl (by refine pK ?_; refine blk_put (cs := #[.int .i64 t428, .slice none 0 0]) ?_ 1 _ rfl; refine pK ?_; refine blk_put (cs := #[.int .i64 0, .slice none 0 0]) ?_ 0 _ rfl; refine pK ?_; exact BK427.out) Try.underlying28 rfl (by kernel_rfl)) rfl ?_
 exact ⟨_, mE, by (with_reducible repeat (first | apply Kd.S_alloc | apply Kd.S_drewN | apply Kd.S_drew)); exact Kd.S_mono (Kd.S_far (p := ⟨gb427, 1, none⟩) (Kd.S_far (p := ⟨gb427, 0, none⟩) (Kd.S_types HO431.out BK427.out (by decide)) (fun _ hk => hk.2) (.int .i64 t428)) (fun _ hk => hk.2) (.slice Ao6 t429.length co6)) (fun _ hk => trivial), mG⟩

/-! ### spec_l4Has: function 79 -/
def spec_l4Has.l0 : Nat → List Int → Int → Int → Option (Bool)
 | 0, _, _, _ => none
 | k + 1, x0, x1, x5 => if x5 < (x0.length : Int) then (if 0 ≤ x5 then (if (rd x0 x5) = x1 then (some true) else (spec_l4Has.l0 k x0 x1 (wrap64 (x5 + 1)))) else (none)) else (some false)
def spec_l4Has.f (k : Nat) (l0 : List Int) (a1 : Int) : Option (Bool) := spec_l4Has.l0 k l0 a1 0
theorem spec_l4Has.mono_l : ∀ k, (∀ y0 y1 y2, LeO (spec_l4Has.l0 k y0 y1 y2) (spec_l4Has.l0 (k + 1) y0 y1 y2))
 | 0 => fun _ _ _ r h => by simp [spec_l4Has.l0] at h
 | k + 1 => by
  have ih0 := spec_l4Has.mono_l k
  ·
   intro y0 y1 y2
   unfold spec_l4Has.l0
   repeat' with_reducible first | exact ih0 _ _ _ | exact LeO.refl _ | exact LeO.none _ | refine LeO.ite ?_ ?_ | refine LeO.bind ?_ (fun _ => ?_)
theorem spec_l4Has.mono : ∀ a0 a1 k, LeO (spec_l4Has.f k a0 a1) (spec_l4Has.f (k + 1) a0 a1) := by
 intro a0 a1 k
 have ih0 := spec_l4Has.mono_l k
 unfold spec_l4Has.f
 repeat' with_reducible first | exact ih0 _ _ _ | exact LeO.refl _ | exact LeO.none _ | refine LeO.ite ?_ ?_ | refine LeO.bind ?_ (fun _ => ?_)
set_option maxHeartbeats 8000000 in
set_option maxRecDepth 100000 in
theorem spec_l4Has.calls (k : Nat) (A0 : Option Addr) (c0 : Nat) (l0 : List Int) (a1 : Int) (r : Bool) (w : World) (hr0 : Kd.C (Kd.int .i64) w A0 l0.length l0) (hc0 : l0.length ≤ c0) (h : spec_l4Has.f k l0 a1 = some r) :
  Calls Try.prog 79 #[.slice A0 l0.length c0, .int .i64 a1] w fun e w' => e = .returned (.bool r) ∧ Drawn0 w w' := by
 have HR0 := Aside0.mk hr0
 have HC0 := Aside0.mk hc0
 clear hr0 hc0
 have H : (spec_l4Has.l0 k l0 a1 0) = some r := h
 clear h
 have H' := Aside0.mk H
 clear H
 go_enter Try.func79, Try.ntmps79
 go_wp2
 go_loopg [5] k (fun kq v5 w' => ∃ (x5_1 : Int), v5 = .int .i64 x5_1 ∧ Aside0 (spec_l4Has.l0 kq l0 a1 x5_1 = some r) ∧ Aside0 (kq ≤ k) ∧ Drawn0 w w')
 case atStart => exact ⟨(0), mF, H', ⟨Nat.le_refl _⟩, by repeat (first | exact Drawn0.refl _ | apply Drawn0.step)⟩
 case round =>
  clear H'
  obtain ⟨x5_1, rfl, HA, HK1, ⟨m1, rfl⟩⟩ := hrel
  cases gk with
  | zero => exact absurd HA.out (by simp [spec_l4Has.l0])
  | succ k1 =>
   have H := HA.out
   clear HA
   simp only [spec_l4Has.l0] at H
   by_cases c3 : x5_1 < (l0.length : Int)
   rotate_left
   ·
    rw [if_neg c3] at H
    have c3b0 : decide (x5_1 < (l0.length : Int)) = false := decide_eq_false c3
    clear c3
    obtain rfl := Option.some.inj H
    go_wp2
    go_ret
    exact ⟨mF, by repeat (first | exact Drawn0.refl _ | apply Drawn0.step)⟩
   rw [if_pos c3] at H
   have c3b0 : decide (x5_1 < (l0.length : Int)) = true := decide_eq_true c3
   clear c3
   by_cases c4 : 0 ≤ x5_1
   rotate_left
   ·
    rw [if_neg c4] at H
    exact absurd H (by simp)
   rw [if_pos c4] at H
   have c4b0 : decide (0 ≤ x5_1) = true := decide_eq_true c4
   clear c4
   by_cases c5 : (rd l0 x5_1) = a1
   ·
    rw [if_pos c5] at H
    have c5b0 : ((rd l0 x5_1) == a1) = true := beq_iff_eq.mpr c5
    have c5b1 : ((rd l0 x5_1) != a1) = false := bne_eq_false_iff_eq.mpr c5
    clear c5
    obtain rfl := Option.some.inj H
    have p432 : 0 ≤ (x5_1 : Int) := mD
    have q432 : x5_1 < (l0.length : Int) := mD
    obtain ⟨ad432, e432, hx432_0⟩ := Kd.at_int HR0.out x5_1 p432 q432
    cases e432
    replace p432 := eq_true p432
    replace q432 := eq_true q432
    go_wp2
    go_ret
    exact ⟨mF, by repeat (first | exact Drawn0.refl _ | apply Drawn0.step)⟩
   rw [if_neg c5] at H
   have c5b0 : ((rd l0 x5_1) == a1) = false := beq_eq_false_iff_ne.mpr c5
   have c5b1 : ((rd l0 x5_1) != a1) = true := bne_iff_ne.mpr c5
   have H' := Aside0.mk H
   clear H
   have p432 : 0 ≤ (x5_1 : Int) := mD
   have q432 : x5_1 < (l0.length : Int) := mD
   obtain ⟨ad432, e432, hx432_0⟩ := Kd.at_int HR0.out x5_1 p432 q432
   cases e432
   replace p432 := eq_true p432
   replace q432 := eq_true q432
   go_wp2
   go_roundg k1
   case measure => have := HK1.out; omega
   case rel => exact ⟨(wrap64 (x5_1 + 1)), mF, H', ⟨by have := HK1.out; omega⟩, by repeat (first | exact Drawn0.refl _ | apply Drawn0.step)⟩
end Go.Proofs.Ytelkfhlnejlheaa.GFnGrounded
