-- Written by gprint.py, a program of this session, with the printer of the kit as its library. Lean checks it.
import Derived.Test.YtelkfhlnejlheaaGFnFreex0
import Derived.Test.YtelkfhlnejlheaaGFnFreex8
import Derived.Test.YtelkfhlnejlheaaGFnFreex10
namespace Go.Proofs.Ytelkfhlnejlheaa.GFnFree
open Go.RowKit Go.Proofs.YtelkfhlnejlheaaW.PrintWords Go.Proofs.YtelkfhlnejlheaaW.PrintLast Go.Proofs.YtelkfhlnejlheaaW.PrintMore
attribute [local go_sem] max2_int min2_int max_two min_two max_three min_three max_four min_four   -- for this text's walks alone
set_option linter.unusedVariables false
set_option linter.unusedSimpArgs false

/-! ### spec_l4Draw: function 121 -/
def spec_l4Draw.l0 : Nat → Int → List Int → Int → Int → Int → List (List Int) → Option (Int × (List (List Int)) × Int × Int)
 | 0, _, _, _, _, _, _ => none
 | k + 1, x4, x1000, x1001, x1002, x384000, x384001 => if x4 > 0 then ((spec_l1Below.f x1000 x1001 x1002 x384000).bind fun bt387 => ((spec_l1Below.f x1000 bt387.2.1 bt387.2.2 x384000).bind fun bt390 => ((spec_AddAttack.f k x384000 x384001 bt387.1 bt390.1).bind fun bt393 => (spec_l4Draw.l0 k (wrap64 (x4 - 1)) x1000 bt390.2.1 bt390.2.2 bt393.1 bt393.2.1)))) else (some (x384000, x384001, x1001, x1002))
def spec_l4Draw.f (k : Nat) (s0_0 : List Int) (s0_1 : Int) (s0_2 : Int) : Option (Int × (List (List Int)) × Int × Int) := (spec_l1Below.f s0_0 s0_1 s0_2 6).bind fun bt380 => ((spec_l1Below.f s0_0 bt380.2.1 bt380.2.2 10).bind fun bt384 => (spec_l4Draw.l0 k bt384.1 s0_0 bt384.2.1 bt384.2.2 (wrap64 (1 + bt380.1)) ([] : List (List Int))))
theorem spec_l4Draw.mono_l : ∀ k, (∀ y0 y1 y2 y3 y4 y5, LeO (spec_l4Draw.l0 k y0 y1 y2 y3 y4 y5) (spec_l4Draw.l0 (k + 1) y0 y1 y2 y3 y4 y5))
 | 0 => fun _ _ _ _ _ _ r h => by simp [spec_l4Draw.l0] at h
 | k + 1 => by
  have ih0 := spec_l4Draw.mono_l k
  ·
   intro y0 y1 y2 y3 y4 y5
   unfold spec_l4Draw.l0
   repeat' with_reducible first | exact ih0 _ _ _ _ _ _ | exact spec_AddAttack.mono _ _ _ _ _ | exact LeO.refl _ | exact LeO.none _ | refine LeO.ite ?_ ?_ | refine LeO.bind ?_ (fun _ => ?_)
theorem spec_l4Draw.mono : ∀ a0 a1 a2 k, LeO (spec_l4Draw.f k a0 a1 a2) (spec_l4Draw.f (k + 1) a0 a1 a2) := by
 intro a0 a1 a2 k
 have ih0 := spec_l4Draw.mono_l k
 unfold spec_l4Draw.f
 repeat' with_reducible first | exact ih0 _ _ _ _ _ _ | exact spec_AddAttack.mono _ _ _ _ _ | exact LeO.refl _ | exact LeO.none _ | refine LeO.ite ?_ ?_ | refine LeO.bind ?_ (fun _ => ?_)
def spec_l4Draw.T5 : Bool × List (List Nat × List Nat) := (true, [([], []), ([], []), ([], []), ([2], [2]), ([1, 3], [1, 3]), ([], []), ([], []), ([6], [6]), ([5, 7, 4], [5, 7]), ([0, 4, 8, 8], [0, 4, 8]), ([9], [9]), ([10], [10]), ([10], [10]), ([11, 9, 0, 1, 2, 3, 4, 5, 6, 7, 8, 9, 10, 11], [11])])
def spec_l4Draw.B5 : List Nat := [0, 0, 0, 4, 14, 0, 0, 64, 254, 511, 1023, 2047, 2047, 4095]
theorem spec_l4Draw.tab5 : rtab .any (opsOf Try.f121 5) = spec_l4Draw.T5 := by kernel_rfl
theorem spec_l4Draw.bits5 : waitsOk spec_l4Draw.T5.2 spec_l4Draw.B5 = true := by kernel_rfl
set_option maxHeartbeats 8000000 in
set_option maxRecDepth 100000 in
theorem spec_l4Draw.calls (k : Nat) (g : Nat) (s0_0 : List Int) (s0_1 : Int) (s0_2 : Int) (r1 : Int) (r2 : List (List Int)) (r3 : Int) (r4 : Int) (w0 w : World) (hI : IsS88 w0 w g s0_0 s0_1 s0_2) (hB : Below w0.heap.size w0 w) (h : spec_l4Draw.f k s0_0 s0_1 s0_2 = some (r1, r2, r3, r4)) :
  Calls Try.prog 121 #[.pointer (some ⟨g, 0, none⟩)] w fun e w' => ∃ v1_ : Value, e = .returned (.agg #[.int .i64 r1, v1_]) ∧ Kd.S (Kd.slice 3 (Kd.int .i64)) 25 w' w.heap.size (fun _ => True) v1_ r2 ∧ IsS88 w0 w' g s0_0 r3 r4 ∧ Below w0.heap.size w0 w' ∧ KeepBut w w' g none := by
 have hu28 := Try.underlying28
 have HI0 := Aside0.mk hI
 have HK := Aside0.mk (KeepBut.refl w g none)
 have HL := Aside0.mk hB.size
 clear hI
 have HW0 := Aside0.mk hB.size
 have HB := Aside0.mk hB
 clear hB
 have H : ((spec_l1Below.f s0_0 s0_1 s0_2 6).bind fun bt380 => ((spec_l1Below.f s0_0 bt380.2.1 bt380.2.2 10).bind fun bt384 => (spec_l4Draw.l0 k bt384.1 s0_0 bt384.2.1 bt384.2.2 (wrap64 (1 + bt380.1)) ([] : List (List Int))))) = some (r1, r2, r3, r4) := h
 clear h
 replace H := Option.bind_eq_some_iff.mp H
 obtain ⟨⟨t380, t381, t382⟩, A20, H⟩ := H
 try dsimp only at H
 have A2 := Aside0.mk A20
 clear A20
 replace H := Option.bind_eq_some_iff.mp H
 obtain ⟨⟨t384, t385, t386⟩, A30, H⟩ := H
 try dsimp only at H
 have A3 := Aside0.mk A30
 clear A30
 have H' := Aside0.mk H
 clear H
 go_enter Try.func121, Try.ntmps121
 go_wp2_with (first | ((with_reducible refine gate_dst (N := 2) rfl ?_); refine box_event ?hg (N := 2) ?hd (cs := #[.int .i64 0, .slice none 0 0]) (t := 28) ?hr ?_; (case hd => rfl); (case hg => rfl); (case hr => first | (go_simp; done) | (go_simp; rfl)); intro gb379 hg w4 hbox hb; have n0_ := Aside0.mk (IsS88.below (mI) hb); have n1_ := Aside0.mk (KeepBut.trans (mq HK.out) (KeepBut.of_below hb g none) (.inl rfl)); have n2_ := Aside0.mk (below_step (mJ) hb); have n3_ := Aside0.mk (hbox); have n4_ := Aside0.mk ((by rw [hg]; exact (keep_size (w := w) (g := g) (row := none) (mQ)) : w.heap.size ≤ gb379)); have n5_ := Aside0.mk ((Nat.le_trans HW0.out (by rw [hg]; exact (keep_size (w := w) (g := g) (row := none) (mQ)) : w.heap.size ≤ gb379) : w0.heap.size ≤ gb379)); have n6_ := Aside0.mk ((by rw [hg]; exact Nat.ne_of_lt (IsS88.lt (show IsS88 w0 _ g s0_0 s0_1 s0_2 from mI)) : g ≠ gb379)); have n7_ := Aside0.mk ((by rw [hg]; exact Nat.ne_of_gt (IsS88.lt (show IsS88 w0 _ g s0_0 s0_1 s0_2 from mI)) : gb379 ≠ g)); clear HI0 HK HB; have HI0 := n0_; have HK := n1_; have HB := n2_; have BK379 := n3_; have GW379 := n4_; have GE379 := n5_; have NB0_379 := n6_; have NB379_0 := n7_; clear n0_ n1_ n2_ n3_ n4_ n5_ n6_ n7_; clear hb hbox hg) | ((with_reducible refine gate_callee (f := 116) rfl ?_); refine goesL_ (some 6) rfl rfl Try.func116 (by kernel_rfl) rfl #[.pointer (some ⟨g, 0, none⟩), .int .i64 6] rfl mA ?_; (with_reducible refine (spec_l1Below.calls g s0_0 s0_1 s0_2 6 t380 t381 t382 w0 _ ?side1 ?side2 A2.out).mono ?_); (case side1 => repeat (first | (with_reducible first | exact HI0.out | apply IsS88.alloc | apply IsS88.drewN | apply IsS88.drew | apply IsS88.set_1 | apply IsS88.set_2 | refine IsS88.far ?_ NB0_379.out _) | exact HI0.out)); (case side2 => repeat (first | (with_reducible first | exact HB.out | apply below_alloc | apply pw_below_drewN | apply below_drew1 | refine below_set ?_ (IsS88.ge HI0.out) | refine below_set ?_ GE379.out) | exact HB.out)); rintro e w5 ⟨rfl, hi, hb, hk⟩; refine ⟨_, rfl, ?_⟩; have n0_ := Aside0.mk (KeepBut.blk hk (g' := gb379) (o := .cells #[.int .i64 0, .slice none 0 0] 28 (0, 0)) ((mK (BK379.out))) NB379_0.out (by simp)); have n1_ := Aside0.mk (KeepBut.trans (mq HK.out) hk (.inl rfl)); have n2_ := Aside0.mk (hb); have n3_ := Aside0.mk (hi); clear BK379 HK HB HI0; have BK379 := n0_; have HK := n1_; have HB := n2_; have HI0 := n3_; clear n0_ n1_ n2_ n3_; (try clear hb)) | ((with_reducible refine gate_dst (N := 3) rfl ?_); refine box_event ?hg (N := 3) ?hd (cs := #[.int .i64 0, .slice none 0 0]) (t := 28) ?hr ?_; (case hd => rfl); (case hg => rfl); (case hr => first | (go_simp; done) | (go_simp; rfl)); intro gb383 hg w6 hbox hb; have n0_ := Aside0.mk (IsS88.below (mI) hb); have n1_ := Aside0.mk (blk_below (g := gb379) (o := .cells #[.int .i64 0, .slice none 0 0] 28 (0, 0)) ((mK (BK379.out))) hb); have n2_ := Aside0.mk (KeepBut.trans (mq HK.out) (KeepBut.of_below hb g none) (.inl rfl)); have n3_ := Aside0.mk (below_step (mJ) hb); have n4_ := Aside0.mk (hbox); have n5_ := Aside0.mk ((by rw [hg]; exact (keep_size (w := w) (g := g) (row := none) (mQ)) : w.heap.size ≤ gb383)); have n6_ := Aside0.mk ((Nat.le_trans HW0.out (by rw [hg]; exact (keep_size (w := w) (g := g) (row := none) (mQ)) : w.heap.size ≤ gb383) : w0.heap.size ≤ gb383)); have n7_ := Aside0.mk ((by rw [hg]; exact Nat.ne_of_lt (blk_lt (g := gb379) (o := .cells #[.int .i64 0, .slice none 0 0] 28 (0, 0)) ((mK (BK379.out)))) : gb379 ≠ gb383)); have n8_ := Aside0.mk ((by rw [hg]; exact Nat.ne_of_gt (blk_lt (g := gb379) (o := .cells #[.int .i64 0, .slice none 0 0] 28 (0, 0)) ((mK (BK379.out)))) : gb383 ≠ gb379)); have n9_ := Aside0.mk ((by rw [hg]; exact Nat.ne_of_lt (IsS88.lt (show IsS88 w0 _ g s0_0 t381 t382 from mI)) : g ≠ gb383)); have n10_ := Aside0.mk ((by rw [hg]; exact Nat.ne_of_gt (IsS88.lt (show IsS88 w0 _ g s0_0 t381 t382 from mI)) : gb383 ≠ g)); clear HI0 BK379 HK HB; have HI0 := n0_; have BK379 := n1_; have HK := n2_; have HB := n3_; have BK383 := n4_; have GW383 := n5_; have GE383 := n6_; have NB379_383 := n7_; have NB383_379 := n8_; have NB0_383 := n9_; have NB383_0 := n10_; clear n0_ n1_ n2_ n3_ n4_ n5_ n6_ n7_ n8_ n9_ n10_; clear hb hbox hg; have hnb7 := NB383_379.out; have hnc7 := NB379_383.out; have hnb8 := NB383_0.out; have hnc8 := NB0_383.out; have hcz9_0 : w6.cell? ⟨gb383, 0, none⟩ = some (.int .i64 0) := (blk_cell BK383.out 0).trans rfl; have hcz9_1 : w6.cell? ⟨gb383, 1, none⟩ = some (.slice none 0 0) := (blk_cell BK383.out 1).trans rfl; have hfz9_0 := blk_frozen BK383.out 0; have hfz9_1 := blk_frozen BK383.out 1) | ((with_reducible refine gate_callee (f := 116) rfl ?_); refine goesL_ (some 10) rfl rfl Try.func116 (by kernel_rfl) rfl #[.pointer (some ⟨g, 0, none⟩), .int .i64 10] rfl mA ?_; (with_reducible refine (spec_l1Below.calls g s0_0 t381 t382 10 t384 t385 t386 w0 _ ?side1 ?side2 A3.out).mono ?_); (case side1 => repeat (first | (with_reducible first | exact HI0.out | apply IsS88.alloc | apply IsS88.drewN | apply IsS88.drew | apply IsS88.set_1 | apply IsS88.set_2 | refine IsS88.far ?_ NB0_379.out _ | refine IsS88.far ?_ NB0_383.out _) | exact HI0.out)); (case side2 => repeat (first | (with_reducible first | exact HB.out | apply below_alloc | apply pw_below_drewN | apply below_drew1 | refine below_set ?_ (IsS88.ge HI0.out) | refine below_set ?_ GE379.out | refine below_set ?_ GE383.out) | exact HB.out)); rintro e w10 ⟨rfl, hi, hb, hk⟩; refine ⟨_, rfl, ?_⟩; have n0_ := Aside0.mk (KeepBut.blk hk (g' := gb379) (o := .cells #[.int .i64 0, .slice none 0 0] 28 (0, 0)) (by refine pK ?_; refine blk_far ?_ NB379_383.out _; refine pK ?_; refine blk_far ?_ NB379_383.out _; refine pK ?_; exact BK379.out) NB379_0.out (by simp)); have n1_ := Aside0.mk (KeepBut.blk hk (g' := gb383) (o := .cells #[.int .i64 (wrap64 (1 + t380)), .slice none 0 0] 28 (0, 0)) (by refine pK ?_; refine blk_put (cs := #[.int .i64 (wrap64 (1 + t380)), .slice none 0 0]) ?_ 1 _ rfl; refine pK ?_; refine blk_put (cs := #[.int .i64 0, .slice none 0 0]) ?_ 0 _ rfl; refine pK ?_; exact BK383.out) NB383_0.out (by simp)); have n2_ := Aside0.mk (KeepBut.trans (mq HK.out) hk (.inl rfl)); have n3_ := Aside0.mk (hb); have n4_ := Aside0.mk (hi); clear BK379 BK383 HK HB HI0; have BK379 := n0_; have BK383 := n1_; have HK := n2_; have HB := n3_; have HI0 := n4_; clear n0_ n1_ n2_ n3_ n4_; (try clear hb)))
 go_loopg [4] k (fun kq v4 w' => ∃ (x4_1 : Int) (x1001_1 : Int) (x1002_1 : Int) (x384000_1 : Int) (x384001_1 : List (List Int)) (u384001 : Value), v4 = .int .i64 x4_1 ∧ Aside0 (spec_l4Draw.l0 kq x4_1 s0_0 x1001_1 x1002_1 x384000_1 x384001_1 = some (r1, r2, r3, r4)) ∧ Aside0 (kq ≤ k) ∧ Aside0 (Kd.S (Kd.slice 3 (Kd.int .i64)) 25 w' w.heap.size (fun _ => True) u384001 x384001_1) ∧ Aside0 (w'.heap[gb379]? = some (.cells #[.int .i64 0, (.slice none 0 0)] 28 (0, 0))) ∧ Aside0 (w'.heap[gb383]? = some (.cells #[.int .i64 x384000_1, u384001] 28 (0, 0))) ∧ Aside0 (IsS88 w0 w' g s0_0 x1001_1 x1002_1) ∧ Aside0 (KeepBut w w' g none) ∧ Aside0 (Below w0.heap.size w0 w'))
 case atStart => exact ⟨(t384), (t385), (t386), (wrap64 (1 + t380)), (([] : List (List Int))), (.slice none 0 0), mF, H', ⟨Nat.le_refl _⟩, ⟨by first | exact Kd.S_nil _ _ _ _ _ | exact Kd.N_nil _ _ _ _ _ | exact Kd.V_nil _ _ _ _ _ | exact Kd.Q_nil _ _ _ _ _ | exact Kd.R_nil _ _ _ _ _⟩, ⟨(mK (BK379.out))⟩, ⟨(mK (BK383.out))⟩, ⟨mI⟩, ⟨mQ⟩, ⟨mJ⟩⟩
 case round =>
  clear H'
  (try clear hcz9_0); (try clear hcz9_1); (try clear hfz9_0); (try clear hfz9_1)
  obtain ⟨x4_1, x1001_1, x1002_1, x384000_1, x384001_1, u384001, rfl, HA, HK1, HO_384001, BK379, BK383, HI0, HK, HB⟩ := hrel
  cases gk with
  | zero => exact absurd HA.out (by simp [spec_l4Draw.l0])
  | succ k1 =>
   have H := HA.out
   clear HA
   simp only [spec_l4Draw.l0] at H
   by_cases c11 : x4_1 > 0
   rotate_left
   ·
    rw [if_neg c11] at H
    have c11b0 : decide (0 < x4_1) = false := decide_eq_false c11
    clear c11
    simp only [Option.some.injEq, Prod.mk.injEq] at H
    obtain ⟨rfl, rfl, rfl, rfl⟩ := H
    have hnb23 := NB383_379.out
    have hnc23 := NB379_383.out
    have hnb24 := NB383_0.out
    have hnc24 := NB0_383.out
    have hcz25_0 : wr.cell? ⟨gb383, 0, none⟩ = some (.int .i64 x384000_1) := (blk_cell BK383.out 0).trans rfl
    have hcz25_1 : wr.cell? ⟨gb383, 1, none⟩ = some (u384001) := (blk_cell BK383.out 1).trans rfl
    have hfz25_0 := blk_frozen BK383.out 0
    have hfz25_1 := blk_frozen BK383.out 1
    have hnb26 := NB379_0.out
    have hnc26 := NB0_379.out
    have hcz27_0 : wr.cell? ⟨gb379, 0, none⟩ = some (.int .i64 0) := (blk_cell BK379.out 0).trans rfl
    have hcz27_1 : wr.cell? ⟨gb379, 1, none⟩ = some (.slice none 0 0) := (blk_cell BK379.out 1).trans rfl
    have hfz27_0 := blk_frozen BK379.out 0
    have hfz27_1 := blk_frozen BK379.out 1
    obtain ⟨Ao28, co28, eo28⟩ := Kd.S_slice HO_384001.out
    subst eo28
    go_wp2
    refine bodyPost_ret (results_cell_row rfl _ _ gb379 28 #[.int .i64 x384000_1, .slice Ao28 x384001_1.length co28] (0, 0) _ rfl (by refine pK ?_; refine blk_put (cs := #[.int .i64 x384000_1, .slice none 0 0]) ?_ 1 _ rfl; refine pK ?_; refine blk_put (cs := #[.int .i64 0, .slice none 0 0]) ?_ 0 _ rfl; refine pK ?_; exact BK379.out) Try.underlying28 rfl (by kernel_rfl)) rfl ?_
    exact ⟨_, mE, by (with_reducible repeat (first | apply Kd.S_alloc | apply Kd.S_drewN | apply Kd.S_drew)); exact Kd.S_mono (Kd.S_far (p := ⟨gb379, 1, none⟩) (Kd.S_far (p := ⟨gb379, 0, none⟩) (Kd.S_types HO_384001.out BK379.out (by decide)) (fun _ hk => hk.2) (.int .i64 x384000_1)) (fun _ hk => hk.2) (.slice Ao28 x384001_1.length co28)) (fun _ hk => trivial), mI, mJ, mQ⟩
   rw [if_pos c11] at H
   have c11b0 : decide (0 < x4_1) = true := decide_eq_true c11
   clear c11
   replace H := Option.bind_eq_some_iff.mp H
   obtain ⟨⟨t387, t388, t389⟩, A120, H⟩ := H
   try dsimp only at H
   have A12 := Aside0.mk A120
   clear A120
   replace H := Option.bind_eq_some_iff.mp H
   obtain ⟨⟨t390, t391, t392⟩, A130, H⟩ := H
   try dsimp only at H
   have A13 := Aside0.mk A130
   clear A130
   replace H := Option.bind_eq_some_iff.mp H
   obtain ⟨⟨t393, t394, t397⟩, A140, H⟩ := H
   try dsimp only at H
   have A14 := Aside0.mk A140
   clear A140
   have H' := Aside0.mk H
   clear H
   try go_wp2
   have n0_ := Aside0.mk (Kd.S_drew HO_384001.out)
   have n1_ := Aside0.mk (blk_drew BK379.out)
   have n2_ := Aside0.mk (blk_drew BK383.out)
   have n3_ := Aside0.mk (IsS88.drew HI0.out)
   have n4_ := Aside0.mk (keep_drew HK.out)
   have n5_ := Aside0.mk (below_drew1 HB.out)
   clear HO_384001 BK379 BK383 HI0 HK HB; have HO_384001 := n0_; have BK379 := n1_; have BK383 := n2_; have HI0 := n3_; have HK := n4_; have HB := n5_; clear n0_ n1_ n2_ n3_ n4_ n5_
   refine start_ (n := 14) (S := fun w' => w'.cell? ⟨gb383, 0, none⟩ = some (.int .i64 x384000_1) ∧ w'.cell? ⟨gb383, 1, none⟩ = some (u384001)) (ds := [13]) (L_ 0 14) (by kernel_rfl) rfl rfl ⟨(blk_cell BK383.out 0).trans rfl, (blk_cell BK383.out 1).trans rfl⟩ (fun hHeld => ?_); refine with_tabW spec_l4Draw.tab5 spec_l4Draw.bits5 (fun HT_ HW_ => ?_)
   generalize wr.drew = w15 at HO_384001 BK379 BK383 HI0 HK HB hHeld ⊢
   refine ps 1 17 #[false, true, false, false, false, false, false, false, false, false, false, false, false, false] HT_.out ?_
   refine ps 2 18 #[false, true, true, false, false, false, false, false, false, false, false, false, false, false] HT_.out ?_
   refine ps 5 21 #[false, true, true, false, false, true, false, false, false, false, false, false, false, false] HT_.out ?_
   refine ps 6 22 #[false, true, true, false, false, true, true, false, false, false, false, false, false, false] HT_.out ?_
   refine take_ (i := 0) (N := some 16) (v := ?_) (a' := ?_) #[true, true, true, false, false, true, true, false, false, false, false, false, false, false] rfl rfl (take_ofW HT_.out HW_.out (by kernel_rfl)) (fun _ _ _ h => h) (Or.inl ⟨by rfl, ?_⟩) hHeld ?_ ?_
   rotate_left
   ·
    rintro w' ⟨s0, s1⟩
    go_simp
    with_reducible rfl
   rotate_left
   ·
    simp only [Act.put, List.setIfInBounds_toArray, List.set_cons_zero, List.set_cons_succ, i64_w, i32_w]
    rfl
   refine take_ (i := 3) (N := some 19) (v := ?_) (a' := ?_) #[true, true, true, true, false, true, true, false, false, false, false, false, false, false] rfl rfl (take_ofW HT_.out HW_.out (by kernel_rfl)) (fun _ _ _ h => h) (Or.inl ⟨by rfl, ?_⟩) hHeld ?_ ?_
   rotate_left
   ·
    rintro w' ⟨s0, s1⟩
    go_simp
    with_reducible rfl
   rotate_left
   ·
    simp only [Act.put, List.setIfInBounds_toArray, List.set_cons_zero, List.set_cons_succ, i64_w, i32_w]
    rfl
   refine take_ (i := 7) (N := some 23) (v := ?_) (a' := ?_) #[true, true, true, true, false, true, true, true, false, false, false, false, false, false] rfl rfl (take_ofW HT_.out HW_.out (by kernel_rfl)) (fun _ _ _ h => h) (Or.inl ⟨by rfl, ?_⟩) hHeld ?_ ?_
   rotate_left
   ·
    rintro w' ⟨s0, s1⟩
    go_simp
    with_reducible rfl
   rotate_left
   ·
    simp only [Act.put, List.setIfInBounds_toArray, List.set_cons_zero, List.set_cons_succ, i64_w, i32_w]
    rfl
   refine one_ (i := 4) (N := some 20) (L_ 8 14) rfl rfl (one_of HT_.out (by kernel_rfl)) (by decide) (fun K hK => ?_)
   refine goes_ Try.func116 (by kernel_rfl) rfl #[.pointer (some ⟨g, 0, none⟩), .int .i64 x384000_1] (by rfl) rfl rfl mA ?_
   with_reducible refine (spec_l1Below.calls g s0_0 x1001_1 x1002_1 x384000_1 t387 t388 t389 w0 _ ?side1 ?side2 A12.out).mono ?_
   (case side1 => repeat (first | (with_reducible first | exact HI0.out | apply IsS88.alloc | apply IsS88.drewN | apply IsS88.drew | apply IsS88.set_1 | apply IsS88.set_2 | refine IsS88.far ?_ NB0_379.out _ | refine IsS88.far ?_ NB0_383.out _) | exact HI0.out))
   (case side2 => repeat (first | (with_reducible first | exact HB.out | apply below_alloc | apply pw_below_drewN | apply below_drew1 | refine below_set ?_ (IsS88.ge HI0.out) | refine below_set ?_ GE379.out | refine below_set ?_ GE383.out) | exact HB.out))
   rintro e w16 ⟨rfl, hi, hb, hk⟩
   refine ⟨_, rfl, ?_⟩
   have n0_ := Aside0.mk (Kd.S_mono (Kd.S_keep (IsS88.apartS (show IsS88 w0 _ g s0_0 x1001_1 x1002_1 from mI) (mS HO_384001.out) (by decide)) hk (fun _ h => h.2)) (fun _ h => h.1))
   have n1_ := Aside0.mk (KeepBut.blk hk (g' := gb379) (o := .cells #[.int .i64 0, .slice none 0 0] 28 (0, 0)) ((mK (BK379.out))) NB379_0.out (by simp))
   have n2_ := Aside0.mk (KeepBut.blk hk (g' := gb383) (o := .cells #[.int .i64 x384000_1, u384001] 28 (0, 0)) ((mK (BK383.out))) NB383_0.out (by simp))
   have n3_ := Aside0.mk (KeepBut.trans (mq HK.out) hk (.inl rfl))
   have n4_ := Aside0.mk (hb)
   have n5_ := Aside0.mk (hi)
   clear HO_384001 BK379 BK383 HK HB HI0; have HO_384001 := n0_; have BK379 := n1_; have BK383 := n2_; have HK := n3_; have HB := n4_; have HI0 := n5_; clear n0_ n1_ n2_ n3_ n4_ n5_; (try clear hb)
   refine hK.out _ _ ⟨(blk_cell BK383.out 0).trans rfl, (blk_cell BK383.out 1).trans rfl⟩ (fun hHeld => ?_)
   clear hK K
   refine norm_ (a' := ?_) ?_ ?_
   rotate_left
   ·
    show Act.put _ (some 20) _ = _
    simp only [Act.put, List.setIfInBounds_toArray, List.set_cons_zero, List.set_cons_succ, i64_w, i32_w]
    rfl
   refine one_ (i := 8) (N := some 24) (L_ 9 14) rfl rfl (one_of HT_.out (by kernel_rfl)) (by decide) (fun K hK => ?_)
   refine goes_ Try.func116 (by kernel_rfl) rfl #[.pointer (some ⟨g, 0, none⟩), .int .i64 x384000_1] (by rfl) rfl rfl mA ?_
   with_reducible refine (spec_l1Below.calls g s0_0 t388 t389 x384000_1 t390 t391 t392 w0 _ ?side1 ?side2 A13.out).mono ?_
   (case side1 => repeat (first | (with_reducible first | exact HI0.out | apply IsS88.alloc | apply IsS88.drewN | apply IsS88.drew | apply IsS88.set_1 | apply IsS88.set_2 | refine IsS88.far ?_ NB0_379.out _ | refine IsS88.far ?_ NB0_383.out _) | exact HI0.out))
   (case side2 => repeat (first | (with_reducible first | exact HB.out | apply below_alloc | apply pw_below_drewN | apply below_drew1 | refine below_set ?_ (IsS88.ge HI0.out) | refine below_set ?_ GE379.out | refine below_set ?_ GE383.out) | exact HB.out))
   rintro e w17 ⟨rfl, hi, hb, hk⟩
   refine ⟨_, rfl, ?_⟩
   have n0_ := Aside0.mk (Kd.S_mono (Kd.S_keep (IsS88.apartS (show IsS88 w0 _ g s0_0 t388 t389 from mI) (mS HO_384001.out) (by decide)) hk (fun _ h => h.2)) (fun _ h => h.1))
   have n1_ := Aside0.mk (KeepBut.blk hk (g' := gb379) (o := .cells #[.int .i64 0, .slice none 0 0] 28 (0, 0)) ((mK (BK379.out))) NB379_0.out (by simp))
   have n2_ := Aside0.mk (KeepBut.blk hk (g' := gb383) (o := .cells #[.int .i64 x384000_1, u384001] 28 (0, 0)) ((mK (BK383.out))) NB383_0.out (by simp))
   have n3_ := Aside0.mk (KeepBut.trans (mq HK.out) hk (.inl rfl))
   have n4_ := Aside0.mk (hb)
   have n5_ := Aside0.mk (hi)
   clear HO_384001 BK379 BK383 HK HB HI0; have HO_384001 := n0_; have BK379 := n1_; have BK383 := n2_; have HK := n3_; have HB := n4_; have HI0 := n5_; clear n0_ n1_ n2_ n3_ n4_ n5_; (try clear hb)
   obtain ⟨Ao18, co18, eo18⟩ := Kd.S_slice HO_384001.out
   (first | subst eo18 | (injection eo18 with f1_ f2_ f3_; have f4_ := f1_.symm; have f5_ := f3_.symm; clear f1_ f2_ f3_; subst f4_; subst f5_))
   refine hK.out _ _ ⟨(blk_cell BK383.out 0).trans rfl, (blk_cell BK383.out 1).trans rfl⟩ (fun hHeld => ?_)
   clear hK K
   refine norm_ (a' := ?_) ?_ ?_
   rotate_left
   ·
    show Act.put _ (some 24) _ = _
    simp only [Act.put, List.setIfInBounds_toArray, List.set_cons_zero, List.set_cons_succ, i64_w, i32_w]
    rfl
   refine one_ (i := 9) (N := some 25) (L_ 10 14) rfl rfl (one_of HT_.out (by kernel_rfl)) (by decide) (fun K hK => ?_)
   refine goes_ Try.func143 (by kernel_rfl) rfl #[.agg #[.int .i64 x384000_1, .slice Ao18 x384001_1.length co18], .int .i64 t387, .int .i64 t390] (by rfl) rfl rfl mA ?_
   with_reducible refine (spec_AddAttack.calls k1 x384000_1 _ _ x384001_1 t387 t390 t393 t394 t397 _ ?side1 ?side2 A14.out).mono ?_
   (case side1 => exact mC (Kd.S_reads' HO_384001.out).2.2)
   (case side2 => exact (Kd.S_reads' HO_384001.out).2.1)
   rintro e w19 ⟨v395, rfl, ho0, hb⟩
   refine ⟨_, rfl, ?_⟩
   have n0_ := Aside0.mk (Kd.S_elder' (mS HO_384001.out) (Kd.S_base ho0) hb)
   have n1_ := Aside0.mk (Kd.S_lower (Kd.S_new' ho0 (Kd.S_lt (mS HO_384001.out))) (keep_size (w := w) (g := g) (row := none) (mQ)))
   have n2_ := Aside0.mk (blk_below (g := gb379) (o := .cells #[.int .i64 0, .slice none 0 0] 28 (0, 0)) ((mK (BK379.out))) hb)
   have n3_ := Aside0.mk (blk_below (g := gb383) (o := .cells #[.int .i64 x384000_1, .slice Ao18 x384001_1.length co18] 28 (0, 0)) ((mK (BK383.out))) hb)
   have n4_ := Aside0.mk (IsS88.below (mI) hb)
   have n5_ := Aside0.mk (KeepBut.trans (mq HK.out) (KeepBut.of_below hb g none) (.inl rfl))
   have n6_ := Aside0.mk (below_step (mJ) hb)
   clear HO_384001 BK379 BK383 HI0 HK HB; have HO_384001 := n0_; have HO396 := n1_; have BK379 := n2_; have BK383 := n3_; have HI0 := n4_; have HK := n5_; have HB := n6_; clear n0_ n1_ n2_ n3_ n4_ n5_ n6_; (try clear hb); (try clear ho0)
   obtain ⟨Ao21, co21, eo21⟩ := Kd.S_slice HO396.out
   (first | subst eo21 | (injection eo21 with f1_ f2_ f3_; have f4_ := f1_.symm; have f5_ := f3_.symm; clear f1_ f2_ f3_; subst f4_; subst f5_))
   refine hK.out _ _ ⟨(blk_cell BK383.out 0).trans rfl, (blk_cell BK383.out 1).trans rfl⟩ (fun hHeld => ?_)
   clear hK K
   refine norm_ (a' := ?_) ?_ ?_
   rotate_left
   ·
    show Act.put _ (some 25) _ = _
    simp only [Act.put, List.setIfInBounds_toArray, List.set_cons_zero, List.set_cons_succ, i64_w, i32_w]
    rfl
   refine ps 10 15 (L_ 11 14) HT_.out ?_
   refine ps 11 26 (L_ 12 14) HT_.out ?_
   refine ps 12 27 (L_ 13 14) HT_.out ?_
   refine last_ (i := 13) (N := none) (L_ 14 14) rfl rfl (one_of HT_.out (by kernel_rfl)) (by decide) (fun K hK => ?_)
   have hs20 : w19.cell? ⟨gb383, 0, none⟩ = some (.int .i64 x384000_1) := (blk_cell BK383.out 0).trans rfl
   have hfs20 := blk_frozen BK383.out 0
   have hns20_0 := NB379_383.out
   have hms20_0 := NB383_379.out
   have hs22 : w19.cell? ⟨gb383, 1, none⟩ = some (.slice Ao18 x384001_1.length co18) := (blk_cell BK383.out 1).trans rfl
   have hfs22 := blk_frozen BK383.out 1
   have hns22_0 := NB379_383.out
   have hms22_0 := NB383_379.out
   refine skip_ (w1 := ?_) (by rfl) rfl ?_ ?_
   rotate_left
   ·
    go_simp
    rfl
   refine hK.out _ _ ?_
   clear hK K
   refine done_ (done_of HT_.out (by kernel_rfl)) ?_
   try go_wp2
   go_roundg k1
   case measure => have := HK1.out; omega
   case rel => exact ⟨(wrap64 (x4_1 - 1)), (t391), (t392), (t393), (t394), (.slice Ao21 t394.length co21), mF, H', ⟨by have := HK1.out; omega⟩, ⟨by (with_reducible repeat (first | apply Kd.S_alloc | apply Kd.S_drewN | apply Kd.S_drew)); exact Kd.S_mono (Kd.S_far (p := ⟨gb383, 1, none⟩) (Kd.S_far (p := ⟨gb383, 0, none⟩) (Kd.S_types HO396.out BK383.out (by decide)) (fun _ hk => hk.2) (.int .i64 t393)) (fun _ hk => hk.2) (.slice Ao21 t394.length co21)) (fun _ hk => trivial)⟩, ⟨by refine pK ?_; refine blk_far ?_ NB379_383.out _; refine pK ?_; refine blk_far ?_ NB379_383.out _; refine pK ?_; exact BK379.out⟩, ⟨by refine pK ?_; refine blk_put (cs := #[.int .i64 t393, .slice Ao18 x384001_1.length co18]) ?_ 1 _ rfl; refine pK ?_; refine blk_put (cs := #[.int .i64 x384000_1, .slice Ao18 x384001_1.length co18]) ?_ 0 _ rfl; refine pK ?_; exact BK383.out⟩, ⟨mI⟩, ⟨mQ⟩, ⟨mJ⟩⟩
/-! ### spec_l1Int: function 139 -/
def spec_l1Int.f (s0_0 : List Int) (s0_1 : Int) (s0_2 : Int) (l1 : List Int) : Option (Int × Int × Int) := (spec_l1Below.f s0_0 s0_1 s0_2 (l1.length : Int)).bind fun bt398 => (if 0 ≤ bt398.1 then (if bt398.1 < (l1.length : Int) then (some (rd l1 bt398.1, bt398.2.1, bt398.2.2)) else (none)) else (none))
set_option maxHeartbeats 8000000 in
set_option maxRecDepth 100000 in
theorem spec_l1Int.calls (g : Nat) (s0_0 : List Int) (s0_1 : Int) (s0_2 : Int) (A1 : Option Addr) (c1 : Nat) (l1 : List Int) (r1 : Int) (r2 : Int) (r3 : Int) (w0 w : World) (hI : IsS88 w0 w g s0_0 s0_1 s0_2) (hB : Below w0.heap.size w0 w) (hr1 : Kd.C (Kd.int .i64) w A1 l1.length l1) (hc1 : l1.length ≤ c1) (hf1 : ∀ ad, A1 = some ad → 0 < l1.length → ad.block ≠ g) (h : spec_l1Int.f s0_0 s0_1 s0_2 l1 = some (r1, r2, r3)) :
  Calls Try.prog 139 #[.pointer (some ⟨g, 0, none⟩), .slice A1 l1.length c1] w fun e w' => e = .returned (.int .i64 r1) ∧ IsS88 w0 w' g s0_0 r2 r3 ∧ Below w0.heap.size w0 w' ∧ KeepBut w w' g none := by
 have HR1 := Aside0.mk hr1
 have HC1 := Aside0.mk hc1
 clear hr1 hc1
 have HI0 := Aside0.mk hI
 have HK := Aside0.mk (KeepBut.refl w g none)
 have HL := Aside0.mk hB.size
 clear hI
 have HW0 := Aside0.mk hB.size
 have HB := Aside0.mk hB
 clear hB
 have H : ((spec_l1Below.f s0_0 s0_1 s0_2 (l1.length : Int)).bind fun bt398 => (if 0 ≤ bt398.1 then (if bt398.1 < (l1.length : Int) then (some (rd l1 bt398.1, bt398.2.1, bt398.2.2)) else (none)) else (none))) = some (r1, r2, r3) := h
 clear h
 replace H := Option.bind_eq_some_iff.mp H
 obtain ⟨⟨t398, t399, t400⟩, A30, H⟩ := H
 try dsimp only at H
 have A3 := Aside0.mk A30
 clear A30
 by_cases c4 : 0 ≤ t398
 rotate_left
 ·
  rw [if_neg c4] at H
  exact absurd H (by simp)
 rw [if_pos c4] at H
 have c4b0 : decide (0 ≤ t398) = true := decide_eq_true c4
 clear c4
 by_cases c5 : t398 < (l1.length : Int)
 rotate_left
 ·
  rw [if_neg c5] at H
  exact absurd H (by simp)
 rw [if_pos c5] at H
 have c5b0 : decide (t398 < (l1.length : Int)) = true := decide_eq_true c5
 clear c5
 simp only [Option.some.injEq, Prod.mk.injEq] at H
 obtain ⟨rfl, rfl, rfl⟩ := H
 go_enter Try.func139, Try.ntmps139
 go_wp2_with (first | ((with_reducible refine gate_callee (f := 116) rfl ?_); refine goesL_ (some 9) rfl rfl Try.func116 (by kernel_rfl) rfl #[.pointer (some ⟨g, 0, none⟩), .int .i64 (l1.length : Int)] rfl mA ?_; (with_reducible refine (spec_l1Below.calls g s0_0 s0_1 s0_2 (l1.length : Int) t398 t399 t400 w0 _ ?side1 ?side2 A3.out).mono ?_); (case side1 => repeat (first | (with_reducible first | exact HI0.out | apply IsS88.alloc | apply IsS88.drewN | apply IsS88.drew | apply IsS88.set_1 | apply IsS88.set_2) | exact HI0.out)); (case side2 => repeat (first | (with_reducible first | exact HB.out | apply below_alloc | apply pw_below_drewN | apply below_drew1 | refine below_set ?_ (IsS88.ge HI0.out)) | exact HB.out)); rintro e w6 ⟨rfl, hi, hb, hk⟩; refine ⟨_, rfl, ?_⟩; have n0_ := Aside0.mk (KeepBut.trans (mq HK.out) hk (.inl rfl)); have n1_ := Aside0.mk (hb); have n2_ := Aside0.mk (hi); clear HK HB HI0; have HK := n0_; have HB := n1_; have HI0 := n2_; clear n0_ n1_ n2_; (try clear hb); have p401 : 0 ≤ (t398 : Int) := mD; have q401 : t398 < (l1.length : Int) := mD; obtain ⟨ad401, e401, hx401_0⟩ := Kd.at_int HR1.out t398 p401 q401; cases e401; replace hx401_0 := keep_cell HK.out hx401_0 (by first | (rw [add_block]; exact hf1 _ rfl (by omega)) | exact hf1 _ rfl (by omega) | exact hf1 ad401 rfl (by omega)); replace p401 := eq_true p401; replace q401 := eq_true q401))
 go_ret
 exact ⟨mE, mI, mJ, mQ⟩
/-! ### spec_l4Raw: function 122 -/
def spec_l4Raw.f (s0_0 : List Int) (s0_1 : Int) (s0_2 : Int) : Option (Int × Int × Int) := (spec_l1Int.f s0_0 s0_1 s0_2 (([(-1), 0, 5, 10, 11, 9223372036854775807, (-9223372036854775808)] : List Int))).bind fun bt405 => (some (bt405.1, bt405.2.1, bt405.2.2))
set_option maxHeartbeats 8000000 in
set_option maxRecDepth 100000 in
theorem spec_l4Raw.calls (g : Nat) (s0_0 : List Int) (s0_1 : Int) (s0_2 : Int) (r1 : Int) (r2 : Int) (r3 : Int) (w0 w : World) (hI : IsS88 w0 w g s0_0 s0_1 s0_2) (hB : Below w0.heap.size w0 w) (h : spec_l4Raw.f s0_0 s0_1 s0_2 = some (r1, r2, r3)) :
  Calls Try.prog 122 #[.pointer (some ⟨g, 0, none⟩)] w fun e w' => e = .returned (.int .i64 r1) ∧ IsS88 w0 w' g s0_0 r2 r3 ∧ Below w0.heap.size w0 w' ∧ KeepBut w w' g none := by
 have HI0 := Aside0.mk hI
 have HK := Aside0.mk (KeepBut.refl w g none)
 have HL := Aside0.mk hB.size
 clear hI
 have HW0 := Aside0.mk hB.size
 have HB := Aside0.mk hB
 clear hB
 have H : ((spec_l1Int.f s0_0 s0_1 s0_2 (([(-1), 0, 5, 10, 11, 9223372036854775807, (-9223372036854775808)] : List Int))).bind fun bt405 => (some (bt405.1, bt405.2.1, bt405.2.2))) = some (r1, r2, r3) := h
 clear h
 obtain ⟨y402, hy402⟩ : ∃ y_ : List Int, y_ = (([(-1), 0, 5, 10, 11, 9223372036854775807, (-9223372036854775808)] : List Int)) := ⟨_, rfl⟩
 replace H : ((spec_l1Int.f s0_0 s0_1 s0_2 y402).bind fun bt405 => (some (bt405.1, bt405.2.1, bt405.2.2))) = some (r1, r2, r3) := by first | (rw [hy402]; with_reducible exact H) | (have H2_ := (Option.bind_some _ _).symm.trans H; rw [hy402]; with_reducible exact H2_) | (have H2_ := (Option.bind_some _ _).symm.trans H; with_reducible exact H2_) | with_reducible exact H | (rw [hy402]; exact H) | exact H
 have Ny402 := Aside0.mk hy402
 clear hy402
 replace H := Option.bind_eq_some_iff.mp H
 obtain ⟨⟨t405, t406, t407⟩, A20, H⟩ := H
 try dsimp only at H
 have A2 := Aside0.mk A20
 clear A20
 simp only [Option.some.injEq, Prod.mk.injEq] at H
 obtain ⟨rfl, rfl, rfl⟩ := H
 go_enter Try.func122, Try.ntmps122
 go_wp2_with (first | ((with_reducible refine gate_dst (N := 4) rfl ?_); refine Kd.R_lit (Kd.int .i64) _ 3 ?hg (N := 4) ?hd (xs := ([(-1), 0, 5, 10, 11, 9223372036854775807, (-9223372036854775808)] : List Int)) (inner := [.int .i64 (-1), .int .i64 0, .int .i64 5, .int .i64 10, .int .i64 11, .int .i64 9223372036854775807, .int .i64 (-9223372036854775808)]) (ok := fun _ => True) (okp := fun _ => True) ?hr ?hp (fun _ hk => hk) trivial (Below.refl _ _) (Nat.le_refl _) (by simp) ?_; (case hd => rfl); (case hg => rfl); (case hr => first | (go_simp; done) | (go_simp; rfl)); (case hp => exact (Reps.one (show Kd.M (Kd.int .i64) _ _ _ (-1) [.int .i64 (-1)] from rfl) (Reps.one (show Kd.M (Kd.int .i64) _ _ _ 0 [.int .i64 0] from rfl) (Reps.one (show Kd.M (Kd.int .i64) _ _ _ 5 [.int .i64 5] from rfl) (Reps.one (show Kd.M (Kd.int .i64) _ _ _ 10 [.int .i64 10] from rfl) (Reps.one (show Kd.M (Kd.int .i64) _ _ _ 11 [.int .i64 11] from rfl) (Reps.one (show Kd.M (Kd.int .i64) _ _ _ 9223372036854775807 [.int .i64 9223372036854775807] from rfl) (Reps.one (show Kd.M (Kd.int .i64) _ _ _ (-9223372036854775808) [.int .i64 (-9223372036854775808)] from rfl) (Reps.none _ _))))))))); intro v403 w3 ho4 hb hg_ hnew_; clear hg_ hnew_; (first | rw [← Ny402.out] at ho4 | (simp only [Int.reduceToNat] at ho4; rw [← Ny402.out] at ho4)); have n0_ := Aside0.mk (Kd.R_lower ho4 (keep_size (w := w) (g := g) (row := none) (mQ))); have n1_ := Aside0.mk (IsS88.below (mI) hb); have n2_ := Aside0.mk (KeepBut.trans (mq HK.out) (KeepBut.of_below hb g none) (.inl rfl)); have n3_ := Aside0.mk (below_step (mJ) hb); clear HI0 HK HB; have HO404 := n0_; have HI0 := n1_; have HK := n2_; have HB := n3_; clear n0_ n1_ n2_ n3_; clear hb ho4; obtain ⟨Ao5, co5, eo5⟩ := Kd.R_slice HO404.out; subst eo5) | ((with_reducible refine gate_callee (f := 139) rfl ?_); refine goesL_ (some 5) rfl rfl Try.func139 (by kernel_rfl) rfl #[.pointer (some ⟨g, 0, none⟩), .slice Ao5 y402.length co5] rfl mA ?_; (with_reducible refine (spec_l1Int.calls g s0_0 s0_1 s0_2 _ _ y402 t405 t406 t407 w0 _ ?side1 ?side2 ?side3 ?side4 ?side5 A2.out).mono ?_); (case side1 => repeat (first | (with_reducible first | exact HI0.out | apply IsS88.alloc | apply IsS88.drewN | apply IsS88.drew | apply IsS88.set_1 | apply IsS88.set_2) | exact HI0.out)); (case side2 => repeat (first | (with_reducible first | exact HB.out | apply below_alloc | apply pw_below_drewN | apply below_drew1 | refine below_set ?_ (IsS88.ge HI0.out)) | exact HB.out)); (case side3 => exact mC (Kd.R_reads' HO404.out).2.2); (case side4 => exact (Kd.R_reads' HO404.out).2.1); (case side5 => exact far_slice (IsS88.own_ne HI0.out HO404.out (by decide))); rintro e w6 ⟨rfl, hi, hb, hk⟩; refine ⟨_, rfl, ?_⟩; have n0_ := Aside0.mk (Kd.R_mono (Kd.R_keep (IsS88.apart (show IsS88 w0 _ g s0_0 s0_1 s0_2 from mI) (mR HO404.out) (by decide)) hk (fun _ h => h.2)) (fun _ h => h.1)); have n1_ := Aside0.mk (KeepBut.trans (mq HK.out) hk (.inl rfl)); have n2_ := Aside0.mk (hb); have n3_ := Aside0.mk (hi); clear HO404 HK HB HI0; have HO404 := n0_; have HK := n1_; have HB := n2_; have HI0 := n3_; clear n0_ n1_ n2_ n3_; (try clear hb)))
 go_ret
 exact ⟨mE, mI, mJ, mQ⟩

/-! ### spec_l4Any: function 99 -/
def spec_l4Any.f (k : Nat) (s0_0 : List Int) (s0_1 : Int) (s0_2 : Int) : Option (Int × (List (List Int)) × Int × Int) := (spec_l4Draw.f k s0_0 s0_1 s0_2).bind fun bt409 => ((spec_l1Below.f s0_0 bt409.2.2.1 bt409.2.2.2 14).bind fun bt416 => (if bt416.1 = 0 then ((spec_l4Raw.f s0_0 bt416.2.1 bt416.2.2).bind fun bt419 => (some (bt419.1, bt409.2.1, bt419.2.1, bt419.2.2))) else (if bt416.1 = 1 then (if bt409.2.1.length < 5864062014805 then (some (bt409.1, (bt409.2.1 ++ [(([0] : List Int))]), bt416.2.1, bt416.2.2)) else (none)) else (if bt416.1 = 2 then ((spec_l1Below.f s0_0 bt416.2.1 bt416.2.2 7).bind fun bt428 => ((spec_l1Below.f s0_0 bt428.2.1 bt428.2.2 7).bind fun bt431 => (if bt409.2.1.length < 5864062014805 then (some (bt409.1, (bt409.2.1 ++ [(([bt428.1, bt431.1] : List Int))]), bt431.2.1, bt431.2.2)) else (none)))) else (some (bt409.1, bt409.2.1, bt416.2.1, bt416.2.2))))))
theorem spec_l4Any.mono : ∀ a0 a1 a2 k, LeO (spec_l4Any.f k a0 a1 a2) (spec_l4Any.f (k + 1) a0 a1 a2) := by
 intro a0 a1 a2 k
 unfold spec_l4Any.f
 repeat' with_reducible first | exact spec_l4Draw.mono _ _ _ _ | exact LeO.refl _ | exact LeO.none _ | refine LeO.ite ?_ ?_ | refine LeO.bind ?_ (fun _ => ?_)
def spec_l4Any.T8 : Bool × List (List Nat × List Nat) := (true, [([], []), ([0], [0]), ([], []), ([2], [2]), ([], []), ([4, 3], [4]), ([3, 5], [3, 5]), ([6], [6]), ([1, 7, 5], [1, 7]), ([0, 1, 2, 3, 4, 5, 6, 7, 8], []), ([9, 8, 8, 0, 1, 2, 3, 4, 5, 6, 7, 8], [8, 9])])
def spec_l4Any.B8 : List Nat := [0, 1, 0, 4, 0, 28, 60, 124, 255, 511, 1023]
theorem spec_l4Any.tab8 : rtab .any (opsOf Try.f99 8) = spec_l4Any.T8 := by kernel_rfl
theorem spec_l4Any.bits8 : waitsOk spec_l4Any.T8.2 spec_l4Any.B8 = true := by kernel_rfl
set_option maxHeartbeats 8000000 in
set_option maxRecDepth 100000 in
theorem spec_l4Any.calls (k : Nat) (g : Nat) (s0_0 : List Int) (s0_1 : Int) (s0_2 : Int) (r1 : Int) (r2 : List (List Int)) (r3 : Int) (r4 : Int) (w0 w : World) (hI : IsS88 w0 w g s0_0 s0_1 s0_2) (hB : Below w0.heap.size w0 w) (h : spec_l4Any.f k s0_0 s0_1 s0_2 = some (r1, r2, r3, r4)) :
  Calls Try.prog 99 #[.pointer (some ⟨g, 0, none⟩)] w fun e w' => ∃ v1_ : Value, e = .returned (.agg #[.int .i64 r1, v1_]) ∧ Kd.S (Kd.slice 3 (Kd.int .i64)) 25 w' w.heap.size (fun _ => True) v1_ r2 ∧ IsS88 w0 w' g s0_0 r3 r4 ∧ Below w0.heap.size w0 w' ∧ KeepBut w w' g none := by
 have hu28 := Try.underlying28
 have HI0 := Aside0.mk hI
 have HK := Aside0.mk (KeepBut.refl w g none)
 have HL := Aside0.mk hB.size
 clear hI
 have HW0 := Aside0.mk hB.size
 have HB := Aside0.mk hB
 clear hB
 have H : ((spec_l4Draw.f k s0_0 s0_1 s0_2).bind fun bt409 => ((spec_l1Below.f s0_0 bt409.2.2.1 bt409.2.2.2 14).bind fun bt416 => (if bt416.1 = 0 then ((spec_l4Raw.f s0_0 bt416.2.1 bt416.2.2).bind fun bt419 => (some (bt419.1, bt409.2.1, bt419.2.1, bt419.2.2))) else (if bt416.1 = 1 then (if bt409.2.1.length < 5864062014805 then (some (bt409.1, (bt409.2.1 ++ [(([0] : List Int))]), bt416.2.1, bt416.2.2)) else (none)) else (if bt416.1 = 2 then ((spec_l1Below.f s0_0 bt416.2.1 bt416.2.2 7).bind fun bt428 => ((spec_l1Below.f s0_0 bt428.2.1 bt428.2.2 7).bind fun bt431 => (if bt409.2.1.length < 5864062014805 then (some (bt409.1, (bt409.2.1 ++ [(([bt428.1, bt431.1] : List Int))]), bt431.2.1, bt431.2.2)) else (none)))) else (some (bt409.1, bt409.2.1, bt416.2.1, bt416.2.2))))))) = some (r1, r2, r3, r4) := h
 clear h
 replace H := Option.bind_eq_some_iff.mp H
 obtain ⟨⟨t409, t410, t413, t414⟩, A20, H⟩ := H
 try dsimp only at H
 have A2 := Aside0.mk A20
 clear A20
 replace H := Option.bind_eq_some_iff.mp H
 obtain ⟨⟨t416, t417, t418⟩, A30, H⟩ := H
 try dsimp only at H
 have A3 := Aside0.mk A30
 clear A30
 by_cases c4 : t416 = 0
 ·
  rw [if_pos c4] at H
  have c4b0 : (t416 == 0) = true := beq_iff_eq.mpr c4
  have c4b1 : (t416 != 0) = false := bne_eq_false_iff_eq.mpr c4
  clear c4
  replace H := Option.bind_eq_some_iff.mp H
  obtain ⟨⟨t419, t420, t421⟩, A50, H⟩ := H
  try dsimp only at H
  have A5 := Aside0.mk A50
  clear A50
  simp only [Option.some.injEq, Prod.mk.injEq] at H
  obtain ⟨rfl, rfl, rfl, rfl⟩ := H
  go_enter Try.func99, Try.ntmps99
  go_wp2_with (first | ((with_reducible refine gate_dst (N := 2) rfl ?_); refine box_event ?hg (N := 2) ?hd (cs := #[.int .i64 0, .slice none 0 0]) (t := 28) ?hr ?_; (case hd => rfl); (case hg => rfl); (case hr => first | (go_simp; done) | (go_simp; rfl)); intro gb408 hg w6 hbox hb; have n0_ := Aside0.mk (IsS88.below (mI) hb); have n1_ := Aside0.mk (KeepBut.trans (mq HK.out) (KeepBut.of_below hb g none) (.inl rfl)); have n2_ := Aside0.mk (below_step (mJ) hb); have n3_ := Aside0.mk (hbox); have n4_ := Aside0.mk ((by rw [hg]; exact (keep_size (w := w) (g := g) (row := none) (mQ)) : w.heap.size ≤ gb408)); have n5_ := Aside0.mk ((Nat.le_trans HW0.out (by rw [hg]; exact (keep_size (w := w) (g := g) (row := none) (mQ)) : w.heap.size ≤ gb408) : w0.heap.size ≤ gb408)); have n6_ := Aside0.mk ((by rw [hg]; exact Nat.ne_of_lt (IsS88.lt (show IsS88 w0 _ g s0_0 s0_1 s0_2 from mI)) : g ≠ gb408)); have n7_ := Aside0.mk ((by rw [hg]; exact Nat.ne_of_gt (IsS88.lt (show IsS88 w0 _ g s0_0 s0_1 s0_2 from mI)) : gb408 ≠ g)); clear HI0 HK HB; have HI0 := n0_; have HK := n1_; have HB := n2_; have BK408 := n3_; have GW408 := n4_; have GE408 := n5_; have NB0_408 := n6_; have NB408_0 := n7_; clear n0_ n1_ n2_ n3_ n4_ n5_ n6_ n7_; clear hb hbox hg) | ((with_reducible refine gate_callee (f := 121) rfl ?_); refine goesL_ (some 5) rfl rfl Try.func121 (by kernel_rfl) rfl #[.pointer (some ⟨g, 0, none⟩)] rfl mA ?_; (with_reducible refine (spec_l4Draw.calls k g s0_0 s0_1 s0_2 t409 t410 t413 t414 w0 _ ?side1 ?side2 A2.out).mono ?_); (case side1 => repeat (first | (with_reducible first | exact HI0.out | apply IsS88.alloc | apply IsS88.drewN | apply IsS88.drew | apply IsS88.set_1 | apply IsS88.set_2 | refine IsS88.far ?_ NB0_408.out _) | exact HI0.out)); (case side2 => repeat (first | (with_reducible first | exact HB.out | apply below_alloc | apply pw_below_drewN | apply below_drew1 | refine below_set ?_ (IsS88.ge HI0.out) | refine below_set ?_ GE408.out) | exact HB.out)); rintro e w7 ⟨v411, rfl, ho0, hi, hb, hk⟩; refine ⟨_, rfl, ?_⟩; have n0_ := Aside0.mk (KeepBut.blk hk (g' := gb408) (o := .cells #[.int .i64 0, .slice none 0 0] 28 (0, 0)) ((mK (BK408.out))) NB408_0.out (by simp)); have n1_ := Aside0.mk (Kd.S_lower ho0 (keep_size (w := w) (g := g) (row := none) (mQ))); have n2_ := Aside0.mk (KeepBut.trans (mq HK.out) hk (.inl rfl)); have n3_ := Aside0.mk (hb); have n4_ := Aside0.mk (hi); clear BK408 HK HB HI0; have BK408 := n0_; have HO412 := n1_; have HK := n2_; have HB := n3_; have HI0 := n4_; clear n0_ n1_ n2_ n3_ n4_; (try clear hb); (try clear ho0)) | ((with_reducible refine gate_dst (N := 3) rfl ?_); refine box_event ?hg (N := 3) ?hd (cs := #[.int .i64 0, .slice none 0 0]) (t := 28) ?hr ?_; (case hd => rfl); (case hg => rfl); (case hr => first | (go_simp; done) | (go_simp; rfl)); intro gb415 hg w8 hbox hb; have n0_ := Aside0.mk (Kd.S_below (mS HO412.out) hb); have n1_ := Aside0.mk (IsS88.below (mI) hb); have n2_ := Aside0.mk (blk_below (g := gb408) (o := .cells #[.int .i64 0, .slice none 0 0] 28 (0, 0)) ((mK (BK408.out))) hb); have n3_ := Aside0.mk (KeepBut.trans (mq HK.out) (KeepBut.of_below hb g none) (.inl rfl)); have n4_ := Aside0.mk (below_step (mJ) hb); have n5_ := Aside0.mk (hbox); have n6_ := Aside0.mk ((by rw [hg]; exact (keep_size (w := w) (g := g) (row := none) (mQ)) : w.heap.size ≤ gb415)); have n7_ := Aside0.mk ((Nat.le_trans HW0.out (by rw [hg]; exact (keep_size (w := w) (g := g) (row := none) (mQ)) : w.heap.size ≤ gb415) : w0.heap.size ≤ gb415)); have n8_ := Aside0.mk ((by rw [hg]; exact Nat.ne_of_lt (blk_lt (g := gb408) (o := .cells #[.int .i64 0, .slice none 0 0] 28 (0, 0)) ((mK (BK408.out)))) : gb408 ≠ gb415)); have n9_ := Aside0.mk ((by rw [hg]; exact Nat.ne_of_gt (blk_lt (g := gb408) (o := .cells #[.int .i64 0, .slice none 0 0] 28 (0, 0)) ((mK (BK408.out)))) : gb415 ≠ gb408)); have n10_ := Aside0.mk ((by rw [hg]; exact Nat.ne_of_lt (IsS88.lt (show IsS88 w0 _ g s0_0 t413 t414 from mI)) : g ≠ gb415)); have n11_ := Aside0.mk ((by rw [hg]; exact Nat.ne_of_gt (IsS88.lt (show IsS88 w0 _ g s0_0 t413 t414 from mI)) : gb415 ≠ g)); clear HO412 HI0 BK408 HK HB; have HO412 := n0_; have HI0 := n1_; have BK408 := n2_; have HK := n3_; have HB := n4_; have BK415 := n5_; have GW415 := n6_; have GE415 := n7_; have NB408_415 := n8_; have NB415_408 := n9_; have NB0_415 := n10_; have NB415_0 := n11_; clear n0_ n1_ n2_ n3_ n4_ n5_ n6_ n7_ n8_ n9_ n10_ n11_; clear hb hbox hg; have hnb9 := NB415_408.out; have hnc9 := NB408_415.out; have hnb10 := NB415_0.out; have hnc10 := NB0_415.out; have hcz11_0 : w8.cell? ⟨gb415, 0, none⟩ = some (.int .i64 0) := (blk_cell BK415.out 0).trans rfl; have hcz11_1 : w8.cell? ⟨gb415, 1, none⟩ = some (.slice none 0 0) := (blk_cell BK415.out 1).trans rfl; have hfz11_0 := blk_frozen BK415.out 0; have hfz11_1 := blk_frozen BK415.out 1; obtain ⟨Ao12, co12, eo12⟩ := Kd.S_slice HO412.out; subst eo12) | ((with_reducible refine gate_callee (f := 116) rfl ?_); refine goesL_ (some 7) rfl rfl Try.func116 (by kernel_rfl) rfl #[.pointer (some ⟨g, 0, none⟩), .int .i64 14] rfl mA ?_; (with_reducible refine (spec_l1Below.calls g s0_0 t413 t414 14 t416 t417 t418 w0 _ ?side1 ?side2 A3.out).mono ?_); (case side1 => repeat (first | (with_reducible first | exact HI0.out | apply IsS88.alloc | apply IsS88.drewN | apply IsS88.drew | apply IsS88.set_1 | apply IsS88.set_2 | refine IsS88.far ?_ NB0_408.out _ | refine IsS88.far ?_ NB0_415.out _) | exact HI0.out)); (case side2 => repeat (first | (with_reducible first | exact HB.out | apply below_alloc | apply pw_below_drewN | apply below_drew1 | refine below_set ?_ (IsS88.ge HI0.out) | refine below_set ?_ GE408.out | refine below_set ?_ GE415.out) | exact HB.out)); rintro e w13 ⟨rfl, hi, hb, hk⟩; refine ⟨_, rfl, ?_⟩; have n0_ := Aside0.mk (KeepBut.blk hk (g' := gb408) (o := .cells #[.int .i64 0, .slice none 0 0] 28 (0, 0)) (by refine pK ?_; refine blk_far ?_ NB408_415.out _; refine pK ?_; refine blk_far ?_ NB408_415.out _; refine pK ?_; exact BK408.out) NB408_0.out (by simp)); have n1_ := Aside0.mk (Kd.S_mono (Kd.S_keep (IsS88.apartS (show IsS88 w0 _ g s0_0 t413 t414 from mI) (mS ((Kd.S_mono (Kd.S_far (p := ⟨gb415, 1, none⟩) (Kd.S_far (p := ⟨gb415, 0, none⟩) (Kd.S_types HO412.out BK415.out (by decide)) (fun _ hk => hk.2) (.int .i64 t409)) (fun _ hk => hk.2) (.slice Ao12 t410.length co12)) (fun _ h_ => h_.1)))) (by decide)) hk (fun _ h => h.2)) (fun _ h => h.1)); have n2_ := Aside0.mk (KeepBut.blk hk (g' := gb415) (o := .cells #[.int .i64 t409, .slice Ao12 t410.length co12] 28 (0, 0)) (by refine pK ?_; refine blk_put (cs := #[.int .i64 t409, .slice none 0 0]) ?_ 1 _ rfl; refine pK ?_; refine blk_put (cs := #[.int .i64 0, .slice none 0 0]) ?_ 0 _ rfl; refine pK ?_; exact BK415.out) NB415_0.out (by simp)); have n3_ := Aside0.mk (KeepBut.trans (mq HK.out) hk (.inl rfl)); have n4_ := Aside0.mk (hb); have n5_ := Aside0.mk (hi); clear BK408 HO412 BK415 HK HB HI0; have BK408 := n0_; have HO412 := n1_; have BK415 := n2_; have HK := n3_; have HB := n4_; have HI0 := n5_; clear n0_ n1_ n2_ n3_ n4_ n5_; (try clear hb)) | ((with_reducible refine gate_callee (f := 122) rfl ?_); refine goesL_ (some 11) rfl rfl Try.func122 (by kernel_rfl) rfl #[.pointer (some ⟨g, 0, none⟩)] rfl mA ?_; (with_reducible refine (spec_l4Raw.calls g s0_0 t417 t418 t419 t420 t421 w0 _ ?side1 ?side2 A5.out).mono ?_); (case side1 => repeat (first | (with_reducible first | exact HI0.out | apply IsS88.alloc | apply IsS88.drewN | apply IsS88.drew | apply IsS88.set_1 | apply IsS88.set_2 | refine IsS88.far ?_ NB0_408.out _ | refine IsS88.far ?_ NB0_415.out _) | exact HI0.out)); (case side2 => repeat (first | (with_reducible first | exact HB.out | apply below_alloc | apply pw_below_drewN | apply below_drew1 | refine below_set ?_ (IsS88.ge HI0.out) | refine below_set ?_ GE408.out | refine below_set ?_ GE415.out) | exact HB.out)); rintro e w14 ⟨rfl, hi, hb, hk⟩; refine ⟨_, rfl, ?_⟩; have n0_ := Aside0.mk (KeepBut.blk hk (g' := gb408) (o := .cells #[.int .i64 0, .slice none 0 0] 28 (0, 0)) ((mK (BK408.out))) NB408_0.out (by simp)); have n1_ := Aside0.mk (Kd.S_mono (Kd.S_keep (IsS88.apartS (show IsS88 w0 _ g s0_0 t417 t418 from mI) (mS HO412.out) (by decide)) hk (fun _ h => h.2)) (fun _ h => h.1)); have n2_ := Aside0.mk (KeepBut.blk hk (g' := gb415) (o := .cells #[.int .i64 t409, .slice Ao12 t410.length co12] 28 (0, 0)) ((mK (BK415.out))) NB415_0.out (by simp)); have n3_ := Aside0.mk (KeepBut.trans (mq HK.out) hk (.inl rfl)); have n4_ := Aside0.mk (hb); have n5_ := Aside0.mk (hi); clear BK408 HO412 BK415 HK HB HI0; have BK408 := n0_; have HO412 := n1_; have BK415 := n2_; have HK := n3_; have HB := n4_; have HI0 := n5_; clear n0_ n1_ n2_ n3_ n4_ n5_; (try clear hb); have hcz15_0 : w14.cell? ⟨gb415, 0, none⟩ = some (.int .i64 t409) := (blk_cell BK415.out 0).trans rfl; have hcz15_1 : w14.cell? ⟨gb415, 1, none⟩ = some (.slice Ao12 t410.length co12) := (blk_cell BK415.out 1).trans rfl; have hfz15_0 := blk_frozen BK415.out 0; have hfz15_1 := blk_frozen BK415.out 1; have hnb16 := NB408_0.out; have hnc16 := NB0_408.out; have hcz17_0 : w14.cell? ⟨gb408, 0, none⟩ = some (.int .i64 0) := (blk_cell BK408.out 0).trans rfl; have hcz17_1 : w14.cell? ⟨gb408, 1, none⟩ = some (.slice none 0 0) := (blk_cell BK408.out 1).trans rfl; have hfz17_0 := blk_frozen BK408.out 0; have hfz17_1 := blk_frozen BK408.out 1))
  refine bodyPost_ret (results_cell_row rfl _ _ gb408 28 #[.int .i64 t419, .slice Ao12 t410.length co12] (0, 0) _ rfl (by refine pK ?_; refine blk_put (cs := #[.int .i64 t419, .slice none 0 0]) ?_ 1 _ rfl; refine pK ?_; refine blk_put (cs := #[.int .i64 0, .slice none 0 0]) ?_ 0 _ rfl; refine pK ?_; refine blk_far ?_ NB408_415.out _; refine pK ?_; exact BK408.out) Try.underlying28 rfl (by kernel_rfl)) rfl ?_
  exact ⟨_, mE, by (with_reducible repeat (first | apply Kd.S_alloc | apply Kd.S_drewN | apply Kd.S_drew)); exact Kd.S_mono (Kd.S_far (p := ⟨gb408, 1, none⟩) (Kd.S_far (p := ⟨gb408, 0, none⟩) (Kd.S_far (p := ⟨gb415, 0, none⟩) (Kd.S_types (Kd.S_types HO412.out BK415.out (by decide)) BK408.out (by decide)) (fun _ hk => hk.1.2) (.int .i64 t419)) (fun _ hk => hk.2) (.int .i64 t419)) (fun _ hk => hk.2) (.slice Ao12 t410.length co12)) (fun _ hk => trivial), mI, mJ, mQ⟩
 rw [if_neg c4] at H
 have c4b0 : (t416 == 0) = false := beq_eq_false_iff_ne.mpr c4
 have c4b1 : (t416 != 0) = true := bne_iff_ne.mpr c4
 by_cases c18 : t416 = 1
 ·
  rw [if_pos c18] at H
  have c18b0 : (t416 == 1) = true := beq_iff_eq.mpr c18
  have c18b1 : (t416 != 1) = false := bne_eq_false_iff_eq.mpr c18
  clear c18
  obtain ⟨y422, hy422⟩ : ∃ y_ : List Int, y_ = (([0] : List Int)) := ⟨_, rfl⟩
  replace H : (if t410.length < 5864062014805 then (some (t409, (t410 ++ [y422]), t417, t418)) else (none)) = some (r1, r2, r3, r4) := by first | (rw [hy422]; with_reducible exact H) | (have H2_ := (Option.bind_some _ _).symm.trans H; rw [hy422]; with_reducible exact H2_) | (have H2_ := (Option.bind_some _ _).symm.trans H; with_reducible exact H2_) | with_reducible exact H | (rw [hy422]; exact H) | exact H
  have Ny422 := Aside0.mk hy422
  clear hy422
  by_cases c19 : t410.length < 5864062014805
  rotate_left
  ·
   rw [if_neg c19] at H
   exact absurd H (by simp)
  rw [if_pos c19] at H
  have LMc19 := Aside0.mk c19
  clear c19
  obtain ⟨y425, hy425⟩ : ∃ y_ : List (List Int), y_ = (t410 ++ [y422]) := ⟨_, rfl⟩
  replace H : (some (t409, y425, t417, t418)) = some (r1, r2, r3, r4) := by first | (rw [hy425]; with_reducible exact H) | (have H2_ := (Option.bind_some _ _).symm.trans H; rw [hy425]; with_reducible exact H2_) | (have H2_ := (Option.bind_some _ _).symm.trans H; with_reducible exact H2_) | with_reducible exact H | (rw [hy425]; exact H) | exact H
  have Ny425 := Aside0.mk hy425
  clear hy425
  simp only [Option.some.injEq, Prod.mk.injEq] at H
  obtain ⟨rfl, rfl, rfl, rfl⟩ := H
  go_enter Try.func99, Try.ntmps99
  go_wp2_with (first | ((with_reducible refine gate_dst (N := 2) rfl ?_); refine box_event ?hg (N := 2) ?hd (cs := #[.int .i64 0, .slice none 0 0]) (t := 28) ?hr ?_; (case hd => rfl); (case hg => rfl); (case hr => first | (go_simp; done) | (go_simp; rfl)); intro gb408 hg w20 hbox hb; have n0_ := Aside0.mk (IsS88.below (mI) hb); have n1_ := Aside0.mk (KeepBut.trans (mq HK.out) (KeepBut.of_below hb g none) (.inl rfl)); have n2_ := Aside0.mk (below_step (mJ) hb); have n3_ := Aside0.mk (hbox); have n4_ := Aside0.mk ((by rw [hg]; exact (keep_size (w := w) (g := g) (row := none) (mQ)) : w.heap.size ≤ gb408)); have n5_ := Aside0.mk ((Nat.le_trans HW0.out (by rw [hg]; exact (keep_size (w := w) (g := g) (row := none) (mQ)) : w.heap.size ≤ gb408) : w0.heap.size ≤ gb408)); have n6_ := Aside0.mk ((by rw [hg]; exact Nat.ne_of_lt (IsS88.lt (show IsS88 w0 _ g s0_0 s0_1 s0_2 from mI)) : g ≠ gb408)); have n7_ := Aside0.mk ((by rw [hg]; exact Nat.ne_of_gt (IsS88.lt (show IsS88 w0 _ g s0_0 s0_1 s0_2 from mI)) : gb408 ≠ g)); clear HI0 HK HB; have HI0 := n0_; have HK := n1_; have HB := n2_; have BK408 := n3_; have GW408 := n4_; have GE408 := n5_; have NB0_408 := n6_; have NB408_0 := n7_; clear n0_ n1_ n2_ n3_ n4_ n5_ n6_ n7_; clear hb hbox hg) | ((with_reducible refine gate_callee (f := 121) rfl ?_); refine goesL_ (some 5) rfl rfl Try.func121 (by kernel_rfl) rfl #[.pointer (some ⟨g, 0, none⟩)] rfl mA ?_; (with_reducible refine (spec_l4Draw.calls k g s0_0 s0_1 s0_2 t409 t410 t413 t414 w0 _ ?side1 ?side2 A2.out).mono ?_); (case side1 => repeat (first | (with_reducible first | exact HI0.out | apply IsS88.alloc | apply IsS88.drewN | apply IsS88.drew | apply IsS88.set_1 | apply IsS88.set_2 | refine IsS88.far ?_ NB0_408.out _) | exact HI0.out)); (case side2 => repeat (first | (with_reducible first | exact HB.out | apply below_alloc | apply pw_below_drewN | apply below_drew1 | refine below_set ?_ (IsS88.ge HI0.out) | refine below_set ?_ GE408.out) | exact HB.out)); rintro e w21 ⟨v411, rfl, ho0, hi, hb, hk⟩; refine ⟨_, rfl, ?_⟩; have n0_ := Aside0.mk (KeepBut.blk hk (g' := gb408) (o := .cells #[.int .i64 0, .slice none 0 0] 28 (0, 0)) ((mK (BK408.out))) NB408_0.out (by simp)); have n1_ := Aside0.mk (Kd.S_lower ho0 (keep_size (w := w) (g := g) (row := none) (mQ))); have n2_ := Aside0.mk (KeepBut.trans (mq HK.out) hk (.inl rfl)); have n3_ := Aside0.mk (hb); have n4_ := Aside0.mk (hi); clear BK408 HK HB HI0; have BK408 := n0_; have HO412 := n1_; have HK := n2_; have HB := n3_; have HI0 := n4_; clear n0_ n1_ n2_ n3_ n4_; (try clear hb); (try clear ho0)) | ((with_reducible refine gate_dst (N := 3) rfl ?_); refine box_event ?hg (N := 3) ?hd (cs := #[.int .i64 0, .slice none 0 0]) (t := 28) ?hr ?_; (case hd => rfl); (case hg => rfl); (case hr => first | (go_simp; done) | (go_simp; rfl)); intro gb415 hg w22 hbox hb; have n0_ := Aside0.mk (Kd.S_below (mS HO412.out) hb); have n1_ := Aside0.mk (IsS88.below (mI) hb); have n2_ := Aside0.mk (blk_below (g := gb408) (o := .cells #[.int .i64 0, .slice none 0 0] 28 (0, 0)) ((mK (BK408.out))) hb); have n3_ := Aside0.mk (KeepBut.trans (mq HK.out) (KeepBut.of_below hb g none) (.inl rfl)); have n4_ := Aside0.mk (below_step (mJ) hb); have n5_ := Aside0.mk (hbox); have n6_ := Aside0.mk ((by rw [hg]; exact (keep_size (w := w) (g := g) (row := none) (mQ)) : w.heap.size ≤ gb415)); have n7_ := Aside0.mk ((Nat.le_trans HW0.out (by rw [hg]; exact (keep_size (w := w) (g := g) (row := none) (mQ)) : w.heap.size ≤ gb415) : w0.heap.size ≤ gb415)); have n8_ := Aside0.mk ((by rw [hg]; exact Nat.ne_of_lt (blk_lt (g := gb408) (o := .cells #[.int .i64 0, .slice none 0 0] 28 (0, 0)) ((mK (BK408.out)))) : gb408 ≠ gb415)); have n9_ := Aside0.mk ((by rw [hg]; exact Nat.ne_of_gt (blk_lt (g := gb408) (o := .cells #[.int .i64 0, .slice none 0 0] 28 (0, 0)) ((mK (BK408.out)))) : gb415 ≠ gb408)); have n10_ := Aside0.mk ((by rw [hg]; exact Nat.ne_of_lt (IsS88.lt (show IsS88 w0 _ g s0_0 t413 t414 from mI)) : g ≠ gb415)); have n11_ := Aside0.mk ((by rw [hg]; exact Nat.ne_of_gt (IsS88.lt (show IsS88 w0 _ g s0_0 t413 t414 from mI)) : gb415 ≠ g)); clear HO412 HI0 BK408 HK HB; have HO412 := n0_; have HI0 := n1_; have BK408 := n2_; have HK := n3_; have HB := n4_; have BK415 := n5_; have GW415 := n6_; have GE415 := n7_; have NB408_415 := n8_; have NB415_408 := n9_; have NB0_415 := n10_; have NB415_0 := n11_; clear n0_ n1_ n2_ n3_ n4_ n5_ n6_ n7_ n8_ n9_ n10_ n11_; clear hb hbox hg; have hnb23 := NB415_408.out; have hnc23 := NB408_415.out; have hnb24 := NB415_0.out; have hnc24 := NB0_415.out; have hcz25_0 : w22.cell? ⟨gb415, 0, none⟩ = some (.int .i64 0) := (blk_cell BK415.out 0).trans rfl; have hcz25_1 : w22.cell? ⟨gb415, 1, none⟩ = some (.slice none 0 0) := (blk_cell BK415.out 1).trans rfl; have hfz25_0 := blk_frozen BK415.out 0; have hfz25_1 := blk_frozen BK415.out 1; obtain ⟨Ao26, co26, eo26⟩ := Kd.S_slice HO412.out; subst eo26) | ((with_reducible refine gate_callee (f := 116) rfl ?_); refine goesL_ (some 7) rfl rfl Try.func116 (by kernel_rfl) rfl #[.pointer (some ⟨g, 0, none⟩), .int .i64 14] rfl mA ?_; (with_reducible refine (spec_l1Below.calls g s0_0 t413 t414 14 t416 t417 t418 w0 _ ?side1 ?side2 A3.out).mono ?_); (case side1 => repeat (first | (with_reducible first | exact HI0.out | apply IsS88.alloc | apply IsS88.drewN | apply IsS88.drew | apply IsS88.set_1 | apply IsS88.set_2 | refine IsS88.far ?_ NB0_408.out _ | refine IsS88.far ?_ NB0_415.out _) | exact HI0.out)); (case side2 => repeat (first | (with_reducible first | exact HB.out | apply below_alloc | apply pw_below_drewN | apply below_drew1 | refine below_set ?_ (IsS88.ge HI0.out) | refine below_set ?_ GE408.out | refine below_set ?_ GE415.out) | exact HB.out)); rintro e w27 ⟨rfl, hi, hb, hk⟩; refine ⟨_, rfl, ?_⟩; have n0_ := Aside0.mk (KeepBut.blk hk (g' := gb408) (o := .cells #[.int .i64 0, .slice none 0 0] 28 (0, 0)) (by refine pK ?_; refine blk_far ?_ NB408_415.out _; refine pK ?_; refine blk_far ?_ NB408_415.out _; refine pK ?_; exact BK408.out) NB408_0.out (by simp)); have n1_ := Aside0.mk (Kd.S_mono (Kd.S_keep (IsS88.apartS (show IsS88 w0 _ g s0_0 t413 t414 from mI) (mS ((Kd.S_mono (Kd.S_far (p := ⟨gb415, 1, none⟩) (Kd.S_far (p := ⟨gb415, 0, none⟩) (Kd.S_types HO412.out BK415.out (by decide)) (fun _ hk => hk.2) (.int .i64 t409)) (fun _ hk => hk.2) (.slice Ao26 t410.length co26)) (fun _ h_ => h_.1)))) (by decide)) hk (fun _ h => h.2)) (fun _ h => h.1)); have n2_ := Aside0.mk (KeepBut.blk hk (g' := gb415) (o := .cells #[.int .i64 t409, .slice Ao26 t410.length co26] 28 (0, 0)) (by refine pK ?_; refine blk_put (cs := #[.int .i64 t409, .slice none 0 0]) ?_ 1 _ rfl; refine pK ?_; refine blk_put (cs := #[.int .i64 0, .slice none 0 0]) ?_ 0 _ rfl; refine pK ?_; exact BK415.out) NB415_0.out (by simp)); have n3_ := Aside0.mk (KeepBut.trans (mq HK.out) hk (.inl rfl)); have n4_ := Aside0.mk (hb); have n5_ := Aside0.mk (hi); clear BK408 HO412 BK415 HK HB HI0; have BK408 := n0_; have HO412 := n1_; have BK415 := n2_; have HK := n3_; have HB := n4_; have HI0 := n5_; clear n0_ n1_ n2_ n3_ n4_ n5_; (try clear hb); have hcz28_0 : w27.cell? ⟨gb415, 0, none⟩ = some (.int .i64 t409) := (blk_cell BK415.out 0).trans rfl; have hcz28_1 : w27.cell? ⟨gb415, 1, none⟩ = some (.slice Ao26 t410.length co26) := (blk_cell BK415.out 1).trans rfl; have hfz28_0 := blk_frozen BK415.out 0; have hfz28_1 := blk_frozen BK415.out 1) | ((with_reducible refine gate_dst (N := 17) rfl ?_); refine Kd.R_lit (Kd.int .i64) _ 3 ?hg (N := 17) ?hd (xs := ([0] : List Int)) (inner := [.int .i64 0]) (ok := fun _ => True) (okp := fun _ => True) ?hr ?hp (fun _ hk => hk) trivial (Below.refl _ _) (Nat.le_refl _) (by simp) ?_; (case hd => rfl); (case hg => rfl); (case hr => first | (go_simp; done) | (go_simp; rfl)); (case hp => exact (Reps.one (show Kd.M (Kd.int .i64) _ _ _ 0 [.int .i64 0] from rfl) (Reps.none _ _))); intro v423 w29 ho30 hb hg_ hnew_; clear hg_ hnew_; (first | rw [← Ny422.out] at ho30 | (simp only [Int.reduceToNat] at ho30; rw [← Ny422.out] at ho30)); have n0_ := Aside0.mk (Kd.S_elder' (mS HO412.out) (Kd.R_base ho30) hb); have n1_ := Aside0.mk (Kd.R_lower ho30 (keep_size (w := w) (g := g) (row := none) (mQ))); have n2_ := Aside0.mk (IsS88.below (mI) hb); have n3_ := Aside0.mk (blk_below (g := gb408) (o := .cells #[.int .i64 0, .slice none 0 0] 28 (0, 0)) ((mK (BK408.out))) hb); have n4_ := Aside0.mk (blk_below (g := gb415) (o := .cells #[.int .i64 t409, .slice Ao26 t410.length co26] 28 (0, 0)) ((mK (BK415.out))) hb); have n5_ := Aside0.mk (KeepBut.trans (mq HK.out) (KeepBut.of_below hb g none) (.inl rfl)); have n6_ := Aside0.mk (below_step (mJ) hb); clear HO412 HI0 BK408 BK415 HK HB; have HO412 := n0_; have HO424 := n1_; have HI0 := n2_; have BK408 := n3_; have BK415 := n4_; have HK := n5_; have HB := n6_; clear n0_ n1_ n2_ n3_ n4_ n5_ n6_; clear hb ho30; obtain ⟨Ao32, co32, eo32⟩ := Kd.R_slice HO424.out; subst eo32) | ((with_reducible refine gate_builtin (b := .append) (xs := #[.tmp 16, .tmp 18]) rfl ?_); at_builtin; refine Kd.S_append (Kd.slice 3 (Kd.int .i64)) w.heap.size rfl (.tmp 16) (.tmp 18) 22 25 (.slice none 0 0) 24 rfl Try.underlying22 info25 rfl (by decide) (by omega) (.slice Ao26 t410.length co26) t410 y422 [.slice Ao32 y422.length co32] (fun _ => True) (fun k_ => some k_ = (.slice Ao32 y422.length co32 : Value).ownBlock) rfl rfl ?aP (fun k_ hk_ => ((Kd.R_mono (ok' := fun k_ => ((fun _ => True)) k_ ∧ some k_ ≠ (.slice Ao26 t410.length co26 : Value).ownBlock) (Kd.R_apart' (HO424.out) (Kd.S_typed HO412.out) (by decide)) (fun k_ hk => ⟨trivial, hk.2⟩))).1 k_ hk_.symm) ?aF ?aO (Below.refl _ _) ?aS ?aL ?_; (case aP => exact Kd.M_row (Kd.R_mono (Kd.R_tight rfl (Kd.R_mono (ok' := fun k_ => ((fun _ => True)) k_ ∧ some k_ ≠ (.slice Ao26 t410.length co26 : Value).ownBlock) (Kd.R_apart' (HO424.out) (Kd.S_typed HO412.out) (by decide)) (fun k_ hk => ⟨trivial, hk.2⟩))) (fun _ h_ => h_))); (case aF => exact (fun _ _ => trivial)); (case aO => exact (mS (Kd.S_mono HO412.out (fun k_ hk => ⟨trivial, fun e_ => hk.2 e_⟩)))); (case aS => exact (keep_size (w := w) (g := g) (row := none) (mQ))); (case aL => have := LMc19.out; omega); intro v426 w31 ho hb hg hat; rw [← Ny425.out] at ho; have n0_ := Aside0.mk (IsS88.grown (mI) hg (IsS88.own_neS HI0.out HO412.out (by decide))); have n1_ := Aside0.mk (blk_grown (g := gb408) (o := .cells #[.int .i64 0, .slice none 0 0] 28 (0, 0)) ((mK (BK408.out))) hg (Kd.S_ne HO412.out BK408.out (by decide))); have n2_ := Aside0.mk (blk_grown (g := gb415) (o := .cells #[.int .i64 t409, .slice Ao26 t410.length co26] 28 (0, 0)) ((mK (BK415.out))) hg (Kd.S_ne HO412.out BK415.out (by decide))); have n3_ := Aside0.mk (below_weaken (mJ) HL.out hb); have n4_ := Aside0.mk (KeepBut.trans (mq HK.out) (KeepBut.of_grown hg g) (Kd.S_base2 HO412.out)); have n5_ := Aside0.mk (ho); clear HI0 BK408 BK415 HB HK HO412 HO424; have HI0 := n0_; have BK408 := n1_; have BK415 := n2_; have HB := n3_; have HK := n4_; have HO427 := n5_; clear n0_ n1_ n2_ n3_ n4_ n5_; clear ho hb hg hat; obtain ⟨Ao33, co33, eo33⟩ := Kd.S_slice HO427.out; subst eo33; have hcz34_0 : w31.cell? ⟨gb415, 0, none⟩ = some (.int .i64 t409) := (blk_cell BK415.out 0).trans rfl; have hcz34_1 : w31.cell? ⟨gb415, 1, none⟩ = some (.slice Ao26 t410.length co26) := (blk_cell BK415.out 1).trans rfl; have hfz34_0 := blk_frozen BK415.out 0; have hfz34_1 := blk_frozen BK415.out 1; have hnb35 := NB408_0.out; have hnc35 := NB0_408.out; have hcz36_0 : w31.cell? ⟨gb408, 0, none⟩ = some (.int .i64 0) := (blk_cell BK408.out 0).trans rfl; have hcz36_1 : w31.cell? ⟨gb408, 1, none⟩ = some (.slice none 0 0) := (blk_cell BK408.out 1).trans rfl; have hfz36_0 := blk_frozen BK408.out 0; have hfz36_1 := blk_frozen BK408.out 1))
  refine bodyPost_ret (results_cell_row rfl _ _ gb408 28 #[.int .i64 t409, .slice Ao33 y425.length co33] (0, 0) _ rfl (by refine pK ?_; refine blk_put (cs := #[.int .i64 t409, .slice none 0 0]) ?_ 1 _ rfl; refine pK ?_; refine blk_put (cs := #[.int .i64 0, .slice none 0 0]) ?_ 0 _ rfl; refine pK ?_; refine blk_far ?_ NB408_415.out _; refine pK ?_; exact BK408.out) Try.underlying28 rfl (by kernel_rfl)) rfl ?_
  exact ⟨_, mE, by (with_reducible repeat (first | apply Kd.S_alloc | apply Kd.S_drewN | apply Kd.S_drew)); exact Kd.S_mono (Kd.S_far (p := ⟨gb408, 1, none⟩) (Kd.S_far (p := ⟨gb408, 0, none⟩) (Kd.S_far (p := ⟨gb415, 1, none⟩) (Kd.S_types (Kd.S_types HO427.out BK415.out (by decide)) BK408.out (by decide)) (fun _ hk => hk.1.2) (.slice Ao33 y425.length co33)) (fun _ hk => hk.2) (.int .i64 t409)) (fun _ hk => hk.2) (.slice Ao33 y425.length co33)) (fun _ hk => trivial), mI, mJ, mQ⟩
 rw [if_neg c18] at H
 have c18b0 : (t416 == 1) = false := beq_eq_false_iff_ne.mpr c18
 have c18b1 : (t416 != 1) = true := bne_iff_ne.mpr c18
 by_cases c37 : t416 = 2
 rotate_left
 ·
  rw [if_neg c37] at H
  have c37b0 : (t416 == 2) = false := beq_eq_false_iff_ne.mpr c37
  have c37b1 : (t416 != 2) = true := bne_iff_ne.mpr c37
  simp only [Option.some.injEq, Prod.mk.injEq] at H
  obtain ⟨rfl, rfl, rfl, rfl⟩ := H
  go_enter Try.func99, Try.ntmps99
  go_wp2_with (first | ((with_reducible refine gate_dst (N := 2) rfl ?_); refine box_event ?hg (N := 2) ?hd (cs := #[.int .i64 0, .slice none 0 0]) (t := 28) ?hr ?_; (case hd => rfl); (case hg => rfl); (case hr => first | (go_simp; done) | (go_simp; rfl)); intro gb408 hg w61 hbox hb; have n0_ := Aside0.mk (IsS88.below (mI) hb); have n1_ := Aside0.mk (KeepBut.trans (mq HK.out) (KeepBut.of_below hb g none) (.inl rfl)); have n2_ := Aside0.mk (below_step (mJ) hb); have n3_ := Aside0.mk (hbox); have n4_ := Aside0.mk ((by rw [hg]; exact (keep_size (w := w) (g := g) (row := none) (mQ)) : w.heap.size ≤ gb408)); have n5_ := Aside0.mk ((Nat.le_trans HW0.out (by rw [hg]; exact (keep_size (w := w) (g := g) (row := none) (mQ)) : w.heap.size ≤ gb408) : w0.heap.size ≤ gb408)); have n6_ := Aside0.mk ((by rw [hg]; exact Nat.ne_of_lt (IsS88.lt (show IsS88 w0 _ g s0_0 s0_1 s0_2 from mI)) : g ≠ gb408)); have n7_ := Aside0.mk ((by rw [hg]; exact Nat.ne_of_gt (IsS88.lt (show IsS88 w0 _ g s0_0 s0_1 s0_2 from mI)) : gb408 ≠ g)); clear HI0 HK HB; have HI0 := n0_; have HK := n1_; have HB := n2_; have BK408 := n3_; have GW408 := n4_; have GE408 := n5_; have NB0_408 := n6_; have NB408_0 := n7_; clear n0_ n1_ n2_ n3_ n4_ n5_ n6_ n7_; clear hb hbox hg) | ((with_reducible refine gate_callee (f := 121) rfl ?_); refine goesL_ (some 5) rfl rfl Try.func121 (by kernel_rfl) rfl #[.pointer (some ⟨g, 0, none⟩)] rfl mA ?_; (with_reducible refine (spec_l4Draw.calls k g s0_0 s0_1 s0_2 t409 t410 t413 t414 w0 _ ?side1 ?side2 A2.out).mono ?_); (case side1 => repeat (first | (with_reducible first | exact HI0.out | apply IsS88.alloc | apply IsS88.drewN | apply IsS88.drew | apply IsS88.set_1 | apply IsS88.set_2 | refine IsS88.far ?_ NB0_408.out _) | exact HI0.out)); (case side2 => repeat (first | (with_reducible first | exact HB.out | apply below_alloc | apply pw_below_drewN | apply below_drew1 | refine below_set ?_ (IsS88.ge HI0.out) | refine below_set ?_ GE408.out) | exact HB.out)); rintro e w62 ⟨v411, rfl, ho0, hi, hb, hk⟩; refine ⟨_, rfl, ?_⟩; have n0_ := Aside0.mk (KeepBut.blk hk (g' := gb408) (o := .cells #[.int .i64 0, .slice none 0 0] 28 (0, 0)) ((mK (BK408.out))) NB408_0.out (by simp)); have n1_ := Aside0.mk (Kd.S_lower ho0 (keep_size (w := w) (g := g) (row := none) (mQ))); have n2_ := Aside0.mk (KeepBut.trans (mq HK.out) hk (.inl rfl)); have n3_ := Aside0.mk (hb); have n4_ := Aside0.mk (hi); clear BK408 HK HB HI0; have BK408 := n0_; have HO412 := n1_; have HK := n2_; have HB := n3_; have HI0 := n4_; clear n0_ n1_ n2_ n3_ n4_; (try clear hb); (try clear ho0)) | ((with_reducible refine gate_dst (N := 3) rfl ?_); refine box_event ?hg (N := 3) ?hd (cs := #[.int .i64 0, .slice none 0 0]) (t := 28) ?hr ?_; (case hd => rfl); (case hg => rfl); (case hr => first | (go_simp; done) | (go_simp; rfl)); intro gb415 hg w63 hbox hb; have n0_ := Aside0.mk (Kd.S_below (mS HO412.out) hb); have n1_ := Aside0.mk (IsS88.below (mI) hb); have n2_ := Aside0.mk (blk_below (g := gb408) (o := .cells #[.int .i64 0, .slice none 0 0] 28 (0, 0)) ((mK (BK408.out))) hb); have n3_ := Aside0.mk (KeepBut.trans (mq HK.out) (KeepBut.of_below hb g none) (.inl rfl)); have n4_ := Aside0.mk (below_step (mJ) hb); have n5_ := Aside0.mk (hbox); have n6_ := Aside0.mk ((by rw [hg]; exact (keep_size (w := w) (g := g) (row := none) (mQ)) : w.heap.size ≤ gb415)); have n7_ := Aside0.mk ((Nat.le_trans HW0.out (by rw [hg]; exact (keep_size (w := w) (g := g) (row := none) (mQ)) : w.heap.size ≤ gb415) : w0.heap.size ≤ gb415)); have n8_ := Aside0.mk ((by rw [hg]; exact Nat.ne_of_lt (blk_lt (g := gb408) (o := .cells #[.int .i64 0, .slice none 0 0] 28 (0, 0)) ((mK (BK408.out)))) : gb408 ≠ gb415)); have n9_ := Aside0.mk ((by rw [hg]; exact Nat.ne_of_gt (blk_lt (g := gb408) (o := .cells #[.int .i64 0, .slice none 0 0] 28 (0, 0)) ((mK (BK408.out)))) : gb415 ≠ gb408)); have n10_ := Aside0.mk ((by rw [hg]; exact Nat.ne_of_lt (IsS88.lt (show IsS88 w0 _ g s0_0 t413 t414 from mI)) : g ≠ gb415)); have n11_ := Aside0.mk ((by rw [hg]; exact Nat.ne_of_gt (IsS88.lt (show IsS88 w0 _ g s0_0 t413 t414 from mI)) : gb415 ≠ g)); clear HO412 HI0 BK408 HK HB; have HO412 := n0_; have HI0 := n1_; have BK408 := n2_; have HK := n3_; have HB := n4_; have BK415 := n5_; have GW415 := n6_; have GE415 := n7_; have NB408_415 := n8_; have NB415_408 := n9_; have NB0_415 := n10_; have NB415_0 := n11_; clear n0_ n1_ n2_ n3_ n4_ n5_ n6_ n7_ n8_ n9_ n10_ n11_; clear hb hbox hg; have hnb64 := NB415_408.out; have hnc64 := NB408_415.out; have hnb65 := NB415_0.out; have hnc65 := NB0_415.out; have hcz66_0 : w63.cell? ⟨gb415, 0, none⟩ = some (.int .i64 0) := (blk_cell BK415.out 0).trans rfl; have hcz66_1 : w63.cell? ⟨gb415, 1, none⟩ = some (.slice none 0 0) := (blk_cell BK415.out 1).trans rfl; have hfz66_0 := blk_frozen BK415.out 0; have hfz66_1 := blk_frozen BK415.out 1; obtain ⟨Ao67, co67, eo67⟩ := Kd.S_slice HO412.out; subst eo67) | ((with_reducible refine gate_callee (f := 116) rfl ?_); refine goesL_ (some 7) rfl rfl Try.func116 (by kernel_rfl) rfl #[.pointer (some ⟨g, 0, none⟩), .int .i64 14] rfl mA ?_; (with_reducible refine (spec_l1Below.calls g s0_0 t413 t414 14 t416 t417 t418 w0 _ ?side1 ?side2 A3.out).mono ?_); (case side1 => repeat (first | (with_reducible first | exact HI0.out | apply IsS88.alloc | apply IsS88.drewN | apply IsS88.drew | apply IsS88.set_1 | apply IsS88.set_2 | refine IsS88.far ?_ NB0_408.out _ | refine IsS88.far ?_ NB0_415.out _) | exact HI0.out)); (case side2 => repeat (first | (with_reducible first | exact HB.out | apply below_alloc | apply pw_below_drewN | apply below_drew1 | refine below_set ?_ (IsS88.ge HI0.out) | refine below_set ?_ GE408.out | refine below_set ?_ GE415.out) | exact HB.out)); rintro e w68 ⟨rfl, hi, hb, hk⟩; refine ⟨_, rfl, ?_⟩; have n0_ := Aside0.mk (KeepBut.blk hk (g' := gb408) (o := .cells #[.int .i64 0, .slice none 0 0] 28 (0, 0)) (by refine pK ?_; refine blk_far ?_ NB408_415.out _; refine pK ?_; refine blk_far ?_ NB408_415.out _; refine pK ?_; exact BK408.out) NB408_0.out (by simp)); have n1_ := Aside0.mk (Kd.S_mono (Kd.S_keep (IsS88.apartS (show IsS88 w0 _ g s0_0 t413 t414 from mI) (mS ((Kd.S_mono (Kd.S_far (p := ⟨gb415, 1, none⟩) (Kd.S_far (p := ⟨gb415, 0, none⟩) (Kd.S_types HO412.out BK415.out (by decide)) (fun _ hk => hk.2) (.int .i64 t409)) (fun _ hk => hk.2) (.slice Ao67 t410.length co67)) (fun _ h_ => h_.1)))) (by decide)) hk (fun _ h => h.2)) (fun _ h => h.1)); have n2_ := Aside0.mk (KeepBut.blk hk (g' := gb415) (o := .cells #[.int .i64 t409, .slice Ao67 t410.length co67] 28 (0, 0)) (by refine pK ?_; refine blk_put (cs := #[.int .i64 t409, .slice none 0 0]) ?_ 1 _ rfl; refine pK ?_; refine blk_put (cs := #[.int .i64 0, .slice none 0 0]) ?_ 0 _ rfl; refine pK ?_; exact BK415.out) NB415_0.out (by simp)); have n3_ := Aside0.mk (KeepBut.trans (mq HK.out) hk (.inl rfl)); have n4_ := Aside0.mk (hb); have n5_ := Aside0.mk (hi); clear BK408 HO412 BK415 HK HB HI0; have BK408 := n0_; have HO412 := n1_; have BK415 := n2_; have HK := n3_; have HB := n4_; have HI0 := n5_; clear n0_ n1_ n2_ n3_ n4_ n5_; (try clear hb); have hcz69_0 : w68.cell? ⟨gb415, 0, none⟩ = some (.int .i64 t409) := (blk_cell BK415.out 0).trans rfl; have hcz69_1 : w68.cell? ⟨gb415, 1, none⟩ = some (.slice Ao67 t410.length co67) := (blk_cell BK415.out 1).trans rfl; have hfz69_0 := blk_frozen BK415.out 0; have hfz69_1 := blk_frozen BK415.out 1; have hnb70 := NB408_0.out; have hnc70 := NB0_408.out; have hcz71_0 : w68.cell? ⟨gb408, 0, none⟩ = some (.int .i64 0) := (blk_cell BK408.out 0).trans rfl; have hcz71_1 : w68.cell? ⟨gb408, 1, none⟩ = some (.slice none 0 0) := (blk_cell BK408.out 1).trans rfl; have hfz71_0 := blk_frozen BK408.out 0; have hfz71_1 := blk_frozen BK408.out 1))
  refine bodyPost_ret (results_cell_row rfl _ _ gb408 28 #[.int .i64 t409, .slice Ao67 t410.length co67] (0, 0) _ rfl (by refine pK ?_; refine blk_put (cs := #[.int .i64 t409, .slice none 0 0]) ?_ 1 _ rfl; refine pK ?_; refine blk_put (cs := #[.int .i64 0, .slice none 0 0]) ?_ 0 _ rfl; refine pK ?_; exact BK408.out) Try.underlying28 rfl (by kernel_rfl)) rfl ?_
  exact ⟨_, mE, by (with_reducible repeat (first | apply Kd.S_alloc | apply Kd.S_drewN | apply Kd.S_drew)); exact Kd.S_mono (Kd.S_far (p := ⟨gb408, 1, none⟩) (Kd.S_far (p := ⟨gb408, 0, none⟩) (Kd.S_types HO412.out BK408.out (by decide)) (fun _ hk => hk.2) (.int .i64 t409)) (fun _ hk => hk.2) (.slice Ao67 t410.length co67)) (fun _ hk => trivial), mI, mJ, mQ⟩
 rw [if_pos c37] at H
 have c37b0 : (t416 == 2) = true := beq_iff_eq.mpr c37
 have c37b1 : (t416 != 2) = false := bne_eq_false_iff_eq.mpr c37
 clear c37
 replace H := Option.bind_eq_some_iff.mp H
 obtain ⟨⟨t428, t429, t430⟩, A380, H⟩ := H
 try dsimp only at H
 have A38 := Aside0.mk A380
 clear A380
 replace H := Option.bind_eq_some_iff.mp H
 obtain ⟨⟨t431, t432, t433⟩, A390, H⟩ := H
 try dsimp only at H
 have A39 := Aside0.mk A390
 clear A390
 obtain ⟨y434, hy434⟩ : ∃ y_ : List Int, y_ = (([t428, t431] : List Int)) := ⟨_, rfl⟩
 replace H : (if t410.length < 5864062014805 then (some (t409, (t410 ++ [y434]), t432, t433)) else (none)) = some (r1, r2, r3, r4) := by first | (rw [hy434]; with_reducible exact H) | (have H2_ := (Option.bind_some _ _).symm.trans H; rw [hy434]; with_reducible exact H2_) | (have H2_ := (Option.bind_some _ _).symm.trans H; with_reducible exact H2_) | with_reducible exact H | (rw [hy434]; exact H) | exact H
 have Ny434 := Aside0.mk hy434
 clear hy434
 by_cases c40 : t410.length < 5864062014805
 rotate_left
 ·
  rw [if_neg c40] at H
  exact absurd H (by simp)
 rw [if_pos c40] at H
 have LMc40 := Aside0.mk c40
 clear c40
 obtain ⟨y437, hy437⟩ : ∃ y_ : List (List Int), y_ = (t410 ++ [y434]) := ⟨_, rfl⟩
 replace H : (some (t409, y437, t432, t433)) = some (r1, r2, r3, r4) := by first | (rw [hy437]; with_reducible exact H) | (have H2_ := (Option.bind_some _ _).symm.trans H; rw [hy437]; with_reducible exact H2_) | (have H2_ := (Option.bind_some _ _).symm.trans H; with_reducible exact H2_) | with_reducible exact H | (rw [hy437]; exact H) | exact H
 have Ny437 := Aside0.mk hy437
 clear hy437
 simp only [Option.some.injEq, Prod.mk.injEq] at H
 obtain ⟨rfl, rfl, rfl, rfl⟩ := H
 go_enter Try.func99, Try.ntmps99
 try go_wp2_with (first | ((with_reducible refine gate_dst (N := 2) rfl ?_); refine box_event ?hg (N := 2) ?hd (cs := #[.int .i64 0, .slice none 0 0]) (t := 28) ?hr ?_; (case hd => rfl); (case hg => rfl); (case hr => first | (go_simp; done) | (go_simp; rfl)); intro gb408 hg w41 hbox hb; have n0_ := Aside0.mk (IsS88.below (mI) hb); have n1_ := Aside0.mk (KeepBut.trans (mq HK.out) (KeepBut.of_below hb g none) (.inl rfl)); have n2_ := Aside0.mk (below_step (mJ) hb); have n3_ := Aside0.mk (hbox); have n4_ := Aside0.mk ((by rw [hg]; exact (keep_size (w := w) (g := g) (row := none) (mQ)) : w.heap.size ≤ gb408)); have n5_ := Aside0.mk ((Nat.le_trans HW0.out (by rw [hg]; exact (keep_size (w := w) (g := g) (row := none) (mQ)) : w.heap.size ≤ gb408) : w0.heap.size ≤ gb408)); have n6_ := Aside0.mk ((by rw [hg]; exact Nat.ne_of_lt (IsS88.lt (show IsS88 w0 _ g s0_0 s0_1 s0_2 from mI)) : g ≠ gb408)); have n7_ := Aside0.mk ((by rw [hg]; exact Nat.ne_of_gt (IsS88.lt (show IsS88 w0 _ g s0_0 s0_1 s0_2 from mI)) : gb408 ≠ g)); clear HI0 HK HB; have HI0 := n0_; have HK := n1_; have HB := n2_; have BK408 := n3_; have GW408 := n4_; have GE408 := n5_; have NB0_408 := n6_; have NB408_0 := n7_; clear n0_ n1_ n2_ n3_ n4_ n5_ n6_ n7_; clear hb hbox hg) | ((with_reducible refine gate_callee (f := 121) rfl ?_); refine goesL_ (some 5) rfl rfl Try.func121 (by kernel_rfl) rfl #[.pointer (some ⟨g, 0, none⟩)] rfl mA ?_; (with_reducible refine (spec_l4Draw.calls k g s0_0 s0_1 s0_2 t409 t410 t413 t414 w0 _ ?side1 ?side2 A2.out).mono ?_); (case side1 => repeat (first | (with_reducible first | exact HI0.out | apply IsS88.alloc | apply IsS88.drewN | apply IsS88.drew | apply IsS88.set_1 | apply IsS88.set_2 | refine IsS88.far ?_ NB0_408.out _) | exact HI0.out)); (case side2 => repeat (first | (with_reducible first | exact HB.out | apply below_alloc | apply pw_below_drewN | apply below_drew1 | refine below_set ?_ (IsS88.ge HI0.out) | refine below_set ?_ GE408.out) | exact HB.out)); rintro e w42 ⟨v411, rfl, ho0, hi, hb, hk⟩; refine ⟨_, rfl, ?_⟩; have n0_ := Aside0.mk (KeepBut.blk hk (g' := gb408) (o := .cells #[.int .i64 0, .slice none 0 0] 28 (0, 0)) ((mK (BK408.out))) NB408_0.out (by simp)); have n1_ := Aside0.mk (Kd.S_lower ho0 (keep_size (w := w) (g := g) (row := none) (mQ))); have n2_ := Aside0.mk (KeepBut.trans (mq HK.out) hk (.inl rfl)); have n3_ := Aside0.mk (hb); have n4_ := Aside0.mk (hi); clear BK408 HK HB HI0; have BK408 := n0_; have HO412 := n1_; have HK := n2_; have HB := n3_; have HI0 := n4_; clear n0_ n1_ n2_ n3_ n4_; (try clear hb); (try clear ho0)) | ((with_reducible refine gate_dst (N := 3) rfl ?_); refine box_event ?hg (N := 3) ?hd (cs := #[.int .i64 0, .slice none 0 0]) (t := 28) ?hr ?_; (case hd => rfl); (case hg => rfl); (case hr => first | (go_simp; done) | (go_simp; rfl)); intro gb415 hg w43 hbox hb; have n0_ := Aside0.mk (Kd.S_below (mS HO412.out) hb); have n1_ := Aside0.mk (IsS88.below (mI) hb); have n2_ := Aside0.mk (blk_below (g := gb408) (o := .cells #[.int .i64 0, .slice none 0 0] 28 (0, 0)) ((mK (BK408.out))) hb); have n3_ := Aside0.mk (KeepBut.trans (mq HK.out) (KeepBut.of_below hb g none) (.inl rfl)); have n4_ := Aside0.mk (below_step (mJ) hb); have n5_ := Aside0.mk (hbox); have n6_ := Aside0.mk ((by rw [hg]; exact (keep_size (w := w) (g := g) (row := none) (mQ)) : w.heap.size ≤ gb415)); have n7_ := Aside0.mk ((Nat.le_trans HW0.out (by rw [hg]; exact (keep_size (w := w) (g := g) (row := none) (mQ)) : w.heap.size ≤ gb415) : w0.heap.size ≤ gb415)); have n8_ := Aside0.mk ((by rw [hg]; exact Nat.ne_of_lt (blk_lt (g := gb408) (o := .cells #[.int .i64 0, .slice none 0 0] 28 (0, 0)) ((mK (BK408.out)))) : gb408 ≠ gb415)); have n9_ := Aside0.mk ((by rw [hg]; exact Nat.ne_of_gt (blk_lt (g := gb408) (o := .cells #[.int .i64 0, .slice none 0 0] 28 (0, 0)) ((mK (BK408.out)))) : gb415 ≠ gb408)); have n10_ := Aside0.mk ((by rw [hg]; exact Nat.ne_of_lt (IsS88.lt (show IsS88 w0 _ g s0_0 t413 t414 from mI)) : g ≠ gb415)); have n11_ := Aside0.mk ((by rw [hg]; exact Nat.ne_of_gt (IsS88.lt (show IsS88 w0 _ g s0_0 t413 t414 from mI)) : gb415 ≠ g)); clear HO412 HI0 BK408 HK HB; have HO412 := n0_; have HI0 := n1_; have BK408 := n2_; have HK := n3_; have HB := n4_; have BK415 := n5_; have GW415 := n6_; have GE415 := n7_; have NB408_415 := n8_; have NB415_408 := n9_; have NB0_415 := n10_; have NB415_0 := n11_; clear n0_ n1_ n2_ n3_ n4_ n5_ n6_ n7_ n8_ n9_ n10_ n11_; clear hb hbox hg; have hnb44 := NB415_408.out; have hnc44 := NB408_415.out; have hnb45 := NB415_0.out; have hnc45 := NB0_415.out; have hcz46_0 : w43.cell? ⟨gb415, 0, none⟩ = some (.int .i64 0) := (blk_cell BK415.out 0).trans rfl; have hcz46_1 : w43.cell? ⟨gb415, 1, none⟩ = some (.slice none 0 0) := (blk_cell BK415.out 1).trans rfl; have hfz46_0 := blk_frozen BK415.out 0; have hfz46_1 := blk_frozen BK415.out 1; obtain ⟨Ao47, co47, eo47⟩ := Kd.S_slice HO412.out; subst eo47) | ((with_reducible refine gate_callee (f := 116) rfl ?_); refine goesL_ (some 7) rfl rfl Try.func116 (by kernel_rfl) rfl #[.pointer (some ⟨g, 0, none⟩), .int .i64 14] rfl mA ?_; (with_reducible refine (spec_l1Below.calls g s0_0 t413 t414 14 t416 t417 t418 w0 _ ?side1 ?side2 A3.out).mono ?_); (case side1 => repeat (first | (with_reducible first | exact HI0.out | apply IsS88.alloc | apply IsS88.drewN | apply IsS88.drew | apply IsS88.set_1 | apply IsS88.set_2 | refine IsS88.far ?_ NB0_408.out _ | refine IsS88.far ?_ NB0_415.out _) | exact HI0.out)); (case side2 => repeat (first | (with_reducible first | exact HB.out | apply below_alloc | apply pw_below_drewN | apply below_drew1 | refine below_set ?_ (IsS88.ge HI0.out) | refine below_set ?_ GE408.out | refine below_set ?_ GE415.out) | exact HB.out)); rintro e w48 ⟨rfl, hi, hb, hk⟩; refine ⟨_, rfl, ?_⟩; have n0_ := Aside0.mk (KeepBut.blk hk (g' := gb408) (o := .cells #[.int .i64 0, .slice none 0 0] 28 (0, 0)) (by refine pK ?_; refine blk_far ?_ NB408_415.out _; refine pK ?_; refine blk_far ?_ NB408_415.out _; refine pK ?_; exact BK408.out) NB408_0.out (by simp)); have n1_ := Aside0.mk (Kd.S_mono (Kd.S_keep (IsS88.apartS (show IsS88 w0 _ g s0_0 t413 t414 from mI) (mS ((Kd.S_mono (Kd.S_far (p := ⟨gb415, 1, none⟩) (Kd.S_far (p := ⟨gb415, 0, none⟩) (Kd.S_types HO412.out BK415.out (by decide)) (fun _ hk => hk.2) (.int .i64 t409)) (fun _ hk => hk.2) (.slice Ao47 t410.length co47)) (fun _ h_ => h_.1)))) (by decide)) hk (fun _ h => h.2)) (fun _ h => h.1)); have n2_ := Aside0.mk (KeepBut.blk hk (g' := gb415) (o := .cells #[.int .i64 t409, .slice Ao47 t410.length co47] 28 (0, 0)) (by refine pK ?_; refine blk_put (cs := #[.int .i64 t409, .slice none 0 0]) ?_ 1 _ rfl; refine pK ?_; refine blk_put (cs := #[.int .i64 0, .slice none 0 0]) ?_ 0 _ rfl; refine pK ?_; exact BK415.out) NB415_0.out (by simp)); have n3_ := Aside0.mk (KeepBut.trans (mq HK.out) hk (.inl rfl)); have n4_ := Aside0.mk (hb); have n5_ := Aside0.mk (hi); clear BK408 HO412 BK415 HK HB HI0; have BK408 := n0_; have HO412 := n1_; have BK415 := n2_; have HK := n3_; have HB := n4_; have HI0 := n5_; clear n0_ n1_ n2_ n3_ n4_ n5_; (try clear hb)))
 have n0_ := Aside0.mk (Kd.S_drew HO412.out)
 have n1_ := Aside0.mk (blk_drew BK408.out)
 have n2_ := Aside0.mk (blk_drew BK415.out)
 have n3_ := Aside0.mk (IsS88.drew HI0.out)
 have n4_ := Aside0.mk (keep_drew HK.out)
 have n5_ := Aside0.mk (below_drew1 HB.out)
 clear HO412 BK408 BK415 HI0 HK HB; have HO412 := n0_; have BK408 := n1_; have BK415 := n2_; have HI0 := n3_; have HK := n4_; have HB := n5_; clear n0_ n1_ n2_ n3_ n4_ n5_
 refine start_ (n := 11) (S := fun w' => w'.cell? ⟨gb415, 0, none⟩ = some (.int .i64 t409) ∧ w'.cell? ⟨gb415, 1, none⟩ = some (.slice Ao47 t410.length co47)) (ds := [10]) (L_ 0 11) (by kernel_rfl) rfl rfl ⟨(blk_cell BK415.out 0).trans rfl, (blk_cell BK415.out 1).trans rfl⟩ (fun hHeld => ?_); refine with_tabW spec_l4Any.tab8 spec_l4Any.bits8 (fun HT_ HW_ => ?_)
 generalize w48.drew = w49 at HO412 BK408 BK415 HI0 HK HB hHeld ⊢
 refine ps 0 23 (L_ 1 11) HT_.out ?_
 refine ps 2 25 #[true, false, true, false, false, false, false, false, false, false, false] HT_.out ?_
 refine ps 4 27 #[true, false, true, false, true, false, false, false, false, false, false] HT_.out ?_
 refine take_ (i := 1) (N := some 24) (v := ?_) (a' := ?_) #[true, true, true, false, true, false, false, false, false, false, false] rfl rfl (take_ofW HT_.out HW_.out (by kernel_rfl)) (fun _ _ _ h => h) (Or.inl ⟨by rfl, ?_⟩) hHeld ?_ ?_
 rotate_left
 ·
  rintro w' ⟨s0, s1⟩
  go_simp
  with_reducible rfl
 rotate_left
 ·
  simp only [Act.put, List.setIfInBounds_toArray, List.set_cons_zero, List.set_cons_succ, i64_w, i32_w]
  rfl
 refine one_ (i := 3) (N := some 26) (L_ 5 11) rfl rfl (one_of HT_.out (by kernel_rfl)) (by decide) (fun K hK => ?_)
 refine goes_ Try.func116 (by kernel_rfl) rfl #[.pointer (some ⟨g, 0, none⟩), .int .i64 7] (by rfl) rfl rfl mA ?_
 with_reducible refine (spec_l1Below.calls g s0_0 t417 t418 7 t428 t429 t430 w0 _ ?side1 ?side2 A38.out).mono ?_
 (case side1 => repeat (first | (with_reducible first | exact HI0.out | apply IsS88.alloc | apply IsS88.drewN | apply IsS88.drew | apply IsS88.set_1 | apply IsS88.set_2 | refine IsS88.far ?_ NB0_408.out _ | refine IsS88.far ?_ NB0_415.out _) | exact HI0.out))
 (case side2 => repeat (first | (with_reducible first | exact HB.out | apply below_alloc | apply pw_below_drewN | apply below_drew1 | refine below_set ?_ (IsS88.ge HI0.out) | refine below_set ?_ GE408.out | refine below_set ?_ GE415.out) | exact HB.out))
 rintro e w50 ⟨rfl, hi, hb, hk⟩
 refine ⟨_, rfl, ?_⟩
 have n0_ := Aside0.mk (KeepBut.blk hk (g' := gb408) (o := .cells #[.int .i64 0, .slice none 0 0] 28 (0, 0)) ((mK (BK408.out))) NB408_0.out (by simp))
 have n1_ := Aside0.mk (Kd.S_mono (Kd.S_keep (IsS88.apartS (show IsS88 w0 _ g s0_0 t417 t418 from mI) (mS HO412.out) (by decide)) hk (fun _ h => h.2)) (fun _ h => h.1))
 have n2_ := Aside0.mk (KeepBut.blk hk (g' := gb415) (o := .cells #[.int .i64 t409, .slice Ao47 t410.length co47] 28 (0, 0)) ((mK (BK415.out))) NB415_0.out (by simp))
 have n3_ := Aside0.mk (KeepBut.trans (mq HK.out) hk (.inl rfl))
 have n4_ := Aside0.mk (hb)
 have n5_ := Aside0.mk (hi)
 clear BK408 HO412 BK415 HK HB HI0; have BK408 := n0_; have HO412 := n1_; have BK415 := n2_; have HK := n3_; have HB := n4_; have HI0 := n5_; clear n0_ n1_ n2_ n3_ n4_ n5_; (try clear hb)
 refine hK.out _ _ ⟨(blk_cell BK415.out 0).trans rfl, (blk_cell BK415.out 1).trans rfl⟩ (fun hHeld => ?_)
 clear hK K
 refine norm_ (a' := ?_) ?_ ?_
 rotate_left
 ·
  show Act.put _ (some 26) _ = _
  simp only [Act.put, List.setIfInBounds_toArray, List.set_cons_zero, List.set_cons_succ, i64_w, i32_w]
  rfl
 refine one_ (i := 5) (N := some 28) (L_ 6 11) rfl rfl (one_of HT_.out (by kernel_rfl)) (by decide) (fun K hK => ?_)
 refine goes_ Try.func116 (by kernel_rfl) rfl #[.pointer (some ⟨g, 0, none⟩), .int .i64 7] (by rfl) rfl rfl mA ?_
 with_reducible refine (spec_l1Below.calls g s0_0 t429 t430 7 t431 t432 t433 w0 _ ?side1 ?side2 A39.out).mono ?_
 (case side1 => repeat (first | (with_reducible first | exact HI0.out | apply IsS88.alloc | apply IsS88.drewN | apply IsS88.drew | apply IsS88.set_1 | apply IsS88.set_2 | refine IsS88.far ?_ NB0_408.out _ | refine IsS88.far ?_ NB0_415.out _) | exact HI0.out))
 (case side2 => repeat (first | (with_reducible first | exact HB.out | apply below_alloc | apply pw_below_drewN | apply below_drew1 | refine below_set ?_ (IsS88.ge HI0.out) | refine below_set ?_ GE408.out | refine below_set ?_ GE415.out) | exact HB.out))
 rintro e w51 ⟨rfl, hi, hb, hk⟩
 refine ⟨_, rfl, ?_⟩
 have n0_ := Aside0.mk (KeepBut.blk hk (g' := gb408) (o := .cells #[.int .i64 0, .slice none 0 0] 28 (0, 0)) ((mK (BK408.out))) NB408_0.out (by simp))
 have n1_ := Aside0.mk (Kd.S_mono (Kd.S_keep (IsS88.apartS (show IsS88 w0 _ g s0_0 t429 t430 from mI) (mS HO412.out) (by decide)) hk (fun _ h => h.2)) (fun _ h => h.1))
 have n2_ := Aside0.mk (KeepBut.blk hk (g' := gb415) (o := .cells #[.int .i64 t409, .slice Ao47 t410.length co47] 28 (0, 0)) ((mK (BK415.out))) NB415_0.out (by simp))
 have n3_ := Aside0.mk (KeepBut.trans (mq HK.out) hk (.inl rfl))
 have n4_ := Aside0.mk (hb)
 have n5_ := Aside0.mk (hi)
 clear BK408 HO412 BK415 HK HB HI0; have BK408 := n0_; have HO412 := n1_; have BK415 := n2_; have HK := n3_; have HB := n4_; have HI0 := n5_; clear n0_ n1_ n2_ n3_ n4_ n5_; (try clear hb)
 refine hK.out _ _ ⟨(blk_cell BK415.out 0).trans rfl, (blk_cell BK415.out 1).trans rfl⟩ (fun hHeld => ?_)
 clear hK K
 refine norm_ (a' := ?_) ?_ ?_
 rotate_left
 ·
  show Act.put _ (some 28) _ = _
  simp only [Act.put, List.setIfInBounds_toArray, List.set_cons_zero, List.set_cons_succ, i64_w, i32_w]
  rfl
 refine one_ (i := 6) (N := some 29) (L_ 7 11) rfl rfl (one_of HT_.out (by kernel_rfl)) (by decide) (fun K hK => ?_)
 refine Kd.R_lit_step (Kd.int .i64) _ 3 ?hg (N := 29) ?hd (xs := ([t428, t431] : List Int)) (inner := [.int .i64 t428, .int .i64 t431]) (ok := fun _ => True) (okp := fun _ => True) ?hr ?hp (fun _ hk => hk) trivial (Below.refl _ _) (Nat.le_refl _) (by simp) ?_; (case hd => rfl); (case hg => rfl); (case hr => first | (go_simp; done) | (go_simp; rfl)); (case hp => exact (Reps.one (show Kd.M (Kd.int .i64) _ _ _ t428 [.int .i64 t428] from rfl) (Reps.one (show Kd.M (Kd.int .i64) _ _ _ t431 [.int .i64 t431] from rfl) (Reps.none _ _))))
 intro v435 w52 ho53 hb hg_ hnew_
 clear hg_ hnew_
 (first | rw [← Ny434.out] at ho53 | (simp only [Int.reduceToNat] at ho53; rw [← Ny434.out] at ho53))
 have n0_ := Aside0.mk (Kd.S_elder' (mS HO412.out) (Kd.R_base ho53) hb)
 have n1_ := Aside0.mk (Kd.R_lower ho53 (keep_size (w := w) (g := g) (row := none) (mQ)))
 have n2_ := Aside0.mk (IsS88.below (mI) hb)
 have n3_ := Aside0.mk (blk_below (g := gb408) (o := .cells #[.int .i64 0, .slice none 0 0] 28 (0, 0)) ((mK (BK408.out))) hb)
 have n4_ := Aside0.mk (blk_below (g := gb415) (o := .cells #[.int .i64 t409, .slice Ao47 t410.length co47] 28 (0, 0)) ((mK (BK415.out))) hb)
 have n5_ := Aside0.mk (KeepBut.trans (mq HK.out) (KeepBut.of_below hb g none) (.inl rfl))
 have n6_ := Aside0.mk (below_step (mJ) hb)
 clear HO412 HI0 BK408 BK415 HK HB; have HO412 := n0_; have HO436 := n1_; have HI0 := n2_; have BK408 := n3_; have BK415 := n4_; have HK := n5_; have HB := n6_; clear n0_ n1_ n2_ n3_ n4_ n5_ n6_; clear hb ho53
 obtain ⟨Ao55, co55, eo55⟩ := Kd.R_slice HO436.out
 (first | subst eo55 | (injection eo55 with f1_ f2_ f3_; have f4_ := f1_.symm; have f5_ := f3_.symm; clear f1_ f2_ f3_; subst f4_; subst f5_))
 refine hK.out _ _ ⟨(blk_cell BK415.out 0).trans rfl, (blk_cell BK415.out 1).trans rfl⟩ (fun hHeld => ?_)
 clear hK K
 refine norm_ (a' := ?_) ?_ ?_
 rotate_left
 ·
  show Act.put _ (some 29) _ = _
  simp only [Act.put, List.setIfInBounds_toArray, List.set_cons_zero, List.set_cons_succ, i64_w, i32_w]
  rfl
 refine one_ (i := 7) (N := some 30) (L_ 8 11) rfl rfl (one_of HT_.out (by kernel_rfl)) (by decide) (fun K hK => ?_)
 refine value_ (w1 := ?_) (v := ?_) (by rfl) rfl ?_ ?_
 rotate_left 2
 ·
  go_simp
  constructor
  ·
   rfl
  ·
   rfl
 refine hK.out _ _ ⟨(blk_cell (blk_alloc BK415.out _) 0).trans rfl, (blk_cell (blk_alloc BK415.out _) 1).trans rfl⟩ (fun hHeld => ?_)
 clear hK K
 refine norm_ (a' := ?_) ?_ ?_
 rotate_left
 ·
  show Act.put _ (some 30) _ = _
  simp only [Act.put, List.setIfInBounds_toArray, List.set_cons_zero, List.set_cons_succ, i64_w, i32_w]
  rfl
 refine one_ (i := 8) (N := some 31) (L_ 9 11) rfl rfl (one_of HT_.out (by kernel_rfl)) (by decide) (fun K hK => ?_)
 refine Kd.S_append_step (Kd.slice 3 (Kd.int .i64)) w.heap.size (by rfl) (.tmp 24) (.tmp 30) 22 25 (.slice none 0 0) 24 rfl Try.underlying22 info25 rfl (by decide) (by omega) (.slice Ao47 t410.length co47) t410 y434 [.slice Ao55 y434.length co55] (fun _ => True) (fun k_ => some k_ = (.slice Ao55 y434.length co55 : Value).ownBlock) rfl rfl ?aP (fun k_ hk_ => ((Kd.R_mono (ok' := fun k_ => ((fun _ => True)) k_ ∧ some k_ ≠ (.slice Ao47 t410.length co47 : Value).ownBlock) (Kd.R_apart' (HO436.out) (Kd.S_typed HO412.out) (by decide)) (fun k_ hk => ⟨trivial, hk.2⟩))).1 k_ hk_.symm) ?aF ?aO (Below.refl _ _) ?aS ?aL ?_
 (case aP => exact Kd.M_row (Kd.R_mono (Kd.R_tight rfl (Kd.R_mono (ok' := fun k_ => ((fun _ => True)) k_ ∧ some k_ ≠ (.slice Ao47 t410.length co47 : Value).ownBlock) (Kd.R_apart' (HO436.out) (Kd.S_typed HO412.out) (by decide)) (fun k_ hk => ⟨trivial, hk.2⟩))) (fun _ h_ => h_)))
 (case aF => exact (fun _ _ => trivial))
 (case aO => exact (mS (Kd.S_mono HO412.out (fun k_ hk => ⟨trivial, fun e_ => hk.2 e_⟩))))
 (case aS => exact (keep_size (w := w) (g := g) (row := none) (mQ)))
 (case aL => have := LMc40.out; omega)
 intro v438 w54 ho hb hg hat
 rw [← Ny437.out] at ho
 have n0_ := Aside0.mk (IsS88.grown (mI) hg (IsS88.own_neS HI0.out HO412.out (by decide)))
 have n1_ := Aside0.mk (blk_grown (g := gb408) (o := .cells #[.int .i64 0, .slice none 0 0] 28 (0, 0)) ((mK (BK408.out))) hg (Kd.S_ne HO412.out BK408.out (by decide)))
 have n2_ := Aside0.mk (blk_grown (g := gb415) (o := .cells #[.int .i64 t409, .slice Ao47 t410.length co47] 28 (0, 0)) ((mK (BK415.out))) hg (Kd.S_ne HO412.out BK415.out (by decide)))
 have n3_ := Aside0.mk (below_weaken (mJ) HL.out hb)
 have n4_ := Aside0.mk (KeepBut.trans (mq HK.out) (KeepBut.of_grown hg g) (Kd.S_base2 HO412.out))
 have n5_ := Aside0.mk (ho)
 clear HI0 BK408 BK415 HB HK HO412 HO436; have HI0 := n0_; have BK408 := n1_; have BK415 := n2_; have HB := n3_; have HK := n4_; have HO439 := n5_; clear n0_ n1_ n2_ n3_ n4_ n5_; clear ho hb hg hat
 obtain ⟨Ao56, co56, eo56⟩ := Kd.S_slice HO439.out
 (first | subst eo56 | (injection eo56 with f1_ f2_ f3_; have f4_ := f1_.symm; have f5_ := f3_.symm; clear f1_ f2_ f3_; subst f4_; subst f5_))
 refine hK.out _ _ ⟨(blk_cell BK415.out 0).trans rfl, (blk_cell BK415.out 1).trans rfl⟩ (fun hHeld => ?_)
 clear hK K
 refine norm_ (a' := ?_) ?_ ?_
 rotate_left
 ·
  show Act.put _ (some 31) _ = _
  simp only [Act.put, List.setIfInBounds_toArray, List.set_cons_zero, List.set_cons_succ, i64_w, i32_w]
  rfl
 refine ps 9 32 (L_ 10 11) HT_.out ?_
 refine last_ (i := 10) (N := none) (L_ 11 11) rfl rfl (one_of HT_.out (by kernel_rfl)) (by decide) (fun K hK => ?_)
 have hs57 : w54.cell? ⟨gb415, 1, none⟩ = some (.slice Ao47 t410.length co47) := (blk_cell BK415.out 1).trans rfl
 have hfs57 := blk_frozen BK415.out 1
 have hns57_0 := NB408_415.out
 have hms57_0 := NB415_408.out
 refine skip_ (w1 := ?_) (by rfl) rfl ?_ ?_
 rotate_left
 ·
  go_simp
  rfl
 refine hK.out _ _ ?_
 clear hK K
 refine done_ (done_of HT_.out (by kernel_rfl)) ?_
 have hcz58_0 : w54.cell? ⟨gb415, 0, none⟩ = some (.int .i64 t409) := (blk_cell BK415.out 0).trans rfl
 have hcz58_1 : w54.cell? ⟨gb415, 1, none⟩ = some (.slice Ao47 t410.length co47) := (blk_cell BK415.out 1).trans rfl
 have hfz58_0 := blk_frozen BK415.out 0
 have hfz58_1 := blk_frozen BK415.out 1
 have hnb59 := NB408_0.out
 have hnc59 := NB0_408.out
 have hcz60_0 : w54.cell? ⟨gb408, 0, none⟩ = some (.int .i64 0) := (blk_cell BK408.out 0).trans rfl
 have hcz60_1 : w54.cell? ⟨gb408, 1, none⟩ = some (.slice none 0 0) := (blk_cell BK408.out 1).trans rfl
 have hfz60_0 := blk_frozen BK408.out 0
 have hfz60_1 := blk_frozen BK408.out 1
 try go_wp2
 refine bodyPost_ret (results_cell_row rfl _ _ gb408 28 #[.int .i64 t409, .slice Ao56 y437.length co56] (0, 0) _ rfl (by refine pK ?_; refine blk_put (cs := #[.int .i64 t409, .slice none 0 0]) ?_ 1 _ rfl; refine pK ?_; refine blk_put (cs := #[.int .i64 0, .slice none 0 0]) ?_ 0 _ rfl; refine pK ?_; refine blk_far ?_ NB408_415.out _; refine pK ?_; exact BK408.out) Try.underlying28 rfl (by kernel_rfl)) rfl ?_
 exact ⟨_, mE, by (with_reducible repeat (first | apply Kd.S_alloc | apply Kd.S_drewN | apply Kd.S_drew)); exact Kd.S_mono (Kd.S_far (p := ⟨gb408, 1, none⟩) (Kd.S_far (p := ⟨gb408, 0, none⟩) (Kd.S_far (p := ⟨gb415, 1, none⟩) (Kd.S_types (Kd.S_types HO439.out BK415.out (by decide)) BK408.out (by decide)) (fun _ hk => hk.1.2) (.slice Ao56 y437.length co56)) (fun _ hk => hk.2) (.int .i64 t409)) (fun _ hk => hk.2) (.slice Ao56 y437.length co56)) (fun _ hk => trivial), mI, mJ, mQ⟩
/-! ### spec_l1Once: function 104 -/
def spec_l1Once.f (s0_0 : List Int) (s0_1 : Int) (s0_2 : Int) (a1 : Int) : Option (Bool × Int × Int) := (spec_l1Below.f s0_0 s0_1 s0_2 a1).bind fun bt440 => (some ((bt440.1 == 0), bt440.2.1, bt440.2.2))
set_option maxHeartbeats 8000000 in
set_option maxRecDepth 100000 in
theorem spec_l1Once.calls (g : Nat) (s0_0 : List Int) (s0_1 : Int) (s0_2 : Int) (a1 : Int) (r1 : Bool) (r2 : Int) (r3 : Int) (w0 w : World) (hI : IsS88 w0 w g s0_0 s0_1 s0_2) (hB : Below w0.heap.size w0 w) (h : spec_l1Once.f s0_0 s0_1 s0_2 a1 = some (r1, r2, r3)) :
  Calls Try.prog 104 #[.pointer (some ⟨g, 0, none⟩), .int .i64 a1] w fun e w' => e = .returned (.bool r1) ∧ IsS88 w0 w' g s0_0 r2 r3 ∧ Below w0.heap.size w0 w' ∧ KeepBut w w' g none := by
 have HI0 := Aside0.mk hI
 have HK := Aside0.mk (KeepBut.refl w g none)
 have HL := Aside0.mk hB.size
 clear hI
 have HW0 := Aside0.mk hB.size
 have HB := Aside0.mk hB
 clear hB
 have H : ((spec_l1Below.f s0_0 s0_1 s0_2 a1).bind fun bt440 => (some ((bt440.1 == 0), bt440.2.1, bt440.2.2))) = some (r1, r2, r3) := h
 clear h
 replace H := Option.bind_eq_some_iff.mp H
 obtain ⟨⟨t440, t441, t442⟩, A30, H⟩ := H
 try dsimp only at H
 have A3 := Aside0.mk A30
 clear A30
 simp only [Option.some.injEq, Prod.mk.injEq] at H
 obtain ⟨rfl, rfl, rfl⟩ := H
 go_enter Try.func104, Try.ntmps104
 go_wp2_with (first | ((with_reducible refine gate_callee (f := 116) rfl ?_); refine goesL_ (some 7) rfl rfl Try.func116 (by kernel_rfl) rfl #[.pointer (some ⟨g, 0, none⟩), .int .i64 a1] rfl mA ?_; (with_reducible refine (spec_l1Below.calls g s0_0 s0_1 s0_2 a1 t440 t441 t442 w0 _ ?side1 ?side2 A3.out).mono ?_); (case side1 => repeat (first | (with_reducible first | exact HI0.out | apply IsS88.alloc | apply IsS88.drewN | apply IsS88.drew | apply IsS88.set_1 | apply IsS88.set_2) | exact HI0.out)); (case side2 => repeat (first | (with_reducible first | exact HB.out | apply below_alloc | apply pw_below_drewN | apply below_drew1 | refine below_set ?_ (IsS88.ge HI0.out)) | exact HB.out)); rintro e w4 ⟨rfl, hi, hb, hk⟩; refine ⟨_, rfl, ?_⟩; have n0_ := Aside0.mk (KeepBut.trans (mq HK.out) hk (.inl rfl)); have n1_ := Aside0.mk (hb); have n2_ := Aside0.mk (hi); clear HK HB HI0; have HK := n0_; have HB := n1_; have HI0 := n2_; clear n0_ n1_ n2_; (try clear hb)))
 go_ret
 exact ⟨mE, mI, mJ, mQ⟩

/-! ### spec_Min: function 123 -/
def spec_Min.f (a0 : Int) (a1 : Int) : Option (Int) := if a1 < a0 then (some a1) else (some a0)
set_option maxHeartbeats 8000000 in
set_option maxRecDepth 100000 in
theorem spec_Min.calls (a0 : Int) (a1 : Int) (r : Int) (w : World) (h : spec_Min.f a0 a1 = some r) :
  Calls Try.prog 123 #[.int .i64 a0, .int .i64 a1] w fun e w' => e = .returned (.int .i64 r) ∧ Drawn0 w w' := by
 have H : (if a1 < a0 then (some a1) else (some a0)) = some r := h
 clear h
 by_cases c3 : a1 < a0
 ·
  rw [if_pos c3] at H
  have c3b0 : decide (a1 < a0) = true := decide_eq_true c3
  clear c3
  obtain rfl := Option.some.inj H
  go_enter Try.func123, Try.ntmps123
  go_wp2
  go_ret
  exact ⟨mF, by repeat (first | exact Drawn0.refl _ | apply Drawn0.step)⟩
 rw [if_neg c3] at H
 have c3b0 : decide (a1 < a0) = false := decide_eq_false c3
 clear c3
 obtain rfl := Option.some.inj H
 go_enter Try.func123, Try.ntmps123
 go_wp2
 go_ret
 exact ⟨mF, by repeat (first | exact Drawn0.refl _ | apply Drawn0.step)⟩
/-! ### spec_l4Set: function 100 -/
def spec_l4Set.l0 : Nat → List Int → Int → List Int → Int → Int → Int → List (List Int) → Option (List Int × Int × Int)
 | 0, _, _, _, _, _, _, _ => none
 | k + 1, x5, x6, x1000, x1001, x1002, x444000, x444001 => (spec_Min.f 12 x444000).bind fun t447 => (if x6 < t447 then ((spec_l1Once.f x1000 x1001 x1002 3).bind fun bt448 => (if bt448.1 = true then (if x5.length < 17592186044416 then (spec_l4Set.l0 k (x5 ++ [x6]) (wrap64 (x6 + 1)) x1000 bt448.2.1 bt448.2.2 x444000 x444001) else (none)) else (spec_l4Set.l0 k x5 (wrap64 (x6 + 1)) x1000 bt448.2.1 bt448.2.2 x444000 x444001))) else (some (x5, x1001, x1002)))
def spec_l4Set.f (k : Nat) (s0_0 : List Int) (s0_1 : Int) (s0_2 : Int) (a1_0 : Int) (l1_1 : List (List Int)) : Option (List Int × Int × Int) := spec_l4Set.l0 k (([] : List Int)) 0 s0_0 s0_1 s0_2 a1_0 l1_1
theorem spec_l4Set.mono_l : ∀ k, (∀ y0 y1 y2 y3 y4 y5 y6, LeO (spec_l4Set.l0 k y0 y1 y2 y3 y4 y5 y6) (spec_l4Set.l0 (k + 1) y0 y1 y2 y3 y4 y5 y6))
 | 0 => fun _ _ _ _ _ _ _ r h => by simp [spec_l4Set.l0] at h
 | k + 1 => by
  have ih0 := spec_l4Set.mono_l k
  ·
   intro y0 y1 y2 y3 y4 y5 y6
   unfold spec_l4Set.l0
   repeat' with_reducible first | exact ih0 _ _ _ _ _ _ _ | exact LeO.refl _ | exact LeO.none _ | refine LeO.ite ?_ ?_ | refine LeO.bind ?_ (fun _ => ?_)
theorem spec_l4Set.mono : ∀ a0 a1 a2 a3 a4 k, LeO (spec_l4Set.f k a0 a1 a2 a3 a4) (spec_l4Set.f (k + 1) a0 a1 a2 a3 a4) := by
 intro a0 a1 a2 a3 a4 k
 have ih0 := spec_l4Set.mono_l k
 unfold spec_l4Set.f
 repeat' with_reducible first | exact ih0 _ _ _ _ _ _ _ | exact LeO.refl _ | exact LeO.none _ | refine LeO.ite ?_ ?_ | refine LeO.bind ?_ (fun _ => ?_)
set_option maxHeartbeats 8000000 in
set_option maxRecDepth 100000 in
theorem spec_l4Set.calls (k : Nat) (g : Nat) (s0_0 : List Int) (s0_1 : Int) (s0_2 : Int) (a1_0 : Int) (A1_1 : Option Addr) (c1_1 : Nat) (l1_1 : List (List Int)) (r1 : List Int) (r2 : Int) (r3 : Int) (w0 w : World) (hI : IsS88 w0 w g s0_0 s0_1 s0_2) (hB : Below w0.heap.size w0 w) (hr1_1 : ∀ W_, KeepBut w W_ g none → Kd.C (Kd.slice 3 (Kd.int .i64)) W_ A1_1 l1_1.length l1_1) (hc1_1 : l1_1.length ≤ c1_1) (h : spec_l4Set.f k s0_0 s0_1 s0_2 a1_0 l1_1 = some (r1, r2, r3)) :
  Calls Try.prog 100 #[.pointer (some ⟨g, 0, none⟩), .agg #[.int .i64 a1_0, .slice A1_1 l1_1.length c1_1]] w fun e w' => ∃ v0_ : Value, e = .returned (v0_) ∧ Kd.R (Kd.int .i64) 3 w' w.heap.size (fun _ => True) v0_ r1 ∧ IsS88 w0 w' g s0_0 r2 r3 ∧ Below w0.heap.size w0 w' ∧ KeepBut w w' g none := by
 have hu28 := Try.underlying28
 have HR1_1 := Aside0.mk hr1_1
 have HC1_1 := Aside0.mk hc1_1
 clear hr1_1 hc1_1
 have HI0 := Aside0.mk hI
 have HK := Aside0.mk (KeepBut.refl w g none)
 have HL := Aside0.mk hB.size
 clear hI
 have HW0 := Aside0.mk hB.size
 have HB := Aside0.mk hB
 clear hB
 have H : (spec_l4Set.l0 k (([] : List Int)) 0 s0_0 s0_1 s0_2 a1_0 l1_1) = some (r1, r2, r3) := h
 clear h
 obtain ⟨y444, hy444⟩ : ∃ y_ : List Int, y_ = (([] : List Int)) := ⟨_, rfl⟩
 replace H : (spec_l4Set.l0 k y444 0 s0_0 s0_1 s0_2 a1_0 l1_1) = some (r1, r2, r3) := by first | (rw [hy444]; with_reducible exact H) | (have H2_ := (Option.bind_some _ _).symm.trans H; rw [hy444]; with_reducible exact H2_) | (have H2_ := (Option.bind_some _ _).symm.trans H; with_reducible exact H2_) | with_reducible exact H | (rw [hy444]; exact H) | exact H
 have Ny444 := Aside0.mk hy444
 clear hy444
 have H' := Aside0.mk H
 clear H
 go_enter Try.func100, Try.ntmps100
 go_wp2_with (first | ((with_reducible refine gate_dst (N := 3) rfl ?_); refine box_event ?hg (N := 3) ?hd (cs := #[.int .i64 a1_0, .slice A1_1 l1_1.length c1_1]) (t := 28) ?hr ?_; (case hd => rfl); (case hg => rfl); (case hr => first | (go_simp; done) | (go_simp; rfl)); intro gb443 hg w3 hbox hb; have n0_ := Aside0.mk (IsS88.below (mI) hb); have n1_ := Aside0.mk (KeepBut.trans (mq HK.out) (KeepBut.of_below hb g none) (.inl rfl)); have n2_ := Aside0.mk (below_step (mJ) hb); have n3_ := Aside0.mk (hbox); have n4_ := Aside0.mk ((by rw [hg]; exact (keep_size (w := w) (g := g) (row := none) (mQ)) : w.heap.size ≤ gb443)); have n5_ := Aside0.mk ((Nat.le_trans HW0.out (by rw [hg]; exact (keep_size (w := w) (g := g) (row := none) (mQ)) : w.heap.size ≤ gb443) : w0.heap.size ≤ gb443)); have n6_ := Aside0.mk ((by rw [hg]; exact Nat.ne_of_lt (IsS88.lt (show IsS88 w0 _ g s0_0 s0_1 s0_2 from mI)) : g ≠ gb443)); have n7_ := Aside0.mk ((by rw [hg]; exact Nat.ne_of_gt (IsS88.lt (show IsS88 w0 _ g s0_0 s0_1 s0_2 from mI)) : gb443 ≠ g)); clear HI0 HK HB; have HI0 := n0_; have HK := n1_; have HB := n2_; have BK443 := n3_; have GW443 := n4_; have GE443 := n5_; have NB0_443 := n6_; have NB443_0 := n7_; clear n0_ n1_ n2_ n3_ n4_ n5_ n6_ n7_; clear hb hbox hg) | ((with_reducible refine gate_dst (N := 7) rfl ?_); refine Kd.R_lit (Kd.int .i64) _ 3 ?hg (N := 7) ?hd (xs := ([] : List Int)) (inner := []) (ok := fun _ => True) (okp := fun _ => True) ?hr ?hp (fun _ hk => hk) trivial (Below.refl _ _) (Nat.le_refl _) (by simp) ?_; (case hd => rfl); (case hg => rfl); (case hr => first | (go_simp; done) | (go_simp; rfl)); (case hp => exact (Reps.none _ _)); intro v445 w4 ho5 hb hg_ hnew_; clear hg_ hnew_; (first | rw [← Ny444.out] at ho5 | (simp only [Int.reduceToNat] at ho5; rw [← Ny444.out] at ho5)); have n0_ := Aside0.mk (Kd.R_lower ho5 (keep_size (w := w) (g := g) (row := none) (mQ))); have n1_ := Aside0.mk (IsS88.below (mI) hb); have n2_ := Aside0.mk (blk_below (g := gb443) (o := .cells #[.int .i64 a1_0, .slice A1_1 l1_1.length c1_1] 28 (0, 0)) ((mK (BK443.out))) hb); have n3_ := Aside0.mk (KeepBut.trans (mq HK.out) (KeepBut.of_below hb g none) (.inl rfl)); have n4_ := Aside0.mk (below_step (mJ) hb); clear HI0 BK443 HK HB; have HO446 := n0_; have HI0 := n1_; have BK443 := n2_; have HK := n3_; have HB := n4_; clear n0_ n1_ n2_ n3_ n4_; clear hb ho5))
 go_loopg [5, 6] k (fun kq v5 v6 w' => ∃ (x5_1 : List Int) (x6_1 : Int) (x1001_1 : Int) (x1002_1 : Int), v6 = .int .i64 x6_1 ∧ Aside0 (spec_l4Set.l0 kq x5_1 x6_1 s0_0 x1001_1 x1002_1 a1_0 l1_1 = some (r1, r2, r3)) ∧ Aside0 (kq ≤ k) ∧ Aside0 (Kd.R (Kd.int .i64) 3 w' w.heap.size (fun _ => True) v5 x5_1) ∧ Aside0 (w'.heap[gb443]? = some (.cells #[.int .i64 a1_0, (.slice A1_1 l1_1.length c1_1)] 28 (0, 0))) ∧ Aside0 (IsS88 w0 w' g s0_0 x1001_1 x1002_1) ∧ Aside0 (KeepBut w w' g none) ∧ Aside0 (Below w0.heap.size w0 w'))
 case atStart => exact ⟨(y444), (0), (s0_1), (s0_2), mF, H', ⟨Nat.le_refl _⟩, ⟨mR HO446.out⟩, ⟨(mK (BK443.out))⟩, ⟨mI⟩, ⟨mQ⟩, ⟨mJ⟩⟩
 case round =>
  clear H'
  obtain ⟨x5_1, x6_1, x1001_1, x1002_1, rfl, HA, HK1, HO_5, BK443, HI0, HK, HB⟩ := hrel
  cases gk with
  | zero => exact absurd HA.out (by simp [spec_l4Set.l0])
  | succ k1 =>
   have H := HA.out
   clear HA
   simp only [spec_l4Set.l0] at H
   replace H := Option.bind_eq_some_iff.mp H
   obtain ⟨t447, A60, H⟩ := H
   have A6 := Aside0.mk A60
   clear A60
   by_cases c7 : x6_1 < t447
   rotate_left
   ·
    rw [if_neg c7] at H
    have c7b0 : decide (x6_1 < t447) = false := decide_eq_false c7
    clear c7
    simp only [Option.some.injEq, Prod.mk.injEq] at H
    obtain ⟨rfl, rfl, rfl⟩ := H
    have hnb18 := NB443_0.out
    have hnc18 := NB0_443.out
    have hcz19_0 : wr.cell? ⟨gb443, 0, none⟩ = some (.int .i64 a1_0) := (blk_cell BK443.out 0).trans rfl
    have hcz19_1 : wr.cell? ⟨gb443, 1, none⟩ = some (.slice A1_1 l1_1.length c1_1) := (blk_cell BK443.out 1).trans rfl
    have hfz19_0 := blk_frozen BK443.out 0
    have hfz19_1 := blk_frozen BK443.out 1
    go_wp2_with (first | ((with_reducible refine gate_callee (f := 123) rfl ?_); refine goesL_ (some 11) rfl rfl Try.func123 (by kernel_rfl) rfl #[.int .i64 12, .int .i64 a1_0] rfl mA ?_; (with_reducible refine (spec_Min.calls 12 a1_0 t447 _ A6.out).mono ?_); rintro e w' ⟨rfl, ⟨nd, rfl⟩⟩; refine ⟨_, rfl, ?_⟩))
    go_ret
    exact ⟨_, mE, by (with_reducible repeat (first | apply Kd.R_alloc | apply Kd.R_drewN | apply Kd.R_drew)); exact HO_5.out, mI, mJ, mQ⟩
   rw [if_pos c7] at H
   have c7b0 : decide (x6_1 < t447) = true := decide_eq_true c7
   clear c7
   replace H := Option.bind_eq_some_iff.mp H
   obtain ⟨⟨t448, t449, t450⟩, A80, H⟩ := H
   try dsimp only at H
   have A8 := Aside0.mk A80
   clear A80
   by_cases c9 : t448 = true
   rotate_left
   ·
    replace c9 := Bool.eq_false_iff.mpr c9
    subst c9
    rw [if_neg (show ¬ (false = true) by decide)] at H
    have H' := Aside0.mk H
    clear H
    have hnb15 := NB443_0.out
    have hnc15 := NB0_443.out
    have hcz16_0 : wr.cell? ⟨gb443, 0, none⟩ = some (.int .i64 a1_0) := (blk_cell BK443.out 0).trans rfl
    have hcz16_1 : wr.cell? ⟨gb443, 1, none⟩ = some (.slice A1_1 l1_1.length c1_1) := (blk_cell BK443.out 1).trans rfl
    have hfz16_0 := blk_frozen BK443.out 0
    have hfz16_1 := blk_frozen BK443.out 1
    go_wp2_with (first | ((with_reducible refine gate_callee (f := 123) rfl ?_); refine goesL_ (some 11) rfl rfl Try.func123 (by kernel_rfl) rfl #[.int .i64 12, .int .i64 a1_0] rfl mA ?_; (with_reducible refine (spec_Min.calls 12 a1_0 t447 _ A6.out).mono ?_); rintro e w' ⟨rfl, ⟨nd, rfl⟩⟩; refine ⟨_, rfl, ?_⟩) | ((with_reducible refine gate_callee (f := 104) rfl ?_); refine goesL_ (some 16) rfl rfl Try.func104 (by kernel_rfl) rfl #[.pointer (some ⟨g, 0, none⟩), .int .i64 3] rfl mA ?_; (with_reducible refine (spec_l1Once.calls g s0_0 x1001_1 x1002_1 3 false t449 t450 w0 _ ?side1 ?side2 A8.out).mono ?_); (case side1 => repeat (first | (with_reducible first | exact HI0.out | apply IsS88.alloc | apply IsS88.drewN | apply IsS88.drew | apply IsS88.set_1 | apply IsS88.set_2 | refine IsS88.far ?_ NB0_443.out _) | exact HI0.out)); (case side2 => repeat (first | (with_reducible first | exact HB.out | apply below_alloc | apply pw_below_drewN | apply below_drew1 | refine below_set ?_ (IsS88.ge HI0.out) | refine below_set ?_ GE443.out) | exact HB.out)); rintro e w17 ⟨rfl, hi, hb, hk⟩; refine ⟨_, rfl, ?_⟩; have n0_ := Aside0.mk (Kd.R_mono (Kd.R_keep (IsS88.apart (show IsS88 w0 _ g s0_0 x1001_1 x1002_1 from mI) (mR HO_5.out) (by decide)) hk (fun _ h => h.2)) (fun _ h => h.1)); have n1_ := Aside0.mk (KeepBut.blk hk (g' := gb443) (o := .cells #[.int .i64 a1_0, .slice A1_1 l1_1.length c1_1] 28 (0, 0)) ((mK (BK443.out))) NB443_0.out (by simp)); have n2_ := Aside0.mk (KeepBut.trans (mq HK.out) hk (.inl rfl)); have n3_ := Aside0.mk (hb); have n4_ := Aside0.mk (hi); clear HO_5 BK443 HK HB HI0; have HO_5 := n0_; have BK443 := n1_; have HK := n2_; have HB := n3_; have HI0 := n4_; clear n0_ n1_ n2_ n3_ n4_; (try clear hb)))
    go_roundg k1
    case measure => have := HK1.out; omega
    case rel => exact ⟨(x5_1), (wrap64 (x6_1 + 1)), (t449), (t450), mF, H', ⟨by have := HK1.out; omega⟩, ⟨mR HO_5.out⟩, ⟨(mK (BK443.out))⟩, ⟨mI⟩, ⟨mQ⟩, ⟨mJ⟩⟩
   subst c9
   rw [if_pos rfl] at H
   by_cases c10 : x5_1.length < 17592186044416
   rotate_left
   ·
    rw [if_neg c10] at H
    exact absurd H (by simp)
   rw [if_pos c10] at H
   have LMc10 := Aside0.mk c10
   clear c10
   obtain ⟨y451, hy451⟩ : ∃ y_ : List Int, y_ = (x5_1 ++ [x6_1]) := ⟨_, rfl⟩
   replace H : (spec_l4Set.l0 k1 y451 (wrap64 (x6_1 + 1)) s0_0 t449 t450 a1_0 l1_1) = some (r1, r2, r3) := by first | (rw [hy451]; with_reducible exact H) | (have H2_ := (Option.bind_some _ _).symm.trans H; rw [hy451]; with_reducible exact H2_) | (have H2_ := (Option.bind_some _ _).symm.trans H; with_reducible exact H2_) | with_reducible exact H | (rw [hy451]; exact H) | exact H
   have Ny451 := Aside0.mk hy451
   clear hy451
   have H' := Aside0.mk H
   clear H
   have hnb11 := NB443_0.out
   have hnc11 := NB0_443.out
   have hcz12_0 : wr.cell? ⟨gb443, 0, none⟩ = some (.int .i64 a1_0) := (blk_cell BK443.out 0).trans rfl
   have hcz12_1 : wr.cell? ⟨gb443, 1, none⟩ = some (.slice A1_1 l1_1.length c1_1) := (blk_cell BK443.out 1).trans rfl
   have hfz12_0 := blk_frozen BK443.out 0
   have hfz12_1 := blk_frozen BK443.out 1
   go_wp2_with (first | ((with_reducible refine gate_callee (f := 123) rfl ?_); refine goesL_ (some 11) rfl rfl Try.func123 (by kernel_rfl) rfl #[.int .i64 12, .int .i64 a1_0] rfl mA ?_; (with_reducible refine (spec_Min.calls 12 a1_0 t447 _ A6.out).mono ?_); rintro e w' ⟨rfl, ⟨nd, rfl⟩⟩; refine ⟨_, rfl, ?_⟩) | ((with_reducible refine gate_callee (f := 104) rfl ?_); refine goesL_ (some 16) rfl rfl Try.func104 (by kernel_rfl) rfl #[.pointer (some ⟨g, 0, none⟩), .int .i64 3] rfl mA ?_; (with_reducible refine (spec_l1Once.calls g s0_0 x1001_1 x1002_1 3 true t449 t450 w0 _ ?side1 ?side2 A8.out).mono ?_); (case side1 => repeat (first | (with_reducible first | exact HI0.out | apply IsS88.alloc | apply IsS88.drewN | apply IsS88.drew | apply IsS88.set_1 | apply IsS88.set_2 | refine IsS88.far ?_ NB0_443.out _) | exact HI0.out)); (case side2 => repeat (first | (with_reducible first | exact HB.out | apply below_alloc | apply pw_below_drewN | apply below_drew1 | refine below_set ?_ (IsS88.ge HI0.out) | refine below_set ?_ GE443.out) | exact HB.out)); rintro e w13 ⟨rfl, hi, hb, hk⟩; refine ⟨_, rfl, ?_⟩; have n0_ := Aside0.mk (Kd.R_mono (Kd.R_keep (IsS88.apart (show IsS88 w0 _ g s0_0 x1001_1 x1002_1 from mI) (mR HO_5.out) (by decide)) hk (fun _ h => h.2)) (fun _ h => h.1)); have n1_ := Aside0.mk (KeepBut.blk hk (g' := gb443) (o := .cells #[.int .i64 a1_0, .slice A1_1 l1_1.length c1_1] 28 (0, 0)) ((mK (BK443.out))) NB443_0.out (by simp)); have n2_ := Aside0.mk (KeepBut.trans (mq HK.out) hk (.inl rfl)); have n3_ := Aside0.mk (hb); have n4_ := Aside0.mk (hi); clear HO_5 BK443 HK HB HI0; have HO_5 := n0_; have BK443 := n1_; have HK := n2_; have HB := n3_; have HI0 := n4_; clear n0_ n1_ n2_ n3_ n4_; (try clear hb)) | ((with_reducible refine gate_builtin (b := .append) (xs := #[.tmp 17, .tmp 19]) rfl ?_); at_builtin; refine Kd.R_append (Kd.int .i64) w.heap.size rfl (.tmp 17) (.tmp 19) 25 3 (.int .i64 0) 8 rfl Try.underlying25 info3 rfl (by decide) (by omega) u5 x5_1 x6_1 [.int .i64 x6_1] (fun _ => True) (fun _ => False) rfl rfl ?aP (fun _ hk => hk.elim) ?aF ?aO (Below.refl _ _) ?aS ?aL ?_; (case aP => exact rfl); (case aF => exact (fun _ _ => trivial)); (case aO => exact (mR HO_5.out)); (case aS => exact (keep_size (w := w) (g := g) (row := none) (mQ))); (case aL => have := LMc10.out; omega); intro v452 w14 ho hb hg hat; rw [← Ny451.out] at ho; have n0_ := Aside0.mk (blk_grown (g := gb443) (o := .cells #[.int .i64 a1_0, .slice A1_1 l1_1.length c1_1] 28 (0, 0)) ((mK (BK443.out))) hg (Kd.R_ne HO_5.out BK443.out (by decide))); have n1_ := Aside0.mk (IsS88.grown (mI) hg (IsS88.own_ne HI0.out HO_5.out (by decide))); have n2_ := Aside0.mk (below_weaken (mJ) HL.out hb); have n3_ := Aside0.mk (KeepBut.trans (mq HK.out) (KeepBut.of_grown hg g) (Kd.R_base2 HO_5.out)); have n4_ := Aside0.mk (ho); clear BK443 HI0 HB HK HO_5; have BK443 := n0_; have HI0 := n1_; have HB := n2_; have HK := n3_; have HO453 := n4_; clear n0_ n1_ n2_ n3_ n4_; clear ho hb hg hat))
   go_roundg k1
   case measure => have := HK1.out; omega
   case rel => exact ⟨(y451), (wrap64 (x6_1 + 1)), (t449), (t450), mF, H', ⟨by have := HK1.out; omega⟩, ⟨mR HO453.out⟩, ⟨(mK (BK443.out))⟩, ⟨mI⟩, ⟨mQ⟩, ⟨mJ⟩⟩
end Go.Proofs.Ytelkfhlnejlheaa.GFnFree
