-- Written by gprint.py, a program of this session, with the printer of the kit as its library. Lean checks it.
import Derived.Test.YtelkfhlnejlheaaGFnFreex0
import Derived.Test.YtelkfhlnejlheaaGFnFreex8
import Derived.Test.YtelkfhlnejlheaaGFnFreex11
namespace Go.Proofs.Ytelkfhlnejlheaa.GFnFree
open Go.RowKit Go.Proofs.YtelkfhlnejlheaaW.PrintWords Go.Proofs.YtelkfhlnejlheaaW.PrintLast Go.Proofs.YtelkfhlnejlheaaW.PrintMore
attribute [local go_sem] max2_int min2_int max_two min_two max_three min_three max_four min_four   -- for this text's walks alone
set_option linter.unusedVariables false
set_option linter.unusedSimpArgs false

/-! ### spec_DrawHitBy: function 54 -/
def spec_DrawHitBy.f (k : Nat) (l0 : List Int) : Option (Int × (List (List Int)) × List Int) := (spec_l1New.f k l0).bind fun bt455 => ((spec_l4Any.f k bt455.1 bt455.2.1 bt455.2.2).bind fun bt459 => ((spec_l4Set.f k bt455.1 bt459.2.2.1 bt459.2.2.2 bt459.1 bt459.2.1).bind fun bt466 => (some (bt459.1, bt459.2.1, bt466.1))))
theorem spec_DrawHitBy.mono : ∀ a0 k, LeO (spec_DrawHitBy.f k a0) (spec_DrawHitBy.f (k + 1) a0) := by
 intro a0 k
 unfold spec_DrawHitBy.f
 repeat' with_reducible first | exact spec_l1New.mono _ _ | exact spec_l4Any.mono _ _ _ _ | exact spec_l4Set.mono _ _ _ _ _ _ | exact LeO.refl _ | exact LeO.none _ | refine LeO.ite ?_ ?_ | refine LeO.bind ?_ (fun _ => ?_)
set_option maxHeartbeats 8000000 in
set_option maxRecDepth 100000 in
theorem spec_DrawHitBy.calls (k : Nat) (A0 : Option Addr) (c0 : Nat) (l0 : List Int) (r1 : Int) (r2 : List (List Int)) (r3 : List Int) (w : World) (hr0 : Kd.C (Kd.int .u8) w A0 l0.length l0) (hc0 : l0.length ≤ c0) (h : spec_DrawHitBy.f k l0 = some (r1, r2, r3)) :
  Calls Try.prog 54 #[.slice A0 l0.length c0] w fun e w' => ∃ v1_ v2_ : Value, e = .returned (.tuple #[.agg #[.int .i64 r1, v1_], v2_]) ∧ Kd.S (Kd.slice 3 (Kd.int .i64)) 25 w' w.heap.size (fun k_ => some k_ ≠ (v2_ : Value).ownBlock) v1_ r2 ∧ Kd.R (Kd.int .i64) 3 w' w.heap.size (fun _ => True) v2_ r3 ∧ Below w.heap.size w w' := by
 have hu28 := Try.underlying28
 have HR0 := Aside0.mk hr0
 have HC0 := Aside0.mk hc0
 clear hr0 hc0
 have HB := Aside0.mk (Below.refl w.heap.size w)
 have H : ((spec_l1New.f k l0).bind fun bt455 => ((spec_l4Any.f k bt455.1 bt455.2.1 bt455.2.2).bind fun bt459 => ((spec_l4Set.f k bt455.1 bt459.2.2.1 bt459.2.2.2 bt459.1 bt459.2.1).bind fun bt466 => (some (bt459.1, bt459.2.1, bt466.1))))) = some (r1, r2, r3) := h
 clear h
 replace H := Option.bind_eq_some_iff.mp H
 obtain ⟨⟨t455, t456, t457⟩, A20, H⟩ := H
 try dsimp only at H
 have A2 := Aside0.mk A20
 clear A20
 replace H := Option.bind_eq_some_iff.mp H
 obtain ⟨⟨t459, t460, t463, t464⟩, A30, H⟩ := H
 try dsimp only at H
 have A3 := Aside0.mk A30
 clear A30
 replace H := Option.bind_eq_some_iff.mp H
 obtain ⟨⟨t466, t469, t470⟩, A40, H⟩ := H
 try dsimp only at H
 have A4 := Aside0.mk A40
 clear A40
 simp only [Option.some.injEq, Prod.mk.injEq] at H
 obtain ⟨rfl, rfl, rfl⟩ := H
 go_enter Try.func54, Try.ntmps54
 try go_wp2_with (first | ((with_reducible refine gate_dst (N := 2) rfl ?_); refine box_event ?hg (N := 2) ?hd (cs := #[.int .i64 0, .slice none 0 0]) (t := 28) ?hr ?_; (case hd => rfl); (case hg => rfl); (case hr => first | (go_simp; done) | (go_simp; rfl)); intro gb454 hg w5 hbox hb; have n0_ := Aside0.mk (below_step (mB HB.out) hb); have n1_ := Aside0.mk (hbox); have n2_ := Aside0.mk ((by rw [hg]; exact (below_size (mB HB.out)) : w.heap.size ≤ gb454)); have n3_ := Aside0.mk ((by rw [hg]; exact (below_size (mB HB.out)) : w.heap.size ≤ gb454)); clear HB; have HB := n0_; have BK454 := n1_; have GW454 := n2_; have GE454 := n3_; clear n0_ n1_ n2_ n3_; clear hb hbox hg) | ((with_reducible refine gate_callee (f := 98) rfl ?_); refine goesL_ (some 7) rfl rfl Try.func98 (by kernel_rfl) rfl #[.slice A0 l0.length c0] rfl mA ?_; (with_reducible refine (spec_l1New.calls k _ _ l0 t455 t456 t457 w _ ?side1 ?side2 ?side3 A2.out).mono ?_); (case side1 => repeat (first | (with_reducible first | exact HB.out | apply below_alloc | apply pw_below_drewN | apply below_drew1 | refine below_set ?_ GE454.out) | exact HB.out)); (case side2 => exact HR0.out); (case side3 => exact HC0.out); rintro e w6 ⟨g458, rfl, hi, hb, hb2⟩; refine ⟨_, rfl, ?_⟩; have n0_ := Aside0.mk (blk_below (g := gb454) (o := .cells #[.int .i64 0, .slice none 0 0] 28 (0, 0)) ((mK (BK454.out))) hb2); have n1_ := Aside0.mk (hb); have n2_ := Aside0.mk (hi); have n3_ := Aside0.mk (IsS88.ne_blk hi (blk_below (g := gb454) (o := .cells #[.int .i64 0, .slice none 0 0] 28 (0, 0)) ((mK (BK454.out))) hb2) (by decide)); have n4_ := Aside0.mk (Ne.symm (IsS88.ne_blk hi (blk_below (g := gb454) (o := .cells #[.int .i64 0, .slice none 0 0] 28 (0, 0)) ((mK (BK454.out))) hb2) (by decide))); clear BK454 HB; have BK454 := n0_; have HB := n1_; have HI458 := n2_; have NB458_454 := n3_; have NB454_458 := n4_; clear n0_ n1_ n2_ n3_ n4_; (try clear hb)) | ((with_reducible refine gate_callee (f := 99) rfl ?_); refine goesL_ (some 9) rfl rfl Try.func99 (by kernel_rfl) rfl #[.pointer (some ⟨g458, 0, none⟩)] rfl mA ?_; (with_reducible refine (spec_l4Any.calls k g458 t455 t456 t457 t459 t460 t463 t464 w _ ?side1 ?side2 A3.out).mono ?_); (case side1 => repeat (first | (with_reducible first | exact HI458.out | apply IsS88.alloc | apply IsS88.drewN | apply IsS88.drew | apply IsS88.set_1 | apply IsS88.set_2 | refine IsS88.far ?_ NB458_454.out _) | exact HI458.out)); (case side2 => repeat (first | (with_reducible first | exact HB.out | apply below_alloc | apply pw_below_drewN | apply below_drew1 | refine below_set ?_ (IsS88.ge HI458.out) | refine below_set ?_ GE454.out) | exact HB.out)); rintro e w7 ⟨v461, rfl, ho0, hi, hb, hk⟩; refine ⟨_, rfl, ?_⟩; have n0_ := Aside0.mk (KeepBut.blk hk (g' := gb454) (o := .cells #[.int .i64 0, .slice none 0 0] 28 (0, 0)) ((mK (BK454.out))) NB454_458.out (by simp)); have n1_ := Aside0.mk (Kd.S_lower ho0 (below_size (mJ))); have n2_ := Aside0.mk (hb); have n3_ := Aside0.mk (hi); clear BK454 HB HI458; have BK454 := n0_; have HO462 := n1_; have HB := n2_; have HI458 := n3_; clear n0_ n1_ n2_ n3_; (try clear hb); (try clear ho0)) | ((with_reducible refine gate_dst (N := 5) rfl ?_); refine box_event ?hg (N := 5) ?hd (cs := #[.int .i64 0, .slice none 0 0]) (t := 28) ?hr ?_; (case hd => rfl); (case hg => rfl); (case hr => first | (go_simp; done) | (go_simp; rfl)); intro gb465 hg w8 hbox hb; have n0_ := Aside0.mk (Kd.S_below (mS HO462.out) hb); have n1_ := Aside0.mk (blk_below (g := gb454) (o := .cells #[.int .i64 0, .slice none 0 0] 28 (0, 0)) ((mK (BK454.out))) hb); have n2_ := Aside0.mk (IsS88.below (mI) hb); have n3_ := Aside0.mk (below_step (mJ) hb); have n4_ := Aside0.mk (hbox); have n5_ := Aside0.mk ((by rw [hg]; exact (below_size (mJ)) : w.heap.size ≤ gb465)); have n6_ := Aside0.mk ((by rw [hg]; exact (below_size (mJ)) : w.heap.size ≤ gb465)); have n7_ := Aside0.mk ((by rw [hg]; exact Nat.ne_of_lt (blk_lt (g := gb454) (o := .cells #[.int .i64 0, .slice none 0 0] 28 (0, 0)) ((mK (BK454.out)))) : gb454 ≠ gb465)); have n8_ := Aside0.mk ((by rw [hg]; exact Nat.ne_of_gt (blk_lt (g := gb454) (o := .cells #[.int .i64 0, .slice none 0 0] 28 (0, 0)) ((mK (BK454.out)))) : gb465 ≠ gb454)); have n9_ := Aside0.mk ((by rw [hg]; exact Nat.ne_of_lt (IsS88.lt (show IsS88 w _ g458 t455 t463 t464 from mI)) : g458 ≠ gb465)); have n10_ := Aside0.mk ((by rw [hg]; exact Nat.ne_of_gt (IsS88.lt (show IsS88 w _ g458 t455 t463 t464 from mI)) : gb465 ≠ g458)); clear HO462 BK454 HI458 HB; have HO462 := n0_; have BK454 := n1_; have HI458 := n2_; have HB := n3_; have BK465 := n4_; have GW465 := n5_; have GE465 := n6_; have NB454_465 := n7_; have NB465_454 := n8_; have NB458_465 := n9_; have NB465_458 := n10_; clear n0_ n1_ n2_ n3_ n4_ n5_ n6_ n7_ n8_ n9_ n10_; clear hb hbox hg; have hnb9 := NB465_454.out; have hnc9 := NB454_465.out; have hnb10 := NB465_458.out; have hnc10 := NB458_465.out; have hcz11_0 : w8.cell? ⟨gb465, 0, none⟩ = some (.int .i64 0) := (blk_cell BK465.out 0).trans rfl; have hcz11_1 : w8.cell? ⟨gb465, 1, none⟩ = some (.slice none 0 0) := (blk_cell BK465.out 1).trans rfl; have hfz11_0 := blk_frozen BK465.out 0; have hfz11_1 := blk_frozen BK465.out 1; obtain ⟨Ao12, co12, eo12⟩ := Kd.S_slice HO462.out; subst eo12))
 have n0_ : Aside0 (Kd.S (Kd.slice 3 (Kd.int .i64)) 25 ((w8.setCell ⟨gb465, 0, none⟩ (.int .i64 t459)).setCell ⟨gb465, 1, none⟩ (.slice Ao12 t460.length co12)) w.heap.size (fun _ => True) (.slice Ao12 t460.length co12) t460) := ⟨by (with_reducible repeat (first | apply Kd.S_alloc | apply Kd.S_drewN | apply Kd.S_drew)); exact Kd.S_mono (Kd.S_far (p := ⟨gb465, 1, none⟩) (Kd.S_far (p := ⟨gb465, 0, none⟩) (Kd.S_types HO462.out BK465.out (by decide)) (fun _ hk => hk.2) (.int .i64 t459)) (fun _ hk => hk.2) (.slice Ao12 t460.length co12)) (fun _ hk => trivial)⟩
 have n1_ : Aside0 (((w8.setCell ⟨gb465, 0, none⟩ (.int .i64 t459)).setCell ⟨gb465, 1, none⟩ (.slice Ao12 t460.length co12)).heap[gb454]? = some (.cells #[.int .i64 0, .slice none 0 0] 28 (0, 0))) := ⟨by refine pK ?_; refine blk_far ?_ NB454_465.out _; refine pK ?_; refine blk_far ?_ NB454_465.out _; refine pK ?_; exact BK454.out⟩
 have n2_ : Aside0 (((w8.setCell ⟨gb465, 0, none⟩ (.int .i64 t459)).setCell ⟨gb465, 1, none⟩ (.slice Ao12 t460.length co12)).heap[gb465]? = some (.cells #[.int .i64 t459, .slice Ao12 t460.length co12] 28 (0, 0))) := ⟨by refine pK ?_; refine blk_put (cs := #[.int .i64 t459, .slice none 0 0]) ?_ 1 _ rfl; refine pK ?_; refine blk_put (cs := #[.int .i64 0, .slice none 0 0]) ?_ 0 _ rfl; refine pK ?_; exact BK465.out⟩
 have n3_ : Aside0 (IsS88 w ((w8.setCell ⟨gb465, 0, none⟩ (.int .i64 t459)).setCell ⟨gb465, 1, none⟩ (.slice Ao12 t460.length co12)) g458 t455 t463 t464) := ⟨mI⟩
 have n4_ : Aside0 (Below w.heap.size w ((w8.setCell ⟨gb465, 0, none⟩ (.int .i64 t459)).setCell ⟨gb465, 1, none⟩ (.slice Ao12 t460.length co12))) := ⟨mJ⟩
 (try clear HO462); (try clear BK454); (try clear BK465); (try clear HI458); (try clear HB)
 generalize ((w8.setCell ⟨gb465, 0, none⟩ (.int .i64 t459)).setCell ⟨gb465, 1, none⟩ (.slice Ao12 t460.length co12)) = w13 at n0_ n1_ n2_ n3_ n4_ ⊢
 have HO462 := n0_; have BK454 := n1_; have BK465 := n2_; have HI458 := n3_; have HB := n4_; clear n0_ n1_ n2_ n3_ n4_
 have n0_ := Aside0.mk (Kd.S_drew HO462.out)
 have n1_ := Aside0.mk (blk_drew BK454.out)
 have n2_ := Aside0.mk (blk_drew BK465.out)
 have n3_ := Aside0.mk (IsS88.drew HI458.out)
 have n4_ := Aside0.mk (below_drew1 HB.out)
 clear HO462 BK454 BK465 HI458 HB; have HO462 := n0_; have BK454 := n1_; have BK465 := n2_; have HI458 := n3_; have HB := n4_; clear n0_ n1_ n2_ n3_ n4_
 refine start_ (n := 6) (S := fun w' => w'.cell? ⟨gb465, 0, none⟩ = some (.int .i64 t459) ∧ w'.cell? ⟨gb465, 1, none⟩ = some (.slice Ao12 t460.length co12)) (ds := []) (L_ 0 6) (by kernel_rfl) rfl rfl ⟨(blk_cell BK465.out 0).trans rfl, (blk_cell BK465.out 1).trans rfl⟩ (fun hHeld => ?_)
 generalize w13.drew = w14 at HO462 BK454 BK465 HI458 HB hHeld ⊢
 refine pq 1 11 #[false, true, false, false, false, false] ?_
 refine take_ (i := 0) (N := some 10) (v := ?_) (a' := ?_) (L_ 2 6) rfl rfl (by kernel_rfl) (fun _ _ _ h => h) (Or.inl ⟨by rfl, ?_⟩) hHeld ?_ ?_
 rotate_left
 ·
  rintro w' ⟨s0, s1⟩
  go_simp
  with_reducible rfl
 rotate_left
 ·
  simp only [Act.put, List.setIfInBounds_toArray, List.set_cons_zero, List.set_cons_succ, i64_w, i32_w]
  rfl
 refine take_ (i := 2) (N := some 12) (v := ?_) (a' := ?_) (L_ 3 6) rfl rfl (by kernel_rfl) (fun _ _ _ h => h) (Or.inl ⟨by rfl, ?_⟩) hHeld ?_ ?_
 rotate_left
 ·
  rintro w' ⟨s0, s1⟩
  go_simp
  with_reducible rfl
 rotate_left
 ·
  simp only [Act.put, List.setIfInBounds_toArray, List.set_cons_zero, List.set_cons_succ, i64_w, i32_w]
  rfl
 refine one_ (i := 3) (N := some 13) (L_ 4 6) rfl rfl (by kernel_rfl) (by decide) (fun K hK => ?_)
 refine goes_ Try.func100 (by kernel_rfl) rfl #[.pointer (some ⟨g458, 0, none⟩), .agg #[.int .i64 t459, .slice Ao12 t460.length co12]] (by rfl) rfl rfl mA ?_
 with_reducible refine (spec_l4Set.calls k g458 t455 t463 t464 t459 _ _ t460 t466 t469 t470 w _ ?side1 ?side2 ?side3 ?side4 A4.out).mono ?_
 (case side1 => repeat (first | (with_reducible first | exact HI458.out | apply IsS88.alloc | apply IsS88.drewN | apply IsS88.drew | apply IsS88.set_1 | apply IsS88.set_2 | refine IsS88.far ?_ NB458_454.out _ | refine IsS88.far ?_ NB458_465.out _) | exact HI458.out))
 (case side2 => repeat (first | (with_reducible first | exact HB.out | apply below_alloc | apply pw_below_drewN | apply below_drew1 | refine below_set ?_ (IsS88.ge HI458.out) | refine below_set ?_ GE454.out | refine below_set ?_ GE465.out) | exact HB.out))
 (case side3 => exact Kd.C_foot_own ((Kd.S_R (IsS88.apartS (show IsS88 w _ g458 t455 t463 t464 from mI) (mS HO462.out) (by decide)))) (fun _ h_ => h_.2))
 (case side4 => exact (Kd.S_reads' HO462.out).2.1)
 rintro e w15 ⟨v467, rfl, ho0, hi, hb, hk⟩
 refine ⟨_, rfl, ?_⟩
 have n0_ := Aside0.mk (KeepBut.blk hk (g' := gb454) (o := .cells #[.int .i64 0, .slice none 0 0] 28 (0, 0)) ((mK (BK454.out))) NB454_458.out (by simp))
 have n1_ := Aside0.mk (Kd.S_mono (Kd.S_told (Kd.S_oldK (IsS88.apartS (show IsS88 w _ g458 t455 t463 t464 from mI) (mS HO462.out) (by decide)) hk) (Kd.R_base ho0)) (fun _ h_ => h_.1))
 have n2_ := Aside0.mk (KeepBut.blk hk (g' := gb465) (o := .cells #[.int .i64 t459, .slice Ao12 t460.length co12] 28 (0, 0)) ((mK (BK465.out))) NB465_458.out (by simp))
 have n3_ := Aside0.mk (Kd.R_lower ho0 (below_size (mJ)))
 have n4_ := Aside0.mk (hb)
 have n5_ := Aside0.mk (hi)
 clear BK454 HO462 BK465 HB HI458; have BK454 := n0_; have HO462 := n1_; have BK465 := n2_; have HO468 := n3_; have HB := n4_; have HI458 := n5_; clear n0_ n1_ n2_ n3_ n4_ n5_; (try clear hb); (try clear ho0)
 refine hK.out _ _ ⟨(blk_cell BK465.out 0).trans rfl, (blk_cell BK465.out 1).trans rfl⟩ (fun hHeld => ?_)
 clear hK K
 refine norm_ (a' := ?_) ?_ ?_
 rotate_left
 ·
  show Act.put _ (some 13) _ = _
  simp only [Act.put, List.setIfInBounds_toArray, List.set_cons_zero, List.set_cons_succ, i64_w, i32_w]
  rfl
 refine one_ (i := 4) (N := none) (L_ 5 6) rfl rfl (by kernel_rfl) (by decide) (fun K hK => ?_)
 have hs16 : w15.cell? ⟨gb454, 0, none⟩ = some (.int .i64 0) := (blk_cell BK454.out 0).trans rfl
 have hfs16 := blk_frozen BK454.out 0
 have hns16_1 := NB465_454.out
 have hms16_1 := NB454_465.out
 have hs17 : w15.cell? ⟨gb454, 1, none⟩ = some (.slice none 0 0) := (blk_cell BK454.out 1).trans rfl
 have hfs17 := blk_frozen BK454.out 1
 have hns17_1 := NB465_454.out
 have hms17_1 := NB454_465.out
 refine skip_ (w1 := ?_) (by rfl) rfl ?_ ?_
 rotate_left
 ·
  go_simp
  rfl
 refine hK.out _ _ ⟨((cell_far (p := ⟨gb454, _, none⟩) NB465_454.out _).trans (((cell_far (p := ⟨gb454, _, none⟩) NB465_454.out _).trans (hHeld.1)))), ((cell_far (p := ⟨gb454, _, none⟩) NB465_454.out _).trans (((cell_far (p := ⟨gb454, _, none⟩) NB465_454.out _).trans (hHeld.2))))⟩ (fun hHeld => ?_)
 clear hK K
 refine pq 5 3 (L_ 6 6) ?_
 refine done_ (by kernel_rfl) ?_
 try go_wp2
 refine bodyPost_ret (results_ct rfl _ _ gb454 28 #[.int .i64 t459, .slice Ao12 t460.length co12] (0, 0) _ rfl (by refine pK ?_; refine blk_put (cs := #[.int .i64 t459, .slice none 0 0]) ?_ 1 _ rfl; refine pK ?_; refine blk_put (cs := #[.int .i64 0, .slice none 0 0]) ?_ 0 _ rfl; refine pK ?_; exact BK454.out) Try.underlying28 rfl (by kernel_rfl)) rfl ?_
 exact ⟨_, _, mE, by (with_reducible repeat (first | apply Kd.S_alloc | apply Kd.S_drewN | apply Kd.S_drew)); exact Kd.S_mono (Kd.S_far (p := ⟨gb454, 1, none⟩) (Kd.S_far (p := ⟨gb454, 0, none⟩) (Kd.S_types HO462.out BK454.out (by decide)) (fun _ hk => hk.2) (.int .i64 t459)) (fun _ hk => hk.2) (.slice Ao12 t460.length co12)) (fun _ hk => hk.1.2), by (with_reducible repeat (first | apply Kd.R_alloc | apply Kd.R_drewN | apply Kd.R_drew)); exact Kd.R_mono (Kd.R_far (p := ⟨gb454, 1, none⟩) (Kd.R_far (p := ⟨gb454, 0, none⟩) (Kd.R_types HO468.out BK454.out (by decide)) (fun _ hk => hk.2) (.int .i64 t459)) (fun _ hk => hk.2) (.slice Ao12 t460.length co12)) (fun _ hk => trivial), mJ⟩

/-! ### spec_DrawIsSet: function 101 -/
def spec_DrawIsSet.f (k : Nat) (l0 : List Int) : Option (Int × (List (List Int)) × List Int) := (spec_DrawHitBy.f k l0).bind fun bt472 => ((spec_l1New.f k l0).bind fun bt480 => ((spec_l1Once.f bt480.1 bt480.2.1 bt480.2.2 8).bind fun bt484 => (if bt484.1 = true then ((spec_l1Below.f bt480.1 bt484.2.1 bt484.2.2 8).bind fun bt487 => (if bt472.2.2.length < 17592186044416 then (some (bt472.1, bt472.2.1, (bt472.2.2 ++ [bt487.1]))) else (none))) else (some (bt472.1, bt472.2.1, bt472.2.2)))))
theorem spec_DrawIsSet.mono : ∀ a0 k, LeO (spec_DrawIsSet.f k a0) (spec_DrawIsSet.f (k + 1) a0) := by
 intro a0 k
 unfold spec_DrawIsSet.f
 repeat' with_reducible first | exact spec_DrawHitBy.mono _ _ | exact spec_l1New.mono _ _ | exact LeO.refl _ | exact LeO.none _ | refine LeO.ite ?_ ?_ | refine LeO.bind ?_ (fun _ => ?_)
set_option maxHeartbeats 8000000 in
set_option maxRecDepth 100000 in
theorem spec_DrawIsSet.calls (k : Nat) (A0 : Option Addr) (c0 : Nat) (l0 : List Int) (r1 : Int) (r2 : List (List Int)) (r3 : List Int) (w : World) (hr0 : Kd.C (Kd.int .u8) w A0 l0.length l0) (hc0 : l0.length ≤ c0) (h : spec_DrawIsSet.f k l0 = some (r1, r2, r3)) :
  Calls Try.prog 101 #[.slice A0 l0.length c0] w fun e w' => ∃ v1_ v2_ : Value, e = .returned (.tuple #[.agg #[.int .i64 r1, v1_], v2_]) ∧ Kd.S (Kd.slice 3 (Kd.int .i64)) 25 w' w.heap.size (fun k_ => some k_ ≠ (v2_ : Value).ownBlock) v1_ r2 ∧ Kd.R (Kd.int .i64) 3 w' w.heap.size (fun _ => True) v2_ r3 ∧ Below w.heap.size w w' := by
 have hu28 := Try.underlying28
 have HR0 := Aside0.mk hr0
 have HC0 := Aside0.mk hc0
 clear hr0 hc0
 have HB := Aside0.mk (Below.refl w.heap.size w)
 have H : ((spec_DrawHitBy.f k l0).bind fun bt472 => ((spec_l1New.f k l0).bind fun bt480 => ((spec_l1Once.f bt480.1 bt480.2.1 bt480.2.2 8).bind fun bt484 => (if bt484.1 = true then ((spec_l1Below.f bt480.1 bt484.2.1 bt484.2.2 8).bind fun bt487 => (if bt472.2.2.length < 17592186044416 then (some (bt472.1, bt472.2.1, (bt472.2.2 ++ [bt487.1]))) else (none))) else (some (bt472.1, bt472.2.1, bt472.2.2)))))) = some (r1, r2, r3) := h
 clear h
 replace H := Option.bind_eq_some_iff.mp H
 obtain ⟨⟨t472, t473, t476⟩, A20, H⟩ := H
 try dsimp only at H
 have A2 := Aside0.mk A20
 clear A20
 replace H := Option.bind_eq_some_iff.mp H
 obtain ⟨⟨t480, t481, t482⟩, A30, H⟩ := H
 try dsimp only at H
 have A3 := Aside0.mk A30
 clear A30
 replace H := Option.bind_eq_some_iff.mp H
 obtain ⟨⟨t484, t485, t486⟩, A40, H⟩ := H
 try dsimp only at H
 have A4 := Aside0.mk A40
 clear A40
 by_cases c5 : t484 = true
 rotate_left
 ·
  replace c5 := Bool.eq_false_iff.mpr c5
  subst c5
  rw [if_neg (show ¬ (false = true) by decide)] at H
  simp only [Option.some.injEq, Prod.mk.injEq] at H
  obtain ⟨rfl, rfl, rfl⟩ := H
  go_enter Try.func101, Try.ntmps101
  go_wp2_with (first | ((with_reducible refine gate_dst (N := 2) rfl ?_); refine box_event ?hg (N := 2) ?hd (cs := #[.int .i64 0, .slice none 0 0]) (t := 28) ?hr ?_; (case hd => rfl); (case hg => rfl); (case hr => first | (go_simp; done) | (go_simp; rfl)); intro gb471 hg w22 hbox hb; have n0_ := Aside0.mk (below_step (mB HB.out) hb); have n1_ := Aside0.mk (hbox); have n2_ := Aside0.mk ((by rw [hg]; exact (below_size (mB HB.out)) : w.heap.size ≤ gb471)); have n3_ := Aside0.mk ((by rw [hg]; exact (below_size (mB HB.out)) : w.heap.size ≤ gb471)); clear HB; have HB := n0_; have BK471 := n1_; have GW471 := n2_; have GE471 := n3_; clear n0_ n1_ n2_ n3_; clear hb hbox hg) | ((with_reducible refine gate_callee (f := 54) rfl ?_); refine goesL_ (some 9) rfl rfl Try.func54 (by kernel_rfl) rfl #[.slice A0 l0.length c0] rfl mA ?_; (with_reducible refine (spec_DrawHitBy.calls k _ _ l0 t472 t473 t476 _ ?side1 ?side2 A2.out).mono ?_); (case side1 => exact mC (Kd.C_below HR0.out HB.out)); (case side2 => exact HC0.out); rintro e w23 ⟨v474, v477, rfl, ho0, ho1, hb⟩; refine ⟨_, rfl, ?_⟩; have n0_ := Aside0.mk (Kd.S_lower ho0 (below_size mG)); have n1_ := Aside0.mk (Kd.R_lower ho1 (below_size mG)); have n2_ := Aside0.mk (blk_below (g := gb471) (o := .cells #[.int .i64 0, .slice none 0 0] 28 (0, 0)) ((mK (BK471.out))) hb); have n3_ := Aside0.mk (below_step mG hb); clear BK471 HB; have HO475 := n0_; have HO478 := n1_; have BK471 := n2_; have HB := n3_; clear n0_ n1_ n2_ n3_; (try clear hb); (try clear ho0); (try clear ho1)) | ((with_reducible refine gate_dst (N := 4) rfl ?_); refine box_event ?hg (N := 4) ?hd (cs := #[.int .i64 0, .slice none 0 0]) (t := 28) ?hr ?_; (case hd => rfl); (case hg => rfl); (case hr => first | (go_simp; done) | (go_simp; rfl)); intro gb479 hg w24 hbox hb; have n0_ := Aside0.mk (Kd.S_below (mS HO475.out) hb); have n1_ := Aside0.mk (Kd.R_below (mR HO478.out) hb); have n2_ := Aside0.mk (blk_below (g := gb471) (o := .cells #[.int .i64 0, .slice none 0 0] 28 (0, 0)) ((mK (BK471.out))) hb); have n3_ := Aside0.mk (below_step mG hb); have n4_ := Aside0.mk (hbox); have n5_ := Aside0.mk ((by rw [hg]; exact (below_size mG) : w.heap.size ≤ gb479)); have n6_ := Aside0.mk ((by rw [hg]; exact (below_size mG) : w.heap.size ≤ gb479)); have n7_ := Aside0.mk ((by rw [hg]; exact Nat.ne_of_lt (blk_lt (g := gb471) (o := .cells #[.int .i64 0, .slice none 0 0] 28 (0, 0)) ((mK (BK471.out)))) : gb471 ≠ gb479)); have n8_ := Aside0.mk ((by rw [hg]; exact Nat.ne_of_gt (blk_lt (g := gb471) (o := .cells #[.int .i64 0, .slice none 0 0] 28 (0, 0)) ((mK (BK471.out)))) : gb479 ≠ gb471)); clear HO475 HO478 BK471 HB; have HO475 := n0_; have HO478 := n1_; have BK471 := n2_; have HB := n3_; have BK479 := n4_; have GW479 := n5_; have GE479 := n6_; have NB471_479 := n7_; have NB479_471 := n8_; clear n0_ n1_ n2_ n3_ n4_ n5_ n6_ n7_ n8_; clear hb hbox hg; have hnb25 := NB479_471.out; have hnc25 := NB471_479.out; have hcz26_0 : w24.cell? ⟨gb479, 0, none⟩ = some (.int .i64 0) := (blk_cell BK479.out 0).trans rfl; have hcz26_1 : w24.cell? ⟨gb479, 1, none⟩ = some (.slice none 0 0) := (blk_cell BK479.out 1).trans rfl; have hfz26_0 := blk_frozen BK479.out 0; have hfz26_1 := blk_frozen BK479.out 1; obtain ⟨Ao27, co27, eo27⟩ := Kd.S_slice HO475.out; subst eo27) | ((with_reducible refine gate_callee (f := 98) rfl ?_); refine goesL_ (some 13) rfl rfl Try.func98 (by kernel_rfl) rfl #[.slice A0 l0.length c0] rfl mA ?_; (with_reducible refine (spec_l1New.calls k _ _ l0 t480 t481 t482 w _ ?side1 ?side2 ?side3 A3.out).mono ?_); (case side1 => repeat (first | (with_reducible first | exact HB.out | apply below_alloc | apply pw_below_drewN | apply below_drew1 | refine below_set ?_ GE471.out | refine below_set ?_ GE479.out) | exact HB.out)); (case side2 => exact HR0.out); (case side3 => exact HC0.out); rintro e w28 ⟨g483, rfl, hi, hb, hb2⟩; refine ⟨_, rfl, ?_⟩; have n0_ := Aside0.mk (Kd.S_below (mS ((Kd.S_mono (Kd.S_far (p := ⟨gb479, 1, none⟩) (Kd.S_far (p := ⟨gb479, 0, none⟩) (Kd.S_types HO475.out BK479.out (by decide)) (fun _ hk => hk.2) (.int .i64 t472)) (fun _ hk => hk.2) (.slice Ao27 t473.length co27)) (fun _ h_ => h_.1)))) hb2); have n1_ := Aside0.mk (Kd.R_below (mR ((Kd.R_mono (Kd.R_far (p := ⟨gb479, 1, none⟩) (Kd.R_far (p := ⟨gb479, 0, none⟩) (Kd.R_types HO478.out BK479.out (by decide)) (fun _ hk => hk.2) (.int .i64 t472)) (fun _ hk => hk.2) (.slice Ao27 t473.length co27)) (fun _ h_ => h_.1)))) hb2); have n2_ := Aside0.mk (blk_below (g := gb471) (o := .cells #[.int .i64 0, .slice none 0 0] 28 (0, 0)) (by refine pK ?_; refine blk_far ?_ NB471_479.out _; refine pK ?_; refine blk_far ?_ NB471_479.out _; refine pK ?_; exact BK471.out) hb2); have n3_ := Aside0.mk (blk_below (g := gb479) (o := .cells #[.int .i64 t472, .slice Ao27 t473.length co27] 28 (0, 0)) (by refine pK ?_; refine blk_put (cs := #[.int .i64 t472, .slice none 0 0]) ?_ 1 _ rfl; refine pK ?_; refine blk_put (cs := #[.int .i64 0, .slice none 0 0]) ?_ 0 _ rfl; refine pK ?_; exact BK479.out) hb2); have n4_ := Aside0.mk (hb); have n5_ := Aside0.mk (hi); have n6_ := Aside0.mk (IsS88.ne_blk hi (blk_below (g := gb471) (o := .cells #[.int .i64 0, .slice none 0 0] 28 (0, 0)) (by refine pK ?_; refine blk_far ?_ NB471_479.out _; refine pK ?_; refine blk_far ?_ NB471_479.out _; refine pK ?_; exact BK471.out) hb2) (by decide)); have n7_ := Aside0.mk (Ne.symm (IsS88.ne_blk hi (blk_below (g := gb471) (o := .cells #[.int .i64 0, .slice none 0 0] 28 (0, 0)) (by refine pK ?_; refine blk_far ?_ NB471_479.out _; refine pK ?_; refine blk_far ?_ NB471_479.out _; refine pK ?_; exact BK471.out) hb2) (by decide))); have n8_ := Aside0.mk (IsS88.ne_blk hi (blk_below (g := gb479) (o := .cells #[.int .i64 t472, .slice Ao27 t473.length co27] 28 (0, 0)) (by refine pK ?_; refine blk_put (cs := #[.int .i64 t472, .slice none 0 0]) ?_ 1 _ rfl; refine pK ?_; refine blk_put (cs := #[.int .i64 0, .slice none 0 0]) ?_ 0 _ rfl; refine pK ?_; exact BK479.out) hb2) (by decide)); have n9_ := Aside0.mk (Ne.symm (IsS88.ne_blk hi (blk_below (g := gb479) (o := .cells #[.int .i64 t472, .slice Ao27 t473.length co27] 28 (0, 0)) (by refine pK ?_; refine blk_put (cs := #[.int .i64 t472, .slice none 0 0]) ?_ 1 _ rfl; refine pK ?_; refine blk_put (cs := #[.int .i64 0, .slice none 0 0]) ?_ 0 _ rfl; refine pK ?_; exact BK479.out) hb2) (by decide))); clear HO475 HO478 BK471 BK479 HB; have HO475 := n0_; have HO478 := n1_; have BK471 := n2_; have BK479 := n3_; have HB := n4_; have HI483 := n5_; have NB483_471 := n6_; have NB471_483 := n7_; have NB483_479 := n8_; have NB479_483 := n9_; clear n0_ n1_ n2_ n3_ n4_ n5_ n6_ n7_ n8_ n9_; (try clear hb)) | ((with_reducible refine gate_callee (f := 104) rfl ?_); refine goesL_ (some 15) rfl rfl Try.func104 (by kernel_rfl) rfl #[.pointer (some ⟨g483, 0, none⟩), .int .i64 8] rfl mA ?_; (with_reducible refine (spec_l1Once.calls g483 t480 t481 t482 8 false t485 t486 w _ ?side1 ?side2 A4.out).mono ?_); (case side1 => repeat (first | (with_reducible first | exact HI483.out | apply IsS88.alloc | apply IsS88.drewN | apply IsS88.drew | apply IsS88.set_1 | apply IsS88.set_2 | refine IsS88.far ?_ NB483_471.out _ | refine IsS88.far ?_ NB483_479.out _) | exact HI483.out)); (case side2 => repeat (first | (with_reducible first | exact HB.out | apply below_alloc | apply pw_below_drewN | apply below_drew1 | refine below_set ?_ (IsS88.ge HI483.out) | refine below_set ?_ GE471.out | refine below_set ?_ GE479.out) | exact HB.out)); rintro e w29 ⟨rfl, hi, hb, hk⟩; refine ⟨_, rfl, ?_⟩; have n0_ := Aside0.mk (KeepBut.blk hk (g' := gb471) (o := .cells #[.int .i64 0, .slice none 0 0] 28 (0, 0)) ((mK (BK471.out))) NB471_483.out (by simp)); have n1_ := Aside0.mk (Kd.S_mono (Kd.S_keep (IsS88.apartS (show IsS88 w _ g483 t480 t481 t482 from mI) (mS HO475.out) (by decide)) hk (fun _ h => h.2)) (fun _ h => h.1)); have n2_ := Aside0.mk (Kd.R_mono (Kd.R_keep (IsS88.apart (show IsS88 w _ g483 t480 t481 t482 from mI) (mR HO478.out) (by decide)) hk (fun _ h => h.2)) (fun _ h => h.1)); have n3_ := Aside0.mk (KeepBut.blk hk (g' := gb479) (o := .cells #[.int .i64 t472, .slice Ao27 t473.length co27] 28 (0, 0)) ((mK (BK479.out))) NB479_483.out (by simp)); have n4_ := Aside0.mk (hb); have n5_ := Aside0.mk (hi); clear BK471 HO475 HO478 BK479 HB HI483; have BK471 := n0_; have HO475 := n1_; have HO478 := n2_; have BK479 := n3_; have HB := n4_; have HI483 := n5_; clear n0_ n1_ n2_ n3_ n4_ n5_; (try clear hb); have hnb30 := NB479_483.out; have hnc30 := NB483_479.out; have hcz31_0 : w29.cell? ⟨gb479, 0, none⟩ = some (.int .i64 t472) := (blk_cell BK479.out 0).trans rfl; have hcz31_1 : w29.cell? ⟨gb479, 1, none⟩ = some (.slice Ao27 t473.length co27) := (blk_cell BK479.out 1).trans rfl; have hfz31_0 := blk_frozen BK479.out 0; have hfz31_1 := blk_frozen BK479.out 1; have hnb32 := NB471_483.out; have hnc32 := NB483_471.out; have hcz33_0 : w29.cell? ⟨gb471, 0, none⟩ = some (.int .i64 0) := (blk_cell BK471.out 0).trans rfl; have hcz33_1 : w29.cell? ⟨gb471, 1, none⟩ = some (.slice none 0 0) := (blk_cell BK471.out 1).trans rfl; have hfz33_0 := blk_frozen BK471.out 0; have hfz33_1 := blk_frozen BK471.out 1))
  refine bodyPost_ret (results_ct rfl _ _ gb471 28 #[.int .i64 t472, .slice Ao27 t473.length co27] (0, 0) _ rfl (by refine pK ?_; refine blk_put (cs := #[.int .i64 t472, .slice none 0 0]) ?_ 1 _ rfl; refine pK ?_; refine blk_put (cs := #[.int .i64 0, .slice none 0 0]) ?_ 0 _ rfl; refine pK ?_; exact BK471.out) Try.underlying28 rfl (by kernel_rfl)) rfl ?_
  exact ⟨_, _, mE, by (with_reducible repeat (first | apply Kd.S_alloc | apply Kd.S_drewN | apply Kd.S_drew)); exact Kd.S_mono (Kd.S_far (p := ⟨gb471, 1, none⟩) (Kd.S_far (p := ⟨gb471, 0, none⟩) (Kd.S_types HO475.out BK471.out (by decide)) (fun _ hk => hk.2) (.int .i64 t472)) (fun _ hk => hk.2) (.slice Ao27 t473.length co27)) (fun _ hk => hk.1), by (with_reducible repeat (first | apply Kd.R_alloc | apply Kd.R_drewN | apply Kd.R_drew)); exact Kd.R_mono (Kd.R_far (p := ⟨gb471, 1, none⟩) (Kd.R_far (p := ⟨gb471, 0, none⟩) (Kd.R_types HO478.out BK471.out (by decide)) (fun _ hk => hk.2) (.int .i64 t472)) (fun _ hk => hk.2) (.slice Ao27 t473.length co27)) (fun _ hk => trivial), mJ⟩
 subst c5
 rw [if_pos rfl] at H
 replace H := Option.bind_eq_some_iff.mp H
 obtain ⟨⟨t487, t488, t489⟩, A60, H⟩ := H
 try dsimp only at H
 have A6 := Aside0.mk A60
 clear A60
 by_cases c7 : t476.length < 17592186044416
 rotate_left
 ·
  rw [if_neg c7] at H
  exact absurd H (by simp)
 rw [if_pos c7] at H
 have LMc7 := Aside0.mk c7
 clear c7
 obtain ⟨y490, hy490⟩ : ∃ y_ : List Int, y_ = (t476 ++ [t487]) := ⟨_, rfl⟩
 replace H : (some (t472, t473, y490)) = some (r1, r2, r3) := by first | (rw [hy490]; with_reducible exact H) | (have H2_ := (Option.bind_some _ _).symm.trans H; rw [hy490]; with_reducible exact H2_) | (have H2_ := (Option.bind_some _ _).symm.trans H; with_reducible exact H2_) | with_reducible exact H | (rw [hy490]; exact H) | exact H
 have Ny490 := Aside0.mk hy490
 clear hy490
 simp only [Option.some.injEq, Prod.mk.injEq] at H
 obtain ⟨rfl, rfl, rfl⟩ := H
 go_enter Try.func101, Try.ntmps101
 go_wp2_with (first | ((with_reducible refine gate_dst (N := 2) rfl ?_); refine box_event ?hg (N := 2) ?hd (cs := #[.int .i64 0, .slice none 0 0]) (t := 28) ?hr ?_; (case hd => rfl); (case hg => rfl); (case hr => first | (go_simp; done) | (go_simp; rfl)); intro gb471 hg w8 hbox hb; have n0_ := Aside0.mk (below_step (mB HB.out) hb); have n1_ := Aside0.mk (hbox); have n2_ := Aside0.mk ((by rw [hg]; exact (below_size (mB HB.out)) : w.heap.size ≤ gb471)); have n3_ := Aside0.mk ((by rw [hg]; exact (below_size (mB HB.out)) : w.heap.size ≤ gb471)); clear HB; have HB := n0_; have BK471 := n1_; have GW471 := n2_; have GE471 := n3_; clear n0_ n1_ n2_ n3_; clear hb hbox hg) | ((with_reducible refine gate_callee (f := 54) rfl ?_); refine goesL_ (some 9) rfl rfl Try.func54 (by kernel_rfl) rfl #[.slice A0 l0.length c0] rfl mA ?_; (with_reducible refine (spec_DrawHitBy.calls k _ _ l0 t472 t473 t476 _ ?side1 ?side2 A2.out).mono ?_); (case side1 => exact mC (Kd.C_below HR0.out HB.out)); (case side2 => exact HC0.out); rintro e w9 ⟨v474, v477, rfl, ho0, ho1, hb⟩; refine ⟨_, rfl, ?_⟩; have n0_ := Aside0.mk (Kd.S_lower ho0 (below_size mG)); have n1_ := Aside0.mk (Kd.R_lower ho1 (below_size mG)); have n2_ := Aside0.mk (blk_below (g := gb471) (o := .cells #[.int .i64 0, .slice none 0 0] 28 (0, 0)) ((mK (BK471.out))) hb); have n3_ := Aside0.mk (below_step mG hb); clear BK471 HB; have HO475 := n0_; have HO478 := n1_; have BK471 := n2_; have HB := n3_; clear n0_ n1_ n2_ n3_; (try clear hb); (try clear ho0); (try clear ho1)) | ((with_reducible refine gate_dst (N := 4) rfl ?_); refine box_event ?hg (N := 4) ?hd (cs := #[.int .i64 0, .slice none 0 0]) (t := 28) ?hr ?_; (case hd => rfl); (case hg => rfl); (case hr => first | (go_simp; done) | (go_simp; rfl)); intro gb479 hg w10 hbox hb; have n0_ := Aside0.mk (Kd.S_below (mS HO475.out) hb); have n1_ := Aside0.mk (Kd.R_below (mR HO478.out) hb); have n2_ := Aside0.mk (blk_below (g := gb471) (o := .cells #[.int .i64 0, .slice none 0 0] 28 (0, 0)) ((mK (BK471.out))) hb); have n3_ := Aside0.mk (below_step mG hb); have n4_ := Aside0.mk (hbox); have n5_ := Aside0.mk ((by rw [hg]; exact (below_size mG) : w.heap.size ≤ gb479)); have n6_ := Aside0.mk ((by rw [hg]; exact (below_size mG) : w.heap.size ≤ gb479)); have n7_ := Aside0.mk ((by rw [hg]; exact Nat.ne_of_lt (blk_lt (g := gb471) (o := .cells #[.int .i64 0, .slice none 0 0] 28 (0, 0)) ((mK (BK471.out)))) : gb471 ≠ gb479)); have n8_ := Aside0.mk ((by rw [hg]; exact Nat.ne_of_gt (blk_lt (g := gb471) (o := .cells #[.int .i64 0, .slice none 0 0] 28 (0, 0)) ((mK (BK471.out)))) : gb479 ≠ gb471)); clear HO475 HO478 BK471 HB; have HO475 := n0_; have HO478 := n1_; have BK471 := n2_; have HB := n3_; have BK479 := n4_; have GW479 := n5_; have GE479 := n6_; have NB471_479 := n7_; have NB479_471 := n8_; clear n0_ n1_ n2_ n3_ n4_ n5_ n6_ n7_ n8_; clear hb hbox hg; have hnb11 := NB479_471.out; have hnc11 := NB471_479.out; have hcz12_0 : w10.cell? ⟨gb479, 0, none⟩ = some (.int .i64 0) := (blk_cell BK479.out 0).trans rfl; have hcz12_1 : w10.cell? ⟨gb479, 1, none⟩ = some (.slice none 0 0) := (blk_cell BK479.out 1).trans rfl; have hfz12_0 := blk_frozen BK479.out 0; have hfz12_1 := blk_frozen BK479.out 1; obtain ⟨Ao13, co13, eo13⟩ := Kd.S_slice HO475.out; subst eo13) | ((with_reducible refine gate_callee (f := 98) rfl ?_); refine goesL_ (some 13) rfl rfl Try.func98 (by kernel_rfl) rfl #[.slice A0 l0.length c0] rfl mA ?_; (with_reducible refine (spec_l1New.calls k _ _ l0 t480 t481 t482 w _ ?side1 ?side2 ?side3 A3.out).mono ?_); (case side1 => repeat (first | (with_reducible first | exact HB.out | apply below_alloc | apply pw_below_drewN | apply below_drew1 | refine below_set ?_ GE471.out | refine below_set ?_ GE479.out) | exact HB.out)); (case side2 => exact HR0.out); (case side3 => exact HC0.out); rintro e w14 ⟨g483, rfl, hi, hb, hb2⟩; refine ⟨_, rfl, ?_⟩; have n0_ := Aside0.mk (Kd.S_below (mS ((Kd.S_mono (Kd.S_far (p := ⟨gb479, 1, none⟩) (Kd.S_far (p := ⟨gb479, 0, none⟩) (Kd.S_types HO475.out BK479.out (by decide)) (fun _ hk => hk.2) (.int .i64 t472)) (fun _ hk => hk.2) (.slice Ao13 t473.length co13)) (fun _ h_ => h_.1)))) hb2); have n1_ := Aside0.mk (Kd.R_below (mR ((Kd.R_mono (Kd.R_far (p := ⟨gb479, 1, none⟩) (Kd.R_far (p := ⟨gb479, 0, none⟩) (Kd.R_types HO478.out BK479.out (by decide)) (fun _ hk => hk.2) (.int .i64 t472)) (fun _ hk => hk.2) (.slice Ao13 t473.length co13)) (fun _ h_ => h_.1)))) hb2); have n2_ := Aside0.mk (blk_below (g := gb471) (o := .cells #[.int .i64 0, .slice none 0 0] 28 (0, 0)) (by refine pK ?_; refine blk_far ?_ NB471_479.out _; refine pK ?_; refine blk_far ?_ NB471_479.out _; refine pK ?_; exact BK471.out) hb2); have n3_ := Aside0.mk (blk_below (g := gb479) (o := .cells #[.int .i64 t472, .slice Ao13 t473.length co13] 28 (0, 0)) (by refine pK ?_; refine blk_put (cs := #[.int .i64 t472, .slice none 0 0]) ?_ 1 _ rfl; refine pK ?_; refine blk_put (cs := #[.int .i64 0, .slice none 0 0]) ?_ 0 _ rfl; refine pK ?_; exact BK479.out) hb2); have n4_ := Aside0.mk (hb); have n5_ := Aside0.mk (hi); have n6_ := Aside0.mk (IsS88.ne_blk hi (blk_below (g := gb471) (o := .cells #[.int .i64 0, .slice none 0 0] 28 (0, 0)) (by refine pK ?_; refine blk_far ?_ NB471_479.out _; refine pK ?_; refine blk_far ?_ NB471_479.out _; refine pK ?_; exact BK471.out) hb2) (by decide)); have n7_ := Aside0.mk (Ne.symm (IsS88.ne_blk hi (blk_below (g := gb471) (o := .cells #[.int .i64 0, .slice none 0 0] 28 (0, 0)) (by refine pK ?_; refine blk_far ?_ NB471_479.out _; refine pK ?_; refine blk_far ?_ NB471_479.out _; refine pK ?_; exact BK471.out) hb2) (by decide))); have n8_ := Aside0.mk (IsS88.ne_blk hi (blk_below (g := gb479) (o := .cells #[.int .i64 t472, .slice Ao13 t473.length co13] 28 (0, 0)) (by refine pK ?_; refine blk_put (cs := #[.int .i64 t472, .slice none 0 0]) ?_ 1 _ rfl; refine pK ?_; refine blk_put (cs := #[.int .i64 0, .slice none 0 0]) ?_ 0 _ rfl; refine pK ?_; exact BK479.out) hb2) (by decide)); have n9_ := Aside0.mk (Ne.symm (IsS88.ne_blk hi (blk_below (g := gb479) (o := .cells #[.int .i64 t472, .slice Ao13 t473.length co13] 28 (0, 0)) (by refine pK ?_; refine blk_put (cs := #[.int .i64 t472, .slice none 0 0]) ?_ 1 _ rfl; refine pK ?_; refine blk_put (cs := #[.int .i64 0, .slice none 0 0]) ?_ 0 _ rfl; refine pK ?_; exact BK479.out) hb2) (by decide))); clear HO475 HO478 BK471 BK479 HB; have HO475 := n0_; have HO478 := n1_; have BK471 := n2_; have BK479 := n3_; have HB := n4_; have HI483 := n5_; have NB483_471 := n6_; have NB471_483 := n7_; have NB483_479 := n8_; have NB479_483 := n9_; clear n0_ n1_ n2_ n3_ n4_ n5_ n6_ n7_ n8_ n9_; (try clear hb)) | ((with_reducible refine gate_callee (f := 104) rfl ?_); refine goesL_ (some 15) rfl rfl Try.func104 (by kernel_rfl) rfl #[.pointer (some ⟨g483, 0, none⟩), .int .i64 8] rfl mA ?_; (with_reducible refine (spec_l1Once.calls g483 t480 t481 t482 8 true t485 t486 w _ ?side1 ?side2 A4.out).mono ?_); (case side1 => repeat (first | (with_reducible first | exact HI483.out | apply IsS88.alloc | apply IsS88.drewN | apply IsS88.drew | apply IsS88.set_1 | apply IsS88.set_2 | refine IsS88.far ?_ NB483_471.out _ | refine IsS88.far ?_ NB483_479.out _) | exact HI483.out)); (case side2 => repeat (first | (with_reducible first | exact HB.out | apply below_alloc | apply pw_below_drewN | apply below_drew1 | refine below_set ?_ (IsS88.ge HI483.out) | refine below_set ?_ GE471.out | refine below_set ?_ GE479.out) | exact HB.out)); rintro e w15 ⟨rfl, hi, hb, hk⟩; refine ⟨_, rfl, ?_⟩; have n0_ := Aside0.mk (KeepBut.blk hk (g' := gb471) (o := .cells #[.int .i64 0, .slice none 0 0] 28 (0, 0)) ((mK (BK471.out))) NB471_483.out (by simp)); have n1_ := Aside0.mk (Kd.S_mono (Kd.S_keep (IsS88.apartS (show IsS88 w _ g483 t480 t481 t482 from mI) (mS HO475.out) (by decide)) hk (fun _ h => h.2)) (fun _ h => h.1)); have n2_ := Aside0.mk (Kd.R_mono (Kd.R_keep (IsS88.apart (show IsS88 w _ g483 t480 t481 t482 from mI) (mR HO478.out) (by decide)) hk (fun _ h => h.2)) (fun _ h => h.1)); have n3_ := Aside0.mk (KeepBut.blk hk (g' := gb479) (o := .cells #[.int .i64 t472, .slice Ao13 t473.length co13] 28 (0, 0)) ((mK (BK479.out))) NB479_483.out (by simp)); have n4_ := Aside0.mk (hb); have n5_ := Aside0.mk (hi); clear BK471 HO475 HO478 BK479 HB HI483; have BK471 := n0_; have HO475 := n1_; have HO478 := n2_; have BK479 := n3_; have HB := n4_; have HI483 := n5_; clear n0_ n1_ n2_ n3_ n4_ n5_; (try clear hb)) | ((with_reducible refine gate_callee (f := 116) rfl ?_); refine goesL_ (some 18) rfl rfl Try.func116 (by kernel_rfl) rfl #[.pointer (some ⟨g483, 0, none⟩), .int .i64 8] rfl mA ?_; (with_reducible refine (spec_l1Below.calls g483 t480 t485 t486 8 t487 t488 t489 w _ ?side1 ?side2 A6.out).mono ?_); (case side1 => repeat (first | (with_reducible first | exact HI483.out | apply IsS88.alloc | apply IsS88.drewN | apply IsS88.drew | apply IsS88.set_1 | apply IsS88.set_2 | refine IsS88.far ?_ NB483_471.out _ | refine IsS88.far ?_ NB483_479.out _) | exact HI483.out)); (case side2 => repeat (first | (with_reducible first | exact HB.out | apply below_alloc | apply pw_below_drewN | apply below_drew1 | refine below_set ?_ (IsS88.ge HI483.out) | refine below_set ?_ GE471.out | refine below_set ?_ GE479.out) | exact HB.out)); rintro e w16 ⟨rfl, hi, hb, hk⟩; refine ⟨_, rfl, ?_⟩; have n0_ := Aside0.mk (KeepBut.blk hk (g' := gb471) (o := .cells #[.int .i64 0, .slice none 0 0] 28 (0, 0)) ((mK (BK471.out))) NB471_483.out (by simp)); have n1_ := Aside0.mk (Kd.S_mono (Kd.S_keep (IsS88.apartS (show IsS88 w _ g483 t480 t485 t486 from mI) (mS HO475.out) (by decide)) hk (fun _ h => h.2)) (fun _ h => h.1)); have n2_ := Aside0.mk (Kd.R_mono (Kd.R_keep (IsS88.apart (show IsS88 w _ g483 t480 t485 t486 from mI) (mR HO478.out) (by decide)) hk (fun _ h => h.2)) (fun _ h => h.1)); have n3_ := Aside0.mk (KeepBut.blk hk (g' := gb479) (o := .cells #[.int .i64 t472, .slice Ao13 t473.length co13] 28 (0, 0)) ((mK (BK479.out))) NB479_483.out (by simp)); have n4_ := Aside0.mk (hb); have n5_ := Aside0.mk (hi); clear BK471 HO475 HO478 BK479 HB HI483; have BK471 := n0_; have HO475 := n1_; have HO478 := n2_; have BK479 := n3_; have HB := n4_; have HI483 := n5_; clear n0_ n1_ n2_ n3_ n4_ n5_; (try clear hb)) | ((with_reducible refine gate_builtin (b := .append) (xs := #[.tmp 16, .tmp 19]) rfl ?_); at_builtin; refine Kd.R_append (Kd.int .i64) (w0 := w) w.heap.size rfl (.tmp 16) (.tmp 19) 25 3 (.int .i64 0) 8 rfl Try.underlying25 info3 rfl (by decide) (by omega) v477 t476 t487 [.int .i64 t487] (fun _ => True) (fun _ => False) rfl rfl ?aP (fun _ hk => hk.elim) ?aF ?aO ?aB ?aS ?aL ?_; (case aP => exact rfl); (case aB => exact (mJ)); (case aF => exact (fun _ _ => trivial)); (case aO => exact (mR HO478.out)); (case aS => exact (below_size (mJ))); (case aL => have := LMc7.out; omega); intro v491 w17 ho hb hg hat; rw [← Ny490.out] at ho; have n0_ := Aside0.mk (blk_grown (g := gb471) (o := .cells #[.int .i64 0, .slice none 0 0] 28 (0, 0)) ((mK (BK471.out))) hg (Kd.R_ne HO478.out BK471.out (by decide))); have n1_ := Aside0.mk (Kd.S_after (ok := (fun _ => True)) (mS (Kd.S_mono HO475.out (fun _ hk => ⟨trivial, hk⟩))) hg hat); have n2_ := Aside0.mk (blk_grown (g := gb479) (o := .cells #[.int .i64 t472, .slice Ao13 t473.length co13] 28 (0, 0)) ((mK (BK479.out))) hg (Kd.R_ne HO478.out BK479.out (by decide))); have n3_ := Aside0.mk (IsS88.grown (mI) hg (IsS88.own_ne HI483.out HO478.out (by decide))); have n4_ := Aside0.mk (hb); have n5_ := Aside0.mk (ho); clear BK471 HO475 BK479 HI483 HB HO478; have BK471 := n0_; have HO475 := n1_; have BK479 := n2_; have HI483 := n3_; have HB := n4_; have HO492 := n5_; clear n0_ n1_ n2_ n3_ n4_ n5_; clear ho hb hg hat; have hnb18 := NB479_483.out; have hnc18 := NB483_479.out; have hcz19_0 : w17.cell? ⟨gb479, 0, none⟩ = some (.int .i64 t472) := (blk_cell BK479.out 0).trans rfl; have hcz19_1 : w17.cell? ⟨gb479, 1, none⟩ = some (.slice Ao13 t473.length co13) := (blk_cell BK479.out 1).trans rfl; have hfz19_0 := blk_frozen BK479.out 0; have hfz19_1 := blk_frozen BK479.out 1; have hnb20 := NB471_483.out; have hnc20 := NB483_471.out; have hcz21_0 : w17.cell? ⟨gb471, 0, none⟩ = some (.int .i64 0) := (blk_cell BK471.out 0).trans rfl; have hcz21_1 : w17.cell? ⟨gb471, 1, none⟩ = some (.slice none 0 0) := (blk_cell BK471.out 1).trans rfl; have hfz21_0 := blk_frozen BK471.out 0; have hfz21_1 := blk_frozen BK471.out 1))
 refine bodyPost_ret (results_ct rfl _ _ gb471 28 #[.int .i64 t472, .slice Ao13 t473.length co13] (0, 0) _ rfl (by refine pK ?_; refine blk_put (cs := #[.int .i64 t472, .slice none 0 0]) ?_ 1 _ rfl; refine pK ?_; refine blk_put (cs := #[.int .i64 0, .slice none 0 0]) ?_ 0 _ rfl; refine pK ?_; exact BK471.out) Try.underlying28 rfl (by kernel_rfl)) rfl ?_
 exact ⟨_, _, mE, by (with_reducible repeat (first | apply Kd.S_alloc | apply Kd.S_drewN | apply Kd.S_drew)); exact Kd.S_mono (Kd.S_far (p := ⟨gb471, 1, none⟩) (Kd.S_far (p := ⟨gb471, 0, none⟩) (Kd.S_types HO475.out BK471.out (by decide)) (fun _ hk => hk.2) (.int .i64 t472)) (fun _ hk => hk.2) (.slice Ao13 t473.length co13)) (fun _ hk => hk.1.2), by (with_reducible repeat (first | apply Kd.R_alloc | apply Kd.R_drewN | apply Kd.R_drew)); exact Kd.R_mono (Kd.R_far (p := ⟨gb471, 1, none⟩) (Kd.R_far (p := ⟨gb471, 0, none⟩) (Kd.R_types HO492.out BK471.out (by decide)) (fun _ hk => hk.2) (.int .i64 t472)) (fun _ hk => hk.2) (.slice Ao13 t473.length co13)) (fun _ hk => trivial), mJ⟩
/-! ### spec_DrawIsStable: function 56 -/
def spec_DrawIsStable.f (k : Nat) (l0 : List Int) : Option (Int × (List (List Int)) × List Int) := (spec_DrawIsSet.f k l0).bind fun bt494 => (some (bt494.1, bt494.2.1, bt494.2.2))
theorem spec_DrawIsStable.mono : ∀ a0 k, LeO (spec_DrawIsStable.f k a0) (spec_DrawIsStable.f (k + 1) a0) := by
 intro a0 k
 unfold spec_DrawIsStable.f
 repeat' with_reducible first | exact spec_DrawIsSet.mono _ _ | exact LeO.refl _ | exact LeO.none _ | refine LeO.ite ?_ ?_ | refine LeO.bind ?_ (fun _ => ?_)
set_option maxHeartbeats 8000000 in
set_option maxRecDepth 100000 in
theorem spec_DrawIsStable.calls (k : Nat) (A0 : Option Addr) (c0 : Nat) (l0 : List Int) (r1 : Int) (r2 : List (List Int)) (r3 : List Int) (w : World) (hr0 : Kd.C (Kd.int .u8) w A0 l0.length l0) (hc0 : l0.length ≤ c0) (h : spec_DrawIsStable.f k l0 = some (r1, r2, r3)) :
  Calls Try.prog 56 #[.slice A0 l0.length c0] w fun e w' => ∃ v1_ v2_ : Value, e = .returned (.tuple #[.agg #[.int .i64 r1, v1_], v2_]) ∧ Kd.S (Kd.slice 3 (Kd.int .i64)) 25 w' w.heap.size (fun k_ => some k_ ≠ (v2_ : Value).ownBlock) v1_ r2 ∧ Kd.R (Kd.int .i64) 3 w' w.heap.size (fun _ => True) v2_ r3 ∧ Below w.heap.size w w' := by
 have hu28 := Try.underlying28
 have HR0 := Aside0.mk hr0
 have HC0 := Aside0.mk hc0
 clear hr0 hc0
 have HB := Aside0.mk (Below.refl w.heap.size w)
 have H : ((spec_DrawIsSet.f k l0).bind fun bt494 => (some (bt494.1, bt494.2.1, bt494.2.2))) = some (r1, r2, r3) := h
 clear h
 replace H := Option.bind_eq_some_iff.mp H
 obtain ⟨⟨t494, t495, t498⟩, A20, H⟩ := H
 try dsimp only at H
 have A2 := Aside0.mk A20
 clear A20
 simp only [Option.some.injEq, Prod.mk.injEq] at H
 obtain ⟨rfl, rfl, rfl⟩ := H
 go_enter Try.func56, Try.ntmps56
 go_wp2_with (first | ((with_reducible refine gate_dst (N := 2) rfl ?_); refine box_event ?hg (N := 2) ?hd (cs := #[.int .i64 0, .slice none 0 0]) (t := 28) ?hr ?_; (case hd => rfl); (case hg => rfl); (case hr => first | (go_simp; done) | (go_simp; rfl)); intro gb493 hg w3 hbox hb; have n0_ := Aside0.mk (below_step (mB HB.out) hb); have n1_ := Aside0.mk (hbox); have n2_ := Aside0.mk ((by rw [hg]; exact (below_size (mB HB.out)) : w.heap.size ≤ gb493)); have n3_ := Aside0.mk ((by rw [hg]; exact (below_size (mB HB.out)) : w.heap.size ≤ gb493)); clear HB; have HB := n0_; have BK493 := n1_; have GW493 := n2_; have GE493 := n3_; clear n0_ n1_ n2_ n3_; clear hb hbox hg) | ((with_reducible refine gate_callee (f := 101) rfl ?_); refine goesL_ (some 5) rfl rfl Try.func101 (by kernel_rfl) rfl #[.slice A0 l0.length c0] rfl mA ?_; (with_reducible refine (spec_DrawIsSet.calls k _ _ l0 t494 t495 t498 _ ?side1 ?side2 A2.out).mono ?_); (case side1 => exact mC (Kd.C_below HR0.out HB.out)); (case side2 => exact HC0.out); rintro e w4 ⟨v496, v499, rfl, ho0, ho1, hb⟩; refine ⟨_, rfl, ?_⟩; have n0_ := Aside0.mk (Kd.S_lower ho0 (below_size mG)); have n1_ := Aside0.mk (Kd.R_lower ho1 (below_size mG)); have n2_ := Aside0.mk (blk_below (g := gb493) (o := .cells #[.int .i64 0, .slice none 0 0] 28 (0, 0)) ((mK (BK493.out))) hb); have n3_ := Aside0.mk (below_step mG hb); clear BK493 HB; have HO497 := n0_; have HO500 := n1_; have BK493 := n2_; have HB := n3_; clear n0_ n1_ n2_ n3_; (try clear hb); (try clear ho0); (try clear ho1); have hcz5_0 : w4.cell? ⟨gb493, 0, none⟩ = some (.int .i64 0) := (blk_cell BK493.out 0).trans rfl; have hcz5_1 : w4.cell? ⟨gb493, 1, none⟩ = some (.slice none 0 0) := (blk_cell BK493.out 1).trans rfl; have hfz5_0 := blk_frozen BK493.out 0; have hfz5_1 := blk_frozen BK493.out 1; obtain ⟨Ao6, co6, eo6⟩ := Kd.S_slice HO497.out; subst eo6))
 refine bodyPost_ret (results_ct rfl _ _ gb493 28 #[.int .i64 t494, .slice Ao6 t495.length co6] (0, 0) _ rfl (by refine pK ?_; refine blk_put (cs := #[.int .i64 t494, .slice none 0 0]) ?_ 1 _ rfl; refine pK ?_; refine blk_put (cs := #[.int .i64 0, .slice none 0 0]) ?_ 0 _ rfl; refine pK ?_; exact BK493.out) Try.underlying28 rfl (by kernel_rfl)) rfl ?_
 exact ⟨_, _, mE, by (with_reducible repeat (first | apply Kd.S_alloc | apply Kd.S_drewN | apply Kd.S_drew)); exact Kd.S_mono (Kd.S_far (p := ⟨gb493, 1, none⟩) (Kd.S_far (p := ⟨gb493, 0, none⟩) (Kd.S_types HO497.out BK493.out (by decide)) (fun _ hk => hk.2) (.int .i64 t494)) (fun _ hk => hk.2) (.slice Ao6 t495.length co6)) (fun _ hk => hk.1), by (with_reducible repeat (first | apply Kd.R_alloc | apply Kd.R_drewN | apply Kd.R_drew)); exact Kd.R_mono (Kd.R_far (p := ⟨gb493, 1, none⟩) (Kd.R_far (p := ⟨gb493, 0, none⟩) (Kd.R_types HO500.out BK493.out (by decide)) (fun _ hk => hk.2) (.int .i64 t494)) (fun _ hk => hk.2) (.slice Ao6 t495.length co6)) (fun _ hk => trivial), mG⟩

/-! ### laws_within: function 58 -/
def laws_within.l0 : Nat → List Int → List Int → Int → Option (Bool)
 | 0, _, _, _ => none
 | k + 1, x0, x1, x5 => if x5 < (x0.length : Int) then (if 0 ≤ x5 then ((laws_contains.f k x1 (rd x0 x5)).bind fun t502 => (if t502 = true then (laws_within.l0 k x0 x1 (wrap64 (x5 + 1))) else (some false))) else (none)) else (some true)
def laws_within.f (k : Nat) (l0 : List Int) (l1 : List Int) : Option (Bool) := laws_within.l0 k l0 l1 0
theorem laws_within.mono_l : ∀ k, (∀ y0 y1 y2, LeO (laws_within.l0 k y0 y1 y2) (laws_within.l0 (k + 1) y0 y1 y2))
 | 0 => fun _ _ _ r h => by simp [laws_within.l0] at h
 | k + 1 => by
  have ih0 := laws_within.mono_l k
  ·
   intro y0 y1 y2
   unfold laws_within.l0
   repeat' with_reducible first | exact ih0 _ _ _ | exact laws_contains.mono _ _ _ | exact LeO.refl _ | exact LeO.none _ | refine LeO.ite ?_ ?_ | refine LeO.bind ?_ (fun _ => ?_)
theorem laws_within.mono : ∀ a0 a1 k, LeO (laws_within.f k a0 a1) (laws_within.f (k + 1) a0 a1) := by
 intro a0 a1 k
 have ih0 := laws_within.mono_l k
 unfold laws_within.f
 repeat' with_reducible first | exact ih0 _ _ _ | exact laws_contains.mono _ _ _ | exact LeO.refl _ | exact LeO.none _ | refine LeO.ite ?_ ?_ | refine LeO.bind ?_ (fun _ => ?_)
set_option maxHeartbeats 8000000 in
set_option maxRecDepth 100000 in
theorem laws_within.calls (k : Nat) (A0 : Option Addr) (c0 : Nat) (l0 : List Int) (A1 : Option Addr) (c1 : Nat) (l1 : List Int) (r : Bool) (w : World) (hr0 : Kd.C (Kd.int .i64) w A0 l0.length l0) (hc0 : l0.length ≤ c0) (hr1 : Kd.C (Kd.int .i64) w A1 l1.length l1) (hc1 : l1.length ≤ c1) (h : laws_within.f k l0 l1 = some r) :
  Calls Try.prog 58 #[.slice A0 l0.length c0, .slice A1 l1.length c1] w fun e w' => e = .returned (.bool r) ∧ Drawn0 w w' := by
 have HR0 := Aside0.mk hr0
 have HC0 := Aside0.mk hc0
 clear hr0 hc0
 have HR1 := Aside0.mk hr1
 have HC1 := Aside0.mk hc1
 clear hr1 hc1
 have H : (laws_within.l0 k l0 l1 0) = some r := h
 clear h
 have H' := Aside0.mk H
 clear H
 go_enter Try.func58, Try.ntmps58
 go_wp2
 go_loopg [5] k (fun kq v5 w' => ∃ (x5_1 : Int), v5 = .int .i64 x5_1 ∧ Aside0 (laws_within.l0 kq l0 l1 x5_1 = some r) ∧ Aside0 (kq ≤ k) ∧ Drawn0 w w')
 case atStart => exact ⟨(0), mF, H', ⟨Nat.le_refl _⟩, by repeat (first | exact Drawn0.refl _ | apply Drawn0.step)⟩
 case round =>
  clear H'
  obtain ⟨x5_1, rfl, HA, HK1, ⟨m1, rfl⟩⟩ := hrel
  cases gk with
  | zero => exact absurd HA.out (by simp [laws_within.l0])
  | succ k1 =>
   have H := HA.out
   clear HA
   simp only [laws_within.l0] at H
   by_cases c3 : x5_1 < (l0.length : Int)
   rotate_left
   ·
    rw [if_neg c3] at H
    have c3b0 : decide (x5_1 < (l0.length : Int)) = false := decide_eq_false c3
    clear c3
    obtain rfl := Option.some.inj H
    go_wp2
    go_ret
    exact ⟨mF, by repeat (first | exact Drawn0.refl _ | apply Drawn0.step)⟩
   rw [if_pos c3] at H
   have c3b0 : decide (x5_1 < (l0.length : Int)) = true := decide_eq_true c3
   clear c3
   by_cases c4 : 0 ≤ x5_1
   rotate_left
   ·
    rw [if_neg c4] at H
    exact absurd H (by simp)
   rw [if_pos c4] at H
   have c4b0 : decide (0 ≤ x5_1) = true := decide_eq_true c4
   clear c4
   replace H := Option.bind_eq_some_iff.mp H
   obtain ⟨t502, A50, H⟩ := H
   have A5 := Aside0.mk A50
   clear A50
   by_cases c6 : t502 = true
   rotate_left
   ·
    replace c6 := Bool.eq_false_iff.mpr c6
    subst c6
    rw [if_neg (show ¬ (false = true) by decide)] at H
    obtain rfl := Option.some.inj H
    have p501 : 0 ≤ (x5_1 : Int) := mD
    have q501 : x5_1 < (l0.length : Int) := mD
    obtain ⟨ad501, e501, hx501_0⟩ := Kd.at_int HR0.out x5_1 p501 q501
    cases e501
    replace p501 := eq_true p501
    replace q501 := eq_true q501
    go_wp2_with (first | ((with_reducible refine gate_callee (f := 51) rfl ?_); refine goesL_ (some 17) rfl rfl Try.func51 (by kernel_rfl) rfl #[.slice A1 l1.length c1, .int .i64 (rd l0 x5_1)] rfl mA ?_; (with_reducible refine (laws_contains.calls k1 _ _ l1 (rd l0 x5_1) false _ ?side1 ?side2 A5.out).mono ?_); (case side1 => exact mC HR1.out); (case side2 => exact HC1.out); rintro e w' ⟨rfl, ⟨nd, rfl⟩⟩; refine ⟨_, rfl, ?_⟩))
    go_ret
    exact ⟨mF, by repeat (first | exact Drawn0.refl _ | apply Drawn0.step)⟩
   subst c6
   rw [if_pos rfl] at H
   have H' := Aside0.mk H
   clear H
   have p501 : 0 ≤ (x5_1 : Int) := mD
   have q501 : x5_1 < (l0.length : Int) := mD
   obtain ⟨ad501, e501, hx501_0⟩ := Kd.at_int HR0.out x5_1 p501 q501
   cases e501
   replace p501 := eq_true p501
   replace q501 := eq_true q501
   go_wp2_with (first | ((with_reducible refine gate_callee (f := 51) rfl ?_); refine goesL_ (some 17) rfl rfl Try.func51 (by kernel_rfl) rfl #[.slice A1 l1.length c1, .int .i64 (rd l0 x5_1)] rfl mA ?_; (with_reducible refine (laws_contains.calls k1 _ _ l1 (rd l0 x5_1) true _ ?side1 ?side2 A5.out).mono ?_); (case side1 => exact mC HR1.out); (case side2 => exact HC1.out); rintro e w' ⟨rfl, ⟨nd, rfl⟩⟩; refine ⟨_, rfl, ?_⟩))
   go_roundg k1
   case measure => have := HK1.out; omega
   case rel => exact ⟨(wrap64 (x5_1 + 1)), mF, H', ⟨by have := HK1.out; omega⟩, by repeat (first | exact Drawn0.refl _ | apply Drawn0.step)⟩
end Go.Proofs.Ytelkfhlnejlheaa.GFnFree
