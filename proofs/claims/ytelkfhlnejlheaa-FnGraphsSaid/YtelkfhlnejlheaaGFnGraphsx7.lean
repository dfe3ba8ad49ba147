-- Written by gprint.py, a program of this session, with the printer of the kit as its library. Lean checks it.
import Derived.Test.YtelkfhlnejlheaaGFnGraphsx0
import Derived.Test.YtelkfhlnejlheaaGFnGraphsx1
import Derived.Test.YtelkfhlnejlheaaGFnGraphsx2
import Derived.Test.YtelkfhlnejlheaaGFnGraphsx3
import Derived.Test.YtelkfhlnejlheaaGFnGraphsx6
namespace Go.Proofs.Ytelkfhlnejlheaa.GFnGraphs
open Go.RowKit Go.Proofs.YtelkfhlnejlheaaW.PrintWords Go.Proofs.YtelkfhlnejlheaaW.PrintLast Go.Proofs.YtelkfhlnejlheaaW.PrintMore
attribute [local go_sem] max2_int min2_int max_two min_two max_three min_three max_four min_four   -- for this text's walks alone
set_option linter.unusedVariables false
set_option linter.unusedSimpArgs false

/-! ### spec_DrawDoesAttack: function 93 -/
def spec_DrawDoesAttack.f (k : Nat) (l0 : List Int) : Option (Int × (List (List Int)) × Int × Int) := (spec_DrawAttackersOf.f k l0).bind fun bt355 => ((spec_l1New.f k l0).bind fun bt361 => ((spec_l1Below.f bt361.1 bt361.2.1 bt361.2.2 7).bind fun bt365 => (some (bt355.1, bt355.2.1, bt355.2.2, bt365.1))))
theorem spec_DrawDoesAttack.mono : ∀ a0 k, LeO (spec_DrawDoesAttack.f k a0) (spec_DrawDoesAttack.f (k + 1) a0) := by
 intro a0 k
 unfold spec_DrawDoesAttack.f
 repeat' with_reducible first | exact spec_DrawAttackersOf.mono _ _ | exact spec_l1New.mono _ _ | exact LeO.refl _ | exact LeO.none _ | refine LeO.ite ?_ ?_ | refine LeO.bind ?_ (fun _ => ?_)
set_option maxHeartbeats 8000000 in
set_option maxRecDepth 100000 in
theorem spec_DrawDoesAttack.calls (k : Nat) (A0 : Option Addr) (c0 : Nat) (l0 : List Int) (r1 : Int) (r2 : List (List Int)) (r3 : Int) (r4 : Int) (w : World) (hr0 : Kd.C (Kd.int .u8) w A0 l0.length l0) (hc0 : l0.length ≤ c0) (h : spec_DrawDoesAttack.f k l0 = some (r1, r2, r3, r4)) :
  Calls Try.prog 93 #[.slice A0 l0.length c0] w fun e w' => ∃ v1_ : Value, e = .returned (.tuple #[.agg #[.int .i64 r1, v1_], .int .i64 r3, .int .i64 r4]) ∧ Kd.S (Kd.slice 3 (Kd.int .i64)) 25 w' w.heap.size (fun _ => True) v1_ r2 ∧ Below w.heap.size w w' := by
 have hu28 := Try.underlying28
 have HR0 := Aside0.mk hr0
 have HC0 := Aside0.mk hc0
 clear hr0 hc0
 have HB := Aside0.mk (Below.refl w.heap.size w)
 have H : ((spec_DrawAttackersOf.f k l0).bind fun bt355 => ((spec_l1New.f k l0).bind fun bt361 => ((spec_l1Below.f bt361.1 bt361.2.1 bt361.2.2 7).bind fun bt365 => (some (bt355.1, bt355.2.1, bt355.2.2, bt365.1))))) = some (r1, r2, r3, r4) := h
 clear h
 replace H := Option.bind_eq_some_iff.mp H
 obtain ⟨⟨t355, t356, t359⟩, A20, H⟩ := H
 try dsimp only at H
 have A2 := Aside0.mk A20
 clear A20
 replace H := Option.bind_eq_some_iff.mp H
 obtain ⟨⟨t361, t362, t363⟩, A30, H⟩ := H
 try dsimp only at H
 have A3 := Aside0.mk A30
 clear A30
 replace H := Option.bind_eq_some_iff.mp H
 obtain ⟨⟨t365, t366, t367⟩, A40, H⟩ := H
 try dsimp only at H
 have A4 := Aside0.mk A40
 clear A40
 simp only [Option.some.injEq, Prod.mk.injEq] at H
 obtain ⟨rfl, rfl, rfl, rfl⟩ := H
 go_enter Try.func93, Try.ntmps93
 try go_wp2_with (first | ((with_reducible refine gate_dst (N := 2) rfl ?_); refine box_event ?hg (N := 2) ?hd (cs := #[.int .i64 0, .slice none 0 0]) (t := 28) ?hr ?_; (case hd => rfl); (case hg => rfl); (case hr => first | (go_simp; done) | (go_simp; rfl)); intro gb354 hg w5 hbox hb; have n0_ := Aside0.mk (below_step (mB HB.out) hb); have n1_ := Aside0.mk (hbox); have n2_ := Aside0.mk ((by rw [hg]; exact (below_size (mB HB.out)) : w.heap.size ≤ gb354)); have n3_ := Aside0.mk ((by rw [hg]; exact (below_size (mB HB.out)) : w.heap.size ≤ gb354)); clear HB; have HB := n0_; have BK354 := n1_; have GW354 := n2_; have GE354 := n3_; clear n0_ n1_ n2_ n3_; clear hb hbox hg) | ((with_reducible refine gate_callee (f := 115) rfl ?_); refine goesL_ (some 10) rfl rfl Try.func115 (by kernel_rfl) rfl #[.slice A0 l0.length c0] rfl mA ?_; (with_reducible refine (spec_DrawAttackersOf.calls k _ _ l0 t355 t356 t359 _ ?side1 ?side2 A2.out).mono ?_); (case side1 => exact mC (Kd.C_below HR0.out HB.out)); (case side2 => exact HC0.out); rintro e w6 ⟨v357, rfl, ho0, hb⟩; refine ⟨_, rfl, ?_⟩; have n0_ := Aside0.mk (Kd.S_lower ho0 (below_size mG)); have n1_ := Aside0.mk (blk_below (g := gb354) (o := .cells #[.int .i64 0, .slice none 0 0] 28 (0, 0)) ((mK (BK354.out))) hb); have n2_ := Aside0.mk (below_step mG hb); clear BK354 HB; have HO358 := n0_; have BK354 := n1_; have HB := n2_; clear n0_ n1_ n2_; (try clear hb); (try clear ho0)) | ((with_reducible refine gate_dst (N := 5) rfl ?_); refine box_event ?hg (N := 5) ?hd (cs := #[.int .i64 0, .slice none 0 0]) (t := 28) ?hr ?_; (case hd => rfl); (case hg => rfl); (case hr => first | (go_simp; done) | (go_simp; rfl)); intro gb360 hg w7 hbox hb; have n0_ := Aside0.mk (Kd.S_below (mS HO358.out) hb); have n1_ := Aside0.mk (blk_below (g := gb354) (o := .cells #[.int .i64 0, .slice none 0 0] 28 (0, 0)) ((mK (BK354.out))) hb); have n2_ := Aside0.mk (below_step mG hb); have n3_ := Aside0.mk (hbox); have n4_ := Aside0.mk ((by rw [hg]; exact (below_size mG) : w.heap.size ≤ gb360)); have n5_ := Aside0.mk ((by rw [hg]; exact (below_size mG) : w.heap.size ≤ gb360)); have n6_ := Aside0.mk ((by rw [hg]; exact Nat.ne_of_lt (blk_lt (g := gb354) (o := .cells #[.int .i64 0, .slice none 0 0] 28 (0, 0)) ((mK (BK354.out)))) : gb354 ≠ gb360)); have n7_ := Aside0.mk ((by rw [hg]; exact Nat.ne_of_gt (blk_lt (g := gb354) (o := .cells #[.int .i64 0, .slice none 0 0] 28 (0, 0)) ((mK (BK354.out)))) : gb360 ≠ gb354)); clear HO358 BK354 HB; have HO358 := n0_; have BK354 := n1_; have HB := n2_; have BK360 := n3_; have GW360 := n4_; have GE360 := n5_; have NB354_360 := n6_; have NB360_354 := n7_; clear n0_ n1_ n2_ n3_ n4_ n5_ n6_ n7_; clear hb hbox hg; have hnb8 := NB360_354.out; have hnc8 := NB354_360.out; have hcz9_0 : w7.cell? ⟨gb360, 0, none⟩ = some (.int .i64 0) := (blk_cell BK360.out 0).trans rfl; have hcz9_1 : w7.cell? ⟨gb360, 1, none⟩ = some (.slice none 0 0) := (blk_cell BK360.out 1).trans rfl; have hfz9_0 := blk_frozen BK360.out 0; have hfz9_1 := blk_frozen BK360.out 1; obtain ⟨Ao10, co10, eo10⟩ := Kd.S_slice HO358.out; subst eo10) | ((with_reducible refine gate_callee (f := 98) rfl ?_); refine goesL_ (some 14) rfl rfl Try.func98 (by kernel_rfl) rfl #[.slice A0 l0.length c0] rfl mA ?_; (with_reducible refine (spec_l1New.calls k _ _ l0 t361 t362 t363 w _ ?side1 ?side2 ?side3 A3.out).mono ?_); (case side1 => repeat (first | (with_reducible first | exact HB.out | apply below_alloc | apply pw_below_drewN | apply below_drew1 | refine below_set ?_ GE354.out | refine below_set ?_ GE360.out) | exact HB.out)); (case side2 => exact HR0.out); (case side3 => exact HC0.out); rintro e w11 ⟨g364, rfl, hi, hb, hb2⟩; refine ⟨_, rfl, ?_⟩; have n0_ := Aside0.mk (Kd.S_below (mS ((Kd.S_mono (Kd.S_far (p := ⟨gb360, 1, none⟩) (Kd.S_far (p := ⟨gb360, 0, none⟩) (Kd.S_types HO358.out BK360.out (by decide)) (fun _ hk => hk.2) (.int .i64 t355)) (fun _ hk => hk.2) (.slice Ao10 t356.length co10)) (fun _ h_ => h_.1)))) hb2); have n1_ := Aside0.mk (blk_below (g := gb354) (o := .cells #[.int .i64 0, .slice none 0 0] 28 (0, 0)) (by refine pK ?_; refine blk_far ?_ NB354_360.out _; refine pK ?_; refine blk_far ?_ NB354_360.out _; refine pK ?_; exact BK354.out) hb2); have n2_ := Aside0.mk (blk_below (g := gb360) (o := .cells #[.int .i64 t355, .slice Ao10 t356.length co10] 28 (0, 0)) (by refine pK ?_; refine blk_put (cs := #[.int .i64 t355, .slice none 0 0]) ?_ 1 _ rfl; refine pK ?_; refine blk_put (cs := #[.int .i64 0, .slice none 0 0]) ?_ 0 _ rfl; refine pK ?_; exact BK360.out) hb2); have n3_ := Aside0.mk (hb); have n4_ := Aside0.mk (hi); have n5_ := Aside0.mk (IsS88.ne_blk hi (blk_below (g := gb354) (o := .cells #[.int .i64 0, .slice none 0 0] 28 (0, 0)) (by refine pK ?_; refine blk_far ?_ NB354_360.out _; refine pK ?_; refine blk_far ?_ NB354_360.out _; refine pK ?_; exact BK354.out) hb2) (by decide)); have n6_ := Aside0.mk (Ne.symm (IsS88.ne_blk hi (blk_below (g := gb354) (o := .cells #[.int .i64 0, .slice none 0 0] 28 (0, 0)) (by refine pK ?_; refine blk_far ?_ NB354_360.out _; refine pK ?_; refine blk_far ?_ NB354_360.out _; refine pK ?_; exact BK354.out) hb2) (by decide))); have n7_ := Aside0.mk (IsS88.ne_blk hi (blk_below (g := gb360) (o := .cells #[.int .i64 t355, .slice Ao10 t356.length co10] 28 (0, 0)) (by refine pK ?_; refine blk_put (cs := #[.int .i64 t355, .slice none 0 0]) ?_ 1 _ rfl; refine pK ?_; refine blk_put (cs := #[.int .i64 0, .slice none 0 0]) ?_ 0 _ rfl; refine pK ?_; exact BK360.out) hb2) (by decide)); have n8_ := Aside0.mk (Ne.symm (IsS88.ne_blk hi (blk_below (g := gb360) (o := .cells #[.int .i64 t355, .slice Ao10 t356.length co10] 28 (0, 0)) (by refine pK ?_; refine blk_put (cs := #[.int .i64 t355, .slice none 0 0]) ?_ 1 _ rfl; refine pK ?_; refine blk_put (cs := #[.int .i64 0, .slice none 0 0]) ?_ 0 _ rfl; refine pK ?_; exact BK360.out) hb2) (by decide))); clear HO358 BK354 BK360 HB; have HO358 := n0_; have BK354 := n1_; have BK360 := n2_; have HB := n3_; have HI364 := n4_; have NB364_354 := n5_; have NB354_364 := n6_; have NB364_360 := n7_; have NB360_364 := n8_; clear n0_ n1_ n2_ n3_ n4_ n5_ n6_ n7_ n8_; (try clear hb)))
 have n0_ := Aside0.mk (Kd.S_drew HO358.out)
 have n1_ := Aside0.mk (blk_drew BK354.out)
 have n2_ := Aside0.mk (blk_drew BK360.out)
 have n3_ := Aside0.mk (IsS88.drew HI364.out)
 have n4_ := Aside0.mk (below_drew1 HB.out)
 clear HO358 BK354 BK360 HI364 HB; have HO358 := n0_; have BK354 := n1_; have BK360 := n2_; have HI364 := n3_; have HB := n4_; clear n0_ n1_ n2_ n3_ n4_
 refine start_ (n := 7) (S := fun w' => w'.cell? ⟨gb360, 0, none⟩ = some (.int .i64 t355) ∧ w'.cell? ⟨gb360, 1, none⟩ = some (.slice Ao10 t356.length co10)) (ds := []) (L_ 0 7) (by kernel_rfl) rfl rfl ⟨(blk_cell BK360.out 0).trans rfl, (blk_cell BK360.out 1).trans rfl⟩ (fun hHeld => ?_)
 generalize w11.drew = w12 at HO358 BK354 BK360 HI364 HB hHeld ⊢
 refine pq 1 16 #[false, true, false, false, false, false, false] ?_
 refine pq 2 17 #[false, true, true, false, false, false, false] ?_
 refine take_ (i := 0) (N := some 15) (v := ?_) (a' := ?_) (L_ 3 7) rfl rfl (by kernel_rfl) (fun _ _ _ h => h) (Or.inl ⟨by rfl, ?_⟩) hHeld ?_ ?_
 rotate_left
 ·
  rintro w' ⟨s0, s1⟩
  go_simp
  with_reducible rfl
 rotate_left
 ·
  simp only [Act.put, List.setIfInBounds_toArray, List.set_cons_zero, List.set_cons_succ, i64_w, i32_w]
  rfl
 refine one_ (i := 3) (N := some 18) (L_ 4 7) rfl rfl (by kernel_rfl) (by decide) (fun K hK => ?_)
 refine goes_ Try.func116 (by kernel_rfl) rfl #[.pointer (some ⟨g364, 0, none⟩), .int .i64 7] (by rfl) rfl rfl mA ?_
 with_reducible refine (spec_l1Below.calls g364 t361 t362 t363 7 t365 t366 t367 w _ ?side1 ?side2 A4.out).mono ?_
 (case side1 => repeat (first | (with_reducible first | exact HI364.out | apply IsS88.alloc | apply IsS88.drewN | apply IsS88.drew | apply IsS88.set_1 | apply IsS88.set_2 | refine IsS88.far ?_ NB364_354.out _ | refine IsS88.far ?_ NB364_360.out _) | exact HI364.out))
 (case side2 => repeat (first | (with_reducible first | exact HB.out | apply below_alloc | apply pw_below_drewN | apply below_drew1 | refine below_set ?_ (IsS88.ge HI364.out) | refine below_set ?_ GE354.out | refine below_set ?_ GE360.out) | exact HB.out))
 rintro e w13 ⟨rfl, hi, hb, hk⟩
 refine ⟨_, rfl, ?_⟩
 have n0_ := Aside0.mk (KeepBut.blk hk (g' := gb354) (o := .cells #[.int .i64 0, .slice none 0 0] 28 (0, 0)) ((mK (BK354.out))) NB354_364.out (by simp))
 have n1_ := Aside0.mk (Kd.S_mono (Kd.S_keep (IsS88.apartS (show IsS88 w _ g364 t361 t362 t363 from mI) (mS HO358.out) (by decide)) hk (fun _ h => h.2)) (fun _ h => h.1))
 have n2_ := Aside0.mk (KeepBut.blk hk (g' := gb360) (o := .cells #[.int .i64 t355, .slice Ao10 t356.length co10] 28 (0, 0)) ((mK (BK360.out))) NB360_364.out (by simp))
 have n3_ := Aside0.mk (hb)
 have n4_ := Aside0.mk (hi)
 clear BK354 HO358 BK360 HB HI364; have BK354 := n0_; have HO358 := n1_; have BK360 := n2_; have HB := n3_; have HI364 := n4_; clear n0_ n1_ n2_ n3_ n4_; (try clear hb)
 refine hK.out _ _ ⟨(blk_cell BK360.out 0).trans rfl, (blk_cell BK360.out 1).trans rfl⟩ (fun hHeld => ?_)
 clear hK K
 refine norm_ (a' := ?_) ?_ ?_
 rotate_left
 ·
  show Act.put _ (some 18) _ = _
  simp only [Act.put, List.setIfInBounds_toArray, List.set_cons_zero, List.set_cons_succ, i64_w, i32_w]
  rfl
 refine one_ (i := 4) (N := none) (L_ 5 7) rfl rfl (by kernel_rfl) (by decide) (fun K hK => ?_)
 have hs14 : w13.cell? ⟨gb354, 0, none⟩ = some (.int .i64 0) := (blk_cell BK354.out 0).trans rfl
 have hfs14 := blk_frozen BK354.out 0
 have hns14_1 := NB360_354.out
 have hms14_1 := NB354_360.out
 have hs15 : w13.cell? ⟨gb354, 1, none⟩ = some (.slice none 0 0) := (blk_cell BK354.out 1).trans rfl
 have hfs15 := blk_frozen BK354.out 1
 have hns15_1 := NB360_354.out
 have hms15_1 := NB354_360.out
 refine skip_ (w1 := ?_) (by rfl) rfl ?_ ?_
 rotate_left
 ·
  go_simp
  rfl
 refine hK.out _ _ ⟨((cell_far (p := ⟨gb354, _, none⟩) NB360_354.out _).trans (((cell_far (p := ⟨gb354, _, none⟩) NB360_354.out _).trans (hHeld.1)))), ((cell_far (p := ⟨gb354, _, none⟩) NB360_354.out _).trans (((cell_far (p := ⟨gb354, _, none⟩) NB360_354.out _).trans (hHeld.2))))⟩ (fun hHeld => ?_)
 clear hK K
 refine pq 5 3 (L_ 6 7) ?_
 refine pq 6 4 (L_ 7 7) ?_
 refine done_ (by kernel_rfl) ?_
 try go_wp2
 refine bodyPost_ret (results_ctt rfl _ _ gb354 28 #[.int .i64 t355, .slice Ao10 t356.length co10] (0, 0) _ rfl (by refine pK ?_; refine blk_put (cs := #[.int .i64 t355, .slice none 0 0]) ?_ 1 _ rfl; refine pK ?_; refine blk_put (cs := #[.int .i64 0, .slice none 0 0]) ?_ 0 _ rfl; refine pK ?_; exact BK354.out) Try.underlying28 rfl (by kernel_rfl)) rfl ?_
 exact ⟨_, mE, by (with_reducible repeat (first | apply Kd.S_alloc | apply Kd.S_drewN | apply Kd.S_drew)); exact Kd.S_mono (Kd.S_far (p := ⟨gb354, 1, none⟩) (Kd.S_far (p := ⟨gb354, 0, none⟩) (Kd.S_types HO358.out BK354.out (by decide)) (fun _ hk => hk.2) (.int .i64 t355)) (fun _ hk => hk.2) (.slice Ao10 t356.length co10)) (fun _ hk => trivial), mJ⟩

/-! ### spec_DrawAddAttack: function 47 -/
def spec_DrawAddAttack.f (k : Nat) (l0 : List Int) : Option (Int × (List (List Int)) × Int × Int) := (spec_DrawDoesAttack.f k l0).bind fun bt369 => (some (bt369.1, bt369.2.1, bt369.2.2.1, bt369.2.2.2))
theorem spec_DrawAddAttack.mono : ∀ a0 k, LeO (spec_DrawAddAttack.f k a0) (spec_DrawAddAttack.f (k + 1) a0) := by
 intro a0 k
 unfold spec_DrawAddAttack.f
 repeat' with_reducible first | exact spec_DrawDoesAttack.mono _ _ | exact LeO.refl _ | exact LeO.none _ | refine LeO.ite ?_ ?_ | refine LeO.bind ?_ (fun _ => ?_)
set_option maxHeartbeats 8000000 in
set_option maxRecDepth 100000 in
theorem spec_DrawAddAttack.calls (k : Nat) (A0 : Option Addr) (c0 : Nat) (l0 : List Int) (r1 : Int) (r2 : List (List Int)) (r3 : Int) (r4 : Int) (w : World) (hr0 : Kd.C (Kd.int .u8) w A0 l0.length l0) (hc0 : l0.length ≤ c0) (h : spec_DrawAddAttack.f k l0 = some (r1, r2, r3, r4)) :
  Calls Try.prog 47 #[.slice A0 l0.length c0] w fun e w' => ∃ v1_ : Value, e = .returned (.tuple #[.agg #[.int .i64 r1, v1_], .int .i64 r3, .int .i64 r4]) ∧ Kd.S (Kd.slice 3 (Kd.int .i64)) 25 w' w.heap.size (fun _ => True) v1_ r2 ∧ Below w.heap.size w w' := by
 have hu28 := Try.underlying28
 have HR0 := Aside0.mk hr0
 have HC0 := Aside0.mk hc0
 clear hr0 hc0
 have HB := Aside0.mk (Below.refl w.heap.size w)
 have H : ((spec_DrawDoesAttack.f k l0).bind fun bt369 => (some (bt369.1, bt369.2.1, bt369.2.2.1, bt369.2.2.2))) = some (r1, r2, r3, r4) := h
 clear h
 replace H := Option.bind_eq_some_iff.mp H
 obtain ⟨⟨t369, t370, t373, t374⟩, A20, H⟩ := H
 try dsimp only at H
 have A2 := Aside0.mk A20
 clear A20
 simp only [Option.some.injEq, Prod.mk.injEq] at H
 obtain ⟨rfl, rfl, rfl, rfl⟩ := H
 go_enter Try.func47, Try.ntmps47
 go_wp2_with (first | ((with_reducible refine gate_dst (N := 2) rfl ?_); refine box_event ?hg (N := 2) ?hd (cs := #[.int .i64 0, .slice none 0 0]) (t := 28) ?hr ?_; (case hd => rfl); (case hg => rfl); (case hr => first | (go_simp; done) | (go_simp; rfl)); intro gb368 hg w3 hbox hb; have n0_ := Aside0.mk (below_step (mB HB.out) hb); have n1_ := Aside0.mk (hbox); have n2_ := Aside0.mk ((by rw [hg]; exact (below_size (mB HB.out)) : w.heap.size ≤ gb368)); have n3_ := Aside0.mk ((by rw [hg]; exact (below_size (mB HB.out)) : w.heap.size ≤ gb368)); clear HB; have HB := n0_; have BK368 := n1_; have GW368 := n2_; have GE368 := n3_; clear n0_ n1_ n2_ n3_; clear hb hbox hg) | ((with_reducible refine gate_callee (f := 93) rfl ?_); refine goesL_ (some 6) rfl rfl Try.func93 (by kernel_rfl) rfl #[.slice A0 l0.length c0] rfl mA ?_; (with_reducible refine (spec_DrawDoesAttack.calls k _ _ l0 t369 t370 t373 t374 _ ?side1 ?side2 A2.out).mono ?_); (case side1 => exact mC (Kd.C_below HR0.out HB.out)); (case side2 => exact HC0.out); rintro e w4 ⟨v371, rfl, ho0, hb⟩; refine ⟨_, rfl, ?_⟩; have n0_ := Aside0.mk (Kd.S_lower ho0 (below_size mG)); have n1_ := Aside0.mk (blk_below (g := gb368) (o := .cells #[.int .i64 0, .slice none 0 0] 28 (0, 0)) ((mK (BK368.out))) hb); have n2_ := Aside0.mk (below_step mG hb); clear BK368 HB; have HO372 := n0_; have BK368 := n1_; have HB := n2_; clear n0_ n1_ n2_; (try clear hb); (try clear ho0); have hcz5_0 : w4.cell? ⟨gb368, 0, none⟩ = some (.int .i64 0) := (blk_cell BK368.out 0).trans rfl; have hcz5_1 : w4.cell? ⟨gb368, 1, none⟩ = some (.slice none 0 0) := (blk_cell BK368.out 1).trans rfl; have hfz5_0 := blk_frozen BK368.out 0; have hfz5_1 := blk_frozen BK368.out 1; obtain ⟨Ao6, co6, eo6⟩ := Kd.S_slice HO372.out; subst eo6))
 refine bodyPost_ret (results_ctt rfl _ _ gb368 28 #[.int .i64 t369, .slice Ao6 t370.length co6] (0, 0) _ rfl (by refine pK ?_; refine blk_put (cs := #[.int .i64 t369, .slice none 0 0]) ?_ 1 _ rfl; refine pK ?_; refine blk_put (cs := #[.int .i64 0, .slice none 0 0]) ?_ 0 _ rfl; refine pK ?_; exact BK368.out) Try.underlying28 rfl (by kernel_rfl)) rfl ?_
 exact ⟨_, mE, by (with_reducible repeat (first | apply Kd.S_alloc | apply Kd.S_drewN | apply Kd.S_drew)); exact Kd.S_mono (Kd.S_far (p := ⟨gb368, 1, none⟩) (Kd.S_far (p := ⟨gb368, 0, none⟩) (Kd.S_types HO372.out BK368.out (by decide)) (fun _ hk => hk.2) (.int .i64 t369)) (fun _ hk => hk.2) (.slice Ao6 t370.length co6)) (fun _ hk => trivial), mG⟩


/-! ### slices_Clone_int_int: function 117 -/
def slices_Clone_int_int.f (l0 : List Int) : Option (List Int) := if l0.length ≤ 17592186044416 then some l0 else none
set_option maxHeartbeats 4000000 in
theorem slices_Clone_int_int.calls (A0 : Option Addr) (c0 : Nat) (l0 : List Int) (r : List Int) (w : World) (hr0 : Kd.C (Kd.int .i64) w A0 l0.length l0) (hc0 : l0.length ≤ c0) (h : slices_Clone_int_int.f l0 = some r) :
  Calls Try.prog 117 #[.slice A0 l0.length c0] w fun e w' => ∃ v0_ : Value, e = .returned (v0_) ∧ Kd.R (Kd.int .i64) 3 w' w.heap.size (fun _ => True) v0_ r ∧ Below w.heap.size w w' := by
 unfold slices_Clone_int_int.f at h
 by_cases hl : l0.length ≤ 17592186044416
 ·
  rw [if_pos hl] at h
  obtain rfl := Option.some.inj h
  cases A0 with
  | none =>
   have h0 : l0 = [] := by
    cases l0 with
    | nil => rfl
    | cons x xs => obtain ⟨_, hA, _⟩ := hr0.2.2 (by simp); cases hA
   subst h0
   refine (Try.slices_Clone_int_nil 0 c0 w).mono ?_
   rintro e w' ⟨rfl, rfl⟩
   exact ⟨_, rfl, Kd.R_nil _ _ _ _ _, Below.refl _ _⟩
  | some a =>
   by_cases hz : l0.length = 0
   ·
    have h0 : l0 = [] := List.length_eq_zero_iff.1 hz
    subst h0
    refine (Try.slices_Clone_int_zero a c0 w).mono ?_
    rintro e w' ⟨v, rfl, ho, _, hb⟩
    exact ⟨v, rfl, Kd.R_of_own ho (fun _ _ => trivial), hb⟩
   ·
    obtain ⟨b, off, p⟩ := a
    have hc : ∀ j : Nat, j < l0.length → w.cell? ((⟨b, off, p⟩ : Addr).add j) = some (.int .i64 (l0.getD j 0)) := fun j hj => by
     obtain ⟨ad, hA, h1⟩ := Kd.at_int hr0 (j : Int) (by omega) (by omega)
     injection hA with hA
     subst hA
     exact h1
    have hp : p = none := by
     have := hc 0 (by omega)
     cases p with
     | none => rfl
     | some q =>
      unfold World.cell? at this
      simp only [Addr.add, if_true] at this
      split at this
      ·
       simp at this
      ·
       cases this
    subst hp
    refine (Try.slices_Clone_int b off l0.length c0 l0 w (Nat.le_refl _) (by omega) (fun j hj => by have := hc j hj; rwa [Addr.add_lit] at this)).mono ?_
    rintro e w' ⟨v, rfl, ho, _, hb⟩
    rw [List.take_length] at ho
    exact ⟨v, rfl, Kd.R_of_own ho (fun _ _ => trivial), hb⟩
 ·
  rw [if_neg hl] at h; cases h

/-! ### impl_cloneGraph: function 94 -/
def impl_cloneGraph.l0 : Nat → List (List Int) → Int → Int → Int → List (List Int) → Option (Int × (List (List Int)))
 | 0, _, _, _, _, _ => none
 | k + 1, x11, x12, x13, x381000, x381001 => if x13 < x12 then (if 0 ≤ x13 then (if x13 < (x11.length : Int) then ((slices_Clone_int_int.f (rd_L1 x11 x13)).bind fun t382 => (if x381001.length < 5864062014805 then (impl_cloneGraph.l0 k x11 x12 (wrap64 (x13 + 1)) x381000 (x381001 ++ [t382])) else (none))) else (none)) else (none)) else (some (x381000, x381001))
def impl_cloneGraph.f (k : Nat) (a0_0 : Int) (l0_1 : List (List Int)) : Option (Int × (List (List Int))) := impl_cloneGraph.l0 k l0_1 (l0_1.length : Int) 0 a0_0 (([] : List (List Int)))
theorem impl_cloneGraph.mono_l : ∀ k, (∀ y0 y1 y2 y3 y4, LeO (impl_cloneGraph.l0 k y0 y1 y2 y3 y4) (impl_cloneGraph.l0 (k + 1) y0 y1 y2 y3 y4))
 | 0 => fun _ _ _ _ _ r h => by simp [impl_cloneGraph.l0] at h
 | k + 1 => by
  have ih0 := impl_cloneGraph.mono_l k
  ·
   intro y0 y1 y2 y3 y4
   unfold impl_cloneGraph.l0
   repeat' with_reducible first | exact ih0 _ _ _ _ _ | exact LeO.refl _ | exact LeO.none _ | refine LeO.ite ?_ ?_ | refine LeO.bind ?_ (fun _ => ?_)
theorem impl_cloneGraph.mono : ∀ a0 a1 k, LeO (impl_cloneGraph.f k a0 a1) (impl_cloneGraph.f (k + 1) a0 a1) := by
 intro a0 a1 k
 have ih0 := impl_cloneGraph.mono_l k
 unfold impl_cloneGraph.f
 repeat' with_reducible first | exact ih0 _ _ _ _ _ | exact LeO.refl _ | exact LeO.none _ | refine LeO.ite ?_ ?_ | refine LeO.bind ?_ (fun _ => ?_)
def impl_cloneGraph.T5 : Bool × List (List Nat × List Nat) := (true, [([], []), ([0], [0]), ([], []), ([2], [2]), ([3], [3]), ([1, 4, 3], [1, 4]), ([0, 1, 2, 3, 4, 5], []), ([6, 5, 5, 0, 1, 2, 3, 4, 5], [5, 6])])
def impl_cloneGraph.B5 : List Nat := [0, 1, 0, 4, 12, 31, 63, 127]
theorem impl_cloneGraph.tab5 : rtab .any (opsOf Try.f94 5) = impl_cloneGraph.T5 := by kernel_rfl
theorem impl_cloneGraph.bits5 : waitsOk impl_cloneGraph.T5.2 impl_cloneGraph.B5 = true := by kernel_rfl
set_option maxHeartbeats 8000000 in
set_option maxRecDepth 100000 in
theorem impl_cloneGraph.calls (k : Nat) (a0_0 : Int) (A0_1 : Option Addr) (c0_1 : Nat) (l0_1 : List (List Int)) (r1 : Int) (r2 : List (List Int)) (w : World) (hr0_1 : Kd.C (Kd.slice 3 (Kd.int .i64)) w A0_1 l0_1.length l0_1) (hc0_1 : l0_1.length ≤ c0_1) (h : impl_cloneGraph.f k a0_0 l0_1 = some (r1, r2)) :
  Calls Try.prog 94 #[.agg #[.int .i64 a0_0, .slice A0_1 l0_1.length c0_1]] w fun e w' => ∃ v1_ : Value, e = .returned (.agg #[.int .i64 r1, v1_]) ∧ Kd.S (Kd.slice 3 (Kd.int .i64)) 25 w' w.heap.size (fun _ => True) v1_ r2 ∧ Below w.heap.size w w' := by
 have hu28 := Try.underlying28
 have HR0_1 := Aside0.mk hr0_1
 have HC0_1 := Aside0.mk hc0_1
 clear hr0_1 hc0_1
 have HB := Aside0.mk (Below.refl w.heap.size w)
 have H : (impl_cloneGraph.l0 k l0_1 (l0_1.length : Int) 0 a0_0 (([] : List (List Int)))) = some (r1, r2) := h
 clear h
 obtain ⟨y377, hy377⟩ : ∃ y_ : List (List Int), y_ = (([] : List (List Int))) := ⟨_, rfl⟩
 replace H : (impl_cloneGraph.l0 k l0_1 (l0_1.length : Int) 0 a0_0 y377) = some (r1, r2) := by first | (rw [hy377]; with_reducible exact H) | (have H2_ := (Option.bind_some _ _).symm.trans H; rw [hy377]; with_reducible exact H2_) | (have H2_ := (Option.bind_some _ _).symm.trans H; with_reducible exact H2_) | with_reducible exact H | (rw [hy377]; exact H) | exact H
 have Ny377 := Aside0.mk hy377
 clear hy377
 have H' := Aside0.mk H
 clear H
 go_enter Try.func94, Try.ntmps94
 go_wp2_with (first | ((with_reducible refine gate_dst (N := 1) rfl ?_); refine box_event ?hg (N := 1) ?hd (cs := #[.int .i64 a0_0, .slice A0_1 l0_1.length c0_1]) (t := 28) ?hr ?_; (case hd => rfl); (case hg => rfl); (case hr => first | (go_simp; done) | (go_simp; rfl)); intro gb375 hg w2 hbox hb; have n0_ := Aside0.mk (below_step (mB HB.out) hb); have n1_ := Aside0.mk (hbox); have n2_ := Aside0.mk ((by rw [hg]; exact (below_size (mB HB.out)) : w.heap.size ≤ gb375)); have n3_ := Aside0.mk ((by rw [hg]; exact (below_size (mB HB.out)) : w.heap.size ≤ gb375)); clear HB; have HB := n0_; have BK375 := n1_; have GW375 := n2_; have GE375 := n3_; clear n0_ n1_ n2_ n3_; clear hb hbox hg) | ((with_reducible refine gate_dst (N := 2) rfl ?_); refine box_event ?hg (N := 2) ?hd (cs := #[.int .i64 0, .slice none 0 0]) (t := 28) ?hr ?_; (case hd => rfl); (case hg => rfl); (case hr => first | (go_simp; done) | (go_simp; rfl)); intro gb376 hg w3 hbox hb; have n0_ := Aside0.mk (blk_below (g := gb375) (o := .cells #[.int .i64 a0_0, .slice A0_1 l0_1.length c0_1] 28 (0, 0)) ((mK (BK375.out))) hb); have n1_ := Aside0.mk (below_step mG hb); have n2_ := Aside0.mk (hbox); have n3_ := Aside0.mk ((by rw [hg]; exact (below_size mG) : w.heap.size ≤ gb376)); have n4_ := Aside0.mk ((by rw [hg]; exact (below_size mG) : w.heap.size ≤ gb376)); have n5_ := Aside0.mk ((by rw [hg]; exact Nat.ne_of_lt (blk_lt (g := gb375) (o := .cells #[.int .i64 a0_0, .slice A0_1 l0_1.length c0_1] 28 (0, 0)) ((mK (BK375.out)))) : gb375 ≠ gb376)); have n6_ := Aside0.mk ((by rw [hg]; exact Nat.ne_of_gt (blk_lt (g := gb375) (o := .cells #[.int .i64 a0_0, .slice A0_1 l0_1.length c0_1] 28 (0, 0)) ((mK (BK375.out)))) : gb376 ≠ gb375)); clear BK375 HB; have BK375 := n0_; have HB := n1_; have BK376 := n2_; have GW376 := n3_; have GE376 := n4_; have NB375_376 := n5_; have NB376_375 := n6_; clear n0_ n1_ n2_ n3_ n4_ n5_ n6_; clear hb hbox hg; have hnb4 := NB375_376.out; have hnc4 := NB376_375.out; have hcz5_0 : w3.cell? ⟨gb375, 0, none⟩ = some (.int .i64 a0_0) := (blk_cell BK375.out 0).trans rfl; have hcz5_1 : w3.cell? ⟨gb375, 1, none⟩ = some (.slice A0_1 l0_1.length c0_1) := (blk_cell BK375.out 1).trans rfl; have hfz5_0 := blk_frozen BK375.out 0; have hfz5_1 := blk_frozen BK375.out 1) | ((with_reducible refine gate_dst (N := 8) rfl ?_); refine Kd.S_lit (Kd.slice 3 (Kd.int .i64)) _ 25 ?hg (N := 8) ?hd (xs := ([] : List (List Int))) (inner := []) (ok := fun _ => True) (okp := fun _ => True) ?hr ?hp (fun _ hk => hk) trivial (Below.refl _ _) (Nat.le_refl _) (by simp) ?_; (case hd => rfl); (case hg => rfl); (case hr => first | (go_simp; done) | (go_simp; rfl)); (case hp => exact (Reps.none _ _)); intro v378 w6 ho7 hb hg_ hnew_; clear hg_ hnew_; (first | rw [← Ny377.out] at ho7 | (simp only [Int.reduceToNat] at ho7; rw [← Ny377.out] at ho7)); have n0_ := Aside0.mk (Kd.S_lower ho7 (below_size mG)); have n1_ := Aside0.mk (blk_below (g := gb375) (o := .cells #[.int .i64 a0_0, .slice A0_1 l0_1.length c0_1] 28 (0, 0)) ((mK (BK375.out))) hb); have n2_ := Aside0.mk (blk_below (g := gb376) (o := .cells #[.int .i64 0, .slice none 0 0] 28 (0, 0)) ((mK (BK376.out))) hb); have n3_ := Aside0.mk (below_step mG hb); clear BK375 BK376 HB; have HO379 := n0_; have BK375 := n1_; have BK376 := n2_; have HB := n3_; clear n0_ n1_ n2_ n3_; clear hb ho7; obtain ⟨Ao8, co8, eo8⟩ := Kd.S_slice HO379.out; subst eo8) | ((with_reducible refine gate_dst (N := 3) rfl ?_); refine box_event ?hg (N := 3) ?hd (cs := #[.int .i64 0, .slice none 0 0]) (t := 28) ?hr ?_; (case hd => rfl); (case hg => rfl); (case hr => first | (go_simp; done) | (go_simp; rfl)); intro gb380 hg w9 hbox hb; have n0_ := Aside0.mk (Kd.S_below (mS HO379.out) hb); have n1_ := Aside0.mk (blk_below (g := gb375) (o := .cells #[.int .i64 a0_0, .slice A0_1 l0_1.length c0_1] 28 (0, 0)) ((mK (BK375.out))) hb); have n2_ := Aside0.mk (blk_below (g := gb376) (o := .cells #[.int .i64 0, .slice none 0 0] 28 (0, 0)) ((mK (BK376.out))) hb); have n3_ := Aside0.mk (below_step mG hb); have n4_ := Aside0.mk (hbox); have n5_ := Aside0.mk ((by rw [hg]; exact (below_size mG) : w.heap.size ≤ gb380)); have n6_ := Aside0.mk ((by rw [hg]; exact (below_size mG) : w.heap.size ≤ gb380)); have n7_ := Aside0.mk ((by rw [hg]; exact Nat.ne_of_lt (blk_lt (g := gb375) (o := .cells #[.int .i64 a0_0, .slice A0_1 l0_1.length c0_1] 28 (0, 0)) ((mK (BK375.out)))) : gb375 ≠ gb380)); have n8_ := Aside0.mk ((by rw [hg]; exact Nat.ne_of_gt (blk_lt (g := gb375) (o := .cells #[.int .i64 a0_0, .slice A0_1 l0_1.length c0_1] 28 (0, 0)) ((mK (BK375.out)))) : gb380 ≠ gb375)); have n9_ := Aside0.mk ((by rw [hg]; exact Nat.ne_of_lt (blk_lt (g := gb376) (o := .cells #[.int .i64 0, .slice none 0 0] 28 (0, 0)) ((mK (BK376.out)))) : gb376 ≠ gb380)); have n10_ := Aside0.mk ((by rw [hg]; exact Nat.ne_of_gt (blk_lt (g := gb376) (o := .cells #[.int .i64 0, .slice none 0 0] 28 (0, 0)) ((mK (BK376.out)))) : gb380 ≠ gb376)); clear HO379 BK375 BK376 HB; have HO379 := n0_; have BK375 := n1_; have BK376 := n2_; have HB := n3_; have BK380 := n4_; have GW380 := n5_; have GE380 := n6_; have NB375_380 := n7_; have NB380_375 := n8_; have NB376_380 := n9_; have NB380_376 := n10_; clear n0_ n1_ n2_ n3_ n4_ n5_ n6_ n7_ n8_ n9_ n10_; clear hb hbox hg; have hnb10 := NB380_375.out; have hnc10 := NB375_380.out; have hnb11 := NB380_376.out; have hnc11 := NB376_380.out; have hcz12_0 : w9.cell? ⟨gb380, 0, none⟩ = some (.int .i64 0) := (blk_cell BK380.out 0).trans rfl; have hcz12_1 : w9.cell? ⟨gb380, 1, none⟩ = some (.slice none 0 0) := (blk_cell BK380.out 1).trans rfl; have hfz12_0 := blk_frozen BK380.out 0; have hfz12_1 := blk_frozen BK380.out 1; have hcz13_0 : w9.cell? ⟨gb375, 0, none⟩ = some (.int .i64 a0_0) := (blk_cell BK375.out 0).trans rfl; have hcz13_1 : w9.cell? ⟨gb375, 1, none⟩ = some (.slice A0_1 l0_1.length c0_1) := (blk_cell BK375.out 1).trans rfl; have hfz13_0 := blk_frozen BK375.out 0; have hfz13_1 := blk_frozen BK375.out 1))
 go_loopg [13] k (fun kq v13 w' => ∃ (x13_1 : Int) (x381001_1 : List (List Int)) (u381001 : Value), v13 = .int .i64 x13_1 ∧ Aside0 (impl_cloneGraph.l0 kq l0_1 (l0_1.length : Int) x13_1 a0_0 x381001_1 = some (r1, r2)) ∧ Aside0 (kq ≤ k) ∧ Aside0 (Kd.S (Kd.slice 3 (Kd.int .i64)) 25 w' w.heap.size (fun _ => True) u381001 x381001_1) ∧ Aside0 (w'.heap[gb375]? = some (.cells #[.int .i64 a0_0, (.slice A0_1 l0_1.length c0_1)] 28 (0, 0))) ∧ Aside0 (w'.heap[gb376]? = some (.cells #[.int .i64 0, (.slice none 0 0)] 28 (0, 0))) ∧ Aside0 (w'.heap[gb380]? = some (.cells #[.int .i64 a0_0, u381001] 28 (0, 0))) ∧ Aside0 (Below w.heap.size w w'))
 case atStart => exact ⟨(0), (y377), (.slice Ao8 y377.length co8), mF, H', ⟨Nat.le_refl _⟩, ⟨by (with_reducible repeat (first | apply Kd.S_alloc | apply Kd.S_drewN | apply Kd.S_drew)); exact Kd.S_mono (Kd.S_far (p := ⟨gb380, 1, none⟩) (Kd.S_far (p := ⟨gb380, 0, none⟩) (Kd.S_types HO379.out BK380.out (by decide)) (fun _ hk => hk.2) (.int .i64 a0_0)) (fun _ hk => hk.2) (.slice Ao8 y377.length co8)) (fun _ hk => trivial)⟩, ⟨by refine pK ?_; refine blk_far ?_ NB375_380.out _; refine pK ?_; refine blk_far ?_ NB375_380.out _; refine pK ?_; exact BK375.out⟩, ⟨by refine pK ?_; refine blk_far ?_ NB376_380.out _; refine pK ?_; refine blk_far ?_ NB376_380.out _; refine pK ?_; exact BK376.out⟩, ⟨by refine pK ?_; refine blk_put (cs := #[.int .i64 a0_0, .slice none 0 0]) ?_ 1 _ rfl; refine pK ?_; refine blk_put (cs := #[.int .i64 0, .slice none 0 0]) ?_ 0 _ rfl; refine pK ?_; exact BK380.out⟩, ⟨mG⟩⟩
 case round =>
  clear H'
  (try clear hcz12_0); (try clear hcz12_1); (try clear hcz13_0); (try clear hcz13_1); (try clear hcz5_0); (try clear hcz5_1); (try clear hfz12_0); (try clear hfz12_1); (try clear hfz13_0); (try clear hfz13_1); (try clear hfz5_0); (try clear hfz5_1)
  obtain ⟨x13_1, x381001_1, u381001, rfl, HA, HK1, HO_381001, BK375, BK376, BK380, HB⟩ := hrel
  cases gk with
  | zero => exact absurd HA.out (by simp [impl_cloneGraph.l0])
  | succ k1 =>
   have H := HA.out
   clear HA
   simp only [impl_cloneGraph.l0] at H
   by_cases c14 : x13_1 < (l0_1.length : Int)
   rotate_left
   ·
    rw [if_neg c14] at H
    have c14b0 : decide (x13_1 < (l0_1.length : Int)) = false := decide_eq_false c14
    clear c14
    simp only [Option.some.injEq, Prod.mk.injEq] at H
    obtain ⟨rfl, rfl⟩ := H
    have hnb25 := NB380_375.out
    have hnc25 := NB375_380.out
    have hnb26 := NB380_376.out
    have hnc26 := NB376_380.out
    have hcz27_0 : wr.cell? ⟨gb380, 0, none⟩ = some (.int .i64 a0_0) := (blk_cell BK380.out 0).trans rfl
    have hcz27_1 : wr.cell? ⟨gb380, 1, none⟩ = some (u381001) := (blk_cell BK380.out 1).trans rfl
    have hfz27_0 := blk_frozen BK380.out 0
    have hfz27_1 := blk_frozen BK380.out 1
    have hnb28 := NB376_375.out
    have hnc28 := NB375_376.out
    have hcz29_0 : wr.cell? ⟨gb376, 0, none⟩ = some (.int .i64 0) := (blk_cell BK376.out 0).trans rfl
    have hcz29_1 : wr.cell? ⟨gb376, 1, none⟩ = some (.slice none 0 0) := (blk_cell BK376.out 1).trans rfl
    have hfz29_0 := blk_frozen BK376.out 0
    have hfz29_1 := blk_frozen BK376.out 1
    obtain ⟨Ao30, co30, eo30⟩ := Kd.S_slice HO_381001.out
    subst eo30
    go_wp2
    refine bodyPost_ret (results_cell_row rfl _ _ gb376 28 #[.int .i64 a0_0, .slice Ao30 x381001_1.length co30] (0, 0) _ rfl (by refine pK ?_; refine blk_put (cs := #[.int .i64 a0_0, .slice none 0 0]) ?_ 1 _ rfl; refine pK ?_; refine blk_put (cs := #[.int .i64 0, .slice none 0 0]) ?_ 0 _ rfl; refine pK ?_; exact BK376.out) Try.underlying28 rfl (by kernel_rfl)) rfl ?_
    exact ⟨_, mE, by (with_reducible repeat (first | apply Kd.S_alloc | apply Kd.S_drewN | apply Kd.S_drew)); exact Kd.S_mono (Kd.S_far (p := ⟨gb376, 1, none⟩) (Kd.S_far (p := ⟨gb376, 0, none⟩) (Kd.S_types HO_381001.out BK376.out (by decide)) (fun _ hk => hk.2) (.int .i64 a0_0)) (fun _ hk => hk.2) (.slice Ao30 x381001_1.length co30)) (fun _ hk => trivial), mG⟩
   rw [if_pos c14] at H
   have c14b0 : decide (x13_1 < (l0_1.length : Int)) = true := decide_eq_true c14
   clear c14
   by_cases c15 : 0 ≤ x13_1
   rotate_left
   ·
    rw [if_neg c15] at H
    exact absurd H (by simp)
   rw [if_pos c15] at H
   have c15b0 : decide (0 ≤ x13_1) = true := decide_eq_true c15
   clear c15
   by_cases c16 : x13_1 < (l0_1.length : Int)
   rotate_left
   ·
    rw [if_neg c16] at H
    exact absurd H (by simp)
   rw [if_pos c16] at H
   have c16b0 : decide (x13_1 < (l0_1.length : Int)) = true := decide_eq_true c16
   clear c16
   replace H := Option.bind_eq_some_iff.mp H
   obtain ⟨t382, A170, H⟩ := H
   have A17 := Aside0.mk A170
   clear A170
   by_cases c18 : x381001_1.length < 5864062014805
   rotate_left
   ·
    rw [if_neg c18] at H
    exact absurd H (by simp)
   rw [if_pos c18] at H
   have LMc18 := Aside0.mk c18
   clear c18
   obtain ⟨y385, hy385⟩ : ∃ y_ : List (List Int), y_ = (x381001_1 ++ [t382]) := ⟨_, rfl⟩
   replace H : (impl_cloneGraph.l0 k1 l0_1 (l0_1.length : Int) (wrap64 (x13_1 + 1)) a0_0 y385) = some (r1, r2) := by first | (rw [hy385]; with_reducible exact H) | (have H2_ := (Option.bind_some _ _).symm.trans H; rw [hy385]; with_reducible exact H2_) | (have H2_ := (Option.bind_some _ _).symm.trans H; with_reducible exact H2_) | with_reducible exact H | (rw [hy385]; exact H) | exact H
   have Ny385 := Aside0.mk hy385
   clear hy385
   have H' := Aside0.mk H
   clear H
   have p381 : 0 ≤ (x13_1 : Int) := mD
   have q381 : x13_1 < (l0_1.length : Int) := mD
   obtain ⟨ad381, A381_0, c381_0, e381, hx381_0, hl381_0, hi381_0⟩ := at_L1 HR0_1.out x13_1 p381 q381
   cases e381
   replace hx381_0 := (HB.out.cell (World.block_lt_of_cell? w _ hx381_0)).trans hx381_0
   have HR381_0 := Aside0.mk hi381_0
   have HC381_0 := Aside0.mk hl381_0
   clear hi381_0 hl381_0
   replace p381 := eq_true p381
   replace q381 := eq_true q381
   try go_wp2
   have n0_ := Aside0.mk (Kd.S_drew HO_381001.out)
   have n1_ := Aside0.mk (blk_drew BK375.out)
   have n2_ := Aside0.mk (blk_drew BK376.out)
   have n3_ := Aside0.mk (blk_drew BK380.out)
   have n4_ := Aside0.mk (below_drew1 HB.out)
   clear HO_381001 BK375 BK376 BK380 HB; have HO_381001 := n0_; have BK375 := n1_; have BK376 := n2_; have BK380 := n3_; have HB := n4_; clear n0_ n1_ n2_ n3_ n4_
   refine start_ (n := 8) (S := fun w' => w'.cell? ⟨gb380, 0, none⟩ = some (.int .i64 a0_0) ∧ w'.cell? ⟨gb380, 1, none⟩ = some (u381001)) (ds := [7]) (L_ 0 8) (by kernel_rfl) rfl rfl ⟨(blk_cell BK380.out 0).trans rfl, (blk_cell BK380.out 1).trans rfl⟩ (fun hHeld => ?_); refine with_tabW impl_cloneGraph.tab5 impl_cloneGraph.bits5 (fun HT_ HW_ => ?_)
   generalize wr.drew = w19 at HO_381001 BK375 BK376 BK380 HB hHeld ⊢
   refine ps 0 17 (L_ 1 8) HT_.out ?_
   refine ps 2 19 #[true, false, true, false, false, false, false, false] HT_.out ?_
   refine take_ (i := 1) (N := some 18) (v := ?_) (a' := ?_) (L_ 3 8) rfl rfl (take_ofW HT_.out HW_.out (by kernel_rfl)) (fun _ _ _ h => h) (Or.inl ⟨by rfl, ?_⟩) hHeld ?_ ?_
   rotate_left
   ·
    rintro w' ⟨s0, s1⟩
    go_simp
    with_reducible rfl
   rotate_left
   ·
    simp only [Act.put, List.setIfInBounds_toArray, List.set_cons_zero, List.set_cons_succ, i64_w, i32_w]
    rfl
   refine one_ (i := 3) (N := some 20) (L_ 4 8) rfl rfl (one_of HT_.out (by kernel_rfl)) (by decide) (fun K hK => ?_)
   refine goes_ Try.func117 (by kernel_rfl) rfl #[.slice A381_0 (rd_L1 l0_1 x13_1).length c381_0] (by rfl) rfl rfl mA ?_
   with_reducible refine (slices_Clone_int_int.calls _ _ (rd_L1 l0_1 x13_1) t382 _ ?side1 ?side2 A17.out).mono ?_
   (case side1 => exact mC (Kd.C_below HR381_0.out HB.out))
   (case side2 => exact HC381_0.out)
   rintro e w20 ⟨v383, rfl, ho0, hb⟩
   refine ⟨_, rfl, ?_⟩
   have n0_ := Aside0.mk (Kd.S_elder' (mS HO_381001.out) (Kd.R_base ho0) hb)
   have n1_ := Aside0.mk (Kd.R_lower ho0 (below_size mG))
   have n2_ := Aside0.mk (blk_below (g := gb375) (o := .cells #[.int .i64 a0_0, .slice (some ad381) l0_1.length c0_1] 28 (0, 0)) ((mK (BK375.out))) hb)
   have n3_ := Aside0.mk (blk_below (g := gb376) (o := .cells #[.int .i64 0, .slice none 0 0] 28 (0, 0)) ((mK (BK376.out))) hb)
   have n4_ := Aside0.mk (blk_below (g := gb380) (o := .cells #[.int .i64 a0_0, u381001] 28 (0, 0)) ((mK (BK380.out))) hb)
   have n5_ := Aside0.mk (below_step mG hb)
   clear HO_381001 BK375 BK376 BK380 HB; have HO_381001 := n0_; have HO384 := n1_; have BK375 := n2_; have BK376 := n3_; have BK380 := n4_; have HB := n5_; clear n0_ n1_ n2_ n3_ n4_ n5_; (try clear hb); (try clear ho0)
   obtain ⟨Ao22, co22, eo22⟩ := Kd.R_slice HO384.out
   (first | subst eo22 | (injection eo22 with f1_ f2_ f3_; have f4_ := f1_.symm; have f5_ := f3_.symm; clear f1_ f2_ f3_; subst f4_; subst f5_))
   refine hK.out _ _ ⟨(blk_cell BK380.out 0).trans rfl, (blk_cell BK380.out 1).trans rfl⟩ (fun hHeld => ?_)
   clear hK K
   refine norm_ (a' := ?_) ?_ ?_
   rotate_left
   ·
    show Act.put _ (some 20) _ = _
    simp only [Act.put, List.setIfInBounds_toArray, List.set_cons_zero, List.set_cons_succ, i64_w, i32_w]
    rfl
   refine one_ (i := 4) (N := some 21) (L_ 5 8) rfl rfl (one_of HT_.out (by kernel_rfl)) (by decide) (fun K hK => ?_)
   refine value_ (w1 := ?_) (v := ?_) (by rfl) rfl ?_ ?_
   rotate_left 2
   ·
    go_simp
    constructor
    ·
     rfl
    ·
     rfl
   refine hK.out _ _ ⟨(blk_cell (blk_alloc BK380.out _) 0).trans rfl, (blk_cell (blk_alloc BK380.out _) 1).trans rfl⟩ (fun hHeld => ?_)
   clear hK K
   refine norm_ (a' := ?_) ?_ ?_
   rotate_left
   ·
    show Act.put _ (some 21) _ = _
    simp only [Act.put, List.setIfInBounds_toArray, List.set_cons_zero, List.set_cons_succ, i64_w, i32_w]
    rfl
   refine one_ (i := 5) (N := some 22) (L_ 6 8) rfl rfl (one_of HT_.out (by kernel_rfl)) (by decide) (fun K hK => ?_)
   refine Kd.S_append_step (Kd.slice 3 (Kd.int .i64)) (w0 := w) w.heap.size (by rfl) (.tmp 18) (.tmp 21) 22 25 (.slice none 0 0) 24 rfl Try.underlying22 info25 rfl (by decide) (by omega) u381001 x381001_1 t382 [.slice Ao22 t382.length co22] (fun _ => True) (fun k_ => some k_ = (.slice Ao22 t382.length co22 : Value).ownBlock) rfl rfl ?aP (fun k_ hk_ => ((Kd.R_mono (ok' := fun k_ => ((fun _ => True)) k_ ∧ some k_ ≠ (u381001 : Value).ownBlock) (Kd.R_apart' (HO384.out) (Kd.S_typed HO_381001.out) (by decide)) (fun k_ hk => ⟨trivial, hk.2⟩))).1 k_ hk_.symm) ?aF ?aO ?aB ?aS ?aL ?_
   (case aP => exact Kd.M_row (Kd.R_mono (Kd.R_tight rfl (Kd.R_mono (ok' := fun k_ => ((fun _ => True)) k_ ∧ some k_ ≠ (u381001 : Value).ownBlock) (Kd.R_apart' (HO384.out) (Kd.S_typed HO_381001.out) (by decide)) (fun k_ hk => ⟨trivial, hk.2⟩))) (fun _ h_ => h_)))
   (case aB => exact mG)
   (case aF => exact (fun _ _ => trivial))
   (case aO => exact (mS (Kd.S_mono HO_381001.out (fun k_ hk => ⟨trivial, fun e_ => hk.2 e_⟩))))
   (case aS => exact (below_size mG))
   (case aL => have := LMc18.out; omega)
   intro v386 w21 ho hb hg hat
   rw [← Ny385.out] at ho
   have n0_ := Aside0.mk (blk_grown (g := gb375) (o := .cells #[.int .i64 a0_0, .slice (some ad381) l0_1.length c0_1] 28 (0, 0)) ((mK (BK375.out))) hg (Kd.S_ne HO_381001.out BK375.out (by decide)))
   have n1_ := Aside0.mk (blk_grown (g := gb376) (o := .cells #[.int .i64 0, .slice none 0 0] 28 (0, 0)) ((mK (BK376.out))) hg (Kd.S_ne HO_381001.out BK376.out (by decide)))
   have n2_ := Aside0.mk (blk_grown (g := gb380) (o := .cells #[.int .i64 a0_0, u381001] 28 (0, 0)) ((mK (BK380.out))) hg (Kd.S_ne HO_381001.out BK380.out (by decide)))
   have n3_ := Aside0.mk (hb)
   have n4_ := Aside0.mk (ho)
   clear BK375 BK376 BK380 HB HO_381001 HO384; have BK375 := n0_; have BK376 := n1_; have BK380 := n2_; have HB := n3_; have HO387 := n4_; clear n0_ n1_ n2_ n3_ n4_; clear ho hb hg hat
   obtain ⟨Ao23, co23, eo23⟩ := Kd.S_slice HO387.out
   (first | subst eo23 | (injection eo23 with f1_ f2_ f3_; have f4_ := f1_.symm; have f5_ := f3_.symm; clear f1_ f2_ f3_; subst f4_; subst f5_))
   refine hK.out _ _ ⟨(blk_cell BK380.out 0).trans rfl, (blk_cell BK380.out 1).trans rfl⟩ (fun hHeld => ?_)
   clear hK K
   refine norm_ (a' := ?_) ?_ ?_
   rotate_left
   ·
    show Act.put _ (some 22) _ = _
    simp only [Act.put, List.setIfInBounds_toArray, List.set_cons_zero, List.set_cons_succ, i64_w, i32_w]
    rfl
   refine ps 6 23 (L_ 7 8) HT_.out ?_
   refine last_ (i := 7) (N := none) (L_ 8 8) rfl rfl (one_of HT_.out (by kernel_rfl)) (by decide) (fun K hK => ?_)
   have hs24 : w21.cell? ⟨gb380, 1, none⟩ = some (u381001) := (blk_cell BK380.out 1).trans rfl
   have hfs24 := blk_frozen BK380.out 1
   have hns24_0 := NB375_380.out
   have hns24_1 := NB376_380.out
   have hms24_0 := NB380_375.out
   have hms24_1 := NB380_376.out
   refine skip_ (w1 := ?_) (by rfl) rfl ?_ ?_
   rotate_left
   ·
    go_simp
    rfl
   refine hK.out _ _ ?_
   clear hK K
   refine done_ (done_of HT_.out (by kernel_rfl)) ?_
   try go_wp2
   go_roundg k1
   case measure => have := HK1.out; omega
   case rel => exact ⟨(wrap64 (x13_1 + 1)), (y385), (.slice Ao23 y385.length co23), mF, H', ⟨by have := HK1.out; omega⟩, ⟨by (with_reducible repeat (first | apply Kd.S_alloc | apply Kd.S_drewN | apply Kd.S_drew)); exact Kd.S_mono (Kd.S_far (p := ⟨gb380, 1, none⟩) (Kd.S_types HO387.out BK380.out (by decide)) (fun _ hk => hk.2) (.slice Ao23 y385.length co23)) (fun _ hk => trivial)⟩, ⟨by refine pK ?_; refine blk_far ?_ NB375_380.out _; refine pK ?_; exact BK375.out⟩, ⟨by refine pK ?_; refine blk_far ?_ NB376_380.out _; refine pK ?_; exact BK376.out⟩, ⟨by refine pK ?_; refine blk_put (cs := #[.int .i64 a0_0, u381001]) ?_ 1 _ rfl; refine pK ?_; exact BK380.out⟩, ⟨mG⟩⟩
-- NOT PRINTED: function 119 (slices_overlaps_int)

-- NOT PRINTED: function 157 (slices_Reverse_int_int)

-- NOT PRINTED: function 142 (slices_rotateLeft_int)

-- NOT PRINTED: function 120 (slices_rotateRight_int)

-- NOT PRINTED: function 96 (slices_Insert_int_int)


/-! ### impl_AddAttack: function 48 -/
def impl_AddAttack.ins (l : List (List Int)) (i : Int) (p : List Int) : Option (List (List Int)) := if 0 ≤ i ∧ i ≤ (l.length : Int) ∧ l.length < 5000000000000 then some (l.take i.toNat ++ p :: l.drop i.toNat) else none
mutual
def impl_AddAttack.j1 : Nat → List Int → Int → Int → List (List Int) → Int → List (List Int) → Option (Int × (List (List Int)) × Bool)
 | 0, _, _, _, _, _, _ => none
 | k + 1, x9, x10, x0, x1, y0, y1 => (impl_AddAttack.ins y1 x10 x9).bind fun t409 => ((impl_IsGraph.f k y0 t409).bind fun t412 => (if t412 = true then (some (y0, t409, true)) else ((impl_cloneGraph.f k x0 x1).bind fun bt413 => (some (bt413.1, bt413.2, false)))))
def impl_AddAttack.l0 : Nat → List Int → Int → Int → List (List Int) → Int → List (List Int) → Option (Int × (List (List Int)) × Bool)
 | 0, _, _, _, _, _, _ => none
 | k + 1, x9, x10, x0, x1, y0, y1 => if x10 < (y1.length : Int) then (if 0 ≤ x10 then ((slices_Compare_int_int.f k (rd_L1 y1 x10) x9).bind fun t405 => (if t405 < 0 then (impl_AddAttack.l0 k x9 (wrap64 (x10 + 1)) x0 x1 y0 y1) else (impl_AddAttack.j1 k x9 x10 x0 x1 y0 y1))) else (none)) else (impl_AddAttack.j1 k x9 x10 x0 x1 y0 y1)
end
def impl_AddAttack.f (k : Nat) (a0_0 : Int) (l0_1 : List (List Int)) (a1 : Int) (a2 : Int) : Option (Int × (List (List Int)) × Bool) := (impl_cloneGraph.f k a0_0 l0_1).bind fun bt396 => (impl_AddAttack.l0 k (([a1, a2] : List Int)) 0 a0_0 l0_1 bt396.1 bt396.2)
theorem impl_AddAttack.mono_l : ∀ k, (∀ y0 y1 y2 y3 y4 y5, LeO (impl_AddAttack.j1 k y0 y1 y2 y3 y4 y5) (impl_AddAttack.j1 (k + 1) y0 y1 y2 y3 y4 y5)) ∧ (∀ y0 y1 y2 y3 y4 y5, LeO (impl_AddAttack.l0 k y0 y1 y2 y3 y4 y5) (impl_AddAttack.l0 (k + 1) y0 y1 y2 y3 y4 y5))
 | 0 => ⟨fun _ _ _ _ _ _ r h => by simp [impl_AddAttack.j1] at h, fun _ _ _ _ _ _ r h => by simp [impl_AddAttack.l0] at h⟩
 | k + 1 => by
  obtain ⟨ih0, ih1⟩ := impl_AddAttack.mono_l k
  refine ⟨?_, ?_⟩
  ·
   intro y0 y1 y2 y3 y4 y5
   unfold impl_AddAttack.j1
   repeat' with_reducible first | exact ih0 _ _ _ _ _ _ | exact ih1 _ _ _ _ _ _ | exact impl_IsGraph.mono _ _ _ | exact impl_cloneGraph.mono _ _ _ | exact LeO.refl _ | exact LeO.none _ | refine LeO.ite ?_ ?_ | refine LeO.bind ?_ (fun _ => ?_)
  ·
   intro y0 y1 y2 y3 y4 y5
   unfold impl_AddAttack.l0
   repeat' with_reducible first | exact ih0 _ _ _ _ _ _ | exact ih1 _ _ _ _ _ _ | exact slices_Compare_int_int.mono _ _ _ | exact LeO.refl _ | exact LeO.none _ | refine LeO.ite ?_ ?_ | refine LeO.bind ?_ (fun _ => ?_)
theorem impl_AddAttack.mono : ∀ a0 a1 a2 a3 k, LeO (impl_AddAttack.f k a0 a1 a2 a3) (impl_AddAttack.f (k + 1) a0 a1 a2 a3) := by
 intro a0 a1 a2 a3 k
 unfold impl_AddAttack.f
 exact LeO.bind (impl_cloneGraph.mono _ _ _) (fun _ => (impl_AddAttack.mono_l k).2 _ _ _ _ _ _)
set_option maxHeartbeats 8000000 in
set_option maxRecDepth 100000 in
theorem impl_AddAttack.calls (k : Nat) (a0_0 : Int) (A0_1 : Option Addr) (c0_1 : Nat) (l0_1 : List (List Int)) (a1 : Int) (a2 : Int) (r1 : Int) (r2 : List (List Int)) (r3 : Bool) (w : World) (hr0_1 : Kd.C (Kd.slice 3 (Kd.int .i64)) w A0_1 l0_1.length l0_1) (hc0_1 : l0_1.length ≤ c0_1) (h : impl_AddAttack.f k a0_0 l0_1 a1 a2 = some (r1, r2, r3)) :
  Calls Try.prog 48 #[.agg #[.int .i64 a0_0, .slice A0_1 l0_1.length c0_1], .int .i64 a1, .int .i64 a2] w fun e w' => ∃ v1_ : Value, e = .returned (.tuple #[.agg #[.int .i64 r1, v1_], .bool r3]) ∧ Kd.S (Kd.slice 3 (Kd.int .i64)) 25 w' w.heap.size (fun _ => True) v1_ r2 ∧ Below w.heap.size w w' := by
 have hu28 := Try.underlying28
 have HR0_1 := Aside0.mk hr0_1
 have HC0_1 := Aside0.mk hc0_1
 clear hr0_1 hc0_1
 have HB := Aside0.mk (Below.refl w.heap.size w)
 obtain ⟨⟨t396, t397⟩, A40, H⟩ := Option.bind_eq_some_iff.mp (show ((impl_cloneGraph.f k a0_0 l0_1).bind fun bt396 => (impl_AddAttack.l0 k (([a1, a2] : List Int)) 0 a0_0 l0_1 bt396.1 bt396.2)) = some (r1, r2, r3) from h)
 try dsimp only at H
 have A4 := Aside0.mk A40
 clear A40 h
 obtain ⟨y401, hy401⟩ : ∃ y_ : List Int, y_ = (([a1, a2] : List Int)) := ⟨_, rfl⟩
 rw [← hy401] at H
 have Ny401 := Aside0.mk hy401
 clear hy401
 have HC5 := Aside0.mk H
 clear H
 go_enter Try.func48, Try.ntmps48
 go_upto_block 0 with (first
  | ((with_reducible refine gate_dst (N := 3) rfl ?_); refine box_event ?hg (N := 3) ?hd (cs := #[.int .i64 a0_0, .slice A0_1 l0_1.length c0_1]) (t := 28) ?hr ?_; (case hd => rfl); (case hg => rfl); (case hr => first | (go_simp; done) | (go_simp; rfl)); intro gb394 hg w6 hbox hb; have n0_ := Aside0.mk (below_step (mB HB.out) hb); have n1_ := Aside0.mk (hbox); have GE394 := Aside0.mk ((by rw [hg]; exact (below_size (mB HB.out)) : w.heap.size ≤ gb394)); clear HB; have HB := n0_; have BK394 := n1_; clear n0_ n1_; clear hb hbox hg)
  | ((with_reducible refine gate_dst (N := 6) rfl ?_); refine box_event ?hg (N := 6) ?hd (cs := #[.int .i64 0, .slice none 0 0]) (t := 28) ?hr ?_; (case hd => rfl); (case hg => rfl); (case hr => first | (go_simp; done) | (go_simp; rfl)); intro gb395 hg w7 hbox hb; have n0_ := Aside0.mk (blk_below (g := gb394) (o := .cells #[.int .i64 a0_0, .slice A0_1 l0_1.length c0_1] 28 (0, 0)) (mK BK394.out) hb); have n1_ := Aside0.mk (below_step mG hb); have GE395 := Aside0.mk ((by rw [hg]; exact (below_size mG) : w.heap.size ≤ gb395)); have NB394_395 := Aside0.mk ((by rw [hg]; exact Nat.ne_of_lt (blk_lt (g := gb394) (o := .cells #[.int .i64 a0_0, .slice A0_1 l0_1.length c0_1] 28 (0, 0)) (mK BK394.out)) : gb394 ≠ gb395)); clear BK394 HB; have BK394 := n0_; have HB := n1_; have BK395 := Aside0.mk hbox; have NB395_394 := Aside0.mk (Ne.symm NB394_395.out); clear n0_ n1_; clear hb hbox hg; have hnb8 := NB394_395.out; have hnc8 := NB395_394.out; have hcz9_0 : w7.cell? ⟨gb394, 0, none⟩ = some (.int .i64 a0_0) := (blk_cell BK394.out 0).trans rfl; have hcz9_1 : w7.cell? ⟨gb394, 1, none⟩ = some (.slice A0_1 l0_1.length c0_1) := (blk_cell BK394.out 1).trans rfl; have hfz9_0 := blk_frozen BK394.out 0; have hfz9_1 := blk_frozen BK394.out 1)
  | ((with_reducible refine gate_callee (f := 94) rfl ?_); refine goesL_ (some 12) rfl rfl Try.func94 (by kernel_rfl) rfl #[.agg #[.int .i64 a0_0, .slice A0_1 l0_1.length c0_1]] rfl mA ?_; (with_reducible refine (impl_cloneGraph.calls k a0_0 _ _ l0_1 t396 t397 _ ?side1 ?side2 A4.out).mono ?_); (case side1 => exact mC (Kd.C_below HR0_1.out HB.out)); (case side2 => exact HC0_1.out); rintro e w10 ⟨v398, rfl, ho0, hb⟩; refine ⟨_, rfl, ?_⟩; have n0_ := Aside0.mk (Kd.S_lower ho0 (below_size mG)); have n1_ := Aside0.mk (blk_below (g := gb394) (o := .cells #[.int .i64 a0_0, .slice A0_1 l0_1.length c0_1] 28 (0, 0)) (mK BK394.out) hb); have n2_ := Aside0.mk (blk_below (g := gb395) (o := .cells #[.int .i64 0, .slice none 0 0] 28 (0, 0)) (mK BK395.out) hb); have n3_ := Aside0.mk (below_step mG hb); clear BK394 BK395 HB; have HO399 := n0_; have BK394 := n1_; have BK395 := n2_; have HB := n3_; clear n0_ n1_ n2_ n3_; (try clear hb); (try clear ho0))
  | ((with_reducible refine gate_dst (N := 8) rfl ?_); refine box_event ?hg (N := 8) ?hd (cs := #[.int .i64 0, .slice none 0 0]) (t := 28) ?hr ?_; (case hd => rfl); (case hg => rfl); (case hr => first | (go_simp; done) | (go_simp; rfl)); intro gb400 hg w11 hbox hb; have n0_ := Aside0.mk (Kd.S_below (mS HO399.out) hb); have n1_ := Aside0.mk (blk_below (g := gb394) (o := .cells #[.int .i64 a0_0, .slice A0_1 l0_1.length c0_1] 28 (0, 0)) (mK BK394.out) hb); have n2_ := Aside0.mk (blk_below (g := gb395) (o := .cells #[.int .i64 0, .slice none 0 0] 28 (0, 0)) (mK BK395.out) hb); have n3_ := Aside0.mk (below_step mG hb); have GE400 := Aside0.mk ((by rw [hg]; exact (below_size mG) : w.heap.size ≤ gb400)); have NB394_400 := Aside0.mk ((by rw [hg]; exact Nat.ne_of_lt (blk_lt (g := gb394) (o := .cells #[.int .i64 a0_0, .slice A0_1 l0_1.length c0_1] 28 (0, 0)) (mK BK394.out)) : gb394 ≠ gb400)); have NB395_400 := Aside0.mk ((by rw [hg]; exact Nat.ne_of_lt (blk_lt (g := gb395) (o := .cells #[.int .i64 0, .slice none 0 0] 28 (0, 0)) (mK BK395.out)) : gb395 ≠ gb400)); have NB400_394 := Aside0.mk (Ne.symm NB394_400.out); have NB400_395 := Aside0.mk (Ne.symm NB395_400.out); clear HO399 BK394 BK395 HB; have HO399 := n0_; have BK394 := n1_; have BK395 := n2_; have HB := n3_; have BK400 := Aside0.mk hbox; clear n0_ n1_ n2_ n3_; clear hb hbox hg; have hnb12 := NB400_394.out; have hnc12 := NB394_400.out; have hnb13 := NB400_395.out; have hnc13 := NB395_400.out; have hcz14_0 : w11.cell? ⟨gb400, 0, none⟩ = some (.int .i64 0) := (blk_cell BK400.out 0).trans rfl; have hcz14_1 : w11.cell? ⟨gb400, 1, none⟩ = some (.slice none 0 0) := (blk_cell BK400.out 1).trans rfl; have hfz14_0 := blk_frozen BK400.out 0; have hfz14_1 := blk_frozen BK400.out 1; obtain ⟨Ao15, co15, eo15⟩ := Kd.S_slice HO399.out; subst eo15)
  | ((with_reducible refine gate_dst (N := 15) rfl ?_); refine Kd.R_lit (Kd.int .i64) _ 3 ?hg (N := 15) ?hd (xs := ([a1, a2] : List Int)) (inner := [.int .i64 a1, .int .i64 a2]) (ok := fun _ => True) (okp := fun _ => True) ?hr ?hp (fun _ hk => hk) trivial (Below.refl _ _) (Nat.le_refl _) (by simp) ?_; (case hd => rfl); (case hg => rfl); (case hr => first | (go_simp; done) | (go_simp; rfl)); (case hp => exact (Reps.one (show Kd.M (Kd.int .i64) _ _ _ a1 [.int .i64 a1] from rfl) (Reps.one (show Kd.M (Kd.int .i64) _ _ _ a2 [.int .i64 a2] from rfl) (Reps.none _ _)))); intro v402 w16 ho17 hb hg_ hnew_; clear hg_ hnew_; (first | rw [← Ny401.out] at ho17 | (simp only [Int.reduceToNat] at ho17; rw [← Ny401.out] at ho17)); have n0_ := Aside0.mk (Kd.S_elder' (d := Kd.slice 3 (Kd.int .i64)) (e := 25) (base := w.heap.size) (ok := fun _ => True) (u := .slice Ao15 t397.length co15) (xs := t397) (by refine pS ?_; refine Kd.S_mono (ok := fun k_ => True ∧ k_ ≠ gb400) (Kd.S_far (p := ⟨gb400, 1, none⟩) ?_ (fun _ hk => hk.2) _) (fun _ h_ => h_.1); refine pS ?_; refine Kd.S_far (p := ⟨gb400, 0, none⟩) ?_ (fun _ hk => hk.2) _; refine pS ?_; exact Kd.S_types HO399.out BK400.out (by decide)) (Kd.R_base ho17) hb); have n1_ := Aside0.mk (Kd.R_lower ho17 (below_size mG)); have n2_ := Aside0.mk (blk_below (g := gb394) (o := .cells #[.int .i64 a0_0, .slice A0_1 l0_1.length c0_1] 28 (0, 0)) (by refine pK ?_; refine blk_far ?_ NB394_400.out _; refine pK ?_; refine blk_far ?_ NB394_400.out _; refine pK ?_; exact BK394.out) hb); have n3_ := Aside0.mk (blk_below (g := gb395) (o := .cells #[.int .i64 0, .slice none 0 0] 28 (0, 0)) (by refine pK ?_; refine blk_far ?_ NB395_400.out _; refine pK ?_; refine blk_far ?_ NB395_400.out _; refine pK ?_; exact BK395.out) hb); have n4_ := Aside0.mk (blk_below (g := gb400) (o := .cells #[.int .i64 t396, .slice Ao15 t397.length co15] 28 (0, 0)) (by refine pK ?_; refine blk_put (cs := #[.int .i64 t396, .slice none 0 0]) ?_ 1 _ rfl; refine pK ?_; refine blk_put (cs := #[.int .i64 0, .slice none 0 0]) ?_ 0 _ rfl; refine pK ?_; exact BK400.out) hb); have n5_ := Aside0.mk (below_step mG hb); clear HO399 BK394 BK395 BK400 HB; have HO399 := n0_; have HO403 := n1_; have BK394 := n2_; have BK395 := n3_; have BK400 := n4_; have HB := n5_; clear n0_ n1_ n2_ n3_ n4_ n5_; clear hb ho17))
 (try simp only [Act.put, List.setIfInBounds_toArray, List.set_cons_zero, List.set_cons_succ])
 go_cut [10] (fun v10 wc => ∃ (kq : Nat) (x10_4 : Int), v10 = .int .i64 x10_4 ∧ Aside0 (impl_AddAttack.j1 kq y401 x10_4 a0_0 l0_1 t396 t397 = some (r1, r2, r3)) ∧ Aside0 (kq ≤ k) ∧ Aside0 (Kd.R (Kd.int .i64) 3 wc w.heap.size (fun _ => True) v402 y401) ∧ Aside0 (Kd.S (Kd.slice 3 (Kd.int .i64)) 25 wc w.heap.size (fun k_ => True ∧ some k_ ≠ (v402 : Value).ownBlock) (.slice Ao15 t397.length co15) t397) ∧ Aside0 (wc.heap[gb394]? = some (.cells #[.int .i64 a0_0, .slice A0_1 l0_1.length c0_1] 28 (0, 0))) ∧ Aside0 (wc.heap[gb395]? = some (.cells #[.int .i64 0, .slice none 0 0] 28 (0, 0))) ∧ Aside0 (wc.heap[gb400]? = some (.cells #[.int .i64 t396, (.slice Ao15 t397.length co15)] 28 (0, 0))) ∧ Aside0 (Below w.heap.size w wc))
 case first =>
  have H' := Aside0.mk HC5.out
  clear HC5
  go_wp2
  go_loopg [10] k (fun kq v10 w' => ∃ (x10_1 : Int), v10 = .int .i64 x10_1 ∧ Aside0 (impl_AddAttack.l0 kq y401 x10_1 a0_0 l0_1 t396 t397 = some (r1, r2, r3)) ∧ Aside0 (kq ≤ k) ∧ Aside0 (Kd.R (Kd.int .i64) 3 w' w.heap.size (fun _ => True) v402 y401) ∧ Aside0 (Kd.S (Kd.slice 3 (Kd.int .i64)) 25 w' w.heap.size (fun k_ => True ∧ some k_ ≠ (v402 : Value).ownBlock) (.slice Ao15 t397.length co15) t397) ∧ Aside0 (w'.heap[gb394]? = some (.cells #[.int .i64 a0_0, .slice A0_1 l0_1.length c0_1] 28 (0, 0))) ∧ Aside0 (w'.heap[gb395]? = some (.cells #[.int .i64 0, .slice none 0 0] 28 (0, 0))) ∧ Aside0 (w'.heap[gb400]? = some (.cells #[.int .i64 t396, (.slice Ao15 t397.length co15)] 28 (0, 0))) ∧ Aside0 (Below w.heap.size w w'))
  case atStart => exact ⟨(0), mF, H', ⟨Nat.le_refl _⟩, ⟨mR HO403.out⟩, ⟨mS HO399.out⟩, ⟨mK BK394.out⟩, ⟨mK BK395.out⟩, ⟨mK BK400.out⟩, ⟨mG⟩⟩
  case round =>
   clear H'
   (try clear hcz14_0); (try clear hcz14_1); (try clear hcz9_0); (try clear hcz9_1); (try clear hfz14_0); (try clear hfz14_1); (try clear hfz9_0); (try clear hfz9_1)
   obtain ⟨x10_1, rfl, HA, HK1, HO_9, HO_S, BK394, BK395, BK400, HB⟩ := hrel
   cases gk with
   | zero => exact absurd HA.out (by simp [impl_AddAttack.l0])
   | succ k1 =>
    have H := HA.out
    clear HA
    simp only [impl_AddAttack.l0] at H
    have hcz24_0 : wr.cell? ⟨gb400, 0, none⟩ = some (.int .i64 t396) := (blk_cell BK400.out 0).trans rfl
    have hcz24_1 : wr.cell? ⟨gb400, 1, none⟩ = some (.slice Ao15 t397.length co15) := (blk_cell BK400.out 1).trans rfl
    have hfz24_0 := blk_frozen BK400.out 0
    have hfz24_1 := blk_frozen BK400.out 1
    by_cases c18 : x10_1 < (t397.length : Int)
    rotate_left
    ·
     rw [if_neg c18] at H
     have c18b0 : decide (x10_1 < (t397.length : Int)) = false := decide_eq_false c18
     clear c18
     (first | rw [c18b0] | (simp only [i64_w, i32_w]; rw [c18b0]) | skip)
     have H' := Aside0.mk H
     clear H
     go_wp2
     go_meet
     case rel => exact ⟨_, (x10_1), mF, H', ⟨by have := HK1.out; first | omega | exact Nat.le_refl _⟩, ⟨mR HO_9.out⟩, ⟨mS HO_S.out⟩, ⟨mK BK394.out⟩, ⟨mK BK395.out⟩, ⟨mK BK400.out⟩, ⟨mG⟩⟩
    rw [if_pos c18] at H
    have c18b0 : decide (x10_1 < (t397.length : Int)) = true := decide_eq_true c18
    clear c18
    (first | rw [c18b0] | (simp only [i64_w, i32_w]; rw [c18b0]) | skip)
    by_cases c19 : 0 ≤ x10_1
    rotate_left
    ·
     rw [if_neg c19] at H
     exact absurd H (by simp)
    rw [if_pos c19] at H
    have c19b0 : decide (0 ≤ x10_1) = true := decide_eq_true c19
    clear c19
    obtain ⟨t405, A200, H⟩ := Option.bind_eq_some_iff.mp H
    have A20 := Aside0.mk A200
    clear A200
    have p404 : 0 ≤ (x10_1 : Int) := mD
    have q404 : x10_1 < (t397.length : Int) := mD
    obtain ⟨ad404, A404_0, c404_0, e404, hx404_0, hl404_0, hi404_0⟩ := at_L1 (Kd.S_reads' HO_S.out).2.2 x10_1 p404 q404
    cases e404
    have HR404_0 := Aside0.mk hi404_0
    have HC404_0 := Aside0.mk hl404_0
    clear hi404_0 hl404_0
    replace p404 := eq_true p404
    replace q404 := eq_true q404
    obtain ⟨Ao25, co25, eo25⟩ := Kd.R_slice HO_9.out
    subst eo25
    by_cases c21 : t405 < 0
    rotate_left
    ·
     rw [if_neg c21] at H
     have c21b0 : decide (t405 < 0) = false := decide_eq_false c21
     clear c21
     have H' := Aside0.mk H
     clear H
     go_wp2_with (go_at_call 95; (with_reducible refine (slices_Compare_int_int.calls k1 _ _ (rd_L1 t397 x10_1) _ _ y401 t405 _ ?side1 ?side2 ?side3 ?side4 A20.out).mono ?_); (case side1 => exact (mC HR404_0.out)); (case side2 => exact HC404_0.out); (case side3 => exact mC (Kd.R_reads' HO_9.out).2.2); (case side4 => exact (Kd.R_reads' HO_9.out).2.1); rintro e w' ⟨rfl, ⟨nd, rfl⟩⟩)
     go_meet
     case rel => exact ⟨_, (x10_1), mF, H', ⟨by have := HK1.out; first | omega | exact Nat.le_refl _⟩, ⟨mR HO_9.out⟩, ⟨mS HO_S.out⟩, ⟨mK BK394.out⟩, ⟨mK BK395.out⟩, ⟨mK BK400.out⟩, ⟨mG⟩⟩
    rw [if_pos c21] at H
    have c21b0 : decide (t405 < 0) = true := decide_eq_true c21
    clear c21
    have H' := Aside0.mk H
    clear H
    go_wp2_with (go_at_call 95; (with_reducible refine (slices_Compare_int_int.calls k1 _ _ (rd_L1 t397 x10_1) _ _ y401 t405 _ ?side1 ?side2 ?side3 ?side4 A20.out).mono ?_); (case side1 => exact (mC HR404_0.out)); (case side2 => exact HC404_0.out); (case side3 => exact mC (Kd.R_reads' HO_9.out).2.2); (case side4 => exact (Kd.R_reads' HO_9.out).2.1); rintro e w' ⟨rfl, ⟨nd, rfl⟩⟩)
    go_roundg k1
    case measure => have := HK1.out; omega
    case rel => exact ⟨(wrap64 (x10_1 + 1)), mF, H', ⟨by have := HK1.out; omega⟩, ⟨mR HO_9.out⟩, ⟨mS HO_S.out⟩, ⟨mK BK394.out⟩, ⟨mK BK395.out⟩, ⟨mK BK400.out⟩, ⟨mG⟩⟩
 case rest =>
  clear HC5; (try clear hcz14_0); (try clear hcz14_1); (try clear hfz14_0); (try clear hfz14_1); (try clear hcz9_0); (try clear hcz9_1); (try clear hfz9_0); (try clear hfz9_1)
  obtain ⟨kq, x10_4, rfl, HA, HJ4, HO_9, HO_S, BK394, BK395, BK400, HB⟩ := hcut
  cases kq with
  | zero => exact absurd HA.out (by simp [impl_AddAttack.j1])
  | succ kj4 =>
   have H := HA.out
   clear HA
   simp only [impl_AddAttack.j1] at H
   obtain ⟨t409, A330, H⟩ := Option.bind_eq_some_iff.mp H
   obtain ⟨t412, A340, H⟩ := Option.bind_eq_some_iff.mp H
   have A34 := Aside0.mk A340
   clear A340
   unfold impl_AddAttack.ins at A330
   by_cases ci : 0 ≤ x10_4 ∧ x10_4 ≤ (t397.length : Int) ∧ t397.length < 5000000000000
   rotate_left
   ·
    rw [if_neg ci] at A330; cases A330
   rw [if_pos ci] at A330
   obtain ⟨ci0, ci1, ci2⟩ := ci
   obtain ⟨i, rfl⟩ : ∃ i : Nat, x10_4 = (i : Int) := ⟨x10_4.toNat, by omega⟩
   rw [Int.toNat_natCast] at A330
   have NI := Aside0.mk (Option.some.inj A330)
   clear A330
   have CI := Aside0.mk (show i ≤ t397.length by omega)
   have CL := Aside0.mk (show (t397.length + 1) * 24 ≤ 140737488355328 by omega)
   clear ci0 ci1 ci2
   have hnb36 := NB400_394.out
   have hnc36 := NB394_400.out
   have hnb37 := NB400_395.out
   have hnc37 := NB395_400.out
   have hcz38_0 : wc.cell? ⟨gb400, 0, none⟩ = some (.int .i64 t396) := (blk_cell BK400.out 0).trans rfl
   have hcz38_1 : wc.cell? ⟨gb400, 1, none⟩ = some (.slice Ao15 t397.length co15) := (blk_cell BK400.out 1).trans rfl
   have hfz38_0 := blk_frozen BK400.out 0
   have hfz38_1 := blk_frozen BK400.out 1
   obtain ⟨Ao39, co39, eo39⟩ := Kd.R_slice HO_9.out
   subst eo39
   by_cases c35 : t412 = true
   ·
    subst c35
    rw [if_pos rfl] at H
    simp only [Option.some.injEq, Prod.mk.injEq] at H
    obtain ⟨rfl, rfl, rfl⟩ := H
    go_wp2_with (first | ((with_reducible refine gate_callee (f := 96) rfl ?_); refine goesL_ (some 38) rfl rfl Try.func96 (by kernel_rfl) rfl #[.slice Ao15 t397.length co15, .int .i64 (i : Int), .slice (some ⟨wc.heap.size, 0, none⟩) 1 1] rfl mA ?_; (refine (Go.Proofs.YtelkfhlnejlheaaW.Insert.ins_S (d := Kd.slice 3 (Kd.int .i64)) (w0 := w) (B := w.heap.size) (ok := fun _ => True) (okp := fun k_ => some k_ = (.slice Ao39 y401.length co39 : Value).ownBlock) (p := y401) rfl (mS HO_S.out) (.slice Ao39 y401.length co39) ⟨_, rfl, Kd.R_tight rfl (mR HO_9.out)⟩ (fun k_ hk_ => ⟨trivial, fun e_ => by obtain ⟨_, h1_⟩ := Kd.R_typed HO_9.out k_ hk_.symm; obtain ⟨_, h2_⟩ := Kd.S_typed HO_S.out k_ e_.symm; rw [h1_] at h2_; cases h2_⟩) (fun _ _ => trivial) wc.heap.size (heap_alloc_new wc _) (fun e_ => Nat.lt_irrefl _ (Kd.S_lt HO_S.out _ e_.symm)) mG (below_size mG) i CI.out CL.out).mono ?_); rintro e w2 ⟨v1, rfl, hS_, hb, hg_⟩; refine ⟨_, rfl, ?_⟩; rw [NI.out] at hS_; have HO411 := Aside0.mk hS_; have n1_ := Aside0.mk (blk_grown (mK BK394.out) hg_ (Kd.S_ne HO_S.out BK394.out (by decide))); have n2_ := Aside0.mk (blk_grown (mK BK395.out) hg_ (Kd.S_ne HO_S.out BK395.out (by decide))); have n3_ := Aside0.mk (blk_grown (mK BK400.out) hg_ (Kd.S_ne HO_S.out BK400.out (by decide))); clear BK394 BK395 BK400 HB HO_S HO_9; have BK394 := n1_; have BK395 := n2_; have BK400 := n3_; have HB := Aside0.mk hb; clear n1_ n2_ n3_ hb hg_ hS_; have hcz44_0 : w2.cell? ⟨gb400, 0, none⟩ = some (.int .i64 t396) := (blk_cell BK400.out 0).trans rfl; have hcz44_1 : w2.cell? ⟨gb400, 1, none⟩ = some (.slice Ao15 t397.length co15) := (blk_cell BK400.out 1).trans rfl; have hfz44_0 := blk_frozen BK400.out 0; have hfz44_1 := blk_frozen BK400.out 1; obtain ⟨Ao44, co44, eo44⟩ := Kd.S_slice HO411.out; subst eo44) | ((with_reducible refine gate_callee (f := 49) rfl ?_); refine goesL_ (some 41) rfl rfl Try.func49 (by kernel_rfl) rfl #[.agg #[.int .i64 t396, .slice Ao44 t409.length co44]] rfl mA ?_; (with_reducible refine (impl_IsGraph.calls kj4 t396 _ _ t409 true _ ?side1 ?side2 A34.out).mono ?_); (case side1 => refine (Kd.S_reads' (e := 25) (base := w.heap.size) (ok := fun _ => True) (n := t409.length) (c := co44) ?_).2.2; exact (by refine pS ?_; refine Kd.S_mono (ok := fun k_ => True ∧ k_ ≠ gb400) (Kd.S_far (p := ⟨gb400, 1, none⟩) ?_ (fun _ hk => hk.2) _) (fun _ h_ => h_.1); refine pS ?_; exact Kd.S_types HO411.out BK400.out (by decide))); (case side2 => exact (Kd.S_reads' HO411.out).2.1); rintro e w46 ⟨rfl, hb⟩; refine ⟨_, rfl, ?_⟩; have n0_ := Aside0.mk (Kd.S_below (d := Kd.slice 3 (Kd.int .i64)) (e := 25) (base := w.heap.size) (ok := fun _ => True) (v := .slice Ao44 t409.length co44) (xs := t409) (by refine pS ?_; refine Kd.S_mono (ok := fun k_ => True ∧ k_ ≠ gb400) (Kd.S_far (p := ⟨gb400, 1, none⟩) ?_ (fun _ hk => hk.2) _) (fun _ h_ => h_.1); refine pS ?_; exact Kd.S_types HO411.out BK400.out (by decide)) hb); have n1_ := Aside0.mk (blk_below (g := gb394) (o := .cells #[.int .i64 a0_0, .slice A0_1 l0_1.length c0_1] 28 (0, 0)) (by refine pK ?_; refine blk_far ?_ NB394_400.out _; refine pK ?_; exact BK394.out) hb); have n2_ := Aside0.mk (blk_below (g := gb395) (o := .cells #[.int .i64 0, .slice none 0 0] 28 (0, 0)) (by refine pK ?_; refine blk_far ?_ NB395_400.out _; refine pK ?_; exact BK395.out) hb); have n3_ := Aside0.mk (blk_below (g := gb400) (o := (.cells #[.int .i64 t396, .slice Ao44 t409.length co44] 28 (0, 0))) (by refine pK ?_; refine blk_put (cs := #[.int .i64 t396, .slice Ao15 t397.length co15]) ?_ 1 _ rfl; refine pK ?_; exact BK400.out) hb); have n4_ := Aside0.mk (below_step mG hb); clear HO411 BK394 BK395 BK400 HB; have HO411 := n0_; have BK394 := n1_; have BK395 := n2_; have BK400 := n3_; have HB := n4_; clear n0_ n1_ n2_ n3_ n4_; (try clear hb); have hcz47_0 : w46.cell? ⟨gb400, 0, none⟩ = some (.int .i64 t396) := (blk_cell BK400.out 0).trans rfl; have hcz47_1 : w46.cell? ⟨gb400, 1, none⟩ = some (.slice Ao44 t409.length co44) := (blk_cell BK400.out 1).trans rfl; have hfz47_0 := blk_frozen BK400.out 0; have hfz47_1 := blk_frozen BK400.out 1; have hnb48 := NB395_394.out; have hnc48 := NB394_395.out; have hcz49_0 : w46.cell? ⟨gb395, 0, none⟩ = some (.int .i64 0) := (blk_cell BK395.out 0).trans rfl; have hcz49_1 : w46.cell? ⟨gb395, 1, none⟩ = some (.slice none 0 0) := (blk_cell BK395.out 1).trans rfl; have hfz49_0 := blk_frozen BK395.out 0; have hfz49_1 := blk_frozen BK395.out 1; have hcz50_0 : w46.cell? ⟨gb394, 0, none⟩ = some (.int .i64 a0_0) := (blk_cell BK394.out 0).trans rfl; have hcz50_1 : w46.cell? ⟨gb394, 1, none⟩ = some (.slice A0_1 l0_1.length c0_1) := (blk_cell BK394.out 1).trans rfl; have hfz50_0 := blk_frozen BK394.out 0; have hfz50_1 := blk_frozen BK394.out 1))
    refine bodyPost_ret (results_ct rfl _ _ gb395 28 #[.int .i64 t396, .slice Ao44 t409.length co44] (0, 0) _ rfl (by refine pK ?_; refine blk_put (cs := #[.int .i64 t396, .slice none 0 0]) ?_ 1 _ rfl; refine pK ?_; refine blk_put (cs := #[.int .i64 0, .slice none 0 0]) ?_ 0 _ rfl; refine pK ?_; exact BK395.out) Try.underlying28 rfl (by kernel_rfl)) rfl ?_
    exact ⟨_, mE, (by refine pS ?_; refine Kd.S_mono (ok := fun k_ => True ∧ k_ ≠ gb395) (Kd.S_far (p := ⟨gb395, 1, none⟩) ?_ (fun _ hk => hk.2) _) (fun _ h_ => h_.1); refine pS ?_; refine Kd.S_far (p := ⟨gb395, 0, none⟩) ?_ (fun _ hk => hk.2) _; refine pS ?_; exact Kd.S_types HO411.out BK395.out (by decide)), mG⟩
   replace c35 := Bool.eq_false_iff.mpr c35
   subst c35
   rw [if_neg (show ¬ (false = true) by decide)] at H
   obtain ⟨⟨t413, t414⟩, A500, H⟩ := Option.bind_eq_some_iff.mp H
   try dsimp only at H
   have A50 := Aside0.mk A500
   clear A500
   simp only [Option.some.injEq, Prod.mk.injEq] at H
   obtain ⟨rfl, rfl, rfl⟩ := H
   go_wp2_with (first | ((with_reducible refine gate_callee (f := 96) rfl ?_); refine goesL_ (some 38) rfl rfl Try.func96 (by kernel_rfl) rfl #[.slice Ao15 t397.length co15, .int .i64 (i : Int), .slice (some ⟨wc.heap.size, 0, none⟩) 1 1] rfl mA ?_; (refine (Go.Proofs.YtelkfhlnejlheaaW.Insert.ins_S (d := Kd.slice 3 (Kd.int .i64)) (w0 := w) (B := w.heap.size) (ok := fun _ => True) (okp := fun k_ => some k_ = (.slice Ao39 y401.length co39 : Value).ownBlock) (p := y401) rfl (mS HO_S.out) (.slice Ao39 y401.length co39) ⟨_, rfl, Kd.R_tight rfl (mR HO_9.out)⟩ (fun k_ hk_ => ⟨trivial, fun e_ => by obtain ⟨_, h1_⟩ := Kd.R_typed HO_9.out k_ hk_.symm; obtain ⟨_, h2_⟩ := Kd.S_typed HO_S.out k_ e_.symm; rw [h1_] at h2_; cases h2_⟩) (fun _ _ => trivial) wc.heap.size (heap_alloc_new wc _) (fun e_ => Nat.lt_irrefl _ (Kd.S_lt HO_S.out _ e_.symm)) mG (below_size mG) i CI.out CL.out).mono ?_); rintro e w2 ⟨v1, rfl, hS_, hb, hg_⟩; refine ⟨_, rfl, ?_⟩; rw [NI.out] at hS_; have HO411 := Aside0.mk hS_; have n1_ := Aside0.mk (blk_grown (mK BK394.out) hg_ (Kd.S_ne HO_S.out BK394.out (by decide))); have n2_ := Aside0.mk (blk_grown (mK BK395.out) hg_ (Kd.S_ne HO_S.out BK395.out (by decide))); have n3_ := Aside0.mk (blk_grown (mK BK400.out) hg_ (Kd.S_ne HO_S.out BK400.out (by decide))); clear BK394 BK395 BK400 HB HO_S HO_9; have BK394 := n1_; have BK395 := n2_; have BK400 := n3_; have HB := Aside0.mk hb; clear n1_ n2_ n3_ hb hg_ hS_; have hcz44_0 : w2.cell? ⟨gb400, 0, none⟩ = some (.int .i64 t396) := (blk_cell BK400.out 0).trans rfl; have hcz44_1 : w2.cell? ⟨gb400, 1, none⟩ = some (.slice Ao15 t397.length co15) := (blk_cell BK400.out 1).trans rfl; have hfz44_0 := blk_frozen BK400.out 0; have hfz44_1 := blk_frozen BK400.out 1; obtain ⟨Ao44, co44, eo44⟩ := Kd.S_slice HO411.out; subst eo44) | ((with_reducible refine gate_callee (f := 49) rfl ?_); refine goesL_ (some 41) rfl rfl Try.func49 (by kernel_rfl) rfl #[.agg #[.int .i64 t396, .slice Ao44 t409.length co44]] rfl mA ?_; (with_reducible refine (impl_IsGraph.calls kj4 t396 _ _ t409 false _ ?side1 ?side2 A34.out).mono ?_); (case side1 => refine (Kd.S_reads' (e := 25) (base := w.heap.size) (ok := fun _ => True) (n := t409.length) (c := co44) ?_).2.2; exact (by refine pS ?_; refine Kd.S_mono (ok := fun k_ => True ∧ k_ ≠ gb400) (Kd.S_far (p := ⟨gb400, 1, none⟩) ?_ (fun _ hk => hk.2) _) (fun _ h_ => h_.1); refine pS ?_; exact Kd.S_types HO411.out BK400.out (by decide))); (case side2 => exact (Kd.S_reads' HO411.out).2.1); rintro e w46 ⟨rfl, hb⟩; refine ⟨_, rfl, ?_⟩; have n0_ := Aside0.mk (Kd.S_below (d := Kd.slice 3 (Kd.int .i64)) (e := 25) (base := w.heap.size) (ok := fun _ => True) (v := .slice Ao44 t409.length co44) (xs := t409) (by refine pS ?_; refine Kd.S_mono (ok := fun k_ => True ∧ k_ ≠ gb400) (Kd.S_far (p := ⟨gb400, 1, none⟩) ?_ (fun _ hk => hk.2) _) (fun _ h_ => h_.1); refine pS ?_; exact Kd.S_types HO411.out BK400.out (by decide)) hb); have n1_ := Aside0.mk (blk_below (g := gb394) (o := .cells #[.int .i64 a0_0, .slice A0_1 l0_1.length c0_1] 28 (0, 0)) (by refine pK ?_; refine blk_far ?_ NB394_400.out _; refine pK ?_; exact BK394.out) hb); have n2_ := Aside0.mk (blk_below (g := gb395) (o := .cells #[.int .i64 0, .slice none 0 0] 28 (0, 0)) (by refine pK ?_; refine blk_far ?_ NB395_400.out _; refine pK ?_; exact BK395.out) hb); have n3_ := Aside0.mk (blk_below (g := gb400) (o := (.cells #[.int .i64 t396, .slice Ao44 t409.length co44] 28 (0, 0))) (by refine pK ?_; refine blk_put (cs := #[.int .i64 t396, .slice Ao15 t397.length co15]) ?_ 1 _ rfl; refine pK ?_; exact BK400.out) hb); have n4_ := Aside0.mk (below_step mG hb); clear HO411 BK394 BK395 BK400 HB; have HO411 := n0_; have BK394 := n1_; have BK395 := n2_; have BK400 := n3_; have HB := n4_; clear n0_ n1_ n2_ n3_ n4_; (try clear hb); have hcz47_0 : w46.cell? ⟨gb400, 0, none⟩ = some (.int .i64 t396) := (blk_cell BK400.out 0).trans rfl; have hcz47_1 : w46.cell? ⟨gb400, 1, none⟩ = some (.slice Ao44 t409.length co44) := (blk_cell BK400.out 1).trans rfl; have hfz47_0 := blk_frozen BK400.out 0; have hfz47_1 := blk_frozen BK400.out 1; have hnb48 := NB395_394.out; have hnc48 := NB394_395.out; have hcz49_0 : w46.cell? ⟨gb395, 0, none⟩ = some (.int .i64 0) := (blk_cell BK395.out 0).trans rfl; have hcz49_1 : w46.cell? ⟨gb395, 1, none⟩ = some (.slice none 0 0) := (blk_cell BK395.out 1).trans rfl; have hfz49_0 := blk_frozen BK395.out 0; have hfz49_1 := blk_frozen BK395.out 1; have hcz50_0 : w46.cell? ⟨gb394, 0, none⟩ = some (.int .i64 a0_0) := (blk_cell BK394.out 0).trans rfl; have hcz50_1 : w46.cell? ⟨gb394, 1, none⟩ = some (.slice A0_1 l0_1.length c0_1) := (blk_cell BK394.out 1).trans rfl; have hfz50_0 := blk_frozen BK394.out 0; have hfz50_1 := blk_frozen BK394.out 1) | ((with_reducible refine gate_callee (f := 94) rfl ?_); refine goesL_ (some 44) rfl rfl Try.func94 (by kernel_rfl) rfl #[.agg #[.int .i64 a0_0, .slice A0_1 l0_1.length c0_1]] rfl mA ?_; (with_reducible refine (impl_cloneGraph.calls kj4 a0_0 _ _ l0_1 t413 t414 _ ?side1 ?side2 A50.out).mono ?_); (case side1 => exact mC (Kd.C_below HR0_1.out HB.out)); (case side2 => exact HC0_1.out); rintro e w64 ⟨v415, rfl, ho0, hb⟩; refine ⟨_, rfl, ?_⟩; have HO416 := Aside0.mk (Kd.S_lower ho0 (below_size mG)); have n2_ := Aside0.mk (blk_below (g := gb395) (o := .cells #[.int .i64 0, .slice none 0 0] 28 (0, 0)) (mK BK395.out) hb); have n4_ := Aside0.mk (below_step mG hb); clear BK395 HB; have BK395 := n2_; have HB := n4_; clear n2_ n4_; (try clear hb); (try clear ho0); have hcz65_0 : w64.cell? ⟨gb395, 0, none⟩ = some (.int .i64 0) := (blk_cell BK395.out 0).trans rfl; have hcz65_1 : w64.cell? ⟨gb395, 1, none⟩ = some (.slice none 0 0) := (blk_cell BK395.out 1).trans rfl; have hfz65_0 := blk_frozen BK395.out 0; have hfz65_1 := blk_frozen BK395.out 1; obtain ⟨Ao66, co66, eo66⟩ := Kd.S_slice HO416.out; subst eo66))
   refine bodyPost_ret (results_ct rfl _ _ gb395 28 #[.int .i64 t413, .slice Ao66 t414.length co66] (0, 0) _ rfl (by refine pK ?_; refine blk_put (cs := #[.int .i64 t413, .slice none 0 0]) ?_ 1 _ rfl; refine pK ?_; refine blk_put (cs := #[.int .i64 0, .slice none 0 0]) ?_ 0 _ rfl; refine pK ?_; exact BK395.out) Try.underlying28 rfl (by kernel_rfl)) rfl ?_
   exact ⟨_, mE, (by refine pS ?_; refine Kd.S_mono (ok := fun k_ => True ∧ k_ ≠ gb395) (Kd.S_far (p := ⟨gb395, 1, none⟩) ?_ (fun _ hk => hk.2) _) (fun _ h_ => h_.1); refine pS ?_; refine Kd.S_far (p := ⟨gb395, 0, none⟩) ?_ (fun _ hk => hk.2) _; refine pS ?_; exact Kd.S_types HO416.out BK395.out (by decide)), mG⟩
/-! ### slices_Index_int_int: function 114 -/
def slices_Index_int_int.l0 : Nat → List Int → Int → Int → Int → Option (Int)
 | 0, _, _, _, _ => none
 | k + 1, x0, x1, x7, x8 => if x8 < x7 then (if 0 ≤ x8 then (if x8 < (x0.length : Int) then (if x1 = (rd x0 x8) then (some x8) else (slices_Index_int_int.l0 k x0 x1 x7 (wrap64 (x8 + 1)))) else (none)) else (none)) else (some (-1))
def slices_Index_int_int.f (k : Nat) (l0 : List Int) (a1 : Int) : Option (Int) := slices_Index_int_int.l0 k l0 a1 (l0.length : Int) 0
theorem slices_Index_int_int.mono_l : ∀ k, (∀ y0 y1 y2 y3, LeO (slices_Index_int_int.l0 k y0 y1 y2 y3) (slices_Index_int_int.l0 (k + 1) y0 y1 y2 y3))
 | 0 => fun _ _ _ _ r h => by simp [slices_Index_int_int.l0] at h
 | k + 1 => by
  have ih0 := slices_Index_int_int.mono_l k
  ·
   intro y0 y1 y2 y3
   unfold slices_Index_int_int.l0
   repeat' with_reducible first | exact ih0 _ _ _ _ | exact LeO.refl _ | exact LeO.none _ | refine LeO.ite ?_ ?_ | refine LeO.bind ?_ (fun _ => ?_)
theorem slices_Index_int_int.mono : ∀ a0 a1 k, LeO (slices_Index_int_int.f k a0 a1) (slices_Index_int_int.f (k + 1) a0 a1) := by
 intro a0 a1 k
 have ih0 := slices_Index_int_int.mono_l k
 unfold slices_Index_int_int.f
 repeat' with_reducible first | exact ih0 _ _ _ _ | exact LeO.refl _ | exact LeO.none _ | refine LeO.ite ?_ ?_ | refine LeO.bind ?_ (fun _ => ?_)
set_option maxHeartbeats 8000000 in
set_option maxRecDepth 100000 in
theorem slices_Index_int_int.calls (k : Nat) (A0 : Option Addr) (c0 : Nat) (l0 : List Int) (a1 : Int) (r : Int) (w : World) (hr0 : Kd.C (Kd.int .i64) w A0 l0.length l0) (hc0 : l0.length ≤ c0) (h : slices_Index_int_int.f k l0 a1 = some r) :
  Calls Try.prog 114 #[.slice A0 l0.length c0, .int .i64 a1] w fun e w' => e = .returned (.int .i64 r) ∧ Drawn0 w w' := by
 have HR0 := Aside0.mk hr0
 have HC0 := Aside0.mk hc0
 clear hr0 hc0
 have H : (slices_Index_int_int.l0 k l0 a1 (l0.length : Int) 0) = some r := h
 clear h
 have H' := Aside0.mk H
 clear H
 go_enter Try.func114, Try.ntmps114
 go_wp2
 go_loopg [8] k (fun kq v8 w' => ∃ (x8_1 : Int), v8 = .int .i64 x8_1 ∧ Aside0 (slices_Index_int_int.l0 kq l0 a1 (l0.length : Int) x8_1 = some r) ∧ Aside0 (kq ≤ k) ∧ Drawn0 w w')
 case atStart => exact ⟨(0), mF, H', ⟨Nat.le_refl _⟩, by repeat (first | exact Drawn0.refl _ | apply Drawn0.step)⟩
 case round =>
  clear H'
  obtain ⟨x8_1, rfl, HA, HK1, ⟨m1, rfl⟩⟩ := hrel
  cases gk with
  | zero => exact absurd HA.out (by simp [slices_Index_int_int.l0])
  | succ k1 =>
   have H := HA.out
   clear HA
   simp only [slices_Index_int_int.l0] at H
   by_cases c3 : x8_1 < (l0.length : Int)
   rotate_left
   ·
    rw [if_neg c3] at H
    have c3b0 : decide (x8_1 < (l0.length : Int)) = false := decide_eq_false c3
    clear c3
    obtain rfl := Option.some.inj H
    go_wp2
    go_ret
    exact ⟨mF, by repeat (first | exact Drawn0.refl _ | apply Drawn0.step)⟩
   rw [if_pos c3] at H
   have c3b0 : decide (x8_1 < (l0.length : Int)) = true := decide_eq_true c3
   clear c3
   by_cases c4 : 0 ≤ x8_1
   rotate_left
   ·
    rw [if_neg c4] at H
    exact absurd H (by simp)
   rw [if_pos c4] at H
   have c4b0 : decide (0 ≤ x8_1) = true := decide_eq_true c4
   clear c4
   by_cases c5 : x8_1 < (l0.length : Int)
   rotate_left
   ·
    rw [if_neg c5] at H
    exact absurd H (by simp)
   rw [if_pos c5] at H
   have c5b0 : decide (x8_1 < (l0.length : Int)) = true := decide_eq_true c5
   clear c5
   by_cases c6 : a1 = (rd l0 x8_1)
   ·
    rw [if_pos c6] at H
    have c6b0 : (a1 == (rd l0 x8_1)) = true := beq_iff_eq.mpr c6
    have c6b1 : (a1 != (rd l0 x8_1)) = false := bne_eq_false_iff_eq.mpr c6
    clear c6
    obtain rfl := Option.some.inj H
    have p398 : 0 ≤ (x8_1 : Int) := mD
    have q398 : x8_1 < (l0.length : Int) := mD
    obtain ⟨ad398, e398, hx398_0⟩ := Kd.at_int HR0.out x8_1 p398 q398
    cases e398
    replace p398 := eq_true p398
    replace q398 := eq_true q398
    go_wp2
    go_ret
    exact ⟨mF, by repeat (first | exact Drawn0.refl _ | apply Drawn0.step)⟩
   rw [if_neg c6] at H
   have c6b0 : (a1 == (rd l0 x8_1)) = false := beq_eq_false_iff_ne.mpr c6
   have c6b1 : (a1 != (rd l0 x8_1)) = true := bne_iff_ne.mpr c6
   have H' := Aside0.mk H
   clear H
   have p398 : 0 ≤ (x8_1 : Int) := mD
   have q398 : x8_1 < (l0.length : Int) := mD
   obtain ⟨ad398, e398, hx398_0⟩ := Kd.at_int HR0.out x8_1 p398 q398
   cases e398
   replace p398 := eq_true p398
   replace q398 := eq_true q398
   go_wp2
   go_roundg k1
   case measure => have := HK1.out; omega
   case rel => exact ⟨(wrap64 (x8_1 + 1)), mF, H', ⟨by have := HK1.out; omega⟩, by repeat (first | exact Drawn0.refl _ | apply Drawn0.step)⟩
/-! ### slices_Contains_int_int: function 84 -/
def slices_Contains_int_int.f (k : Nat) (l0 : List Int) (a1 : Int) : Option (Bool) := (slices_Index_int_int.f k l0 a1).bind fun t399 => (some (decide (t399 ≥ 0)))
theorem slices_Contains_int_int.mono : ∀ a0 a1 k, LeO (slices_Contains_int_int.f k a0 a1) (slices_Contains_int_int.f (k + 1) a0 a1) := by
 intro a0 a1 k
 unfold slices_Contains_int_int.f
 repeat' with_reducible first | exact slices_Index_int_int.mono _ _ _ | exact LeO.refl _ | exact LeO.none _ | refine LeO.ite ?_ ?_ | refine LeO.bind ?_ (fun _ => ?_)
set_option maxHeartbeats 8000000 in
set_option maxRecDepth 100000 in
theorem slices_Contains_int_int.calls (k : Nat) (A0 : Option Addr) (c0 : Nat) (l0 : List Int) (a1 : Int) (r : Bool) (w : World) (hr0 : Kd.C (Kd.int .i64) w A0 l0.length l0) (hc0 : l0.length ≤ c0) (h : slices_Contains_int_int.f k l0 a1 = some r) :
  Calls Try.prog 84 #[.slice A0 l0.length c0, .int .i64 a1] w fun e w' => e = .returned (.bool r) ∧ Drawn0 w w' := by
 have HR0 := Aside0.mk hr0
 have HC0 := Aside0.mk hc0
 clear hr0 hc0
 have H : ((slices_Index_int_int.f k l0 a1).bind fun t399 => (some (decide (t399 ≥ 0)))) = some r := h
 clear h
 replace H := Option.bind_eq_some_iff.mp H
 obtain ⟨t399, A30, H⟩ := H
 have A3 := Aside0.mk A30
 clear A30
 obtain rfl := Option.some.inj H
 go_enter Try.func84, Try.ntmps84
 go_wp2_with (first | ((with_reducible refine gate_callee (f := 114) rfl ?_); refine goesL_ (some 7) rfl rfl Try.func114 (by kernel_rfl) rfl #[.slice A0 l0.length c0, .int .i64 a1] rfl mA ?_; (with_reducible refine (slices_Index_int_int.calls k _ _ l0 a1 t399 _ ?side1 ?side2 A3.out).mono ?_); (case side1 => exact mC HR0.out); (case side2 => exact HC0.out); rintro e w' ⟨rfl, ⟨nd, rfl⟩⟩; refine ⟨_, rfl, ?_⟩))
 go_ret
 exact ⟨mF, by repeat (first | exact Drawn0.refl _ | apply Drawn0.step)⟩

/-! ### impl_DoesAttack: function 50 -/
def impl_DoesAttack.f (k : Nat) (a0_0 : Int) (l0_1 : List (List Int)) (a1 : Int) (a2 : Int) : Option (Bool) := (impl_VictimsOf.f k a0_0 l0_1 a1).bind fun t401 => ((slices_Contains_int_int.f k t401 a2).bind fun t404 => (some t404))
theorem impl_DoesAttack.mono : ∀ a0 a1 a2 a3 k, LeO (impl_DoesAttack.f k a0 a1 a2 a3) (impl_DoesAttack.f (k + 1) a0 a1 a2 a3) := by
 intro a0 a1 a2 a3 k
 unfold impl_DoesAttack.f
 repeat' with_reducible first | exact impl_VictimsOf.mono _ _ _ _ | exact slices_Contains_int_int.mono _ _ _ | exact LeO.refl _ | exact LeO.none _ | refine LeO.ite ?_ ?_ | refine LeO.bind ?_ (fun _ => ?_)
set_option maxHeartbeats 8000000 in
set_option maxRecDepth 100000 in
theorem impl_DoesAttack.calls (k : Nat) (a0_0 : Int) (A0_1 : Option Addr) (c0_1 : Nat) (l0_1 : List (List Int)) (a1 : Int) (a2 : Int) (r : Bool) (w : World) (hr0_1 : Kd.C (Kd.slice 3 (Kd.int .i64)) w A0_1 l0_1.length l0_1) (hc0_1 : l0_1.length ≤ c0_1) (h : impl_DoesAttack.f k a0_0 l0_1 a1 a2 = some r) :
  Calls Try.prog 50 #[.agg #[.int .i64 a0_0, .slice A0_1 l0_1.length c0_1], .int .i64 a1, .int .i64 a2] w fun e w' => e = .returned (.bool r) ∧ Below w.heap.size w w' := by
 have hu28 := Try.underlying28
 have HR0_1 := Aside0.mk hr0_1
 have HC0_1 := Aside0.mk hc0_1
 clear hr0_1 hc0_1
 have HB := Aside0.mk (Below.refl w.heap.size w)
 have H : ((impl_VictimsOf.f k a0_0 l0_1 a1).bind fun t401 => ((slices_Contains_int_int.f k t401 a2).bind fun t404 => (some t404))) = some r := h
 clear h
 replace H := Option.bind_eq_some_iff.mp H
 obtain ⟨t401, A40, H⟩ := H
 have A4 := Aside0.mk A40
 clear A40
 replace H := Option.bind_eq_some_iff.mp H
 obtain ⟨t404, A50, H⟩ := H
 have A5 := Aside0.mk A50
 clear A50
 obtain rfl := Option.some.inj H
 go_enter Try.func50, Try.ntmps50
 go_wp2_with (first | ((with_reducible refine gate_dst (N := 3) rfl ?_); refine box_event ?hg (N := 3) ?hd (cs := #[.int .i64 a0_0, .slice A0_1 l0_1.length c0_1]) (t := 28) ?hr ?_; (case hd => rfl); (case hg => rfl); (case hr => first | (go_simp; done) | (go_simp; rfl)); intro gb400 hg w6 hbox hb; have n0_ := Aside0.mk (below_step (mB HB.out) hb); have n1_ := Aside0.mk (hbox); have n2_ := Aside0.mk ((by rw [hg]; exact (below_size (mB HB.out)) : w.heap.size ≤ gb400)); have n3_ := Aside0.mk ((by rw [hg]; exact (below_size (mB HB.out)) : w.heap.size ≤ gb400)); clear HB; have HB := n0_; have BK400 := n1_; have GW400 := n2_; have GE400 := n3_; clear n0_ n1_ n2_ n3_; clear hb hbox hg; have hcz7_0 : w6.cell? ⟨gb400, 0, none⟩ = some (.int .i64 a0_0) := (blk_cell BK400.out 0).trans rfl; have hcz7_1 : w6.cell? ⟨gb400, 1, none⟩ = some (.slice A0_1 l0_1.length c0_1) := (blk_cell BK400.out 1).trans rfl; have hfz7_0 := blk_frozen BK400.out 0; have hfz7_1 := blk_frozen BK400.out 1) | ((with_reducible refine gate_callee (f := 53) rfl ?_); refine goesL_ (some 9) rfl rfl Try.func53 (by kernel_rfl) rfl #[.agg #[.int .i64 a0_0, .slice A0_1 l0_1.length c0_1], .int .i64 a1] rfl mA ?_; (with_reducible refine (impl_VictimsOf.calls k a0_0 _ _ l0_1 a1 t401 _ ?side1 ?side2 A4.out).mono ?_); (case side1 => exact mC (Kd.C_below HR0_1.out HB.out)); (case side2 => exact HC0_1.out); rintro e w8 ⟨v402, rfl, ho0, hb⟩; refine ⟨_, rfl, ?_⟩; have n0_ := Aside0.mk (Kd.R_lower ho0 (below_size mG)); have n1_ := Aside0.mk (blk_below (g := gb400) (o := .cells #[.int .i64 a0_0, .slice A0_1 l0_1.length c0_1] 28 (0, 0)) ((mK (BK400.out))) hb); have n2_ := Aside0.mk (below_step mG hb); clear BK400 HB; have HO403 := n0_; have BK400 := n1_; have HB := n2_; clear n0_ n1_ n2_; (try clear hb); (try clear ho0); obtain ⟨Ao9, co9, eo9⟩ := Kd.R_slice HO403.out; subst eo9) | ((with_reducible refine gate_callee (f := 84) rfl ?_); refine goesL_ (some 11) rfl rfl Try.func84 (by kernel_rfl) rfl #[.slice Ao9 t401.length co9, .int .i64 a2] rfl mA ?_; (with_reducible refine (slices_Contains_int_int.calls k _ _ t401 a2 t404 _ ?side1 ?side2 A5.out).mono ?_); (case side1 => exact mC (Kd.R_reads' HO403.out).2.2); (case side2 => exact (Kd.R_reads' HO403.out).2.1); rintro e w' ⟨rfl, ⟨nd, rfl⟩⟩; refine ⟨_, rfl, ?_⟩))
 go_ret
 exact ⟨mE, mG⟩

/-! ### laws_contains: function 51 -/
def laws_contains.l0 : Nat → List Int → Int → Int → Option (Bool)
 | 0, _, _, _ => none
 | k + 1, x0, x1, x5 => if x5 < (x0.length : Int) then (if 0 ≤ x5 then (if (rd x0 x5) = x1 then (some true) else (laws_contains.l0 k x0 x1 (wrap64 (x5 + 1)))) else (none)) else (some false)
def laws_contains.f (k : Nat) (l0 : List Int) (a1 : Int) : Option (Bool) := laws_contains.l0 k l0 a1 0
theorem laws_contains.mono_l : ∀ k, (∀ y0 y1 y2, LeO (laws_contains.l0 k y0 y1 y2) (laws_contains.l0 (k + 1) y0 y1 y2))
 | 0 => fun _ _ _ r h => by simp [laws_contains.l0] at h
 | k + 1 => by
  have ih0 := laws_contains.mono_l k
  ·
   intro y0 y1 y2
   unfold laws_contains.l0
   repeat' with_reducible first | exact ih0 _ _ _ | exact LeO.refl _ | exact LeO.none _ | refine LeO.ite ?_ ?_ | refine LeO.bind ?_ (fun _ => ?_)
theorem laws_contains.mono : ∀ a0 a1 k, LeO (laws_contains.f k a0 a1) (laws_contains.f (k + 1) a0 a1) := by
 intro a0 a1 k
 have ih0 := laws_contains.mono_l k
 unfold laws_contains.f
 repeat' with_reducible first | exact ih0 _ _ _ | exact LeO.refl _ | exact LeO.none _ | refine LeO.ite ?_ ?_ | refine LeO.bind ?_ (fun _ => ?_)
set_option maxHeartbeats 8000000 in
set_option maxRecDepth 100000 in
theorem laws_contains.calls (k : Nat) (A0 : Option Addr) (c0 : Nat) (l0 : List Int) (a1 : Int) (r : Bool) (w : World) (hr0 : Kd.C (Kd.int .i64) w A0 l0.length l0) (hc0 : l0.length ≤ c0) (h : laws_contains.f k l0 a1 = some r) :
  Calls Try.prog 51 #[.slice A0 l0.length c0, .int .i64 a1] w fun e w' => e = .returned (.bool r) ∧ Drawn0 w w' := by
 have HR0 := Aside0.mk hr0
 have HC0 := Aside0.mk hc0
 clear hr0 hc0
 have H : (laws_contains.l0 k l0 a1 0) = some r := h
 clear h
 have H' := Aside0.mk H
 clear H
 go_enter Try.func51, Try.ntmps51
 go_wp2
 go_loopg [5] k (fun kq v5 w' => ∃ (x5_1 : Int), v5 = .int .i64 x5_1 ∧ Aside0 (laws_contains.l0 kq l0 a1 x5_1 = some r) ∧ Aside0 (kq ≤ k) ∧ Drawn0 w w')
 case atStart => exact ⟨(0), mF, H', ⟨Nat.le_refl _⟩, by repeat (first | exact Drawn0.refl _ | apply Drawn0.step)⟩
 case round =>
  clear H'
  obtain ⟨x5_1, rfl, HA, HK1, ⟨m1, rfl⟩⟩ := hrel
  cases gk with
  | zero => exact absurd HA.out (by simp [laws_contains.l0])
  | succ k1 =>
   have H := HA.out
   clear HA
   simp only [laws_contains.l0] at H
   by_cases c3 : x5_1 < (l0.length : Int)
   rotate_left
   ·
    rw [if_neg c3] at H
    have c3b0 : decide (x5_1 < (l0.length : Int)) = false := decide_eq_false c3
    clear c3
    obtain rfl := Option.some.inj H
    go_wp2
    go_ret
    exact ⟨mF, by repeat (first | exact Drawn0.refl _ | apply Drawn0.step)⟩
   rw [if_pos c3] at H
   have c3b0 : decide (x5_1 < (l0.length : Int)) = true := decide_eq_true c3
   clear c3
   by_cases c4 : 0 ≤ x5_1
   rotate_left
   ·
    rw [if_neg c4] at H
    exact absurd H (by simp)
   rw [if_pos c4] at H
   have c4b0 : decide (0 ≤ x5_1) = true := decide_eq_true c4
   clear c4
   by_cases c5 : (rd l0 x5_1) = a1
   ·
    rw [if_pos c5] at H
    have c5b0 : ((rd l0 x5_1) == a1) = true := beq_iff_eq.mpr c5
    have c5b1 : ((rd l0 x5_1) != a1) = false := bne_eq_false_iff_eq.mpr c5
    clear c5
    obtain rfl := Option.some.inj H
    have p405 : 0 ≤ (x5_1 : Int) := mD
    have q405 : x5_1 < (l0.length : Int) := mD
    obtain ⟨ad405, e405, hx405_0⟩ := Kd.at_int HR0.out x5_1 p405 q405
    cases e405
    replace p405 := eq_true p405
    replace q405 := eq_true q405
    go_wp2
    go_ret
    exact ⟨mF, by repeat (first | exact Drawn0.refl _ | apply Drawn0.step)⟩
   rw [if_neg c5] at H
   have c5b0 : ((rd l0 x5_1) == a1) = false := beq_eq_false_iff_ne.mpr c5
   have c5b1 : ((rd l0 x5_1) != a1) = true := bne_iff_ne.mpr c5
   have H' := Aside0.mk H
   clear H
   have p405 : 0 ≤ (x5_1 : Int) := mD
   have q405 : x5_1 < (l0.length : Int) := mD
   obtain ⟨ad405, e405, hx405_0⟩ := Kd.at_int HR0.out x5_1 p405 q405
   cases e405
   replace p405 := eq_true p405
   replace q405 := eq_true q405
   go_wp2
   go_roundg k1
   case measure => have := HK1.out; omega
   case rel => exact ⟨(wrap64 (x5_1 + 1)), mF, H', ⟨by have := HK1.out; omega⟩, by repeat (first | exact Drawn0.refl _ | apply Drawn0.step)⟩
end Go.Proofs.Ytelkfhlnejlheaa.GFnGraphs
